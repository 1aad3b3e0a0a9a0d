/- What the claim's law leans on: the program's functions, what they compute, and the law over plain values; no condition is asked. (Part 4 of 5.) -/
import Derived.Test.YtiplpckgmikmeaaCLawsFnPlusOr3
import Derived.Laws.BitsAllLaws
import Derived.Laws.BitsLemmas
namespace Go.Proofs.Ytiplpckgmikmeaa.M
open Go.RowKit Go.Proofs.YtiplpckgmikmeaaW.PrintWords Go.Proofs.YtiplpckgmikmeaaW.PrintLast Go.Proofs.YtiplpckgmikmeaaW.PrintMore
attribute [local go_sem] max2_int min2_int max_two min_two max_three min_three max_four min_four
set_option linter.unusedVariables false
set_option linter.unusedSimpArgs false

mutual
def laws_FnPlusOr.j0 : Nat → List Int → List Int → Bool → Option (Bool)
 | 0, _, _, _ => none
 | k + 1, x0, x1, x31 => if x31 = true then (some true) else ((spec_DrawPlusOf.f k x0).bind fun bt101 => ((spec_DrawOccsOk.f k x1).bind fun t106 => ((impl_PlusOf.f k bt101.1 bt101.2.1 bt101.2.2).bind fun bt109 => ((spec_PlusOf.f k bt101.1 bt101.2.1 bt101.2.2).bind fun bt113 => (if (bt109.2 != bt113.2) = true then (laws_FnPlusOr.j1 k bt101.1 bt101.2.1 bt101.2.2 t106 bt109.1 bt109.2 bt113.1 bt113.2 true) else ((impl_OccsSame.f k bt109.1 bt113.1).bind fun t117 => (if t117 = true then (if bt109.2 = true then ((spec_OccsOk.f k t106).bind fun t118 => (laws_FnPlusOr.j1 k bt101.1 bt101.2.1 bt101.2.2 t106 bt109.1 bt109.2 bt113.1 bt113.2 (!t118))) else (laws_FnPlusOr.j1 k bt101.1 bt101.2.1 bt101.2.2 t106 bt109.1 bt109.2 bt113.1 bt113.2 true)) else (laws_FnPlusOr.j1 k bt101.1 bt101.2.1 bt101.2.2 t106 bt109.1 bt109.2 bt113.1 bt113.2 true))))))))
def laws_FnPlusOr.j1 : Nat → List (S27) → Int → Int → List (S27) → List (S27) → Bool → List (S27) → Bool → Bool → Option (Bool)
 | 0, _, _, _, _, _, _, _, _, _ => none
 | k + 1, x5, x6, x7, x8, x9, x10, x11, x12, x71 => if x71 = true then (if (x10 == x12) = true then ((impl_OccsSame.f k x9 x11).bind fun t119 => (some t119)) else (some false)) else ((impl_PlusOf.f k x8 x6 x7).bind fun bt120 => ((impl_OrOf.f k x5 x8).bind fun bt124 => ((impl_PlusOf.f k bt124.1 x6 x7).bind fun bt128 => ((impl_OrOf.f k x9 bt120.1).bind fun bt132 => (laws_FnPlusOr.l0 k x5 x6 x7 x9 bt120.2 bt124.2 bt128.1 bt128.2 bt132.1 bt132.2 0)))))
def laws_FnPlusOr.l0 : Nat → List (S27) → Int → Int → List (S27) → Bool → Bool → List (S27) → Bool → List (S27) → Bool → Int → Option (Bool)
 | 0, _, _, _, _, _, _, _, _, _, _, _ => none
 | k + 1, x5, x6, x7, x9, x14, x16, x17, x18, x19, x20, x21 => if x21 < (x9.length : Int) then (if 0 ≤ x21 then (if ((rd_T27 x9 x21).f1) > x7 then (some false) else (if ((rd_T27 x9 x21).f0) ≥ ((rd_T27 x9 x21).f1) then (some false) else (laws_FnPlusOr.l0 k x5 x6 x7 x9 x14 x16 x17 x18 x19 x20 (wrap64 (x21 + 1))))) else (none)) else ((impl_PlusOf.f k x5 x6 (wrap64 (x7 - 1))).bind fun bt139 => (if x14 = true then (if x16 = true then (if x18 = true then (if x20 = true then ((impl_OccsSame.f k x17 x19).bind fun t143 => (if t143 = true then (if bt139.2 = true then (if (bt139.1.length : Int) ≤ (x9.length : Int) then (if 0 ≤ (bt139.1.length : Int) then ((impl_OccsSame.f k bt139.1 (x9.take ((bt139.1.length : Int) : Int).toNat)).bind fun t149 => (some t149)) else (none)) else (some false)) else (some false)) else (some false))) else (if bt139.2 = true then (if (bt139.1.length : Int) ≤ (x9.length : Int) then (if 0 ≤ (bt139.1.length : Int) then ((impl_OccsSame.f k bt139.1 (x9.take ((bt139.1.length : Int) : Int).toNat)).bind fun t155 => (some t155)) else (none)) else (some false)) else (some false))) else (if bt139.2 = true then (if (bt139.1.length : Int) ≤ (x9.length : Int) then (if 0 ≤ (bt139.1.length : Int) then ((impl_OccsSame.f k bt139.1 (x9.take ((bt139.1.length : Int) : Int).toNat)).bind fun t161 => (some t161)) else (none)) else (some false)) else (some false))) else (if bt139.2 = true then (if (bt139.1.length : Int) ≤ (x9.length : Int) then (if 0 ≤ (bt139.1.length : Int) then ((impl_OccsSame.f k bt139.1 (x9.take ((bt139.1.length : Int) : Int).toNat)).bind fun t167 => (some t167)) else (none)) else (some false)) else (some false))) else (if bt139.2 = true then (if (bt139.1.length : Int) ≤ (x9.length : Int) then (if 0 ≤ (bt139.1.length : Int) then ((impl_OccsSame.f k bt139.1 (x9.take ((bt139.1.length : Int) : Int).toNat)).bind fun t173 => (some t173)) else (none)) else (some false)) else (some false))))
end
def laws_FnPlusOr.f (k : Nat) (l0 : List Int) (l1 : List Int) : Option (Bool) := if (l0.length : Int) > 1048576 then (laws_FnPlusOr.j0 k l0 l1 true) else (laws_FnPlusOr.j0 k l0 l1 (decide ((l1.length : Int) > 1048576)))
set_option maxHeartbeats 8000000 in
set_option maxRecDepth 100000 in
theorem laws_FnPlusOr.calls (k : Nat) (A0 : Option Addr) (c0 : Nat) (l0 : List Int) (A1 : Option Addr) (c1 : Nat) (l1 : List Int) (r : Bool) (hT_ : Aside0 (r = true)) (w : World) (hr0 : Kd.C (Kd.int .u8) w A0 l0.length l0) (hc0 : l0.length ≤ c0) (hr1 : Kd.C (Kd.int .u8) w A1 l1.length l1) (hc1 : l1.length ≤ c1) (h : laws_FnPlusOr.f k l0 l1 = some r) :
  Calls Try.prog 17 #[.slice A0 l0.length c0, .slice A1 l1.length c1] w fun e w' => e = .returned (.bool r) ∧ Below w.heap.size w w' := by
 have HR0 := Aside0.mk hr0
 have HC0 := Aside0.mk hc0
 clear hr0 hc0
 have HR1 := Aside0.mk hr1
 have HC1 := Aside0.mk hc1
 clear hr1 hc1
 have HB := Aside0.mk (Below.refl w.heap.size w)
 have H : (if (l0.length : Int) > 1048576 then (laws_FnPlusOr.j0 k l0 l1 true) else (laws_FnPlusOr.j0 k l0 l1 (decide ((l1.length : Int) > 1048576)))) = some r := h
 clear h
 have HC3 := Aside0.mk H
 clear H
 go_enter Try.func17, Try.ntmps17
 go_upto_region 1 with (fail)
 repeat (go_quiet (fail);go_upto_region 1 with (fail))
 go_cut [31] (fun v31 wc => ∃ (kq : Nat) (x31_2 : Bool), v31 = .bool x31_2 ∧ Aside0 (laws_FnPlusOr.j0 kq l0 l1 x31_2 = some r) ∧ Aside0 (kq ≤ k) ∧ Aside0 (Below w.heap.size w wc))
 case first =>
  have H := HC3.out
  clear HC3
  by_cases c4 : (l0.length : Int) > 1048576
  ·rw [if_pos c4] at H
   have c4b0 : decide (1048576 < (l0.length : Int)) = true := decide_eq_true c4
   have c4b1 : decide (1048576 < l0.length) = true := decide_eq_true (by omega)
   clear c4
   (first | rw [c4b0] | (simp only [i64_w, i32_w];rw [c4b0]) | skip)
   have H' := Aside0.mk H
   clear H
   go_wp2
   repeat (go_quiet (fail);try go_wp2)
   go_meet
   case rel => exact ⟨_, (true), (by first | rfl | (simp;done) | (simp [*];done)), H', ⟨by first | omega | exact Nat.le_refl _⟩, ⟨by repeat (first | (with_reducible first | exact HB.out | apply below_alloc | apply pw_below_drewN | apply below_drew1) | exact HB.out)⟩⟩
  ·rw [if_neg c4] at H
   have c4b0 : decide (1048576 < (l0.length : Int)) = false := decide_eq_false c4
   have c4b1 : decide (1048576 < l0.length) = false := decide_eq_false (by omega)
   clear c4
   (first | rw [c4b0] | (simp only [i64_w, i32_w];rw [c4b0]) | skip)
   have H' := Aside0.mk H
   clear H
   go_wp2
   repeat (go_quiet (fail);try go_wp2)
   go_meet
   case rel => exact ⟨_, (decide ((l1.length : Int) > 1048576)), (by first | rfl | (simp;done) | (simp [*];done)), H', ⟨by first | omega | exact Nat.le_refl _⟩, ⟨by repeat (first | (with_reducible first | exact HB.out | apply below_alloc | apply pw_below_drewN | apply below_drew1) | exact HB.out)⟩⟩
 case rest =>
  clear HC3
  try clear c1
  try clear p2
  try clear c4
  try clear c4b0
  try clear c4b1
  obtain ⟨kq, x31_2, rfl, HA, HJ2, HB⟩ := hcut
  cases kq with
  | zero => exact absurd HA.out (by simp [laws_FnPlusOr.j0])
  | succ kj2 =>
   have H := HA.out
   clear HA
   simp only [laws_FnPlusOr.j0] at H
   by_cases c5 : x31_2 = true
   ·subst c5
    have H1 : (some true) = some r := by rw [if_pos rfl] at H;exact H
    clear H
    have H := H1
    clear H1
    obtain rfl := Option.some.inj H
    go_wp2
    repeat (go_quiet (fail);try go_wp2)
    go_ret
    exact ⟨by first | rfl | (simp [errW_none, errW_some] <;> rfl) | (simp [*, errW_none, errW_some] <;> rfl), by repeat (first | (with_reducible first | exact HB.out | apply below_alloc | apply pw_below_drewN | apply below_drew1) | exact HB.out)⟩
   ·replace c5 := Bool.eq_false_iff.mpr c5
    subst c5
    have H1 : ((spec_DrawPlusOf.f kj2 l0).bind fun bt101 => ((spec_DrawOccsOk.f kj2 l1).bind fun t106 => ((impl_PlusOf.f kj2 bt101.1 bt101.2.1 bt101.2.2).bind fun bt109 => ((spec_PlusOf.f kj2 bt101.1 bt101.2.1 bt101.2.2).bind fun bt113 => (if (bt109.2 != bt113.2) = true then (laws_FnPlusOr.j1 kj2 bt101.1 bt101.2.1 bt101.2.2 t106 bt109.1 bt109.2 bt113.1 bt113.2 true) else ((impl_OccsSame.f kj2 bt109.1 bt113.1).bind fun t117 => (if t117 = true then (if bt109.2 = true then ((spec_OccsOk.f kj2 t106).bind fun t118 => (laws_FnPlusOr.j1 kj2 bt101.1 bt101.2.1 bt101.2.2 t106 bt109.1 bt109.2 bt113.1 bt113.2 (!t118))) else (laws_FnPlusOr.j1 kj2 bt101.1 bt101.2.1 bt101.2.2 t106 bt109.1 bt109.2 bt113.1 bt113.2 true)) else (laws_FnPlusOr.j1 kj2 bt101.1 bt101.2.1 bt101.2.2 t106 bt109.1 bt109.2 bt113.1 bt113.2 true)))))))) = some r := by rw [if_neg (show ¬ (false = true) by decide)] at H;exact H
    clear H
    have H := H1
    clear H1
    replace H := Option.bind_eq_some_iff.mp H
    obtain ⟨⟨t101, t104, t105⟩, A60, H⟩ := H
    replace H : ((spec_DrawOccsOk.f kj2 l1).bind fun t106 => ((impl_PlusOf.f kj2 t101 t104 t105).bind fun bt109 => ((spec_PlusOf.f kj2 t101 t104 t105).bind fun bt113 => (if (bt109.2 != bt113.2) = true then (laws_FnPlusOr.j1 kj2 t101 t104 t105 t106 bt109.1 bt109.2 bt113.1 bt113.2 true) else ((impl_OccsSame.f kj2 bt109.1 bt113.1).bind fun t117 => (if t117 = true then (if bt109.2 = true then ((spec_OccsOk.f kj2 t106).bind fun t118 => (laws_FnPlusOr.j1 kj2 t101 t104 t105 t106 bt109.1 bt109.2 bt113.1 bt113.2 (!t118))) else (laws_FnPlusOr.j1 kj2 t101 t104 t105 t106 bt109.1 bt109.2 bt113.1 bt113.2 true)) else (laws_FnPlusOr.j1 kj2 t101 t104 t105 t106 bt109.1 bt109.2 bt113.1 bt113.2 true))))))) = some r := H
    have A6 := Aside0.mk A60
    clear A60
    replace H := Option.bind_eq_some_iff.mp H
    obtain ⟨t106, A70, H⟩ := H
    replace H : ((impl_PlusOf.f kj2 t101 t104 t105).bind fun bt109 => ((spec_PlusOf.f kj2 t101 t104 t105).bind fun bt113 => (if (bt109.2 != bt113.2) = true then (laws_FnPlusOr.j1 kj2 t101 t104 t105 t106 bt109.1 bt109.2 bt113.1 bt113.2 true) else ((impl_OccsSame.f kj2 bt109.1 bt113.1).bind fun t117 => (if t117 = true then (if bt109.2 = true then ((spec_OccsOk.f kj2 t106).bind fun t118 => (laws_FnPlusOr.j1 kj2 t101 t104 t105 t106 bt109.1 bt109.2 bt113.1 bt113.2 (!t118))) else (laws_FnPlusOr.j1 kj2 t101 t104 t105 t106 bt109.1 bt109.2 bt113.1 bt113.2 true)) else (laws_FnPlusOr.j1 kj2 t101 t104 t105 t106 bt109.1 bt109.2 bt113.1 bt113.2 true)))))) = some r := H
    have A7 := Aside0.mk A70
    clear A70
    replace H := Option.bind_eq_some_iff.mp H
    obtain ⟨⟨t109, t110⟩, A80, H⟩ := H
    replace H : ((spec_PlusOf.f kj2 t101 t104 t105).bind fun bt113 => (if (t110 != bt113.2) = true then (laws_FnPlusOr.j1 kj2 t101 t104 t105 t106 t109 t110 bt113.1 bt113.2 true) else ((impl_OccsSame.f kj2 t109 bt113.1).bind fun t117 => (if t117 = true then (if t110 = true then ((spec_OccsOk.f kj2 t106).bind fun t118 => (laws_FnPlusOr.j1 kj2 t101 t104 t105 t106 t109 t110 bt113.1 bt113.2 (!t118))) else (laws_FnPlusOr.j1 kj2 t101 t104 t105 t106 t109 t110 bt113.1 bt113.2 true)) else (laws_FnPlusOr.j1 kj2 t101 t104 t105 t106 t109 t110 bt113.1 bt113.2 true))))) = some r := H
    have A8 := Aside0.mk A80
    clear A80
    replace H := Option.bind_eq_some_iff.mp H
    obtain ⟨⟨t113, t114⟩, A90, H⟩ := H
    replace H : (if (t110 != t114) = true then (laws_FnPlusOr.j1 kj2 t101 t104 t105 t106 t109 t110 t113 t114 true) else ((impl_OccsSame.f kj2 t109 t113).bind fun t117 => (if t117 = true then (if t110 = true then ((spec_OccsOk.f kj2 t106).bind fun t118 => (laws_FnPlusOr.j1 kj2 t101 t104 t105 t106 t109 t110 t113 t114 (!t118))) else (laws_FnPlusOr.j1 kj2 t101 t104 t105 t106 t109 t110 t113 t114 true)) else (laws_FnPlusOr.j1 kj2 t101 t104 t105 t106 t109 t110 t113 t114 true)))) = some r := H
    have A9 := Aside0.mk A90
    clear A90
    have HC10 := Aside0.mk H
    clear H
    go_upto_region 7 with (first | (go_at_call 60;(with_reducible refine (spec_DrawPlusOf.calls kj2 _ _ l0 t101 t104 t105 _ ?side1 ?side2 A6.out).mono ?_);(case side1 => repeat (first | exact (Kd.C_below HR0.out HB.out) | (with_reducible refine Kd.C_alloc ?_ _) | (with_reducible refine Kd.C_drewN ?_ _) | (with_reducible refine Kd.C_drew ?_)));(case side2 => exact HC0.out);rintro e w11 ⟨v102, rfl, ho0, hb⟩;have n0_ := Aside0.mk (Kd.N_lower (Kd.N_mono (ok' := fun k_ => True) ho0 (fun k_ hk_ => trivial)) (below_size (by exact HB.out)));have n1_ := Aside0.mk (below_step (by exact HB.out) hb);clear HB;have HO103 := n0_;have HB := n1_;clear n0_ n1_;(try clear hb);(try clear hb2);(try clear hk);(try clear hi);(try clear ho0)) | (go_at_call 63;(with_reducible refine (spec_DrawOccsOk.calls kj2 _ _ l1 t106 _ ?side1 ?side2 A7.out).mono ?_);(case side1 => repeat (first | exact (Kd.C_below HR1.out HB.out) | (with_reducible refine Kd.C_alloc ?_ _) | (with_reducible refine Kd.C_drewN ?_ _) | (with_reducible refine Kd.C_drew ?_)));(case side2 => exact HC1.out);rintro e w12 ⟨v107, rfl, ho0, hb⟩;have n0_ := Aside0.mk (Kd.N_elder' (by (with_reducible repeat (first | apply Kd.N_alloc | apply Kd.N_drewN | apply Kd.N_drew));exact HO103.out) (by first | exact Kd.N_base ho0 | exact Kd.S_base ho0) hb);have n1_ := Aside0.mk (Kd.N_lower (Kd.N_mono (ok' := fun k_ => some k_ ≠ (v102 : Value).ownBlock) ho0 (fun k_ hk_ => (Kd.fresh' (Kd.N_lt (by (with_reducible repeat (first | apply Kd.N_alloc | apply Kd.N_drewN | apply Kd.N_drew));exact HO103.out)) k_ hk_))) (below_size (by exact HB.out)));have n2_ := Aside0.mk (below_step (by exact HB.out) hb);clear HO103;clear HB;have HO103 := n0_;have HO108 := n1_;have HB := n2_;clear n0_ n1_ n2_;(try clear hb);(try clear hb2);(try clear hk);(try clear hi);(try clear ho0);obtain ⟨Ao13, co13, eo13⟩ := Kd.N_slice HO103.out;subst eo13) | (go_at_call 61;(with_reducible refine (impl_PlusOf.calls kj2 _ _ t101 t104 t105 t109 t110 _ ?side1 ?side2 A8.out).mono ?_);(case side1 => repeat (first | exact (Kd.N_reads' HO103.out).2.2 | (with_reducible refine Kd.C_alloc ?_ _) | (with_reducible refine Kd.C_drewN ?_ _) | (with_reducible refine Kd.C_drew ?_)));(case side2 => exact (Kd.N_reads' HO103.out).2.1);rintro e w14 ⟨v111, rfl, ho0, hb⟩;have n0_ := Aside0.mk (Kd.N_elder' (by (with_reducible repeat (first | apply Kd.N_alloc | apply Kd.N_drewN | apply Kd.N_drew));exact HO103.out) (by first | exact Kd.N_base ho0 | exact Kd.S_base ho0) hb);have n1_ := Aside0.mk (Kd.N_elder' (by (with_reducible repeat (first | apply Kd.N_alloc | apply Kd.N_drewN | apply Kd.N_drew));exact HO108.out) (by first | exact Kd.N_base ho0 | exact Kd.S_base ho0) hb);have n2_ := Aside0.mk (Kd.N_lower (Kd.N_mono (ok' := fun k_ => some k_ ≠ (.slice Ao13 t101.length co13 : Value).ownBlock ∧ some k_ ≠ (v107 : Value).ownBlock) (Kd.S_N (Kd.S_bound ho0)) (fun k_ hk_ => ⟨(Kd.fresh' (Kd.N_lt (by (with_reducible repeat (first | apply Kd.N_alloc | apply Kd.N_drewN | apply Kd.N_drew));exact HO103.out)) k_ hk_.2.1), (Kd.fresh' (Kd.N_lt (by (with_reducible repeat (first | apply Kd.N_alloc | apply Kd.N_drewN | apply Kd.N_drew));exact HO108.out)) k_ hk_.2.1)⟩)) (below_size (by exact HB.out)));have n3_ := Aside0.mk (below_step (by exact HB.out) hb);clear HO103;clear HO108;clear HB;have HO103 := n0_;have HO108 := n1_;have HO112 := n2_;have HB := n3_;clear n0_ n1_ n2_ n3_;(try clear hb);(try clear hb2);(try clear hk);(try clear hi);(try clear ho0)) | (go_at_call 62;(with_reducible refine (spec_PlusOf.calls kj2 _ _ t101 t104 t105 t113 t114 _ ?side1 ?side2 A9.out).mono ?_);(case side1 => repeat (first | exact (Kd.N_reads' HO103.out).2.2 | (with_reducible refine Kd.C_alloc ?_ _) | (with_reducible refine Kd.C_drewN ?_ _) | (with_reducible refine Kd.C_drew ?_)));(case side2 => exact (Kd.N_reads' HO103.out).2.1);rintro e w15 ⟨v115, rfl, ho0, hb⟩;have n0_ := Aside0.mk (Kd.N_elder' (by (with_reducible repeat (first | apply Kd.N_alloc | apply Kd.N_drewN | apply Kd.N_drew));exact HO103.out) (by first | exact Kd.N_base ho0 | exact Kd.S_base ho0) hb);have n1_ := Aside0.mk (Kd.N_elder' (by (with_reducible repeat (first | apply Kd.N_alloc | apply Kd.N_drewN | apply Kd.N_drew));exact HO108.out) (by first | exact Kd.N_base ho0 | exact Kd.S_base ho0) hb);have n2_ := Aside0.mk (Kd.N_elder' (by (with_reducible repeat (first | apply Kd.N_alloc | apply Kd.N_drewN | apply Kd.N_drew));exact HO112.out) (by first | exact Kd.N_base ho0 | exact Kd.S_base ho0) hb);have n3_ := Aside0.mk (Kd.N_lower (Kd.N_mono (ok' := fun k_ => some k_ ≠ (.slice Ao13 t101.length co13 : Value).ownBlock ∧ some k_ ≠ (v107 : Value).ownBlock ∧ some k_ ≠ (v111 : Value).ownBlock) (Kd.S_N (Kd.S_bound ho0)) (fun k_ hk_ => ⟨(Kd.fresh' (Kd.N_lt (by (with_reducible repeat (first | apply Kd.N_alloc | apply Kd.N_drewN | apply Kd.N_drew));exact HO103.out)) k_ hk_.2.1), (Kd.fresh' (Kd.N_lt (by (with_reducible repeat (first | apply Kd.N_alloc | apply Kd.N_drewN | apply Kd.N_drew));exact HO108.out)) k_ hk_.2.1), (Kd.fresh' (Kd.N_lt (by (with_reducible repeat (first | apply Kd.N_alloc | apply Kd.N_drewN | apply Kd.N_drew));exact HO112.out)) k_ hk_.2.1)⟩)) (below_size (by exact HB.out)));have n4_ := Aside0.mk (below_step (by exact HB.out) hb);clear HO103;clear HO108;clear HO112;clear HB;have HO103 := n0_;have HO108 := n1_;have HO112 := n2_;have HO116 := n3_;have HB := n4_;clear n0_ n1_ n2_ n3_ n4_;(try clear hb);(try clear hb2);(try clear hk);(try clear hi);(try clear ho0)))
    repeat (go_quiet (first | (go_at_call 60;(with_reducible refine (spec_DrawPlusOf.calls kj2 _ _ l0 t101 t104 t105 _ ?side1 ?side2 A6.out).mono ?_);(case side1 => repeat (first | exact (Kd.C_below HR0.out HB.out) | (with_reducible refine Kd.C_alloc ?_ _) | (with_reducible refine Kd.C_drewN ?_ _) | (with_reducible refine Kd.C_drew ?_)));(case side2 => exact HC0.out);rintro e w11 ⟨v102, rfl, ho0, hb⟩;have n0_ := Aside0.mk (Kd.N_lower (Kd.N_mono (ok' := fun k_ => True) ho0 (fun k_ hk_ => trivial)) (below_size (by exact HB.out)));have n1_ := Aside0.mk (below_step (by exact HB.out) hb);clear HB;have HO103 := n0_;have HB := n1_;clear n0_ n1_;(try clear hb);(try clear hb2);(try clear hk);(try clear hi);(try clear ho0)) | (go_at_call 63;(with_reducible refine (spec_DrawOccsOk.calls kj2 _ _ l1 t106 _ ?side1 ?side2 A7.out).mono ?_);(case side1 => repeat (first | exact (Kd.C_below HR1.out HB.out) | (with_reducible refine Kd.C_alloc ?_ _) | (with_reducible refine Kd.C_drewN ?_ _) | (with_reducible refine Kd.C_drew ?_)));(case side2 => exact HC1.out);rintro e w12 ⟨v107, rfl, ho0, hb⟩;have n0_ := Aside0.mk (Kd.N_elder' (by (with_reducible repeat (first | apply Kd.N_alloc | apply Kd.N_drewN | apply Kd.N_drew));exact HO103.out) (by first | exact Kd.N_base ho0 | exact Kd.S_base ho0) hb);have n1_ := Aside0.mk (Kd.N_lower (Kd.N_mono (ok' := fun k_ => some k_ ≠ (v102 : Value).ownBlock) ho0 (fun k_ hk_ => (Kd.fresh' (Kd.N_lt (by (with_reducible repeat (first | apply Kd.N_alloc | apply Kd.N_drewN | apply Kd.N_drew));exact HO103.out)) k_ hk_))) (below_size (by exact HB.out)));have n2_ := Aside0.mk (below_step (by exact HB.out) hb);clear HO103;clear HB;have HO103 := n0_;have HO108 := n1_;have HB := n2_;clear n0_ n1_ n2_;(try clear hb);(try clear hb2);(try clear hk);(try clear hi);(try clear ho0);obtain ⟨Ao13, co13, eo13⟩ := Kd.N_slice HO103.out;subst eo13) | (go_at_call 61;(with_reducible refine (impl_PlusOf.calls kj2 _ _ t101 t104 t105 t109 t110 _ ?side1 ?side2 A8.out).mono ?_);(case side1 => repeat (first | exact (Kd.N_reads' HO103.out).2.2 | (with_reducible refine Kd.C_alloc ?_ _) | (with_reducible refine Kd.C_drewN ?_ _) | (with_reducible refine Kd.C_drew ?_)));(case side2 => exact (Kd.N_reads' HO103.out).2.1);rintro e w14 ⟨v111, rfl, ho0, hb⟩;have n0_ := Aside0.mk (Kd.N_elder' (by (with_reducible repeat (first | apply Kd.N_alloc | apply Kd.N_drewN | apply Kd.N_drew));exact HO103.out) (by first | exact Kd.N_base ho0 | exact Kd.S_base ho0) hb);have n1_ := Aside0.mk (Kd.N_elder' (by (with_reducible repeat (first | apply Kd.N_alloc | apply Kd.N_drewN | apply Kd.N_drew));exact HO108.out) (by first | exact Kd.N_base ho0 | exact Kd.S_base ho0) hb);have n2_ := Aside0.mk (Kd.N_lower (Kd.N_mono (ok' := fun k_ => some k_ ≠ (.slice Ao13 t101.length co13 : Value).ownBlock ∧ some k_ ≠ (v107 : Value).ownBlock) (Kd.S_N (Kd.S_bound ho0)) (fun k_ hk_ => ⟨(Kd.fresh' (Kd.N_lt (by (with_reducible repeat (first | apply Kd.N_alloc | apply Kd.N_drewN | apply Kd.N_drew));exact HO103.out)) k_ hk_.2.1), (Kd.fresh' (Kd.N_lt (by (with_reducible repeat (first | apply Kd.N_alloc | apply Kd.N_drewN | apply Kd.N_drew));exact HO108.out)) k_ hk_.2.1)⟩)) (below_size (by exact HB.out)));have n3_ := Aside0.mk (below_step (by exact HB.out) hb);clear HO103;clear HO108;clear HB;have HO103 := n0_;have HO108 := n1_;have HO112 := n2_;have HB := n3_;clear n0_ n1_ n2_ n3_;(try clear hb);(try clear hb2);(try clear hk);(try clear hi);(try clear ho0)) | (go_at_call 62;(with_reducible refine (spec_PlusOf.calls kj2 _ _ t101 t104 t105 t113 t114 _ ?side1 ?side2 A9.out).mono ?_);(case side1 => repeat (first | exact (Kd.N_reads' HO103.out).2.2 | (with_reducible refine Kd.C_alloc ?_ _) | (with_reducible refine Kd.C_drewN ?_ _) | (with_reducible refine Kd.C_drew ?_)));(case side2 => exact (Kd.N_reads' HO103.out).2.1);rintro e w15 ⟨v115, rfl, ho0, hb⟩;have n0_ := Aside0.mk (Kd.N_elder' (by (with_reducible repeat (first | apply Kd.N_alloc | apply Kd.N_drewN | apply Kd.N_drew));exact HO103.out) (by first | exact Kd.N_base ho0 | exact Kd.S_base ho0) hb);have n1_ := Aside0.mk (Kd.N_elder' (by (with_reducible repeat (first | apply Kd.N_alloc | apply Kd.N_drewN | apply Kd.N_drew));exact HO108.out) (by first | exact Kd.N_base ho0 | exact Kd.S_base ho0) hb);have n2_ := Aside0.mk (Kd.N_elder' (by (with_reducible repeat (first | apply Kd.N_alloc | apply Kd.N_drewN | apply Kd.N_drew));exact HO112.out) (by first | exact Kd.N_base ho0 | exact Kd.S_base ho0) hb);have n3_ := Aside0.mk (Kd.N_lower (Kd.N_mono (ok' := fun k_ => some k_ ≠ (.slice Ao13 t101.length co13 : Value).ownBlock ∧ some k_ ≠ (v107 : Value).ownBlock ∧ some k_ ≠ (v111 : Value).ownBlock) (Kd.S_N (Kd.S_bound ho0)) (fun k_ hk_ => ⟨(Kd.fresh' (Kd.N_lt (by (with_reducible repeat (first | apply Kd.N_alloc | apply Kd.N_drewN | apply Kd.N_drew));exact HO103.out)) k_ hk_.2.1), (Kd.fresh' (Kd.N_lt (by (with_reducible repeat (first | apply Kd.N_alloc | apply Kd.N_drewN | apply Kd.N_drew));exact HO108.out)) k_ hk_.2.1), (Kd.fresh' (Kd.N_lt (by (with_reducible repeat (first | apply Kd.N_alloc | apply Kd.N_drewN | apply Kd.N_drew));exact HO112.out)) k_ hk_.2.1)⟩)) (below_size (by exact HB.out)));have n4_ := Aside0.mk (below_step (by exact HB.out) hb);clear HO103;clear HO108;clear HO112;clear HB;have HO103 := n0_;have HO108 := n1_;have HO112 := n2_;have HO116 := n3_;have HB := n4_;clear n0_ n1_ n2_ n3_ n4_;(try clear hb);(try clear hb2);(try clear hk);(try clear hi);(try clear ho0)));go_upto_region 7 with (first | (go_at_call 60;(with_reducible refine (spec_DrawPlusOf.calls kj2 _ _ l0 t101 t104 t105 _ ?side1 ?side2 A6.out).mono ?_);(case side1 => repeat (first | exact (Kd.C_below HR0.out HB.out) | (with_reducible refine Kd.C_alloc ?_ _) | (with_reducible refine Kd.C_drewN ?_ _) | (with_reducible refine Kd.C_drew ?_)));(case side2 => exact HC0.out);rintro e w11 ⟨v102, rfl, ho0, hb⟩;have n0_ := Aside0.mk (Kd.N_lower (Kd.N_mono (ok' := fun k_ => True) ho0 (fun k_ hk_ => trivial)) (below_size (by exact HB.out)));have n1_ := Aside0.mk (below_step (by exact HB.out) hb);clear HB;have HO103 := n0_;have HB := n1_;clear n0_ n1_;(try clear hb);(try clear hb2);(try clear hk);(try clear hi);(try clear ho0)) | (go_at_call 63;(with_reducible refine (spec_DrawOccsOk.calls kj2 _ _ l1 t106 _ ?side1 ?side2 A7.out).mono ?_);(case side1 => repeat (first | exact (Kd.C_below HR1.out HB.out) | (with_reducible refine Kd.C_alloc ?_ _) | (with_reducible refine Kd.C_drewN ?_ _) | (with_reducible refine Kd.C_drew ?_)));(case side2 => exact HC1.out);rintro e w12 ⟨v107, rfl, ho0, hb⟩;have n0_ := Aside0.mk (Kd.N_elder' (by (with_reducible repeat (first | apply Kd.N_alloc | apply Kd.N_drewN | apply Kd.N_drew));exact HO103.out) (by first | exact Kd.N_base ho0 | exact Kd.S_base ho0) hb);have n1_ := Aside0.mk (Kd.N_lower (Kd.N_mono (ok' := fun k_ => some k_ ≠ (v102 : Value).ownBlock) ho0 (fun k_ hk_ => (Kd.fresh' (Kd.N_lt (by (with_reducible repeat (first | apply Kd.N_alloc | apply Kd.N_drewN | apply Kd.N_drew));exact HO103.out)) k_ hk_))) (below_size (by exact HB.out)));have n2_ := Aside0.mk (below_step (by exact HB.out) hb);clear HO103;clear HB;have HO103 := n0_;have HO108 := n1_;have HB := n2_;clear n0_ n1_ n2_;(try clear hb);(try clear hb2);(try clear hk);(try clear hi);(try clear ho0);obtain ⟨Ao13, co13, eo13⟩ := Kd.N_slice HO103.out;subst eo13) | (go_at_call 61;(with_reducible refine (impl_PlusOf.calls kj2 _ _ t101 t104 t105 t109 t110 _ ?side1 ?side2 A8.out).mono ?_);(case side1 => repeat (first | exact (Kd.N_reads' HO103.out).2.2 | (with_reducible refine Kd.C_alloc ?_ _) | (with_reducible refine Kd.C_drewN ?_ _) | (with_reducible refine Kd.C_drew ?_)));(case side2 => exact (Kd.N_reads' HO103.out).2.1);rintro e w14 ⟨v111, rfl, ho0, hb⟩;have n0_ := Aside0.mk (Kd.N_elder' (by (with_reducible repeat (first | apply Kd.N_alloc | apply Kd.N_drewN | apply Kd.N_drew));exact HO103.out) (by first | exact Kd.N_base ho0 | exact Kd.S_base ho0) hb);have n1_ := Aside0.mk (Kd.N_elder' (by (with_reducible repeat (first | apply Kd.N_alloc | apply Kd.N_drewN | apply Kd.N_drew));exact HO108.out) (by first | exact Kd.N_base ho0 | exact Kd.S_base ho0) hb);have n2_ := Aside0.mk (Kd.N_lower (Kd.N_mono (ok' := fun k_ => some k_ ≠ (.slice Ao13 t101.length co13 : Value).ownBlock ∧ some k_ ≠ (v107 : Value).ownBlock) (Kd.S_N (Kd.S_bound ho0)) (fun k_ hk_ => ⟨(Kd.fresh' (Kd.N_lt (by (with_reducible repeat (first | apply Kd.N_alloc | apply Kd.N_drewN | apply Kd.N_drew));exact HO103.out)) k_ hk_.2.1), (Kd.fresh' (Kd.N_lt (by (with_reducible repeat (first | apply Kd.N_alloc | apply Kd.N_drewN | apply Kd.N_drew));exact HO108.out)) k_ hk_.2.1)⟩)) (below_size (by exact HB.out)));have n3_ := Aside0.mk (below_step (by exact HB.out) hb);clear HO103;clear HO108;clear HB;have HO103 := n0_;have HO108 := n1_;have HO112 := n2_;have HB := n3_;clear n0_ n1_ n2_ n3_;(try clear hb);(try clear hb2);(try clear hk);(try clear hi);(try clear ho0)) | (go_at_call 62;(with_reducible refine (spec_PlusOf.calls kj2 _ _ t101 t104 t105 t113 t114 _ ?side1 ?side2 A9.out).mono ?_);(case side1 => repeat (first | exact (Kd.N_reads' HO103.out).2.2 | (with_reducible refine Kd.C_alloc ?_ _) | (with_reducible refine Kd.C_drewN ?_ _) | (with_reducible refine Kd.C_drew ?_)));(case side2 => exact (Kd.N_reads' HO103.out).2.1);rintro e w15 ⟨v115, rfl, ho0, hb⟩;have n0_ := Aside0.mk (Kd.N_elder' (by (with_reducible repeat (first | apply Kd.N_alloc | apply Kd.N_drewN | apply Kd.N_drew));exact HO103.out) (by first | exact Kd.N_base ho0 | exact Kd.S_base ho0) hb);have n1_ := Aside0.mk (Kd.N_elder' (by (with_reducible repeat (first | apply Kd.N_alloc | apply Kd.N_drewN | apply Kd.N_drew));exact HO108.out) (by first | exact Kd.N_base ho0 | exact Kd.S_base ho0) hb);have n2_ := Aside0.mk (Kd.N_elder' (by (with_reducible repeat (first | apply Kd.N_alloc | apply Kd.N_drewN | apply Kd.N_drew));exact HO112.out) (by first | exact Kd.N_base ho0 | exact Kd.S_base ho0) hb);have n3_ := Aside0.mk (Kd.N_lower (Kd.N_mono (ok' := fun k_ => some k_ ≠ (.slice Ao13 t101.length co13 : Value).ownBlock ∧ some k_ ≠ (v107 : Value).ownBlock ∧ some k_ ≠ (v111 : Value).ownBlock) (Kd.S_N (Kd.S_bound ho0)) (fun k_ hk_ => ⟨(Kd.fresh' (Kd.N_lt (by (with_reducible repeat (first | apply Kd.N_alloc | apply Kd.N_drewN | apply Kd.N_drew));exact HO103.out)) k_ hk_.2.1), (Kd.fresh' (Kd.N_lt (by (with_reducible repeat (first | apply Kd.N_alloc | apply Kd.N_drewN | apply Kd.N_drew));exact HO108.out)) k_ hk_.2.1), (Kd.fresh' (Kd.N_lt (by (with_reducible repeat (first | apply Kd.N_alloc | apply Kd.N_drewN | apply Kd.N_drew));exact HO112.out)) k_ hk_.2.1)⟩)) (below_size (by exact HB.out)));have n4_ := Aside0.mk (below_step (by exact HB.out) hb);clear HO103;clear HO108;clear HO112;clear HB;have HO103 := n0_;have HO108 := n1_;have HO112 := n2_;have HO116 := n3_;have HB := n4_;clear n0_ n1_ n2_ n3_ n4_;(try clear hb);(try clear hb2);(try clear hk);(try clear hi);(try clear ho0))))
    (try simp only [Act.put, List.setIfInBounds_toArray, List.set_cons_zero, List.set_cons_succ])
    go_cut [71] (fun v71 wc => ∃ (kq : Nat) (x71_9 : Bool), v71 = .bool x71_9 ∧ Aside0 (laws_FnPlusOr.j1 kq t101 t104 t105 t106 t109 t110 t113 t114 x71_9 = some r) ∧ Aside0 (kq ≤ kj2) ∧ Aside0 (Kd.N k27 27 wc w.heap.size (fun k_ => some k_ ≠ (v107 : Value).ownBlock ∧ some k_ ≠ (v111 : Value).ownBlock ∧ some k_ ≠ (v115 : Value).ownBlock) (.slice Ao13 t101.length co13) t101) ∧ Aside0 (Kd.N k27 27 wc w.heap.size (fun k_ => some k_ ≠ ((.slice Ao13 t101.length co13) : Value).ownBlock ∧ some k_ ≠ (v111 : Value).ownBlock ∧ some k_ ≠ (v115 : Value).ownBlock) v107 t106) ∧ Aside0 (Kd.N k27 27 wc w.heap.size (fun k_ => some k_ ≠ ((.slice Ao13 t101.length co13) : Value).ownBlock ∧ some k_ ≠ (v107 : Value).ownBlock ∧ some k_ ≠ (v115 : Value).ownBlock) v111 t109) ∧ Aside0 (Kd.N k27 27 wc w.heap.size (fun k_ => some k_ ≠ ((.slice Ao13 t101.length co13) : Value).ownBlock ∧ some k_ ≠ (v107 : Value).ownBlock ∧ some k_ ≠ (v111 : Value).ownBlock) v115 t113) ∧ Aside0 (Below w.heap.size w wc))
    case first =>
     have H := HC10.out
     clear HC10
     by_cases c16 : (t110 != t114) = true
     ·rw [if_pos c16] at H
      have c16b0 : (t110 != t114) = true := c16
      (try (have c16b1 : decide (t110 = t114) = false := by simpa using c16))
      (try (have c16b2 : (t110 == t114) = false := by simpa using c16))
      (try (have c16b3 : ¬ (t110 = t114) := by simpa using c16))
      clear c16
      (first | rw [c16b0] | (simp only [i64_w, i32_w];rw [c16b0]) | skip)
      have H' := Aside0.mk H
      clear H
      go_wp2
      repeat (go_quiet (fail);try go_wp2)
      go_meet
      case rel => exact ⟨_, (true), (by first | rfl | (simp;done) | (simp [*];done)), H', ⟨by have := HJ2.out;first | omega | exact Nat.le_refl _⟩, ⟨by (with_reducible repeat (first | apply Kd.N_alloc | apply Kd.N_drewN | apply Kd.N_drew));exact Kd.N_mono HO103.out (fun _ hk => ⟨hk.1.1.2, ⟨hk.1.2, hk.2⟩⟩)⟩, ⟨by (with_reducible repeat (first | apply Kd.N_alloc | apply Kd.N_drewN | apply Kd.N_drew));exact Kd.N_mono HO108.out (fun _ hk => ⟨hk.1.1, ⟨hk.1.2, hk.2⟩⟩)⟩, ⟨by (with_reducible repeat (first | apply Kd.N_alloc | apply Kd.N_drewN | apply Kd.N_drew));exact Kd.N_mono HO112.out (fun _ hk => ⟨hk.1.1, ⟨hk.1.2, hk.2⟩⟩)⟩, ⟨by (with_reducible repeat (first | apply Kd.N_alloc | apply Kd.N_drewN | apply Kd.N_drew));exact HO116.out⟩, ⟨by repeat (first | (with_reducible first | exact HB.out | apply below_alloc | apply pw_below_drewN | apply below_drew1) | exact HB.out)⟩⟩
     ·rw [if_neg c16] at H
      have c16b0 : (t110 != t114) = false := by simpa using c16
      (try (have c16b1 : decide (t110 = t114) = true := by simpa using c16))
      (try (have c16b2 : (t110 == t114) = true := by simpa using c16))
      clear c16
      (first | rw [c16b0] | (simp only [i64_w, i32_w];rw [c16b0]) | skip)
      replace H := Option.bind_eq_some_iff.mp H
      obtain ⟨t117, A170, H⟩ := H
      replace H : (if t117 = true then (if t110 = true then ((spec_OccsOk.f kj2 t106).bind fun t118 => (laws_FnPlusOr.j1 kj2 t101 t104 t105 t106 t109 t110 t113 t114 (!t118))) else (laws_FnPlusOr.j1 kj2 t101 t104 t105 t106 t109 t110 t113 t114 true)) else (laws_FnPlusOr.j1 kj2 t101 t104 t105 t106 t109 t110 t113 t114 true)) = some r := H
      have A17 := Aside0.mk A170
      clear A170
      by_cases c18 : t117 = true
      ·subst c18
       have H1 : (if t110 = true then ((spec_OccsOk.f kj2 t106).bind fun t118 => (laws_FnPlusOr.j1 kj2 t101 t104 t105 t106 t109 t110 t113 t114 (!t118))) else (laws_FnPlusOr.j1 kj2 t101 t104 t105 t106 t109 t110 t113 t114 true)) = some r := by rw [if_pos rfl] at H;exact H
       clear H
       have H := H1
       clear H1
       by_cases c19 : t110 = true
       ·subst c19
        have H1 : ((spec_OccsOk.f kj2 t106).bind fun t118 => (laws_FnPlusOr.j1 kj2 t101 t104 t105 t106 t109 true t113 t114 (!t118))) = some r := by rw [if_pos rfl] at H;exact H
        clear H
        have H := H1
        clear H1
        replace H := Option.bind_eq_some_iff.mp H
        obtain ⟨t118, A200, H⟩ := H
        replace H : (laws_FnPlusOr.j1 kj2 t101 t104 t105 t106 t109 true t113 t114 (!t118)) = some r := H
        have A20 := Aside0.mk A200
        clear A200
        have H' := Aside0.mk H
        clear H
        obtain ⟨Ao21, co21, eo21⟩ := Kd.N_slice HO112.out
        subst eo21
        obtain ⟨Ao22, co22, eo22⟩ := Kd.N_slice HO116.out
        subst eo22
        go_wp2_with (first | (go_at_call 26;(with_reducible refine (impl_OccsSame.calls kj2 _ _ t109 _ _ t113 true _ ?side1 ?side2 ?side3 ?side4 A17.out).mono ?_);(case side1 => repeat (first | exact (Kd.N_reads' HO112.out).2.2 | (with_reducible refine Kd.C_alloc ?_ _) | (with_reducible refine Kd.C_drewN ?_ _) | (with_reducible refine Kd.C_drew ?_)));(case side2 => exact (Kd.N_reads' HO112.out).2.1);(case side3 => repeat (first | exact (Kd.N_reads' HO116.out).2.2 | (with_reducible refine Kd.C_alloc ?_ _) | (with_reducible refine Kd.C_drewN ?_ _) | (with_reducible refine Kd.C_drew ?_)));(case side4 => exact (Kd.N_reads' HO116.out).2.1);rintro e w23 ⟨rfl, hb⟩;have n0_ := Aside0.mk (Kd.N_below (by (with_reducible repeat (first | apply Kd.N_alloc | apply Kd.N_drewN | apply Kd.N_drew));exact HO103.out) hb);have n1_ := Aside0.mk (Kd.N_below (by (with_reducible repeat (first | apply Kd.N_alloc | apply Kd.N_drewN | apply Kd.N_drew));exact HO108.out) hb);have n2_ := Aside0.mk (Kd.N_below (by (with_reducible repeat (first | apply Kd.N_alloc | apply Kd.N_drewN | apply Kd.N_drew));exact HO112.out) hb);have n3_ := Aside0.mk (Kd.N_below (by (with_reducible repeat (first | apply Kd.N_alloc | apply Kd.N_drewN | apply Kd.N_drew));exact HO116.out) hb);have n4_ := Aside0.mk (below_step (by exact HB.out) hb);clear HO103;clear HO108;clear HO112;clear HO116;clear HB;have HO103 := n0_;have HO108 := n1_;have HO112 := n2_;have HO116 := n3_;have HB := n4_;clear n0_ n1_ n2_ n3_ n4_;(try clear hb);(try clear hb2);(try clear hk);(try clear hi);obtain ⟨Ao24, co24, eo24⟩ := Kd.N_slice HO108.out;subst eo24) | (go_at_call 28;(with_reducible refine (spec_OccsOk.calls kj2 _ _ t106 t118 _ ?side1 ?side2 A20.out).mono ?_);(case side1 => repeat (first | exact (Kd.N_reads' HO108.out).2.2 | (with_reducible refine Kd.C_alloc ?_ _) | (with_reducible refine Kd.C_drewN ?_ _) | (with_reducible refine Kd.C_drew ?_)));(case side2 => exact (Kd.N_reads' HO108.out).2.1);rintro e w25 ⟨rfl, hb⟩;have n0_ := Aside0.mk (Kd.N_below (by (with_reducible repeat (first | apply Kd.N_alloc | apply Kd.N_drewN | apply Kd.N_drew));exact HO103.out) hb);have n1_ := Aside0.mk (Kd.N_below (by (with_reducible repeat (first | apply Kd.N_alloc | apply Kd.N_drewN | apply Kd.N_drew));exact HO108.out) hb);have n2_ := Aside0.mk (Kd.N_below (by (with_reducible repeat (first | apply Kd.N_alloc | apply Kd.N_drewN | apply Kd.N_drew));exact HO112.out) hb);have n3_ := Aside0.mk (Kd.N_below (by (with_reducible repeat (first | apply Kd.N_alloc | apply Kd.N_drewN | apply Kd.N_drew));exact HO116.out) hb);have n4_ := Aside0.mk (below_step (by exact HB.out) hb);clear HO103;clear HO108;clear HO112;clear HO116;clear HB;have HO103 := n0_;have HO108 := n1_;have HO112 := n2_;have HO116 := n3_;have HB := n4_;clear n0_ n1_ n2_ n3_ n4_;(try clear hb);(try clear hb2);(try clear hk);(try clear hi)))
        repeat (go_quiet (first | (go_at_call 26;(with_reducible refine (impl_OccsSame.calls kj2 _ _ t109 _ _ t113 true _ ?side1 ?side2 ?side3 ?side4 A17.out).mono ?_);(case side1 => repeat (first | exact (Kd.N_reads' HO112.out).2.2 | (with_reducible refine Kd.C_alloc ?_ _) | (with_reducible refine Kd.C_drewN ?_ _) | (with_reducible refine Kd.C_drew ?_)));(case side2 => exact (Kd.N_reads' HO112.out).2.1);(case side3 => repeat (first | exact (Kd.N_reads' HO116.out).2.2 | (with_reducible refine Kd.C_alloc ?_ _) | (with_reducible refine Kd.C_drewN ?_ _) | (with_reducible refine Kd.C_drew ?_)));(case side4 => exact (Kd.N_reads' HO116.out).2.1);rintro e w23 ⟨rfl, hb⟩;have n0_ := Aside0.mk (Kd.N_below (by (with_reducible repeat (first | apply Kd.N_alloc | apply Kd.N_drewN | apply Kd.N_drew));exact HO103.out) hb);have n1_ := Aside0.mk (Kd.N_below (by (with_reducible repeat (first | apply Kd.N_alloc | apply Kd.N_drewN | apply Kd.N_drew));exact HO108.out) hb);have n2_ := Aside0.mk (Kd.N_below (by (with_reducible repeat (first | apply Kd.N_alloc | apply Kd.N_drewN | apply Kd.N_drew));exact HO112.out) hb);have n3_ := Aside0.mk (Kd.N_below (by (with_reducible repeat (first | apply Kd.N_alloc | apply Kd.N_drewN | apply Kd.N_drew));exact HO116.out) hb);have n4_ := Aside0.mk (below_step (by exact HB.out) hb);clear HO103;clear HO108;clear HO112;clear HO116;clear HB;have HO103 := n0_;have HO108 := n1_;have HO112 := n2_;have HO116 := n3_;have HB := n4_;clear n0_ n1_ n2_ n3_ n4_;(try clear hb);(try clear hb2);(try clear hk);(try clear hi);obtain ⟨Ao24, co24, eo24⟩ := Kd.N_slice HO108.out;subst eo24) | (go_at_call 28;(with_reducible refine (spec_OccsOk.calls kj2 _ _ t106 t118 _ ?side1 ?side2 A20.out).mono ?_);(case side1 => repeat (first | exact (Kd.N_reads' HO108.out).2.2 | (with_reducible refine Kd.C_alloc ?_ _) | (with_reducible refine Kd.C_drewN ?_ _) | (with_reducible refine Kd.C_drew ?_)));(case side2 => exact (Kd.N_reads' HO108.out).2.1);rintro e w25 ⟨rfl, hb⟩;have n0_ := Aside0.mk (Kd.N_below (by (with_reducible repeat (first | apply Kd.N_alloc | apply Kd.N_drewN | apply Kd.N_drew));exact HO103.out) hb);have n1_ := Aside0.mk (Kd.N_below (by (with_reducible repeat (first | apply Kd.N_alloc | apply Kd.N_drewN | apply Kd.N_drew));exact HO108.out) hb);have n2_ := Aside0.mk (Kd.N_below (by (with_reducible repeat (first | apply Kd.N_alloc | apply Kd.N_drewN | apply Kd.N_drew));exact HO112.out) hb);have n3_ := Aside0.mk (Kd.N_below (by (with_reducible repeat (first | apply Kd.N_alloc | apply Kd.N_drewN | apply Kd.N_drew));exact HO116.out) hb);have n4_ := Aside0.mk (below_step (by exact HB.out) hb);clear HO103;clear HO108;clear HO112;clear HO116;clear HB;have HO103 := n0_;have HO108 := n1_;have HO112 := n2_;have HO116 := n3_;have HB := n4_;clear n0_ n1_ n2_ n3_ n4_;(try clear hb);(try clear hb2);(try clear hk);(try clear hi)));try go_wp2_with (first | (go_at_call 26;(with_reducible refine (impl_OccsSame.calls kj2 _ _ t109 _ _ t113 true _ ?side1 ?side2 ?side3 ?side4 A17.out).mono ?_);(case side1 => repeat (first | exact (Kd.N_reads' HO112.out).2.2 | (with_reducible refine Kd.C_alloc ?_ _) | (with_reducible refine Kd.C_drewN ?_ _) | (with_reducible refine Kd.C_drew ?_)));(case side2 => exact (Kd.N_reads' HO112.out).2.1);(case side3 => repeat (first | exact (Kd.N_reads' HO116.out).2.2 | (with_reducible refine Kd.C_alloc ?_ _) | (with_reducible refine Kd.C_drewN ?_ _) | (with_reducible refine Kd.C_drew ?_)));(case side4 => exact (Kd.N_reads' HO116.out).2.1);rintro e w23 ⟨rfl, hb⟩;have n0_ := Aside0.mk (Kd.N_below (by (with_reducible repeat (first | apply Kd.N_alloc | apply Kd.N_drewN | apply Kd.N_drew));exact HO103.out) hb);have n1_ := Aside0.mk (Kd.N_below (by (with_reducible repeat (first | apply Kd.N_alloc | apply Kd.N_drewN | apply Kd.N_drew));exact HO108.out) hb);have n2_ := Aside0.mk (Kd.N_below (by (with_reducible repeat (first | apply Kd.N_alloc | apply Kd.N_drewN | apply Kd.N_drew));exact HO112.out) hb);have n3_ := Aside0.mk (Kd.N_below (by (with_reducible repeat (first | apply Kd.N_alloc | apply Kd.N_drewN | apply Kd.N_drew));exact HO116.out) hb);have n4_ := Aside0.mk (below_step (by exact HB.out) hb);clear HO103;clear HO108;clear HO112;clear HO116;clear HB;have HO103 := n0_;have HO108 := n1_;have HO112 := n2_;have HO116 := n3_;have HB := n4_;clear n0_ n1_ n2_ n3_ n4_;(try clear hb);(try clear hb2);(try clear hk);(try clear hi);obtain ⟨Ao24, co24, eo24⟩ := Kd.N_slice HO108.out;subst eo24) | (go_at_call 28;(with_reducible refine (spec_OccsOk.calls kj2 _ _ t106 t118 _ ?side1 ?side2 A20.out).mono ?_);(case side1 => repeat (first | exact (Kd.N_reads' HO108.out).2.2 | (with_reducible refine Kd.C_alloc ?_ _) | (with_reducible refine Kd.C_drewN ?_ _) | (with_reducible refine Kd.C_drew ?_)));(case side2 => exact (Kd.N_reads' HO108.out).2.1);rintro e w25 ⟨rfl, hb⟩;have n0_ := Aside0.mk (Kd.N_below (by (with_reducible repeat (first | apply Kd.N_alloc | apply Kd.N_drewN | apply Kd.N_drew));exact HO103.out) hb);have n1_ := Aside0.mk (Kd.N_below (by (with_reducible repeat (first | apply Kd.N_alloc | apply Kd.N_drewN | apply Kd.N_drew));exact HO108.out) hb);have n2_ := Aside0.mk (Kd.N_below (by (with_reducible repeat (first | apply Kd.N_alloc | apply Kd.N_drewN | apply Kd.N_drew));exact HO112.out) hb);have n3_ := Aside0.mk (Kd.N_below (by (with_reducible repeat (first | apply Kd.N_alloc | apply Kd.N_drewN | apply Kd.N_drew));exact HO116.out) hb);have n4_ := Aside0.mk (below_step (by exact HB.out) hb);clear HO103;clear HO108;clear HO112;clear HO116;clear HB;have HO103 := n0_;have HO108 := n1_;have HO112 := n2_;have HO116 := n3_;have HB := n4_;clear n0_ n1_ n2_ n3_ n4_;(try clear hb);(try clear hb2);(try clear hk);(try clear hi))))
        go_meet
        case rel => exact ⟨_, (!t118), (by first | rfl | (simp;done) | (simp [*];done)), H', ⟨by have := HJ2.out;first | omega | exact Nat.le_refl _⟩, ⟨by (with_reducible repeat (first | apply Kd.N_alloc | apply Kd.N_drewN | apply Kd.N_drew));exact Kd.N_mono HO103.out (fun _ hk => ⟨hk.1.1.2, ⟨hk.1.2, hk.2⟩⟩)⟩, ⟨by (with_reducible repeat (first | apply Kd.N_alloc | apply Kd.N_drewN | apply Kd.N_drew));exact Kd.N_mono HO108.out (fun _ hk => ⟨hk.1.1, ⟨hk.1.2, hk.2⟩⟩)⟩, ⟨by (with_reducible repeat (first | apply Kd.N_alloc | apply Kd.N_drewN | apply Kd.N_drew));exact Kd.N_mono HO112.out (fun _ hk => ⟨hk.1.1, ⟨hk.1.2, hk.2⟩⟩)⟩, ⟨by (with_reducible repeat (first | apply Kd.N_alloc | apply Kd.N_drewN | apply Kd.N_drew));exact HO116.out⟩, ⟨by repeat (first | (with_reducible first | exact HB.out | apply below_alloc | apply pw_below_drewN | apply below_drew1) | exact HB.out)⟩⟩
       ·replace c19 := Bool.eq_false_iff.mpr c19
        subst c19
        have H1 : (laws_FnPlusOr.j1 kj2 t101 t104 t105 t106 t109 false t113 t114 true) = some r := by rw [if_neg (show ¬ (false = true) by decide)] at H;exact H
        clear H
        have H := H1
        clear H1
        have H' := Aside0.mk H
        clear H
        obtain ⟨Ao26, co26, eo26⟩ := Kd.N_slice HO112.out
        subst eo26
        obtain ⟨Ao27, co27, eo27⟩ := Kd.N_slice HO116.out
        subst eo27
        go_wp2_with (first | (go_at_call 26;(with_reducible refine (impl_OccsSame.calls kj2 _ _ t109 _ _ t113 true _ ?side1 ?side2 ?side3 ?side4 A17.out).mono ?_);(case side1 => repeat (first | exact (Kd.N_reads' HO112.out).2.2 | (with_reducible refine Kd.C_alloc ?_ _) | (with_reducible refine Kd.C_drewN ?_ _) | (with_reducible refine Kd.C_drew ?_)));(case side2 => exact (Kd.N_reads' HO112.out).2.1);(case side3 => repeat (first | exact (Kd.N_reads' HO116.out).2.2 | (with_reducible refine Kd.C_alloc ?_ _) | (with_reducible refine Kd.C_drewN ?_ _) | (with_reducible refine Kd.C_drew ?_)));(case side4 => exact (Kd.N_reads' HO116.out).2.1);rintro e w28 ⟨rfl, hb⟩;have n0_ := Aside0.mk (Kd.N_below (by (with_reducible repeat (first | apply Kd.N_alloc | apply Kd.N_drewN | apply Kd.N_drew));exact HO103.out) hb);have n1_ := Aside0.mk (Kd.N_below (by (with_reducible repeat (first | apply Kd.N_alloc | apply Kd.N_drewN | apply Kd.N_drew));exact HO108.out) hb);have n2_ := Aside0.mk (Kd.N_below (by (with_reducible repeat (first | apply Kd.N_alloc | apply Kd.N_drewN | apply Kd.N_drew));exact HO112.out) hb);have n3_ := Aside0.mk (Kd.N_below (by (with_reducible repeat (first | apply Kd.N_alloc | apply Kd.N_drewN | apply Kd.N_drew));exact HO116.out) hb);have n4_ := Aside0.mk (below_step (by exact HB.out) hb);clear HO103;clear HO108;clear HO112;clear HO116;clear HB;have HO103 := n0_;have HO108 := n1_;have HO112 := n2_;have HO116 := n3_;have HB := n4_;clear n0_ n1_ n2_ n3_ n4_;(try clear hb);(try clear hb2);(try clear hk);(try clear hi)))
        repeat (go_quiet (first | (go_at_call 26;(with_reducible refine (impl_OccsSame.calls kj2 _ _ t109 _ _ t113 true _ ?side1 ?side2 ?side3 ?side4 A17.out).mono ?_);(case side1 => repeat (first | exact (Kd.N_reads' HO112.out).2.2 | (with_reducible refine Kd.C_alloc ?_ _) | (with_reducible refine Kd.C_drewN ?_ _) | (with_reducible refine Kd.C_drew ?_)));(case side2 => exact (Kd.N_reads' HO112.out).2.1);(case side3 => repeat (first | exact (Kd.N_reads' HO116.out).2.2 | (with_reducible refine Kd.C_alloc ?_ _) | (with_reducible refine Kd.C_drewN ?_ _) | (with_reducible refine Kd.C_drew ?_)));(case side4 => exact (Kd.N_reads' HO116.out).2.1);rintro e w28 ⟨rfl, hb⟩;have n0_ := Aside0.mk (Kd.N_below (by (with_reducible repeat (first | apply Kd.N_alloc | apply Kd.N_drewN | apply Kd.N_drew));exact HO103.out) hb);have n1_ := Aside0.mk (Kd.N_below (by (with_reducible repeat (first | apply Kd.N_alloc | apply Kd.N_drewN | apply Kd.N_drew));exact HO108.out) hb);have n2_ := Aside0.mk (Kd.N_below (by (with_reducible repeat (first | apply Kd.N_alloc | apply Kd.N_drewN | apply Kd.N_drew));exact HO112.out) hb);have n3_ := Aside0.mk (Kd.N_below (by (with_reducible repeat (first | apply Kd.N_alloc | apply Kd.N_drewN | apply Kd.N_drew));exact HO116.out) hb);have n4_ := Aside0.mk (below_step (by exact HB.out) hb);clear HO103;clear HO108;clear HO112;clear HO116;clear HB;have HO103 := n0_;have HO108 := n1_;have HO112 := n2_;have HO116 := n3_;have HB := n4_;clear n0_ n1_ n2_ n3_ n4_;(try clear hb);(try clear hb2);(try clear hk);(try clear hi)));try go_wp2_with (first | (go_at_call 26;(with_reducible refine (impl_OccsSame.calls kj2 _ _ t109 _ _ t113 true _ ?side1 ?side2 ?side3 ?side4 A17.out).mono ?_);(case side1 => repeat (first | exact (Kd.N_reads' HO112.out).2.2 | (with_reducible refine Kd.C_alloc ?_ _) | (with_reducible refine Kd.C_drewN ?_ _) | (with_reducible refine Kd.C_drew ?_)));(case side2 => exact (Kd.N_reads' HO112.out).2.1);(case side3 => repeat (first | exact (Kd.N_reads' HO116.out).2.2 | (with_reducible refine Kd.C_alloc ?_ _) | (with_reducible refine Kd.C_drewN ?_ _) | (with_reducible refine Kd.C_drew ?_)));(case side4 => exact (Kd.N_reads' HO116.out).2.1);rintro e w28 ⟨rfl, hb⟩;have n0_ := Aside0.mk (Kd.N_below (by (with_reducible repeat (first | apply Kd.N_alloc | apply Kd.N_drewN | apply Kd.N_drew));exact HO103.out) hb);have n1_ := Aside0.mk (Kd.N_below (by (with_reducible repeat (first | apply Kd.N_alloc | apply Kd.N_drewN | apply Kd.N_drew));exact HO108.out) hb);have n2_ := Aside0.mk (Kd.N_below (by (with_reducible repeat (first | apply Kd.N_alloc | apply Kd.N_drewN | apply Kd.N_drew));exact HO112.out) hb);have n3_ := Aside0.mk (Kd.N_below (by (with_reducible repeat (first | apply Kd.N_alloc | apply Kd.N_drewN | apply Kd.N_drew));exact HO116.out) hb);have n4_ := Aside0.mk (below_step (by exact HB.out) hb);clear HO103;clear HO108;clear HO112;clear HO116;clear HB;have HO103 := n0_;have HO108 := n1_;have HO112 := n2_;have HO116 := n3_;have HB := n4_;clear n0_ n1_ n2_ n3_ n4_;(try clear hb);(try clear hb2);(try clear hk);(try clear hi))))
        go_meet
        case rel => exact ⟨_, (true), (by first | rfl | (simp;done) | (simp [*];done)), H', ⟨by have := HJ2.out;first | omega | exact Nat.le_refl _⟩, ⟨by (with_reducible repeat (first | apply Kd.N_alloc | apply Kd.N_drewN | apply Kd.N_drew));exact Kd.N_mono HO103.out (fun _ hk => ⟨hk.1.1.2, ⟨hk.1.2, hk.2⟩⟩)⟩, ⟨by (with_reducible repeat (first | apply Kd.N_alloc | apply Kd.N_drewN | apply Kd.N_drew));exact Kd.N_mono HO108.out (fun _ hk => ⟨hk.1.1, ⟨hk.1.2, hk.2⟩⟩)⟩, ⟨by (with_reducible repeat (first | apply Kd.N_alloc | apply Kd.N_drewN | apply Kd.N_drew));exact Kd.N_mono HO112.out (fun _ hk => ⟨hk.1.1, ⟨hk.1.2, hk.2⟩⟩)⟩, ⟨by (with_reducible repeat (first | apply Kd.N_alloc | apply Kd.N_drewN | apply Kd.N_drew));exact HO116.out⟩, ⟨by repeat (first | (with_reducible first | exact HB.out | apply below_alloc | apply pw_below_drewN | apply below_drew1) | exact HB.out)⟩⟩
      ·replace c18 := Bool.eq_false_iff.mpr c18
       subst c18
       have H1 : (laws_FnPlusOr.j1 kj2 t101 t104 t105 t106 t109 t110 t113 t114 true) = some r := by rw [if_neg (show ¬ (false = true) by decide)] at H;exact H
       clear H
       have H := H1
       clear H1
       have H' := Aside0.mk H
       clear H
       obtain ⟨Ao29, co29, eo29⟩ := Kd.N_slice HO112.out
       subst eo29
       obtain ⟨Ao30, co30, eo30⟩ := Kd.N_slice HO116.out
       subst eo30
       go_wp2_with (first | (go_at_call 26;(with_reducible refine (impl_OccsSame.calls kj2 _ _ t109 _ _ t113 false _ ?side1 ?side2 ?side3 ?side4 A17.out).mono ?_);(case side1 => repeat (first | exact (Kd.N_reads' HO112.out).2.2 | (with_reducible refine Kd.C_alloc ?_ _) | (with_reducible refine Kd.C_drewN ?_ _) | (with_reducible refine Kd.C_drew ?_)));(case side2 => exact (Kd.N_reads' HO112.out).2.1);(case side3 => repeat (first | exact (Kd.N_reads' HO116.out).2.2 | (with_reducible refine Kd.C_alloc ?_ _) | (with_reducible refine Kd.C_drewN ?_ _) | (with_reducible refine Kd.C_drew ?_)));(case side4 => exact (Kd.N_reads' HO116.out).2.1);rintro e w31 ⟨rfl, hb⟩;have n0_ := Aside0.mk (Kd.N_below (by (with_reducible repeat (first | apply Kd.N_alloc | apply Kd.N_drewN | apply Kd.N_drew));exact HO103.out) hb);have n1_ := Aside0.mk (Kd.N_below (by (with_reducible repeat (first | apply Kd.N_alloc | apply Kd.N_drewN | apply Kd.N_drew));exact HO108.out) hb);have n2_ := Aside0.mk (Kd.N_below (by (with_reducible repeat (first | apply Kd.N_alloc | apply Kd.N_drewN | apply Kd.N_drew));exact HO112.out) hb);have n3_ := Aside0.mk (Kd.N_below (by (with_reducible repeat (first | apply Kd.N_alloc | apply Kd.N_drewN | apply Kd.N_drew));exact HO116.out) hb);have n4_ := Aside0.mk (below_step (by exact HB.out) hb);clear HO103;clear HO108;clear HO112;clear HO116;clear HB;have HO103 := n0_;have HO108 := n1_;have HO112 := n2_;have HO116 := n3_;have HB := n4_;clear n0_ n1_ n2_ n3_ n4_;(try clear hb);(try clear hb2);(try clear hk);(try clear hi)))
       repeat (go_quiet (first | (go_at_call 26;(with_reducible refine (impl_OccsSame.calls kj2 _ _ t109 _ _ t113 false _ ?side1 ?side2 ?side3 ?side4 A17.out).mono ?_);(case side1 => repeat (first | exact (Kd.N_reads' HO112.out).2.2 | (with_reducible refine Kd.C_alloc ?_ _) | (with_reducible refine Kd.C_drewN ?_ _) | (with_reducible refine Kd.C_drew ?_)));(case side2 => exact (Kd.N_reads' HO112.out).2.1);(case side3 => repeat (first | exact (Kd.N_reads' HO116.out).2.2 | (with_reducible refine Kd.C_alloc ?_ _) | (with_reducible refine Kd.C_drewN ?_ _) | (with_reducible refine Kd.C_drew ?_)));(case side4 => exact (Kd.N_reads' HO116.out).2.1);rintro e w31 ⟨rfl, hb⟩;have n0_ := Aside0.mk (Kd.N_below (by (with_reducible repeat (first | apply Kd.N_alloc | apply Kd.N_drewN | apply Kd.N_drew));exact HO103.out) hb);have n1_ := Aside0.mk (Kd.N_below (by (with_reducible repeat (first | apply Kd.N_alloc | apply Kd.N_drewN | apply Kd.N_drew));exact HO108.out) hb);have n2_ := Aside0.mk (Kd.N_below (by (with_reducible repeat (first | apply Kd.N_alloc | apply Kd.N_drewN | apply Kd.N_drew));exact HO112.out) hb);have n3_ := Aside0.mk (Kd.N_below (by (with_reducible repeat (first | apply Kd.N_alloc | apply Kd.N_drewN | apply Kd.N_drew));exact HO116.out) hb);have n4_ := Aside0.mk (below_step (by exact HB.out) hb);clear HO103;clear HO108;clear HO112;clear HO116;clear HB;have HO103 := n0_;have HO108 := n1_;have HO112 := n2_;have HO116 := n3_;have HB := n4_;clear n0_ n1_ n2_ n3_ n4_;(try clear hb);(try clear hb2);(try clear hk);(try clear hi)));try go_wp2_with (first | (go_at_call 26;(with_reducible refine (impl_OccsSame.calls kj2 _ _ t109 _ _ t113 false _ ?side1 ?side2 ?side3 ?side4 A17.out).mono ?_);(case side1 => repeat (first | exact (Kd.N_reads' HO112.out).2.2 | (with_reducible refine Kd.C_alloc ?_ _) | (with_reducible refine Kd.C_drewN ?_ _) | (with_reducible refine Kd.C_drew ?_)));(case side2 => exact (Kd.N_reads' HO112.out).2.1);(case side3 => repeat (first | exact (Kd.N_reads' HO116.out).2.2 | (with_reducible refine Kd.C_alloc ?_ _) | (with_reducible refine Kd.C_drewN ?_ _) | (with_reducible refine Kd.C_drew ?_)));(case side4 => exact (Kd.N_reads' HO116.out).2.1);rintro e w31 ⟨rfl, hb⟩;have n0_ := Aside0.mk (Kd.N_below (by (with_reducible repeat (first | apply Kd.N_alloc | apply Kd.N_drewN | apply Kd.N_drew));exact HO103.out) hb);have n1_ := Aside0.mk (Kd.N_below (by (with_reducible repeat (first | apply Kd.N_alloc | apply Kd.N_drewN | apply Kd.N_drew));exact HO108.out) hb);have n2_ := Aside0.mk (Kd.N_below (by (with_reducible repeat (first | apply Kd.N_alloc | apply Kd.N_drewN | apply Kd.N_drew));exact HO112.out) hb);have n3_ := Aside0.mk (Kd.N_below (by (with_reducible repeat (first | apply Kd.N_alloc | apply Kd.N_drewN | apply Kd.N_drew));exact HO116.out) hb);have n4_ := Aside0.mk (below_step (by exact HB.out) hb);clear HO103;clear HO108;clear HO112;clear HO116;clear HB;have HO103 := n0_;have HO108 := n1_;have HO112 := n2_;have HO116 := n3_;have HB := n4_;clear n0_ n1_ n2_ n3_ n4_;(try clear hb);(try clear hb2);(try clear hk);(try clear hi))))
       go_meet
       case rel => exact ⟨_, (true), (by first | rfl | (simp;done) | (simp [*];done)), H', ⟨by have := HJ2.out;first | omega | exact Nat.le_refl _⟩, ⟨by (with_reducible repeat (first | apply Kd.N_alloc | apply Kd.N_drewN | apply Kd.N_drew));exact Kd.N_mono HO103.out (fun _ hk => ⟨hk.1.1.2, ⟨hk.1.2, hk.2⟩⟩)⟩, ⟨by (with_reducible repeat (first | apply Kd.N_alloc | apply Kd.N_drewN | apply Kd.N_drew));exact Kd.N_mono HO108.out (fun _ hk => ⟨hk.1.1, ⟨hk.1.2, hk.2⟩⟩)⟩, ⟨by (with_reducible repeat (first | apply Kd.N_alloc | apply Kd.N_drewN | apply Kd.N_drew));exact Kd.N_mono HO112.out (fun _ hk => ⟨hk.1.1, ⟨hk.1.2, hk.2⟩⟩)⟩, ⟨by (with_reducible repeat (first | apply Kd.N_alloc | apply Kd.N_drewN | apply Kd.N_drew));exact HO116.out⟩, ⟨by repeat (first | (with_reducible first | exact HB.out | apply below_alloc | apply pw_below_drewN | apply below_drew1) | exact HB.out)⟩⟩
    case rest =>
     clear HC10
     try clear c1
     try clear p2
     try clear c4
     try clear c4b0
     try clear c4b1
     try clear c5
     try clear c16
     try clear c16b0
     try clear c16b1
     try clear c16b2
     try clear c17
     try clear c18
     try clear c19
     try clear p2
     obtain ⟨kq, x71_9, rfl, HA, HJ9, HO_5, HO_8, HO_9, HO_11, HB⟩ := hcut
     cases kq with
     | zero => exact absurd HA.out (by simp [laws_FnPlusOr.j1])
     | succ kj9 =>
      have H := HA.out
      clear HA
      simp only [laws_FnPlusOr.j1] at H
      by_cases c32 : x71_9 = true
      ·subst c32
       have H1 : (if (t110 == t114) = true then ((impl_OccsSame.f kj9 t109 t113).bind fun t119 => (some t119)) else (some false)) = some r := by rw [if_pos rfl] at H;exact H
       clear H
       have H := H1
       clear H1
       by_cases c33 : (t110 == t114) = true
       ·rw [if_pos c33] at H
        have c33b0 : (t110 == t114) = true := c33
        (try (have c33b1 : decide (t110 = t114) = true := by simpa using c33))
        (try (have c33b2 : (t110 == t114) = true := by simpa using c33))
        clear c33
        replace H := Option.bind_eq_some_iff.mp H
        obtain ⟨t119, A340, H⟩ := H
        replace H : (some t119) = some r := H
        have A34 := Aside0.mk A340
        clear A340
        obtain rfl := Option.some.inj H
        obtain ⟨Ao35, co35, eo35⟩ := Kd.N_slice HO_9.out
        subst eo35
        obtain ⟨Ao36, co36, eo36⟩ := Kd.N_slice HO_11.out
        subst eo36
        go_wp2_with (first | (go_at_call 26;(with_reducible refine (impl_OccsSame.calls kj9 _ _ t109 _ _ t113 t119 _ ?side1 ?side2 ?side3 ?side4 A34.out).mono ?_);(case side1 => repeat (first | exact (Kd.N_reads' HO_9.out).2.2 | (with_reducible refine Kd.C_alloc ?_ _) | (with_reducible refine Kd.C_drewN ?_ _) | (with_reducible refine Kd.C_drew ?_)));(case side2 => exact (Kd.N_reads' HO_9.out).2.1);(case side3 => repeat (first | exact (Kd.N_reads' HO_11.out).2.2 | (with_reducible refine Kd.C_alloc ?_ _) | (with_reducible refine Kd.C_drewN ?_ _) | (with_reducible refine Kd.C_drew ?_)));(case side4 => exact (Kd.N_reads' HO_11.out).2.1);rintro e w37 ⟨rfl, hb⟩;have n0_ := Aside0.mk (Kd.N_below (by (with_reducible repeat (first | apply Kd.N_alloc | apply Kd.N_drewN | apply Kd.N_drew));exact HO_5.out) hb);have n1_ := Aside0.mk (Kd.N_below (by (with_reducible repeat (first | apply Kd.N_alloc | apply Kd.N_drewN | apply Kd.N_drew));exact HO_8.out) hb);have n2_ := Aside0.mk (Kd.N_below (by (with_reducible repeat (first | apply Kd.N_alloc | apply Kd.N_drewN | apply Kd.N_drew));exact HO_9.out) hb);have n3_ := Aside0.mk (Kd.N_below (by (with_reducible repeat (first | apply Kd.N_alloc | apply Kd.N_drewN | apply Kd.N_drew));exact HO_11.out) hb);have n4_ := Aside0.mk (below_step (by exact HB.out) hb);clear HO_5;clear HO_8;clear HO_9;clear HO_11;clear HB;have HO_5 := n0_;have HO_8 := n1_;have HO_9 := n2_;have HO_11 := n3_;have HB := n4_;clear n0_ n1_ n2_ n3_ n4_;(try clear hb);(try clear hb2);(try clear hk);(try clear hi)))
        repeat (go_quiet (first | (go_at_call 26;(with_reducible refine (impl_OccsSame.calls kj9 _ _ t109 _ _ t113 t119 _ ?side1 ?side2 ?side3 ?side4 A34.out).mono ?_);(case side1 => repeat (first | exact (Kd.N_reads' HO_9.out).2.2 | (with_reducible refine Kd.C_alloc ?_ _) | (with_reducible refine Kd.C_drewN ?_ _) | (with_reducible refine Kd.C_drew ?_)));(case side2 => exact (Kd.N_reads' HO_9.out).2.1);(case side3 => repeat (first | exact (Kd.N_reads' HO_11.out).2.2 | (with_reducible refine Kd.C_alloc ?_ _) | (with_reducible refine Kd.C_drewN ?_ _) | (with_reducible refine Kd.C_drew ?_)));(case side4 => exact (Kd.N_reads' HO_11.out).2.1);rintro e w37 ⟨rfl, hb⟩;have n0_ := Aside0.mk (Kd.N_below (by (with_reducible repeat (first | apply Kd.N_alloc | apply Kd.N_drewN | apply Kd.N_drew));exact HO_5.out) hb);have n1_ := Aside0.mk (Kd.N_below (by (with_reducible repeat (first | apply Kd.N_alloc | apply Kd.N_drewN | apply Kd.N_drew));exact HO_8.out) hb);have n2_ := Aside0.mk (Kd.N_below (by (with_reducible repeat (first | apply Kd.N_alloc | apply Kd.N_drewN | apply Kd.N_drew));exact HO_9.out) hb);have n3_ := Aside0.mk (Kd.N_below (by (with_reducible repeat (first | apply Kd.N_alloc | apply Kd.N_drewN | apply Kd.N_drew));exact HO_11.out) hb);have n4_ := Aside0.mk (below_step (by exact HB.out) hb);clear HO_5;clear HO_8;clear HO_9;clear HO_11;clear HB;have HO_5 := n0_;have HO_8 := n1_;have HO_9 := n2_;have HO_11 := n3_;have HB := n4_;clear n0_ n1_ n2_ n3_ n4_;(try clear hb);(try clear hb2);(try clear hk);(try clear hi)));try go_wp2_with (first | (go_at_call 26;(with_reducible refine (impl_OccsSame.calls kj9 _ _ t109 _ _ t113 t119 _ ?side1 ?side2 ?side3 ?side4 A34.out).mono ?_);(case side1 => repeat (first | exact (Kd.N_reads' HO_9.out).2.2 | (with_reducible refine Kd.C_alloc ?_ _) | (with_reducible refine Kd.C_drewN ?_ _) | (with_reducible refine Kd.C_drew ?_)));(case side2 => exact (Kd.N_reads' HO_9.out).2.1);(case side3 => repeat (first | exact (Kd.N_reads' HO_11.out).2.2 | (with_reducible refine Kd.C_alloc ?_ _) | (with_reducible refine Kd.C_drewN ?_ _) | (with_reducible refine Kd.C_drew ?_)));(case side4 => exact (Kd.N_reads' HO_11.out).2.1);rintro e w37 ⟨rfl, hb⟩;have n0_ := Aside0.mk (Kd.N_below (by (with_reducible repeat (first | apply Kd.N_alloc | apply Kd.N_drewN | apply Kd.N_drew));exact HO_5.out) hb);have n1_ := Aside0.mk (Kd.N_below (by (with_reducible repeat (first | apply Kd.N_alloc | apply Kd.N_drewN | apply Kd.N_drew));exact HO_8.out) hb);have n2_ := Aside0.mk (Kd.N_below (by (with_reducible repeat (first | apply Kd.N_alloc | apply Kd.N_drewN | apply Kd.N_drew));exact HO_9.out) hb);have n3_ := Aside0.mk (Kd.N_below (by (with_reducible repeat (first | apply Kd.N_alloc | apply Kd.N_drewN | apply Kd.N_drew));exact HO_11.out) hb);have n4_ := Aside0.mk (below_step (by exact HB.out) hb);clear HO_5;clear HO_8;clear HO_9;clear HO_11;clear HB;have HO_5 := n0_;have HO_8 := n1_;have HO_9 := n2_;have HO_11 := n3_;have HB := n4_;clear n0_ n1_ n2_ n3_ n4_;(try clear hb);(try clear hb2);(try clear hk);(try clear hi))))
        go_ret
        exact ⟨by first | rfl | (simp [errW_none, errW_some] <;> rfl) | (simp [*, errW_none, errW_some] <;> rfl), by repeat (first | (with_reducible first | exact HB.out | apply below_alloc | apply pw_below_drewN | apply below_drew1) | exact HB.out)⟩
       ·rw [if_neg c33] at H
        have c33b0 : (t110 == t114) = false := by simpa using c33
        (try (have c33b1 : decide (t110 = t114) = false := by simpa using c33))
        (try (have c33b2 : (t110 == t114) = false := by simpa using c33))
        (try (have c33b3 : ¬ (t110 = t114) := by simpa using c33))
        clear c33
        exact absurd (Option.some.inj H) (by rw [hT_.out];decide)
      ·replace c32 := Bool.eq_false_iff.mpr c32
       subst c32
       have H1 : ((impl_PlusOf.f kj9 t106 t104 t105).bind fun bt120 => ((impl_OrOf.f kj9 t101 t106).bind fun bt124 => ((impl_PlusOf.f kj9 bt124.1 t104 t105).bind fun bt128 => ((impl_OrOf.f kj9 t109 bt120.1).bind fun bt132 => (laws_FnPlusOr.l0 kj9 t101 t104 t105 t109 bt120.2 bt124.2 bt128.1 bt128.2 bt132.1 bt132.2 0))))) = some r := by rw [if_neg (show ¬ (false = true) by decide)] at H;exact H
       clear H
       have H := H1
       clear H1
       replace H := Option.bind_eq_some_iff.mp H
       obtain ⟨⟨t120, t121⟩, A380, H⟩ := H
       replace H : ((impl_OrOf.f kj9 t101 t106).bind fun bt124 => ((impl_PlusOf.f kj9 bt124.1 t104 t105).bind fun bt128 => ((impl_OrOf.f kj9 t109 t120).bind fun bt132 => (laws_FnPlusOr.l0 kj9 t101 t104 t105 t109 t121 bt124.2 bt128.1 bt128.2 bt132.1 bt132.2 0)))) = some r := H
       have A38 := Aside0.mk A380
       clear A380
       replace H := Option.bind_eq_some_iff.mp H
       obtain ⟨⟨t124, t125⟩, A390, H⟩ := H
       replace H : ((impl_PlusOf.f kj9 t124 t104 t105).bind fun bt128 => ((impl_OrOf.f kj9 t109 t120).bind fun bt132 => (laws_FnPlusOr.l0 kj9 t101 t104 t105 t109 t121 t125 bt128.1 bt128.2 bt132.1 bt132.2 0))) = some r := H
       have A39 := Aside0.mk A390
       clear A390
       replace H := Option.bind_eq_some_iff.mp H
       obtain ⟨⟨t128, t129⟩, A400, H⟩ := H
       replace H : ((impl_OrOf.f kj9 t109 t120).bind fun bt132 => (laws_FnPlusOr.l0 kj9 t101 t104 t105 t109 t121 t125 t128 t129 bt132.1 bt132.2 0)) = some r := H
       have A40 := Aside0.mk A400
       clear A400
       replace H := Option.bind_eq_some_iff.mp H
       obtain ⟨⟨t132, t133⟩, A410, H⟩ := H
       replace H : (laws_FnPlusOr.l0 kj9 t101 t104 t105 t109 t121 t125 t128 t129 t132 t133 0) = some r := H
       have A41 := Aside0.mk A410
       clear A410
       have H' := Aside0.mk H
       clear H
       obtain ⟨Ao42, co42, eo42⟩ := Kd.N_slice HO_8.out
       subst eo42
       go_wp2_with (first | (go_at_call 61;(with_reducible refine (impl_PlusOf.calls kj9 _ _ t106 t104 t105 t120 t121 _ ?side1 ?side2 A38.out).mono ?_);(case side1 => repeat (first | exact (Kd.N_reads' HO_8.out).2.2 | (with_reducible refine Kd.C_alloc ?_ _) | (with_reducible refine Kd.C_drewN ?_ _) | (with_reducible refine Kd.C_drew ?_)));(case side2 => exact (Kd.N_reads' HO_8.out).2.1);rintro e w43 ⟨v122, rfl, ho0, hb⟩;have n0_ := Aside0.mk (Kd.N_elder' (by (with_reducible repeat (first | apply Kd.N_alloc | apply Kd.N_drewN | apply Kd.N_drew));exact HO_5.out) (by first | exact Kd.N_base ho0 | exact Kd.S_base ho0) hb);have n1_ := Aside0.mk (Kd.N_elder' (by (with_reducible repeat (first | apply Kd.N_alloc | apply Kd.N_drewN | apply Kd.N_drew));exact HO_8.out) (by first | exact Kd.N_base ho0 | exact Kd.S_base ho0) hb);have n2_ := Aside0.mk (Kd.N_elder' (by (with_reducible repeat (first | apply Kd.N_alloc | apply Kd.N_drewN | apply Kd.N_drew));exact HO_9.out) (by first | exact Kd.N_base ho0 | exact Kd.S_base ho0) hb);have n3_ := Aside0.mk (Kd.N_elder' (by (with_reducible repeat (first | apply Kd.N_alloc | apply Kd.N_drewN | apply Kd.N_drew));exact HO_11.out) (by first | exact Kd.N_base ho0 | exact Kd.S_base ho0) hb);have n4_ := Aside0.mk (Kd.N_lower (Kd.N_mono (ok' := fun k_ => some k_ ≠ (.slice Ao13 t101.length co13 : Value).ownBlock ∧ some k_ ≠ (.slice Ao42 t106.length co42 : Value).ownBlock ∧ some k_ ≠ (v111 : Value).ownBlock ∧ some k_ ≠ (v115 : Value).ownBlock) (Kd.S_N (Kd.S_bound ho0)) (fun k_ hk_ => ⟨(Kd.fresh' (Kd.N_lt (by (with_reducible repeat (first | apply Kd.N_alloc | apply Kd.N_drewN | apply Kd.N_drew));exact HO_5.out)) k_ hk_.2.1), (Kd.fresh' (Kd.N_lt (by (with_reducible repeat (first | apply Kd.N_alloc | apply Kd.N_drewN | apply Kd.N_drew));exact HO_8.out)) k_ hk_.2.1), (Kd.fresh' (Kd.N_lt (by (with_reducible repeat (first | apply Kd.N_alloc | apply Kd.N_drewN | apply Kd.N_drew));exact HO_9.out)) k_ hk_.2.1), (Kd.fresh' (Kd.N_lt (by (with_reducible repeat (first | apply Kd.N_alloc | apply Kd.N_drewN | apply Kd.N_drew));exact HO_11.out)) k_ hk_.2.1)⟩)) (below_size (by exact HB.out)));have n5_ := Aside0.mk (below_step (by exact HB.out) hb);clear HO_5;clear HO_8;clear HO_9;clear HO_11;clear HB;have HO_5 := n0_;have HO_8 := n1_;have HO_9 := n2_;have HO_11 := n3_;have HO123 := n4_;have HB := n5_;clear n0_ n1_ n2_ n3_ n4_ n5_;(try clear hb);(try clear hb2);(try clear hk);(try clear hi);(try clear ho0)) | (go_at_call 58;(with_reducible refine (impl_OrOf.calls kj9 _ _ t101 _ _ t106 t124 t125 _ ?side1 ?side2 ?side3 ?side4 A39.out).mono ?_);(case side1 => repeat (first | exact (Kd.N_reads' HO_5.out).2.2 | (with_reducible refine Kd.C_alloc ?_ _) | (with_reducible refine Kd.C_drewN ?_ _) | (with_reducible refine Kd.C_drew ?_)));(case side2 => exact (Kd.N_reads' HO_5.out).2.1);(case side3 => repeat (first | exact (Kd.N_reads' HO_8.out).2.2 | (with_reducible refine Kd.C_alloc ?_ _) | (with_reducible refine Kd.C_drewN ?_ _) | (with_reducible refine Kd.C_drew ?_)));(case side4 => exact (Kd.N_reads' HO_8.out).2.1);rintro e w44 ⟨v126, rfl, ho0, hb⟩;have n0_ := Aside0.mk (Kd.N_elder' (by (with_reducible repeat (first | apply Kd.N_alloc | apply Kd.N_drewN | apply Kd.N_drew));exact HO_5.out) (by first | exact Kd.N_base ho0 | exact Kd.S_base ho0) hb);have n1_ := Aside0.mk (Kd.N_elder' (by (with_reducible repeat (first | apply Kd.N_alloc | apply Kd.N_drewN | apply Kd.N_drew));exact HO_8.out) (by first | exact Kd.N_base ho0 | exact Kd.S_base ho0) hb);have n2_ := Aside0.mk (Kd.N_elder' (by (with_reducible repeat (first | apply Kd.N_alloc | apply Kd.N_drewN | apply Kd.N_drew));exact HO_9.out) (by first | exact Kd.N_base ho0 | exact Kd.S_base ho0) hb);have n3_ := Aside0.mk (Kd.N_elder' (by (with_reducible repeat (first | apply Kd.N_alloc | apply Kd.N_drewN | apply Kd.N_drew));exact HO_11.out) (by first | exact Kd.N_base ho0 | exact Kd.S_base ho0) hb);have n4_ := Aside0.mk (Kd.N_elder' (by (with_reducible repeat (first | apply Kd.N_alloc | apply Kd.N_drewN | apply Kd.N_drew));exact HO123.out) (by first | exact Kd.N_base ho0 | exact Kd.S_base ho0) hb);have n5_ := Aside0.mk (Kd.N_lower (Kd.N_mono (ok' := fun k_ => some k_ ≠ (.slice Ao13 t101.length co13 : Value).ownBlock ∧ some k_ ≠ (.slice Ao42 t106.length co42 : Value).ownBlock ∧ some k_ ≠ (v111 : Value).ownBlock ∧ some k_ ≠ (v115 : Value).ownBlock ∧ some k_ ≠ (v122 : Value).ownBlock) (Kd.S_N (Kd.S_bound ho0)) (fun k_ hk_ => ⟨(Kd.fresh' (Kd.N_lt (by (with_reducible repeat (first | apply Kd.N_alloc | apply Kd.N_drewN | apply Kd.N_drew));exact HO_5.out)) k_ hk_.2.1), (Kd.fresh' (Kd.N_lt (by (with_reducible repeat (first | apply Kd.N_alloc | apply Kd.N_drewN | apply Kd.N_drew));exact HO_8.out)) k_ hk_.2.1), (Kd.fresh' (Kd.N_lt (by (with_reducible repeat (first | apply Kd.N_alloc | apply Kd.N_drewN | apply Kd.N_drew));exact HO_9.out)) k_ hk_.2.1), (Kd.fresh' (Kd.N_lt (by (with_reducible repeat (first | apply Kd.N_alloc | apply Kd.N_drewN | apply Kd.N_drew));exact HO_11.out)) k_ hk_.2.1), (Kd.fresh' (Kd.N_lt (by (with_reducible repeat (first | apply Kd.N_alloc | apply Kd.N_drewN | apply Kd.N_drew));exact HO123.out)) k_ hk_.2.1)⟩)) (below_size (by exact HB.out)));have n6_ := Aside0.mk (below_step (by exact HB.out) hb);clear HO_5;clear HO_8;clear HO_9;clear HO_11;clear HO123;clear HB;have HO_5 := n0_;have HO_8 := n1_;have HO_9 := n2_;have HO_11 := n3_;have HO123 := n4_;have HO127 := n5_;have HB := n6_;clear n0_ n1_ n2_ n3_ n4_ n5_ n6_;(try clear hb);(try clear hb2);(try clear hk);(try clear hi);(try clear ho0);obtain ⟨Ao45, co45, eo45⟩ := Kd.N_slice HO127.out;subst eo45) | (go_at_call 61;(with_reducible refine (impl_PlusOf.calls kj9 _ _ t124 t104 t105 t128 t129 _ ?side1 ?side2 A40.out).mono ?_);(case side1 => repeat (first | exact (Kd.N_reads' HO127.out).2.2 | (with_reducible refine Kd.C_alloc ?_ _) | (with_reducible refine Kd.C_drewN ?_ _) | (with_reducible refine Kd.C_drew ?_)));(case side2 => exact (Kd.N_reads' HO127.out).2.1);rintro e w46 ⟨v130, rfl, ho0, hb⟩;have n0_ := Aside0.mk (Kd.N_elder' (by (with_reducible repeat (first | apply Kd.N_alloc | apply Kd.N_drewN | apply Kd.N_drew));exact HO_5.out) (by first | exact Kd.N_base ho0 | exact Kd.S_base ho0) hb);have n1_ := Aside0.mk (Kd.N_elder' (by (with_reducible repeat (first | apply Kd.N_alloc | apply Kd.N_drewN | apply Kd.N_drew));exact HO_8.out) (by first | exact Kd.N_base ho0 | exact Kd.S_base ho0) hb);have n2_ := Aside0.mk (Kd.N_elder' (by (with_reducible repeat (first | apply Kd.N_alloc | apply Kd.N_drewN | apply Kd.N_drew));exact HO_9.out) (by first | exact Kd.N_base ho0 | exact Kd.S_base ho0) hb);have n3_ := Aside0.mk (Kd.N_elder' (by (with_reducible repeat (first | apply Kd.N_alloc | apply Kd.N_drewN | apply Kd.N_drew));exact HO_11.out) (by first | exact Kd.N_base ho0 | exact Kd.S_base ho0) hb);have n4_ := Aside0.mk (Kd.N_elder' (by (with_reducible repeat (first | apply Kd.N_alloc | apply Kd.N_drewN | apply Kd.N_drew));exact HO123.out) (by first | exact Kd.N_base ho0 | exact Kd.S_base ho0) hb);have n5_ := Aside0.mk (Kd.N_elder' (by (with_reducible repeat (first | apply Kd.N_alloc | apply Kd.N_drewN | apply Kd.N_drew));exact HO127.out) (by first | exact Kd.N_base ho0 | exact Kd.S_base ho0) hb);have n6_ := Aside0.mk (Kd.N_lower (Kd.N_mono (ok' := fun k_ => some k_ ≠ (.slice Ao13 t101.length co13 : Value).ownBlock ∧ some k_ ≠ (.slice Ao42 t106.length co42 : Value).ownBlock ∧ some k_ ≠ (v111 : Value).ownBlock ∧ some k_ ≠ (v115 : Value).ownBlock ∧ some k_ ≠ (v122 : Value).ownBlock ∧ some k_ ≠ (.slice Ao45 t124.length co45 : Value).ownBlock) (Kd.S_N (Kd.S_bound ho0)) (fun k_ hk_ => ⟨(Kd.fresh' (Kd.N_lt (by (with_reducible repeat (first | apply Kd.N_alloc | apply Kd.N_drewN | apply Kd.N_drew));exact HO_5.out)) k_ hk_.2.1), (Kd.fresh' (Kd.N_lt (by (with_reducible repeat (first | apply Kd.N_alloc | apply Kd.N_drewN | apply Kd.N_drew));exact HO_8.out)) k_ hk_.2.1), (Kd.fresh' (Kd.N_lt (by (with_reducible repeat (first | apply Kd.N_alloc | apply Kd.N_drewN | apply Kd.N_drew));exact HO_9.out)) k_ hk_.2.1), (Kd.fresh' (Kd.N_lt (by (with_reducible repeat (first | apply Kd.N_alloc | apply Kd.N_drewN | apply Kd.N_drew));exact HO_11.out)) k_ hk_.2.1), (Kd.fresh' (Kd.N_lt (by (with_reducible repeat (first | apply Kd.N_alloc | apply Kd.N_drewN | apply Kd.N_drew));exact HO123.out)) k_ hk_.2.1), (Kd.fresh' (Kd.N_lt (by (with_reducible repeat (first | apply Kd.N_alloc | apply Kd.N_drewN | apply Kd.N_drew));exact HO127.out)) k_ hk_.2.1)⟩)) (below_size (by exact HB.out)));have n7_ := Aside0.mk (below_step (by exact HB.out) hb);clear HO_5;clear HO_8;clear HO_9;clear HO_11;clear HO123;clear HO127;clear HB;have HO_5 := n0_;have HO_8 := n1_;have HO_9 := n2_;have HO_11 := n3_;have HO123 := n4_;have HO127 := n5_;have HO131 := n6_;have HB := n7_;clear n0_ n1_ n2_ n3_ n4_ n5_ n6_ n7_;(try clear hb);(try clear hb2);(try clear hk);(try clear hi);(try clear ho0);obtain ⟨Ao47, co47, eo47⟩ := Kd.N_slice HO_9.out;subst eo47;obtain ⟨Ao48, co48, eo48⟩ := Kd.N_slice HO123.out;subst eo48) | (go_at_call 58;(with_reducible refine (impl_OrOf.calls kj9 _ _ t109 _ _ t120 t132 t133 _ ?side1 ?side2 ?side3 ?side4 A41.out).mono ?_);(case side1 => repeat (first | exact (Kd.N_reads' HO_9.out).2.2 | (with_reducible refine Kd.C_alloc ?_ _) | (with_reducible refine Kd.C_drewN ?_ _) | (with_reducible refine Kd.C_drew ?_)));(case side2 => exact (Kd.N_reads' HO_9.out).2.1);(case side3 => repeat (first | exact (Kd.N_reads' HO123.out).2.2 | (with_reducible refine Kd.C_alloc ?_ _) | (with_reducible refine Kd.C_drewN ?_ _) | (with_reducible refine Kd.C_drew ?_)));(case side4 => exact (Kd.N_reads' HO123.out).2.1);rintro e w49 ⟨v134, rfl, ho0, hb⟩;have n0_ := Aside0.mk (Kd.N_elder' (by (with_reducible repeat (first | apply Kd.N_alloc | apply Kd.N_drewN | apply Kd.N_drew));exact HO_5.out) (by first | exact Kd.N_base ho0 | exact Kd.S_base ho0) hb);have n1_ := Aside0.mk (Kd.N_elder' (by (with_reducible repeat (first | apply Kd.N_alloc | apply Kd.N_drewN | apply Kd.N_drew));exact HO_8.out) (by first | exact Kd.N_base ho0 | exact Kd.S_base ho0) hb);have n2_ := Aside0.mk (Kd.N_elder' (by (with_reducible repeat (first | apply Kd.N_alloc | apply Kd.N_drewN | apply Kd.N_drew));exact HO_9.out) (by first | exact Kd.N_base ho0 | exact Kd.S_base ho0) hb);have n3_ := Aside0.mk (Kd.N_elder' (by (with_reducible repeat (first | apply Kd.N_alloc | apply Kd.N_drewN | apply Kd.N_drew));exact HO_11.out) (by first | exact Kd.N_base ho0 | exact Kd.S_base ho0) hb);have n4_ := Aside0.mk (Kd.N_elder' (by (with_reducible repeat (first | apply Kd.N_alloc | apply Kd.N_drewN | apply Kd.N_drew));exact HO123.out) (by first | exact Kd.N_base ho0 | exact Kd.S_base ho0) hb);have n5_ := Aside0.mk (Kd.N_elder' (by (with_reducible repeat (first | apply Kd.N_alloc | apply Kd.N_drewN | apply Kd.N_drew));exact HO127.out) (by first | exact Kd.N_base ho0 | exact Kd.S_base ho0) hb);have n6_ := Aside0.mk (Kd.N_elder' (by (with_reducible repeat (first | apply Kd.N_alloc | apply Kd.N_drewN | apply Kd.N_drew));exact HO131.out) (by first | exact Kd.N_base ho0 | exact Kd.S_base ho0) hb);have n7_ := Aside0.mk (Kd.N_lower (Kd.N_mono (ok' := fun k_ => some k_ ≠ (.slice Ao13 t101.length co13 : Value).ownBlock ∧ some k_ ≠ (.slice Ao42 t106.length co42 : Value).ownBlock ∧ some k_ ≠ (.slice Ao47 t109.length co47 : Value).ownBlock ∧ some k_ ≠ (v115 : Value).ownBlock ∧ some k_ ≠ (.slice Ao48 t120.length co48 : Value).ownBlock ∧ some k_ ≠ (.slice Ao45 t124.length co45 : Value).ownBlock ∧ some k_ ≠ (v130 : Value).ownBlock) (Kd.S_N (Kd.S_bound ho0)) (fun k_ hk_ => ⟨(Kd.fresh' (Kd.N_lt (by (with_reducible repeat (first | apply Kd.N_alloc | apply Kd.N_drewN | apply Kd.N_drew));exact HO_5.out)) k_ hk_.2.1), (Kd.fresh' (Kd.N_lt (by (with_reducible repeat (first | apply Kd.N_alloc | apply Kd.N_drewN | apply Kd.N_drew));exact HO_8.out)) k_ hk_.2.1), (Kd.fresh' (Kd.N_lt (by (with_reducible repeat (first | apply Kd.N_alloc | apply Kd.N_drewN | apply Kd.N_drew));exact HO_9.out)) k_ hk_.2.1), (Kd.fresh' (Kd.N_lt (by (with_reducible repeat (first | apply Kd.N_alloc | apply Kd.N_drewN | apply Kd.N_drew));exact HO_11.out)) k_ hk_.2.1), (Kd.fresh' (Kd.N_lt (by (with_reducible repeat (first | apply Kd.N_alloc | apply Kd.N_drewN | apply Kd.N_drew));exact HO123.out)) k_ hk_.2.1), (Kd.fresh' (Kd.N_lt (by (with_reducible repeat (first | apply Kd.N_alloc | apply Kd.N_drewN | apply Kd.N_drew));exact HO127.out)) k_ hk_.2.1), (Kd.fresh' (Kd.N_lt (by (with_reducible repeat (first | apply Kd.N_alloc | apply Kd.N_drewN | apply Kd.N_drew));exact HO131.out)) k_ hk_.2.1)⟩)) (below_size (by exact HB.out)));have n8_ := Aside0.mk (below_step (by exact HB.out) hb);clear HO_5;clear HO_8;clear HO_9;clear HO_11;clear HO123;clear HO127;clear HO131;clear HB;have HO_5 := n0_;have HO_8 := n1_;have HO_9 := n2_;have HO_11 := n3_;have HO123 := n4_;have HO127 := n5_;have HO131 := n6_;have HO135 := n7_;have HB := n8_;clear n0_ n1_ n2_ n3_ n4_ n5_ n6_ n7_ n8_;(try clear hb);(try clear hb2);(try clear hk);(try clear hi);(try clear ho0)))
       repeat (go_quiet (first | (go_at_call 61;(with_reducible refine (impl_PlusOf.calls kj9 _ _ t106 t104 t105 t120 t121 _ ?side1 ?side2 A38.out).mono ?_);(case side1 => repeat (first | exact (Kd.N_reads' HO_8.out).2.2 | (with_reducible refine Kd.C_alloc ?_ _) | (with_reducible refine Kd.C_drewN ?_ _) | (with_reducible refine Kd.C_drew ?_)));(case side2 => exact (Kd.N_reads' HO_8.out).2.1);rintro e w43 ⟨v122, rfl, ho0, hb⟩;have n0_ := Aside0.mk (Kd.N_elder' (by (with_reducible repeat (first | apply Kd.N_alloc | apply Kd.N_drewN | apply Kd.N_drew));exact HO_5.out) (by first | exact Kd.N_base ho0 | exact Kd.S_base ho0) hb);have n1_ := Aside0.mk (Kd.N_elder' (by (with_reducible repeat (first | apply Kd.N_alloc | apply Kd.N_drewN | apply Kd.N_drew));exact HO_8.out) (by first | exact Kd.N_base ho0 | exact Kd.S_base ho0) hb);have n2_ := Aside0.mk (Kd.N_elder' (by (with_reducible repeat (first | apply Kd.N_alloc | apply Kd.N_drewN | apply Kd.N_drew));exact HO_9.out) (by first | exact Kd.N_base ho0 | exact Kd.S_base ho0) hb);have n3_ := Aside0.mk (Kd.N_elder' (by (with_reducible repeat (first | apply Kd.N_alloc | apply Kd.N_drewN | apply Kd.N_drew));exact HO_11.out) (by first | exact Kd.N_base ho0 | exact Kd.S_base ho0) hb);have n4_ := Aside0.mk (Kd.N_lower (Kd.N_mono (ok' := fun k_ => some k_ ≠ (.slice Ao13 t101.length co13 : Value).ownBlock ∧ some k_ ≠ (.slice Ao42 t106.length co42 : Value).ownBlock ∧ some k_ ≠ (v111 : Value).ownBlock ∧ some k_ ≠ (v115 : Value).ownBlock) (Kd.S_N (Kd.S_bound ho0)) (fun k_ hk_ => ⟨(Kd.fresh' (Kd.N_lt (by (with_reducible repeat (first | apply Kd.N_alloc | apply Kd.N_drewN | apply Kd.N_drew));exact HO_5.out)) k_ hk_.2.1), (Kd.fresh' (Kd.N_lt (by (with_reducible repeat (first | apply Kd.N_alloc | apply Kd.N_drewN | apply Kd.N_drew));exact HO_8.out)) k_ hk_.2.1), (Kd.fresh' (Kd.N_lt (by (with_reducible repeat (first | apply Kd.N_alloc | apply Kd.N_drewN | apply Kd.N_drew));exact HO_9.out)) k_ hk_.2.1), (Kd.fresh' (Kd.N_lt (by (with_reducible repeat (first | apply Kd.N_alloc | apply Kd.N_drewN | apply Kd.N_drew));exact HO_11.out)) k_ hk_.2.1)⟩)) (below_size (by repeat (first | (with_reducible first | exact HB.out | apply below_alloc | apply pw_below_drewN | apply below_drew1) | exact HB.out))));have n5_ := Aside0.mk (below_step (by repeat (first | (with_reducible first | exact HB.out | apply below_alloc | apply pw_below_drewN | apply below_drew1) | exact HB.out)) hb);clear HO_5;clear HO_8;clear HO_9;clear HO_11;clear HB;have HO_5 := n0_;have HO_8 := n1_;have HO_9 := n2_;have HO_11 := n3_;have HO123 := n4_;have HB := n5_;clear n0_ n1_ n2_ n3_ n4_ n5_;(try clear hb);(try clear hb2);(try clear hk);(try clear hi);(try clear ho0)) | (go_at_call 58;(with_reducible refine (impl_OrOf.calls kj9 _ _ t101 _ _ t106 t124 t125 _ ?side1 ?side2 ?side3 ?side4 A39.out).mono ?_);(case side1 => repeat (first | exact (Kd.N_reads' HO_5.out).2.2 | (with_reducible refine Kd.C_alloc ?_ _) | (with_reducible refine Kd.C_drewN ?_ _) | (with_reducible refine Kd.C_drew ?_)));(case side2 => exact (Kd.N_reads' HO_5.out).2.1);(case side3 => repeat (first | exact (Kd.N_reads' HO_8.out).2.2 | (with_reducible refine Kd.C_alloc ?_ _) | (with_reducible refine Kd.C_drewN ?_ _) | (with_reducible refine Kd.C_drew ?_)));(case side4 => exact (Kd.N_reads' HO_8.out).2.1);rintro e w44 ⟨v126, rfl, ho0, hb⟩;have n0_ := Aside0.mk (Kd.N_elder' (by (with_reducible repeat (first | apply Kd.N_alloc | apply Kd.N_drewN | apply Kd.N_drew));exact HO_5.out) (by first | exact Kd.N_base ho0 | exact Kd.S_base ho0) hb);have n1_ := Aside0.mk (Kd.N_elder' (by (with_reducible repeat (first | apply Kd.N_alloc | apply Kd.N_drewN | apply Kd.N_drew));exact HO_8.out) (by first | exact Kd.N_base ho0 | exact Kd.S_base ho0) hb);have n2_ := Aside0.mk (Kd.N_elder' (by (with_reducible repeat (first | apply Kd.N_alloc | apply Kd.N_drewN | apply Kd.N_drew));exact HO_9.out) (by first | exact Kd.N_base ho0 | exact Kd.S_base ho0) hb);have n3_ := Aside0.mk (Kd.N_elder' (by (with_reducible repeat (first | apply Kd.N_alloc | apply Kd.N_drewN | apply Kd.N_drew));exact HO_11.out) (by first | exact Kd.N_base ho0 | exact Kd.S_base ho0) hb);have n4_ := Aside0.mk (Kd.N_elder' (by (with_reducible repeat (first | apply Kd.N_alloc | apply Kd.N_drewN | apply Kd.N_drew));exact HO123.out) (by first | exact Kd.N_base ho0 | exact Kd.S_base ho0) hb);have n5_ := Aside0.mk (Kd.N_lower (Kd.N_mono (ok' := fun k_ => some k_ ≠ (.slice Ao13 t101.length co13 : Value).ownBlock ∧ some k_ ≠ (.slice Ao42 t106.length co42 : Value).ownBlock ∧ some k_ ≠ (v111 : Value).ownBlock ∧ some k_ ≠ (v115 : Value).ownBlock ∧ some k_ ≠ (v122 : Value).ownBlock) (Kd.S_N (Kd.S_bound ho0)) (fun k_ hk_ => ⟨(Kd.fresh' (Kd.N_lt (by (with_reducible repeat (first | apply Kd.N_alloc | apply Kd.N_drewN | apply Kd.N_drew));exact HO_5.out)) k_ hk_.2.1), (Kd.fresh' (Kd.N_lt (by (with_reducible repeat (first | apply Kd.N_alloc | apply Kd.N_drewN | apply Kd.N_drew));exact HO_8.out)) k_ hk_.2.1), (Kd.fresh' (Kd.N_lt (by (with_reducible repeat (first | apply Kd.N_alloc | apply Kd.N_drewN | apply Kd.N_drew));exact HO_9.out)) k_ hk_.2.1), (Kd.fresh' (Kd.N_lt (by (with_reducible repeat (first | apply Kd.N_alloc | apply Kd.N_drewN | apply Kd.N_drew));exact HO_11.out)) k_ hk_.2.1), (Kd.fresh' (Kd.N_lt (by (with_reducible repeat (first | apply Kd.N_alloc | apply Kd.N_drewN | apply Kd.N_drew));exact HO123.out)) k_ hk_.2.1)⟩)) (below_size (by repeat (first | (with_reducible first | exact HB.out | apply below_alloc | apply pw_below_drewN | apply below_drew1) | exact HB.out))));have n6_ := Aside0.mk (below_step (by repeat (first | (with_reducible first | exact HB.out | apply below_alloc | apply pw_below_drewN | apply below_drew1) | exact HB.out)) hb);clear HO_5;clear HO_8;clear HO_9;clear HO_11;clear HO123;clear HB;have HO_5 := n0_;have HO_8 := n1_;have HO_9 := n2_;have HO_11 := n3_;have HO123 := n4_;have HO127 := n5_;have HB := n6_;clear n0_ n1_ n2_ n3_ n4_ n5_ n6_;(try clear hb);(try clear hb2);(try clear hk);(try clear hi);(try clear ho0);obtain ⟨Ao45, co45, eo45⟩ := Kd.N_slice HO127.out;subst eo45) | (go_at_call 61;(with_reducible refine (impl_PlusOf.calls kj9 _ _ t124 t104 t105 t128 t129 _ ?side1 ?side2 A40.out).mono ?_);(case side1 => repeat (first | exact (Kd.N_reads' HO127.out).2.2 | (with_reducible refine Kd.C_alloc ?_ _) | (with_reducible refine Kd.C_drewN ?_ _) | (with_reducible refine Kd.C_drew ?_)));(case side2 => exact (Kd.N_reads' HO127.out).2.1);rintro e w46 ⟨v130, rfl, ho0, hb⟩;have n0_ := Aside0.mk (Kd.N_elder' (by (with_reducible repeat (first | apply Kd.N_alloc | apply Kd.N_drewN | apply Kd.N_drew));exact HO_5.out) (by first | exact Kd.N_base ho0 | exact Kd.S_base ho0) hb);have n1_ := Aside0.mk (Kd.N_elder' (by (with_reducible repeat (first | apply Kd.N_alloc | apply Kd.N_drewN | apply Kd.N_drew));exact HO_8.out) (by first | exact Kd.N_base ho0 | exact Kd.S_base ho0) hb);have n2_ := Aside0.mk (Kd.N_elder' (by (with_reducible repeat (first | apply Kd.N_alloc | apply Kd.N_drewN | apply Kd.N_drew));exact HO_9.out) (by first | exact Kd.N_base ho0 | exact Kd.S_base ho0) hb);have n3_ := Aside0.mk (Kd.N_elder' (by (with_reducible repeat (first | apply Kd.N_alloc | apply Kd.N_drewN | apply Kd.N_drew));exact HO_11.out) (by first | exact Kd.N_base ho0 | exact Kd.S_base ho0) hb);have n4_ := Aside0.mk (Kd.N_elder' (by (with_reducible repeat (first | apply Kd.N_alloc | apply Kd.N_drewN | apply Kd.N_drew));exact HO123.out) (by first | exact Kd.N_base ho0 | exact Kd.S_base ho0) hb);have n5_ := Aside0.mk (Kd.N_elder' (by (with_reducible repeat (first | apply Kd.N_alloc | apply Kd.N_drewN | apply Kd.N_drew));exact HO127.out) (by first | exact Kd.N_base ho0 | exact Kd.S_base ho0) hb);have n6_ := Aside0.mk (Kd.N_lower (Kd.N_mono (ok' := fun k_ => some k_ ≠ (.slice Ao13 t101.length co13 : Value).ownBlock ∧ some k_ ≠ (.slice Ao42 t106.length co42 : Value).ownBlock ∧ some k_ ≠ (v111 : Value).ownBlock ∧ some k_ ≠ (v115 : Value).ownBlock ∧ some k_ ≠ (v122 : Value).ownBlock ∧ some k_ ≠ (.slice Ao45 t124.length co45 : Value).ownBlock) (Kd.S_N (Kd.S_bound ho0)) (fun k_ hk_ => ⟨(Kd.fresh' (Kd.N_lt (by (with_reducible repeat (first | apply Kd.N_alloc | apply Kd.N_drewN | apply Kd.N_drew));exact HO_5.out)) k_ hk_.2.1), (Kd.fresh' (Kd.N_lt (by (with_reducible repeat (first | apply Kd.N_alloc | apply Kd.N_drewN | apply Kd.N_drew));exact HO_8.out)) k_ hk_.2.1), (Kd.fresh' (Kd.N_lt (by (with_reducible repeat (first | apply Kd.N_alloc | apply Kd.N_drewN | apply Kd.N_drew));exact HO_9.out)) k_ hk_.2.1), (Kd.fresh' (Kd.N_lt (by (with_reducible repeat (first | apply Kd.N_alloc | apply Kd.N_drewN | apply Kd.N_drew));exact HO_11.out)) k_ hk_.2.1), (Kd.fresh' (Kd.N_lt (by (with_reducible repeat (first | apply Kd.N_alloc | apply Kd.N_drewN | apply Kd.N_drew));exact HO123.out)) k_ hk_.2.1), (Kd.fresh' (Kd.N_lt (by (with_reducible repeat (first | apply Kd.N_alloc | apply Kd.N_drewN | apply Kd.N_drew));exact HO127.out)) k_ hk_.2.1)⟩)) (below_size (by repeat (first | (with_reducible first | exact HB.out | apply below_alloc | apply pw_below_drewN | apply below_drew1) | exact HB.out))));have n7_ := Aside0.mk (below_step (by repeat (first | (with_reducible first | exact HB.out | apply below_alloc | apply pw_below_drewN | apply below_drew1) | exact HB.out)) hb);clear HO_5;clear HO_8;clear HO_9;clear HO_11;clear HO123;clear HO127;clear HB;have HO_5 := n0_;have HO_8 := n1_;have HO_9 := n2_;have HO_11 := n3_;have HO123 := n4_;have HO127 := n5_;have HO131 := n6_;have HB := n7_;clear n0_ n1_ n2_ n3_ n4_ n5_ n6_ n7_;(try clear hb);(try clear hb2);(try clear hk);(try clear hi);(try clear ho0);obtain ⟨Ao47, co47, eo47⟩ := Kd.N_slice HO_9.out;subst eo47;obtain ⟨Ao48, co48, eo48⟩ := Kd.N_slice HO123.out;subst eo48) | (go_at_call 58;(with_reducible refine (impl_OrOf.calls kj9 _ _ t109 _ _ t120 t132 t133 _ ?side1 ?side2 ?side3 ?side4 A41.out).mono ?_);(case side1 => repeat (first | exact (Kd.N_reads' HO_9.out).2.2 | (with_reducible refine Kd.C_alloc ?_ _) | (with_reducible refine Kd.C_drewN ?_ _) | (with_reducible refine Kd.C_drew ?_)));(case side2 => exact (Kd.N_reads' HO_9.out).2.1);(case side3 => repeat (first | exact (Kd.N_reads' HO123.out).2.2 | (with_reducible refine Kd.C_alloc ?_ _) | (with_reducible refine Kd.C_drewN ?_ _) | (with_reducible refine Kd.C_drew ?_)));(case side4 => exact (Kd.N_reads' HO123.out).2.1);rintro e w49 ⟨v134, rfl, ho0, hb⟩;have n0_ := Aside0.mk (Kd.N_elder' (by (with_reducible repeat (first | apply Kd.N_alloc | apply Kd.N_drewN | apply Kd.N_drew));exact HO_5.out) (by first | exact Kd.N_base ho0 | exact Kd.S_base ho0) hb);have n1_ := Aside0.mk (Kd.N_elder' (by (with_reducible repeat (first | apply Kd.N_alloc | apply Kd.N_drewN | apply Kd.N_drew));exact HO_8.out) (by first | exact Kd.N_base ho0 | exact Kd.S_base ho0) hb);have n2_ := Aside0.mk (Kd.N_elder' (by (with_reducible repeat (first | apply Kd.N_alloc | apply Kd.N_drewN | apply Kd.N_drew));exact HO_9.out) (by first | exact Kd.N_base ho0 | exact Kd.S_base ho0) hb);have n3_ := Aside0.mk (Kd.N_elder' (by (with_reducible repeat (first | apply Kd.N_alloc | apply Kd.N_drewN | apply Kd.N_drew));exact HO_11.out) (by first | exact Kd.N_base ho0 | exact Kd.S_base ho0) hb);have n4_ := Aside0.mk (Kd.N_elder' (by (with_reducible repeat (first | apply Kd.N_alloc | apply Kd.N_drewN | apply Kd.N_drew));exact HO123.out) (by first | exact Kd.N_base ho0 | exact Kd.S_base ho0) hb);have n5_ := Aside0.mk (Kd.N_elder' (by (with_reducible repeat (first | apply Kd.N_alloc | apply Kd.N_drewN | apply Kd.N_drew));exact HO127.out) (by first | exact Kd.N_base ho0 | exact Kd.S_base ho0) hb);have n6_ := Aside0.mk (Kd.N_elder' (by (with_reducible repeat (first | apply Kd.N_alloc | apply Kd.N_drewN | apply Kd.N_drew));exact HO131.out) (by first | exact Kd.N_base ho0 | exact Kd.S_base ho0) hb);have n7_ := Aside0.mk (Kd.N_lower (Kd.N_mono (ok' := fun k_ => some k_ ≠ (.slice Ao13 t101.length co13 : Value).ownBlock ∧ some k_ ≠ (.slice Ao42 t106.length co42 : Value).ownBlock ∧ some k_ ≠ (.slice Ao47 t109.length co47 : Value).ownBlock ∧ some k_ ≠ (v115 : Value).ownBlock ∧ some k_ ≠ (.slice Ao48 t120.length co48 : Value).ownBlock ∧ some k_ ≠ (.slice Ao45 t124.length co45 : Value).ownBlock ∧ some k_ ≠ (v130 : Value).ownBlock) (Kd.S_N (Kd.S_bound ho0)) (fun k_ hk_ => ⟨(Kd.fresh' (Kd.N_lt (by (with_reducible repeat (first | apply Kd.N_alloc | apply Kd.N_drewN | apply Kd.N_drew));exact HO_5.out)) k_ hk_.2.1), (Kd.fresh' (Kd.N_lt (by (with_reducible repeat (first | apply Kd.N_alloc | apply Kd.N_drewN | apply Kd.N_drew));exact HO_8.out)) k_ hk_.2.1), (Kd.fresh' (Kd.N_lt (by (with_reducible repeat (first | apply Kd.N_alloc | apply Kd.N_drewN | apply Kd.N_drew));exact HO_9.out)) k_ hk_.2.1), (Kd.fresh' (Kd.N_lt (by (with_reducible repeat (first | apply Kd.N_alloc | apply Kd.N_drewN | apply Kd.N_drew));exact HO_11.out)) k_ hk_.2.1), (Kd.fresh' (Kd.N_lt (by (with_reducible repeat (first | apply Kd.N_alloc | apply Kd.N_drewN | apply Kd.N_drew));exact HO123.out)) k_ hk_.2.1), (Kd.fresh' (Kd.N_lt (by (with_reducible repeat (first | apply Kd.N_alloc | apply Kd.N_drewN | apply Kd.N_drew));exact HO127.out)) k_ hk_.2.1), (Kd.fresh' (Kd.N_lt (by (with_reducible repeat (first | apply Kd.N_alloc | apply Kd.N_drewN | apply Kd.N_drew));exact HO131.out)) k_ hk_.2.1)⟩)) (below_size (by repeat (first | (with_reducible first | exact HB.out | apply below_alloc | apply pw_below_drewN | apply below_drew1) | exact HB.out))));have n8_ := Aside0.mk (below_step (by repeat (first | (with_reducible first | exact HB.out | apply below_alloc | apply pw_below_drewN | apply below_drew1) | exact HB.out)) hb);clear HO_5;clear HO_8;clear HO_9;clear HO_11;clear HO123;clear HO127;clear HO131;clear HB;have HO_5 := n0_;have HO_8 := n1_;have HO_9 := n2_;have HO_11 := n3_;have HO123 := n4_;have HO127 := n5_;have HO131 := n6_;have HO135 := n7_;have HB := n8_;clear n0_ n1_ n2_ n3_ n4_ n5_ n6_ n7_ n8_;(try clear hb);(try clear hb2);(try clear hk);(try clear hi);(try clear ho0)));try go_wp2_with (first | (go_at_call 61;(with_reducible refine (impl_PlusOf.calls kj9 _ _ t106 t104 t105 t120 t121 _ ?side1 ?side2 A38.out).mono ?_);(case side1 => repeat (first | exact (Kd.N_reads' HO_8.out).2.2 | (with_reducible refine Kd.C_alloc ?_ _) | (with_reducible refine Kd.C_drewN ?_ _) | (with_reducible refine Kd.C_drew ?_)));(case side2 => exact (Kd.N_reads' HO_8.out).2.1);rintro e w43 ⟨v122, rfl, ho0, hb⟩;have n0_ := Aside0.mk (Kd.N_elder' (by (with_reducible repeat (first | apply Kd.N_alloc | apply Kd.N_drewN | apply Kd.N_drew));exact HO_5.out) (by first | exact Kd.N_base ho0 | exact Kd.S_base ho0) hb);have n1_ := Aside0.mk (Kd.N_elder' (by (with_reducible repeat (first | apply Kd.N_alloc | apply Kd.N_drewN | apply Kd.N_drew));exact HO_8.out) (by first | exact Kd.N_base ho0 | exact Kd.S_base ho0) hb);have n2_ := Aside0.mk (Kd.N_elder' (by (with_reducible repeat (first | apply Kd.N_alloc | apply Kd.N_drewN | apply Kd.N_drew));exact HO_9.out) (by first | exact Kd.N_base ho0 | exact Kd.S_base ho0) hb);have n3_ := Aside0.mk (Kd.N_elder' (by (with_reducible repeat (first | apply Kd.N_alloc | apply Kd.N_drewN | apply Kd.N_drew));exact HO_11.out) (by first | exact Kd.N_base ho0 | exact Kd.S_base ho0) hb);have n4_ := Aside0.mk (Kd.N_lower (Kd.N_mono (ok' := fun k_ => some k_ ≠ (.slice Ao13 t101.length co13 : Value).ownBlock ∧ some k_ ≠ (.slice Ao42 t106.length co42 : Value).ownBlock ∧ some k_ ≠ (v111 : Value).ownBlock ∧ some k_ ≠ (v115 : Value).ownBlock) (Kd.S_N (Kd.S_bound ho0)) (fun k_ hk_ => ⟨(Kd.fresh' (Kd.N_lt (by (with_reducible repeat (first | apply Kd.N_alloc | apply Kd.N_drewN | apply Kd.N_drew));exact HO_5.out)) k_ hk_.2.1), (Kd.fresh' (Kd.N_lt (by (with_reducible repeat (first | apply Kd.N_alloc | apply Kd.N_drewN | apply Kd.N_drew));exact HO_8.out)) k_ hk_.2.1), (Kd.fresh' (Kd.N_lt (by (with_reducible repeat (first | apply Kd.N_alloc | apply Kd.N_drewN | apply Kd.N_drew));exact HO_9.out)) k_ hk_.2.1), (Kd.fresh' (Kd.N_lt (by (with_reducible repeat (first | apply Kd.N_alloc | apply Kd.N_drewN | apply Kd.N_drew));exact HO_11.out)) k_ hk_.2.1)⟩)) (below_size (by repeat (first | (with_reducible first | exact HB.out | apply below_alloc | apply pw_below_drewN | apply below_drew1) | exact HB.out))));have n5_ := Aside0.mk (below_step (by repeat (first | (with_reducible first | exact HB.out | apply below_alloc | apply pw_below_drewN | apply below_drew1) | exact HB.out)) hb);clear HO_5;clear HO_8;clear HO_9;clear HO_11;clear HB;have HO_5 := n0_;have HO_8 := n1_;have HO_9 := n2_;have HO_11 := n3_;have HO123 := n4_;have HB := n5_;clear n0_ n1_ n2_ n3_ n4_ n5_;(try clear hb);(try clear hb2);(try clear hk);(try clear hi);(try clear ho0)) | (go_at_call 58;(with_reducible refine (impl_OrOf.calls kj9 _ _ t101 _ _ t106 t124 t125 _ ?side1 ?side2 ?side3 ?side4 A39.out).mono ?_);(case side1 => repeat (first | exact (Kd.N_reads' HO_5.out).2.2 | (with_reducible refine Kd.C_alloc ?_ _) | (with_reducible refine Kd.C_drewN ?_ _) | (with_reducible refine Kd.C_drew ?_)));(case side2 => exact (Kd.N_reads' HO_5.out).2.1);(case side3 => repeat (first | exact (Kd.N_reads' HO_8.out).2.2 | (with_reducible refine Kd.C_alloc ?_ _) | (with_reducible refine Kd.C_drewN ?_ _) | (with_reducible refine Kd.C_drew ?_)));(case side4 => exact (Kd.N_reads' HO_8.out).2.1);rintro e w44 ⟨v126, rfl, ho0, hb⟩;have n0_ := Aside0.mk (Kd.N_elder' (by (with_reducible repeat (first | apply Kd.N_alloc | apply Kd.N_drewN | apply Kd.N_drew));exact HO_5.out) (by first | exact Kd.N_base ho0 | exact Kd.S_base ho0) hb);have n1_ := Aside0.mk (Kd.N_elder' (by (with_reducible repeat (first | apply Kd.N_alloc | apply Kd.N_drewN | apply Kd.N_drew));exact HO_8.out) (by first | exact Kd.N_base ho0 | exact Kd.S_base ho0) hb);have n2_ := Aside0.mk (Kd.N_elder' (by (with_reducible repeat (first | apply Kd.N_alloc | apply Kd.N_drewN | apply Kd.N_drew));exact HO_9.out) (by first | exact Kd.N_base ho0 | exact Kd.S_base ho0) hb);have n3_ := Aside0.mk (Kd.N_elder' (by (with_reducible repeat (first | apply Kd.N_alloc | apply Kd.N_drewN | apply Kd.N_drew));exact HO_11.out) (by first | exact Kd.N_base ho0 | exact Kd.S_base ho0) hb);have n4_ := Aside0.mk (Kd.N_elder' (by (with_reducible repeat (first | apply Kd.N_alloc | apply Kd.N_drewN | apply Kd.N_drew));exact HO123.out) (by first | exact Kd.N_base ho0 | exact Kd.S_base ho0) hb);have n5_ := Aside0.mk (Kd.N_lower (Kd.N_mono (ok' := fun k_ => some k_ ≠ (.slice Ao13 t101.length co13 : Value).ownBlock ∧ some k_ ≠ (.slice Ao42 t106.length co42 : Value).ownBlock ∧ some k_ ≠ (v111 : Value).ownBlock ∧ some k_ ≠ (v115 : Value).ownBlock ∧ some k_ ≠ (v122 : Value).ownBlock) (Kd.S_N (Kd.S_bound ho0)) (fun k_ hk_ => ⟨(Kd.fresh' (Kd.N_lt (by (with_reducible repeat (first | apply Kd.N_alloc | apply Kd.N_drewN | apply Kd.N_drew));exact HO_5.out)) k_ hk_.2.1), (Kd.fresh' (Kd.N_lt (by (with_reducible repeat (first | apply Kd.N_alloc | apply Kd.N_drewN | apply Kd.N_drew));exact HO_8.out)) k_ hk_.2.1), (Kd.fresh' (Kd.N_lt (by (with_reducible repeat (first | apply Kd.N_alloc | apply Kd.N_drewN | apply Kd.N_drew));exact HO_9.out)) k_ hk_.2.1), (Kd.fresh' (Kd.N_lt (by (with_reducible repeat (first | apply Kd.N_alloc | apply Kd.N_drewN | apply Kd.N_drew));exact HO_11.out)) k_ hk_.2.1), (Kd.fresh' (Kd.N_lt (by (with_reducible repeat (first | apply Kd.N_alloc | apply Kd.N_drewN | apply Kd.N_drew));exact HO123.out)) k_ hk_.2.1)⟩)) (below_size (by repeat (first | (with_reducible first | exact HB.out | apply below_alloc | apply pw_below_drewN | apply below_drew1) | exact HB.out))));have n6_ := Aside0.mk (below_step (by repeat (first | (with_reducible first | exact HB.out | apply below_alloc | apply pw_below_drewN | apply below_drew1) | exact HB.out)) hb);clear HO_5;clear HO_8;clear HO_9;clear HO_11;clear HO123;clear HB;have HO_5 := n0_;have HO_8 := n1_;have HO_9 := n2_;have HO_11 := n3_;have HO123 := n4_;have HO127 := n5_;have HB := n6_;clear n0_ n1_ n2_ n3_ n4_ n5_ n6_;(try clear hb);(try clear hb2);(try clear hk);(try clear hi);(try clear ho0);obtain ⟨Ao45, co45, eo45⟩ := Kd.N_slice HO127.out;subst eo45) | (go_at_call 61;(with_reducible refine (impl_PlusOf.calls kj9 _ _ t124 t104 t105 t128 t129 _ ?side1 ?side2 A40.out).mono ?_);(case side1 => repeat (first | exact (Kd.N_reads' HO127.out).2.2 | (with_reducible refine Kd.C_alloc ?_ _) | (with_reducible refine Kd.C_drewN ?_ _) | (with_reducible refine Kd.C_drew ?_)));(case side2 => exact (Kd.N_reads' HO127.out).2.1);rintro e w46 ⟨v130, rfl, ho0, hb⟩;have n0_ := Aside0.mk (Kd.N_elder' (by (with_reducible repeat (first | apply Kd.N_alloc | apply Kd.N_drewN | apply Kd.N_drew));exact HO_5.out) (by first | exact Kd.N_base ho0 | exact Kd.S_base ho0) hb);have n1_ := Aside0.mk (Kd.N_elder' (by (with_reducible repeat (first | apply Kd.N_alloc | apply Kd.N_drewN | apply Kd.N_drew));exact HO_8.out) (by first | exact Kd.N_base ho0 | exact Kd.S_base ho0) hb);have n2_ := Aside0.mk (Kd.N_elder' (by (with_reducible repeat (first | apply Kd.N_alloc | apply Kd.N_drewN | apply Kd.N_drew));exact HO_9.out) (by first | exact Kd.N_base ho0 | exact Kd.S_base ho0) hb);have n3_ := Aside0.mk (Kd.N_elder' (by (with_reducible repeat (first | apply Kd.N_alloc | apply Kd.N_drewN | apply Kd.N_drew));exact HO_11.out) (by first | exact Kd.N_base ho0 | exact Kd.S_base ho0) hb);have n4_ := Aside0.mk (Kd.N_elder' (by (with_reducible repeat (first | apply Kd.N_alloc | apply Kd.N_drewN | apply Kd.N_drew));exact HO123.out) (by first | exact Kd.N_base ho0 | exact Kd.S_base ho0) hb);have n5_ := Aside0.mk (Kd.N_elder' (by (with_reducible repeat (first | apply Kd.N_alloc | apply Kd.N_drewN | apply Kd.N_drew));exact HO127.out) (by first | exact Kd.N_base ho0 | exact Kd.S_base ho0) hb);have n6_ := Aside0.mk (Kd.N_lower (Kd.N_mono (ok' := fun k_ => some k_ ≠ (.slice Ao13 t101.length co13 : Value).ownBlock ∧ some k_ ≠ (.slice Ao42 t106.length co42 : Value).ownBlock ∧ some k_ ≠ (v111 : Value).ownBlock ∧ some k_ ≠ (v115 : Value).ownBlock ∧ some k_ ≠ (v122 : Value).ownBlock ∧ some k_ ≠ (.slice Ao45 t124.length co45 : Value).ownBlock) (Kd.S_N (Kd.S_bound ho0)) (fun k_ hk_ => ⟨(Kd.fresh' (Kd.N_lt (by (with_reducible repeat (first | apply Kd.N_alloc | apply Kd.N_drewN | apply Kd.N_drew));exact HO_5.out)) k_ hk_.2.1), (Kd.fresh' (Kd.N_lt (by (with_reducible repeat (first | apply Kd.N_alloc | apply Kd.N_drewN | apply Kd.N_drew));exact HO_8.out)) k_ hk_.2.1), (Kd.fresh' (Kd.N_lt (by (with_reducible repeat (first | apply Kd.N_alloc | apply Kd.N_drewN | apply Kd.N_drew));exact HO_9.out)) k_ hk_.2.1), (Kd.fresh' (Kd.N_lt (by (with_reducible repeat (first | apply Kd.N_alloc | apply Kd.N_drewN | apply Kd.N_drew));exact HO_11.out)) k_ hk_.2.1), (Kd.fresh' (Kd.N_lt (by (with_reducible repeat (first | apply Kd.N_alloc | apply Kd.N_drewN | apply Kd.N_drew));exact HO123.out)) k_ hk_.2.1), (Kd.fresh' (Kd.N_lt (by (with_reducible repeat (first | apply Kd.N_alloc | apply Kd.N_drewN | apply Kd.N_drew));exact HO127.out)) k_ hk_.2.1)⟩)) (below_size (by repeat (first | (with_reducible first | exact HB.out | apply below_alloc | apply pw_below_drewN | apply below_drew1) | exact HB.out))));have n7_ := Aside0.mk (below_step (by repeat (first | (with_reducible first | exact HB.out | apply below_alloc | apply pw_below_drewN | apply below_drew1) | exact HB.out)) hb);clear HO_5;clear HO_8;clear HO_9;clear HO_11;clear HO123;clear HO127;clear HB;have HO_5 := n0_;have HO_8 := n1_;have HO_9 := n2_;have HO_11 := n3_;have HO123 := n4_;have HO127 := n5_;have HO131 := n6_;have HB := n7_;clear n0_ n1_ n2_ n3_ n4_ n5_ n6_ n7_;(try clear hb);(try clear hb2);(try clear hk);(try clear hi);(try clear ho0);obtain ⟨Ao47, co47, eo47⟩ := Kd.N_slice HO_9.out;subst eo47;obtain ⟨Ao48, co48, eo48⟩ := Kd.N_slice HO123.out;subst eo48) | (go_at_call 58;(with_reducible refine (impl_OrOf.calls kj9 _ _ t109 _ _ t120 t132 t133 _ ?side1 ?side2 ?side3 ?side4 A41.out).mono ?_);(case side1 => repeat (first | exact (Kd.N_reads' HO_9.out).2.2 | (with_reducible refine Kd.C_alloc ?_ _) | (with_reducible refine Kd.C_drewN ?_ _) | (with_reducible refine Kd.C_drew ?_)));(case side2 => exact (Kd.N_reads' HO_9.out).2.1);(case side3 => repeat (first | exact (Kd.N_reads' HO123.out).2.2 | (with_reducible refine Kd.C_alloc ?_ _) | (with_reducible refine Kd.C_drewN ?_ _) | (with_reducible refine Kd.C_drew ?_)));(case side4 => exact (Kd.N_reads' HO123.out).2.1);rintro e w49 ⟨v134, rfl, ho0, hb⟩;have n0_ := Aside0.mk (Kd.N_elder' (by (with_reducible repeat (first | apply Kd.N_alloc | apply Kd.N_drewN | apply Kd.N_drew));exact HO_5.out) (by first | exact Kd.N_base ho0 | exact Kd.S_base ho0) hb);have n1_ := Aside0.mk (Kd.N_elder' (by (with_reducible repeat (first | apply Kd.N_alloc | apply Kd.N_drewN | apply Kd.N_drew));exact HO_8.out) (by first | exact Kd.N_base ho0 | exact Kd.S_base ho0) hb);have n2_ := Aside0.mk (Kd.N_elder' (by (with_reducible repeat (first | apply Kd.N_alloc | apply Kd.N_drewN | apply Kd.N_drew));exact HO_9.out) (by first | exact Kd.N_base ho0 | exact Kd.S_base ho0) hb);have n3_ := Aside0.mk (Kd.N_elder' (by (with_reducible repeat (first | apply Kd.N_alloc | apply Kd.N_drewN | apply Kd.N_drew));exact HO_11.out) (by first | exact Kd.N_base ho0 | exact Kd.S_base ho0) hb);have n4_ := Aside0.mk (Kd.N_elder' (by (with_reducible repeat (first | apply Kd.N_alloc | apply Kd.N_drewN | apply Kd.N_drew));exact HO123.out) (by first | exact Kd.N_base ho0 | exact Kd.S_base ho0) hb);have n5_ := Aside0.mk (Kd.N_elder' (by (with_reducible repeat (first | apply Kd.N_alloc | apply Kd.N_drewN | apply Kd.N_drew));exact HO127.out) (by first | exact Kd.N_base ho0 | exact Kd.S_base ho0) hb);have n6_ := Aside0.mk (Kd.N_elder' (by (with_reducible repeat (first | apply Kd.N_alloc | apply Kd.N_drewN | apply Kd.N_drew));exact HO131.out) (by first | exact Kd.N_base ho0 | exact Kd.S_base ho0) hb);have n7_ := Aside0.mk (Kd.N_lower (Kd.N_mono (ok' := fun k_ => some k_ ≠ (.slice Ao13 t101.length co13 : Value).ownBlock ∧ some k_ ≠ (.slice Ao42 t106.length co42 : Value).ownBlock ∧ some k_ ≠ (.slice Ao47 t109.length co47 : Value).ownBlock ∧ some k_ ≠ (v115 : Value).ownBlock ∧ some k_ ≠ (.slice Ao48 t120.length co48 : Value).ownBlock ∧ some k_ ≠ (.slice Ao45 t124.length co45 : Value).ownBlock ∧ some k_ ≠ (v130 : Value).ownBlock) (Kd.S_N (Kd.S_bound ho0)) (fun k_ hk_ => ⟨(Kd.fresh' (Kd.N_lt (by (with_reducible repeat (first | apply Kd.N_alloc | apply Kd.N_drewN | apply Kd.N_drew));exact HO_5.out)) k_ hk_.2.1), (Kd.fresh' (Kd.N_lt (by (with_reducible repeat (first | apply Kd.N_alloc | apply Kd.N_drewN | apply Kd.N_drew));exact HO_8.out)) k_ hk_.2.1), (Kd.fresh' (Kd.N_lt (by (with_reducible repeat (first | apply Kd.N_alloc | apply Kd.N_drewN | apply Kd.N_drew));exact HO_9.out)) k_ hk_.2.1), (Kd.fresh' (Kd.N_lt (by (with_reducible repeat (first | apply Kd.N_alloc | apply Kd.N_drewN | apply Kd.N_drew));exact HO_11.out)) k_ hk_.2.1), (Kd.fresh' (Kd.N_lt (by (with_reducible repeat (first | apply Kd.N_alloc | apply Kd.N_drewN | apply Kd.N_drew));exact HO123.out)) k_ hk_.2.1), (Kd.fresh' (Kd.N_lt (by (with_reducible repeat (first | apply Kd.N_alloc | apply Kd.N_drewN | apply Kd.N_drew));exact HO127.out)) k_ hk_.2.1), (Kd.fresh' (Kd.N_lt (by (with_reducible repeat (first | apply Kd.N_alloc | apply Kd.N_drewN | apply Kd.N_drew));exact HO131.out)) k_ hk_.2.1)⟩)) (below_size (by repeat (first | (with_reducible first | exact HB.out | apply below_alloc | apply pw_below_drewN | apply below_drew1) | exact HB.out))));have n8_ := Aside0.mk (below_step (by repeat (first | (with_reducible first | exact HB.out | apply below_alloc | apply pw_below_drewN | apply below_drew1) | exact HB.out)) hb);clear HO_5;clear HO_8;clear HO_9;clear HO_11;clear HO123;clear HO127;clear HO131;clear HB;have HO_5 := n0_;have HO_8 := n1_;have HO_9 := n2_;have HO_11 := n3_;have HO123 := n4_;have HO127 := n5_;have HO131 := n6_;have HO135 := n7_;have HB := n8_;clear n0_ n1_ n2_ n3_ n4_ n5_ n6_ n7_ n8_;(try clear hb);(try clear hb2);(try clear hk);(try clear hi);(try clear ho0))))
       go_loopg [21] kj9 (fun kq v21 w' => ∃ (x21_3 : Int), v21 = .int .i64 x21_3 ∧ Aside0 (laws_FnPlusOr.l0 kq t101 t104 t105 t109 t121 t125 t128 t129 t132 t133 x21_3 = some r) ∧ Aside0 (kq ≤ kj9) ∧ Aside0 (Kd.N k27 27 w' w.heap.size (fun k_ => some k_ ≠ ((.slice Ao47 t109.length co47) : Value).ownBlock ∧ some k_ ≠ (v130 : Value).ownBlock ∧ some k_ ≠ (v134 : Value).ownBlock) (.slice Ao13 t101.length co13) t101) ∧ Aside0 (Kd.N k27 27 w' w.heap.size (fun k_ => some k_ ≠ ((.slice Ao13 t101.length co13) : Value).ownBlock ∧ some k_ ≠ (v130 : Value).ownBlock ∧ some k_ ≠ (v134 : Value).ownBlock) (.slice Ao47 t109.length co47) t109) ∧ Aside0 (Kd.N k27 27 w' w.heap.size (fun k_ => some k_ ≠ ((.slice Ao13 t101.length co13) : Value).ownBlock ∧ some k_ ≠ ((.slice Ao47 t109.length co47) : Value).ownBlock ∧ some k_ ≠ (v134 : Value).ownBlock) v130 t128) ∧ Aside0 (Kd.N k27 27 w' w.heap.size (fun k_ => some k_ ≠ ((.slice Ao13 t101.length co13) : Value).ownBlock ∧ some k_ ≠ ((.slice Ao47 t109.length co47) : Value).ownBlock ∧ some k_ ≠ (v130 : Value).ownBlock) v134 t132) ∧ Aside0 (Below w.heap.size w w'))
       case atStart => exact ⟨(0), (by first | rfl | (simp;done) | (simp [*];done)), H', ⟨Nat.le_refl _⟩, ⟨by (with_reducible repeat (first | apply Kd.N_alloc | apply Kd.N_drewN | apply Kd.N_drew));exact Kd.N_mono HO_5.out (fun _ hk => ⟨hk.1.1.1.1.2.1, ⟨hk.1.2, hk.2⟩⟩)⟩, ⟨by (with_reducible repeat (first | apply Kd.N_alloc | apply Kd.N_drewN | apply Kd.N_drew));exact Kd.N_mono HO_9.out (fun _ hk => ⟨hk.1.1.1.1.1, ⟨hk.1.2, hk.2⟩⟩)⟩, ⟨by (with_reducible repeat (first | apply Kd.N_alloc | apply Kd.N_drewN | apply Kd.N_drew));exact Kd.N_mono HO131.out (fun _ hk => ⟨hk.1.1, ⟨hk.1.2.2.1, hk.2⟩⟩)⟩, ⟨by (with_reducible repeat (first | apply Kd.N_alloc | apply Kd.N_drewN | apply Kd.N_drew));exact Kd.N_mono HO135.out (fun _ hk => ⟨hk.1, ⟨hk.2.2.1, hk.2.2.2.2.2.2⟩⟩)⟩, ⟨by repeat (first | (with_reducible first | exact HB.out | apply below_alloc | apply pw_below_drewN | apply below_drew1) | exact HB.out)⟩⟩
       case round =>
        clear H'
        try clear c1
        try clear p2
        try clear c3
        try clear c4
        try clear c4b0
        try clear c4b1
        try clear c5
        try clear c16
        try clear c16b0
        try clear c16b1
        try clear c16b2
        try clear c17
        try clear c18
        try clear c19
        try clear c32
        try clear c33
        try clear c33b0
        try clear c33b1
        try clear c33b2
        try clear p2
        obtain ⟨x21_3, rfl, HA, HK3, HO_5, HO_9, HO_17, HO_19, HB⟩ := hrel
        cases gk with
        | zero => exact absurd HA.out (by simp [laws_FnPlusOr.l0])
        | succ k3 =>
         have H := HA.out
         clear HA
         simp only [laws_FnPlusOr.l0] at H
         by_cases c50 : x21_3 < (t109.length : Int)
         ·rw [if_pos c50] at H
          have c50b0 : decide (x21_3 < (t109.length : Int)) = true := decide_eq_true c50
          clear c50
          by_cases c51 : 0 ≤ x21_3
          ·rw [if_pos c51] at H
           have c51b0 : decide (0 ≤ x21_3) = true := decide_eq_true c51
           clear c51
           by_cases c52 : ((rd_T27 t109 x21_3).f1) > t105
           ·rw [if_pos c52] at H
            have c52b0 : decide (t105 < ((rd_T27 t109 x21_3).f1)) = true := decide_eq_true c52
            clear c52
            exact absurd (Option.some.inj H) (by rw [hT_.out];decide)
           ·rw [if_neg c52] at H
            have c52b0 : decide (t105 < ((rd_T27 t109 x21_3).f1)) = false := decide_eq_false c52
            clear c52
            by_cases c53 : ((rd_T27 t109 x21_3).f0) ≥ ((rd_T27 t109 x21_3).f1)
            ·rw [if_pos c53] at H
             have c53b0 : decide (((rd_T27 t109 x21_3).f1) ≤ ((rd_T27 t109 x21_3).f0)) = true := decide_eq_true c53
             clear c53
             exact absurd (Option.some.inj H) (by rw [hT_.out];decide)
            ·rw [if_neg c53] at H
             have c53b0 : decide (((rd_T27 t109 x21_3).f1) ≤ ((rd_T27 t109 x21_3).f0)) = false := decide_eq_false c53
             clear c53
             have H' := Aside0.mk H
             clear H
             have p136 : 0 ≤ (x21_3 : Int) := of_decide_eq_true (by first | (with_reducible assumption) | assumption)
             have q136 : x21_3 < (t109.length : Int) := of_decide_eq_true (by first | (with_reducible assumption) | assumption)
             obtain ⟨ad136, A136_2, c136_2, e136, hx136_0, hx136_1, hx136_2, hl136_2, hi136_2⟩ := at_T27 (Kd.N_reads' HO_9.out).2.2 x21_3 p136 q136
             cases e136
             obtain ⟨ce136, hce136, hMe136, hcc136⟩ := Kd.N_get HO_9.out z27 x21_3 p136 (by first | exact q136 | exact of_decide_eq_true (by first | (with_reducible assumption) | assumption) | (have e_ := (Kd.N_reads' HO_9.out).1;omega))
             obtain ⟨ua136_2, uc136_2, rfl, ul136_2, ge136_2⟩ := k27_openF hMe136
             have hv136_2 := hcc136 2 _ rfl
             rw [add_field _ _ 2 (by omega)] at hv136_2
             replace hv136_2 := Option.some.inj (hv136_2.symm.trans hx136_2)
             injection hv136_2 with hva_ hvn_ hvc_
             rw [hva_] at ge136_2
             rw [hvc_] at ul136_2
             have HL136_2 := Aside0.mk (show Kd.V (Kd.int .i64) 3 _ w.heap.size _ _ ((rd_T27 t109 x21_3).f2) from Kd.V_mk ul136_2 ge136_2)
             clear hva_ hvn_ hvc_ ge136_2 ul136_2
             clear hcc136 hce136
             have HR136_2 := Aside0.mk hi136_2
             have HC136_2 := Aside0.mk hl136_2
             clear hi136_2 hl136_2
             replace p136 := eq_true p136
             replace q136 := eq_true q136
             have p137 : 0 ≤ (x21_3 : Int) := of_decide_eq_true (by first | (with_reducible assumption) | assumption)
             have q137 : x21_3 < (t109.length : Int) := of_decide_eq_true (by first | (with_reducible assumption) | assumption)
             obtain ⟨ad137, A137_2, c137_2, e137, hx137_0, hx137_1, hx137_2, hl137_2, hi137_2⟩ := at_T27 (Kd.N_reads' HO_9.out).2.2 x21_3 p137 q137
             obtain rfl : ad136 = ad137 := (by injection e137)
             obtain ⟨ce137, hce137, hMe137, hcc137⟩ := Kd.N_get HO_9.out z27 x21_3 p137 (by first | exact q137 | exact of_decide_eq_true (by first | (with_reducible assumption) | assumption) | (have e_ := (Kd.N_reads' HO_9.out).1;omega))
             obtain ⟨ua137_2, uc137_2, rfl, ul137_2, ge137_2⟩ := k27_openF hMe137
             have hv137_2 := hcc137 2 _ rfl
             rw [add_field _ _ 2 (by omega)] at hv137_2
             replace hv137_2 := Option.some.inj (hv137_2.symm.trans hx137_2)
             injection hv137_2 with hva_ hvn_ hvc_
             rw [hva_] at ge137_2
             rw [hvc_] at ul137_2
             have HL137_2 := Aside0.mk (show Kd.V (Kd.int .i64) 3 _ w.heap.size _ _ ((rd_T27 t109 x21_3).f2) from Kd.V_mk ul137_2 ge137_2)
             clear hva_ hvn_ hvc_ ge137_2 ul137_2
             clear hcc137 hce137
             have HR137_2 := Aside0.mk hi137_2
             have HC137_2 := Aside0.mk hl137_2
             clear hi137_2 hl137_2
             replace p137 := eq_true p137
             replace q137 := eq_true q137
             have ea_ := Option.some.inj (hx136_2.symm.trans hx137_2)
             injection ea_ with ea_ en_ ec_
             subst ea_
             subst ec_
             clear en_
             have p138 : 0 ≤ (x21_3 : Int) := of_decide_eq_true (by first | (with_reducible assumption) | assumption)
             have q138 : x21_3 < (t109.length : Int) := of_decide_eq_true (by first | (with_reducible assumption) | assumption)
             obtain ⟨ad138, A138_2, c138_2, e138, hx138_0, hx138_1, hx138_2, hl138_2, hi138_2⟩ := at_T27 (Kd.N_reads' HO_9.out).2.2 x21_3 p138 q138
             obtain rfl : ad136 = ad138 := (by injection e138)
             obtain ⟨ce138, hce138, hMe138, hcc138⟩ := Kd.N_get HO_9.out z27 x21_3 p138 (by first | exact q138 | exact of_decide_eq_true (by first | (with_reducible assumption) | assumption) | (have e_ := (Kd.N_reads' HO_9.out).1;omega))
             obtain ⟨ua138_2, uc138_2, rfl, ul138_2, ge138_2⟩ := k27_openF hMe138
             have hv138_2 := hcc138 2 _ rfl
             rw [add_field _ _ 2 (by omega)] at hv138_2
             replace hv138_2 := Option.some.inj (hv138_2.symm.trans hx138_2)
             injection hv138_2 with hva_ hvn_ hvc_
             rw [hva_] at ge138_2
             rw [hvc_] at ul138_2
             have HL138_2 := Aside0.mk (show Kd.V (Kd.int .i64) 3 _ w.heap.size _ _ ((rd_T27 t109 x21_3).f2) from Kd.V_mk ul138_2 ge138_2)
             clear hva_ hvn_ hvc_ ge138_2 ul138_2
             clear hcc138 hce138
             have HR138_2 := Aside0.mk hi138_2
             have HC138_2 := Aside0.mk hl138_2
             clear hi138_2 hl138_2
             replace p138 := eq_true p138
             replace q138 := eq_true q138
             have ea_ := Option.some.inj (hx136_2.symm.trans hx138_2)
             injection ea_ with ea_ en_ ec_
             subst ea_
             subst ec_
             clear en_
             go_wp2
             repeat (go_quiet (fail);try go_wp2)
             go_roundg k3
             case measure => have := HJ2.out;have := HJ9.out;have := HK3.out;omega
             case rel => exact ⟨(wrap64 (x21_3 + 1)), (by first | rfl | (simp;done) | (simp [*];done)), H', ⟨by have := HJ2.out;have := HJ9.out;have := HK3.out;omega⟩, ⟨by (with_reducible repeat (first | apply Kd.N_alloc | apply Kd.N_drewN | apply Kd.N_drew));exact HO_5.out⟩, ⟨by (with_reducible repeat (first | apply Kd.N_alloc | apply Kd.N_drewN | apply Kd.N_drew));exact HO_9.out⟩, ⟨by (with_reducible repeat (first | apply Kd.N_alloc | apply Kd.N_drewN | apply Kd.N_drew));exact HO_17.out⟩, ⟨by (with_reducible repeat (first | apply Kd.N_alloc | apply Kd.N_drewN | apply Kd.N_drew));exact HO_19.out⟩, ⟨by repeat (first | (with_reducible first | exact HB.out | apply below_alloc | apply pw_below_drewN | apply below_drew1) | exact HB.out)⟩⟩
          ·rw [if_neg c51] at H
           exact absurd H (by simp)
         ·rw [if_neg c50] at H
          have c50b0 : decide (x21_3 < (t109.length : Int)) = false := decide_eq_false c50
          clear c50
          replace H := Option.bind_eq_some_iff.mp H
          obtain ⟨⟨t139, t140⟩, A540, H⟩ := H
          replace H : (if t121 = true then (if t125 = true then (if t129 = true then (if t133 = true then ((impl_OccsSame.f k3 t128 t132).bind fun t143 => (if t143 = true then (if t140 = true then (if (t139.length : Int) ≤ (t109.length : Int) then (if 0 ≤ (t139.length : Int) then ((impl_OccsSame.f k3 t139 (t109.take ((t139.length : Int) : Int).toNat)).bind fun t149 => (some t149)) else (none)) else (some false)) else (some false)) else (some false))) else (if t140 = true then (if (t139.length : Int) ≤ (t109.length : Int) then (if 0 ≤ (t139.length : Int) then ((impl_OccsSame.f k3 t139 (t109.take ((t139.length : Int) : Int).toNat)).bind fun t155 => (some t155)) else (none)) else (some false)) else (some false))) else (if t140 = true then (if (t139.length : Int) ≤ (t109.length : Int) then (if 0 ≤ (t139.length : Int) then ((impl_OccsSame.f k3 t139 (t109.take ((t139.length : Int) : Int).toNat)).bind fun t161 => (some t161)) else (none)) else (some false)) else (some false))) else (if t140 = true then (if (t139.length : Int) ≤ (t109.length : Int) then (if 0 ≤ (t139.length : Int) then ((impl_OccsSame.f k3 t139 (t109.take ((t139.length : Int) : Int).toNat)).bind fun t167 => (some t167)) else (none)) else (some false)) else (some false))) else (if t140 = true then (if (t139.length : Int) ≤ (t109.length : Int) then (if 0 ≤ (t139.length : Int) then ((impl_OccsSame.f k3 t139 (t109.take ((t139.length : Int) : Int).toNat)).bind fun t173 => (some t173)) else (none)) else (some false)) else (some false))) = some r := H
          have A54 := Aside0.mk A540
          clear A540
          by_cases c55 : t121 = true
          ·subst c55
           have H1 : (if t125 = true then (if t129 = true then (if t133 = true then ((impl_OccsSame.f k3 t128 t132).bind fun t143 => (if t143 = true then (if t140 = true then (if (t139.length : Int) ≤ (t109.length : Int) then (if 0 ≤ (t139.length : Int) then ((impl_OccsSame.f k3 t139 (t109.take ((t139.length : Int) : Int).toNat)).bind fun t149 => (some t149)) else (none)) else (some false)) else (some false)) else (some false))) else (if t140 = true then (if (t139.length : Int) ≤ (t109.length : Int) then (if 0 ≤ (t139.length : Int) then ((impl_OccsSame.f k3 t139 (t109.take ((t139.length : Int) : Int).toNat)).bind fun t155 => (some t155)) else (none)) else (some false)) else (some false))) else (if t140 = true then (if (t139.length : Int) ≤ (t109.length : Int) then (if 0 ≤ (t139.length : Int) then ((impl_OccsSame.f k3 t139 (t109.take ((t139.length : Int) : Int).toNat)).bind fun t161 => (some t161)) else (none)) else (some false)) else (some false))) else (if t140 = true then (if (t139.length : Int) ≤ (t109.length : Int) then (if 0 ≤ (t139.length : Int) then ((impl_OccsSame.f k3 t139 (t109.take ((t139.length : Int) : Int).toNat)).bind fun t167 => (some t167)) else (none)) else (some false)) else (some false))) = some r := by rw [if_pos rfl] at H;exact H
           clear H
           have H := H1
           clear H1
           by_cases c56 : t125 = true
           ·subst c56
            have H1 : (if t129 = true then (if t133 = true then ((impl_OccsSame.f k3 t128 t132).bind fun t143 => (if t143 = true then (if t140 = true then (if (t139.length : Int) ≤ (t109.length : Int) then (if 0 ≤ (t139.length : Int) then ((impl_OccsSame.f k3 t139 (t109.take ((t139.length : Int) : Int).toNat)).bind fun t149 => (some t149)) else (none)) else (some false)) else (some false)) else (some false))) else (if t140 = true then (if (t139.length : Int) ≤ (t109.length : Int) then (if 0 ≤ (t139.length : Int) then ((impl_OccsSame.f k3 t139 (t109.take ((t139.length : Int) : Int).toNat)).bind fun t155 => (some t155)) else (none)) else (some false)) else (some false))) else (if t140 = true then (if (t139.length : Int) ≤ (t109.length : Int) then (if 0 ≤ (t139.length : Int) then ((impl_OccsSame.f k3 t139 (t109.take ((t139.length : Int) : Int).toNat)).bind fun t161 => (some t161)) else (none)) else (some false)) else (some false))) = some r := by rw [if_pos rfl] at H;exact H
            clear H
            have H := H1
            clear H1
            by_cases c57 : t129 = true
            ·subst c57
             have H1 : (if t133 = true then ((impl_OccsSame.f k3 t128 t132).bind fun t143 => (if t143 = true then (if t140 = true then (if (t139.length : Int) ≤ (t109.length : Int) then (if 0 ≤ (t139.length : Int) then ((impl_OccsSame.f k3 t139 (t109.take ((t139.length : Int) : Int).toNat)).bind fun t149 => (some t149)) else (none)) else (some false)) else (some false)) else (some false))) else (if t140 = true then (if (t139.length : Int) ≤ (t109.length : Int) then (if 0 ≤ (t139.length : Int) then ((impl_OccsSame.f k3 t139 (t109.take ((t139.length : Int) : Int).toNat)).bind fun t155 => (some t155)) else (none)) else (some false)) else (some false))) = some r := by rw [if_pos rfl] at H;exact H
             clear H
             have H := H1
             clear H1
             by_cases c58 : t133 = true
             ·subst c58
              have H1 : ((impl_OccsSame.f k3 t128 t132).bind fun t143 => (if t143 = true then (if t140 = true then (if (t139.length : Int) ≤ (t109.length : Int) then (if 0 ≤ (t139.length : Int) then ((impl_OccsSame.f k3 t139 (t109.take ((t139.length : Int) : Int).toNat)).bind fun t149 => (some t149)) else (none)) else (some false)) else (some false)) else (some false))) = some r := by rw [if_pos rfl] at H;exact H
              clear H
              have H := H1
              clear H1
              replace H := Option.bind_eq_some_iff.mp H
              obtain ⟨t143, A590, H⟩ := H
              replace H : (if t143 = true then (if t140 = true then (if (t139.length : Int) ≤ (t109.length : Int) then (if 0 ≤ (t139.length : Int) then ((impl_OccsSame.f k3 t139 (t109.take ((t139.length : Int) : Int).toNat)).bind fun t149 => (some t149)) else (none)) else (some false)) else (some false)) else (some false)) = some r := H
              have A59 := Aside0.mk A590
              clear A590
              by_cases c60 : t143 = true
              ·subst c60
               have H1 : (if t140 = true then (if (t139.length : Int) ≤ (t109.length : Int) then (if 0 ≤ (t139.length : Int) then ((impl_OccsSame.f k3 t139 (t109.take ((t139.length : Int) : Int).toNat)).bind fun t149 => (some t149)) else (none)) else (some false)) else (some false)) = some r := by rw [if_pos rfl] at H;exact H
               clear H
               have H := H1
               clear H1
               by_cases c61 : t140 = true
               ·subst c61
                have H1 : (if (t139.length : Int) ≤ (t109.length : Int) then (if 0 ≤ (t139.length : Int) then ((impl_OccsSame.f k3 t139 (t109.take ((t139.length : Int) : Int).toNat)).bind fun t149 => (some t149)) else (none)) else (some false)) = some r := by rw [if_pos rfl] at H;exact H
                clear H
                have H := H1
                clear H1
                by_cases c62 : (t139.length : Int) ≤ (t109.length : Int)
                ·rw [if_pos c62] at H
                 have c62b0 : decide ((t139.length : Int) ≤ (t109.length : Int)) = true := decide_eq_true c62
                 (try (have c62b1 : (t139.length ≤ t109.length) := by omega))
                 have c62b2 : decide (t139.length ≤ t109.length) = true := decide_eq_true (Int.ofNat_le.mp c62)
                 clear c62
                 by_cases c63 : 0 ≤ (t139.length : Int)
                 ·rw [if_pos c63] at H
                  have c63b0 := eq_true c63
                  have c63b1 : decide (0 ≤ (t139.length : Int)) = true := decide_eq_true c63
                  clear c63
                  have c64b0 := eq_true (of_decide_eq_true (by first | (with_reducible assumption) | assumption) : (t139.length : Int) ≤ (t109.length : Int))
                  obtain ⟨y144, hy144⟩ : ∃ y_ : List (S27), y_ = (t109.take ((t139.length : Int) : Int).toNat) := ⟨_, rfl⟩
                  replace H : ((impl_OccsSame.f k3 t139 y144).bind fun t149 => (some t149)) = some r := by first | (rw [hy144];with_reducible exact H) | (have H2_ := (Option.bind_some _ _).symm.trans H;rw [hy144];with_reducible exact H2_) | (have H2_ := (Option.bind_some _ _).symm.trans H;with_reducible exact H2_) | with_reducible exact H | (rw [hy144];exact H) | exact H
                  have Ny144 := Aside0.mk hy144
                  clear hy144
                  replace H := Option.bind_eq_some_iff.mp H
                  obtain ⟨t149, A650, H⟩ := H
                  replace H : (some t149) = some r := H
                  have A65 := Aside0.mk A650
                  clear A650
                  obtain rfl := Option.some.inj H
                  go_wp2_with (first | (go_at_call 61;(with_reducible refine (impl_PlusOf.calls k3 _ _ t101 t104 (wrap64 (t105 - 1)) t139 true _ ?side1 ?side2 A54.out).mono ?_);(case side1 => repeat (first | exact (Kd.N_reads' HO_5.out).2.2 | (with_reducible refine Kd.C_alloc ?_ _) | (with_reducible refine Kd.C_drewN ?_ _) | (with_reducible refine Kd.C_drew ?_)));(case side2 => exact (Kd.N_reads' HO_5.out).2.1);rintro e w66 ⟨v141, rfl, ho0, hb⟩;have n0_ := Aside0.mk (Kd.N_elder' (by (with_reducible repeat (first | apply Kd.N_alloc | apply Kd.N_drewN | apply Kd.N_drew));exact HO_5.out) (by first | exact Kd.N_base ho0 | exact Kd.S_base ho0) hb);have n1_ := Aside0.mk (Kd.N_elder' (by (with_reducible repeat (first | apply Kd.N_alloc | apply Kd.N_drewN | apply Kd.N_drew));exact HO_9.out) (by first | exact Kd.N_base ho0 | exact Kd.S_base ho0) hb);have n2_ := Aside0.mk (Kd.N_elder' (by (with_reducible repeat (first | apply Kd.N_alloc | apply Kd.N_drewN | apply Kd.N_drew));exact HO_17.out) (by first | exact Kd.N_base ho0 | exact Kd.S_base ho0) hb);have n3_ := Aside0.mk (Kd.N_elder' (by (with_reducible repeat (first | apply Kd.N_alloc | apply Kd.N_drewN | apply Kd.N_drew));exact HO_19.out) (by first | exact Kd.N_base ho0 | exact Kd.S_base ho0) hb);have n4_ := Aside0.mk (Kd.N_lower (Kd.N_mono (ok' := fun k_ => some k_ ≠ (.slice Ao13 t101.length co13 : Value).ownBlock ∧ some k_ ≠ (.slice Ao47 t109.length co47 : Value).ownBlock ∧ some k_ ≠ (v130 : Value).ownBlock ∧ some k_ ≠ (v134 : Value).ownBlock) (Kd.S_N (Kd.S_bound ho0)) (fun k_ hk_ => ⟨(Kd.fresh' (Kd.N_lt (by (with_reducible repeat (first | apply Kd.N_alloc | apply Kd.N_drewN | apply Kd.N_drew));exact HO_5.out)) k_ hk_.2.1), (Kd.fresh' (Kd.N_lt (by (with_reducible repeat (first | apply Kd.N_alloc | apply Kd.N_drewN | apply Kd.N_drew));exact HO_9.out)) k_ hk_.2.1), (Kd.fresh' (Kd.N_lt (by (with_reducible repeat (first | apply Kd.N_alloc | apply Kd.N_drewN | apply Kd.N_drew));exact HO_17.out)) k_ hk_.2.1), (Kd.fresh' (Kd.N_lt (by (with_reducible repeat (first | apply Kd.N_alloc | apply Kd.N_drewN | apply Kd.N_drew));exact HO_19.out)) k_ hk_.2.1)⟩)) (below_size (by exact HB.out)));have n5_ := Aside0.mk (below_step (by exact HB.out) hb);clear HO_5;clear HO_9;clear HO_17;clear HO_19;clear HB;have HO_5 := n0_;have HO_9 := n1_;have HO_17 := n2_;have HO_19 := n3_;have HO142 := n4_;have HB := n5_;clear n0_ n1_ n2_ n3_ n4_ n5_;(try clear hb);(try clear hb2);(try clear hk);(try clear hi);(try clear ho0);obtain ⟨Ao67, co67, eo67⟩ := Kd.N_slice HO_17.out;subst eo67;obtain ⟨Ao68, co68, eo68⟩ := Kd.N_slice HO_19.out;subst eo68) | (go_at_call 26;(with_reducible refine (impl_OccsSame.calls k3 _ _ t128 _ _ t132 true _ ?side1 ?side2 ?side3 ?side4 A59.out).mono ?_);(case side1 => repeat (first | exact (Kd.N_reads' HO_17.out).2.2 | (with_reducible refine Kd.C_alloc ?_ _) | (with_reducible refine Kd.C_drewN ?_ _) | (with_reducible refine Kd.C_drew ?_)));(case side2 => exact (Kd.N_reads' HO_17.out).2.1);(case side3 => repeat (first | exact (Kd.N_reads' HO_19.out).2.2 | (with_reducible refine Kd.C_alloc ?_ _) | (with_reducible refine Kd.C_drewN ?_ _) | (with_reducible refine Kd.C_drew ?_)));(case side4 => exact (Kd.N_reads' HO_19.out).2.1);rintro e w69 ⟨rfl, hb⟩;have n0_ := Aside0.mk (Kd.N_below (by (with_reducible repeat (first | apply Kd.N_alloc | apply Kd.N_drewN | apply Kd.N_drew));exact HO_5.out) hb);have n1_ := Aside0.mk (Kd.N_below (by (with_reducible repeat (first | apply Kd.N_alloc | apply Kd.N_drewN | apply Kd.N_drew));exact HO_9.out) hb);have n2_ := Aside0.mk (Kd.N_below (by (with_reducible repeat (first | apply Kd.N_alloc | apply Kd.N_drewN | apply Kd.N_drew));exact HO_17.out) hb);have n3_ := Aside0.mk (Kd.N_below (by (with_reducible repeat (first | apply Kd.N_alloc | apply Kd.N_drewN | apply Kd.N_drew));exact HO_19.out) hb);have n4_ := Aside0.mk (Kd.N_below (by (with_reducible repeat (first | apply Kd.N_alloc | apply Kd.N_drewN | apply Kd.N_drew));exact HO142.out) hb);have n5_ := Aside0.mk (below_step (by exact HB.out) hb);clear HO_5;clear HO_9;clear HO_17;clear HO_19;clear HO142;clear HB;have HO_5 := n0_;have HO_9 := n1_;have HO_17 := n2_;have HO_19 := n3_;have HO142 := n4_;have HB := n5_;clear n0_ n1_ n2_ n3_ n4_ n5_;(try clear hb);(try clear hb2);(try clear hk);(try clear hi);obtain ⟨Ao70, co70, eo70⟩ := Kd.N_slice HO142.out;subst eo70;have q71 : ((t139.length : Int) : Int) ≤ ((t109.length : Int) : Int) := of_decide_eq_true (by first | (with_reducible assumption) | assumption);obtain ⟨i071, hi071, _, hsz71, _⟩ := info_parts info27;have hroom71 : t109.length ≤ co47 := (Kd.N_reads' HO_9.out).2.1;have hC71 : Kd.F k27 _ _ Ao47 t109.length t109 := (Kd.V_at (base := w.heap.size) (Kd.N_V HO_9.out)).2.2;have hcut71 := cut_to (P := Try.prog) 34 27 .i64 Try.underlying34 hi071 Ao47 t109.length co47 (t139.length : Int) (of_decide_eq_true (by first | (with_reducible assumption) | assumption)) q71 hroom71;have hr71 := Kd.F_take (m := ((t139.length : Int) : Int).toNat) hC71 (by omega);have hy71 : y144.length = ((t139.length : Int) : Int).toNat := (by rw [Ny144.out, List.length_take];omega);rw [← Ny144.out] at hr71;rw [← hy71] at hcut71;have HO148 := Aside0.mk (show Kd.V k27 27 _ w.heap.size _ (.slice Ao47 y144.length co47) y144 from Kd.V_mk (by omega) hr71);have HC148 := Aside0.mk (show y144.length ≤ co47 from by omega);clear hr71 hC71 hroom71 hi071 hsz71;have KY71 := Aside0.mk hy71;clear hy71;replace q71 := eq_true q71) | (go_at_call 26;(with_reducible refine (impl_OccsSame.calls k3 _ _ t139 _ _ y144 t149 _ ?side1 ?side2 ?side3 ?side4 A65.out).mono ?_);(case side1 => repeat (first | exact (Kd.N_reads' HO142.out).2.2 | (with_reducible refine Kd.C_alloc ?_ _) | (with_reducible refine Kd.C_drewN ?_ _) | (with_reducible refine Kd.C_drew ?_)));(case side2 => exact (Kd.N_reads' HO142.out).2.1);(case side3 => repeat (first | exact (Kd.V_reads' HO148.out).2.2 | (with_reducible refine Kd.C_alloc ?_ _) | (with_reducible refine Kd.C_drewN ?_ _) | (with_reducible refine Kd.C_drew ?_)));(case side4 => exact (Kd.V_reads' HO148.out).2.1);rintro e w72 ⟨rfl, hb⟩;have n0_ := Aside0.mk (Kd.N_below (by (with_reducible repeat (first | apply Kd.N_alloc | apply Kd.N_drewN | apply Kd.N_drew));exact HO_5.out) hb);have n1_ := Aside0.mk (Kd.N_below (by (with_reducible repeat (first | apply Kd.N_alloc | apply Kd.N_drewN | apply Kd.N_drew));exact HO_9.out) hb);have n2_ := Aside0.mk (Kd.N_below (by (with_reducible repeat (first | apply Kd.N_alloc | apply Kd.N_drewN | apply Kd.N_drew));exact HO_17.out) hb);have n3_ := Aside0.mk (Kd.N_below (by (with_reducible repeat (first | apply Kd.N_alloc | apply Kd.N_drewN | apply Kd.N_drew));exact HO_19.out) hb);have n4_ := Aside0.mk (Kd.N_below (by (with_reducible repeat (first | apply Kd.N_alloc | apply Kd.N_drewN | apply Kd.N_drew));exact HO142.out) hb);have n5_ := Aside0.mk (Kd.V_below (by (with_reducible repeat (first | apply Kd.V_alloc | apply Kd.V_drewN | apply Kd.V_drew));exact HO148.out) hb);have n6_ := Aside0.mk (below_step (by exact HB.out) hb);clear HO_5;clear HO_9;clear HO_17;clear HO_19;clear HO142;clear HO148;clear HB;have HO_5 := n0_;have HO_9 := n1_;have HO_17 := n2_;have HO_19 := n3_;have HO142 := n4_;have HO148 := n5_;have HB := n6_;clear n0_ n1_ n2_ n3_ n4_ n5_ n6_;(try clear hb);(try clear hb2);(try clear hk);(try clear hi)))
                  repeat (go_quiet (first | (go_at_call 61;(with_reducible refine (impl_PlusOf.calls k3 _ _ t101 t104 (wrap64 (t105 - 1)) t139 true _ ?side1 ?side2 A54.out).mono ?_);(case side1 => repeat (first | exact (Kd.N_reads' HO_5.out).2.2 | (with_reducible refine Kd.C_alloc ?_ _) | (with_reducible refine Kd.C_drewN ?_ _) | (with_reducible refine Kd.C_drew ?_)));(case side2 => exact (Kd.N_reads' HO_5.out).2.1);rintro e w66 ⟨v141, rfl, ho0, hb⟩;have n0_ := Aside0.mk (Kd.N_elder' (by (with_reducible repeat (first | apply Kd.N_alloc | apply Kd.N_drewN | apply Kd.N_drew));exact HO_5.out) (by first | exact Kd.N_base ho0 | exact Kd.S_base ho0) hb);have n1_ := Aside0.mk (Kd.N_elder' (by (with_reducible repeat (first | apply Kd.N_alloc | apply Kd.N_drewN | apply Kd.N_drew));exact HO_9.out) (by first | exact Kd.N_base ho0 | exact Kd.S_base ho0) hb);have n2_ := Aside0.mk (Kd.N_elder' (by (with_reducible repeat (first | apply Kd.N_alloc | apply Kd.N_drewN | apply Kd.N_drew));exact HO_17.out) (by first | exact Kd.N_base ho0 | exact Kd.S_base ho0) hb);have n3_ := Aside0.mk (Kd.N_elder' (by (with_reducible repeat (first | apply Kd.N_alloc | apply Kd.N_drewN | apply Kd.N_drew));exact HO_19.out) (by first | exact Kd.N_base ho0 | exact Kd.S_base ho0) hb);have n4_ := Aside0.mk (Kd.N_lower (Kd.N_mono (ok' := fun k_ => some k_ ≠ (.slice Ao13 t101.length co13 : Value).ownBlock ∧ some k_ ≠ (.slice Ao47 t109.length co47 : Value).ownBlock ∧ some k_ ≠ (v130 : Value).ownBlock ∧ some k_ ≠ (v134 : Value).ownBlock) (Kd.S_N (Kd.S_bound ho0)) (fun k_ hk_ => ⟨(Kd.fresh' (Kd.N_lt (by (with_reducible repeat (first | apply Kd.N_alloc | apply Kd.N_drewN | apply Kd.N_drew));exact HO_5.out)) k_ hk_.2.1), (Kd.fresh' (Kd.N_lt (by (with_reducible repeat (first | apply Kd.N_alloc | apply Kd.N_drewN | apply Kd.N_drew));exact HO_9.out)) k_ hk_.2.1), (Kd.fresh' (Kd.N_lt (by (with_reducible repeat (first | apply Kd.N_alloc | apply Kd.N_drewN | apply Kd.N_drew));exact HO_17.out)) k_ hk_.2.1), (Kd.fresh' (Kd.N_lt (by (with_reducible repeat (first | apply Kd.N_alloc | apply Kd.N_drewN | apply Kd.N_drew));exact HO_19.out)) k_ hk_.2.1)⟩)) (below_size (by exact HB.out)));have n5_ := Aside0.mk (below_step (by exact HB.out) hb);clear HO_5;clear HO_9;clear HO_17;clear HO_19;clear HB;have HO_5 := n0_;have HO_9 := n1_;have HO_17 := n2_;have HO_19 := n3_;have HO142 := n4_;have HB := n5_;clear n0_ n1_ n2_ n3_ n4_ n5_;(try clear hb);(try clear hb2);(try clear hk);(try clear hi);(try clear ho0);obtain ⟨Ao67, co67, eo67⟩ := Kd.N_slice HO_17.out;subst eo67;obtain ⟨Ao68, co68, eo68⟩ := Kd.N_slice HO_19.out;subst eo68) | (go_at_call 26;(with_reducible refine (impl_OccsSame.calls k3 _ _ t128 _ _ t132 true _ ?side1 ?side2 ?side3 ?side4 A59.out).mono ?_);(case side1 => repeat (first | exact (Kd.N_reads' HO_17.out).2.2 | (with_reducible refine Kd.C_alloc ?_ _) | (with_reducible refine Kd.C_drewN ?_ _) | (with_reducible refine Kd.C_drew ?_)));(case side2 => exact (Kd.N_reads' HO_17.out).2.1);(case side3 => repeat (first | exact (Kd.N_reads' HO_19.out).2.2 | (with_reducible refine Kd.C_alloc ?_ _) | (with_reducible refine Kd.C_drewN ?_ _) | (with_reducible refine Kd.C_drew ?_)));(case side4 => exact (Kd.N_reads' HO_19.out).2.1);rintro e w69 ⟨rfl, hb⟩;have n0_ := Aside0.mk (Kd.N_below (by (with_reducible repeat (first | apply Kd.N_alloc | apply Kd.N_drewN | apply Kd.N_drew));exact HO_5.out) hb);have n1_ := Aside0.mk (Kd.N_below (by (with_reducible repeat (first | apply Kd.N_alloc | apply Kd.N_drewN | apply Kd.N_drew));exact HO_9.out) hb);have n2_ := Aside0.mk (Kd.N_below (by (with_reducible repeat (first | apply Kd.N_alloc | apply Kd.N_drewN | apply Kd.N_drew));exact HO_17.out) hb);have n3_ := Aside0.mk (Kd.N_below (by (with_reducible repeat (first | apply Kd.N_alloc | apply Kd.N_drewN | apply Kd.N_drew));exact HO_19.out) hb);have n4_ := Aside0.mk (Kd.N_below (by (with_reducible repeat (first | apply Kd.N_alloc | apply Kd.N_drewN | apply Kd.N_drew));exact HO142.out) hb);have n5_ := Aside0.mk (below_step (by exact HB.out) hb);clear HO_5;clear HO_9;clear HO_17;clear HO_19;clear HO142;clear HB;have HO_5 := n0_;have HO_9 := n1_;have HO_17 := n2_;have HO_19 := n3_;have HO142 := n4_;have HB := n5_;clear n0_ n1_ n2_ n3_ n4_ n5_;(try clear hb);(try clear hb2);(try clear hk);(try clear hi);obtain ⟨Ao70, co70, eo70⟩ := Kd.N_slice HO142.out;subst eo70;have q71 : ((t139.length : Int) : Int) ≤ ((t109.length : Int) : Int) := of_decide_eq_true (by first | (with_reducible assumption) | assumption);obtain ⟨i071, hi071, _, hsz71, _⟩ := info_parts info27;have hroom71 : t109.length ≤ co47 := (Kd.N_reads' HO_9.out).2.1;have hC71 : Kd.F k27 _ _ Ao47 t109.length t109 := (Kd.V_at (base := w.heap.size) (Kd.N_V HO_9.out)).2.2;have hcut71 := cut_to (P := Try.prog) 34 27 .i64 Try.underlying34 hi071 Ao47 t109.length co47 (t139.length : Int) (of_decide_eq_true (by first | (with_reducible assumption) | assumption)) q71 hroom71;have hr71 := Kd.F_take (m := ((t139.length : Int) : Int).toNat) hC71 (by omega);have hy71 : y144.length = ((t139.length : Int) : Int).toNat := (by rw [Ny144.out, List.length_take];omega);rw [← Ny144.out] at hr71;rw [← hy71] at hcut71;have HO148 := Aside0.mk (show Kd.V k27 27 _ w.heap.size _ (.slice Ao47 y144.length co47) y144 from Kd.V_mk (by omega) hr71);have HC148 := Aside0.mk (show y144.length ≤ co47 from by omega);clear hr71 hC71 hroom71 hi071 hsz71;have KY71 := Aside0.mk hy71;clear hy71;replace q71 := eq_true q71) | (go_at_call 26;(with_reducible refine (impl_OccsSame.calls k3 _ _ t139 _ _ y144 t149 _ ?side1 ?side2 ?side3 ?side4 A65.out).mono ?_);(case side1 => repeat (first | exact (Kd.N_reads' HO142.out).2.2 | (with_reducible refine Kd.C_alloc ?_ _) | (with_reducible refine Kd.C_drewN ?_ _) | (with_reducible refine Kd.C_drew ?_)));(case side2 => exact (Kd.N_reads' HO142.out).2.1);(case side3 => repeat (first | exact (Kd.V_reads' HO148.out).2.2 | (with_reducible refine Kd.C_alloc ?_ _) | (with_reducible refine Kd.C_drewN ?_ _) | (with_reducible refine Kd.C_drew ?_)));(case side4 => exact (Kd.V_reads' HO148.out).2.1);rintro e w72 ⟨rfl, hb⟩;have n0_ := Aside0.mk (Kd.N_below (by (with_reducible repeat (first | apply Kd.N_alloc | apply Kd.N_drewN | apply Kd.N_drew));exact HO_5.out) hb);have n1_ := Aside0.mk (Kd.N_below (by (with_reducible repeat (first | apply Kd.N_alloc | apply Kd.N_drewN | apply Kd.N_drew));exact HO_9.out) hb);have n2_ := Aside0.mk (Kd.N_below (by (with_reducible repeat (first | apply Kd.N_alloc | apply Kd.N_drewN | apply Kd.N_drew));exact HO_17.out) hb);have n3_ := Aside0.mk (Kd.N_below (by (with_reducible repeat (first | apply Kd.N_alloc | apply Kd.N_drewN | apply Kd.N_drew));exact HO_19.out) hb);have n4_ := Aside0.mk (Kd.N_below (by (with_reducible repeat (first | apply Kd.N_alloc | apply Kd.N_drewN | apply Kd.N_drew));exact HO142.out) hb);have n5_ := Aside0.mk (Kd.V_below (by (with_reducible repeat (first | apply Kd.V_alloc | apply Kd.V_drewN | apply Kd.V_drew));exact HO148.out) hb);have n6_ := Aside0.mk (below_step (by exact HB.out) hb);clear HO_5;clear HO_9;clear HO_17;clear HO_19;clear HO142;clear HO148;clear HB;have HO_5 := n0_;have HO_9 := n1_;have HO_17 := n2_;have HO_19 := n3_;have HO142 := n4_;have HO148 := n5_;have HB := n6_;clear n0_ n1_ n2_ n3_ n4_ n5_ n6_;(try clear hb);(try clear hb2);(try clear hk);(try clear hi)));try go_wp2_with (first | (go_at_call 61;(with_reducible refine (impl_PlusOf.calls k3 _ _ t101 t104 (wrap64 (t105 - 1)) t139 true _ ?side1 ?side2 A54.out).mono ?_);(case side1 => repeat (first | exact (Kd.N_reads' HO_5.out).2.2 | (with_reducible refine Kd.C_alloc ?_ _) | (with_reducible refine Kd.C_drewN ?_ _) | (with_reducible refine Kd.C_drew ?_)));(case side2 => exact (Kd.N_reads' HO_5.out).2.1);rintro e w66 ⟨v141, rfl, ho0, hb⟩;have n0_ := Aside0.mk (Kd.N_elder' (by (with_reducible repeat (first | apply Kd.N_alloc | apply Kd.N_drewN | apply Kd.N_drew));exact HO_5.out) (by first | exact Kd.N_base ho0 | exact Kd.S_base ho0) hb);have n1_ := Aside0.mk (Kd.N_elder' (by (with_reducible repeat (first | apply Kd.N_alloc | apply Kd.N_drewN | apply Kd.N_drew));exact HO_9.out) (by first | exact Kd.N_base ho0 | exact Kd.S_base ho0) hb);have n2_ := Aside0.mk (Kd.N_elder' (by (with_reducible repeat (first | apply Kd.N_alloc | apply Kd.N_drewN | apply Kd.N_drew));exact HO_17.out) (by first | exact Kd.N_base ho0 | exact Kd.S_base ho0) hb);have n3_ := Aside0.mk (Kd.N_elder' (by (with_reducible repeat (first | apply Kd.N_alloc | apply Kd.N_drewN | apply Kd.N_drew));exact HO_19.out) (by first | exact Kd.N_base ho0 | exact Kd.S_base ho0) hb);have n4_ := Aside0.mk (Kd.N_lower (Kd.N_mono (ok' := fun k_ => some k_ ≠ (.slice Ao13 t101.length co13 : Value).ownBlock ∧ some k_ ≠ (.slice Ao47 t109.length co47 : Value).ownBlock ∧ some k_ ≠ (v130 : Value).ownBlock ∧ some k_ ≠ (v134 : Value).ownBlock) (Kd.S_N (Kd.S_bound ho0)) (fun k_ hk_ => ⟨(Kd.fresh' (Kd.N_lt (by (with_reducible repeat (first | apply Kd.N_alloc | apply Kd.N_drewN | apply Kd.N_drew));exact HO_5.out)) k_ hk_.2.1), (Kd.fresh' (Kd.N_lt (by (with_reducible repeat (first | apply Kd.N_alloc | apply Kd.N_drewN | apply Kd.N_drew));exact HO_9.out)) k_ hk_.2.1), (Kd.fresh' (Kd.N_lt (by (with_reducible repeat (first | apply Kd.N_alloc | apply Kd.N_drewN | apply Kd.N_drew));exact HO_17.out)) k_ hk_.2.1), (Kd.fresh' (Kd.N_lt (by (with_reducible repeat (first | apply Kd.N_alloc | apply Kd.N_drewN | apply Kd.N_drew));exact HO_19.out)) k_ hk_.2.1)⟩)) (below_size (by exact HB.out)));have n5_ := Aside0.mk (below_step (by exact HB.out) hb);clear HO_5;clear HO_9;clear HO_17;clear HO_19;clear HB;have HO_5 := n0_;have HO_9 := n1_;have HO_17 := n2_;have HO_19 := n3_;have HO142 := n4_;have HB := n5_;clear n0_ n1_ n2_ n3_ n4_ n5_;(try clear hb);(try clear hb2);(try clear hk);(try clear hi);(try clear ho0);obtain ⟨Ao67, co67, eo67⟩ := Kd.N_slice HO_17.out;subst eo67;obtain ⟨Ao68, co68, eo68⟩ := Kd.N_slice HO_19.out;subst eo68) | (go_at_call 26;(with_reducible refine (impl_OccsSame.calls k3 _ _ t128 _ _ t132 true _ ?side1 ?side2 ?side3 ?side4 A59.out).mono ?_);(case side1 => repeat (first | exact (Kd.N_reads' HO_17.out).2.2 | (with_reducible refine Kd.C_alloc ?_ _) | (with_reducible refine Kd.C_drewN ?_ _) | (with_reducible refine Kd.C_drew ?_)));(case side2 => exact (Kd.N_reads' HO_17.out).2.1);(case side3 => repeat (first | exact (Kd.N_reads' HO_19.out).2.2 | (with_reducible refine Kd.C_alloc ?_ _) | (with_reducible refine Kd.C_drewN ?_ _) | (with_reducible refine Kd.C_drew ?_)));(case side4 => exact (Kd.N_reads' HO_19.out).2.1);rintro e w69 ⟨rfl, hb⟩;have n0_ := Aside0.mk (Kd.N_below (by (with_reducible repeat (first | apply Kd.N_alloc | apply Kd.N_drewN | apply Kd.N_drew));exact HO_5.out) hb);have n1_ := Aside0.mk (Kd.N_below (by (with_reducible repeat (first | apply Kd.N_alloc | apply Kd.N_drewN | apply Kd.N_drew));exact HO_9.out) hb);have n2_ := Aside0.mk (Kd.N_below (by (with_reducible repeat (first | apply Kd.N_alloc | apply Kd.N_drewN | apply Kd.N_drew));exact HO_17.out) hb);have n3_ := Aside0.mk (Kd.N_below (by (with_reducible repeat (first | apply Kd.N_alloc | apply Kd.N_drewN | apply Kd.N_drew));exact HO_19.out) hb);have n4_ := Aside0.mk (Kd.N_below (by (with_reducible repeat (first | apply Kd.N_alloc | apply Kd.N_drewN | apply Kd.N_drew));exact HO142.out) hb);have n5_ := Aside0.mk (below_step (by exact HB.out) hb);clear HO_5;clear HO_9;clear HO_17;clear HO_19;clear HO142;clear HB;have HO_5 := n0_;have HO_9 := n1_;have HO_17 := n2_;have HO_19 := n3_;have HO142 := n4_;have HB := n5_;clear n0_ n1_ n2_ n3_ n4_ n5_;(try clear hb);(try clear hb2);(try clear hk);(try clear hi);obtain ⟨Ao70, co70, eo70⟩ := Kd.N_slice HO142.out;subst eo70;have q71 : ((t139.length : Int) : Int) ≤ ((t109.length : Int) : Int) := of_decide_eq_true (by first | (with_reducible assumption) | assumption);obtain ⟨i071, hi071, _, hsz71, _⟩ := info_parts info27;have hroom71 : t109.length ≤ co47 := (Kd.N_reads' HO_9.out).2.1;have hC71 : Kd.F k27 _ _ Ao47 t109.length t109 := (Kd.V_at (base := w.heap.size) (Kd.N_V HO_9.out)).2.2;have hcut71 := cut_to (P := Try.prog) 34 27 .i64 Try.underlying34 hi071 Ao47 t109.length co47 (t139.length : Int) (of_decide_eq_true (by first | (with_reducible assumption) | assumption)) q71 hroom71;have hr71 := Kd.F_take (m := ((t139.length : Int) : Int).toNat) hC71 (by omega);have hy71 : y144.length = ((t139.length : Int) : Int).toNat := (by rw [Ny144.out, List.length_take];omega);rw [← Ny144.out] at hr71;rw [← hy71] at hcut71;have HO148 := Aside0.mk (show Kd.V k27 27 _ w.heap.size _ (.slice Ao47 y144.length co47) y144 from Kd.V_mk (by omega) hr71);have HC148 := Aside0.mk (show y144.length ≤ co47 from by omega);clear hr71 hC71 hroom71 hi071 hsz71;have KY71 := Aside0.mk hy71;clear hy71;replace q71 := eq_true q71) | (go_at_call 26;(with_reducible refine (impl_OccsSame.calls k3 _ _ t139 _ _ y144 t149 _ ?side1 ?side2 ?side3 ?side4 A65.out).mono ?_);(case side1 => repeat (first | exact (Kd.N_reads' HO142.out).2.2 | (with_reducible refine Kd.C_alloc ?_ _) | (with_reducible refine Kd.C_drewN ?_ _) | (with_reducible refine Kd.C_drew ?_)));(case side2 => exact (Kd.N_reads' HO142.out).2.1);(case side3 => repeat (first | exact (Kd.V_reads' HO148.out).2.2 | (with_reducible refine Kd.C_alloc ?_ _) | (with_reducible refine Kd.C_drewN ?_ _) | (with_reducible refine Kd.C_drew ?_)));(case side4 => exact (Kd.V_reads' HO148.out).2.1);rintro e w72 ⟨rfl, hb⟩;have n0_ := Aside0.mk (Kd.N_below (by (with_reducible repeat (first | apply Kd.N_alloc | apply Kd.N_drewN | apply Kd.N_drew));exact HO_5.out) hb);have n1_ := Aside0.mk (Kd.N_below (by (with_reducible repeat (first | apply Kd.N_alloc | apply Kd.N_drewN | apply Kd.N_drew));exact HO_9.out) hb);have n2_ := Aside0.mk (Kd.N_below (by (with_reducible repeat (first | apply Kd.N_alloc | apply Kd.N_drewN | apply Kd.N_drew));exact HO_17.out) hb);have n3_ := Aside0.mk (Kd.N_below (by (with_reducible repeat (first | apply Kd.N_alloc | apply Kd.N_drewN | apply Kd.N_drew));exact HO_19.out) hb);have n4_ := Aside0.mk (Kd.N_below (by (with_reducible repeat (first | apply Kd.N_alloc | apply Kd.N_drewN | apply Kd.N_drew));exact HO142.out) hb);have n5_ := Aside0.mk (Kd.V_below (by (with_reducible repeat (first | apply Kd.V_alloc | apply Kd.V_drewN | apply Kd.V_drew));exact HO148.out) hb);have n6_ := Aside0.mk (below_step (by exact HB.out) hb);clear HO_5;clear HO_9;clear HO_17;clear HO_19;clear HO142;clear HO148;clear HB;have HO_5 := n0_;have HO_9 := n1_;have HO_17 := n2_;have HO_19 := n3_;have HO142 := n4_;have HO148 := n5_;have HB := n6_;clear n0_ n1_ n2_ n3_ n4_ n5_ n6_;(try clear hb);(try clear hb2);(try clear hk);(try clear hi))))
                  go_ret
                  exact ⟨by first | rfl | (simp [errW_none, errW_some] <;> rfl) | (simp [*, errW_none, errW_some] <;> rfl), by repeat (first | (with_reducible first | exact HB.out | apply below_alloc | apply pw_below_drewN | apply below_drew1) | exact HB.out)⟩
                 ·rw [if_neg c63] at H
                  exact absurd H (by simp)
                ·rw [if_neg c62] at H
                 have c62b0 : decide ((t139.length : Int) ≤ (t109.length : Int)) = false := decide_eq_false c62
                 (try (have c62b1 : ¬ (t139.length ≤ t109.length) := by omega))
                 have c62b2 : decide (t139.length ≤ t109.length) = false := decide_eq_false (fun h => c62 (Int.ofNat_le.mpr h))
                 clear c62
                 exact absurd (Option.some.inj H) (by rw [hT_.out];decide)
               ·replace c61 := Bool.eq_false_iff.mpr c61
                subst c61
                have H1 : (some false) = some r := by rw [if_neg (show ¬ (false = true) by decide)] at H;exact H
                clear H
                have H := H1
                clear H1
                exact absurd (Option.some.inj H) (by rw [hT_.out];decide)
              ·replace c60 := Bool.eq_false_iff.mpr c60
               subst c60
               have H1 : (some false) = some r := by rw [if_neg (show ¬ (false = true) by decide)] at H;exact H
               clear H
               have H := H1
               clear H1
               exact absurd (Option.some.inj H) (by rw [hT_.out];decide)
             ·replace c58 := Bool.eq_false_iff.mpr c58
              subst c58
              have H1 : (if t140 = true then (if (t139.length : Int) ≤ (t109.length : Int) then (if 0 ≤ (t139.length : Int) then ((impl_OccsSame.f k3 t139 (t109.take ((t139.length : Int) : Int).toNat)).bind fun t155 => (some t155)) else (none)) else (some false)) else (some false)) = some r := by rw [if_neg (show ¬ (false = true) by decide)] at H;exact H
              clear H
              have H := H1
              clear H1
              by_cases c73 : t140 = true
              ·subst c73
               have H1 : (if (t139.length : Int) ≤ (t109.length : Int) then (if 0 ≤ (t139.length : Int) then ((impl_OccsSame.f k3 t139 (t109.take ((t139.length : Int) : Int).toNat)).bind fun t155 => (some t155)) else (none)) else (some false)) = some r := by rw [if_pos rfl] at H;exact H
               clear H
               have H := H1
               clear H1
               by_cases c74 : (t139.length : Int) ≤ (t109.length : Int)
               ·rw [if_pos c74] at H
                have c74b0 : decide ((t139.length : Int) ≤ (t109.length : Int)) = true := decide_eq_true c74
                (try (have c74b1 : (t139.length ≤ t109.length) := by omega))
                have c74b2 : decide (t139.length ≤ t109.length) = true := decide_eq_true (Int.ofNat_le.mp c74)
                clear c74
                by_cases c75 : 0 ≤ (t139.length : Int)
                ·rw [if_pos c75] at H
                 have c75b0 := eq_true c75
                 have c75b1 : decide (0 ≤ (t139.length : Int)) = true := decide_eq_true c75
                 clear c75
                 have c76b0 := eq_true (of_decide_eq_true (by first | (with_reducible assumption) | assumption) : (t139.length : Int) ≤ (t109.length : Int))
                 obtain ⟨y150, hy150⟩ : ∃ y_ : List (S27), y_ = (t109.take ((t139.length : Int) : Int).toNat) := ⟨_, rfl⟩
                 replace H : ((impl_OccsSame.f k3 t139 y150).bind fun t155 => (some t155)) = some r := by first | (rw [hy150];with_reducible exact H) | (have H2_ := (Option.bind_some _ _).symm.trans H;rw [hy150];with_reducible exact H2_) | (have H2_ := (Option.bind_some _ _).symm.trans H;with_reducible exact H2_) | with_reducible exact H | (rw [hy150];exact H) | exact H
                 have Ny150 := Aside0.mk hy150
                 clear hy150
                 replace H := Option.bind_eq_some_iff.mp H
                 obtain ⟨t155, A770, H⟩ := H
                 replace H : (some t155) = some r := H
                 have A77 := Aside0.mk A770
                 clear A770
                 obtain rfl := Option.some.inj H
                 go_wp2_with (first | (go_at_call 61;(with_reducible refine (impl_PlusOf.calls k3 _ _ t101 t104 (wrap64 (t105 - 1)) t139 true _ ?side1 ?side2 A54.out).mono ?_);(case side1 => repeat (first | exact (Kd.N_reads' HO_5.out).2.2 | (with_reducible refine Kd.C_alloc ?_ _) | (with_reducible refine Kd.C_drewN ?_ _) | (with_reducible refine Kd.C_drew ?_)));(case side2 => exact (Kd.N_reads' HO_5.out).2.1);rintro e w78 ⟨v141, rfl, ho0, hb⟩;have n0_ := Aside0.mk (Kd.N_elder' (by (with_reducible repeat (first | apply Kd.N_alloc | apply Kd.N_drewN | apply Kd.N_drew));exact HO_5.out) (by first | exact Kd.N_base ho0 | exact Kd.S_base ho0) hb);have n1_ := Aside0.mk (Kd.N_elder' (by (with_reducible repeat (first | apply Kd.N_alloc | apply Kd.N_drewN | apply Kd.N_drew));exact HO_9.out) (by first | exact Kd.N_base ho0 | exact Kd.S_base ho0) hb);have n2_ := Aside0.mk (Kd.N_elder' (by (with_reducible repeat (first | apply Kd.N_alloc | apply Kd.N_drewN | apply Kd.N_drew));exact HO_17.out) (by first | exact Kd.N_base ho0 | exact Kd.S_base ho0) hb);have n3_ := Aside0.mk (Kd.N_elder' (by (with_reducible repeat (first | apply Kd.N_alloc | apply Kd.N_drewN | apply Kd.N_drew));exact HO_19.out) (by first | exact Kd.N_base ho0 | exact Kd.S_base ho0) hb);have n4_ := Aside0.mk (Kd.N_lower (Kd.N_mono (ok' := fun k_ => some k_ ≠ (.slice Ao13 t101.length co13 : Value).ownBlock ∧ some k_ ≠ (.slice Ao47 t109.length co47 : Value).ownBlock ∧ some k_ ≠ (v130 : Value).ownBlock ∧ some k_ ≠ (v134 : Value).ownBlock) (Kd.S_N (Kd.S_bound ho0)) (fun k_ hk_ => ⟨(Kd.fresh' (Kd.N_lt (by (with_reducible repeat (first | apply Kd.N_alloc | apply Kd.N_drewN | apply Kd.N_drew));exact HO_5.out)) k_ hk_.2.1), (Kd.fresh' (Kd.N_lt (by (with_reducible repeat (first | apply Kd.N_alloc | apply Kd.N_drewN | apply Kd.N_drew));exact HO_9.out)) k_ hk_.2.1), (Kd.fresh' (Kd.N_lt (by (with_reducible repeat (first | apply Kd.N_alloc | apply Kd.N_drewN | apply Kd.N_drew));exact HO_17.out)) k_ hk_.2.1), (Kd.fresh' (Kd.N_lt (by (with_reducible repeat (first | apply Kd.N_alloc | apply Kd.N_drewN | apply Kd.N_drew));exact HO_19.out)) k_ hk_.2.1)⟩)) (below_size (by exact HB.out)));have n5_ := Aside0.mk (below_step (by exact HB.out) hb);clear HO_5;clear HO_9;clear HO_17;clear HO_19;clear HB;have HO_5 := n0_;have HO_9 := n1_;have HO_17 := n2_;have HO_19 := n3_;have HO142 := n4_;have HB := n5_;clear n0_ n1_ n2_ n3_ n4_ n5_;(try clear hb);(try clear hb2);(try clear hk);(try clear hi);(try clear ho0);obtain ⟨Ao79, co79, eo79⟩ := Kd.N_slice HO142.out;subst eo79;have q80 : ((t139.length : Int) : Int) ≤ ((t109.length : Int) : Int) := of_decide_eq_true (by first | (with_reducible assumption) | assumption);obtain ⟨i080, hi080, _, hsz80, _⟩ := info_parts info27;have hroom80 : t109.length ≤ co47 := (Kd.N_reads' HO_9.out).2.1;have hC80 : Kd.F k27 _ _ Ao47 t109.length t109 := (Kd.V_at (base := w.heap.size) (Kd.N_V HO_9.out)).2.2;have hcut80 := cut_to (P := Try.prog) 34 27 .i64 Try.underlying34 hi080 Ao47 t109.length co47 (t139.length : Int) (of_decide_eq_true (by first | (with_reducible assumption) | assumption)) q80 hroom80;have hr80 := Kd.F_take (m := ((t139.length : Int) : Int).toNat) hC80 (by omega);have hy80 : y150.length = ((t139.length : Int) : Int).toNat := (by rw [Ny150.out, List.length_take];omega);rw [← Ny150.out] at hr80;rw [← hy80] at hcut80;have HO154 := Aside0.mk (show Kd.V k27 27 _ w.heap.size _ (.slice Ao47 y150.length co47) y150 from Kd.V_mk (by omega) hr80);have HC154 := Aside0.mk (show y150.length ≤ co47 from by omega);clear hr80 hC80 hroom80 hi080 hsz80;have KY80 := Aside0.mk hy80;clear hy80;replace q80 := eq_true q80) | (go_at_call 26;(with_reducible refine (impl_OccsSame.calls k3 _ _ t139 _ _ y150 t155 _ ?side1 ?side2 ?side3 ?side4 A77.out).mono ?_);(case side1 => repeat (first | exact (Kd.N_reads' HO142.out).2.2 | (with_reducible refine Kd.C_alloc ?_ _) | (with_reducible refine Kd.C_drewN ?_ _) | (with_reducible refine Kd.C_drew ?_)));(case side2 => exact (Kd.N_reads' HO142.out).2.1);(case side3 => repeat (first | exact (Kd.V_reads' HO154.out).2.2 | (with_reducible refine Kd.C_alloc ?_ _) | (with_reducible refine Kd.C_drewN ?_ _) | (with_reducible refine Kd.C_drew ?_)));(case side4 => exact (Kd.V_reads' HO154.out).2.1);rintro e w81 ⟨rfl, hb⟩;have n0_ := Aside0.mk (Kd.N_below (by (with_reducible repeat (first | apply Kd.N_alloc | apply Kd.N_drewN | apply Kd.N_drew));exact HO_5.out) hb);have n1_ := Aside0.mk (Kd.N_below (by (with_reducible repeat (first | apply Kd.N_alloc | apply Kd.N_drewN | apply Kd.N_drew));exact HO_9.out) hb);have n2_ := Aside0.mk (Kd.N_below (by (with_reducible repeat (first | apply Kd.N_alloc | apply Kd.N_drewN | apply Kd.N_drew));exact HO_17.out) hb);have n3_ := Aside0.mk (Kd.N_below (by (with_reducible repeat (first | apply Kd.N_alloc | apply Kd.N_drewN | apply Kd.N_drew));exact HO_19.out) hb);have n4_ := Aside0.mk (Kd.N_below (by (with_reducible repeat (first | apply Kd.N_alloc | apply Kd.N_drewN | apply Kd.N_drew));exact HO142.out) hb);have n5_ := Aside0.mk (Kd.V_below (by (with_reducible repeat (first | apply Kd.V_alloc | apply Kd.V_drewN | apply Kd.V_drew));exact HO154.out) hb);have n6_ := Aside0.mk (below_step (by exact HB.out) hb);clear HO_5;clear HO_9;clear HO_17;clear HO_19;clear HO142;clear HO154;clear HB;have HO_5 := n0_;have HO_9 := n1_;have HO_17 := n2_;have HO_19 := n3_;have HO142 := n4_;have HO154 := n5_;have HB := n6_;clear n0_ n1_ n2_ n3_ n4_ n5_ n6_;(try clear hb);(try clear hb2);(try clear hk);(try clear hi)))
                 repeat (go_quiet (first | (go_at_call 61;(with_reducible refine (impl_PlusOf.calls k3 _ _ t101 t104 (wrap64 (t105 - 1)) t139 true _ ?side1 ?side2 A54.out).mono ?_);(case side1 => repeat (first | exact (Kd.N_reads' HO_5.out).2.2 | (with_reducible refine Kd.C_alloc ?_ _) | (with_reducible refine Kd.C_drewN ?_ _) | (with_reducible refine Kd.C_drew ?_)));(case side2 => exact (Kd.N_reads' HO_5.out).2.1);rintro e w78 ⟨v141, rfl, ho0, hb⟩;have n0_ := Aside0.mk (Kd.N_elder' (by (with_reducible repeat (first | apply Kd.N_alloc | apply Kd.N_drewN | apply Kd.N_drew));exact HO_5.out) (by first | exact Kd.N_base ho0 | exact Kd.S_base ho0) hb);have n1_ := Aside0.mk (Kd.N_elder' (by (with_reducible repeat (first | apply Kd.N_alloc | apply Kd.N_drewN | apply Kd.N_drew));exact HO_9.out) (by first | exact Kd.N_base ho0 | exact Kd.S_base ho0) hb);have n2_ := Aside0.mk (Kd.N_elder' (by (with_reducible repeat (first | apply Kd.N_alloc | apply Kd.N_drewN | apply Kd.N_drew));exact HO_17.out) (by first | exact Kd.N_base ho0 | exact Kd.S_base ho0) hb);have n3_ := Aside0.mk (Kd.N_elder' (by (with_reducible repeat (first | apply Kd.N_alloc | apply Kd.N_drewN | apply Kd.N_drew));exact HO_19.out) (by first | exact Kd.N_base ho0 | exact Kd.S_base ho0) hb);have n4_ := Aside0.mk (Kd.N_lower (Kd.N_mono (ok' := fun k_ => some k_ ≠ (.slice Ao13 t101.length co13 : Value).ownBlock ∧ some k_ ≠ (.slice Ao47 t109.length co47 : Value).ownBlock ∧ some k_ ≠ (v130 : Value).ownBlock ∧ some k_ ≠ (v134 : Value).ownBlock) (Kd.S_N (Kd.S_bound ho0)) (fun k_ hk_ => ⟨(Kd.fresh' (Kd.N_lt (by (with_reducible repeat (first | apply Kd.N_alloc | apply Kd.N_drewN | apply Kd.N_drew));exact HO_5.out)) k_ hk_.2.1), (Kd.fresh' (Kd.N_lt (by (with_reducible repeat (first | apply Kd.N_alloc | apply Kd.N_drewN | apply Kd.N_drew));exact HO_9.out)) k_ hk_.2.1), (Kd.fresh' (Kd.N_lt (by (with_reducible repeat (first | apply Kd.N_alloc | apply Kd.N_drewN | apply Kd.N_drew));exact HO_17.out)) k_ hk_.2.1), (Kd.fresh' (Kd.N_lt (by (with_reducible repeat (first | apply Kd.N_alloc | apply Kd.N_drewN | apply Kd.N_drew));exact HO_19.out)) k_ hk_.2.1)⟩)) (below_size (by exact HB.out)));have n5_ := Aside0.mk (below_step (by exact HB.out) hb);clear HO_5;clear HO_9;clear HO_17;clear HO_19;clear HB;have HO_5 := n0_;have HO_9 := n1_;have HO_17 := n2_;have HO_19 := n3_;have HO142 := n4_;have HB := n5_;clear n0_ n1_ n2_ n3_ n4_ n5_;(try clear hb);(try clear hb2);(try clear hk);(try clear hi);(try clear ho0);obtain ⟨Ao79, co79, eo79⟩ := Kd.N_slice HO142.out;subst eo79;have q80 : ((t139.length : Int) : Int) ≤ ((t109.length : Int) : Int) := of_decide_eq_true (by first | (with_reducible assumption) | assumption);obtain ⟨i080, hi080, _, hsz80, _⟩ := info_parts info27;have hroom80 : t109.length ≤ co47 := (Kd.N_reads' HO_9.out).2.1;have hC80 : Kd.F k27 _ _ Ao47 t109.length t109 := (Kd.V_at (base := w.heap.size) (Kd.N_V HO_9.out)).2.2;have hcut80 := cut_to (P := Try.prog) 34 27 .i64 Try.underlying34 hi080 Ao47 t109.length co47 (t139.length : Int) (of_decide_eq_true (by first | (with_reducible assumption) | assumption)) q80 hroom80;have hr80 := Kd.F_take (m := ((t139.length : Int) : Int).toNat) hC80 (by omega);have hy80 : y150.length = ((t139.length : Int) : Int).toNat := (by rw [Ny150.out, List.length_take];omega);rw [← Ny150.out] at hr80;rw [← hy80] at hcut80;have HO154 := Aside0.mk (show Kd.V k27 27 _ w.heap.size _ (.slice Ao47 y150.length co47) y150 from Kd.V_mk (by omega) hr80);have HC154 := Aside0.mk (show y150.length ≤ co47 from by omega);clear hr80 hC80 hroom80 hi080 hsz80;have KY80 := Aside0.mk hy80;clear hy80;replace q80 := eq_true q80) | (go_at_call 26;(with_reducible refine (impl_OccsSame.calls k3 _ _ t139 _ _ y150 t155 _ ?side1 ?side2 ?side3 ?side4 A77.out).mono ?_);(case side1 => repeat (first | exact (Kd.N_reads' HO142.out).2.2 | (with_reducible refine Kd.C_alloc ?_ _) | (with_reducible refine Kd.C_drewN ?_ _) | (with_reducible refine Kd.C_drew ?_)));(case side2 => exact (Kd.N_reads' HO142.out).2.1);(case side3 => repeat (first | exact (Kd.V_reads' HO154.out).2.2 | (with_reducible refine Kd.C_alloc ?_ _) | (with_reducible refine Kd.C_drewN ?_ _) | (with_reducible refine Kd.C_drew ?_)));(case side4 => exact (Kd.V_reads' HO154.out).2.1);rintro e w81 ⟨rfl, hb⟩;have n0_ := Aside0.mk (Kd.N_below (by (with_reducible repeat (first | apply Kd.N_alloc | apply Kd.N_drewN | apply Kd.N_drew));exact HO_5.out) hb);have n1_ := Aside0.mk (Kd.N_below (by (with_reducible repeat (first | apply Kd.N_alloc | apply Kd.N_drewN | apply Kd.N_drew));exact HO_9.out) hb);have n2_ := Aside0.mk (Kd.N_below (by (with_reducible repeat (first | apply Kd.N_alloc | apply Kd.N_drewN | apply Kd.N_drew));exact HO_17.out) hb);have n3_ := Aside0.mk (Kd.N_below (by (with_reducible repeat (first | apply Kd.N_alloc | apply Kd.N_drewN | apply Kd.N_drew));exact HO_19.out) hb);have n4_ := Aside0.mk (Kd.N_below (by (with_reducible repeat (first | apply Kd.N_alloc | apply Kd.N_drewN | apply Kd.N_drew));exact HO142.out) hb);have n5_ := Aside0.mk (Kd.V_below (by (with_reducible repeat (first | apply Kd.V_alloc | apply Kd.V_drewN | apply Kd.V_drew));exact HO154.out) hb);have n6_ := Aside0.mk (below_step (by exact HB.out) hb);clear HO_5;clear HO_9;clear HO_17;clear HO_19;clear HO142;clear HO154;clear HB;have HO_5 := n0_;have HO_9 := n1_;have HO_17 := n2_;have HO_19 := n3_;have HO142 := n4_;have HO154 := n5_;have HB := n6_;clear n0_ n1_ n2_ n3_ n4_ n5_ n6_;(try clear hb);(try clear hb2);(try clear hk);(try clear hi)));try go_wp2_with (first | (go_at_call 61;(with_reducible refine (impl_PlusOf.calls k3 _ _ t101 t104 (wrap64 (t105 - 1)) t139 true _ ?side1 ?side2 A54.out).mono ?_);(case side1 => repeat (first | exact (Kd.N_reads' HO_5.out).2.2 | (with_reducible refine Kd.C_alloc ?_ _) | (with_reducible refine Kd.C_drewN ?_ _) | (with_reducible refine Kd.C_drew ?_)));(case side2 => exact (Kd.N_reads' HO_5.out).2.1);rintro e w78 ⟨v141, rfl, ho0, hb⟩;have n0_ := Aside0.mk (Kd.N_elder' (by (with_reducible repeat (first | apply Kd.N_alloc | apply Kd.N_drewN | apply Kd.N_drew));exact HO_5.out) (by first | exact Kd.N_base ho0 | exact Kd.S_base ho0) hb);have n1_ := Aside0.mk (Kd.N_elder' (by (with_reducible repeat (first | apply Kd.N_alloc | apply Kd.N_drewN | apply Kd.N_drew));exact HO_9.out) (by first | exact Kd.N_base ho0 | exact Kd.S_base ho0) hb);have n2_ := Aside0.mk (Kd.N_elder' (by (with_reducible repeat (first | apply Kd.N_alloc | apply Kd.N_drewN | apply Kd.N_drew));exact HO_17.out) (by first | exact Kd.N_base ho0 | exact Kd.S_base ho0) hb);have n3_ := Aside0.mk (Kd.N_elder' (by (with_reducible repeat (first | apply Kd.N_alloc | apply Kd.N_drewN | apply Kd.N_drew));exact HO_19.out) (by first | exact Kd.N_base ho0 | exact Kd.S_base ho0) hb);have n4_ := Aside0.mk (Kd.N_lower (Kd.N_mono (ok' := fun k_ => some k_ ≠ (.slice Ao13 t101.length co13 : Value).ownBlock ∧ some k_ ≠ (.slice Ao47 t109.length co47 : Value).ownBlock ∧ some k_ ≠ (v130 : Value).ownBlock ∧ some k_ ≠ (v134 : Value).ownBlock) (Kd.S_N (Kd.S_bound ho0)) (fun k_ hk_ => ⟨(Kd.fresh' (Kd.N_lt (by (with_reducible repeat (first | apply Kd.N_alloc | apply Kd.N_drewN | apply Kd.N_drew));exact HO_5.out)) k_ hk_.2.1), (Kd.fresh' (Kd.N_lt (by (with_reducible repeat (first | apply Kd.N_alloc | apply Kd.N_drewN | apply Kd.N_drew));exact HO_9.out)) k_ hk_.2.1), (Kd.fresh' (Kd.N_lt (by (with_reducible repeat (first | apply Kd.N_alloc | apply Kd.N_drewN | apply Kd.N_drew));exact HO_17.out)) k_ hk_.2.1), (Kd.fresh' (Kd.N_lt (by (with_reducible repeat (first | apply Kd.N_alloc | apply Kd.N_drewN | apply Kd.N_drew));exact HO_19.out)) k_ hk_.2.1)⟩)) (below_size (by exact HB.out)));have n5_ := Aside0.mk (below_step (by exact HB.out) hb);clear HO_5;clear HO_9;clear HO_17;clear HO_19;clear HB;have HO_5 := n0_;have HO_9 := n1_;have HO_17 := n2_;have HO_19 := n3_;have HO142 := n4_;have HB := n5_;clear n0_ n1_ n2_ n3_ n4_ n5_;(try clear hb);(try clear hb2);(try clear hk);(try clear hi);(try clear ho0);obtain ⟨Ao79, co79, eo79⟩ := Kd.N_slice HO142.out;subst eo79;have q80 : ((t139.length : Int) : Int) ≤ ((t109.length : Int) : Int) := of_decide_eq_true (by first | (with_reducible assumption) | assumption);obtain ⟨i080, hi080, _, hsz80, _⟩ := info_parts info27;have hroom80 : t109.length ≤ co47 := (Kd.N_reads' HO_9.out).2.1;have hC80 : Kd.F k27 _ _ Ao47 t109.length t109 := (Kd.V_at (base := w.heap.size) (Kd.N_V HO_9.out)).2.2;have hcut80 := cut_to (P := Try.prog) 34 27 .i64 Try.underlying34 hi080 Ao47 t109.length co47 (t139.length : Int) (of_decide_eq_true (by first | (with_reducible assumption) | assumption)) q80 hroom80;have hr80 := Kd.F_take (m := ((t139.length : Int) : Int).toNat) hC80 (by omega);have hy80 : y150.length = ((t139.length : Int) : Int).toNat := (by rw [Ny150.out, List.length_take];omega);rw [← Ny150.out] at hr80;rw [← hy80] at hcut80;have HO154 := Aside0.mk (show Kd.V k27 27 _ w.heap.size _ (.slice Ao47 y150.length co47) y150 from Kd.V_mk (by omega) hr80);have HC154 := Aside0.mk (show y150.length ≤ co47 from by omega);clear hr80 hC80 hroom80 hi080 hsz80;have KY80 := Aside0.mk hy80;clear hy80;replace q80 := eq_true q80) | (go_at_call 26;(with_reducible refine (impl_OccsSame.calls k3 _ _ t139 _ _ y150 t155 _ ?side1 ?side2 ?side3 ?side4 A77.out).mono ?_);(case side1 => repeat (first | exact (Kd.N_reads' HO142.out).2.2 | (with_reducible refine Kd.C_alloc ?_ _) | (with_reducible refine Kd.C_drewN ?_ _) | (with_reducible refine Kd.C_drew ?_)));(case side2 => exact (Kd.N_reads' HO142.out).2.1);(case side3 => repeat (first | exact (Kd.V_reads' HO154.out).2.2 | (with_reducible refine Kd.C_alloc ?_ _) | (with_reducible refine Kd.C_drewN ?_ _) | (with_reducible refine Kd.C_drew ?_)));(case side4 => exact (Kd.V_reads' HO154.out).2.1);rintro e w81 ⟨rfl, hb⟩;have n0_ := Aside0.mk (Kd.N_below (by (with_reducible repeat (first | apply Kd.N_alloc | apply Kd.N_drewN | apply Kd.N_drew));exact HO_5.out) hb);have n1_ := Aside0.mk (Kd.N_below (by (with_reducible repeat (first | apply Kd.N_alloc | apply Kd.N_drewN | apply Kd.N_drew));exact HO_9.out) hb);have n2_ := Aside0.mk (Kd.N_below (by (with_reducible repeat (first | apply Kd.N_alloc | apply Kd.N_drewN | apply Kd.N_drew));exact HO_17.out) hb);have n3_ := Aside0.mk (Kd.N_below (by (with_reducible repeat (first | apply Kd.N_alloc | apply Kd.N_drewN | apply Kd.N_drew));exact HO_19.out) hb);have n4_ := Aside0.mk (Kd.N_below (by (with_reducible repeat (first | apply Kd.N_alloc | apply Kd.N_drewN | apply Kd.N_drew));exact HO142.out) hb);have n5_ := Aside0.mk (Kd.V_below (by (with_reducible repeat (first | apply Kd.V_alloc | apply Kd.V_drewN | apply Kd.V_drew));exact HO154.out) hb);have n6_ := Aside0.mk (below_step (by exact HB.out) hb);clear HO_5;clear HO_9;clear HO_17;clear HO_19;clear HO142;clear HO154;clear HB;have HO_5 := n0_;have HO_9 := n1_;have HO_17 := n2_;have HO_19 := n3_;have HO142 := n4_;have HO154 := n5_;have HB := n6_;clear n0_ n1_ n2_ n3_ n4_ n5_ n6_;(try clear hb);(try clear hb2);(try clear hk);(try clear hi))))
                 go_ret
                 exact ⟨by first | rfl | (simp [errW_none, errW_some] <;> rfl) | (simp [*, errW_none, errW_some] <;> rfl), by repeat (first | (with_reducible first | exact HB.out | apply below_alloc | apply pw_below_drewN | apply below_drew1) | exact HB.out)⟩
                ·rw [if_neg c75] at H
                 exact absurd H (by simp)
               ·rw [if_neg c74] at H
                have c74b0 : decide ((t139.length : Int) ≤ (t109.length : Int)) = false := decide_eq_false c74
                (try (have c74b1 : ¬ (t139.length ≤ t109.length) := by omega))
                have c74b2 : decide (t139.length ≤ t109.length) = false := decide_eq_false (fun h => c74 (Int.ofNat_le.mpr h))
                clear c74
                exact absurd (Option.some.inj H) (by rw [hT_.out];decide)
              ·replace c73 := Bool.eq_false_iff.mpr c73
               subst c73
               have H1 : (some false) = some r := by rw [if_neg (show ¬ (false = true) by decide)] at H;exact H
               clear H
               have H := H1
               clear H1
               exact absurd (Option.some.inj H) (by rw [hT_.out];decide)
            ·replace c57 := Bool.eq_false_iff.mpr c57
             subst c57
             have H1 : (if t140 = true then (if (t139.length : Int) ≤ (t109.length : Int) then (if 0 ≤ (t139.length : Int) then ((impl_OccsSame.f k3 t139 (t109.take ((t139.length : Int) : Int).toNat)).bind fun t161 => (some t161)) else (none)) else (some false)) else (some false)) = some r := by rw [if_neg (show ¬ (false = true) by decide)] at H;exact H
             clear H
             have H := H1
             clear H1
             by_cases c82 : t140 = true
             ·subst c82
              have H1 : (if (t139.length : Int) ≤ (t109.length : Int) then (if 0 ≤ (t139.length : Int) then ((impl_OccsSame.f k3 t139 (t109.take ((t139.length : Int) : Int).toNat)).bind fun t161 => (some t161)) else (none)) else (some false)) = some r := by rw [if_pos rfl] at H;exact H
              clear H
              have H := H1
              clear H1
              by_cases c83 : (t139.length : Int) ≤ (t109.length : Int)
              ·rw [if_pos c83] at H
               have c83b0 : decide ((t139.length : Int) ≤ (t109.length : Int)) = true := decide_eq_true c83
               (try (have c83b1 : (t139.length ≤ t109.length) := by omega))
               have c83b2 : decide (t139.length ≤ t109.length) = true := decide_eq_true (Int.ofNat_le.mp c83)
               clear c83
               by_cases c84 : 0 ≤ (t139.length : Int)
               ·rw [if_pos c84] at H
                have c84b0 := eq_true c84
                have c84b1 : decide (0 ≤ (t139.length : Int)) = true := decide_eq_true c84
                clear c84
                have c85b0 := eq_true (of_decide_eq_true (by first | (with_reducible assumption) | assumption) : (t139.length : Int) ≤ (t109.length : Int))
                obtain ⟨y156, hy156⟩ : ∃ y_ : List (S27), y_ = (t109.take ((t139.length : Int) : Int).toNat) := ⟨_, rfl⟩
                replace H : ((impl_OccsSame.f k3 t139 y156).bind fun t161 => (some t161)) = some r := by first | (rw [hy156];with_reducible exact H) | (have H2_ := (Option.bind_some _ _).symm.trans H;rw [hy156];with_reducible exact H2_) | (have H2_ := (Option.bind_some _ _).symm.trans H;with_reducible exact H2_) | with_reducible exact H | (rw [hy156];exact H) | exact H
                have Ny156 := Aside0.mk hy156
                clear hy156
                replace H := Option.bind_eq_some_iff.mp H
                obtain ⟨t161, A860, H⟩ := H
                replace H : (some t161) = some r := H
                have A86 := Aside0.mk A860
                clear A860
                obtain rfl := Option.some.inj H
                go_wp2_with (first | (go_at_call 61;(with_reducible refine (impl_PlusOf.calls k3 _ _ t101 t104 (wrap64 (t105 - 1)) t139 true _ ?side1 ?side2 A54.out).mono ?_);(case side1 => repeat (first | exact (Kd.N_reads' HO_5.out).2.2 | (with_reducible refine Kd.C_alloc ?_ _) | (with_reducible refine Kd.C_drewN ?_ _) | (with_reducible refine Kd.C_drew ?_)));(case side2 => exact (Kd.N_reads' HO_5.out).2.1);rintro e w87 ⟨v141, rfl, ho0, hb⟩;have n0_ := Aside0.mk (Kd.N_elder' (by (with_reducible repeat (first | apply Kd.N_alloc | apply Kd.N_drewN | apply Kd.N_drew));exact HO_5.out) (by first | exact Kd.N_base ho0 | exact Kd.S_base ho0) hb);have n1_ := Aside0.mk (Kd.N_elder' (by (with_reducible repeat (first | apply Kd.N_alloc | apply Kd.N_drewN | apply Kd.N_drew));exact HO_9.out) (by first | exact Kd.N_base ho0 | exact Kd.S_base ho0) hb);have n2_ := Aside0.mk (Kd.N_elder' (by (with_reducible repeat (first | apply Kd.N_alloc | apply Kd.N_drewN | apply Kd.N_drew));exact HO_17.out) (by first | exact Kd.N_base ho0 | exact Kd.S_base ho0) hb);have n3_ := Aside0.mk (Kd.N_elder' (by (with_reducible repeat (first | apply Kd.N_alloc | apply Kd.N_drewN | apply Kd.N_drew));exact HO_19.out) (by first | exact Kd.N_base ho0 | exact Kd.S_base ho0) hb);have n4_ := Aside0.mk (Kd.N_lower (Kd.N_mono (ok' := fun k_ => some k_ ≠ (.slice Ao13 t101.length co13 : Value).ownBlock ∧ some k_ ≠ (.slice Ao47 t109.length co47 : Value).ownBlock ∧ some k_ ≠ (v130 : Value).ownBlock ∧ some k_ ≠ (v134 : Value).ownBlock) (Kd.S_N (Kd.S_bound ho0)) (fun k_ hk_ => ⟨(Kd.fresh' (Kd.N_lt (by (with_reducible repeat (first | apply Kd.N_alloc | apply Kd.N_drewN | apply Kd.N_drew));exact HO_5.out)) k_ hk_.2.1), (Kd.fresh' (Kd.N_lt (by (with_reducible repeat (first | apply Kd.N_alloc | apply Kd.N_drewN | apply Kd.N_drew));exact HO_9.out)) k_ hk_.2.1), (Kd.fresh' (Kd.N_lt (by (with_reducible repeat (first | apply Kd.N_alloc | apply Kd.N_drewN | apply Kd.N_drew));exact HO_17.out)) k_ hk_.2.1), (Kd.fresh' (Kd.N_lt (by (with_reducible repeat (first | apply Kd.N_alloc | apply Kd.N_drewN | apply Kd.N_drew));exact HO_19.out)) k_ hk_.2.1)⟩)) (below_size (by exact HB.out)));have n5_ := Aside0.mk (below_step (by exact HB.out) hb);clear HO_5;clear HO_9;clear HO_17;clear HO_19;clear HB;have HO_5 := n0_;have HO_9 := n1_;have HO_17 := n2_;have HO_19 := n3_;have HO142 := n4_;have HB := n5_;clear n0_ n1_ n2_ n3_ n4_ n5_;(try clear hb);(try clear hb2);(try clear hk);(try clear hi);(try clear ho0);obtain ⟨Ao88, co88, eo88⟩ := Kd.N_slice HO142.out;subst eo88;have q89 : ((t139.length : Int) : Int) ≤ ((t109.length : Int) : Int) := of_decide_eq_true (by first | (with_reducible assumption) | assumption);obtain ⟨i089, hi089, _, hsz89, _⟩ := info_parts info27;have hroom89 : t109.length ≤ co47 := (Kd.N_reads' HO_9.out).2.1;have hC89 : Kd.F k27 _ _ Ao47 t109.length t109 := (Kd.V_at (base := w.heap.size) (Kd.N_V HO_9.out)).2.2;have hcut89 := cut_to (P := Try.prog) 34 27 .i64 Try.underlying34 hi089 Ao47 t109.length co47 (t139.length : Int) (of_decide_eq_true (by first | (with_reducible assumption) | assumption)) q89 hroom89;have hr89 := Kd.F_take (m := ((t139.length : Int) : Int).toNat) hC89 (by omega);have hy89 : y156.length = ((t139.length : Int) : Int).toNat := (by rw [Ny156.out, List.length_take];omega);rw [← Ny156.out] at hr89;rw [← hy89] at hcut89;have HO160 := Aside0.mk (show Kd.V k27 27 _ w.heap.size _ (.slice Ao47 y156.length co47) y156 from Kd.V_mk (by omega) hr89);have HC160 := Aside0.mk (show y156.length ≤ co47 from by omega);clear hr89 hC89 hroom89 hi089 hsz89;have KY89 := Aside0.mk hy89;clear hy89;replace q89 := eq_true q89) | (go_at_call 26;(with_reducible refine (impl_OccsSame.calls k3 _ _ t139 _ _ y156 t161 _ ?side1 ?side2 ?side3 ?side4 A86.out).mono ?_);(case side1 => repeat (first | exact (Kd.N_reads' HO142.out).2.2 | (with_reducible refine Kd.C_alloc ?_ _) | (with_reducible refine Kd.C_drewN ?_ _) | (with_reducible refine Kd.C_drew ?_)));(case side2 => exact (Kd.N_reads' HO142.out).2.1);(case side3 => repeat (first | exact (Kd.V_reads' HO160.out).2.2 | (with_reducible refine Kd.C_alloc ?_ _) | (with_reducible refine Kd.C_drewN ?_ _) | (with_reducible refine Kd.C_drew ?_)));(case side4 => exact (Kd.V_reads' HO160.out).2.1);rintro e w90 ⟨rfl, hb⟩;have n0_ := Aside0.mk (Kd.N_below (by (with_reducible repeat (first | apply Kd.N_alloc | apply Kd.N_drewN | apply Kd.N_drew));exact HO_5.out) hb);have n1_ := Aside0.mk (Kd.N_below (by (with_reducible repeat (first | apply Kd.N_alloc | apply Kd.N_drewN | apply Kd.N_drew));exact HO_9.out) hb);have n2_ := Aside0.mk (Kd.N_below (by (with_reducible repeat (first | apply Kd.N_alloc | apply Kd.N_drewN | apply Kd.N_drew));exact HO_17.out) hb);have n3_ := Aside0.mk (Kd.N_below (by (with_reducible repeat (first | apply Kd.N_alloc | apply Kd.N_drewN | apply Kd.N_drew));exact HO_19.out) hb);have n4_ := Aside0.mk (Kd.N_below (by (with_reducible repeat (first | apply Kd.N_alloc | apply Kd.N_drewN | apply Kd.N_drew));exact HO142.out) hb);have n5_ := Aside0.mk (Kd.V_below (by (with_reducible repeat (first | apply Kd.V_alloc | apply Kd.V_drewN | apply Kd.V_drew));exact HO160.out) hb);have n6_ := Aside0.mk (below_step (by exact HB.out) hb);clear HO_5;clear HO_9;clear HO_17;clear HO_19;clear HO142;clear HO160;clear HB;have HO_5 := n0_;have HO_9 := n1_;have HO_17 := n2_;have HO_19 := n3_;have HO142 := n4_;have HO160 := n5_;have HB := n6_;clear n0_ n1_ n2_ n3_ n4_ n5_ n6_;(try clear hb);(try clear hb2);(try clear hk);(try clear hi)))
                repeat (go_quiet (first | (go_at_call 61;(with_reducible refine (impl_PlusOf.calls k3 _ _ t101 t104 (wrap64 (t105 - 1)) t139 true _ ?side1 ?side2 A54.out).mono ?_);(case side1 => repeat (first | exact (Kd.N_reads' HO_5.out).2.2 | (with_reducible refine Kd.C_alloc ?_ _) | (with_reducible refine Kd.C_drewN ?_ _) | (with_reducible refine Kd.C_drew ?_)));(case side2 => exact (Kd.N_reads' HO_5.out).2.1);rintro e w87 ⟨v141, rfl, ho0, hb⟩;have n0_ := Aside0.mk (Kd.N_elder' (by (with_reducible repeat (first | apply Kd.N_alloc | apply Kd.N_drewN | apply Kd.N_drew));exact HO_5.out) (by first | exact Kd.N_base ho0 | exact Kd.S_base ho0) hb);have n1_ := Aside0.mk (Kd.N_elder' (by (with_reducible repeat (first | apply Kd.N_alloc | apply Kd.N_drewN | apply Kd.N_drew));exact HO_9.out) (by first | exact Kd.N_base ho0 | exact Kd.S_base ho0) hb);have n2_ := Aside0.mk (Kd.N_elder' (by (with_reducible repeat (first | apply Kd.N_alloc | apply Kd.N_drewN | apply Kd.N_drew));exact HO_17.out) (by first | exact Kd.N_base ho0 | exact Kd.S_base ho0) hb);have n3_ := Aside0.mk (Kd.N_elder' (by (with_reducible repeat (first | apply Kd.N_alloc | apply Kd.N_drewN | apply Kd.N_drew));exact HO_19.out) (by first | exact Kd.N_base ho0 | exact Kd.S_base ho0) hb);have n4_ := Aside0.mk (Kd.N_lower (Kd.N_mono (ok' := fun k_ => some k_ ≠ (.slice Ao13 t101.length co13 : Value).ownBlock ∧ some k_ ≠ (.slice Ao47 t109.length co47 : Value).ownBlock ∧ some k_ ≠ (v130 : Value).ownBlock ∧ some k_ ≠ (v134 : Value).ownBlock) (Kd.S_N (Kd.S_bound ho0)) (fun k_ hk_ => ⟨(Kd.fresh' (Kd.N_lt (by (with_reducible repeat (first | apply Kd.N_alloc | apply Kd.N_drewN | apply Kd.N_drew));exact HO_5.out)) k_ hk_.2.1), (Kd.fresh' (Kd.N_lt (by (with_reducible repeat (first | apply Kd.N_alloc | apply Kd.N_drewN | apply Kd.N_drew));exact HO_9.out)) k_ hk_.2.1), (Kd.fresh' (Kd.N_lt (by (with_reducible repeat (first | apply Kd.N_alloc | apply Kd.N_drewN | apply Kd.N_drew));exact HO_17.out)) k_ hk_.2.1), (Kd.fresh' (Kd.N_lt (by (with_reducible repeat (first | apply Kd.N_alloc | apply Kd.N_drewN | apply Kd.N_drew));exact HO_19.out)) k_ hk_.2.1)⟩)) (below_size (by exact HB.out)));have n5_ := Aside0.mk (below_step (by exact HB.out) hb);clear HO_5;clear HO_9;clear HO_17;clear HO_19;clear HB;have HO_5 := n0_;have HO_9 := n1_;have HO_17 := n2_;have HO_19 := n3_;have HO142 := n4_;have HB := n5_;clear n0_ n1_ n2_ n3_ n4_ n5_;(try clear hb);(try clear hb2);(try clear hk);(try clear hi);(try clear ho0);obtain ⟨Ao88, co88, eo88⟩ := Kd.N_slice HO142.out;subst eo88;have q89 : ((t139.length : Int) : Int) ≤ ((t109.length : Int) : Int) := of_decide_eq_true (by first | (with_reducible assumption) | assumption);obtain ⟨i089, hi089, _, hsz89, _⟩ := info_parts info27;have hroom89 : t109.length ≤ co47 := (Kd.N_reads' HO_9.out).2.1;have hC89 : Kd.F k27 _ _ Ao47 t109.length t109 := (Kd.V_at (base := w.heap.size) (Kd.N_V HO_9.out)).2.2;have hcut89 := cut_to (P := Try.prog) 34 27 .i64 Try.underlying34 hi089 Ao47 t109.length co47 (t139.length : Int) (of_decide_eq_true (by first | (with_reducible assumption) | assumption)) q89 hroom89;have hr89 := Kd.F_take (m := ((t139.length : Int) : Int).toNat) hC89 (by omega);have hy89 : y156.length = ((t139.length : Int) : Int).toNat := (by rw [Ny156.out, List.length_take];omega);rw [← Ny156.out] at hr89;rw [← hy89] at hcut89;have HO160 := Aside0.mk (show Kd.V k27 27 _ w.heap.size _ (.slice Ao47 y156.length co47) y156 from Kd.V_mk (by omega) hr89);have HC160 := Aside0.mk (show y156.length ≤ co47 from by omega);clear hr89 hC89 hroom89 hi089 hsz89;have KY89 := Aside0.mk hy89;clear hy89;replace q89 := eq_true q89) | (go_at_call 26;(with_reducible refine (impl_OccsSame.calls k3 _ _ t139 _ _ y156 t161 _ ?side1 ?side2 ?side3 ?side4 A86.out).mono ?_);(case side1 => repeat (first | exact (Kd.N_reads' HO142.out).2.2 | (with_reducible refine Kd.C_alloc ?_ _) | (with_reducible refine Kd.C_drewN ?_ _) | (with_reducible refine Kd.C_drew ?_)));(case side2 => exact (Kd.N_reads' HO142.out).2.1);(case side3 => repeat (first | exact (Kd.V_reads' HO160.out).2.2 | (with_reducible refine Kd.C_alloc ?_ _) | (with_reducible refine Kd.C_drewN ?_ _) | (with_reducible refine Kd.C_drew ?_)));(case side4 => exact (Kd.V_reads' HO160.out).2.1);rintro e w90 ⟨rfl, hb⟩;have n0_ := Aside0.mk (Kd.N_below (by (with_reducible repeat (first | apply Kd.N_alloc | apply Kd.N_drewN | apply Kd.N_drew));exact HO_5.out) hb);have n1_ := Aside0.mk (Kd.N_below (by (with_reducible repeat (first | apply Kd.N_alloc | apply Kd.N_drewN | apply Kd.N_drew));exact HO_9.out) hb);have n2_ := Aside0.mk (Kd.N_below (by (with_reducible repeat (first | apply Kd.N_alloc | apply Kd.N_drewN | apply Kd.N_drew));exact HO_17.out) hb);have n3_ := Aside0.mk (Kd.N_below (by (with_reducible repeat (first | apply Kd.N_alloc | apply Kd.N_drewN | apply Kd.N_drew));exact HO_19.out) hb);have n4_ := Aside0.mk (Kd.N_below (by (with_reducible repeat (first | apply Kd.N_alloc | apply Kd.N_drewN | apply Kd.N_drew));exact HO142.out) hb);have n5_ := Aside0.mk (Kd.V_below (by (with_reducible repeat (first | apply Kd.V_alloc | apply Kd.V_drewN | apply Kd.V_drew));exact HO160.out) hb);have n6_ := Aside0.mk (below_step (by exact HB.out) hb);clear HO_5;clear HO_9;clear HO_17;clear HO_19;clear HO142;clear HO160;clear HB;have HO_5 := n0_;have HO_9 := n1_;have HO_17 := n2_;have HO_19 := n3_;have HO142 := n4_;have HO160 := n5_;have HB := n6_;clear n0_ n1_ n2_ n3_ n4_ n5_ n6_;(try clear hb);(try clear hb2);(try clear hk);(try clear hi)));try go_wp2_with (first | (go_at_call 61;(with_reducible refine (impl_PlusOf.calls k3 _ _ t101 t104 (wrap64 (t105 - 1)) t139 true _ ?side1 ?side2 A54.out).mono ?_);(case side1 => repeat (first | exact (Kd.N_reads' HO_5.out).2.2 | (with_reducible refine Kd.C_alloc ?_ _) | (with_reducible refine Kd.C_drewN ?_ _) | (with_reducible refine Kd.C_drew ?_)));(case side2 => exact (Kd.N_reads' HO_5.out).2.1);rintro e w87 ⟨v141, rfl, ho0, hb⟩;have n0_ := Aside0.mk (Kd.N_elder' (by (with_reducible repeat (first | apply Kd.N_alloc | apply Kd.N_drewN | apply Kd.N_drew));exact HO_5.out) (by first | exact Kd.N_base ho0 | exact Kd.S_base ho0) hb);have n1_ := Aside0.mk (Kd.N_elder' (by (with_reducible repeat (first | apply Kd.N_alloc | apply Kd.N_drewN | apply Kd.N_drew));exact HO_9.out) (by first | exact Kd.N_base ho0 | exact Kd.S_base ho0) hb);have n2_ := Aside0.mk (Kd.N_elder' (by (with_reducible repeat (first | apply Kd.N_alloc | apply Kd.N_drewN | apply Kd.N_drew));exact HO_17.out) (by first | exact Kd.N_base ho0 | exact Kd.S_base ho0) hb);have n3_ := Aside0.mk (Kd.N_elder' (by (with_reducible repeat (first | apply Kd.N_alloc | apply Kd.N_drewN | apply Kd.N_drew));exact HO_19.out) (by first | exact Kd.N_base ho0 | exact Kd.S_base ho0) hb);have n4_ := Aside0.mk (Kd.N_lower (Kd.N_mono (ok' := fun k_ => some k_ ≠ (.slice Ao13 t101.length co13 : Value).ownBlock ∧ some k_ ≠ (.slice Ao47 t109.length co47 : Value).ownBlock ∧ some k_ ≠ (v130 : Value).ownBlock ∧ some k_ ≠ (v134 : Value).ownBlock) (Kd.S_N (Kd.S_bound ho0)) (fun k_ hk_ => ⟨(Kd.fresh' (Kd.N_lt (by (with_reducible repeat (first | apply Kd.N_alloc | apply Kd.N_drewN | apply Kd.N_drew));exact HO_5.out)) k_ hk_.2.1), (Kd.fresh' (Kd.N_lt (by (with_reducible repeat (first | apply Kd.N_alloc | apply Kd.N_drewN | apply Kd.N_drew));exact HO_9.out)) k_ hk_.2.1), (Kd.fresh' (Kd.N_lt (by (with_reducible repeat (first | apply Kd.N_alloc | apply Kd.N_drewN | apply Kd.N_drew));exact HO_17.out)) k_ hk_.2.1), (Kd.fresh' (Kd.N_lt (by (with_reducible repeat (first | apply Kd.N_alloc | apply Kd.N_drewN | apply Kd.N_drew));exact HO_19.out)) k_ hk_.2.1)⟩)) (below_size (by exact HB.out)));have n5_ := Aside0.mk (below_step (by exact HB.out) hb);clear HO_5;clear HO_9;clear HO_17;clear HO_19;clear HB;have HO_5 := n0_;have HO_9 := n1_;have HO_17 := n2_;have HO_19 := n3_;have HO142 := n4_;have HB := n5_;clear n0_ n1_ n2_ n3_ n4_ n5_;(try clear hb);(try clear hb2);(try clear hk);(try clear hi);(try clear ho0);obtain ⟨Ao88, co88, eo88⟩ := Kd.N_slice HO142.out;subst eo88;have q89 : ((t139.length : Int) : Int) ≤ ((t109.length : Int) : Int) := of_decide_eq_true (by first | (with_reducible assumption) | assumption);obtain ⟨i089, hi089, _, hsz89, _⟩ := info_parts info27;have hroom89 : t109.length ≤ co47 := (Kd.N_reads' HO_9.out).2.1;have hC89 : Kd.F k27 _ _ Ao47 t109.length t109 := (Kd.V_at (base := w.heap.size) (Kd.N_V HO_9.out)).2.2;have hcut89 := cut_to (P := Try.prog) 34 27 .i64 Try.underlying34 hi089 Ao47 t109.length co47 (t139.length : Int) (of_decide_eq_true (by first | (with_reducible assumption) | assumption)) q89 hroom89;have hr89 := Kd.F_take (m := ((t139.length : Int) : Int).toNat) hC89 (by omega);have hy89 : y156.length = ((t139.length : Int) : Int).toNat := (by rw [Ny156.out, List.length_take];omega);rw [← Ny156.out] at hr89;rw [← hy89] at hcut89;have HO160 := Aside0.mk (show Kd.V k27 27 _ w.heap.size _ (.slice Ao47 y156.length co47) y156 from Kd.V_mk (by omega) hr89);have HC160 := Aside0.mk (show y156.length ≤ co47 from by omega);clear hr89 hC89 hroom89 hi089 hsz89;have KY89 := Aside0.mk hy89;clear hy89;replace q89 := eq_true q89) | (go_at_call 26;(with_reducible refine (impl_OccsSame.calls k3 _ _ t139 _ _ y156 t161 _ ?side1 ?side2 ?side3 ?side4 A86.out).mono ?_);(case side1 => repeat (first | exact (Kd.N_reads' HO142.out).2.2 | (with_reducible refine Kd.C_alloc ?_ _) | (with_reducible refine Kd.C_drewN ?_ _) | (with_reducible refine Kd.C_drew ?_)));(case side2 => exact (Kd.N_reads' HO142.out).2.1);(case side3 => repeat (first | exact (Kd.V_reads' HO160.out).2.2 | (with_reducible refine Kd.C_alloc ?_ _) | (with_reducible refine Kd.C_drewN ?_ _) | (with_reducible refine Kd.C_drew ?_)));(case side4 => exact (Kd.V_reads' HO160.out).2.1);rintro e w90 ⟨rfl, hb⟩;have n0_ := Aside0.mk (Kd.N_below (by (with_reducible repeat (first | apply Kd.N_alloc | apply Kd.N_drewN | apply Kd.N_drew));exact HO_5.out) hb);have n1_ := Aside0.mk (Kd.N_below (by (with_reducible repeat (first | apply Kd.N_alloc | apply Kd.N_drewN | apply Kd.N_drew));exact HO_9.out) hb);have n2_ := Aside0.mk (Kd.N_below (by (with_reducible repeat (first | apply Kd.N_alloc | apply Kd.N_drewN | apply Kd.N_drew));exact HO_17.out) hb);have n3_ := Aside0.mk (Kd.N_below (by (with_reducible repeat (first | apply Kd.N_alloc | apply Kd.N_drewN | apply Kd.N_drew));exact HO_19.out) hb);have n4_ := Aside0.mk (Kd.N_below (by (with_reducible repeat (first | apply Kd.N_alloc | apply Kd.N_drewN | apply Kd.N_drew));exact HO142.out) hb);have n5_ := Aside0.mk (Kd.V_below (by (with_reducible repeat (first | apply Kd.V_alloc | apply Kd.V_drewN | apply Kd.V_drew));exact HO160.out) hb);have n6_ := Aside0.mk (below_step (by exact HB.out) hb);clear HO_5;clear HO_9;clear HO_17;clear HO_19;clear HO142;clear HO160;clear HB;have HO_5 := n0_;have HO_9 := n1_;have HO_17 := n2_;have HO_19 := n3_;have HO142 := n4_;have HO160 := n5_;have HB := n6_;clear n0_ n1_ n2_ n3_ n4_ n5_ n6_;(try clear hb);(try clear hb2);(try clear hk);(try clear hi))))
                go_ret
                exact ⟨by first | rfl | (simp [errW_none, errW_some] <;> rfl) | (simp [*, errW_none, errW_some] <;> rfl), by repeat (first | (with_reducible first | exact HB.out | apply below_alloc | apply pw_below_drewN | apply below_drew1) | exact HB.out)⟩
               ·rw [if_neg c84] at H
                exact absurd H (by simp)
              ·rw [if_neg c83] at H
               have c83b0 : decide ((t139.length : Int) ≤ (t109.length : Int)) = false := decide_eq_false c83
               (try (have c83b1 : ¬ (t139.length ≤ t109.length) := by omega))
               have c83b2 : decide (t139.length ≤ t109.length) = false := decide_eq_false (fun h => c83 (Int.ofNat_le.mpr h))
               clear c83
               exact absurd (Option.some.inj H) (by rw [hT_.out];decide)
             ·replace c82 := Bool.eq_false_iff.mpr c82
              subst c82
              have H1 : (some false) = some r := by rw [if_neg (show ¬ (false = true) by decide)] at H;exact H
              clear H
              have H := H1
              clear H1
              exact absurd (Option.some.inj H) (by rw [hT_.out];decide)
           ·replace c56 := Bool.eq_false_iff.mpr c56
            subst c56
            have H1 : (if t140 = true then (if (t139.length : Int) ≤ (t109.length : Int) then (if 0 ≤ (t139.length : Int) then ((impl_OccsSame.f k3 t139 (t109.take ((t139.length : Int) : Int).toNat)).bind fun t167 => (some t167)) else (none)) else (some false)) else (some false)) = some r := by rw [if_neg (show ¬ (false = true) by decide)] at H;exact H
            clear H
            have H := H1
            clear H1
            by_cases c91 : t140 = true
            ·subst c91
             have H1 : (if (t139.length : Int) ≤ (t109.length : Int) then (if 0 ≤ (t139.length : Int) then ((impl_OccsSame.f k3 t139 (t109.take ((t139.length : Int) : Int).toNat)).bind fun t167 => (some t167)) else (none)) else (some false)) = some r := by rw [if_pos rfl] at H;exact H
             clear H
             have H := H1
             clear H1
             by_cases c92 : (t139.length : Int) ≤ (t109.length : Int)
             ·rw [if_pos c92] at H
              have c92b0 : decide ((t139.length : Int) ≤ (t109.length : Int)) = true := decide_eq_true c92
              (try (have c92b1 : (t139.length ≤ t109.length) := by omega))
              have c92b2 : decide (t139.length ≤ t109.length) = true := decide_eq_true (Int.ofNat_le.mp c92)
              clear c92
              by_cases c93 : 0 ≤ (t139.length : Int)
              ·rw [if_pos c93] at H
               have c93b0 := eq_true c93
               have c93b1 : decide (0 ≤ (t139.length : Int)) = true := decide_eq_true c93
               clear c93
               have c94b0 := eq_true (of_decide_eq_true (by first | (with_reducible assumption) | assumption) : (t139.length : Int) ≤ (t109.length : Int))
               obtain ⟨y162, hy162⟩ : ∃ y_ : List (S27), y_ = (t109.take ((t139.length : Int) : Int).toNat) := ⟨_, rfl⟩
               replace H : ((impl_OccsSame.f k3 t139 y162).bind fun t167 => (some t167)) = some r := by first | (rw [hy162];with_reducible exact H) | (have H2_ := (Option.bind_some _ _).symm.trans H;rw [hy162];with_reducible exact H2_) | (have H2_ := (Option.bind_some _ _).symm.trans H;with_reducible exact H2_) | with_reducible exact H | (rw [hy162];exact H) | exact H
               have Ny162 := Aside0.mk hy162
               clear hy162
               replace H := Option.bind_eq_some_iff.mp H
               obtain ⟨t167, A950, H⟩ := H
               replace H : (some t167) = some r := H
               have A95 := Aside0.mk A950
               clear A950
               obtain rfl := Option.some.inj H
               go_wp2_with (first | (go_at_call 61;(with_reducible refine (impl_PlusOf.calls k3 _ _ t101 t104 (wrap64 (t105 - 1)) t139 true _ ?side1 ?side2 A54.out).mono ?_);(case side1 => repeat (first | exact (Kd.N_reads' HO_5.out).2.2 | (with_reducible refine Kd.C_alloc ?_ _) | (with_reducible refine Kd.C_drewN ?_ _) | (with_reducible refine Kd.C_drew ?_)));(case side2 => exact (Kd.N_reads' HO_5.out).2.1);rintro e w96 ⟨v141, rfl, ho0, hb⟩;have n0_ := Aside0.mk (Kd.N_elder' (by (with_reducible repeat (first | apply Kd.N_alloc | apply Kd.N_drewN | apply Kd.N_drew));exact HO_5.out) (by first | exact Kd.N_base ho0 | exact Kd.S_base ho0) hb);have n1_ := Aside0.mk (Kd.N_elder' (by (with_reducible repeat (first | apply Kd.N_alloc | apply Kd.N_drewN | apply Kd.N_drew));exact HO_9.out) (by first | exact Kd.N_base ho0 | exact Kd.S_base ho0) hb);have n2_ := Aside0.mk (Kd.N_elder' (by (with_reducible repeat (first | apply Kd.N_alloc | apply Kd.N_drewN | apply Kd.N_drew));exact HO_17.out) (by first | exact Kd.N_base ho0 | exact Kd.S_base ho0) hb);have n3_ := Aside0.mk (Kd.N_elder' (by (with_reducible repeat (first | apply Kd.N_alloc | apply Kd.N_drewN | apply Kd.N_drew));exact HO_19.out) (by first | exact Kd.N_base ho0 | exact Kd.S_base ho0) hb);have n4_ := Aside0.mk (Kd.N_lower (Kd.N_mono (ok' := fun k_ => some k_ ≠ (.slice Ao13 t101.length co13 : Value).ownBlock ∧ some k_ ≠ (.slice Ao47 t109.length co47 : Value).ownBlock ∧ some k_ ≠ (v130 : Value).ownBlock ∧ some k_ ≠ (v134 : Value).ownBlock) (Kd.S_N (Kd.S_bound ho0)) (fun k_ hk_ => ⟨(Kd.fresh' (Kd.N_lt (by (with_reducible repeat (first | apply Kd.N_alloc | apply Kd.N_drewN | apply Kd.N_drew));exact HO_5.out)) k_ hk_.2.1), (Kd.fresh' (Kd.N_lt (by (with_reducible repeat (first | apply Kd.N_alloc | apply Kd.N_drewN | apply Kd.N_drew));exact HO_9.out)) k_ hk_.2.1), (Kd.fresh' (Kd.N_lt (by (with_reducible repeat (first | apply Kd.N_alloc | apply Kd.N_drewN | apply Kd.N_drew));exact HO_17.out)) k_ hk_.2.1), (Kd.fresh' (Kd.N_lt (by (with_reducible repeat (first | apply Kd.N_alloc | apply Kd.N_drewN | apply Kd.N_drew));exact HO_19.out)) k_ hk_.2.1)⟩)) (below_size (by exact HB.out)));have n5_ := Aside0.mk (below_step (by exact HB.out) hb);clear HO_5;clear HO_9;clear HO_17;clear HO_19;clear HB;have HO_5 := n0_;have HO_9 := n1_;have HO_17 := n2_;have HO_19 := n3_;have HO142 := n4_;have HB := n5_;clear n0_ n1_ n2_ n3_ n4_ n5_;(try clear hb);(try clear hb2);(try clear hk);(try clear hi);(try clear ho0);obtain ⟨Ao97, co97, eo97⟩ := Kd.N_slice HO142.out;subst eo97;have q98 : ((t139.length : Int) : Int) ≤ ((t109.length : Int) : Int) := of_decide_eq_true (by first | (with_reducible assumption) | assumption);obtain ⟨i098, hi098, _, hsz98, _⟩ := info_parts info27;have hroom98 : t109.length ≤ co47 := (Kd.N_reads' HO_9.out).2.1;have hC98 : Kd.F k27 _ _ Ao47 t109.length t109 := (Kd.V_at (base := w.heap.size) (Kd.N_V HO_9.out)).2.2;have hcut98 := cut_to (P := Try.prog) 34 27 .i64 Try.underlying34 hi098 Ao47 t109.length co47 (t139.length : Int) (of_decide_eq_true (by first | (with_reducible assumption) | assumption)) q98 hroom98;have hr98 := Kd.F_take (m := ((t139.length : Int) : Int).toNat) hC98 (by omega);have hy98 : y162.length = ((t139.length : Int) : Int).toNat := (by rw [Ny162.out, List.length_take];omega);rw [← Ny162.out] at hr98;rw [← hy98] at hcut98;have HO166 := Aside0.mk (show Kd.V k27 27 _ w.heap.size _ (.slice Ao47 y162.length co47) y162 from Kd.V_mk (by omega) hr98);have HC166 := Aside0.mk (show y162.length ≤ co47 from by omega);clear hr98 hC98 hroom98 hi098 hsz98;have KY98 := Aside0.mk hy98;clear hy98;replace q98 := eq_true q98) | (go_at_call 26;(with_reducible refine (impl_OccsSame.calls k3 _ _ t139 _ _ y162 t167 _ ?side1 ?side2 ?side3 ?side4 A95.out).mono ?_);(case side1 => repeat (first | exact (Kd.N_reads' HO142.out).2.2 | (with_reducible refine Kd.C_alloc ?_ _) | (with_reducible refine Kd.C_drewN ?_ _) | (with_reducible refine Kd.C_drew ?_)));(case side2 => exact (Kd.N_reads' HO142.out).2.1);(case side3 => repeat (first | exact (Kd.V_reads' HO166.out).2.2 | (with_reducible refine Kd.C_alloc ?_ _) | (with_reducible refine Kd.C_drewN ?_ _) | (with_reducible refine Kd.C_drew ?_)));(case side4 => exact (Kd.V_reads' HO166.out).2.1);rintro e w99 ⟨rfl, hb⟩;have n0_ := Aside0.mk (Kd.N_below (by (with_reducible repeat (first | apply Kd.N_alloc | apply Kd.N_drewN | apply Kd.N_drew));exact HO_5.out) hb);have n1_ := Aside0.mk (Kd.N_below (by (with_reducible repeat (first | apply Kd.N_alloc | apply Kd.N_drewN | apply Kd.N_drew));exact HO_9.out) hb);have n2_ := Aside0.mk (Kd.N_below (by (with_reducible repeat (first | apply Kd.N_alloc | apply Kd.N_drewN | apply Kd.N_drew));exact HO_17.out) hb);have n3_ := Aside0.mk (Kd.N_below (by (with_reducible repeat (first | apply Kd.N_alloc | apply Kd.N_drewN | apply Kd.N_drew));exact HO_19.out) hb);have n4_ := Aside0.mk (Kd.N_below (by (with_reducible repeat (first | apply Kd.N_alloc | apply Kd.N_drewN | apply Kd.N_drew));exact HO142.out) hb);have n5_ := Aside0.mk (Kd.V_below (by (with_reducible repeat (first | apply Kd.V_alloc | apply Kd.V_drewN | apply Kd.V_drew));exact HO166.out) hb);have n6_ := Aside0.mk (below_step (by exact HB.out) hb);clear HO_5;clear HO_9;clear HO_17;clear HO_19;clear HO142;clear HO166;clear HB;have HO_5 := n0_;have HO_9 := n1_;have HO_17 := n2_;have HO_19 := n3_;have HO142 := n4_;have HO166 := n5_;have HB := n6_;clear n0_ n1_ n2_ n3_ n4_ n5_ n6_;(try clear hb);(try clear hb2);(try clear hk);(try clear hi)))
               repeat (go_quiet (first | (go_at_call 61;(with_reducible refine (impl_PlusOf.calls k3 _ _ t101 t104 (wrap64 (t105 - 1)) t139 true _ ?side1 ?side2 A54.out).mono ?_);(case side1 => repeat (first | exact (Kd.N_reads' HO_5.out).2.2 | (with_reducible refine Kd.C_alloc ?_ _) | (with_reducible refine Kd.C_drewN ?_ _) | (with_reducible refine Kd.C_drew ?_)));(case side2 => exact (Kd.N_reads' HO_5.out).2.1);rintro e w96 ⟨v141, rfl, ho0, hb⟩;have n0_ := Aside0.mk (Kd.N_elder' (by (with_reducible repeat (first | apply Kd.N_alloc | apply Kd.N_drewN | apply Kd.N_drew));exact HO_5.out) (by first | exact Kd.N_base ho0 | exact Kd.S_base ho0) hb);have n1_ := Aside0.mk (Kd.N_elder' (by (with_reducible repeat (first | apply Kd.N_alloc | apply Kd.N_drewN | apply Kd.N_drew));exact HO_9.out) (by first | exact Kd.N_base ho0 | exact Kd.S_base ho0) hb);have n2_ := Aside0.mk (Kd.N_elder' (by (with_reducible repeat (first | apply Kd.N_alloc | apply Kd.N_drewN | apply Kd.N_drew));exact HO_17.out) (by first | exact Kd.N_base ho0 | exact Kd.S_base ho0) hb);have n3_ := Aside0.mk (Kd.N_elder' (by (with_reducible repeat (first | apply Kd.N_alloc | apply Kd.N_drewN | apply Kd.N_drew));exact HO_19.out) (by first | exact Kd.N_base ho0 | exact Kd.S_base ho0) hb);have n4_ := Aside0.mk (Kd.N_lower (Kd.N_mono (ok' := fun k_ => some k_ ≠ (.slice Ao13 t101.length co13 : Value).ownBlock ∧ some k_ ≠ (.slice Ao47 t109.length co47 : Value).ownBlock ∧ some k_ ≠ (v130 : Value).ownBlock ∧ some k_ ≠ (v134 : Value).ownBlock) (Kd.S_N (Kd.S_bound ho0)) (fun k_ hk_ => ⟨(Kd.fresh' (Kd.N_lt (by (with_reducible repeat (first | apply Kd.N_alloc | apply Kd.N_drewN | apply Kd.N_drew));exact HO_5.out)) k_ hk_.2.1), (Kd.fresh' (Kd.N_lt (by (with_reducible repeat (first | apply Kd.N_alloc | apply Kd.N_drewN | apply Kd.N_drew));exact HO_9.out)) k_ hk_.2.1), (Kd.fresh' (Kd.N_lt (by (with_reducible repeat (first | apply Kd.N_alloc | apply Kd.N_drewN | apply Kd.N_drew));exact HO_17.out)) k_ hk_.2.1), (Kd.fresh' (Kd.N_lt (by (with_reducible repeat (first | apply Kd.N_alloc | apply Kd.N_drewN | apply Kd.N_drew));exact HO_19.out)) k_ hk_.2.1)⟩)) (below_size (by exact HB.out)));have n5_ := Aside0.mk (below_step (by exact HB.out) hb);clear HO_5;clear HO_9;clear HO_17;clear HO_19;clear HB;have HO_5 := n0_;have HO_9 := n1_;have HO_17 := n2_;have HO_19 := n3_;have HO142 := n4_;have HB := n5_;clear n0_ n1_ n2_ n3_ n4_ n5_;(try clear hb);(try clear hb2);(try clear hk);(try clear hi);(try clear ho0);obtain ⟨Ao97, co97, eo97⟩ := Kd.N_slice HO142.out;subst eo97;have q98 : ((t139.length : Int) : Int) ≤ ((t109.length : Int) : Int) := of_decide_eq_true (by first | (with_reducible assumption) | assumption);obtain ⟨i098, hi098, _, hsz98, _⟩ := info_parts info27;have hroom98 : t109.length ≤ co47 := (Kd.N_reads' HO_9.out).2.1;have hC98 : Kd.F k27 _ _ Ao47 t109.length t109 := (Kd.V_at (base := w.heap.size) (Kd.N_V HO_9.out)).2.2;have hcut98 := cut_to (P := Try.prog) 34 27 .i64 Try.underlying34 hi098 Ao47 t109.length co47 (t139.length : Int) (of_decide_eq_true (by first | (with_reducible assumption) | assumption)) q98 hroom98;have hr98 := Kd.F_take (m := ((t139.length : Int) : Int).toNat) hC98 (by omega);have hy98 : y162.length = ((t139.length : Int) : Int).toNat := (by rw [Ny162.out, List.length_take];omega);rw [← Ny162.out] at hr98;rw [← hy98] at hcut98;have HO166 := Aside0.mk (show Kd.V k27 27 _ w.heap.size _ (.slice Ao47 y162.length co47) y162 from Kd.V_mk (by omega) hr98);have HC166 := Aside0.mk (show y162.length ≤ co47 from by omega);clear hr98 hC98 hroom98 hi098 hsz98;have KY98 := Aside0.mk hy98;clear hy98;replace q98 := eq_true q98) | (go_at_call 26;(with_reducible refine (impl_OccsSame.calls k3 _ _ t139 _ _ y162 t167 _ ?side1 ?side2 ?side3 ?side4 A95.out).mono ?_);(case side1 => repeat (first | exact (Kd.N_reads' HO142.out).2.2 | (with_reducible refine Kd.C_alloc ?_ _) | (with_reducible refine Kd.C_drewN ?_ _) | (with_reducible refine Kd.C_drew ?_)));(case side2 => exact (Kd.N_reads' HO142.out).2.1);(case side3 => repeat (first | exact (Kd.V_reads' HO166.out).2.2 | (with_reducible refine Kd.C_alloc ?_ _) | (with_reducible refine Kd.C_drewN ?_ _) | (with_reducible refine Kd.C_drew ?_)));(case side4 => exact (Kd.V_reads' HO166.out).2.1);rintro e w99 ⟨rfl, hb⟩;have n0_ := Aside0.mk (Kd.N_below (by (with_reducible repeat (first | apply Kd.N_alloc | apply Kd.N_drewN | apply Kd.N_drew));exact HO_5.out) hb);have n1_ := Aside0.mk (Kd.N_below (by (with_reducible repeat (first | apply Kd.N_alloc | apply Kd.N_drewN | apply Kd.N_drew));exact HO_9.out) hb);have n2_ := Aside0.mk (Kd.N_below (by (with_reducible repeat (first | apply Kd.N_alloc | apply Kd.N_drewN | apply Kd.N_drew));exact HO_17.out) hb);have n3_ := Aside0.mk (Kd.N_below (by (with_reducible repeat (first | apply Kd.N_alloc | apply Kd.N_drewN | apply Kd.N_drew));exact HO_19.out) hb);have n4_ := Aside0.mk (Kd.N_below (by (with_reducible repeat (first | apply Kd.N_alloc | apply Kd.N_drewN | apply Kd.N_drew));exact HO142.out) hb);have n5_ := Aside0.mk (Kd.V_below (by (with_reducible repeat (first | apply Kd.V_alloc | apply Kd.V_drewN | apply Kd.V_drew));exact HO166.out) hb);have n6_ := Aside0.mk (below_step (by exact HB.out) hb);clear HO_5;clear HO_9;clear HO_17;clear HO_19;clear HO142;clear HO166;clear HB;have HO_5 := n0_;have HO_9 := n1_;have HO_17 := n2_;have HO_19 := n3_;have HO142 := n4_;have HO166 := n5_;have HB := n6_;clear n0_ n1_ n2_ n3_ n4_ n5_ n6_;(try clear hb);(try clear hb2);(try clear hk);(try clear hi)));try go_wp2_with (first | (go_at_call 61;(with_reducible refine (impl_PlusOf.calls k3 _ _ t101 t104 (wrap64 (t105 - 1)) t139 true _ ?side1 ?side2 A54.out).mono ?_);(case side1 => repeat (first | exact (Kd.N_reads' HO_5.out).2.2 | (with_reducible refine Kd.C_alloc ?_ _) | (with_reducible refine Kd.C_drewN ?_ _) | (with_reducible refine Kd.C_drew ?_)));(case side2 => exact (Kd.N_reads' HO_5.out).2.1);rintro e w96 ⟨v141, rfl, ho0, hb⟩;have n0_ := Aside0.mk (Kd.N_elder' (by (with_reducible repeat (first | apply Kd.N_alloc | apply Kd.N_drewN | apply Kd.N_drew));exact HO_5.out) (by first | exact Kd.N_base ho0 | exact Kd.S_base ho0) hb);have n1_ := Aside0.mk (Kd.N_elder' (by (with_reducible repeat (first | apply Kd.N_alloc | apply Kd.N_drewN | apply Kd.N_drew));exact HO_9.out) (by first | exact Kd.N_base ho0 | exact Kd.S_base ho0) hb);have n2_ := Aside0.mk (Kd.N_elder' (by (with_reducible repeat (first | apply Kd.N_alloc | apply Kd.N_drewN | apply Kd.N_drew));exact HO_17.out) (by first | exact Kd.N_base ho0 | exact Kd.S_base ho0) hb);have n3_ := Aside0.mk (Kd.N_elder' (by (with_reducible repeat (first | apply Kd.N_alloc | apply Kd.N_drewN | apply Kd.N_drew));exact HO_19.out) (by first | exact Kd.N_base ho0 | exact Kd.S_base ho0) hb);have n4_ := Aside0.mk (Kd.N_lower (Kd.N_mono (ok' := fun k_ => some k_ ≠ (.slice Ao13 t101.length co13 : Value).ownBlock ∧ some k_ ≠ (.slice Ao47 t109.length co47 : Value).ownBlock ∧ some k_ ≠ (v130 : Value).ownBlock ∧ some k_ ≠ (v134 : Value).ownBlock) (Kd.S_N (Kd.S_bound ho0)) (fun k_ hk_ => ⟨(Kd.fresh' (Kd.N_lt (by (with_reducible repeat (first | apply Kd.N_alloc | apply Kd.N_drewN | apply Kd.N_drew));exact HO_5.out)) k_ hk_.2.1), (Kd.fresh' (Kd.N_lt (by (with_reducible repeat (first | apply Kd.N_alloc | apply Kd.N_drewN | apply Kd.N_drew));exact HO_9.out)) k_ hk_.2.1), (Kd.fresh' (Kd.N_lt (by (with_reducible repeat (first | apply Kd.N_alloc | apply Kd.N_drewN | apply Kd.N_drew));exact HO_17.out)) k_ hk_.2.1), (Kd.fresh' (Kd.N_lt (by (with_reducible repeat (first | apply Kd.N_alloc | apply Kd.N_drewN | apply Kd.N_drew));exact HO_19.out)) k_ hk_.2.1)⟩)) (below_size (by exact HB.out)));have n5_ := Aside0.mk (below_step (by exact HB.out) hb);clear HO_5;clear HO_9;clear HO_17;clear HO_19;clear HB;have HO_5 := n0_;have HO_9 := n1_;have HO_17 := n2_;have HO_19 := n3_;have HO142 := n4_;have HB := n5_;clear n0_ n1_ n2_ n3_ n4_ n5_;(try clear hb);(try clear hb2);(try clear hk);(try clear hi);(try clear ho0);obtain ⟨Ao97, co97, eo97⟩ := Kd.N_slice HO142.out;subst eo97;have q98 : ((t139.length : Int) : Int) ≤ ((t109.length : Int) : Int) := of_decide_eq_true (by first | (with_reducible assumption) | assumption);obtain ⟨i098, hi098, _, hsz98, _⟩ := info_parts info27;have hroom98 : t109.length ≤ co47 := (Kd.N_reads' HO_9.out).2.1;have hC98 : Kd.F k27 _ _ Ao47 t109.length t109 := (Kd.V_at (base := w.heap.size) (Kd.N_V HO_9.out)).2.2;have hcut98 := cut_to (P := Try.prog) 34 27 .i64 Try.underlying34 hi098 Ao47 t109.length co47 (t139.length : Int) (of_decide_eq_true (by first | (with_reducible assumption) | assumption)) q98 hroom98;have hr98 := Kd.F_take (m := ((t139.length : Int) : Int).toNat) hC98 (by omega);have hy98 : y162.length = ((t139.length : Int) : Int).toNat := (by rw [Ny162.out, List.length_take];omega);rw [← Ny162.out] at hr98;rw [← hy98] at hcut98;have HO166 := Aside0.mk (show Kd.V k27 27 _ w.heap.size _ (.slice Ao47 y162.length co47) y162 from Kd.V_mk (by omega) hr98);have HC166 := Aside0.mk (show y162.length ≤ co47 from by omega);clear hr98 hC98 hroom98 hi098 hsz98;have KY98 := Aside0.mk hy98;clear hy98;replace q98 := eq_true q98) | (go_at_call 26;(with_reducible refine (impl_OccsSame.calls k3 _ _ t139 _ _ y162 t167 _ ?side1 ?side2 ?side3 ?side4 A95.out).mono ?_);(case side1 => repeat (first | exact (Kd.N_reads' HO142.out).2.2 | (with_reducible refine Kd.C_alloc ?_ _) | (with_reducible refine Kd.C_drewN ?_ _) | (with_reducible refine Kd.C_drew ?_)));(case side2 => exact (Kd.N_reads' HO142.out).2.1);(case side3 => repeat (first | exact (Kd.V_reads' HO166.out).2.2 | (with_reducible refine Kd.C_alloc ?_ _) | (with_reducible refine Kd.C_drewN ?_ _) | (with_reducible refine Kd.C_drew ?_)));(case side4 => exact (Kd.V_reads' HO166.out).2.1);rintro e w99 ⟨rfl, hb⟩;have n0_ := Aside0.mk (Kd.N_below (by (with_reducible repeat (first | apply Kd.N_alloc | apply Kd.N_drewN | apply Kd.N_drew));exact HO_5.out) hb);have n1_ := Aside0.mk (Kd.N_below (by (with_reducible repeat (first | apply Kd.N_alloc | apply Kd.N_drewN | apply Kd.N_drew));exact HO_9.out) hb);have n2_ := Aside0.mk (Kd.N_below (by (with_reducible repeat (first | apply Kd.N_alloc | apply Kd.N_drewN | apply Kd.N_drew));exact HO_17.out) hb);have n3_ := Aside0.mk (Kd.N_below (by (with_reducible repeat (first | apply Kd.N_alloc | apply Kd.N_drewN | apply Kd.N_drew));exact HO_19.out) hb);have n4_ := Aside0.mk (Kd.N_below (by (with_reducible repeat (first | apply Kd.N_alloc | apply Kd.N_drewN | apply Kd.N_drew));exact HO142.out) hb);have n5_ := Aside0.mk (Kd.V_below (by (with_reducible repeat (first | apply Kd.V_alloc | apply Kd.V_drewN | apply Kd.V_drew));exact HO166.out) hb);have n6_ := Aside0.mk (below_step (by exact HB.out) hb);clear HO_5;clear HO_9;clear HO_17;clear HO_19;clear HO142;clear HO166;clear HB;have HO_5 := n0_;have HO_9 := n1_;have HO_17 := n2_;have HO_19 := n3_;have HO142 := n4_;have HO166 := n5_;have HB := n6_;clear n0_ n1_ n2_ n3_ n4_ n5_ n6_;(try clear hb);(try clear hb2);(try clear hk);(try clear hi))))
               go_ret
               exact ⟨by first | rfl | (simp [errW_none, errW_some] <;> rfl) | (simp [*, errW_none, errW_some] <;> rfl), by repeat (first | (with_reducible first | exact HB.out | apply below_alloc | apply pw_below_drewN | apply below_drew1) | exact HB.out)⟩
              ·rw [if_neg c93] at H
               exact absurd H (by simp)
             ·rw [if_neg c92] at H
              have c92b0 : decide ((t139.length : Int) ≤ (t109.length : Int)) = false := decide_eq_false c92
              (try (have c92b1 : ¬ (t139.length ≤ t109.length) := by omega))
              have c92b2 : decide (t139.length ≤ t109.length) = false := decide_eq_false (fun h => c92 (Int.ofNat_le.mpr h))
              clear c92
              exact absurd (Option.some.inj H) (by rw [hT_.out];decide)
            ·replace c91 := Bool.eq_false_iff.mpr c91
             subst c91
             have H1 : (some false) = some r := by rw [if_neg (show ¬ (false = true) by decide)] at H;exact H
             clear H
             have H := H1
             clear H1
             exact absurd (Option.some.inj H) (by rw [hT_.out];decide)
          ·replace c55 := Bool.eq_false_iff.mpr c55
           subst c55
           have H1 : (if t140 = true then (if (t139.length : Int) ≤ (t109.length : Int) then (if 0 ≤ (t139.length : Int) then ((impl_OccsSame.f k3 t139 (t109.take ((t139.length : Int) : Int).toNat)).bind fun t173 => (some t173)) else (none)) else (some false)) else (some false)) = some r := by rw [if_neg (show ¬ (false = true) by decide)] at H;exact H
           clear H
           have H := H1
           clear H1
           by_cases c100 : t140 = true
           ·subst c100
            have H1 : (if (t139.length : Int) ≤ (t109.length : Int) then (if 0 ≤ (t139.length : Int) then ((impl_OccsSame.f k3 t139 (t109.take ((t139.length : Int) : Int).toNat)).bind fun t173 => (some t173)) else (none)) else (some false)) = some r := by rw [if_pos rfl] at H;exact H
            clear H
            have H := H1
            clear H1
            by_cases c101 : (t139.length : Int) ≤ (t109.length : Int)
            ·rw [if_pos c101] at H
             have c101b0 : decide ((t139.length : Int) ≤ (t109.length : Int)) = true := decide_eq_true c101
             (try (have c101b1 : (t139.length ≤ t109.length) := by omega))
             have c101b2 : decide (t139.length ≤ t109.length) = true := decide_eq_true (Int.ofNat_le.mp c101)
             clear c101
             by_cases c102 : 0 ≤ (t139.length : Int)
             ·rw [if_pos c102] at H
              have c102b0 := eq_true c102
              have c102b1 : decide (0 ≤ (t139.length : Int)) = true := decide_eq_true c102
              clear c102
              have c103b0 := eq_true (of_decide_eq_true (by first | (with_reducible assumption) | assumption) : (t139.length : Int) ≤ (t109.length : Int))
              obtain ⟨y168, hy168⟩ : ∃ y_ : List (S27), y_ = (t109.take ((t139.length : Int) : Int).toNat) := ⟨_, rfl⟩
              replace H : ((impl_OccsSame.f k3 t139 y168).bind fun t173 => (some t173)) = some r := by first | (rw [hy168];with_reducible exact H) | (have H2_ := (Option.bind_some _ _).symm.trans H;rw [hy168];with_reducible exact H2_) | (have H2_ := (Option.bind_some _ _).symm.trans H;with_reducible exact H2_) | with_reducible exact H | (rw [hy168];exact H) | exact H
              have Ny168 := Aside0.mk hy168
              clear hy168
              replace H := Option.bind_eq_some_iff.mp H
              obtain ⟨t173, A1040, H⟩ := H
              replace H : (some t173) = some r := H
              have A104 := Aside0.mk A1040
              clear A1040
              obtain rfl := Option.some.inj H
              go_wp2_with (first | (go_at_call 61;(with_reducible refine (impl_PlusOf.calls k3 _ _ t101 t104 (wrap64 (t105 - 1)) t139 true _ ?side1 ?side2 A54.out).mono ?_);(case side1 => repeat (first | exact (Kd.N_reads' HO_5.out).2.2 | (with_reducible refine Kd.C_alloc ?_ _) | (with_reducible refine Kd.C_drewN ?_ _) | (with_reducible refine Kd.C_drew ?_)));(case side2 => exact (Kd.N_reads' HO_5.out).2.1);rintro e w105 ⟨v141, rfl, ho0, hb⟩;have n0_ := Aside0.mk (Kd.N_elder' (by (with_reducible repeat (first | apply Kd.N_alloc | apply Kd.N_drewN | apply Kd.N_drew));exact HO_5.out) (by first | exact Kd.N_base ho0 | exact Kd.S_base ho0) hb);have n1_ := Aside0.mk (Kd.N_elder' (by (with_reducible repeat (first | apply Kd.N_alloc | apply Kd.N_drewN | apply Kd.N_drew));exact HO_9.out) (by first | exact Kd.N_base ho0 | exact Kd.S_base ho0) hb);have n2_ := Aside0.mk (Kd.N_elder' (by (with_reducible repeat (first | apply Kd.N_alloc | apply Kd.N_drewN | apply Kd.N_drew));exact HO_17.out) (by first | exact Kd.N_base ho0 | exact Kd.S_base ho0) hb);have n3_ := Aside0.mk (Kd.N_elder' (by (with_reducible repeat (first | apply Kd.N_alloc | apply Kd.N_drewN | apply Kd.N_drew));exact HO_19.out) (by first | exact Kd.N_base ho0 | exact Kd.S_base ho0) hb);have n4_ := Aside0.mk (Kd.N_lower (Kd.N_mono (ok' := fun k_ => some k_ ≠ (.slice Ao13 t101.length co13 : Value).ownBlock ∧ some k_ ≠ (.slice Ao47 t109.length co47 : Value).ownBlock ∧ some k_ ≠ (v130 : Value).ownBlock ∧ some k_ ≠ (v134 : Value).ownBlock) (Kd.S_N (Kd.S_bound ho0)) (fun k_ hk_ => ⟨(Kd.fresh' (Kd.N_lt (by (with_reducible repeat (first | apply Kd.N_alloc | apply Kd.N_drewN | apply Kd.N_drew));exact HO_5.out)) k_ hk_.2.1), (Kd.fresh' (Kd.N_lt (by (with_reducible repeat (first | apply Kd.N_alloc | apply Kd.N_drewN | apply Kd.N_drew));exact HO_9.out)) k_ hk_.2.1), (Kd.fresh' (Kd.N_lt (by (with_reducible repeat (first | apply Kd.N_alloc | apply Kd.N_drewN | apply Kd.N_drew));exact HO_17.out)) k_ hk_.2.1), (Kd.fresh' (Kd.N_lt (by (with_reducible repeat (first | apply Kd.N_alloc | apply Kd.N_drewN | apply Kd.N_drew));exact HO_19.out)) k_ hk_.2.1)⟩)) (below_size (by exact HB.out)));have n5_ := Aside0.mk (below_step (by exact HB.out) hb);clear HO_5;clear HO_9;clear HO_17;clear HO_19;clear HB;have HO_5 := n0_;have HO_9 := n1_;have HO_17 := n2_;have HO_19 := n3_;have HO142 := n4_;have HB := n5_;clear n0_ n1_ n2_ n3_ n4_ n5_;(try clear hb);(try clear hb2);(try clear hk);(try clear hi);(try clear ho0);obtain ⟨Ao106, co106, eo106⟩ := Kd.N_slice HO142.out;subst eo106;have q107 : ((t139.length : Int) : Int) ≤ ((t109.length : Int) : Int) := of_decide_eq_true (by first | (with_reducible assumption) | assumption);obtain ⟨i0107, hi0107, _, hsz107, _⟩ := info_parts info27;have hroom107 : t109.length ≤ co47 := (Kd.N_reads' HO_9.out).2.1;have hC107 : Kd.F k27 _ _ Ao47 t109.length t109 := (Kd.V_at (base := w.heap.size) (Kd.N_V HO_9.out)).2.2;have hcut107 := cut_to (P := Try.prog) 34 27 .i64 Try.underlying34 hi0107 Ao47 t109.length co47 (t139.length : Int) (of_decide_eq_true (by first | (with_reducible assumption) | assumption)) q107 hroom107;have hr107 := Kd.F_take (m := ((t139.length : Int) : Int).toNat) hC107 (by omega);have hy107 : y168.length = ((t139.length : Int) : Int).toNat := (by rw [Ny168.out, List.length_take];omega);rw [← Ny168.out] at hr107;rw [← hy107] at hcut107;have HO172 := Aside0.mk (show Kd.V k27 27 _ w.heap.size _ (.slice Ao47 y168.length co47) y168 from Kd.V_mk (by omega) hr107);have HC172 := Aside0.mk (show y168.length ≤ co47 from by omega);clear hr107 hC107 hroom107 hi0107 hsz107;have KY107 := Aside0.mk hy107;clear hy107;replace q107 := eq_true q107) | (go_at_call 26;(with_reducible refine (impl_OccsSame.calls k3 _ _ t139 _ _ y168 t173 _ ?side1 ?side2 ?side3 ?side4 A104.out).mono ?_);(case side1 => repeat (first | exact (Kd.N_reads' HO142.out).2.2 | (with_reducible refine Kd.C_alloc ?_ _) | (with_reducible refine Kd.C_drewN ?_ _) | (with_reducible refine Kd.C_drew ?_)));(case side2 => exact (Kd.N_reads' HO142.out).2.1);(case side3 => repeat (first | exact (Kd.V_reads' HO172.out).2.2 | (with_reducible refine Kd.C_alloc ?_ _) | (with_reducible refine Kd.C_drewN ?_ _) | (with_reducible refine Kd.C_drew ?_)));(case side4 => exact (Kd.V_reads' HO172.out).2.1);rintro e w108 ⟨rfl, hb⟩;have n0_ := Aside0.mk (Kd.N_below (by (with_reducible repeat (first | apply Kd.N_alloc | apply Kd.N_drewN | apply Kd.N_drew));exact HO_5.out) hb);have n1_ := Aside0.mk (Kd.N_below (by (with_reducible repeat (first | apply Kd.N_alloc | apply Kd.N_drewN | apply Kd.N_drew));exact HO_9.out) hb);have n2_ := Aside0.mk (Kd.N_below (by (with_reducible repeat (first | apply Kd.N_alloc | apply Kd.N_drewN | apply Kd.N_drew));exact HO_17.out) hb);have n3_ := Aside0.mk (Kd.N_below (by (with_reducible repeat (first | apply Kd.N_alloc | apply Kd.N_drewN | apply Kd.N_drew));exact HO_19.out) hb);have n4_ := Aside0.mk (Kd.N_below (by (with_reducible repeat (first | apply Kd.N_alloc | apply Kd.N_drewN | apply Kd.N_drew));exact HO142.out) hb);have n5_ := Aside0.mk (Kd.V_below (by (with_reducible repeat (first | apply Kd.V_alloc | apply Kd.V_drewN | apply Kd.V_drew));exact HO172.out) hb);have n6_ := Aside0.mk (below_step (by exact HB.out) hb);clear HO_5;clear HO_9;clear HO_17;clear HO_19;clear HO142;clear HO172;clear HB;have HO_5 := n0_;have HO_9 := n1_;have HO_17 := n2_;have HO_19 := n3_;have HO142 := n4_;have HO172 := n5_;have HB := n6_;clear n0_ n1_ n2_ n3_ n4_ n5_ n6_;(try clear hb);(try clear hb2);(try clear hk);(try clear hi)))
              repeat (go_quiet (first | (go_at_call 61;(with_reducible refine (impl_PlusOf.calls k3 _ _ t101 t104 (wrap64 (t105 - 1)) t139 true _ ?side1 ?side2 A54.out).mono ?_);(case side1 => repeat (first | exact (Kd.N_reads' HO_5.out).2.2 | (with_reducible refine Kd.C_alloc ?_ _) | (with_reducible refine Kd.C_drewN ?_ _) | (with_reducible refine Kd.C_drew ?_)));(case side2 => exact (Kd.N_reads' HO_5.out).2.1);rintro e w105 ⟨v141, rfl, ho0, hb⟩;have n0_ := Aside0.mk (Kd.N_elder' (by (with_reducible repeat (first | apply Kd.N_alloc | apply Kd.N_drewN | apply Kd.N_drew));exact HO_5.out) (by first | exact Kd.N_base ho0 | exact Kd.S_base ho0) hb);have n1_ := Aside0.mk (Kd.N_elder' (by (with_reducible repeat (first | apply Kd.N_alloc | apply Kd.N_drewN | apply Kd.N_drew));exact HO_9.out) (by first | exact Kd.N_base ho0 | exact Kd.S_base ho0) hb);have n2_ := Aside0.mk (Kd.N_elder' (by (with_reducible repeat (first | apply Kd.N_alloc | apply Kd.N_drewN | apply Kd.N_drew));exact HO_17.out) (by first | exact Kd.N_base ho0 | exact Kd.S_base ho0) hb);have n3_ := Aside0.mk (Kd.N_elder' (by (with_reducible repeat (first | apply Kd.N_alloc | apply Kd.N_drewN | apply Kd.N_drew));exact HO_19.out) (by first | exact Kd.N_base ho0 | exact Kd.S_base ho0) hb);have n4_ := Aside0.mk (Kd.N_lower (Kd.N_mono (ok' := fun k_ => some k_ ≠ (.slice Ao13 t101.length co13 : Value).ownBlock ∧ some k_ ≠ (.slice Ao47 t109.length co47 : Value).ownBlock ∧ some k_ ≠ (v130 : Value).ownBlock ∧ some k_ ≠ (v134 : Value).ownBlock) (Kd.S_N (Kd.S_bound ho0)) (fun k_ hk_ => ⟨(Kd.fresh' (Kd.N_lt (by (with_reducible repeat (first | apply Kd.N_alloc | apply Kd.N_drewN | apply Kd.N_drew));exact HO_5.out)) k_ hk_.2.1), (Kd.fresh' (Kd.N_lt (by (with_reducible repeat (first | apply Kd.N_alloc | apply Kd.N_drewN | apply Kd.N_drew));exact HO_9.out)) k_ hk_.2.1), (Kd.fresh' (Kd.N_lt (by (with_reducible repeat (first | apply Kd.N_alloc | apply Kd.N_drewN | apply Kd.N_drew));exact HO_17.out)) k_ hk_.2.1), (Kd.fresh' (Kd.N_lt (by (with_reducible repeat (first | apply Kd.N_alloc | apply Kd.N_drewN | apply Kd.N_drew));exact HO_19.out)) k_ hk_.2.1)⟩)) (below_size (by exact HB.out)));have n5_ := Aside0.mk (below_step (by exact HB.out) hb);clear HO_5;clear HO_9;clear HO_17;clear HO_19;clear HB;have HO_5 := n0_;have HO_9 := n1_;have HO_17 := n2_;have HO_19 := n3_;have HO142 := n4_;have HB := n5_;clear n0_ n1_ n2_ n3_ n4_ n5_;(try clear hb);(try clear hb2);(try clear hk);(try clear hi);(try clear ho0);obtain ⟨Ao106, co106, eo106⟩ := Kd.N_slice HO142.out;subst eo106;have q107 : ((t139.length : Int) : Int) ≤ ((t109.length : Int) : Int) := of_decide_eq_true (by first | (with_reducible assumption) | assumption);obtain ⟨i0107, hi0107, _, hsz107, _⟩ := info_parts info27;have hroom107 : t109.length ≤ co47 := (Kd.N_reads' HO_9.out).2.1;have hC107 : Kd.F k27 _ _ Ao47 t109.length t109 := (Kd.V_at (base := w.heap.size) (Kd.N_V HO_9.out)).2.2;have hcut107 := cut_to (P := Try.prog) 34 27 .i64 Try.underlying34 hi0107 Ao47 t109.length co47 (t139.length : Int) (of_decide_eq_true (by first | (with_reducible assumption) | assumption)) q107 hroom107;have hr107 := Kd.F_take (m := ((t139.length : Int) : Int).toNat) hC107 (by omega);have hy107 : y168.length = ((t139.length : Int) : Int).toNat := (by rw [Ny168.out, List.length_take];omega);rw [← Ny168.out] at hr107;rw [← hy107] at hcut107;have HO172 := Aside0.mk (show Kd.V k27 27 _ w.heap.size _ (.slice Ao47 y168.length co47) y168 from Kd.V_mk (by omega) hr107);have HC172 := Aside0.mk (show y168.length ≤ co47 from by omega);clear hr107 hC107 hroom107 hi0107 hsz107;have KY107 := Aside0.mk hy107;clear hy107;replace q107 := eq_true q107) | (go_at_call 26;(with_reducible refine (impl_OccsSame.calls k3 _ _ t139 _ _ y168 t173 _ ?side1 ?side2 ?side3 ?side4 A104.out).mono ?_);(case side1 => repeat (first | exact (Kd.N_reads' HO142.out).2.2 | (with_reducible refine Kd.C_alloc ?_ _) | (with_reducible refine Kd.C_drewN ?_ _) | (with_reducible refine Kd.C_drew ?_)));(case side2 => exact (Kd.N_reads' HO142.out).2.1);(case side3 => repeat (first | exact (Kd.V_reads' HO172.out).2.2 | (with_reducible refine Kd.C_alloc ?_ _) | (with_reducible refine Kd.C_drewN ?_ _) | (with_reducible refine Kd.C_drew ?_)));(case side4 => exact (Kd.V_reads' HO172.out).2.1);rintro e w108 ⟨rfl, hb⟩;have n0_ := Aside0.mk (Kd.N_below (by (with_reducible repeat (first | apply Kd.N_alloc | apply Kd.N_drewN | apply Kd.N_drew));exact HO_5.out) hb);have n1_ := Aside0.mk (Kd.N_below (by (with_reducible repeat (first | apply Kd.N_alloc | apply Kd.N_drewN | apply Kd.N_drew));exact HO_9.out) hb);have n2_ := Aside0.mk (Kd.N_below (by (with_reducible repeat (first | apply Kd.N_alloc | apply Kd.N_drewN | apply Kd.N_drew));exact HO_17.out) hb);have n3_ := Aside0.mk (Kd.N_below (by (with_reducible repeat (first | apply Kd.N_alloc | apply Kd.N_drewN | apply Kd.N_drew));exact HO_19.out) hb);have n4_ := Aside0.mk (Kd.N_below (by (with_reducible repeat (first | apply Kd.N_alloc | apply Kd.N_drewN | apply Kd.N_drew));exact HO142.out) hb);have n5_ := Aside0.mk (Kd.V_below (by (with_reducible repeat (first | apply Kd.V_alloc | apply Kd.V_drewN | apply Kd.V_drew));exact HO172.out) hb);have n6_ := Aside0.mk (below_step (by exact HB.out) hb);clear HO_5;clear HO_9;clear HO_17;clear HO_19;clear HO142;clear HO172;clear HB;have HO_5 := n0_;have HO_9 := n1_;have HO_17 := n2_;have HO_19 := n3_;have HO142 := n4_;have HO172 := n5_;have HB := n6_;clear n0_ n1_ n2_ n3_ n4_ n5_ n6_;(try clear hb);(try clear hb2);(try clear hk);(try clear hi)));try go_wp2_with (first | (go_at_call 61;(with_reducible refine (impl_PlusOf.calls k3 _ _ t101 t104 (wrap64 (t105 - 1)) t139 true _ ?side1 ?side2 A54.out).mono ?_);(case side1 => repeat (first | exact (Kd.N_reads' HO_5.out).2.2 | (with_reducible refine Kd.C_alloc ?_ _) | (with_reducible refine Kd.C_drewN ?_ _) | (with_reducible refine Kd.C_drew ?_)));(case side2 => exact (Kd.N_reads' HO_5.out).2.1);rintro e w105 ⟨v141, rfl, ho0, hb⟩;have n0_ := Aside0.mk (Kd.N_elder' (by (with_reducible repeat (first | apply Kd.N_alloc | apply Kd.N_drewN | apply Kd.N_drew));exact HO_5.out) (by first | exact Kd.N_base ho0 | exact Kd.S_base ho0) hb);have n1_ := Aside0.mk (Kd.N_elder' (by (with_reducible repeat (first | apply Kd.N_alloc | apply Kd.N_drewN | apply Kd.N_drew));exact HO_9.out) (by first | exact Kd.N_base ho0 | exact Kd.S_base ho0) hb);have n2_ := Aside0.mk (Kd.N_elder' (by (with_reducible repeat (first | apply Kd.N_alloc | apply Kd.N_drewN | apply Kd.N_drew));exact HO_17.out) (by first | exact Kd.N_base ho0 | exact Kd.S_base ho0) hb);have n3_ := Aside0.mk (Kd.N_elder' (by (with_reducible repeat (first | apply Kd.N_alloc | apply Kd.N_drewN | apply Kd.N_drew));exact HO_19.out) (by first | exact Kd.N_base ho0 | exact Kd.S_base ho0) hb);have n4_ := Aside0.mk (Kd.N_lower (Kd.N_mono (ok' := fun k_ => some k_ ≠ (.slice Ao13 t101.length co13 : Value).ownBlock ∧ some k_ ≠ (.slice Ao47 t109.length co47 : Value).ownBlock ∧ some k_ ≠ (v130 : Value).ownBlock ∧ some k_ ≠ (v134 : Value).ownBlock) (Kd.S_N (Kd.S_bound ho0)) (fun k_ hk_ => ⟨(Kd.fresh' (Kd.N_lt (by (with_reducible repeat (first | apply Kd.N_alloc | apply Kd.N_drewN | apply Kd.N_drew));exact HO_5.out)) k_ hk_.2.1), (Kd.fresh' (Kd.N_lt (by (with_reducible repeat (first | apply Kd.N_alloc | apply Kd.N_drewN | apply Kd.N_drew));exact HO_9.out)) k_ hk_.2.1), (Kd.fresh' (Kd.N_lt (by (with_reducible repeat (first | apply Kd.N_alloc | apply Kd.N_drewN | apply Kd.N_drew));exact HO_17.out)) k_ hk_.2.1), (Kd.fresh' (Kd.N_lt (by (with_reducible repeat (first | apply Kd.N_alloc | apply Kd.N_drewN | apply Kd.N_drew));exact HO_19.out)) k_ hk_.2.1)⟩)) (below_size (by exact HB.out)));have n5_ := Aside0.mk (below_step (by exact HB.out) hb);clear HO_5;clear HO_9;clear HO_17;clear HO_19;clear HB;have HO_5 := n0_;have HO_9 := n1_;have HO_17 := n2_;have HO_19 := n3_;have HO142 := n4_;have HB := n5_;clear n0_ n1_ n2_ n3_ n4_ n5_;(try clear hb);(try clear hb2);(try clear hk);(try clear hi);(try clear ho0);obtain ⟨Ao106, co106, eo106⟩ := Kd.N_slice HO142.out;subst eo106;have q107 : ((t139.length : Int) : Int) ≤ ((t109.length : Int) : Int) := of_decide_eq_true (by first | (with_reducible assumption) | assumption);obtain ⟨i0107, hi0107, _, hsz107, _⟩ := info_parts info27;have hroom107 : t109.length ≤ co47 := (Kd.N_reads' HO_9.out).2.1;have hC107 : Kd.F k27 _ _ Ao47 t109.length t109 := (Kd.V_at (base := w.heap.size) (Kd.N_V HO_9.out)).2.2;have hcut107 := cut_to (P := Try.prog) 34 27 .i64 Try.underlying34 hi0107 Ao47 t109.length co47 (t139.length : Int) (of_decide_eq_true (by first | (with_reducible assumption) | assumption)) q107 hroom107;have hr107 := Kd.F_take (m := ((t139.length : Int) : Int).toNat) hC107 (by omega);have hy107 : y168.length = ((t139.length : Int) : Int).toNat := (by rw [Ny168.out, List.length_take];omega);rw [← Ny168.out] at hr107;rw [← hy107] at hcut107;have HO172 := Aside0.mk (show Kd.V k27 27 _ w.heap.size _ (.slice Ao47 y168.length co47) y168 from Kd.V_mk (by omega) hr107);have HC172 := Aside0.mk (show y168.length ≤ co47 from by omega);clear hr107 hC107 hroom107 hi0107 hsz107;have KY107 := Aside0.mk hy107;clear hy107;replace q107 := eq_true q107) | (go_at_call 26;(with_reducible refine (impl_OccsSame.calls k3 _ _ t139 _ _ y168 t173 _ ?side1 ?side2 ?side3 ?side4 A104.out).mono ?_);(case side1 => repeat (first | exact (Kd.N_reads' HO142.out).2.2 | (with_reducible refine Kd.C_alloc ?_ _) | (with_reducible refine Kd.C_drewN ?_ _) | (with_reducible refine Kd.C_drew ?_)));(case side2 => exact (Kd.N_reads' HO142.out).2.1);(case side3 => repeat (first | exact (Kd.V_reads' HO172.out).2.2 | (with_reducible refine Kd.C_alloc ?_ _) | (with_reducible refine Kd.C_drewN ?_ _) | (with_reducible refine Kd.C_drew ?_)));(case side4 => exact (Kd.V_reads' HO172.out).2.1);rintro e w108 ⟨rfl, hb⟩;have n0_ := Aside0.mk (Kd.N_below (by (with_reducible repeat (first | apply Kd.N_alloc | apply Kd.N_drewN | apply Kd.N_drew));exact HO_5.out) hb);have n1_ := Aside0.mk (Kd.N_below (by (with_reducible repeat (first | apply Kd.N_alloc | apply Kd.N_drewN | apply Kd.N_drew));exact HO_9.out) hb);have n2_ := Aside0.mk (Kd.N_below (by (with_reducible repeat (first | apply Kd.N_alloc | apply Kd.N_drewN | apply Kd.N_drew));exact HO_17.out) hb);have n3_ := Aside0.mk (Kd.N_below (by (with_reducible repeat (first | apply Kd.N_alloc | apply Kd.N_drewN | apply Kd.N_drew));exact HO_19.out) hb);have n4_ := Aside0.mk (Kd.N_below (by (with_reducible repeat (first | apply Kd.N_alloc | apply Kd.N_drewN | apply Kd.N_drew));exact HO142.out) hb);have n5_ := Aside0.mk (Kd.V_below (by (with_reducible repeat (first | apply Kd.V_alloc | apply Kd.V_drewN | apply Kd.V_drew));exact HO172.out) hb);have n6_ := Aside0.mk (below_step (by exact HB.out) hb);clear HO_5;clear HO_9;clear HO_17;clear HO_19;clear HO142;clear HO172;clear HB;have HO_5 := n0_;have HO_9 := n1_;have HO_17 := n2_;have HO_19 := n3_;have HO142 := n4_;have HO172 := n5_;have HB := n6_;clear n0_ n1_ n2_ n3_ n4_ n5_ n6_;(try clear hb);(try clear hb2);(try clear hk);(try clear hi))))
              go_ret
              exact ⟨by first | rfl | (simp [errW_none, errW_some] <;> rfl) | (simp [*, errW_none, errW_some] <;> rfl), by repeat (first | (with_reducible first | exact HB.out | apply below_alloc | apply pw_below_drewN | apply below_drew1) | exact HB.out)⟩
             ·rw [if_neg c102] at H
              exact absurd H (by simp)
            ·rw [if_neg c101] at H
             have c101b0 : decide ((t139.length : Int) ≤ (t109.length : Int)) = false := decide_eq_false c101
             (try (have c101b1 : ¬ (t139.length ≤ t109.length) := by omega))
             have c101b2 : decide (t139.length ≤ t109.length) = false := decide_eq_false (fun h => c101 (Int.ofNat_le.mpr h))
             clear c101
             exact absurd (Option.some.inj H) (by rw [hT_.out];decide)
           ·replace c100 := Bool.eq_false_iff.mpr c100
            subst c100
            have H1 : (some false) = some r := by rw [if_neg (show ¬ (false = true) by decide)] at H;exact H
            clear H
            have H := H1
            clear H1
            exact absurd (Option.some.inj H) (by rw [hT_.out];decide)

end Go.Proofs.Ytiplpckgmikmeaa.M
namespace Go.Proofs.Ytiplpckgmikmeaa.M
set_option linter.unusedVariables false
set_option linter.unusedSimpArgs false
open Go.RowKit Go.Proofs.YtiplpckgmikmeaaW.PrintWords Go.Proofs.YtiplpckgmikmeaaW.PrintLast

theorem ofInt_small (a : Nat) (ha : a < 9223372036854775808) : (BitVec.ofInt 64 (a : Int)).toNat = a := by
  rw [BitVec.ofInt_natCast, BitVec.toNat_ofNat]; exact Nat.mod_eq_of_lt (by omega)
theorem xor_small (a b : Nat) (ha : a < 9223372036854775808) (hb : b < 9223372036854775808) : bits .xor .i64 (a : Int) (b : Int) = ((a ^^^ b : Nat) : Int) := by
  have hx : a ^^^ b < 2 ^ 63 := Nat.xor_lt_two_pow (by omega) (by omega)
  show IntKind.i64.wrap ((BitVec.ofInt 64 (a : Int) ^^^ BitVec.ofInt 64 (b : Int)).toNat : Int) = _
  rw [BitVec.toNat_xor, ofInt_small a ha, ofInt_small b hb, IntKind.wrap_i64]
  omega
theorem mix_small (x : Int) (h0 : 0 ≤ x) (h1 : x ≤ 1099511627776) : 0 ≤ bits .xor .i64 x (wrap64 (Int.tdiv x 64)) := by
  obtain ⟨n, rfl⟩ := Int.eq_ofNat_of_zero_le h0
  have : Int.tdiv (n : Int) 64 = ((n / 64 : Nat) : Int) := rfl
  rw [this, w_small (by omega) (by omega), xor_small n (n / 64) (by omega) (by omega)]
  exact Int.natCast_nonneg _

def Bytes (bs : List Int) : Prop := bs.length ≤ 2000 ∧ ∀ x ∈ bs, 0 ≤ x ∧ x ≤ 255
theorem bytes_of {l : List Int} (h : ∀ x ∈ l, (Lit.int .u8 x).wf = true) : ∀ x ∈ l, 0 ≤ x ∧ x ≤ 255 := by
  intro x hx
  have := h x hx
  simp only [Lit.wf, Bool.and_eq_true, decide_eq_true_eq] at this
  exact this
theorem Bytes.rdLe {bs : List Int} (h : Bytes bs) (i : Int) : 0 ≤ rd bs i ∧ rd bs i ≤ 255 := by
  unfold rd
  rw [List.getD_eq_getElem?_getD]
  rcases Nat.lt_or_ge i.toNat bs.length with hi | hi
  · rw [List.getElem?_eq_getElem hi]
    exact h.2 _ (List.getElem_mem hi)
  · rw [List.getElem?_eq_none hi]
    simp

theorem l14Open_is (l : List Int) (hl : l.length ≤ 9223372036854775807) : spec_l14Open.f l = some (l.take 2000, 0) := by
  unfold spec_l14Open.f
  by_cases h : (l.length : Int) > 2000
  · rw [if_pos h, if_pos (by omega)]
  · rw [if_neg h, List.take_of_length_le (by omega)]
theorem open_bytes {l : List Int} (h : ∀ x ∈ l, (Lit.int .u8 x).wf = true) : Bytes (l.take 2000) :=
  ⟨by rw [List.length_take]; omega, fun x hx => bytes_of h x (List.mem_of_mem_take hx)⟩

theorem tmod_lt (a n : Int) (h0 : 0 ≤ a) (h1 : 1 ≤ n) : 0 ≤ Int.tmod a n ∧ Int.tmod a n < n := by
  rw [Int.tmod_eq_emod_of_nonneg h0]
  exact ⟨Int.emod_nonneg _ (by omega), Int.emod_lt_of_pos _ (by omega)⟩

theorem pick_ev (bs : List Int) (hb : Bytes bs) (p n : Int) (h0 : 0 ≤ p) (h1 : p ≤ 1000000) : ∃ r, Ev (fun k => spec_l14Rd_pick.f k bs p n) (r, p + 1) ∧ 0 ≤ r ∧ (r < n ∨ n < 1 ∧ r = 0) := by
  have w1 : wrap64 (p + 1) = p + 1 := w_small (by omega) (by omega)
  by_cases hn : n < 1
  · refine ⟨0, ?_, by omega, .inr ⟨hn, rfl⟩⟩
    unfold spec_l14Rd_pick.f
    refine Ev.pos hn (Ev.last (fun k => ?_))
    simp only [spec_l14Rd_pick.j0]
    rw [if_pos trivial, w1]
  · by_cases he : (bs.length : Int) = 0
    · refine ⟨0, ?_, by omega, .inl (by omega)⟩
      unfold spec_l14Rd_pick.f
      refine Ev.neg hn (Ev.last (fun k => ?_))
      simp only [spec_l14Rd_pick.j0]
      rw [beq_iff_eq.2 he, if_pos rfl, w1]
    · have w2 : wrap64 (p + 1 - 1) = p := by rw [show p + 1 - 1 = p by omega]; exact w_small (by omega) (by omega)
      have hne : ((bs.length : Int) == 0) = false := beq_eq_false_iff_ne.2 he
      have hlen := hb.1
      by_cases hk : p < (bs.length : Int)
      · have hr := hb.rdLe p
        have hm := tmod_lt (rd bs p) n hr.1 (by omega)
        refine ⟨Int.tmod (rd bs p) n, ?_, hm.1, .inl hm.2⟩
        unfold spec_l14Rd_pick.f
        refine Ev.neg hn (Ev.last (fun k => ?_))
        simp only [spec_l14Rd_pick.j0]
        rw [hne, if_neg (by decide), w1, w2, if_pos hk, if_pos h0, if_neg (by omega), w_small (by omega) (by omega)]
      · have t1 := tmod_lt p (bs.length : Int) h0 (by omega)
        have w3 : wrap64 (p * 7) = p * 7 := w_small (by omega) (by omega)
        have w4 : wrap64 (p * 7 + 3) = p * 7 + 3 := w_small (by omega) (by omega)
        have t2 := tmod_lt (p * 7 + 3) (bs.length : Int) (by omega) (by omega)
        have r1 := hb.rdLe (Int.tmod p (bs.length : Int))
        have r2 := hb.rdLe (Int.tmod (p * 7 + 3) (bs.length : Int))
        have hd : 0 ≤ Int.tdiv p (bs.length : Int) ∧ Int.tdiv p (bs.length : Int) ≤ p := by
          rw [Int.tdiv_eq_ediv_of_nonneg h0]
          exact ⟨Int.ediv_nonneg h0 (by omega), Int.ediv_le_self _ h0⟩
        have w5 : wrap64 (Int.tdiv p (bs.length : Int)) = Int.tdiv p (bs.length : Int) := w_small (by omega) (by omega)
        generalize hq : Int.tdiv p (bs.length : Int) = q at *
        generalize ha : rd bs (Int.tmod p (bs.length : Int)) = a at *
        generalize hb' : rd bs (Int.tmod (p * 7 + 3) (bs.length : Int)) = b at *
        have x1 : wrap64 a = a := w_small (by omega) (by omega)
        have x2 : wrap64 b = b := w_small (by omega) (by omega)
        have x3 : wrap64 (a * 131) = a * 131 := w_small (by omega) (by omega)
        have x4 : wrap64 (b * 1117) = b * 1117 := w_small (by omega) (by omega)
        have x5 : wrap64 (a * 131 + b * 1117) = a * 131 + b * 1117 := w_small (by omega) (by omega)
        have x6 : wrap64 (p * 29) = p * 29 := w_small (by omega) (by omega)
        have x7 : wrap64 (a * 131 + b * 1117 + p * 29) = a * 131 + b * 1117 + p * 29 := w_small (by omega) (by omega)
        have x8 : wrap64 (q * 53) = q * 53 := w_small (by omega) (by omega)
        have x9 : wrap64 (a * 131 + b * 1117 + p * 29 + q * 53) = a * 131 + b * 1117 + p * 29 + q * 53 := w_small (by omega) (by omega)
        have hx := mix_small (a * 131 + b * 1117 + p * 29 + q * 53) (by omega) (by omega)
        generalize hX : bits .xor .i64 (a * 131 + b * 1117 + p * 29 + q * 53) (wrap64 (Int.tdiv (a * 131 + b * 1117 + p * 29 + q * 53) 64)) = X at *
        have hm := tmod_lt X n hx (by omega)
        refine ⟨Int.tmod X n, ?_, hm.1, .inl hm.2⟩
        unfold spec_l14Rd_pick.f
        refine Ev.neg hn (Ev.last (fun k => ?_))
        simp only [spec_l14Rd_pick.j0]
        rw [hne, if_neg (by decide), w1, w2, if_neg hk, if_neg he, if_pos t1.1, if_pos t1.2, w3, w4, if_pos t2.1, if_pos t2.2, if_neg (by omega), hq, ha, hb', w5, x1, x2, x3, x4, x5, x6, x7, x8, x9, hX]

theorem num_ev (bs : List Int) (hb : Bytes bs) (p : Int) (l : List Int) (hl : l ≠ []) (hm : l.length ≤ 1000000) (h0 : 0 ≤ p) (h1 : p ≤ 1000000) : ∃ r, Ev (fun k => spec_l14Rd_num.f k bs p l) (r, p + 1) ∧ r ∈ l := by
  obtain ⟨r, hr, h2, h3⟩ := pick_ev bs hb p (l.length : Int) h0 h1
  have hpos : 0 < l.length := List.length_pos_iff.2 hl
  have hlt : r < (l.length : Int) := by omega
  refine ⟨rd l r, ?_, ?_⟩
  · unfold spec_l14Rd_num.f
    exact Ev.bind hr (Ev.pos h2 (Ev.pos hlt (Ev.now _)))
  · unfold rd
    rw [List.getD_eq_getElem?_getD, List.getElem?_eq_getElem (show r.toNat < l.length by omega)]
    exact List.getElem_mem _
end Go.Proofs.Ytiplpckgmikmeaa.M
namespace Go.Proofs.Ytiplpckgmikmeaa.M
set_option linter.unusedVariables false
set_option linter.unusedSimpArgs false
open Go.RowKit Go.Proofs.YtiplpckgmikmeaaW.PrintWords Go.Proofs.YtiplpckgmikmeaaW.PrintLast

theorem impl_in_is (a b c : Int) : impl_in.f a b c = some (decide (b ≤ a) && decide (a ≤ c)) := by
  unfold impl_in.f
  by_cases h : b ≤ a
  · rw [if_pos h]; simp [h]
  · rw [if_neg h]; simp [h]

def cmpI : List Int → List Int → Int
  | [], [] => 0
  | [], _ :: _ => -1
  | _ :: _, [] => 1
  | a :: xs, b :: ys => if a < b then -1 else if a > b then 1 else cmpI xs ys
def sgn (b : Bool) : Int := if b then -1 else 1
def cmpO (a b : S27) : Int := if a.f1 = b.f1 then (if a.f0 = b.f0 then cmpI a.f2 b.f2 else sgn (decide (a.f0 < b.f0))) else sgn (decide (a.f1 < b.f1))
def lessO (a b : S27) : Bool := decide (cmpO a b < 0)

theorem l3Ids_l0_ev (a b : List Int) (ha : a.length ≤ 9223372036854775806) (hb : b.length ≤ 9223372036854775806) : ∀ d n : Nat, n + d = a.length → n ≤ b.length → Ev (fun k => spec_l3Ids.l0 k a b (n : Int)) (cmpI (a.drop n) (b.drop n)) := by
  intro d
  have ends : ∀ (n : Nat), n ≤ a.length → n ≤ b.length → (n = a.length ∨ n = b.length) → Ev (fun k => spec_l3Ids.j1 k a b (n : Int) false) (cmpI (a.drop n) (b.drop n)) := by
    intro n h1 h2 h3
    refine Ev.last (fun k => ?_)
    simp only [spec_l3Ids.j1]
    rw [if_neg (by decide)]
    rcases Nat.lt_or_ge n a.length with ha' | ha'
    · have hbn : n = b.length := by omega
      rw [if_neg (by omega), if_pos (by omega), List.drop_eq_getElem_cons ha', List.drop_of_length_le (show b.length ≤ n by omega)]
      rfl
    · rw [List.drop_of_length_le ha']
      rcases Nat.lt_or_ge n b.length with hb' | hb'
      · rw [if_pos (by omega), List.drop_eq_getElem_cons hb']
        rfl
      · rw [if_neg (by omega), if_neg (by omega), List.drop_of_length_le hb']
        rfl
  induction d with
  | zero =>
    intro n hn hb'
    refine Ev.step (fun k => by simp only [spec_l3Ids.l0]; rw [if_neg (by omega)]) ?_
    exact ends n (by omega) hb' (by omega)
  | succ d ih =>
    intro n hn hb'
    refine Ev.step (fun k => by simp only [spec_l3Ids.l0]; rw [if_pos (by omega)]) ?_
    rcases Nat.lt_or_ge n b.length with hlt | hge
    · rw [decide_eq_true (show (n : Int) < (b.length : Int) by omega)]
      refine Ev.step (fun k => by simp only [spec_l3Ids.j1]; rw [if_pos trivial, if_pos (by omega), if_pos (by omega), if_pos (by omega), w_succ (by omega)]) ?_
      rw [drop_at a 0 n (by omega), drop_at b 0 n (by omega)]
      have next := ih (n + 1) (by omega) (by omega)
      have ra : rd a (n : Int) = a.getD n 0 := rfl
      have rb : rd b (n : Int) = b.getD n 0 := rfl
      rw [ra, rb]
      generalize a.getD n 0 = x at *
      generalize b.getD n 0 = y at *
      unfold cmpI
      by_cases h1 : x < y
      · rw [if_pos h1]
        exact Ev.pos h1 (Ev.now _)
      · rw [if_neg h1]
        refine Ev.neg h1 ?_
        by_cases h2 : x > y
        · rw [if_pos h2]
          exact Ev.pos h2 (Ev.now _)
        · rw [if_neg h2]
          exact Ev.neg h2 next
    · rw [decide_eq_false (show ¬ (n : Int) < (b.length : Int) by omega)]
      exact ends n (by omega) hb' (by omega)
theorem l3Ids_ev (a b : List Int) (ha : a.length ≤ 9223372036854775806) (hb : b.length ≤ 9223372036854775806) : Ev (fun k => spec_l3Ids.f k a b) (cmpI a b) := by
  unfold spec_l3Ids.f
  exact l3Ids_l0_ev a b ha hb a.length 0 (by omega) (by omega)

theorem spec_OccLess_ev (a b : S27) (ha : a.f2.length ≤ 9223372036854775806) (hb : b.f2.length ≤ 9223372036854775806) : Ev (fun k => spec_OccLess.f k a.f0 a.f1 a.f2 b.f0 b.f1 b.f2) (lessO a b) := by
  unfold spec_OccLess.f lessO cmpO
  by_cases h1 : a.f1 = b.f1
  · rw [if_pos h1]
    refine Ev.pos h1 ?_
    by_cases h2 : a.f0 = b.f0
    · rw [if_pos h2]
      exact Ev.pos h2 (Ev.bindS (l3Ids_ev _ _ ha hb) rfl)
    · rw [if_neg h2]
      refine Ev.neg h2 (Ev.one (fun _ => ?_))
      by_cases h3 : a.f0 < b.f0 <;> simp [h3, sgn]
  · rw [if_neg h1]
    refine Ev.neg h1 (Ev.one (fun _ => ?_))
    by_cases h3 : a.f1 < b.f1 <;> simp [h3, sgn]

def idsGo : Int → List Int → Bool
  | _, [] => true
  | p, x :: xs => decide (p < x) && decide (x < 24) && idsGo x xs
theorem idsGo_len : ∀ (l : List Int) (p : Int), idsGo p l = true → p ≤ 23 → (l.length : Int) + p ≤ 23
  | [], p, _, hp => by simp; exact hp
  | x :: xs, p, h, _ => by
    unfold idsGo at h
    simp only [Bool.and_eq_true, decide_eq_true_eq] at h
    have := idsGo_len xs x h.2 (by omega)
    rw [List.length_cons]
    omega
def occOkB (o : S27) : Bool := decide (1 ≤ o.f0) && decide (o.f0 ≤ o.f1) && decide (o.f1 ≤ 2000) && decide (1 ≤ o.f2.length) && idsGo (-1) o.f2
def idPrev (l : List Int) (n : Nat) : Int := if n = 0 then -1 else l.getD (n - 1) 0
theorem idPrev_succ (l : List Int) (n : Nat) : idPrev l (n + 1) = l.getD n 0 := by simp [idPrev]

theorem spec_OccOk_l0_ev (a b : Int) (l : List Int) (hl : l.length ≤ 9223372036854775806) : ∀ d n : Nat, n + d = l.length → -1 ≤ idPrev l n → Ev (fun k => spec_OccOk.l0 k (n : Int) a b l) (idsGo (idPrev l n) (l.drop n)) := by
  intro d
  induction d with
  | zero =>
    intro n hn hp
    rw [List.drop_of_length_le (by omega)]
    exact Ev.last (fun k => by simp only [spec_OccOk.l0]; rw [if_neg (by omega)]; rfl)
  | succ d ih =>
    intro n hn hp
    have hrd : rd l (n : Int) = l.getD n 0 := rfl
    rw [drop_at l 0 n (by omega)]
    refine Ev.step (fun k => by simp only [spec_OccOk.l0]; rw [if_pos (by omega), if_pos (by omega), w_succ (by omega), hrd]) ?_
    have next := ih (n + 1) (by omega)
    rw [idPrev_succ] at next
    generalize l.getD n 0 = x at *
    unfold idsGo
    by_cases h0 : x < 0
    · rw [decide_eq_false (show ¬ idPrev l n < x by omega)]
      exact Ev.pos h0 (Ev.now _)
    · refine Ev.neg h0 ?_
      by_cases h1 : x ≥ 24
      · rw [decide_eq_false (show ¬ x < 24 by omega), Bool.and_false]
        exact Ev.pos h1 (Ev.now _)
      · refine Ev.neg h1 ?_
        rw [decide_eq_true (show x < 24 by omega), Bool.and_true]
        rcases Nat.eq_zero_or_pos n with hz | hpos
        · subst hz
          rw [show idPrev l 0 = -1 from rfl, decide_eq_true (show (-1 : Int) < x by omega)]
          exact Ev.neg (by omega) (next (by omega))
        · obtain ⟨m, rfl⟩ : ∃ m, n = m + 1 := ⟨n - 1, by omega⟩
          have hw : wrap64 (((m + 1 : Nat) : Int) - 1) = (m : Int) := by rw [w_small (by omega) (by omega)]; omega
          refine Ev.pos (by omega) ?_
          rw [hw]
          refine Ev.pos (by omega) (Ev.pos (by omega) ?_)
          have hr2 : rd l (m : Int) = l.getD m 0 := rfl
          rw [hr2, idPrev_succ]
          by_cases hc : x ≤ l.getD m 0
          · rw [decide_eq_false (show ¬ l.getD m 0 < x by omega)]
            exact Ev.pos hc (Ev.now _)
          · rw [decide_eq_true (show l.getD m 0 < x by omega)]
            exact Ev.neg hc (next (by omega))

theorem spec_OccOk_ev (o : S27) (hl : o.f2.length ≤ 9223372036854775806) : Ev (fun k => spec_OccOk.f k o.f0 o.f1 o.f2) (occOkB o) := by
  have bad : ∀ b : Bool, b = true → Ev (fun k => spec_OccOk.j0 k b o.f0 o.f1 o.f2) false := by
    intro b hb
    subst hb
    exact Ev.last (fun k => by simp only [spec_OccOk.j0]; rw [if_pos trivial])
  unfold spec_OccOk.f occOkB
  by_cases h0 : o.f0 < 1
  · rw [decide_eq_false (show ¬ 1 ≤ o.f0 by omega)]
    exact Ev.pos h0 (bad _ rfl)
  · rw [decide_eq_true (show 1 ≤ o.f0 by omega)]
    refine Ev.neg h0 ?_
    by_cases h1 : o.f1 < o.f0
    · rw [decide_eq_false (show ¬ o.f0 ≤ o.f1 by omega)]
      exact Ev.pos h1 (bad _ rfl)
    · rw [decide_eq_true (show o.f0 ≤ o.f1 by omega)]
      refine Ev.neg h1 ?_
      by_cases h2 : o.f1 > 2000
      · rw [decide_eq_false (show ¬ o.f1 ≤ 2000 by omega)]
        exact Ev.pos h2 (bad _ rfl)
      · rw [decide_eq_true (show o.f1 ≤ 2000 by omega)]
        refine Ev.neg h2 ?_
        by_cases h3 : (o.f2.length : Int) < 1
        · rw [decide_eq_false (show ¬ 1 ≤ o.f2.length by omega)]
          exact Ev.pos h3 (bad _ rfl)
        · rw [decide_eq_true (show 1 ≤ o.f2.length by omega)]
          refine Ev.neg h3 ?_
          by_cases h4 : (o.f2.length : Int) > 24
          · have : idsGo (-1) o.f2 = false := by
              rw [Bool.eq_false_iff]
              intro e
              have := idsGo_len o.f2 (-1) e (by omega)
              omega
            rw [this]
            exact bad _ (decide_eq_true h4)
          · rw [decide_eq_false h4]
            refine Ev.step (fun k => by simp only [spec_OccOk.j0]; rfl) ?_
            exact Ev.neg (by decide) (spec_OccOk_l0_ev o.f0 o.f1 o.f2 hl o.f2.length 0 (by omega) (by simp [idPrev]))

theorem impl_OccOk_l0_ev (o : S27) (l : List Int) (hl : l.length ≤ 9223372036854775806) : ∀ (d n : Nat) (p : Int), n + d = l.length → -1 ≤ p → p ≤ 23 → Ev (fun k => impl_OccOk.l0 k p l (l.length : Int) (n : Int) o.f0 o.f1 o.f2) (idsGo p (l.drop n) && (decide (1 ≤ o.f0) && (decide (o.f0 ≤ o.f1) && decide (o.f1 ≤ 2000) && decide (1 ≤ o.f2.length)))) := by
  intro d
  induction d with
  | zero =>
    intro n p hn h0 h1
    rw [List.drop_of_length_le (by omega), idsGo, Bool.true_and]
    refine Ev.last (fun k => ?_)
    simp only [impl_OccOk.l0, impl_in_is]
    rw [if_neg (by omega)]
    by_cases a : 1 ≤ o.f0
    · rw [if_pos a, decide_eq_true a]
      simp only [Option.bind_some]
      by_cases b : (decide (o.f0 ≤ o.f1) && decide (o.f1 ≤ 2000)) = true
      · rw [if_pos b, b]
        have e : ((o.f2.length : Int) ≥ 1) = (1 ≤ o.f2.length) := by rw [eq_iff_iff]; omega
        simp only [e, Bool.true_and]
      · rw [if_neg b]
        simp only [Bool.not_eq_true] at b
        rw [b]
        rfl
    · rw [if_neg a, decide_eq_false a]
      rfl
  | succ d ih =>
    intro n p hn h0 h1
    have hrd : rd l (n : Int) = l.getD n 0 := rfl
    rw [drop_at l 0 n (by omega)]
    have w1 : wrap64 (p + 1) = p + 1 := w_small (by omega) (by omega)
    refine Ev.step (fun k => by simp only [impl_OccOk.l0]; rw [if_pos (by omega), if_pos (by omega), if_pos (by omega), w_succ (by omega), hrd, w1, impl_in_is, Option.bind_some]) ?_
    have next := ih (n + 1) (l.getD n 0) (by omega)
    generalize l.getD n 0 = x at *
    unfold idsGo
    by_cases hc : p + 1 ≤ x ∧ x ≤ 23
    · rw [decide_eq_true (show p < x by omega), decide_eq_true (show x < 24 by omega), decide_eq_true hc.1, decide_eq_true hc.2]
      exact Ev.pos rfl (next (by omega) (by omega))
    · have e1 : (decide (p + 1 ≤ x) && decide (x ≤ 23)) = false := by
        rw [Bool.eq_false_iff]
        simp only [ne_eq, Bool.and_eq_true, decide_eq_true_eq]
        exact hc
      have e2 : (decide (p < x) && decide (x < 24)) = false := by
        rw [Bool.eq_false_iff]
        simp only [ne_eq, Bool.and_eq_true, decide_eq_true_eq]
        omega
      rw [e1, e2]
      exact Ev.neg (by decide) (Ev.now _)
theorem impl_OccOk_ev (o : S27) (hl : o.f2.length ≤ 9223372036854775806) : Ev (fun k => impl_OccOk.f k o.f0 o.f1 o.f2) (occOkB o) := by
  unfold impl_OccOk.f
  refine Ev.val (impl_OccOk_l0_ev o o.f2 hl o.f2.length 0 (-1) (by omega) (by omega) (by omega)) ?_
  rw [List.drop_zero, occOkB, Bool.and_comm]
  simp only [Bool.and_assoc]

theorem cmp_Compare_is (a b : Int) : cmp_Compare_int.f a b = some (if a < b then -1 else if a > b then 1 else 0) := by
  unfold cmp_Compare_int.f cmp_isNaN_int.f
  simp only [Option.bind_some, bne_self_eq_false]
  rw [if_neg (by decide), if_neg (by decide)]
  by_cases h : a < b
  · rw [if_pos h, if_pos h]
  · rw [if_neg h, if_neg h]
    by_cases h2 : a > b
    · rw [if_pos h2, if_pos h2]
    · rw [if_neg h2, if_neg h2]
theorem impl_Compare_l0_ev (a b : List Int) (ha : a.length ≤ 9223372036854775806) (hb : b.length ≤ 9223372036854775806) : ∀ d n : Nat, n + d = a.length → n ≤ b.length → Ev (fun k => slices_Compare_int_int.l0 k a b a (a.length : Int) (n : Int)) (cmpI (a.drop n) (b.drop n)) := by
  intro d
  induction d with
  | zero =>
    intro n hn hb'
    refine Ev.last (fun k => ?_)
    simp only [slices_Compare_int_int.l0]
    rw [if_neg (by omega), List.drop_of_length_le (show a.length ≤ n by omega)]
    rcases Nat.lt_or_ge n b.length with hlt | hge
    · rw [if_pos (by omega), List.drop_eq_getElem_cons hlt]
      rfl
    · rw [if_neg (by omega), List.drop_of_length_le hge]
      rfl
  | succ d ih =>
    intro n hn hb'
    have ra : rd a (n : Int) = a.getD n 0 := rfl
    have rb : rd b (n : Int) = b.getD n 0 := rfl
    refine Ev.step (fun k => by simp only [slices_Compare_int_int.l0]; rw [if_pos (by omega), if_pos (by omega), if_pos (by omega), w_succ (by omega), ra, rb, cmp_Compare_is]) ?_
    rcases Nat.lt_or_ge n b.length with hlt | hge
    · refine Ev.neg (by omega) (Ev.pos (by omega) ?_)
      rw [drop_at a 0 n (by omega), drop_at b 0 n (by omega)]
      have next := ih (n + 1) (by omega) (by omega)
      generalize a.getD n 0 = x at *
      generalize b.getD n 0 = y at *
      refine Ev.bind (Ev.now _) ?_
      unfold cmpI
      by_cases h1 : x < y
      · rw [if_pos h1, if_pos h1]
        exact Ev.neg (by decide) (Ev.now _)
      · rw [if_neg h1, if_neg h1]
        by_cases h2 : x > y
        · rw [if_pos h2, if_pos h2]
          exact Ev.neg (by decide) (Ev.now _)
        · rw [if_neg h2, if_neg h2]
          exact Ev.pos rfl next
    · refine Ev.pos (by omega) ?_
      rw [drop_at a 0 n (by omega), List.drop_of_length_le hge]
      exact Ev.now _
theorem impl_compare_ev (a b : S27) (ha : a.f2.length ≤ 9223372036854775806) (hb : b.f2.length ≤ 9223372036854775806) : Ev (fun k => impl_compare.f k a.f0 a.f1 a.f2 b.f0 b.f1 b.f2) (cmpO a b) := by
  unfold impl_compare.f cmpO impl_sign.f
  by_cases h1 : a.f1 = b.f1
  · rw [if_pos h1]
    refine Ev.pos h1 ?_
    by_cases h2 : a.f0 = b.f0
    · rw [if_pos h2]
      exact Ev.pos h2 (Ev.bindS (impl_Compare_l0_ev a.f2 b.f2 ha hb a.f2.length 0 (by omega) (by omega)) rfl)
    · rw [if_neg h2]
      refine Ev.neg h2 (Ev.one (fun _ => ?_))
      by_cases h3 : a.f0 < b.f0 <;> simp [h3, sgn]
  · rw [if_neg h1]
    refine Ev.neg h1 (Ev.one (fun _ => ?_))
    by_cases h3 : a.f1 < b.f1 <;> simp [h3, sgn]
theorem impl_OccLess_ev (a b : S27) (ha : a.f2.length ≤ 9223372036854775806) (hb : b.f2.length ≤ 9223372036854775806) : Ev (fun k => impl_OccLess.f k a.f0 a.f1 a.f2 b.f0 b.f1 b.f2) (lessO a b) := by
  unfold impl_OccLess.f
  exact Ev.bindS (impl_compare_ev a b ha hb) rfl

def occsGo : Option S27 → List S27 → Bool
  | _, [] => true
  | none, x :: xs => occOkB x && occsGo (some x) xs
  | some p, x :: xs => occOkB x && (lessO p x && occsGo (some x) xs)
def occsOkB (l : List S27) : Bool := occsGo none l && decide (l.length ≤ 40)
def occPrev (l : List S27) (n : Nat) : Option S27 := if n = 0 then none else some (l.getD (n - 1) z27)
def Short (l : List S27) : Prop := ∀ x ∈ l, x.f2.length ≤ 9223372036854775806
theorem Short.at_ {l : List S27} (h : Short l) (n : Nat) : (l.getD n z27).f2.length ≤ 9223372036854775806 := by
  rw [List.getD_eq_getElem?_getD]
  rcases Nat.lt_or_ge n l.length with hn | hn
  · rw [List.getElem?_eq_getElem hn]
    exact h _ (List.getElem_mem hn)
  · rw [List.getElem?_eq_none hn]
    show (z27).f2.length ≤ _
    simp [z27]
theorem occPrev_succ (l : List S27) (n : Nat) : occPrev l (n + 1) = some (l.getD n z27) := by simp [occPrev]

theorem spec_OccsOk_l0_ev (l : List S27) (hl : l.length ≤ 9223372036854775806) (hs : Short l) : ∀ d n : Nat, n + d = l.length → Ev (fun k => spec_OccsOk.l0 k l (n : Int)) (occsGo (occPrev l n) (l.drop n)) := by
  intro d
  induction d with
  | zero =>
    intro n hn
    rw [List.drop_of_length_le (by omega)]
    exact Ev.last (fun k => by simp only [spec_OccsOk.l0]; rw [if_neg (by omega)]; cases occPrev l n <;> rfl)
  | succ d ih =>
    intro n hn
    have hrd : rd_T27 l (n : Int) = l.getD n z27 := rfl
    have hx := hs.at_ n
    rw [drop_at l z27 n (by omega)]
    refine Ev.step (fun k => by simp only [spec_OccsOk.l0]; rw [if_pos (by omega), if_pos (by omega), w_succ (by omega), hrd]) ?_
    have next := ih (n + 1) (by omega)
    rw [occPrev_succ] at next
    generalize l.getD n z27 = x at *
    refine Ev.bind (spec_OccOk_ev x hx) ?_
    rcases Nat.eq_zero_or_pos n with hz | hpos
    · subst hz
      rw [show occPrev l 0 = none from rfl, occsGo]
      by_cases hk : occOkB x = true
      · rw [hk]
        exact Ev.pos rfl (Ev.neg (by omega) next)
      · refine Ev.neg hk ?_
        simp only [Bool.not_eq_true] at hk
        rw [hk]
        exact Ev.now _
    · obtain ⟨m, rfl⟩ : ∃ m, n = m + 1 := ⟨n - 1, by omega⟩
      have hw : wrap64 (((m + 1 : Nat) : Int) - 1) = (m : Int) := by rw [w_small (by omega) (by omega)]; omega
      have hr2 : rd_T27 l (m : Int) = l.getD m z27 := rfl
      rw [occPrev_succ, occsGo, hw, hr2]
      by_cases hk : occOkB x = true
      · rw [hk]
        refine Ev.pos rfl (Ev.pos (by omega) (Ev.pos (by omega) (Ev.pos (by omega) (Ev.bind (spec_OccLess_ev _ x (hs.at_ m) hx) ?_))))
        by_cases hls : lessO (l.getD m z27) x = true
        · rw [hls]
          exact Ev.pos rfl next
        · refine Ev.neg hls ?_
          simp only [Bool.not_eq_true] at hls
          rw [hls]
          exact Ev.now _
      · refine Ev.neg hk ?_
        simp only [Bool.not_eq_true] at hk
        rw [hk]
        exact Ev.now _
theorem spec_OccsOk_ev (l : List S27) (hl : l.length ≤ 9223372036854775806) (hs : Short l) : Ev (fun k => spec_OccsOk.f k l) (occsOkB l) := by
  unfold spec_OccsOk.f occsOkB
  by_cases h : (l.length : Int) > 40
  · refine Ev.pos h ?_
    rw [decide_eq_false (by omega), Bool.and_false]
    exact Ev.now _
  · refine Ev.neg h ?_
    rw [decide_eq_true (by omega), Bool.and_true]
    exact spec_OccsOk_l0_ev l hl hs l.length 0 (by omega)

theorem impl_OccsOk_l0_ev (l : List S27) (hl : l.length ≤ 9223372036854775806) (hs : Short l) : ∀ d n : Nat, n + d = l.length → Ev (fun k => impl_OccsOk.l0 k l l (l.length : Int) (n : Int)) (occsGo (occPrev l n) (l.drop n) && decide (l.length ≤ 40)) := by
  intro d
  induction d with
  | zero =>
    intro n hn
    rw [List.drop_of_length_le (by omega)]
    refine Ev.last (fun k => ?_)
    simp only [impl_OccsOk.l0]
    rw [if_neg (by omega)]
    have e : ((l.length : Int) ≤ 40) = (l.length ≤ 40) := by rw [eq_iff_iff]; omega
    simp only [e]
    cases occPrev l n <;> rfl
  | succ d ih =>
    intro n hn
    have hrd : rd_T27 l (n : Int) = l.getD n z27 := rfl
    have hx := hs.at_ n
    rw [drop_at l z27 n (by omega)]
    refine Ev.step (fun k => by simp only [impl_OccsOk.l0]; rw [if_pos (by omega), if_pos (by omega), if_pos (by omega), w_succ (by omega), hrd]) ?_
    have next := ih (n + 1) (by omega)
    rw [occPrev_succ] at next
    generalize l.getD n z27 = x at *
    refine Ev.bind (impl_OccOk_ev x hx) ?_
    rcases Nat.eq_zero_or_pos n with hz | hpos
    · subst hz
      rw [show occPrev l 0 = none from rfl, occsGo]
      by_cases hk : occOkB x = true
      · rw [hk]
        exact Ev.pos rfl (Ev.neg (by omega) next)
      · refine Ev.neg hk ?_
        simp only [Bool.not_eq_true] at hk
        rw [hk]
        exact Ev.now _
    · obtain ⟨m, rfl⟩ : ∃ m, n = m + 1 := ⟨n - 1, by omega⟩
      have hw : wrap64 (((m + 1 : Nat) : Int) - 1) = (m : Int) := by rw [w_small (by omega) (by omega)]; omega
      have hr2 : rd_T27 l (m : Int) = l.getD m z27 := rfl
      rw [occPrev_succ, occsGo, hw, hr2]
      by_cases hk : occOkB x = true
      · rw [hk]
        refine Ev.pos rfl (Ev.pos (by omega) (Ev.pos (by omega) (Ev.pos (by omega) (Ev.bind (impl_OccLess_ev _ x (hs.at_ m) hx) ?_))))
        by_cases hls : lessO (l.getD m z27) x = true
        · rw [hls]
          exact Ev.pos rfl next
        · refine Ev.neg hls ?_
          simp only [Bool.not_eq_true] at hls
          rw [hls]
          exact Ev.now _
      · refine Ev.neg hk ?_
        simp only [Bool.not_eq_true] at hk
        rw [hk]
        exact Ev.now _
theorem impl_OccsOk_ev (l : List S27) (hl : l.length ≤ 9223372036854775806) (hs : Short l) : Ev (fun k => impl_OccsOk.f k l) (occsOkB l) := impl_OccsOk_l0_ev l hl hs l.length 0 (by omega)
end Go.Proofs.Ytiplpckgmikmeaa.M
namespace Go.Proofs.Ytiplpckgmikmeaa.M
open Go.RowKit Go.Proofs.YtiplpckgmikmeaaW.PrintWords Go.Proofs.YtiplpckgmikmeaaW.PrintLast Go.Proofs.YtiplpckgmikmeaaW.PrintMore
attribute [local go_sem] max2_int min2_int max_two min_two max_three min_three max_four min_four
set_option linter.unusedVariables false
set_option linter.unusedSimpArgs false

end Go.Proofs.Ytiplpckgmikmeaa.M
namespace Go.Proofs.Ytiplpckgmikmeaa.M
open Go.RowKit Go.Proofs.YtiplpckgmikmeaaW.PrintWords Go.Proofs.YtiplpckgmikmeaaW.PrintLast Go.Proofs.YtiplpckgmikmeaaW.PrintMore
attribute [local go_sem] max2_int min2_int max_two min_two max_three min_three max_four min_four
set_option linter.unusedVariables false
set_option linter.unusedSimpArgs false

end Go.Proofs.Ytiplpckgmikmeaa.M
namespace Go.Proofs.Ytiplpckgmikmeaa.M
open Go.RowKit Go.Proofs.YtiplpckgmikmeaaW.PrintWords Go.Proofs.YtiplpckgmikmeaaW.PrintLast Go.Proofs.YtiplpckgmikmeaaW.PrintMore
attribute [local go_sem] max2_int min2_int max_two min_two max_three min_three max_four min_four
set_option linter.unusedVariables false
set_option linter.unusedSimpArgs false

end Go.Proofs.Ytiplpckgmikmeaa.M
namespace Go.Proofs.Ytiplpckgmikmeaa.M
set_option linter.unusedVariables false
set_option linter.unusedSimpArgs false
open Go.RowKit Go.Proofs.YtiplpckgmikmeaaW.PrintWords Go.Proofs.YtiplpckgmikmeaaW.PrintLast

end Go.Proofs.Ytiplpckgmikmeaa.M
namespace Go.Proofs.Ytiplpckgmikmeaa.M
set_option linter.unusedVariables false
set_option linter.unusedSimpArgs false
open Go.RowKit Go.Proofs.YtiplpckgmikmeaaW.PrintWords Go.Proofs.YtiplpckgmikmeaaW.PrintLast

theorem maxLen_le {n : Nat} (h : n ≤ maxLen) : n ≤ 9223372036854775807 := by unfold maxLen at h; omega
theorem getD_in {α : Type} {l : List α} {z : α} {n : Nat} (h : n < l.length) : l.getD n z = l[n] := by
  rw [List.getD_eq_getElem?_getD, List.getElem?_eq_getElem h]
  rfl

end Go.Proofs.Ytiplpckgmikmeaa.M
namespace Go.Proofs.Ytiplpckgmikmeaa.M
open Go.RowKit Go.Proofs.YtiplpckgmikmeaaW.PrintWords Go.Proofs.YtiplpckgmikmeaaW.PrintLast Go.Proofs.YtiplpckgmikmeaaW.PrintMore
attribute [local go_sem] max2_int min2_int max_two min_two max_three min_three max_four min_four
set_option linter.unusedVariables false
set_option linter.unusedSimpArgs false

end Go.Proofs.Ytiplpckgmikmeaa.M
namespace Go.Proofs.Ytiplpckgmikmeaa.M
open Go.RowKit Go.Proofs.YtiplpckgmikmeaaW.PrintWords Go.Proofs.YtiplpckgmikmeaaW.PrintLast Go.Proofs.YtiplpckgmikmeaaW.PrintMore
attribute [local go_sem] max2_int min2_int max_two min_two max_three min_three max_four min_four
set_option linter.unusedVariables false
set_option linter.unusedSimpArgs false

end Go.Proofs.Ytiplpckgmikmeaa.M
namespace Go.Proofs.Ytiplpckgmikmeaa.M
open Go.RowKit Go.Proofs.YtiplpckgmikmeaaW.PrintWords Go.Proofs.YtiplpckgmikmeaaW.PrintLast Go.Proofs.YtiplpckgmikmeaaW.PrintMore
attribute [local go_sem] max2_int min2_int max_two min_two max_three min_three max_four min_four
set_option linter.unusedVariables false
set_option linter.unusedSimpArgs false

end Go.Proofs.Ytiplpckgmikmeaa.M
namespace Go.Proofs.Ytiplpckgmikmeaa.M
open Go.RowKit Go.Proofs.YtiplpckgmikmeaaW.PrintWords Go.Proofs.YtiplpckgmikmeaaW.PrintLast Go.Proofs.YtiplpckgmikmeaaW.PrintMore
attribute [local go_sem] max2_int min2_int max_two min_two max_three min_three max_four min_four
set_option linter.unusedVariables false
set_option linter.unusedSimpArgs false

end Go.Proofs.Ytiplpckgmikmeaa.M
namespace Go.Proofs.Ytiplpckgmikmeaa.M
open Go.RowKit Go.Proofs.YtiplpckgmikmeaaW.PrintWords Go.Proofs.YtiplpckgmikmeaaW.PrintLast Go.Proofs.YtiplpckgmikmeaaW.PrintMore
attribute [local go_sem] max2_int min2_int max_two min_two max_three min_three max_four min_four
set_option linter.unusedVariables false
set_option linter.unusedSimpArgs false

end Go.Proofs.Ytiplpckgmikmeaa.M
namespace Go.Proofs.Ytiplpckgmikmeaa.M
open Go.RowKit Go.Proofs.YtiplpckgmikmeaaW.PrintWords Go.Proofs.YtiplpckgmikmeaaW.PrintLast Go.Proofs.YtiplpckgmikmeaaW.PrintMore
attribute [local go_sem] max2_int min2_int max_two min_two max_three min_three max_four min_four
set_option linter.unusedVariables false
set_option linter.unusedSimpArgs false

end Go.Proofs.Ytiplpckgmikmeaa.M
namespace Go.Proofs.Ytiplpckgmikmeaa.M
open Go.RowKit Go.Proofs.YtiplpckgmikmeaaW.PrintWords Go.Proofs.YtiplpckgmikmeaaW.PrintLast Go.Proofs.YtiplpckgmikmeaaW.PrintMore
attribute [local go_sem] max2_int min2_int max_two min_two max_three min_three max_four min_four
set_option linter.unusedVariables false
set_option linter.unusedSimpArgs false

end Go.Proofs.Ytiplpckgmikmeaa.M
namespace Go.Proofs.Ytiplpckgmikmeaa.M
set_option linter.unusedVariables false
set_option linter.unusedSimpArgs false
open Go.RowKit Go.Proofs.YtiplpckgmikmeaaW.PrintWords Go.Proofs.YtiplpckgmikmeaaW.PrintLast

def ShortL (l : List S24) : Prop := ∀ x ∈ l, x.f2.length ≤ 9223372036854775807
theorem ShortL.at_ {l : List S24} (h : ShortL l) (n : Nat) : (l.getD n z24).f2.length ≤ 9223372036854775807 := by
  rw [List.getD_eq_getElem?_getD]
  rcases Nat.lt_or_ge n l.length with hn | hn
  · rw [List.getElem?_eq_getElem hn]
    exact h _ (List.getElem_mem hn)
  · rw [List.getElem?_eq_none hn]
    show (z24).f2.length ≤ _
    simp [z24]
theorem cmpI_eq : ∀ a b : List Int, cmpI a b = 0 ↔ a = b
  | [], [] => by simp [cmpI]
  | [], _ :: _ => by simp [cmpI]
  | _ :: _, [] => by simp [cmpI]
  | a :: xs, b :: ys => by
    unfold cmpI
    by_cases h1 : a < b
    · rw [if_pos h1]
      constructor
      · intro h; exact absurd h (by decide)
      · intro h; injection h with h _; omega
    · rw [if_neg h1]
      by_cases h2 : a > b
      · rw [if_pos h2]
        constructor
        · intro h; exact absurd h (by decide)
        · intro h; injection h with h _; omega
      · rw [if_neg h2, cmpI_eq xs ys]
        have : a = b := by omega
        subst this
        simp
theorem sgn_ne (b : Bool) : sgn b ≠ 0 := by cases b <;> decide
theorem cmpO_eq (a b : S27) : cmpO a b = 0 ↔ a = b := by
  obtain ⟨a0, a1, a2⟩ := a
  obtain ⟨b0, b1, b2⟩ := b
  unfold cmpO
  dsimp only
  by_cases h1 : a1 = b1
  · rw [if_pos h1]
    by_cases h0 : a0 = b0
    · rw [if_pos h0, cmpI_eq]
      subst h1
      subst h0
      simp
    · rw [if_neg h0]
      constructor
      · intro h; exact absurd h (sgn_ne _)
      · intro h; injection h with h _ _; exact absurd h h0
  · rw [if_neg h1]
    constructor
    · intro h; exact absurd h (sgn_ne _)
    · intro h; injection h with _ h _; exact absurd h h1
def occsEq : List S27 → List S27 → Bool
  | [], [] => true
  | x :: xs, y :: ys => (cmpO x y == 0) && occsEq xs ys
  | _, _ => false
theorem occsEq_iff : ∀ a b : List S27, occsEq a b = true ↔ a = b
  | [], [] => by simp [occsEq]
  | [], _ :: _ => by simp [occsEq]
  | _ :: _, [] => by simp [occsEq]
  | x :: xs, y :: ys => by
    unfold occsEq
    rw [Bool.and_eq_true, occsEq_iff xs ys, beq_iff_eq, cmpO_eq]
    simp
theorem occsEq_self (a : List S27) : occsEq a a = true := (occsEq_iff a a).2 rfl
theorem occsEq_len (a b : List S27) (h : a.length ≠ b.length) : occsEq a b = false := by
  rw [Bool.eq_false_iff]
  intro e
  exact h (by rw [(occsEq_iff a b).1 e])

theorem l3Same_ev (a b : S27) (ha : a.f2.length ≤ 9223372036854775806) (hb : b.f2.length ≤ 9223372036854775806) : Ev (fun k => spec_l3Same.f k a.f0 a.f1 a.f2 b.f0 b.f1 b.f2) (cmpO a b == 0) := by
  have no : a ≠ b → (cmpO a b == 0) = false := fun h => beq_eq_false_iff_ne.2 (fun e => h ((cmpO_eq a b).1 e))
  unfold spec_l3Same.f
  by_cases h0 : a.f0 = b.f0
  · refine Ev.pos h0 ?_
    by_cases h1 : a.f1 = b.f1
    · refine Ev.pos h1 ?_
      by_cases h2 : (a.f2.length : Int) = (b.f2.length : Int)
      · refine Ev.pos h2 (Ev.bindS (l3Ids_ev _ _ ha hb) ?_)
        unfold cmpO
        rw [if_pos h1, if_pos h0]
      · rw [no (fun e => h2 (by rw [e]))]
        exact Ev.neg h2 (Ev.now _)
    · rw [no (fun e => h1 (by rw [e]))]
      exact Ev.neg h1 (Ev.now _)
  · rw [no (fun e => h0 (by rw [e]))]
    exact Ev.neg h0 (Ev.now _)
theorem impl_EqualFunc_l0_ev (a b : List S27) (hl : a.length ≤ 9223372036854775806) (ha : Short a) (hb : Short b) (hab : a.length = b.length) : ∀ d n : Nat, n + d = a.length → Ev (fun k => impl_Occ_69.l0 k b a (a.length : Int) (n : Int)) (occsEq (a.drop n) (b.drop n)) := by
  intro d
  induction d with
  | zero =>
    intro n hn
    rw [List.drop_of_length_le (by omega), List.drop_of_length_le (by omega)]
    exact Ev.last (fun k => by simp only [impl_Occ_69.l0]; rw [if_neg (by omega)]; rfl)
  | succ d ih =>
    intro n hn
    have hra : rd_T27 a (n : Int) = a.getD n z27 := rfl
    have hrb : rd_T27 b (n : Int) = b.getD n z27 := rfl
    have hx := ha.at_ n
    have hy := hb.at_ n
    rw [drop_at a z27 n (by omega), drop_at b z27 n (by omega)]
    have next := ih (n + 1) (by omega)
    refine Ev.step (fun k => by simp only [impl_Occ_69.l0, impl_OccsSame_1.f]; rw [if_pos (by omega), if_pos (by omega), if_pos (by omega), if_pos (by omega), hra, hrb, w_succ (by omega)]) ?_
    generalize a.getD n z27 = x at *
    generalize b.getD n z27 = y at *
    refine Ev.bind (a := cmpO x y == 0) (Ev.bindS (impl_compare_ev x y hx hy) rfl) ?_
    unfold occsEq
    by_cases h : (cmpO x y == 0) = true
    · rw [h]
      exact Ev.pos rfl next
    · refine Ev.neg h ?_
      simp only [Bool.not_eq_true] at h
      rw [h]
      exact Ev.now _
theorem impl_OccsSame_ev (a b : List S27) (hl : a.length ≤ 9223372036854775806) (ha : Short a) (hb : Short b) : Ev (fun k => impl_OccsSame.f k a b) (occsEq a b) := by
  unfold impl_OccsSame.f impl_Occ_69.f
  refine Ev.bindS (a := occsEq a b) ?_ rfl
  by_cases h : a.length = b.length
  · exact Ev.pos (by omega) (impl_EqualFunc_l0_ev a b hl ha hb h a.length 0 (by omega))
  · rw [occsEq_len a b h]
    exact Ev.neg (by omega) (Ev.now _)
end Go.Proofs.Ytiplpckgmikmeaa.M
namespace Go.Proofs.Ytiplpckgmikmeaa.M
set_option linter.unusedVariables false
set_option linter.unusedSimpArgs false
open Go.RowKit Go.Proofs.YtiplpckgmikmeaaW.PrintWords Go.Proofs.YtiplpckgmikmeaaW.PrintLast

theorem l3Any_l0_ev (bs : List Int) (hb : Bytes bs) (a b : Int) : ∀ (d : Nat) (ids : List Int) (x i p : Int), i = d → ids.length + d ≤ 100 → 0 ≤ p → p + d ≤ 100000 → ∃ ids', Ev (fun k => spec_l3Any.l0 k x i bs p a b ids) (a, b, ids', p + d) ∧ ids'.length = ids.length + d := by
  intro d
  induction d with
  | zero =>
    intro ids x i p hi hl h0 h1
    refine ⟨ids, Ev.last (fun k => ?_), by omega⟩
    simp only [spec_l3Any.l0]
    rw [if_neg (by omega)]
    simp
  | succ d ih =>
    intro ids x i p hi hl h0 h1
    obtain ⟨r, hr, _, _⟩ := pick_ev bs hb p 3 h0 (by omega)
    have w1 : wrap64 (i - 1) = i - 1 := w_small (by omega) (by omega)
    obtain ⟨ids', h2, h3⟩ := ih (ids ++ [x]) (wrap64 (wrap64 (x + 1) + r)) (i - 1) (p + 1) (by omega) (by rw [List.length_append, List.length_singleton]; omega) (by omega) (by omega)
    refine ⟨ids', ?_, by rw [h3, List.length_append, List.length_singleton]; omega⟩
    refine Ev.step (fun k => by simp only [spec_l3Any.l0]; rw [if_pos (by omega), if_pos (by omega), w1]) ?_
    exact Ev.bind hr (Ev.val h2 (by rw [show p + 1 + (d : Int) = p + ((d + 1 : Nat) : Int) by omega]))
theorem l3Any_ev (bs : List Int) (hb : Bytes bs) (p : Int) (h0 : 0 ≤ p) (h1 : p ≤ 90000) : ∃ (o : S27) (p' : Int), Ev (fun k => spec_l3Any.f k bs p) (o.f0, o.f1, o.f2, p') ∧ o.f2.length ≤ 10 ∧ 0 ≤ p' ∧ p' ≤ p + 10 := by
  obtain ⟨a, ha, _, _⟩ := pick_ev bs hb p 9 h0 (by omega)
  obtain ⟨n, hn, _⟩ := num_ev bs hb (p + 1) [0, 0, 1, 2, 5] (by simp) (by simp) (by omega) (by omega)
  obtain ⟨x, hx, _, _⟩ := pick_ev bs hb (p + 1 + 1) 3 (by omega) (by omega)
  obtain ⟨m, hm, m0, m1⟩ := pick_ev bs hb (p + 1 + 1 + 1) 3 (by omega) (by omega)
  have w1 : wrap64 (1 + m) = 1 + m := w_small (by omega) (by omega)
  obtain ⟨ids, h2, h3⟩ := l3Any_l0_ev bs hb (wrap64 (1 + a)) (wrap64 (wrap64 (1 + a) + n)) (1 + m).toNat [] x (1 + m) (p + 1 + 1 + 1 + 1) (by omega) (by simp; omega) (by omega) (by omega)
  refine ⟨⟨wrap64 (1 + a), wrap64 (wrap64 (1 + a) + n), ids⟩, p + 1 + 1 + 1 + 1 + ((1 + m).toNat : Int), ?_, by show ids.length ≤ 10; rw [h3]; simp; omega, by omega, by omega⟩
  unfold spec_l3Any.f
  exact Ev.bind ha (Ev.bind hn (Ev.bind hx (Ev.bind hm (by rw [w1]; exact h2))))
def putIx (l : List S27) (o : S27) : Nat → Nat → Nat
  | 0, i => i
  | d + 1, i => if lessO (l.getD i z27) o = true then putIx l o d (i + 1) else i
def putS (l : List S27) (o : S27) : List S27 := if putIx l o l.length 0 < l.length ∧ (cmpO (l.getD (putIx l o l.length 0) z27) o == 0) = true then l else putIn l (putIx l o l.length 0) o
theorem putAt_ev (l : List S27) (hs : Short l) (o : S27) (ho : o.f2.length ≤ 9223372036854775806) : ∀ d i : Nat, Ev (fun k => putAt (fun x => spec_OccLess.f k x.f0 x.f1 x.f2 o.f0 o.f1 o.f2) l d i) (putIx l o d i) := by
  intro d
  induction d with
  | zero => exact fun i => Ev.now _
  | succ d ih =>
    intro i
    unfold putIx
    refine Ev.bind (spec_OccLess_ev (l.getD i z27) o (hs.at_ i) ho) ?_
    by_cases c : lessO (l.getD i z27) o = true
    · rw [if_pos c]; exact Ev.pos c (ih (i + 1))
    · rw [if_neg c]; exact Ev.neg c (Ev.now _)
theorem l3Put_ev (l : List S27) (hl : l.length < 1099511627776) (hs : Short l) (o : S27) (ho : o.f2.length < 1099511627776) : Ev (fun k => spec_l3Put.f k l o.f0 o.f1 o.f2) (putS l o) := by
  unfold spec_l3Put.f
  refine Ev.pos ⟨hl, ho⟩ (Ev.bind (putAt_ev l hs o (by omega) l.length 0) ?_)
  unfold putS
  by_cases c : putIx l o l.length 0 < l.length
  · refine Ev.pos c (Ev.bindS (l3Same_ev (l.getD (putIx l o l.length 0) z27) o (hs.at_ _) (by omega)) ?_)
    by_cases e : (cmpO (l.getD (putIx l o l.length 0) z27) o == 0) = true
    · rw [if_pos e, if_pos ⟨c, e⟩]
    · rw [if_neg e, if_neg (fun h => e h.2)]
  · refine Ev.neg c (Ev.val (Ev.now _) ?_)
    rw [if_neg (fun h => c h.1)]
theorem putS_len (l : List S27) (o : S27) : (putS l o).length ≤ l.length + 1 := by
  unfold putS
  by_cases c : putIx l o l.length 0 < l.length ∧ (cmpO (l.getD (putIx l o l.length 0) z27) o == 0) = true
  · rw [if_pos c]; omega
  · rw [if_neg c]
    unfold putIn
    rw [List.length_append, List.length_append, List.length_take, List.length_drop, List.length_singleton]
    omega
theorem putS_mem {l : List S27} {o x : S27} (h : x ∈ putS l o) : x ∈ l ∨ x = o := by
  unfold putS at h
  by_cases c : putIx l o l.length 0 < l.length ∧ (cmpO (l.getD (putIx l o l.length 0) z27) o == 0) = true
  · rw [if_pos c] at h; exact .inl h
  · rw [if_neg c] at h
    unfold putIn at h
    rcases List.mem_append.1 h with h | h
    · rcases List.mem_append.1 h with h | h
      · exact .inl (List.mem_of_mem_take h)
      · exact .inr (List.mem_singleton.1 h)
    · exact .inl (List.mem_of_mem_drop h)
def Few (l : List S27) : Prop := ∀ x ∈ l, x.f2.length ≤ 100
theorem Few.short {l : List S27} (h : Few l) : Short l := fun x hx => Nat.le_trans (h x hx) (by omega)
theorem Few.put {l : List S27} (h : Few l) {o : S27} (ho : o.f2.length ≤ 100) : Few (putS l o) := fun x hx => (putS_mem hx).elim (h x) (fun e => by rw [e]; exact ho)
theorem Few.at_ {l : List S27} (h : Few l) (i : Int) : (rd_T27 l i).f2.length ≤ 100 := by
  show (l.getD i.toNat z27).f2.length ≤ 100
  rw [List.getD_eq_getElem?_getD]
  rcases Nat.lt_or_ge i.toNat l.length with hi | hi
  · rw [List.getElem?_eq_getElem hi]
    exact h _ (List.getElem_mem hi)
  · rw [List.getElem?_eq_none hi]
    decide
theorem Few.set {l : List S27} (h : Few l) (i : Nat) {o : S27} (ho : o.f2.length ≤ 100) : Few (l.set i o) := fun x hx => by
  rcases List.mem_or_eq_of_mem_set hx with hx | hx
  · exact h x hx
  · rw [hx]; exact ho
theorem l3Some_l0_ev (bs : List Int) (hb : Bytes bs) : ∀ (d : Nat) (out : List S27) (i p : Int), i = d → out.length + d ≤ 500 → Few out → 0 ≤ p → p + 10 * d ≤ 80000 →
    ∃ l p', Ev (fun k => spec_l3Some.l0 k bs i out p) (l, p') ∧ l.length ≤ out.length + d ∧ Few l ∧ 0 ≤ p' ∧ p' ≤ p + 10 * d := by
  intro d
  induction d with
  | zero =>
    intro out i p hi ho hf h0 h1
    refine ⟨out, p, Ev.last (fun k => ?_), by omega, hf, h0, by omega⟩
    simp only [spec_l3Some.l0]
    rw [if_neg (by omega)]
  | succ d ih =>
    intro out i p hi ho hf h0 h1
    obtain ⟨o, p1, h2, h3, h4, h5⟩ := l3Any_ev bs hb p h0 (by omega)
    have w1 : wrap64 (i - 1) = i - 1 := w_small (by omega) (by omega)
    have hp := putS_len out o
    obtain ⟨l, p2, h6, h7, h8, h9, h10⟩ := ih (putS out o) (i - 1) p1 (by omega) (by omega) (hf.put (by omega)) h4 (by omega)
    refine ⟨l, p2, ?_, by omega, h8, h9, by omega⟩
    refine Ev.step (fun k => by simp only [spec_l3Some.l0]; rw [if_pos (by omega), w1]) ?_
    exact Ev.bind h2 (Ev.bind (l3Put_ev out (by omega) hf.short o (by omega)) h6)
theorem l3Some_ev (bs : List Int) (hb : Bytes bs) (p most : Int) (h0 : 0 ≤ p) (h1 : p ≤ 50000) (hm : 0 ≤ most) (hm2 : most ≤ 100) :
    ∃ l p', Ev (fun k => spec_l3Some.f k bs p most) (l, p') ∧ (l.length : Int) ≤ most ∧ Few l ∧ 0 ≤ p' ∧ p' ≤ p + 1 + 10 * most := by
  have w1 : wrap64 (most + 1) = most + 1 := w_small (by omega) (by omega)
  obtain ⟨r, hr, h2, h3⟩ := pick_ev bs hb p (most + 1) h0 (by omega)
  obtain ⟨l, p', h4, h5, h6, h7, h8⟩ := l3Some_l0_ev bs hb r.toNat [] r (p + 1) (by omega) (by simp; omega) (fun x hx => by simp at hx) (by omega) (by omega)
  refine ⟨l, p', ?_, by simp at h5; omega, h6, h7, by omega⟩
  unfold spec_l3Some.f
  rw [w1]
  exact Ev.bind hr h4
theorem r0Ids_ev (bs : List Int) (hb : Bytes bs) (p : Int) (h0 : 0 ≤ p) (h1 : p ≤ 90000) : ∃ ids, Ev (fun k => spec_r0Ids.f k bs p) (ids, p + 1) ∧ ids.length ≤ 100 := by
  obtain ⟨r, hr, _, _⟩ := pick_ev bs hb p 3 h0 (by omega)
  unfold spec_r0Ids.f
  by_cases c : r = 0
  · exact ⟨[], Ev.bind hr (Ev.pos c (Ev.now _)), by simp⟩
  · by_cases c1 : r = 1
    · exact ⟨[2, 2], Ev.bind hr (Ev.neg c (Ev.pos c1 (Ev.now _))), by simp⟩
    · exact ⟨[24], Ev.bind hr (Ev.neg c (Ev.neg c1 (Ev.now _))), by simp⟩
theorem l3Bent_ev (bs : List Int) (hb : Bytes bs) (p : Int) (h0 : 0 ≤ p) (h1 : p ≤ 40000) : ∃ l p', Ev (fun k => spec_l3Bent.f k bs p) (l, p') ∧ l.length ≤ 7 ∧ Few l ∧ 0 ≤ p' ∧ p' ≤ p + 100 := by
  obtain ⟨l, p1, h2, h3, h4, h5, h6⟩ := l3Some_ev bs hb p 6 h0 (by omega) (by omega) (by omega)
  unfold spec_l3Bent.f
  by_cases c : (l.length : Int) = 0
  · exact ⟨l, p1, Ev.bind h2 (Ev.pos c (Ev.now _)), by omega, h4, h5, by omega⟩
  obtain ⟨k, hk, k0, k1⟩ := pick_ev bs hb p1 (l.length : Int) h5 (by omega)
  obtain ⟨s, hs, _, _⟩ := pick_ev bs hb (p1 + 1) 40 (by omega) (by omega)
  have hklt : k < (l.length : Int) := by omega
  by_cases s0 : s = 0
  · obtain ⟨v, hv, _⟩ := num_ev bs hb (p1 + 1 + 1) [0, wrap64 ((rd_T27 l k).f1 + 1)] (by simp) (by simp) (by omega) (by omega)
    exact ⟨_, _, Ev.bind h2 (Ev.neg c (Ev.bind hk (Ev.bind hs (Ev.pos s0 (Ev.pos k0 (Ev.pos hklt (Ev.bindS hv rfl))))))), by rw [List.length_set]; show l.length ≤ 7; omega, h4.set _ (h4.at_ _), by omega, by omega⟩
  by_cases s1 : s = 1
  · obtain ⟨ids, hv, hi⟩ := r0Ids_ev bs hb (p1 + 1 + 1) (by omega) (by omega)
    exact ⟨_, _, Ev.bind h2 (Ev.neg c (Ev.bind hk (Ev.bind hs (Ev.neg s0 (Ev.pos s1 (Ev.bind hv (Ev.pos k0 (Ev.pos hklt (Ev.now _))))))))), by rw [List.length_set]; show l.length ≤ 7; omega, h4.set _ hi, by omega, by omega⟩
  by_cases s2 : s = 2
  · exact ⟨_, _, Ev.bind h2 (Ev.neg c (Ev.bind hk (Ev.bind hs (Ev.neg s0 (Ev.neg s1 (Ev.pos s2 (Ev.pos (by show 0 < (l.length : Int); omega) (Ev.pos (by show l.length < _; omega) (Ev.now _))))))))), by rw [List.length_append, List.length_singleton]; show l.length + 1 ≤ 7; omega, fun x hx => by
      rcases List.mem_append.1 hx with hx | hx
      · exact h4 x hx
      · rw [List.mem_singleton.1 hx]; exact h4.at_ 0, by omega, by omega⟩
  by_cases s3 : s = 3
  · exact ⟨_, _, Ev.bind h2 (Ev.neg c (Ev.bind hk (Ev.bind hs (Ev.neg s0 (Ev.neg s1 (Ev.neg s2 (Ev.pos s3 (Ev.pos k0 (Ev.pos hklt (Ev.now _)))))))))), by rw [List.length_set]; show l.length ≤ 7; omega, h4.set _ (h4.at_ _), by omega, by omega⟩
  · exact ⟨_, _, Ev.bind h2 (Ev.neg c (Ev.bind hk (Ev.bind hs (Ev.neg s0 (Ev.neg s1 (Ev.neg s2 (Ev.neg s3 (Ev.now _)))))))), by show l.length ≤ 7; omega, h4, by omega, by omega⟩
end Go.Proofs.Ytiplpckgmikmeaa.M
namespace Go.Proofs.Ytiplpckgmikmeaa.M
open Go.RowKit Go.Proofs.YtiplpckgmikmeaaW.PrintWords Go.Proofs.YtiplpckgmikmeaaW.PrintLast Go.Proofs.YtiplpckgmikmeaaW.PrintMore
attribute [local go_sem] max2_int min2_int max_two min_two max_three min_three max_four min_four
set_option linter.unusedVariables false
set_option linter.unusedSimpArgs false

end Go.Proofs.Ytiplpckgmikmeaa.M
namespace Go.Proofs.Ytiplpckgmikmeaa.M
open Go.RowKit Go.Proofs.YtiplpckgmikmeaaW.PrintWords Go.Proofs.YtiplpckgmikmeaaW.PrintLast Go.Proofs.YtiplpckgmikmeaaW.PrintMore
attribute [local go_sem] max2_int min2_int max_two min_two max_three min_three max_four min_four
set_option linter.unusedVariables false
set_option linter.unusedSimpArgs false

end Go.Proofs.Ytiplpckgmikmeaa.M
namespace Go.Proofs.Ytiplpckgmikmeaa.M
open Go.RowKit Go.Proofs.YtiplpckgmikmeaaW.PrintWords Go.Proofs.YtiplpckgmikmeaaW.PrintLast Go.Proofs.YtiplpckgmikmeaaW.PrintMore
attribute [local go_sem] max2_int min2_int max_two min_two max_three min_three max_four min_four
set_option linter.unusedVariables false
set_option linter.unusedSimpArgs false

end Go.Proofs.Ytiplpckgmikmeaa.M
