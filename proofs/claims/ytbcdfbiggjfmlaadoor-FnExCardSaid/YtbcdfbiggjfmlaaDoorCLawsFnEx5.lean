/- What the claim's law leans on: the program's functions, what they compute, and the law over plain values; no condition is asked. (Part 5 of 6.) -/
import Derived.Test.YtbcdfbiggjfmlaaDoorCLawsFnEx4
import Derived.Lib.ItoaNum
import Derived.Lib.SplitLaws
import Derived.Lib.IndexLaws
import Derived.Lib.CutLaws
import Derived.Lib.AtoiAll
namespace Go.Proofs.YtbcdfbiggjfmlaaDoor.M
open Go.RowKit Go.Proofs.YtbcdfbiggjfmlaaDoorW.PrintWords Go.Proofs.YtbcdfbiggjfmlaaDoorW.PrintLast Go.Proofs.YtbcdfbiggjfmlaaDoorW.PrintMore
attribute [local go_sem] max2_int min2_int max_two min_two max_three min_three max_four min_four
set_option linter.unusedVariables false
set_option linter.unusedSimpArgs false
@[reducible] def q7_0 : Array Bool := #[true, true, true, true, true, true, true, true, true, true, true, true, true, true, true, true, true, true, true, true, true, true, true, true, true, true]
@[reducible] def q7_1 : Array Bool := #[true, true, true, true, true, true, true, true, true, true, true, true, true, true, true, true, true, true, true, true, true, true, true, true, true, false]
@[reducible] def q7_2 : Array Bool := #[true, true, true, true, true, true, true, true, true, true, true, true, true, true, true, true, true, true, true, true, true, true, true, true, false, false]
@[reducible] def q7_3 : Array Bool := #[true, true, true, true, true, true, true, true, true, true, true, true, true, true, true, true, true, true, true, true, true, true, true, false, false, false]
@[reducible] def q7_4 : Array Bool := #[true, true, true, true, true, true, true, true, true, true, true, true, true, true, true, true, true, true, true, true, true, true, false, false, false, false]
@[reducible] def q7_5 : Array Bool := #[true, true, true, true, true, true, true, true, true, true, true, true, true, true, true, true, true, true, true, true, true, false, false, false, false, false]
@[reducible] def q7_6 : Array Bool := #[true, true, true, true, true, true, true, true, true, true, true, true, true, true, true, true, true, true, true, true, false, false, false, false, false, false]
@[reducible] def q7_7 : Array Bool := #[true, true, true, true, true, true, true, true, true, true, true, true, true, true, true, true, true, true, true, false, false, false, false, false, false, false]
@[reducible] def q7_8 : Array Bool := #[true, true, true, true, true, true, true, true, true, true, true, true, true, true, true, true, true, true, false, false, false, false, false, false, false, false]
@[reducible] def q7_9 : Array Bool := #[true, true, true, true, true, true, true, true, true, true, true, true, true, true, true, true, true, false, false, false, false, false, false, false, false, false]
@[reducible] def q7_10 : Array Bool := #[true, true, true, true, true, true, true, true, true, true, true, true, true, true, true, true, false, false, false, false, false, false, false, false, false, false]
@[reducible] def q7_11 : Array Bool := #[true, true, true, true, true, true, true, true, true, true, true, true, true, true, true, false, false, false, false, false, false, false, false, false, false, false]
@[reducible] def q7_12 : Array Bool := #[true, true, true, true, true, true, true, true, true, true, true, true, true, true, false, false, false, false, false, false, false, false, false, false, false, false]
@[reducible] def q7_13 : Array Bool := #[true, true, true, true, true, true, true, true, true, true, true, true, true, false, false, false, false, false, false, false, false, false, false, false, false, false]
@[reducible] def q7_14 : Array Bool := #[true, true, true, true, true, true, true, true, true, true, true, true, false, false, false, false, false, false, false, false, false, false, false, false, false, false]
@[reducible] def q7_15 : Array Bool := #[true, true, true, true, true, true, true, true, true, true, true, false, false, false, false, false, false, false, false, false, false, false, false, false, false, false]
@[reducible] def q7_16 : Array Bool := #[true, true, true, true, true, true, true, true, true, true, false, false, false, false, false, false, false, false, false, false, false, false, false, false, false, false]
@[reducible] def q7_17 : Array Bool := #[true, true, true, true, true, true, true, true, true, false, false, false, false, false, false, false, false, false, false, false, false, false, false, false, false, false]
@[reducible] def q7_18 : Array Bool := #[true, true, true, true, true, true, true, true, false, false, false, false, false, false, false, false, false, false, false, false, false, false, false, false, false, false]
@[reducible] def q7_19 : Array Bool := #[true, true, true, true, true, true, false, true, false, false, false, false, false, false, false, false, false, false, false, false, false, false, false, false, false, false]
@[reducible] def q7_20 : Array Bool := #[true, true, true, true, true, true, false, false, false, false, false, false, false, false, false, false, false, false, false, false, false, false, false, false, false, false]
@[reducible] def q7_21 : Array Bool := #[true, true, true, true, true, false, false, false, false, false, false, false, false, false, false, false, false, false, false, false, false, false, false, false, false, false]
@[reducible] def q7_22 : Array Bool := #[true, true, true, true, false, false, false, false, false, false, false, false, false, false, false, false, false, false, false, false, false, false, false, false, false, false]
@[reducible] def q7_23 : Array Bool := #[true, true, true, false, false, false, false, false, false, false, false, false, false, false, false, false, false, false, false, false, false, false, false, false, false, false]
@[reducible] def q7_24 : Array Bool := #[true, true, false, false, false, false, false, false, false, false, false, false, false, false, false, false, false, false, false, false, false, false, false, false, false, false]
@[reducible] def q7_25 : Array Bool := #[true, false, false, false, false, false, false, false, false, false, false, false, false, false, false, false, false, false, false, false, false, false, false, false, false, false]
@[reducible] def q7_26 : Array Bool := #[false, false, false, false, false, false, false, false, false, false, false, false, false, false, false, false, false, false, false, false, false, false, false, false, false, false]

mutual
noncomputable def laws_FnEx.j0 : Nat → List Int → List Int → Bool → Option (Bool)
 | 0, _, _, _ => none
 | k + 1, x0, x1, x21 => if x21 = true then (some true) else ((spec_DrawExText.f k x0).bind fun bt101 => ((impl_ExText.f k bt101.1 bt101.2.1 bt101.2.2.1 bt101.2.2.2).bind fun t108 => ((impl_ExRead.f k t108).bind fun bt109 => ((spec_ExText.f k bt101.1 bt101.2.1 bt101.2.2.1 bt101.2.2.2).bind fun t117 => (if t108.toList = t117.toList then ((impl_ExOk.f k bt101.1 bt101.2.1 bt101.2.2.1 bt101.2.2.2).bind fun t118 => ((spec_ExOk.f k bt101.1 bt101.2.1 bt101.2.2.1 bt101.2.2.2).bind fun t119 => (if (t118 != t119) = true then (laws_FnEx.j1 k x1 true) else ((spec_ExOk.f k bt101.1 bt101.2.1 bt101.2.2.1 bt101.2.2.2).bind fun t120 => (if (bt109.2.2.2.2 != t120) = true then (laws_FnEx.j1 k x1 true) else (if bt109.2.2.2.2 = true then ((impl_ExSame.f k bt109.1 bt109.2.1 bt109.2.2.1 bt109.2.2.2.1 bt101.1 bt101.2.1 bt101.2.2.1 bt101.2.2.2).bind fun t121 => (laws_FnEx.j1 k x1 (!t121))) else (laws_FnEx.j1 k x1 false))))))) else (laws_FnEx.j1 k x1 true))))))
noncomputable def laws_FnEx.j1 : Nat → List Int → Bool → Option (Bool)
 | 0, _, _ => none
 | k + 1, x1, x56 => if x56 = true then (some false) else ((spec_DrawExRead.f k x1).bind fun t122 => ((impl_ExRead.f k t122).bind fun bt123 => ((spec_ExRead.f k t122).bind fun bt131 => (if (bt123.2.2.2.2 == bt131.2.2.2.2) = true then (if bt123.2.2.2.2 = true then ((impl_ExText.f k bt123.1 bt123.2.1 bt123.2.2.1 bt123.2.2.2.1).bind fun t139 => (if t139.toList = t122.toList then ((impl_ExOk.f k bt123.1 bt123.2.1 bt123.2.2.1 bt123.2.2.2.1).bind fun t140 => (some t140)) else (some false))) else (some true)) else (some false)))))
end
noncomputable def laws_FnEx.f (k : Nat) (l0 : List Int) (l1 : List Int) : Option (Bool) := if (l0.length : Int) > 1048576 then (laws_FnEx.j0 k l0 l1 true) else (laws_FnEx.j0 k l0 l1 (decide ((l1.length : Int) > 1048576)))
noncomputable def laws_FnEx.T6 : Bool × List (List Nat × List Nat) := (true, [([], []), ([], []), ([1], [1]), ([0, 2], [0, 2]), ([3, 2], [3]), ([4], [4]), ([5, 4, 4], [4, 5]), ([4], [4]), ([7, 6, 4], [4, 7]), ([6, 8, 4], [4, 6, 8]), ([4, 9], [4, 9]), ([10, 8], [10]), ([11], [11]), ([11], [11]), ([13, 11, 11], [11, 13]), ([12, 14, 11], [11, 12, 14]), ([11, 15], [11, 15]), ([16, 14], [16]), ([17], [17]), ([18, 17, 17], [17, 18]), ([19], [19]), ([19], [19]), ([20, 21, 19, 19], [19, 20, 21]), ([22, 19], [19, 22]), ([19, 23, 17], [17, 19, 23]), ([17, 24], [17, 24])])
noncomputable def laws_FnEx.B6 : List Nat := [0, 0, 2, 7, 15, 31, 63, 31, 255, 511, 1023, 2047, 4095, 4095, 12287, 32767, 65535, 131071, 262143, 524287, 1048575, 1048575, 4194303, 8388607, 16777215, 33554431]
theorem laws_FnEx.tab6 : rtab .any (opsOf Tryd.f7 6) = laws_FnEx.T6 := by kernel_rfl
theorem laws_FnEx.bits6 : waitsOk laws_FnEx.T6.2 laws_FnEx.B6 = true := by kernel_rfl
set_option maxHeartbeats 8000000 in
set_option maxRecDepth 100000 in
theorem laws_FnEx.calls (k : Nat) (A0 : Option Addr) (c0 : Nat) (l0 : List Int) (A1 : Option Addr) (c1 : Nat) (l1 : List Int) (r : Bool) (hT_ : Aside0 (r = true)) (w : World) (hr0 : Kd.C (Kd.int .u8) w A0 l0.length l0) (hc0 : l0.length ≤ c0) (hr1 : Kd.C (Kd.int .u8) w A1 l1.length l1) (hc1 : l1.length ≤ c1) (h : laws_FnEx.f k l0 l1 = some r) (ht_TabX : TabX w) (ht_TabR : TabR w) :
  Calls Tryd.prog 7 #[.slice A0 l0.length c0, .slice A1 l1.length c1] w fun e w' => e = .returned (.bool r) ∧ Below w.heap.size w w' := by
 have HTX_TabX := m0_ ht_TabX
 clear ht_TabX
 have HTX_TabR := m0_ ht_TabR
 clear ht_TabR
 have hu29 := Tryd.underlying29
 have HR0 := m0_ hr0
 have HC0 := m0_ hc0
 clear hr0 hc0
 have HR1 := m0_ hr1
 have HC1 := m0_ hc1
 clear hr1 hc1
 have HB := m0_ (Below.refl w.heap.size w)
 have H : (if (l0.length : Int) > 1048576 then (laws_FnEx.j0 k l0 l1 true) else (laws_FnEx.j0 k l0 l1 (decide ((l1.length : Int) > 1048576)))) = some r := h
 clear h
 have HC3 := m0_ H
 clear H
 go_enter Tryd.func7, Tryd.ntmps7
 go_upto_region 1 with (fail)
 go_cut [21] (fun v21 wc => ∃ (kq : Nat) (x21_2 : Bool), v21 = .bool x21_2 ∧ Aside0 (laws_FnEx.j0 kq l0 l1 x21_2 = some r) ∧ Aside0 (kq ≤ k) ∧ Aside0 (Below w.heap.size w wc))
 case first =>
  have H := HC3.out
  clear HC3
  by_cases c4 : (l0.length : Int) > 1048576
  ·rw [if_pos c4] at H
   have c4b0 : decide (1048576 < (l0.length : Int)) = true := decide_eq_true c4
   have c4b1 : decide (1048576 < l0.length) = true := decide_eq_true (by omega)
   clear c4
   (first | rw [c4b0] | (simp only [i64_w, i32_w];rw [c4b0]) | skip)
   have H' := m0_ H
   clear H
   go_wp2
   go_meet
   case rel => exact ⟨_, (true), (by first | rfl | (simp;done) | (simp [*];done)), H', ⟨by first | omega | exact Nat.le_refl _⟩, ⟨by repeat (first | (with_reducible first | exact HB.out | apply qg_ | apply qa_ | apply qf_) | exact HB.out)⟩⟩
  ·rw [if_neg c4] at H
   have c4b0 : decide (1048576 < (l0.length : Int)) = false := decide_eq_false c4
   have c4b1 : decide (1048576 < l0.length) = false := decide_eq_false (by omega)
   clear c4
   (first | rw [c4b0] | (simp only [i64_w, i32_w];rw [c4b0]) | skip)
   have H' := m0_ H
   clear H
   go_wp2
   go_meet
   case rel => exact ⟨_, (decide ((l1.length : Int) > 1048576)), (by first | rfl | (simp;done) | (simp [*];done)), H', ⟨by first | omega | exact Nat.le_refl _⟩, ⟨by repeat (first | (with_reducible first | exact HB.out | apply qg_ | apply qa_ | apply qf_) | exact HB.out)⟩⟩
 case rest =>
  clear HC3
  try clear c1
  try clear p2
  try clear c4
  try clear c4b0
  try clear c4b1
  obtain ⟨kq, x21_2, rfl, HA, HJ2, HB⟩ := hcut
  cases kq with
  | zero => exact absurd HA.out (by simp [laws_FnEx.j0])
  | succ kj2 =>
   have H := HA.out
   clear HA
   simp only [laws_FnEx.j0] at H
   by_cases c5 : x21_2 = true
   ·subst c5
    have H1 : (some true) = some r := by rw [if_pos rfl] at H;exact H
    clear H
    have H := H1
    clear H1
    obtain rfl := Option.some.inj H
    go_wp2
    go_ret
    exact ⟨by first | rfl | (simp [errW_none, errW_some] <;> rfl) | (simp [*, errW_none, errW_some] <;> rfl), by repeat (first | (with_reducible first | exact HB.out | apply qg_ | apply qa_ | apply qf_) | exact HB.out)⟩
   replace c5 := Bool.eq_false_iff.mpr c5
   subst c5
   have H1 : ((spec_DrawExText.f kj2 l0).bind fun bt101 => ((impl_ExText.f kj2 bt101.1 bt101.2.1 bt101.2.2.1 bt101.2.2.2).bind fun t108 => ((impl_ExRead.f kj2 t108).bind fun bt109 => ((spec_ExText.f kj2 bt101.1 bt101.2.1 bt101.2.2.1 bt101.2.2.2).bind fun t117 => (if t108.toList = t117.toList then ((impl_ExOk.f kj2 bt101.1 bt101.2.1 bt101.2.2.1 bt101.2.2.2).bind fun t118 => ((spec_ExOk.f kj2 bt101.1 bt101.2.1 bt101.2.2.1 bt101.2.2.2).bind fun t119 => (if (t118 != t119) = true then (laws_FnEx.j1 kj2 l1 true) else ((spec_ExOk.f kj2 bt101.1 bt101.2.1 bt101.2.2.1 bt101.2.2.2).bind fun t120 => (if (bt109.2.2.2.2 != t120) = true then (laws_FnEx.j1 kj2 l1 true) else (if bt109.2.2.2.2 = true then ((impl_ExSame.f kj2 bt109.1 bt109.2.1 bt109.2.2.1 bt109.2.2.2.1 bt101.1 bt101.2.1 bt101.2.2.1 bt101.2.2.2).bind fun t121 => (laws_FnEx.j1 kj2 l1 (!t121))) else (laws_FnEx.j1 kj2 l1 false))))))) else (laws_FnEx.j1 kj2 l1 true)))))) = some r := by rw [if_neg (show ¬ (false = true) by decide)] at H;exact H
   clear H
   have H := H1
   clear H1
   replace H := Option.bind_eq_some_iff.mp H
   obtain ⟨⟨t101, t102, t103, t104⟩, A60, H⟩ := H
   replace H : ((impl_ExText.f kj2 t101 t102 t103 t104).bind fun t108 => ((impl_ExRead.f kj2 t108).bind fun bt109 => ((spec_ExText.f kj2 t101 t102 t103 t104).bind fun t117 => (if t108.toList = t117.toList then ((impl_ExOk.f kj2 t101 t102 t103 t104).bind fun t118 => ((spec_ExOk.f kj2 t101 t102 t103 t104).bind fun t119 => (if (t118 != t119) = true then (laws_FnEx.j1 kj2 l1 true) else ((spec_ExOk.f kj2 t101 t102 t103 t104).bind fun t120 => (if (bt109.2.2.2.2 != t120) = true then (laws_FnEx.j1 kj2 l1 true) else (if bt109.2.2.2.2 = true then ((impl_ExSame.f kj2 bt109.1 bt109.2.1 bt109.2.2.1 bt109.2.2.2.1 t101 t102 t103 t104).bind fun t121 => (laws_FnEx.j1 kj2 l1 (!t121))) else (laws_FnEx.j1 kj2 l1 false))))))) else (laws_FnEx.j1 kj2 l1 true))))) = some r := H
   have A6 := m0_ A60
   clear A60
   replace H := Option.bind_eq_some_iff.mp H
   obtain ⟨t108, A70, H⟩ := H
   replace H : ((impl_ExRead.f kj2 t108).bind fun bt109 => ((spec_ExText.f kj2 t101 t102 t103 t104).bind fun t117 => (if t108.toList = t117.toList then ((impl_ExOk.f kj2 t101 t102 t103 t104).bind fun t118 => ((spec_ExOk.f kj2 t101 t102 t103 t104).bind fun t119 => (if (t118 != t119) = true then (laws_FnEx.j1 kj2 l1 true) else ((spec_ExOk.f kj2 t101 t102 t103 t104).bind fun t120 => (if (bt109.2.2.2.2 != t120) = true then (laws_FnEx.j1 kj2 l1 true) else (if bt109.2.2.2.2 = true then ((impl_ExSame.f kj2 bt109.1 bt109.2.1 bt109.2.2.1 bt109.2.2.2.1 t101 t102 t103 t104).bind fun t121 => (laws_FnEx.j1 kj2 l1 (!t121))) else (laws_FnEx.j1 kj2 l1 false))))))) else (laws_FnEx.j1 kj2 l1 true)))) = some r := H
   have A7 := m0_ A70
   clear A70
   replace H := Option.bind_eq_some_iff.mp H
   obtain ⟨⟨t109, t110, t111, t112, t115⟩, A80, H⟩ := H
   replace H : ((spec_ExText.f kj2 t101 t102 t103 t104).bind fun t117 => (if t108.toList = t117.toList then ((impl_ExOk.f kj2 t101 t102 t103 t104).bind fun t118 => ((spec_ExOk.f kj2 t101 t102 t103 t104).bind fun t119 => (if (t118 != t119) = true then (laws_FnEx.j1 kj2 l1 true) else ((spec_ExOk.f kj2 t101 t102 t103 t104).bind fun t120 => (if (t115 != t120) = true then (laws_FnEx.j1 kj2 l1 true) else (if t115 = true then ((impl_ExSame.f kj2 t109 t110 t111 t112 t101 t102 t103 t104).bind fun t121 => (laws_FnEx.j1 kj2 l1 (!t121))) else (laws_FnEx.j1 kj2 l1 false))))))) else (laws_FnEx.j1 kj2 l1 true))) = some r := H
   have A8 := m0_ A80
   clear A80
   have HC9 := m0_ H
   clear H
   go_upto_region 6 with (first | ((with_reducible refine gate_callee (f := 25) rfl ?_);refine goesL_ (some 23) rfl rfl Tryd.func25 (by kernel_rfl) rfl #[.slice A0 l0.length c0] rfl (by (try simp only [List.map_toArray, List.map_cons, List.map_nil]);first | done | rfl | (simp only [List.length_drop, List.length_take];rfl)) ?_;(with_reducible refine (spec_DrawExText.calls kj2 _ _ l0 t101 t102 t103 t104 _ ?side1 ?side2 A6.out).mono ?_);(case side1 => repeat (first | exact (Kd.C_below HR0.out HB.out) | (with_reducible refine Kd.C_alloc ?_ _) | (with_reducible refine Kd.C_drewN ?_ _) | (with_reducible refine Kd.C_drew ?_)));(case side2 => exact HC0.out);rintro e w10 ⟨v105, rfl, ho0, hb⟩;refine ⟨_, rfl, ?_⟩;have HO106 := m0_ (Kd.N_lower (Kd.N_mono (ok' := fun k_ => True) ho0 (fun k_ hk_ => trivial)) (qp_ (by repeat (first | (with_reducible first | exact HB.out | apply qg_ | apply qa_ | apply qf_) | exact HB.out))));replace HB := m0_ (qj_ (by repeat (first | (with_reducible first | exact HB.out | apply qg_ | apply qa_ | apply qf_) | exact HB.out)) hb);(try clear hb);(try clear hb2);(try clear hk);(try clear hi);(try clear ho0)) | ((with_reducible refine gate_dst (N := 5) rfl ?_);(try (refine gate_guard (by rfl) ?_;dsimp only));refine qs_ ?hg (N := 5) ?hd (cs := #[.int .i64 0, .int .i64 0, .int .i64 0, .slice none 0 0]) (t := 29) ?hr ?_;(case hd => rfl);(case hg => rfl);(case hr => first | (go_simp;done) | (go_simp;rfl));intro gb107 hg w11 hbox hb;replace HO106 := m0_ (Kd.N_below (Kd.N_elderB (by exact HO106.out) gb107 (Nat.le_of_eq hg.symm)) hb);have BK107 := m0_ (hbox);have GW107 := m0_ ((by rw [hg];exact (qp_ (by repeat (first | (with_reducible first | exact HB.out | apply qg_ | apply qa_ | apply qf_) | exact HB.out))) : w.heap.size ≤ gb107));have GE107 := m0_ ((by rw [hg];exact (qp_ (by repeat (first | (with_reducible first | exact HB.out | apply qg_ | apply qa_ | apply qf_) | exact HB.out))) : w.heap.size ≤ gb107));replace HB := m0_ (qj_ (by repeat (first | (with_reducible first | exact HB.out | apply qg_ | apply qa_ | apply qf_) | exact HB.out)) hb);clear hb hbox hg;obtain ⟨hcz12_0, hcz12_1, hcz12_2, hcz12_3, hfz12_0, hfz12_1, hfz12_2, hfz12_3⟩ := bx4 BK107.out;obtain ⟨Ao13, co13, eo13⟩ := Kd.N_slice HO106.out;subst eo13) | ((with_reducible refine gate_callee (f := 11) rfl ?_);refine goesL_ (some 25) rfl rfl Tryd.func11 (by kernel_rfl) rfl #[.agg #[.int .i64 t101, .int .i64 t102, .int .i64 t103, .slice Ao13 t104.length co13]] rfl (by (try simp only [List.map_toArray, List.map_cons, List.map_nil]);first | done | rfl | (simp only [List.length_drop, List.length_take];rfl)) ?_;(with_reducible refine (impl_ExText.calls kj2 t101 t102 t103 _ _ t104 t108 _ ?side1 ?side2 A7.out (by first | exact TabX.below HTX_TabX.out (by repeat (first | (with_reducible first | exact HB.out | apply qg_ | apply qa_ | apply qf_ | refine qe_ ?_ GE107.out | refine qe_ ?_ GE116.out | refine qe_ ?_ GE130.out | refine qe_ ?_ GE138.out) | exact HB.out)) | exact TabX.below (TabX.below HTX_TabX.out HB.out) Q_HB)).mono ?_);(case side1 => refine (Kd.N_reads' (e := 29) (base := w.heap.size) (ok := fun k_ => (True ∧ k_ ≠ gb107)) (n := t104.length) (c := co13) ?_).2.2;exact (by (with_reducible repeat (first | apply Kd.N_alloc | apply Kd.N_drewN | apply Kd.N_drew));exact (Kd.N_mono (Kd.N_far (p := ⟨gb107, 3, none⟩) (Kd.N_far (p := ⟨gb107, 2, none⟩) (Kd.N_far (p := ⟨gb107, 1, none⟩) (Kd.N_far (p := ⟨gb107, 0, none⟩) (Kd.N_mono HO106.out (fun k_ hk => (⟨hk, hk.2⟩ : _ ∧ k_ ≠ gb107))) (fun _ hk => hk.2) (.int .i64 t101)) (fun _ hk => hk.2) (.int .i64 t102)) (fun _ hk => hk.2) (.int .i64 t103)) (fun _ hk => hk.2) (.slice Ao13 t104.length co13)) (fun _ h_ => h_.1))));(case side2 => exact (Kd.N_reads' HO106.out).2.1);rintro e w14 ⟨rfl, hb⟩;refine ⟨_, rfl, ?_⟩;replace HO106 := m0_ (Kd.N_below (by (with_reducible repeat (first | apply Kd.N_alloc | apply Kd.N_drewN | apply Kd.N_drew));exact (Kd.N_mono (Kd.N_far (p := ⟨gb107, 3, none⟩) (Kd.N_far (p := ⟨gb107, 2, none⟩) (Kd.N_far (p := ⟨gb107, 1, none⟩) (Kd.N_far (p := ⟨gb107, 0, none⟩) (Kd.N_mono HO106.out (fun k_ hk => (⟨hk, hk.2⟩ : _ ∧ k_ ≠ gb107))) (fun _ hk => hk.2) (.int .i64 t101)) (fun _ hk => hk.2) (.int .i64 t102)) (fun _ hk => hk.2) (.int .i64 t103)) (fun _ hk => hk.2) (.slice Ao13 t104.length co13)) (fun _ h_ => h_.1))) hb);replace BK107 := m0_ (qk_ (g := gb107) (o := .cells #[.int .i64 t101, .int .i64 t102, .int .i64 t103, .slice Ao13 t104.length co13] 29 (0, 0)) (by (with_reducible repeat (first | refine qc_ ?_ _ | refine qd_ ?_ | refine qb_ ?_ _));refine ql_ (cs := #[.int .i64 t101, .int .i64 t102, .int .i64 t103, .slice none 0 0]) ?_ 3 _ rfl;(with_reducible repeat (first | refine qc_ ?_ _ | refine qd_ ?_ | refine qb_ ?_ _));refine ql_ (cs := #[.int .i64 t101, .int .i64 t102, .int .i64 0, .slice none 0 0]) ?_ 2 _ rfl;(with_reducible repeat (first | refine qc_ ?_ _ | refine qd_ ?_ | refine qb_ ?_ _));refine ql_ (cs := #[.int .i64 t101, .int .i64 0, .int .i64 0, .slice none 0 0]) ?_ 1 _ rfl;(with_reducible repeat (first | refine qc_ ?_ _ | refine qd_ ?_ | refine qb_ ?_ _));refine ql_ (cs := #[.int .i64 0, .int .i64 0, .int .i64 0, .slice none 0 0]) ?_ 0 _ rfl;(with_reducible repeat (first | refine qc_ ?_ _ | refine qd_ ?_ | refine qb_ ?_ _));exact BK107.out) hb);replace HB := m0_ (qj_ (by repeat (first | (with_reducible first | exact HB.out | apply qg_ | apply qa_ | apply qf_ | refine qe_ ?_ GE107.out) | exact HB.out)) hb);(try clear hb);(try clear hb2);(try clear hk);(try clear hi)) | ((with_reducible refine gate_callee (f := 22) rfl ?_);refine goesL_ (some 28) rfl rfl Tryd.func22 (by kernel_rfl) rfl #[.string t108] rfl (by (try simp only [List.map_toArray, List.map_cons, List.map_nil]);first | done | rfl | (simp only [List.length_drop, List.length_take];rfl)) ?_;(with_reducible refine (impl_ExRead.calls kj2 t108 t109 t110 t111 t112 t115 _ A8.out (by first | exact TabX.below HTX_TabX.out (by repeat (first | (with_reducible first | exact HB.out | apply qg_ | apply qa_ | apply qf_ | refine qe_ ?_ GE107.out | refine qe_ ?_ GE116.out | refine qe_ ?_ GE130.out | refine qe_ ?_ GE138.out) | exact HB.out)) | exact TabX.below (TabX.below HTX_TabX.out HB.out) Q_HB) (by first | exact TabR.below HTX_TabR.out (by repeat (first | (with_reducible first | exact HB.out | apply qg_ | apply qa_ | apply qf_ | refine qe_ ?_ GE107.out | refine qe_ ?_ GE116.out | refine qe_ ?_ GE130.out | refine qe_ ?_ GE138.out) | exact HB.out)) | exact TabR.below (TabR.below HTX_TabR.out HB.out) Q_HB)).mono ?_);rintro e w15 ⟨v113, rfl, ho0, hb⟩;refine ⟨_, rfl, ?_⟩;have HO114 := m0_ (Kd.N_lower (Kd.N_mono (ok' := fun k_ => some k_ ≠ (.slice Ao13 t104.length co13 : Value).ownBlock ∧ k_ ≠ gb107) (Kd.R_N (Kd.R_bound ho0)) (fun k_ hk_ => ⟨(Kd.fresh' (Kd.N_lt (by exact HO106.out)) k_ hk_.2.1), (Kd.freshB BK107.out k_ hk_.2.1)⟩)) (qp_ (by repeat (first | (with_reducible first | exact HB.out | apply qg_ | apply qa_ | apply qf_ | refine qe_ ?_ GE107.out) | exact HB.out))));replace HO106 := m0_ (Kd.N_elder' (by exact HO106.out) (by first | exact Kd.N_base ho0 | exact Kd.S_base ho0 | exact Kd.R_base ho0) hb);replace BK107 := m0_ (qk_ BK107.out hb);replace HB := m0_ (qj_ (by repeat (first | (with_reducible first | exact HB.out | apply qg_ | apply qa_ | apply qf_ | refine qe_ ?_ GE107.out) | exact HB.out)) hb);(try clear hb);(try clear hb2);(try clear hk);(try clear hi);(try clear ho0)) | ((with_reducible refine gate_dst (N := 7) rfl ?_);(try (refine gate_guard (by rfl) ?_;dsimp only));refine qs_ ?hg (N := 7) ?hd (cs := #[.int .i64 0, .int .i64 0, .int .i64 0, .slice none 0 0]) (t := 29) ?hr ?_;(case hd => rfl);(case hg => rfl);(case hr => first | (go_simp;done) | (go_simp;rfl));intro gb116 hg w16 hbox hb;replace HO106 := m0_ (Kd.N_below (Kd.N_elderB (by exact HO106.out) gb116 (Nat.le_of_eq hg.symm)) hb);replace HO114 := m0_ (Kd.N_below (Kd.N_elderB (by exact HO114.out) gb116 (Nat.le_of_eq hg.symm)) hb);have BK116 := m0_ (hbox);have GW116 := m0_ ((by rw [hg];exact (qp_ (by repeat (first | (with_reducible first | exact HB.out | apply qg_ | apply qa_ | apply qf_ | refine qe_ ?_ GE107.out) | exact HB.out))) : w.heap.size ≤ gb116));have GE116 := m0_ ((by rw [hg];exact (qp_ (by repeat (first | (with_reducible first | exact HB.out | apply qg_ | apply qa_ | apply qf_ | refine qe_ ?_ GE107.out) | exact HB.out))) : w.heap.size ≤ gb116));replace HB := m0_ (qj_ (by repeat (first | (with_reducible first | exact HB.out | apply qg_ | apply qa_ | apply qf_ | refine qe_ ?_ GE107.out) | exact HB.out)) hb);have NB107_116 := m0_ ((by rw [hg];exact qv_ (blk_lt BK107.out) : gb107 ≠ gb116));have NB116_107 := m0_ ((by rw [hg];exact qx_ (blk_lt BK107.out) : gb116 ≠ gb107));replace BK107 := m0_ (qk_ BK107.out hb);clear hb hbox hg;have hnb17 := NB116_107.out;have hnc17 := NB107_116.out;obtain ⟨hcz18_0, hcz18_1, hcz18_2, hcz18_3, hfz18_0, hfz18_1, hfz18_2, hfz18_3⟩ := bx4 BK116.out;obtain ⟨Ao19, co19, eo19⟩ := Kd.N_slice HO114.out;subst eo19))
   (try simp only [Act.put, q0_, List.set_cons_zero, List.set_cons_succ])
   go_cut [56] (fun v56 wc => ∃ (kq : Nat) (x56_8 : Bool), v56 = .bool x56_8 ∧ Aside0 (laws_FnEx.j1 kq l1 x56_8 = some r) ∧ Aside0 (kq ≤ kj2) ∧ Aside0 (Kd.N k29 29 wc w.heap.size (fun k_ => some k_ ≠ ((.slice Ao19 t112.length co19) : Value).ownBlock ∧ k_ ≠ gb107 ∧ k_ ≠ gb116) (.slice Ao13 t104.length co13) t104) ∧ Aside0 (Kd.N k29 29 wc w.heap.size (fun k_ => some k_ ≠ ((.slice Ao13 t104.length co13) : Value).ownBlock ∧ k_ ≠ gb107 ∧ k_ ≠ gb116) (.slice Ao19 t112.length co19) t112) ∧ Aside0 (wc.heap[gb107]? = some (.cells #[.int .i64 t101, .int .i64 t102, .int .i64 t103, (.slice Ao13 t104.length co13)] 29 (0, 0))) ∧ Aside0 (wc.heap[gb116]? = some (.cells #[.int .i64 t109, .int .i64 t110, .int .i64 t111, (.slice Ao19 t112.length co19)] 29 (0, 0))) ∧ Aside0 (Below w.heap.size w wc))
   case first =>
    have H := HC9.out
    clear HC9
    replace H := Option.bind_eq_some_iff.mp H
    obtain ⟨t117, A200, H⟩ := H
    replace H : (if t108.toList = t117.toList then ((impl_ExOk.f kj2 t101 t102 t103 t104).bind fun t118 => ((spec_ExOk.f kj2 t101 t102 t103 t104).bind fun t119 => (if (t118 != t119) = true then (laws_FnEx.j1 kj2 l1 true) else ((spec_ExOk.f kj2 t101 t102 t103 t104).bind fun t120 => (if (t115 != t120) = true then (laws_FnEx.j1 kj2 l1 true) else (if t115 = true then ((impl_ExSame.f kj2 t109 t110 t111 t112 t101 t102 t103 t104).bind fun t121 => (laws_FnEx.j1 kj2 l1 (!t121))) else (laws_FnEx.j1 kj2 l1 false))))))) else (laws_FnEx.j1 kj2 l1 true)) = some r := H
    have A20 := m0_ A200
    clear A200
    by_cases c21 : t108.toList = t117.toList
    rotate_left
    ·rw [if_neg c21] at H
     have c21b0 : (t108.toList == t117.toList) = false := beq_eq_false_iff_ne.mpr c21
     have c21b1 : (t108.toList != t117.toList) = true := bne_iff_ne.mpr c21
     (first | rw [c21b0] | (simp only [i64_w, i32_w];rw [c21b0]) | skip)
     have H' := m0_ H
     clear H
     try go_wp2
     have n0_ : Aside0 (Kd.N k29 29 ((((w16.setCell ⟨gb116, 0, none⟩ (.int .i64 t109)).setCell ⟨gb116, 1, none⟩ (.int .i64 t110)).setCell ⟨gb116, 2, none⟩ (.int .i64 t111)).setCell ⟨gb116, 3, none⟩ (.slice Ao19 t112.length co19)) w.heap.size (fun k_ => some k_ ≠ (.slice Ao19 t112.length co19 : Value).ownBlock ∧ k_ ≠ gb107 ∧ k_ ≠ gb116) (.slice Ao13 t104.length co13) t104) := ⟨by (with_reducible repeat (first | apply Kd.N_alloc | apply Kd.N_drewN | apply Kd.N_drew));exact Kd.N_mono (Kd.N_far (p := ⟨gb116, 3, none⟩) (Kd.N_far (p := ⟨gb116, 2, none⟩) (Kd.N_far (p := ⟨gb116, 1, none⟩) (Kd.N_far (p := ⟨gb116, 0, none⟩) (Kd.N_mono HO106.out (fun k_ hk => (⟨hk, hk.2⟩ : _ ∧ k_ ≠ gb116))) (fun _ hk => hk.2) (.int .i64 t109)) (fun _ hk => hk.2) (.int .i64 t110)) (fun _ hk => hk.2) (.int .i64 t111)) (fun _ hk => hk.2) (.slice Ao19 t112.length co19)) (fun _ hk => ⟨hk.1.1.2, ⟨hk.1.1.1.2, hk.1.2⟩⟩)⟩
     have n1_ : Aside0 (Kd.N k29 29 ((((w16.setCell ⟨gb116, 0, none⟩ (.int .i64 t109)).setCell ⟨gb116, 1, none⟩ (.int .i64 t110)).setCell ⟨gb116, 2, none⟩ (.int .i64 t111)).setCell ⟨gb116, 3, none⟩ (.slice Ao19 t112.length co19)) w.heap.size (fun k_ => some k_ ≠ (.slice Ao13 t104.length co13 : Value).ownBlock ∧ k_ ≠ gb107 ∧ k_ ≠ gb116) (.slice Ao19 t112.length co19) t112) := ⟨by (with_reducible repeat (first | apply Kd.N_alloc | apply Kd.N_drewN | apply Kd.N_drew));exact Kd.N_mono (Kd.N_far (p := ⟨gb116, 3, none⟩) (Kd.N_far (p := ⟨gb116, 2, none⟩) (Kd.N_far (p := ⟨gb116, 1, none⟩) (Kd.N_far (p := ⟨gb116, 0, none⟩) (Kd.N_mono HO114.out (fun k_ hk => (⟨hk, hk.2⟩ : _ ∧ k_ ≠ gb116))) (fun _ hk => hk.2) (.int .i64 t109)) (fun _ hk => hk.2) (.int .i64 t110)) (fun _ hk => hk.2) (.int .i64 t111)) (fun _ hk => hk.2) (.slice Ao19 t112.length co19)) (fun _ hk => ⟨hk.1.1.1, ⟨hk.1.1.2, hk.1.2⟩⟩)⟩
     have n2_ : Aside0 (((((w16.setCell ⟨gb116, 0, none⟩ (.int .i64 t109)).setCell ⟨gb116, 1, none⟩ (.int .i64 t110)).setCell ⟨gb116, 2, none⟩ (.int .i64 t111)).setCell ⟨gb116, 3, none⟩ (.slice Ao19 t112.length co19)).heap[gb107]? = some (.cells #[.int .i64 t101, .int .i64 t102, .int .i64 t103, .slice Ao13 t104.length co13] 29 (0, 0))) := ⟨by (with_reducible repeat (first | refine qc_ ?_ _ | refine qd_ ?_ | refine qb_ ?_ _));refine qt_ ?_ NB107_116.out _;(with_reducible repeat (first | refine qc_ ?_ _ | refine qd_ ?_ | refine qb_ ?_ _));refine qt_ ?_ NB107_116.out _;(with_reducible repeat (first | refine qc_ ?_ _ | refine qd_ ?_ | refine qb_ ?_ _));refine qt_ ?_ NB107_116.out _;(with_reducible repeat (first | refine qc_ ?_ _ | refine qd_ ?_ | refine qb_ ?_ _));refine qt_ ?_ NB107_116.out _;(with_reducible repeat (first | refine qc_ ?_ _ | refine qd_ ?_ | refine qb_ ?_ _));exact BK107.out⟩
     have n3_ : Aside0 (((((w16.setCell ⟨gb116, 0, none⟩ (.int .i64 t109)).setCell ⟨gb116, 1, none⟩ (.int .i64 t110)).setCell ⟨gb116, 2, none⟩ (.int .i64 t111)).setCell ⟨gb116, 3, none⟩ (.slice Ao19 t112.length co19)).heap[gb116]? = some (.cells #[.int .i64 t109, .int .i64 t110, .int .i64 t111, .slice Ao19 t112.length co19] 29 (0, 0))) := ⟨by (with_reducible repeat (first | refine qc_ ?_ _ | refine qd_ ?_ | refine qb_ ?_ _));refine ql_ (cs := #[.int .i64 t109, .int .i64 t110, .int .i64 t111, .slice none 0 0]) ?_ 3 _ rfl;(with_reducible repeat (first | refine qc_ ?_ _ | refine qd_ ?_ | refine qb_ ?_ _));refine ql_ (cs := #[.int .i64 t109, .int .i64 t110, .int .i64 0, .slice none 0 0]) ?_ 2 _ rfl;(with_reducible repeat (first | refine qc_ ?_ _ | refine qd_ ?_ | refine qb_ ?_ _));refine ql_ (cs := #[.int .i64 t109, .int .i64 0, .int .i64 0, .slice none 0 0]) ?_ 1 _ rfl;(with_reducible repeat (first | refine qc_ ?_ _ | refine qd_ ?_ | refine qb_ ?_ _));refine ql_ (cs := #[.int .i64 0, .int .i64 0, .int .i64 0, .slice none 0 0]) ?_ 0 _ rfl;(with_reducible repeat (first | refine qc_ ?_ _ | refine qd_ ?_ | refine qb_ ?_ _));exact BK116.out⟩
     have n4_ : Aside0 (Below w.heap.size w ((((w16.setCell ⟨gb116, 0, none⟩ (.int .i64 t109)).setCell ⟨gb116, 1, none⟩ (.int .i64 t110)).setCell ⟨gb116, 2, none⟩ (.int .i64 t111)).setCell ⟨gb116, 3, none⟩ (.slice Ao19 t112.length co19))) := ⟨by repeat (first | (with_reducible first | exact HB.out | apply qg_ | apply qa_ | apply qf_ | refine qe_ ?_ GE107.out | refine qe_ ?_ GE116.out) | exact HB.out)⟩
     (try clear HO106)
     (try clear HO114)
     (try clear BK107)
     (try clear BK116)
     (try clear HB)
     generalize ((((w16.setCell ⟨gb116, 0, none⟩ (.int .i64 t109)).setCell ⟨gb116, 1, none⟩ (.int .i64 t110)).setCell ⟨gb116, 2, none⟩ (.int .i64 t111)).setCell ⟨gb116, 3, none⟩ (.slice Ao19 t112.length co19)) = w53 at n0_ n1_ n2_ n3_ n4_ ⊢
     have HO106 := n0_
     have HO114 := n1_
     have BK107 := n2_
     have BK116 := n3_
     have HB := n4_
     clear n0_ n1_ n2_ n3_ n4_
     replace HO106 := m0_ (Kd.N_drew HO106.out)
     replace HO114 := m0_ (Kd.N_drew HO114.out)
     replace BK107 := m0_ (qd_ BK107.out)
     replace BK116 := m0_ (qd_ BK116.out)
     replace HB := m0_ (qf_ HB.out)
     refine start_ (n := 26) (S := fun w' => w'.cell? ⟨gb107, 0, none⟩ = some (.int .i64 t101) ∧ w'.cell? ⟨gb107, 1, none⟩ = some (.int .i64 t102) ∧ w'.cell? ⟨gb107, 2, none⟩ = some (.int .i64 t103) ∧ w'.cell? ⟨gb107, 3, none⟩ = some (.slice Ao13 t104.length co13)) (ds := []) q7_26 (by kernel_rfl) rfl rfl ⟨(qh_ BK107.out 0).trans rfl, (qh_ BK107.out 1).trans rfl, (qh_ BK107.out 2).trans rfl, (qh_ BK107.out 3).trans rfl⟩ (fun hHeld => ?_);refine with_tabW laws_FnEx.tab6 laws_FnEx.bits6 (fun HT_ HW_ => ?_)
     generalize w53.drew = w54 at HO106 HO114 BK107 BK116 HB hHeld ⊢
     refine pv_ 0 31 q7_25 (any_of HT_.out (by kernel_rfl)) ?_
     refine take_ (i := 1) (N := some 32) (v := ?_) (a' := ?_) q7_24 rfl rfl (take_ofW HT_.out HW_.out (by kernel_rfl)) (fun _ _ _ h => h) (Or.inl ⟨by rfl, ?_⟩) hHeld ?_ ?_
     rotate_left
     ·rintro w' ⟨s0, s1, s2, s3⟩
      go_simp
      with_reducible rfl
     rotate_left
     ·simp only [Act.put, q0_, List.set_cons_zero, List.set_cons_succ, i64_w, i32_w]
      rfl
     refine one_ (i := 2) (N := some 33) q7_23 rfl rfl (one_of HT_.out (by kernel_rfl)) (by decide) (fun K hK => ?_)
     refine goes_ Tryd.func9 (by kernel_rfl) rfl #[.agg #[.int .i64 t101, .int .i64 t102, .int .i64 t103, .slice Ao13 t104.length co13]] (by rfl) rfl rfl (by (try simp only [List.map_toArray, List.map_cons, List.map_nil]);first | done | rfl | (simp only [List.length_drop, List.length_take];rfl)) ?_
     with_reducible refine (spec_ExText.calls kj2 t101 t102 t103 _ _ t104 t117 _ ?side1 ?side2 A20.out).mono ?_
     (case side1 => repeat (first | exact (Kd.N_reads' HO106.out).2.2 | (with_reducible refine Kd.C_alloc ?_ _) | (with_reducible refine Kd.C_drewN ?_ _) | (with_reducible refine Kd.C_drew ?_)))
     (case side2 => exact (Kd.N_reads' HO106.out).2.1)
     rintro e w55 ⟨rfl, hb⟩
     refine ⟨_, rfl, ?_⟩
     replace HO106 := m0_ (Kd.N_below (by exact HO106.out) hb)
     replace HO114 := m0_ (Kd.N_below (by exact HO114.out) hb)
     replace BK107 := m0_ (qk_ BK107.out hb)
     replace BK116 := m0_ (qk_ BK116.out hb)
     replace HB := m0_ (qj_ (by repeat (first | (with_reducible first | exact HB.out | apply qg_ | apply qa_ | apply qf_ | refine qe_ ?_ GE107.out | refine qe_ ?_ GE116.out) | exact HB.out)) hb)
     (try clear hb)
     (try clear hb2)
     (try clear hk)
     (try clear hi)
     refine hK.out _ _ ⟨(qh_ BK107.out 0).trans rfl, (qh_ BK107.out 1).trans rfl, (qh_ BK107.out 2).trans rfl, (qh_ BK107.out 3).trans rfl⟩ (fun hHeld => ?_)
     clear hK K
     refine norm_ (a' := ?_) ?_ ?_
     rotate_left
     ·show Act.put _ (some 33) _ = _
      simp only [Act.put, q0_, List.set_cons_zero, List.set_cons_succ, i64_w, i32_w]
      rfl
     refine pv_ 3 34 q7_22 (any_of HT_.out (by kernel_rfl)) ?_
     refine pv_ 4 35 q7_21 (any_of HT_.out (by kernel_rfl)) ?_
     refine pu_ 5 36 q7_20 (any_of HT_.out (by kernel_rfl)) ?_
     refine pu_ 6 37 #[true, true, true, true, true, true, true, false, false, false, false, false, false, false, false, false, false, false, false, false, false, false, false, false, false, false] (any_of HT_.out (by kernel_rfl)) ?_
     refine pu_ 7 38 q7_18 (any_of HT_.out (by kernel_rfl)) ?_
     refine pu_ 8 39 q7_17 (any_of HT_.out (by kernel_rfl)) ?_
     refine pu_ 9 40 q7_16 (any_of HT_.out (by kernel_rfl)) ?_
     refine pv_ 10 41 q7_15 (any_of HT_.out (by kernel_rfl)) ?_
     refine pv_ 11 42 q7_14 (any_of HT_.out (by kernel_rfl)) ?_
     refine pu_ 12 43 q7_13 (any_of HT_.out (by kernel_rfl)) ?_
     refine pu_ 13 44 q7_12 (any_of HT_.out (by kernel_rfl)) ?_
     refine pu_ 14 45 q7_11 (any_of HT_.out (by kernel_rfl)) ?_
     refine pu_ 15 46 q7_10 (any_of HT_.out (by kernel_rfl)) ?_
     refine pv_ 16 47 q7_9 (any_of HT_.out (by kernel_rfl)) ?_
     refine pv_ 17 48 q7_8 (any_of HT_.out (by kernel_rfl)) ?_
     refine pu_ 18 49 q7_7 (any_of HT_.out (by kernel_rfl)) ?_
     refine pu_ 19 50 q7_6 (any_of HT_.out (by kernel_rfl)) ?_
     refine pu_ 20 51 q7_5 (any_of HT_.out (by kernel_rfl)) ?_
     refine pu_ 21 52 q7_4 (any_of HT_.out (by kernel_rfl)) ?_
     refine pu_ 22 53 q7_3 (any_of HT_.out (by kernel_rfl)) ?_
     refine pu_ 23 54 q7_2 (any_of HT_.out (by kernel_rfl)) ?_
     refine pu_ 24 55 q7_1 (any_of HT_.out (by kernel_rfl)) ?_
     refine pv_ 25 56 q7_0 (any_of HT_.out (by kernel_rfl)) ?_
     refine done_ (done_of HT_.out (by kernel_rfl)) ?_
     try go_wp2
     go_meet
     case rel => exact ⟨_, (true), (by first | rfl | (simp;done) | (simp [*];done)), H', ⟨by have := HJ2.out;first | omega | exact Nat.le_refl _⟩, ⟨by (with_reducible repeat (first | apply Kd.N_alloc | apply Kd.N_drewN | apply Kd.N_drew));exact HO106.out⟩, ⟨by (with_reducible repeat (first | apply Kd.N_alloc | apply Kd.N_drewN | apply Kd.N_drew));exact HO114.out⟩, ⟨by (with_reducible repeat (first | refine qc_ ?_ _ | refine qd_ ?_ | refine qb_ ?_ _));exact BK107.out⟩, ⟨by (with_reducible repeat (first | refine qc_ ?_ _ | refine qd_ ?_ | refine qb_ ?_ _));exact BK116.out⟩, ⟨by repeat (first | (with_reducible first | exact HB.out | apply qg_ | apply qa_ | apply qf_ | refine qe_ ?_ GE107.out | refine qe_ ?_ GE116.out) | exact HB.out)⟩⟩
    rw [if_pos c21] at H
    have c21b0 : (t108.toList == t117.toList) = true := beq_iff_eq.mpr c21
    have c21b1 : (t108.toList != t117.toList) = false := bne_eq_false_iff_eq.mpr c21
    clear c21
    (first | rw [c21b0] | (simp only [i64_w, i32_w];rw [c21b0]) | skip)
    replace H := Option.bind_eq_some_iff.mp H
    obtain ⟨t118, A220, H⟩ := H
    replace H : ((spec_ExOk.f kj2 t101 t102 t103 t104).bind fun t119 => (if (t118 != t119) = true then (laws_FnEx.j1 kj2 l1 true) else ((spec_ExOk.f kj2 t101 t102 t103 t104).bind fun t120 => (if (t115 != t120) = true then (laws_FnEx.j1 kj2 l1 true) else (if t115 = true then ((impl_ExSame.f kj2 t109 t110 t111 t112 t101 t102 t103 t104).bind fun t121 => (laws_FnEx.j1 kj2 l1 (!t121))) else (laws_FnEx.j1 kj2 l1 false)))))) = some r := H
    have A22 := m0_ A220
    clear A220
    replace H := Option.bind_eq_some_iff.mp H
    obtain ⟨t119, A230, H⟩ := H
    replace H : (if (t118 != t119) = true then (laws_FnEx.j1 kj2 l1 true) else ((spec_ExOk.f kj2 t101 t102 t103 t104).bind fun t120 => (if (t115 != t120) = true then (laws_FnEx.j1 kj2 l1 true) else (if t115 = true then ((impl_ExSame.f kj2 t109 t110 t111 t112 t101 t102 t103 t104).bind fun t121 => (laws_FnEx.j1 kj2 l1 (!t121))) else (laws_FnEx.j1 kj2 l1 false))))) = some r := H
    have A23 := m0_ A230
    clear A230
    by_cases c24 : (t118 != t119) = true
    ·rw [if_pos c24] at H
     have c24b0 : (t118 != t119) = true := c24
     (try (have c24b1 : decide (t118 = t119) = false := by simpa using c24))
     (try (have c24b2 : (t118 == t119) = false := by simpa using c24))
     (try (have c24b3 : ¬ (t118 = t119) := by simpa using c24))
     clear c24
     have H' := m0_ H
     clear H
     try go_wp2
     have n0_ : Aside0 (Kd.N k29 29 ((((w16.setCell ⟨gb116, 0, none⟩ (.int .i64 t109)).setCell ⟨gb116, 1, none⟩ (.int .i64 t110)).setCell ⟨gb116, 2, none⟩ (.int .i64 t111)).setCell ⟨gb116, 3, none⟩ (.slice Ao19 t112.length co19)) w.heap.size (fun k_ => some k_ ≠ (.slice Ao19 t112.length co19 : Value).ownBlock ∧ k_ ≠ gb107 ∧ k_ ≠ gb116) (.slice Ao13 t104.length co13) t104) := ⟨by (with_reducible repeat (first | apply Kd.N_alloc | apply Kd.N_drewN | apply Kd.N_drew));exact Kd.N_mono (Kd.N_far (p := ⟨gb116, 3, none⟩) (Kd.N_far (p := ⟨gb116, 2, none⟩) (Kd.N_far (p := ⟨gb116, 1, none⟩) (Kd.N_far (p := ⟨gb116, 0, none⟩) (Kd.N_mono HO106.out (fun k_ hk => (⟨hk, hk.2⟩ : _ ∧ k_ ≠ gb116))) (fun _ hk => hk.2) (.int .i64 t109)) (fun _ hk => hk.2) (.int .i64 t110)) (fun _ hk => hk.2) (.int .i64 t111)) (fun _ hk => hk.2) (.slice Ao19 t112.length co19)) (fun _ hk => ⟨hk.1.1.2, ⟨hk.1.1.1.2, hk.1.2⟩⟩)⟩
     have n1_ : Aside0 (Kd.N k29 29 ((((w16.setCell ⟨gb116, 0, none⟩ (.int .i64 t109)).setCell ⟨gb116, 1, none⟩ (.int .i64 t110)).setCell ⟨gb116, 2, none⟩ (.int .i64 t111)).setCell ⟨gb116, 3, none⟩ (.slice Ao19 t112.length co19)) w.heap.size (fun k_ => some k_ ≠ (.slice Ao13 t104.length co13 : Value).ownBlock ∧ k_ ≠ gb107 ∧ k_ ≠ gb116) (.slice Ao19 t112.length co19) t112) := ⟨by (with_reducible repeat (first | apply Kd.N_alloc | apply Kd.N_drewN | apply Kd.N_drew));exact Kd.N_mono (Kd.N_far (p := ⟨gb116, 3, none⟩) (Kd.N_far (p := ⟨gb116, 2, none⟩) (Kd.N_far (p := ⟨gb116, 1, none⟩) (Kd.N_far (p := ⟨gb116, 0, none⟩) (Kd.N_mono HO114.out (fun k_ hk => (⟨hk, hk.2⟩ : _ ∧ k_ ≠ gb116))) (fun _ hk => hk.2) (.int .i64 t109)) (fun _ hk => hk.2) (.int .i64 t110)) (fun _ hk => hk.2) (.int .i64 t111)) (fun _ hk => hk.2) (.slice Ao19 t112.length co19)) (fun _ hk => ⟨hk.1.1.1, ⟨hk.1.1.2, hk.1.2⟩⟩)⟩
     have n2_ : Aside0 (((((w16.setCell ⟨gb116, 0, none⟩ (.int .i64 t109)).setCell ⟨gb116, 1, none⟩ (.int .i64 t110)).setCell ⟨gb116, 2, none⟩ (.int .i64 t111)).setCell ⟨gb116, 3, none⟩ (.slice Ao19 t112.length co19)).heap[gb107]? = some (.cells #[.int .i64 t101, .int .i64 t102, .int .i64 t103, .slice Ao13 t104.length co13] 29 (0, 0))) := ⟨by (with_reducible repeat (first | refine qc_ ?_ _ | refine qd_ ?_ | refine qb_ ?_ _));refine qt_ ?_ NB107_116.out _;(with_reducible repeat (first | refine qc_ ?_ _ | refine qd_ ?_ | refine qb_ ?_ _));refine qt_ ?_ NB107_116.out _;(with_reducible repeat (first | refine qc_ ?_ _ | refine qd_ ?_ | refine qb_ ?_ _));refine qt_ ?_ NB107_116.out _;(with_reducible repeat (first | refine qc_ ?_ _ | refine qd_ ?_ | refine qb_ ?_ _));refine qt_ ?_ NB107_116.out _;(with_reducible repeat (first | refine qc_ ?_ _ | refine qd_ ?_ | refine qb_ ?_ _));exact BK107.out⟩
     have n3_ : Aside0 (((((w16.setCell ⟨gb116, 0, none⟩ (.int .i64 t109)).setCell ⟨gb116, 1, none⟩ (.int .i64 t110)).setCell ⟨gb116, 2, none⟩ (.int .i64 t111)).setCell ⟨gb116, 3, none⟩ (.slice Ao19 t112.length co19)).heap[gb116]? = some (.cells #[.int .i64 t109, .int .i64 t110, .int .i64 t111, .slice Ao19 t112.length co19] 29 (0, 0))) := ⟨by (with_reducible repeat (first | refine qc_ ?_ _ | refine qd_ ?_ | refine qb_ ?_ _));refine ql_ (cs := #[.int .i64 t109, .int .i64 t110, .int .i64 t111, .slice none 0 0]) ?_ 3 _ rfl;(with_reducible repeat (first | refine qc_ ?_ _ | refine qd_ ?_ | refine qb_ ?_ _));refine ql_ (cs := #[.int .i64 t109, .int .i64 t110, .int .i64 0, .slice none 0 0]) ?_ 2 _ rfl;(with_reducible repeat (first | refine qc_ ?_ _ | refine qd_ ?_ | refine qb_ ?_ _));refine ql_ (cs := #[.int .i64 t109, .int .i64 0, .int .i64 0, .slice none 0 0]) ?_ 1 _ rfl;(with_reducible repeat (first | refine qc_ ?_ _ | refine qd_ ?_ | refine qb_ ?_ _));refine ql_ (cs := #[.int .i64 0, .int .i64 0, .int .i64 0, .slice none 0 0]) ?_ 0 _ rfl;(with_reducible repeat (first | refine qc_ ?_ _ | refine qd_ ?_ | refine qb_ ?_ _));exact BK116.out⟩
     have n4_ : Aside0 (Below w.heap.size w ((((w16.setCell ⟨gb116, 0, none⟩ (.int .i64 t109)).setCell ⟨gb116, 1, none⟩ (.int .i64 t110)).setCell ⟨gb116, 2, none⟩ (.int .i64 t111)).setCell ⟨gb116, 3, none⟩ (.slice Ao19 t112.length co19))) := ⟨by repeat (first | (with_reducible first | exact HB.out | apply qg_ | apply qa_ | apply qf_ | refine qe_ ?_ GE107.out | refine qe_ ?_ GE116.out) | exact HB.out)⟩
     (try clear HO106)
     (try clear HO114)
     (try clear BK107)
     (try clear BK116)
     (try clear HB)
     generalize ((((w16.setCell ⟨gb116, 0, none⟩ (.int .i64 t109)).setCell ⟨gb116, 1, none⟩ (.int .i64 t110)).setCell ⟨gb116, 2, none⟩ (.int .i64 t111)).setCell ⟨gb116, 3, none⟩ (.slice Ao19 t112.length co19)) = w25 at n0_ n1_ n2_ n3_ n4_ ⊢
     have HO106 := n0_
     have HO114 := n1_
     have BK107 := n2_
     have BK116 := n3_
     have HB := n4_
     clear n0_ n1_ n2_ n3_ n4_
     replace HO106 := m0_ (Kd.N_drew HO106.out)
     replace HO114 := m0_ (Kd.N_drew HO114.out)
     replace BK107 := m0_ (qd_ BK107.out)
     replace BK116 := m0_ (qd_ BK116.out)
     replace HB := m0_ (qf_ HB.out)
     refine start_ (n := 26) (S := fun w' => w'.cell? ⟨gb107, 0, none⟩ = some (.int .i64 t101) ∧ w'.cell? ⟨gb107, 1, none⟩ = some (.int .i64 t102) ∧ w'.cell? ⟨gb107, 2, none⟩ = some (.int .i64 t103) ∧ w'.cell? ⟨gb107, 3, none⟩ = some (.slice Ao13 t104.length co13)) (ds := []) q7_26 (by kernel_rfl) rfl rfl ⟨(qh_ BK107.out 0).trans rfl, (qh_ BK107.out 1).trans rfl, (qh_ BK107.out 2).trans rfl, (qh_ BK107.out 3).trans rfl⟩ (fun hHeld => ?_);refine with_tabW laws_FnEx.tab6 laws_FnEx.bits6 (fun HT_ HW_ => ?_)
     generalize w25.drew = w26 at HO106 HO114 BK107 BK116 HB hHeld ⊢
     refine pv_ 0 31 q7_25 (any_of HT_.out (by kernel_rfl)) ?_
     refine take_ (i := 1) (N := some 32) (v := ?_) (a' := ?_) q7_24 rfl rfl (take_ofW HT_.out HW_.out (by kernel_rfl)) (fun _ _ _ h => h) (Or.inl ⟨by rfl, ?_⟩) hHeld ?_ ?_
     rotate_left
     ·rintro w' ⟨s0, s1, s2, s3⟩
      go_simp
      with_reducible rfl
     rotate_left
     ·simp only [Act.put, q0_, List.set_cons_zero, List.set_cons_succ, i64_w, i32_w]
      rfl
     refine one_ (i := 2) (N := some 33) q7_23 rfl rfl (one_of HT_.out (by kernel_rfl)) (by decide) (fun K hK => ?_)
     refine goes_ Tryd.func9 (by kernel_rfl) rfl #[.agg #[.int .i64 t101, .int .i64 t102, .int .i64 t103, .slice Ao13 t104.length co13]] (by rfl) rfl rfl (by (try simp only [List.map_toArray, List.map_cons, List.map_nil]);first | done | rfl | (simp only [List.length_drop, List.length_take];rfl)) ?_
     with_reducible refine (spec_ExText.calls kj2 t101 t102 t103 _ _ t104 t117 _ ?side1 ?side2 A20.out).mono ?_
     (case side1 => repeat (first | exact (Kd.N_reads' HO106.out).2.2 | (with_reducible refine Kd.C_alloc ?_ _) | (with_reducible refine Kd.C_drewN ?_ _) | (with_reducible refine Kd.C_drew ?_)))
     (case side2 => exact (Kd.N_reads' HO106.out).2.1)
     rintro e w27 ⟨rfl, hb⟩
     refine ⟨_, rfl, ?_⟩
     replace HO106 := m0_ (Kd.N_below (by exact HO106.out) hb)
     replace HO114 := m0_ (Kd.N_below (by exact HO114.out) hb)
     replace BK107 := m0_ (qk_ BK107.out hb)
     replace BK116 := m0_ (qk_ BK116.out hb)
     replace HB := m0_ (qj_ (by repeat (first | (with_reducible first | exact HB.out | apply qg_ | apply qa_ | apply qf_ | refine qe_ ?_ GE107.out | refine qe_ ?_ GE116.out) | exact HB.out)) hb)
     (try clear hb)
     (try clear hb2)
     (try clear hk)
     (try clear hi)
     refine hK.out _ _ ⟨(qh_ BK107.out 0).trans rfl, (qh_ BK107.out 1).trans rfl, (qh_ BK107.out 2).trans rfl, (qh_ BK107.out 3).trans rfl⟩ (fun hHeld => ?_)
     clear hK K
     refine norm_ (a' := ?_) ?_ ?_
     rotate_left
     ·show Act.put _ (some 33) _ = _
      simp only [Act.put, q0_, List.set_cons_zero, List.set_cons_succ, i64_w, i32_w]
      rfl
     refine pv_ 3 34 q7_22 (any_of HT_.out (by kernel_rfl)) ?_
     refine pv_ 4 35 q7_21 (any_of HT_.out (by kernel_rfl)) ?_
     refine take_ (i := 5) (N := some 36) (v := ?_) (a' := ?_) q7_20 rfl rfl (take_ofW HT_.out HW_.out (by kernel_rfl)) (fun _ _ _ h => h) (Or.inl ⟨by rfl, ?_⟩) hHeld ?_ ?_
     rotate_left
     ·rintro w' ⟨s0, s1, s2, s3⟩
      go_simp
      with_reducible rfl
     rotate_left
     ·simp only [Act.put, q0_, List.set_cons_zero, List.set_cons_succ, i64_w, i32_w]
      rfl
     refine take_ (i := 7) (N := some 38) (v := ?_) (a' := ?_) q7_19 rfl rfl (take_ofW HT_.out HW_.out (by kernel_rfl)) (fun _ _ _ h => h) (Or.inl ⟨by rfl, ?_⟩) hHeld ?_ ?_
     rotate_left
     ·rintro w' ⟨s0, s1, s2, s3⟩
      go_simp
      with_reducible rfl
     rotate_left
     ·simp only [Act.put, q0_, List.set_cons_zero, List.set_cons_succ, i64_w, i32_w]
      rfl
     refine one_ (i := 6) (N := some 37) q7_18 rfl rfl (one_of HT_.out (by kernel_rfl)) (by decide) (fun K hK => ?_)
     refine goes_ Tryd.func19 (by kernel_rfl) rfl #[.agg #[.int .i64 t101, .int .i64 t102, .int .i64 t103, .slice Ao13 t104.length co13]] (by rfl) rfl rfl (by (try simp only [List.map_toArray, List.map_cons, List.map_nil]);first | done | rfl | (simp only [List.length_drop, List.length_take];rfl)) ?_
     with_reducible refine (impl_ExOk.calls kj2 t101 t102 t103 _ _ t104 t118 _ ?side1 ?side2 A22.out).mono ?_
     (case side1 => repeat (first | exact (Kd.N_reads' HO106.out).2.2 | (with_reducible refine Kd.C_alloc ?_ _) | (with_reducible refine Kd.C_drewN ?_ _) | (with_reducible refine Kd.C_drew ?_)))
     (case side2 => exact (Kd.N_reads' HO106.out).2.1)
     rintro e w28 ⟨rfl, hb⟩
     refine ⟨_, rfl, ?_⟩
     replace HO106 := m0_ (Kd.N_below (by exact HO106.out) hb)
     replace HO114 := m0_ (Kd.N_below (by exact HO114.out) hb)
     replace BK107 := m0_ (qk_ BK107.out hb)
     replace BK116 := m0_ (qk_ BK116.out hb)
     replace HB := m0_ (qj_ (by repeat (first | (with_reducible first | exact HB.out | apply qg_ | apply qa_ | apply qf_ | refine qe_ ?_ GE107.out | refine qe_ ?_ GE116.out) | exact HB.out)) hb)
     (try clear hb)
     (try clear hb2)
     (try clear hk)
     (try clear hi)
     refine hK.out _ _ ⟨(qh_ BK107.out 0).trans rfl, (qh_ BK107.out 1).trans rfl, (qh_ BK107.out 2).trans rfl, (qh_ BK107.out 3).trans rfl⟩ (fun hHeld => ?_)
     clear hK K
     refine norm_ (a' := ?_) ?_ ?_
     rotate_left
     ·show Act.put _ (some 37) _ = _
      simp only [Act.put, q0_, List.set_cons_zero, List.set_cons_succ, i64_w, i32_w]
      rfl
     refine one_ (i := 8) (N := some 39) q7_17 rfl rfl (one_of HT_.out (by kernel_rfl)) (by decide) (fun K hK => ?_)
     refine goes_ Tryd.func17 (by kernel_rfl) rfl #[.agg #[.int .i64 t101, .int .i64 t102, .int .i64 t103, .slice Ao13 t104.length co13]] (by rfl) rfl rfl (by (try simp only [List.map_toArray, List.map_cons, List.map_nil]);first | done | rfl | (simp only [List.length_drop, List.length_take];rfl)) ?_
     with_reducible refine (spec_ExOk.calls kj2 t101 t102 t103 _ _ t104 t119 _ ?side1 ?side2 A23.out).mono ?_
     (case side1 => repeat (first | exact (Kd.N_reads' HO106.out).2.2 | (with_reducible refine Kd.C_alloc ?_ _) | (with_reducible refine Kd.C_drewN ?_ _) | (with_reducible refine Kd.C_drew ?_)))
     (case side2 => exact (Kd.N_reads' HO106.out).2.1)
     rintro e w29 ⟨rfl, hb⟩
     refine ⟨_, rfl, ?_⟩
     replace HO106 := m0_ (Kd.N_below (by exact HO106.out) hb)
     replace HO114 := m0_ (Kd.N_below (by exact HO114.out) hb)
     replace BK107 := m0_ (qk_ BK107.out hb)
     replace BK116 := m0_ (qk_ BK116.out hb)
     replace HB := m0_ (qj_ (by repeat (first | (with_reducible first | exact HB.out | apply qg_ | apply qa_ | apply qf_ | refine qe_ ?_ GE107.out | refine qe_ ?_ GE116.out) | exact HB.out)) hb)
     (try clear hb)
     (try clear hb2)
     (try clear hk)
     (try clear hi)
     refine hK.out _ _ ⟨(qh_ BK107.out 0).trans rfl, (qh_ BK107.out 1).trans rfl, (qh_ BK107.out 2).trans rfl, (qh_ BK107.out 3).trans rfl⟩ (fun hHeld => ?_)
     clear hK K
     refine norm_ (a' := ?_) ?_ ?_
     rotate_left
     ·show Act.put _ (some 39) _ = _
      simp only [Act.put, q0_, List.set_cons_zero, List.set_cons_succ, i64_w, i32_w]
      rfl
     refine pv_ 9 40 q7_16 (any_of HT_.out (by kernel_rfl)) ?_
     refine pv_ 10 41 q7_15 (any_of HT_.out (by kernel_rfl)) ?_
     refine pv_ 11 42 q7_14 (any_of HT_.out (by kernel_rfl)) ?_
     refine pu_ 12 43 q7_13 (any_of HT_.out (by kernel_rfl)) ?_
     refine pu_ 13 44 q7_12 (any_of HT_.out (by kernel_rfl)) ?_
     refine pu_ 14 45 q7_11 (any_of HT_.out (by kernel_rfl)) ?_
     refine pu_ 15 46 q7_10 (any_of HT_.out (by kernel_rfl)) ?_
     refine pv_ 16 47 q7_9 (any_of HT_.out (by kernel_rfl)) ?_
     refine pv_ 17 48 q7_8 (any_of HT_.out (by kernel_rfl)) ?_
     refine pu_ 18 49 q7_7 (any_of HT_.out (by kernel_rfl)) ?_
     refine pu_ 19 50 q7_6 (any_of HT_.out (by kernel_rfl)) ?_
     refine pu_ 20 51 q7_5 (any_of HT_.out (by kernel_rfl)) ?_
     refine pu_ 21 52 q7_4 (any_of HT_.out (by kernel_rfl)) ?_
     refine pu_ 22 53 q7_3 (any_of HT_.out (by kernel_rfl)) ?_
     refine pu_ 23 54 q7_2 (any_of HT_.out (by kernel_rfl)) ?_
     refine pu_ 24 55 q7_1 (any_of HT_.out (by kernel_rfl)) ?_
     refine pv_ 25 56 q7_0 (any_of HT_.out (by kernel_rfl)) ?_
     refine done_ (done_of HT_.out (by kernel_rfl)) ?_
     try go_wp2
     go_meet
     case rel => exact ⟨_, (true), (by first | rfl | (simp;done) | (simp [*];done)), H', ⟨by have := HJ2.out;first | omega | exact Nat.le_refl _⟩, ⟨by (with_reducible repeat (first | apply Kd.N_alloc | apply Kd.N_drewN | apply Kd.N_drew));exact HO106.out⟩, ⟨by (with_reducible repeat (first | apply Kd.N_alloc | apply Kd.N_drewN | apply Kd.N_drew));exact HO114.out⟩, ⟨by (with_reducible repeat (first | refine qc_ ?_ _ | refine qd_ ?_ | refine qb_ ?_ _));exact BK107.out⟩, ⟨by (with_reducible repeat (first | refine qc_ ?_ _ | refine qd_ ?_ | refine qb_ ?_ _));exact BK116.out⟩, ⟨by repeat (first | (with_reducible first | exact HB.out | apply qg_ | apply qa_ | apply qf_ | refine qe_ ?_ GE107.out | refine qe_ ?_ GE116.out) | exact HB.out)⟩⟩
    rw [if_neg c24] at H
    have c24b0 : (t118 != t119) = false := by simpa using c24
    (try (have c24b1 : decide (t118 = t119) = true := by simpa using c24))
    (try (have c24b2 : (t118 == t119) = true := by simpa using c24))
    clear c24
    replace H := Option.bind_eq_some_iff.mp H
    obtain ⟨t120, A300, H⟩ := H
    replace H : (if (t115 != t120) = true then (laws_FnEx.j1 kj2 l1 true) else (if t115 = true then ((impl_ExSame.f kj2 t109 t110 t111 t112 t101 t102 t103 t104).bind fun t121 => (laws_FnEx.j1 kj2 l1 (!t121))) else (laws_FnEx.j1 kj2 l1 false))) = some r := H
    have A30 := m0_ A300
    clear A300
    by_cases c31 : (t115 != t120) = true
    ·rw [if_pos c31] at H
     have c31b0 : (t115 != t120) = true := c31
     (try (have c31b1 : decide (t115 = t120) = false := by simpa using c31))
     (try (have c31b2 : (t115 == t120) = false := by simpa using c31))
     (try (have c31b3 : ¬ (t115 = t120) := by simpa using c31))
     clear c31
     have H' := m0_ H
     clear H
     try go_wp2
     have n0_ : Aside0 (Kd.N k29 29 ((((w16.setCell ⟨gb116, 0, none⟩ (.int .i64 t109)).setCell ⟨gb116, 1, none⟩ (.int .i64 t110)).setCell ⟨gb116, 2, none⟩ (.int .i64 t111)).setCell ⟨gb116, 3, none⟩ (.slice Ao19 t112.length co19)) w.heap.size (fun k_ => some k_ ≠ (.slice Ao19 t112.length co19 : Value).ownBlock ∧ k_ ≠ gb107 ∧ k_ ≠ gb116) (.slice Ao13 t104.length co13) t104) := ⟨by (with_reducible repeat (first | apply Kd.N_alloc | apply Kd.N_drewN | apply Kd.N_drew));exact Kd.N_mono (Kd.N_far (p := ⟨gb116, 3, none⟩) (Kd.N_far (p := ⟨gb116, 2, none⟩) (Kd.N_far (p := ⟨gb116, 1, none⟩) (Kd.N_far (p := ⟨gb116, 0, none⟩) (Kd.N_mono HO106.out (fun k_ hk => (⟨hk, hk.2⟩ : _ ∧ k_ ≠ gb116))) (fun _ hk => hk.2) (.int .i64 t109)) (fun _ hk => hk.2) (.int .i64 t110)) (fun _ hk => hk.2) (.int .i64 t111)) (fun _ hk => hk.2) (.slice Ao19 t112.length co19)) (fun _ hk => ⟨hk.1.1.2, ⟨hk.1.1.1.2, hk.1.2⟩⟩)⟩
     have n1_ : Aside0 (Kd.N k29 29 ((((w16.setCell ⟨gb116, 0, none⟩ (.int .i64 t109)).setCell ⟨gb116, 1, none⟩ (.int .i64 t110)).setCell ⟨gb116, 2, none⟩ (.int .i64 t111)).setCell ⟨gb116, 3, none⟩ (.slice Ao19 t112.length co19)) w.heap.size (fun k_ => some k_ ≠ (.slice Ao13 t104.length co13 : Value).ownBlock ∧ k_ ≠ gb107 ∧ k_ ≠ gb116) (.slice Ao19 t112.length co19) t112) := ⟨by (with_reducible repeat (first | apply Kd.N_alloc | apply Kd.N_drewN | apply Kd.N_drew));exact Kd.N_mono (Kd.N_far (p := ⟨gb116, 3, none⟩) (Kd.N_far (p := ⟨gb116, 2, none⟩) (Kd.N_far (p := ⟨gb116, 1, none⟩) (Kd.N_far (p := ⟨gb116, 0, none⟩) (Kd.N_mono HO114.out (fun k_ hk => (⟨hk, hk.2⟩ : _ ∧ k_ ≠ gb116))) (fun _ hk => hk.2) (.int .i64 t109)) (fun _ hk => hk.2) (.int .i64 t110)) (fun _ hk => hk.2) (.int .i64 t111)) (fun _ hk => hk.2) (.slice Ao19 t112.length co19)) (fun _ hk => ⟨hk.1.1.1, ⟨hk.1.1.2, hk.1.2⟩⟩)⟩
     have n2_ : Aside0 (((((w16.setCell ⟨gb116, 0, none⟩ (.int .i64 t109)).setCell ⟨gb116, 1, none⟩ (.int .i64 t110)).setCell ⟨gb116, 2, none⟩ (.int .i64 t111)).setCell ⟨gb116, 3, none⟩ (.slice Ao19 t112.length co19)).heap[gb107]? = some (.cells #[.int .i64 t101, .int .i64 t102, .int .i64 t103, .slice Ao13 t104.length co13] 29 (0, 0))) := ⟨by (with_reducible repeat (first | refine qc_ ?_ _ | refine qd_ ?_ | refine qb_ ?_ _));refine qt_ ?_ NB107_116.out _;(with_reducible repeat (first | refine qc_ ?_ _ | refine qd_ ?_ | refine qb_ ?_ _));refine qt_ ?_ NB107_116.out _;(with_reducible repeat (first | refine qc_ ?_ _ | refine qd_ ?_ | refine qb_ ?_ _));refine qt_ ?_ NB107_116.out _;(with_reducible repeat (first | refine qc_ ?_ _ | refine qd_ ?_ | refine qb_ ?_ _));refine qt_ ?_ NB107_116.out _;(with_reducible repeat (first | refine qc_ ?_ _ | refine qd_ ?_ | refine qb_ ?_ _));exact BK107.out⟩
     have n3_ : Aside0 (((((w16.setCell ⟨gb116, 0, none⟩ (.int .i64 t109)).setCell ⟨gb116, 1, none⟩ (.int .i64 t110)).setCell ⟨gb116, 2, none⟩ (.int .i64 t111)).setCell ⟨gb116, 3, none⟩ (.slice Ao19 t112.length co19)).heap[gb116]? = some (.cells #[.int .i64 t109, .int .i64 t110, .int .i64 t111, .slice Ao19 t112.length co19] 29 (0, 0))) := ⟨by (with_reducible repeat (first | refine qc_ ?_ _ | refine qd_ ?_ | refine qb_ ?_ _));refine ql_ (cs := #[.int .i64 t109, .int .i64 t110, .int .i64 t111, .slice none 0 0]) ?_ 3 _ rfl;(with_reducible repeat (first | refine qc_ ?_ _ | refine qd_ ?_ | refine qb_ ?_ _));refine ql_ (cs := #[.int .i64 t109, .int .i64 t110, .int .i64 0, .slice none 0 0]) ?_ 2 _ rfl;(with_reducible repeat (first | refine qc_ ?_ _ | refine qd_ ?_ | refine qb_ ?_ _));refine ql_ (cs := #[.int .i64 t109, .int .i64 0, .int .i64 0, .slice none 0 0]) ?_ 1 _ rfl;(with_reducible repeat (first | refine qc_ ?_ _ | refine qd_ ?_ | refine qb_ ?_ _));refine ql_ (cs := #[.int .i64 0, .int .i64 0, .int .i64 0, .slice none 0 0]) ?_ 0 _ rfl;(with_reducible repeat (first | refine qc_ ?_ _ | refine qd_ ?_ | refine qb_ ?_ _));exact BK116.out⟩
     have n4_ : Aside0 (Below w.heap.size w ((((w16.setCell ⟨gb116, 0, none⟩ (.int .i64 t109)).setCell ⟨gb116, 1, none⟩ (.int .i64 t110)).setCell ⟨gb116, 2, none⟩ (.int .i64 t111)).setCell ⟨gb116, 3, none⟩ (.slice Ao19 t112.length co19))) := ⟨by repeat (first | (with_reducible first | exact HB.out | apply qg_ | apply qa_ | apply qf_ | refine qe_ ?_ GE107.out | refine qe_ ?_ GE116.out) | exact HB.out)⟩
     (try clear HO106)
     (try clear HO114)
     (try clear BK107)
     (try clear BK116)
     (try clear HB)
     generalize ((((w16.setCell ⟨gb116, 0, none⟩ (.int .i64 t109)).setCell ⟨gb116, 1, none⟩ (.int .i64 t110)).setCell ⟨gb116, 2, none⟩ (.int .i64 t111)).setCell ⟨gb116, 3, none⟩ (.slice Ao19 t112.length co19)) = w32 at n0_ n1_ n2_ n3_ n4_ ⊢
     have HO106 := n0_
     have HO114 := n1_
     have BK107 := n2_
     have BK116 := n3_
     have HB := n4_
     clear n0_ n1_ n2_ n3_ n4_
     replace HO106 := m0_ (Kd.N_drew HO106.out)
     replace HO114 := m0_ (Kd.N_drew HO114.out)
     replace BK107 := m0_ (qd_ BK107.out)
     replace BK116 := m0_ (qd_ BK116.out)
     replace HB := m0_ (qf_ HB.out)
     refine start_ (n := 26) (S := fun w' => w'.cell? ⟨gb107, 0, none⟩ = some (.int .i64 t101) ∧ w'.cell? ⟨gb107, 1, none⟩ = some (.int .i64 t102) ∧ w'.cell? ⟨gb107, 2, none⟩ = some (.int .i64 t103) ∧ w'.cell? ⟨gb107, 3, none⟩ = some (.slice Ao13 t104.length co13)) (ds := []) q7_26 (by kernel_rfl) rfl rfl ⟨(qh_ BK107.out 0).trans rfl, (qh_ BK107.out 1).trans rfl, (qh_ BK107.out 2).trans rfl, (qh_ BK107.out 3).trans rfl⟩ (fun hHeld => ?_);refine with_tabW laws_FnEx.tab6 laws_FnEx.bits6 (fun HT_ HW_ => ?_)
     generalize w32.drew = w33 at HO106 HO114 BK107 BK116 HB hHeld ⊢
     refine pv_ 0 31 q7_25 (any_of HT_.out (by kernel_rfl)) ?_
     refine take_ (i := 1) (N := some 32) (v := ?_) (a' := ?_) q7_24 rfl rfl (take_ofW HT_.out HW_.out (by kernel_rfl)) (fun _ _ _ h => h) (Or.inl ⟨by rfl, ?_⟩) hHeld ?_ ?_
     rotate_left
     ·rintro w' ⟨s0, s1, s2, s3⟩
      go_simp
      with_reducible rfl
     rotate_left
     ·simp only [Act.put, q0_, List.set_cons_zero, List.set_cons_succ, i64_w, i32_w]
      rfl
     refine one_ (i := 2) (N := some 33) q7_23 rfl rfl (one_of HT_.out (by kernel_rfl)) (by decide) (fun K hK => ?_)
     refine goes_ Tryd.func9 (by kernel_rfl) rfl #[.agg #[.int .i64 t101, .int .i64 t102, .int .i64 t103, .slice Ao13 t104.length co13]] (by rfl) rfl rfl (by (try simp only [List.map_toArray, List.map_cons, List.map_nil]);first | done | rfl | (simp only [List.length_drop, List.length_take];rfl)) ?_
     with_reducible refine (spec_ExText.calls kj2 t101 t102 t103 _ _ t104 t117 _ ?side1 ?side2 A20.out).mono ?_
     (case side1 => repeat (first | exact (Kd.N_reads' HO106.out).2.2 | (with_reducible refine Kd.C_alloc ?_ _) | (with_reducible refine Kd.C_drewN ?_ _) | (with_reducible refine Kd.C_drew ?_)))
     (case side2 => exact (Kd.N_reads' HO106.out).2.1)
     rintro e w34 ⟨rfl, hb⟩
     refine ⟨_, rfl, ?_⟩
     replace HO106 := m0_ (Kd.N_below (by exact HO106.out) hb)
     replace HO114 := m0_ (Kd.N_below (by exact HO114.out) hb)
     replace BK107 := m0_ (qk_ BK107.out hb)
     replace BK116 := m0_ (qk_ BK116.out hb)
     replace HB := m0_ (qj_ (by repeat (first | (with_reducible first | exact HB.out | apply qg_ | apply qa_ | apply qf_ | refine qe_ ?_ GE107.out | refine qe_ ?_ GE116.out) | exact HB.out)) hb)
     (try clear hb)
     (try clear hb2)
     (try clear hk)
     (try clear hi)
     refine hK.out _ _ ⟨(qh_ BK107.out 0).trans rfl, (qh_ BK107.out 1).trans rfl, (qh_ BK107.out 2).trans rfl, (qh_ BK107.out 3).trans rfl⟩ (fun hHeld => ?_)
     clear hK K
     refine norm_ (a' := ?_) ?_ ?_
     rotate_left
     ·show Act.put _ (some 33) _ = _
      simp only [Act.put, q0_, List.set_cons_zero, List.set_cons_succ, i64_w, i32_w]
      rfl
     refine pv_ 3 34 q7_22 (any_of HT_.out (by kernel_rfl)) ?_
     refine pv_ 4 35 q7_21 (any_of HT_.out (by kernel_rfl)) ?_
     refine take_ (i := 5) (N := some 36) (v := ?_) (a' := ?_) q7_20 rfl rfl (take_ofW HT_.out HW_.out (by kernel_rfl)) (fun _ _ _ h => h) (Or.inl ⟨by rfl, ?_⟩) hHeld ?_ ?_
     rotate_left
     ·rintro w' ⟨s0, s1, s2, s3⟩
      go_simp
      with_reducible rfl
     rotate_left
     ·simp only [Act.put, q0_, List.set_cons_zero, List.set_cons_succ, i64_w, i32_w]
      rfl
     refine take_ (i := 7) (N := some 38) (v := ?_) (a' := ?_) q7_19 rfl rfl (take_ofW HT_.out HW_.out (by kernel_rfl)) (fun _ _ _ h => h) (Or.inl ⟨by rfl, ?_⟩) hHeld ?_ ?_
     rotate_left
     ·rintro w' ⟨s0, s1, s2, s3⟩
      go_simp
      with_reducible rfl
     rotate_left
     ·simp only [Act.put, q0_, List.set_cons_zero, List.set_cons_succ, i64_w, i32_w]
      rfl
     refine one_ (i := 6) (N := some 37) q7_18 rfl rfl (one_of HT_.out (by kernel_rfl)) (by decide) (fun K hK => ?_)
     refine goes_ Tryd.func19 (by kernel_rfl) rfl #[.agg #[.int .i64 t101, .int .i64 t102, .int .i64 t103, .slice Ao13 t104.length co13]] (by rfl) rfl rfl (by (try simp only [List.map_toArray, List.map_cons, List.map_nil]);first | done | rfl | (simp only [List.length_drop, List.length_take];rfl)) ?_
     with_reducible refine (impl_ExOk.calls kj2 t101 t102 t103 _ _ t104 t118 _ ?side1 ?side2 A22.out).mono ?_
     (case side1 => repeat (first | exact (Kd.N_reads' HO106.out).2.2 | (with_reducible refine Kd.C_alloc ?_ _) | (with_reducible refine Kd.C_drewN ?_ _) | (with_reducible refine Kd.C_drew ?_)))
     (case side2 => exact (Kd.N_reads' HO106.out).2.1)
     rintro e w35 ⟨rfl, hb⟩
     refine ⟨_, rfl, ?_⟩
     replace HO106 := m0_ (Kd.N_below (by exact HO106.out) hb)
     replace HO114 := m0_ (Kd.N_below (by exact HO114.out) hb)
     replace BK107 := m0_ (qk_ BK107.out hb)
     replace BK116 := m0_ (qk_ BK116.out hb)
     replace HB := m0_ (qj_ (by repeat (first | (with_reducible first | exact HB.out | apply qg_ | apply qa_ | apply qf_ | refine qe_ ?_ GE107.out | refine qe_ ?_ GE116.out) | exact HB.out)) hb)
     (try clear hb)
     (try clear hb2)
     (try clear hk)
     (try clear hi)
     refine hK.out _ _ ⟨(qh_ BK107.out 0).trans rfl, (qh_ BK107.out 1).trans rfl, (qh_ BK107.out 2).trans rfl, (qh_ BK107.out 3).trans rfl⟩ (fun hHeld => ?_)
     clear hK K
     refine norm_ (a' := ?_) ?_ ?_
     rotate_left
     ·show Act.put _ (some 37) _ = _
      simp only [Act.put, q0_, List.set_cons_zero, List.set_cons_succ, i64_w, i32_w]
      rfl
     refine one_ (i := 8) (N := some 39) q7_17 rfl rfl (one_of HT_.out (by kernel_rfl)) (by decide) (fun K hK => ?_)
     refine goes_ Tryd.func17 (by kernel_rfl) rfl #[.agg #[.int .i64 t101, .int .i64 t102, .int .i64 t103, .slice Ao13 t104.length co13]] (by rfl) rfl rfl (by (try simp only [List.map_toArray, List.map_cons, List.map_nil]);first | done | rfl | (simp only [List.length_drop, List.length_take];rfl)) ?_
     with_reducible refine (spec_ExOk.calls kj2 t101 t102 t103 _ _ t104 t119 _ ?side1 ?side2 A23.out).mono ?_
     (case side1 => repeat (first | exact (Kd.N_reads' HO106.out).2.2 | (with_reducible refine Kd.C_alloc ?_ _) | (with_reducible refine Kd.C_drewN ?_ _) | (with_reducible refine Kd.C_drew ?_)))
     (case side2 => exact (Kd.N_reads' HO106.out).2.1)
     rintro e w36 ⟨rfl, hb⟩
     refine ⟨_, rfl, ?_⟩
     replace HO106 := m0_ (Kd.N_below (by exact HO106.out) hb)
     replace HO114 := m0_ (Kd.N_below (by exact HO114.out) hb)
     replace BK107 := m0_ (qk_ BK107.out hb)
     replace BK116 := m0_ (qk_ BK116.out hb)
     replace HB := m0_ (qj_ (by repeat (first | (with_reducible first | exact HB.out | apply qg_ | apply qa_ | apply qf_ | refine qe_ ?_ GE107.out | refine qe_ ?_ GE116.out) | exact HB.out)) hb)
     (try clear hb)
     (try clear hb2)
     (try clear hk)
     (try clear hi)
     refine hK.out _ _ ⟨(qh_ BK107.out 0).trans rfl, (qh_ BK107.out 1).trans rfl, (qh_ BK107.out 2).trans rfl, (qh_ BK107.out 3).trans rfl⟩ (fun hHeld => ?_)
     clear hK K
     refine norm_ (a' := ?_) ?_ ?_
     rotate_left
     ·show Act.put _ (some 39) _ = _
      simp only [Act.put, q0_, List.set_cons_zero, List.set_cons_succ, i64_w, i32_w]
      rfl
     refine pv_ 9 40 q7_16 (any_of HT_.out (by kernel_rfl)) ?_
     refine pv_ 10 41 q7_15 (any_of HT_.out (by kernel_rfl)) ?_
     refine pv_ 11 42 q7_14 (any_of HT_.out (by kernel_rfl)) ?_
     refine pv_ 12 43 q7_13 (any_of HT_.out (by kernel_rfl)) ?_
     refine take_ (i := 13) (N := some 44) (v := ?_) (a' := ?_) q7_12 rfl rfl (take_ofW HT_.out HW_.out (by kernel_rfl)) (fun _ _ _ h => h) (Or.inl ⟨by rfl, ?_⟩) hHeld ?_ ?_
     rotate_left
     ·rintro w' ⟨s0, s1, s2, s3⟩
      go_simp
      with_reducible rfl
     rotate_left
     ·simp only [Act.put, q0_, List.set_cons_zero, List.set_cons_succ, i64_w, i32_w]
      rfl
     refine one_ (i := 14) (N := some 45) q7_11 rfl rfl (one_of HT_.out (by kernel_rfl)) (by decide) (fun K hK => ?_)
     refine goes_ Tryd.func17 (by kernel_rfl) rfl #[.agg #[.int .i64 t101, .int .i64 t102, .int .i64 t103, .slice Ao13 t104.length co13]] (by rfl) rfl rfl (by (try simp only [List.map_toArray, List.map_cons, List.map_nil]);first | done | rfl | (simp only [List.length_drop, List.length_take];rfl)) ?_
     with_reducible refine (spec_ExOk.calls kj2 t101 t102 t103 _ _ t104 t120 _ ?side1 ?side2 A30.out).mono ?_
     (case side1 => repeat (first | exact (Kd.N_reads' HO106.out).2.2 | (with_reducible refine Kd.C_alloc ?_ _) | (with_reducible refine Kd.C_drewN ?_ _) | (with_reducible refine Kd.C_drew ?_)))
     (case side2 => exact (Kd.N_reads' HO106.out).2.1)
     rintro e w37 ⟨rfl, hb⟩
     refine ⟨_, rfl, ?_⟩
     replace HO106 := m0_ (Kd.N_below (by exact HO106.out) hb)
     replace HO114 := m0_ (Kd.N_below (by exact HO114.out) hb)
     replace BK107 := m0_ (qk_ BK107.out hb)
     replace BK116 := m0_ (qk_ BK116.out hb)
     replace HB := m0_ (qj_ (by repeat (first | (with_reducible first | exact HB.out | apply qg_ | apply qa_ | apply qf_ | refine qe_ ?_ GE107.out | refine qe_ ?_ GE116.out) | exact HB.out)) hb)
     (try clear hb)
     (try clear hb2)
     (try clear hk)
     (try clear hi)
     refine hK.out _ _ ⟨(qh_ BK107.out 0).trans rfl, (qh_ BK107.out 1).trans rfl, (qh_ BK107.out 2).trans rfl, (qh_ BK107.out 3).trans rfl⟩ (fun hHeld => ?_)
     clear hK K
     refine norm_ (a' := ?_) ?_ ?_
     rotate_left
     ·show Act.put _ (some 45) _ = _
      simp only [Act.put, q0_, List.set_cons_zero, List.set_cons_succ, i64_w, i32_w]
      rfl
     refine pv_ 15 46 q7_10 (any_of HT_.out (by kernel_rfl)) ?_
     refine pv_ 16 47 q7_9 (any_of HT_.out (by kernel_rfl)) ?_
     refine pv_ 17 48 q7_8 (any_of HT_.out (by kernel_rfl)) ?_
     refine pu_ 18 49 q7_7 (any_of HT_.out (by kernel_rfl)) ?_
     refine pu_ 19 50 q7_6 (any_of HT_.out (by kernel_rfl)) ?_
     refine pu_ 20 51 q7_5 (any_of HT_.out (by kernel_rfl)) ?_
     refine pu_ 21 52 q7_4 (any_of HT_.out (by kernel_rfl)) ?_
     refine pu_ 22 53 q7_3 (any_of HT_.out (by kernel_rfl)) ?_
     refine pu_ 23 54 q7_2 (any_of HT_.out (by kernel_rfl)) ?_
     refine pu_ 24 55 q7_1 (any_of HT_.out (by kernel_rfl)) ?_
     refine pv_ 25 56 q7_0 (any_of HT_.out (by kernel_rfl)) ?_
     refine done_ (done_of HT_.out (by kernel_rfl)) ?_
     try go_wp2
     go_meet
     case rel => exact ⟨_, (true), (by first | rfl | (simp;done) | (simp [*];done)), H', ⟨by have := HJ2.out;first | omega | exact Nat.le_refl _⟩, ⟨by (with_reducible repeat (first | apply Kd.N_alloc | apply Kd.N_drewN | apply Kd.N_drew));exact HO106.out⟩, ⟨by (with_reducible repeat (first | apply Kd.N_alloc | apply Kd.N_drewN | apply Kd.N_drew));exact HO114.out⟩, ⟨by (with_reducible repeat (first | refine qc_ ?_ _ | refine qd_ ?_ | refine qb_ ?_ _));exact BK107.out⟩, ⟨by (with_reducible repeat (first | refine qc_ ?_ _ | refine qd_ ?_ | refine qb_ ?_ _));exact BK116.out⟩, ⟨by repeat (first | (with_reducible first | exact HB.out | apply qg_ | apply qa_ | apply qf_ | refine qe_ ?_ GE107.out | refine qe_ ?_ GE116.out) | exact HB.out)⟩⟩
    rw [if_neg c31] at H
    have c31b0 : (t115 != t120) = false := by simpa using c31
    (try (have c31b1 : decide (t115 = t120) = true := by simpa using c31))
    (try (have c31b2 : (t115 == t120) = true := by simpa using c31))
    clear c31
    by_cases c38 : t115 = true
    rotate_left
    ·replace c38 := Bool.eq_false_iff.mpr c38
     subst c38
     have H1 : (laws_FnEx.j1 kj2 l1 false) = some r := by rw [if_neg (show ¬ (false = true) by decide)] at H;exact H
     clear H
     have H := H1
     clear H1
     have H' := m0_ H
     clear H
     try go_wp2
     have n0_ : Aside0 (Kd.N k29 29 ((((w16.setCell ⟨gb116, 0, none⟩ (.int .i64 t109)).setCell ⟨gb116, 1, none⟩ (.int .i64 t110)).setCell ⟨gb116, 2, none⟩ (.int .i64 t111)).setCell ⟨gb116, 3, none⟩ (.slice Ao19 t112.length co19)) w.heap.size (fun k_ => some k_ ≠ (.slice Ao19 t112.length co19 : Value).ownBlock ∧ k_ ≠ gb107 ∧ k_ ≠ gb116) (.slice Ao13 t104.length co13) t104) := ⟨by (with_reducible repeat (first | apply Kd.N_alloc | apply Kd.N_drewN | apply Kd.N_drew));exact Kd.N_mono (Kd.N_far (p := ⟨gb116, 3, none⟩) (Kd.N_far (p := ⟨gb116, 2, none⟩) (Kd.N_far (p := ⟨gb116, 1, none⟩) (Kd.N_far (p := ⟨gb116, 0, none⟩) (Kd.N_mono HO106.out (fun k_ hk => (⟨hk, hk.2⟩ : _ ∧ k_ ≠ gb116))) (fun _ hk => hk.2) (.int .i64 t109)) (fun _ hk => hk.2) (.int .i64 t110)) (fun _ hk => hk.2) (.int .i64 t111)) (fun _ hk => hk.2) (.slice Ao19 t112.length co19)) (fun _ hk => ⟨hk.1.1.2, ⟨hk.1.1.1.2, hk.1.2⟩⟩)⟩
     have n1_ : Aside0 (Kd.N k29 29 ((((w16.setCell ⟨gb116, 0, none⟩ (.int .i64 t109)).setCell ⟨gb116, 1, none⟩ (.int .i64 t110)).setCell ⟨gb116, 2, none⟩ (.int .i64 t111)).setCell ⟨gb116, 3, none⟩ (.slice Ao19 t112.length co19)) w.heap.size (fun k_ => some k_ ≠ (.slice Ao13 t104.length co13 : Value).ownBlock ∧ k_ ≠ gb107 ∧ k_ ≠ gb116) (.slice Ao19 t112.length co19) t112) := ⟨by (with_reducible repeat (first | apply Kd.N_alloc | apply Kd.N_drewN | apply Kd.N_drew));exact Kd.N_mono (Kd.N_far (p := ⟨gb116, 3, none⟩) (Kd.N_far (p := ⟨gb116, 2, none⟩) (Kd.N_far (p := ⟨gb116, 1, none⟩) (Kd.N_far (p := ⟨gb116, 0, none⟩) (Kd.N_mono HO114.out (fun k_ hk => (⟨hk, hk.2⟩ : _ ∧ k_ ≠ gb116))) (fun _ hk => hk.2) (.int .i64 t109)) (fun _ hk => hk.2) (.int .i64 t110)) (fun _ hk => hk.2) (.int .i64 t111)) (fun _ hk => hk.2) (.slice Ao19 t112.length co19)) (fun _ hk => ⟨hk.1.1.1, ⟨hk.1.1.2, hk.1.2⟩⟩)⟩
     have n2_ : Aside0 (((((w16.setCell ⟨gb116, 0, none⟩ (.int .i64 t109)).setCell ⟨gb116, 1, none⟩ (.int .i64 t110)).setCell ⟨gb116, 2, none⟩ (.int .i64 t111)).setCell ⟨gb116, 3, none⟩ (.slice Ao19 t112.length co19)).heap[gb107]? = some (.cells #[.int .i64 t101, .int .i64 t102, .int .i64 t103, .slice Ao13 t104.length co13] 29 (0, 0))) := ⟨by (with_reducible repeat (first | refine qc_ ?_ _ | refine qd_ ?_ | refine qb_ ?_ _));refine qt_ ?_ NB107_116.out _;(with_reducible repeat (first | refine qc_ ?_ _ | refine qd_ ?_ | refine qb_ ?_ _));refine qt_ ?_ NB107_116.out _;(with_reducible repeat (first | refine qc_ ?_ _ | refine qd_ ?_ | refine qb_ ?_ _));refine qt_ ?_ NB107_116.out _;(with_reducible repeat (first | refine qc_ ?_ _ | refine qd_ ?_ | refine qb_ ?_ _));refine qt_ ?_ NB107_116.out _;(with_reducible repeat (first | refine qc_ ?_ _ | refine qd_ ?_ | refine qb_ ?_ _));exact BK107.out⟩
     have n3_ : Aside0 (((((w16.setCell ⟨gb116, 0, none⟩ (.int .i64 t109)).setCell ⟨gb116, 1, none⟩ (.int .i64 t110)).setCell ⟨gb116, 2, none⟩ (.int .i64 t111)).setCell ⟨gb116, 3, none⟩ (.slice Ao19 t112.length co19)).heap[gb116]? = some (.cells #[.int .i64 t109, .int .i64 t110, .int .i64 t111, .slice Ao19 t112.length co19] 29 (0, 0))) := ⟨by (with_reducible repeat (first | refine qc_ ?_ _ | refine qd_ ?_ | refine qb_ ?_ _));refine ql_ (cs := #[.int .i64 t109, .int .i64 t110, .int .i64 t111, .slice none 0 0]) ?_ 3 _ rfl;(with_reducible repeat (first | refine qc_ ?_ _ | refine qd_ ?_ | refine qb_ ?_ _));refine ql_ (cs := #[.int .i64 t109, .int .i64 t110, .int .i64 0, .slice none 0 0]) ?_ 2 _ rfl;(with_reducible repeat (first | refine qc_ ?_ _ | refine qd_ ?_ | refine qb_ ?_ _));refine ql_ (cs := #[.int .i64 t109, .int .i64 0, .int .i64 0, .slice none 0 0]) ?_ 1 _ rfl;(with_reducible repeat (first | refine qc_ ?_ _ | refine qd_ ?_ | refine qb_ ?_ _));refine ql_ (cs := #[.int .i64 0, .int .i64 0, .int .i64 0, .slice none 0 0]) ?_ 0 _ rfl;(with_reducible repeat (first | refine qc_ ?_ _ | refine qd_ ?_ | refine qb_ ?_ _));exact BK116.out⟩
     have n4_ : Aside0 (Below w.heap.size w ((((w16.setCell ⟨gb116, 0, none⟩ (.int .i64 t109)).setCell ⟨gb116, 1, none⟩ (.int .i64 t110)).setCell ⟨gb116, 2, none⟩ (.int .i64 t111)).setCell ⟨gb116, 3, none⟩ (.slice Ao19 t112.length co19))) := ⟨by repeat (first | (with_reducible first | exact HB.out | apply qg_ | apply qa_ | apply qf_ | refine qe_ ?_ GE107.out | refine qe_ ?_ GE116.out) | exact HB.out)⟩
     (try clear HO106)
     (try clear HO114)
     (try clear BK107)
     (try clear BK116)
     (try clear HB)
     generalize ((((w16.setCell ⟨gb116, 0, none⟩ (.int .i64 t109)).setCell ⟨gb116, 1, none⟩ (.int .i64 t110)).setCell ⟨gb116, 2, none⟩ (.int .i64 t111)).setCell ⟨gb116, 3, none⟩ (.slice Ao19 t112.length co19)) = w47 at n0_ n1_ n2_ n3_ n4_ ⊢
     have HO106 := n0_
     have HO114 := n1_
     have BK107 := n2_
     have BK116 := n3_
     have HB := n4_
     clear n0_ n1_ n2_ n3_ n4_
     replace HO106 := m0_ (Kd.N_drew HO106.out)
     replace HO114 := m0_ (Kd.N_drew HO114.out)
     replace BK107 := m0_ (qd_ BK107.out)
     replace BK116 := m0_ (qd_ BK116.out)
     replace HB := m0_ (qf_ HB.out)
     refine start_ (n := 26) (S := fun w' => w'.cell? ⟨gb107, 0, none⟩ = some (.int .i64 t101) ∧ w'.cell? ⟨gb107, 1, none⟩ = some (.int .i64 t102) ∧ w'.cell? ⟨gb107, 2, none⟩ = some (.int .i64 t103) ∧ w'.cell? ⟨gb107, 3, none⟩ = some (.slice Ao13 t104.length co13)) (ds := []) q7_26 (by kernel_rfl) rfl rfl ⟨(qh_ BK107.out 0).trans rfl, (qh_ BK107.out 1).trans rfl, (qh_ BK107.out 2).trans rfl, (qh_ BK107.out 3).trans rfl⟩ (fun hHeld => ?_);refine with_tabW laws_FnEx.tab6 laws_FnEx.bits6 (fun HT_ HW_ => ?_)
     generalize w47.drew = w48 at HO106 HO114 BK107 BK116 HB hHeld ⊢
     refine pv_ 0 31 q7_25 (any_of HT_.out (by kernel_rfl)) ?_
     refine take_ (i := 1) (N := some 32) (v := ?_) (a' := ?_) q7_24 rfl rfl (take_ofW HT_.out HW_.out (by kernel_rfl)) (fun _ _ _ h => h) (Or.inl ⟨by rfl, ?_⟩) hHeld ?_ ?_
     rotate_left
     ·rintro w' ⟨s0, s1, s2, s3⟩
      go_simp
      with_reducible rfl
     rotate_left
     ·simp only [Act.put, q0_, List.set_cons_zero, List.set_cons_succ, i64_w, i32_w]
      rfl
     refine one_ (i := 2) (N := some 33) q7_23 rfl rfl (one_of HT_.out (by kernel_rfl)) (by decide) (fun K hK => ?_)
     refine goes_ Tryd.func9 (by kernel_rfl) rfl #[.agg #[.int .i64 t101, .int .i64 t102, .int .i64 t103, .slice Ao13 t104.length co13]] (by rfl) rfl rfl (by (try simp only [List.map_toArray, List.map_cons, List.map_nil]);first | done | rfl | (simp only [List.length_drop, List.length_take];rfl)) ?_
     with_reducible refine (spec_ExText.calls kj2 t101 t102 t103 _ _ t104 t117 _ ?side1 ?side2 A20.out).mono ?_
     (case side1 => repeat (first | exact (Kd.N_reads' HO106.out).2.2 | (with_reducible refine Kd.C_alloc ?_ _) | (with_reducible refine Kd.C_drewN ?_ _) | (with_reducible refine Kd.C_drew ?_)))
     (case side2 => exact (Kd.N_reads' HO106.out).2.1)
     rintro e w49 ⟨rfl, hb⟩
     refine ⟨_, rfl, ?_⟩
     replace HO106 := m0_ (Kd.N_below (by exact HO106.out) hb)
     replace HO114 := m0_ (Kd.N_below (by exact HO114.out) hb)
     replace BK107 := m0_ (qk_ BK107.out hb)
     replace BK116 := m0_ (qk_ BK116.out hb)
     replace HB := m0_ (qj_ (by repeat (first | (with_reducible first | exact HB.out | apply qg_ | apply qa_ | apply qf_ | refine qe_ ?_ GE107.out | refine qe_ ?_ GE116.out) | exact HB.out)) hb)
     (try clear hb)
     (try clear hb2)
     (try clear hk)
     (try clear hi)
     refine hK.out _ _ ⟨(qh_ BK107.out 0).trans rfl, (qh_ BK107.out 1).trans rfl, (qh_ BK107.out 2).trans rfl, (qh_ BK107.out 3).trans rfl⟩ (fun hHeld => ?_)
     clear hK K
     refine norm_ (a' := ?_) ?_ ?_
     rotate_left
     ·show Act.put _ (some 33) _ = _
      simp only [Act.put, q0_, List.set_cons_zero, List.set_cons_succ, i64_w, i32_w]
      rfl
     refine pv_ 3 34 q7_22 (any_of HT_.out (by kernel_rfl)) ?_
     refine pv_ 4 35 q7_21 (any_of HT_.out (by kernel_rfl)) ?_
     refine take_ (i := 5) (N := some 36) (v := ?_) (a' := ?_) q7_20 rfl rfl (take_ofW HT_.out HW_.out (by kernel_rfl)) (fun _ _ _ h => h) (Or.inl ⟨by rfl, ?_⟩) hHeld ?_ ?_
     rotate_left
     ·rintro w' ⟨s0, s1, s2, s3⟩
      go_simp
      with_reducible rfl
     rotate_left
     ·simp only [Act.put, q0_, List.set_cons_zero, List.set_cons_succ, i64_w, i32_w]
      rfl
     refine take_ (i := 7) (N := some 38) (v := ?_) (a' := ?_) q7_19 rfl rfl (take_ofW HT_.out HW_.out (by kernel_rfl)) (fun _ _ _ h => h) (Or.inl ⟨by rfl, ?_⟩) hHeld ?_ ?_
     rotate_left
     ·rintro w' ⟨s0, s1, s2, s3⟩
      go_simp
      with_reducible rfl
     rotate_left
     ·simp only [Act.put, q0_, List.set_cons_zero, List.set_cons_succ, i64_w, i32_w]
      rfl
     refine one_ (i := 6) (N := some 37) q7_18 rfl rfl (one_of HT_.out (by kernel_rfl)) (by decide) (fun K hK => ?_)
     refine goes_ Tryd.func19 (by kernel_rfl) rfl #[.agg #[.int .i64 t101, .int .i64 t102, .int .i64 t103, .slice Ao13 t104.length co13]] (by rfl) rfl rfl (by (try simp only [List.map_toArray, List.map_cons, List.map_nil]);first | done | rfl | (simp only [List.length_drop, List.length_take];rfl)) ?_
     with_reducible refine (impl_ExOk.calls kj2 t101 t102 t103 _ _ t104 t118 _ ?side1 ?side2 A22.out).mono ?_
     (case side1 => repeat (first | exact (Kd.N_reads' HO106.out).2.2 | (with_reducible refine Kd.C_alloc ?_ _) | (with_reducible refine Kd.C_drewN ?_ _) | (with_reducible refine Kd.C_drew ?_)))
     (case side2 => exact (Kd.N_reads' HO106.out).2.1)
     rintro e w50 ⟨rfl, hb⟩
     refine ⟨_, rfl, ?_⟩
     replace HO106 := m0_ (Kd.N_below (by exact HO106.out) hb)
     replace HO114 := m0_ (Kd.N_below (by exact HO114.out) hb)
     replace BK107 := m0_ (qk_ BK107.out hb)
     replace BK116 := m0_ (qk_ BK116.out hb)
     replace HB := m0_ (qj_ (by repeat (first | (with_reducible first | exact HB.out | apply qg_ | apply qa_ | apply qf_ | refine qe_ ?_ GE107.out | refine qe_ ?_ GE116.out) | exact HB.out)) hb)
     (try clear hb)
     (try clear hb2)
     (try clear hk)
     (try clear hi)
     refine hK.out _ _ ⟨(qh_ BK107.out 0).trans rfl, (qh_ BK107.out 1).trans rfl, (qh_ BK107.out 2).trans rfl, (qh_ BK107.out 3).trans rfl⟩ (fun hHeld => ?_)
     clear hK K
     refine norm_ (a' := ?_) ?_ ?_
     rotate_left
     ·show Act.put _ (some 37) _ = _
      simp only [Act.put, q0_, List.set_cons_zero, List.set_cons_succ, i64_w, i32_w]
      rfl
     refine one_ (i := 8) (N := some 39) q7_17 rfl rfl (one_of HT_.out (by kernel_rfl)) (by decide) (fun K hK => ?_)
     refine goes_ Tryd.func17 (by kernel_rfl) rfl #[.agg #[.int .i64 t101, .int .i64 t102, .int .i64 t103, .slice Ao13 t104.length co13]] (by rfl) rfl rfl (by (try simp only [List.map_toArray, List.map_cons, List.map_nil]);first | done | rfl | (simp only [List.length_drop, List.length_take];rfl)) ?_
     with_reducible refine (spec_ExOk.calls kj2 t101 t102 t103 _ _ t104 t119 _ ?side1 ?side2 A23.out).mono ?_
     (case side1 => repeat (first | exact (Kd.N_reads' HO106.out).2.2 | (with_reducible refine Kd.C_alloc ?_ _) | (with_reducible refine Kd.C_drewN ?_ _) | (with_reducible refine Kd.C_drew ?_)))
     (case side2 => exact (Kd.N_reads' HO106.out).2.1)
     rintro e w51 ⟨rfl, hb⟩
     refine ⟨_, rfl, ?_⟩
     replace HO106 := m0_ (Kd.N_below (by exact HO106.out) hb)
     replace HO114 := m0_ (Kd.N_below (by exact HO114.out) hb)
     replace BK107 := m0_ (qk_ BK107.out hb)
     replace BK116 := m0_ (qk_ BK116.out hb)
     replace HB := m0_ (qj_ (by repeat (first | (with_reducible first | exact HB.out | apply qg_ | apply qa_ | apply qf_ | refine qe_ ?_ GE107.out | refine qe_ ?_ GE116.out) | exact HB.out)) hb)
     (try clear hb)
     (try clear hb2)
     (try clear hk)
     (try clear hi)
     refine hK.out _ _ ⟨(qh_ BK107.out 0).trans rfl, (qh_ BK107.out 1).trans rfl, (qh_ BK107.out 2).trans rfl, (qh_ BK107.out 3).trans rfl⟩ (fun hHeld => ?_)
     clear hK K
     refine norm_ (a' := ?_) ?_ ?_
     rotate_left
     ·show Act.put _ (some 39) _ = _
      simp only [Act.put, q0_, List.set_cons_zero, List.set_cons_succ, i64_w, i32_w]
      rfl
     refine pv_ 9 40 q7_16 (any_of HT_.out (by kernel_rfl)) ?_
     refine pv_ 10 41 q7_15 (any_of HT_.out (by kernel_rfl)) ?_
     refine pv_ 11 42 q7_14 (any_of HT_.out (by kernel_rfl)) ?_
     refine pv_ 12 43 q7_13 (any_of HT_.out (by kernel_rfl)) ?_
     refine take_ (i := 13) (N := some 44) (v := ?_) (a' := ?_) q7_12 rfl rfl (take_ofW HT_.out HW_.out (by kernel_rfl)) (fun _ _ _ h => h) (Or.inl ⟨by rfl, ?_⟩) hHeld ?_ ?_
     rotate_left
     ·rintro w' ⟨s0, s1, s2, s3⟩
      go_simp
      with_reducible rfl
     rotate_left
     ·simp only [Act.put, q0_, List.set_cons_zero, List.set_cons_succ, i64_w, i32_w]
      rfl
     refine one_ (i := 14) (N := some 45) q7_11 rfl rfl (one_of HT_.out (by kernel_rfl)) (by decide) (fun K hK => ?_)
     refine goes_ Tryd.func17 (by kernel_rfl) rfl #[.agg #[.int .i64 t101, .int .i64 t102, .int .i64 t103, .slice Ao13 t104.length co13]] (by rfl) rfl rfl (by (try simp only [List.map_toArray, List.map_cons, List.map_nil]);first | done | rfl | (simp only [List.length_drop, List.length_take];rfl)) ?_
     with_reducible refine (spec_ExOk.calls kj2 t101 t102 t103 _ _ t104 t120 _ ?side1 ?side2 A30.out).mono ?_
     (case side1 => repeat (first | exact (Kd.N_reads' HO106.out).2.2 | (with_reducible refine Kd.C_alloc ?_ _) | (with_reducible refine Kd.C_drewN ?_ _) | (with_reducible refine Kd.C_drew ?_)))
     (case side2 => exact (Kd.N_reads' HO106.out).2.1)
     rintro e w52 ⟨rfl, hb⟩
     refine ⟨_, rfl, ?_⟩
     replace HO106 := m0_ (Kd.N_below (by exact HO106.out) hb)
     replace HO114 := m0_ (Kd.N_below (by exact HO114.out) hb)
     replace BK107 := m0_ (qk_ BK107.out hb)
     replace BK116 := m0_ (qk_ BK116.out hb)
     replace HB := m0_ (qj_ (by repeat (first | (with_reducible first | exact HB.out | apply qg_ | apply qa_ | apply qf_ | refine qe_ ?_ GE107.out | refine qe_ ?_ GE116.out) | exact HB.out)) hb)
     (try clear hb)
     (try clear hb2)
     (try clear hk)
     (try clear hi)
     refine hK.out _ _ ⟨(qh_ BK107.out 0).trans rfl, (qh_ BK107.out 1).trans rfl, (qh_ BK107.out 2).trans rfl, (qh_ BK107.out 3).trans rfl⟩ (fun hHeld => ?_)
     clear hK K
     refine norm_ (a' := ?_) ?_ ?_
     rotate_left
     ·show Act.put _ (some 45) _ = _
      simp only [Act.put, q0_, List.set_cons_zero, List.set_cons_succ, i64_w, i32_w]
      rfl
     refine pv_ 15 46 q7_10 (any_of HT_.out (by kernel_rfl)) ?_
     refine pv_ 16 47 q7_9 (any_of HT_.out (by kernel_rfl)) ?_
     refine pv_ 17 48 q7_8 (any_of HT_.out (by kernel_rfl)) ?_
     refine pv_ 18 49 q7_7 (any_of HT_.out (by kernel_rfl)) ?_
     refine pv_ 19 50 q7_6 (any_of HT_.out (by kernel_rfl)) ?_
     refine pu_ 20 51 q7_5 (any_of HT_.out (by kernel_rfl)) ?_
     refine pu_ 21 52 q7_4 (any_of HT_.out (by kernel_rfl)) ?_
     refine pu_ 22 53 q7_3 (any_of HT_.out (by kernel_rfl)) ?_
     refine pu_ 23 54 q7_2 (any_of HT_.out (by kernel_rfl)) ?_
     refine pv_ 24 55 q7_1 (any_of HT_.out (by kernel_rfl)) ?_
     refine pv_ 25 56 q7_0 (any_of HT_.out (by kernel_rfl)) ?_
     refine done_ (done_of HT_.out (by kernel_rfl)) ?_
     try go_wp2
     go_meet
     case rel => exact ⟨_, (false), (by first | rfl | (simp;done) | (simp [*];done)), H', ⟨by have := HJ2.out;first | omega | exact Nat.le_refl _⟩, ⟨by (with_reducible repeat (first | apply Kd.N_alloc | apply Kd.N_drewN | apply Kd.N_drew));exact HO106.out⟩, ⟨by (with_reducible repeat (first | apply Kd.N_alloc | apply Kd.N_drewN | apply Kd.N_drew));exact HO114.out⟩, ⟨by (with_reducible repeat (first | refine qc_ ?_ _ | refine qd_ ?_ | refine qb_ ?_ _));exact BK107.out⟩, ⟨by (with_reducible repeat (first | refine qc_ ?_ _ | refine qd_ ?_ | refine qb_ ?_ _));exact BK116.out⟩, ⟨by repeat (first | (with_reducible first | exact HB.out | apply qg_ | apply qa_ | apply qf_ | refine qe_ ?_ GE107.out | refine qe_ ?_ GE116.out) | exact HB.out)⟩⟩
    subst c38
    have H1 : ((impl_ExSame.f kj2 t109 t110 t111 t112 t101 t102 t103 t104).bind fun t121 => (laws_FnEx.j1 kj2 l1 (!t121))) = some r := by rw [if_pos rfl] at H;exact H
    clear H
    have H := H1
    clear H1
    replace H := Option.bind_eq_some_iff.mp H
    obtain ⟨t121, A390, H⟩ := H
    replace H : (laws_FnEx.j1 kj2 l1 (!t121)) = some r := H
    have A39 := m0_ A390
    clear A390
    have H' := m0_ H
    clear H
    try go_wp2
    have n0_ : Aside0 (Kd.N k29 29 ((((w16.setCell ⟨gb116, 0, none⟩ (.int .i64 t109)).setCell ⟨gb116, 1, none⟩ (.int .i64 t110)).setCell ⟨gb116, 2, none⟩ (.int .i64 t111)).setCell ⟨gb116, 3, none⟩ (.slice Ao19 t112.length co19)) w.heap.size (fun k_ => some k_ ≠ (.slice Ao19 t112.length co19 : Value).ownBlock ∧ k_ ≠ gb107 ∧ k_ ≠ gb116) (.slice Ao13 t104.length co13) t104) := ⟨by (with_reducible repeat (first | apply Kd.N_alloc | apply Kd.N_drewN | apply Kd.N_drew));exact Kd.N_mono (Kd.N_far (p := ⟨gb116, 3, none⟩) (Kd.N_far (p := ⟨gb116, 2, none⟩) (Kd.N_far (p := ⟨gb116, 1, none⟩) (Kd.N_far (p := ⟨gb116, 0, none⟩) (Kd.N_mono HO106.out (fun k_ hk => (⟨hk, hk.2⟩ : _ ∧ k_ ≠ gb116))) (fun _ hk => hk.2) (.int .i64 t109)) (fun _ hk => hk.2) (.int .i64 t110)) (fun _ hk => hk.2) (.int .i64 t111)) (fun _ hk => hk.2) (.slice Ao19 t112.length co19)) (fun _ hk => ⟨hk.1.1.2, ⟨hk.1.1.1.2, hk.1.2⟩⟩)⟩
    have n1_ : Aside0 (Kd.N k29 29 ((((w16.setCell ⟨gb116, 0, none⟩ (.int .i64 t109)).setCell ⟨gb116, 1, none⟩ (.int .i64 t110)).setCell ⟨gb116, 2, none⟩ (.int .i64 t111)).setCell ⟨gb116, 3, none⟩ (.slice Ao19 t112.length co19)) w.heap.size (fun k_ => some k_ ≠ (.slice Ao13 t104.length co13 : Value).ownBlock ∧ k_ ≠ gb107 ∧ k_ ≠ gb116) (.slice Ao19 t112.length co19) t112) := ⟨by (with_reducible repeat (first | apply Kd.N_alloc | apply Kd.N_drewN | apply Kd.N_drew));exact Kd.N_mono (Kd.N_far (p := ⟨gb116, 3, none⟩) (Kd.N_far (p := ⟨gb116, 2, none⟩) (Kd.N_far (p := ⟨gb116, 1, none⟩) (Kd.N_far (p := ⟨gb116, 0, none⟩) (Kd.N_mono HO114.out (fun k_ hk => (⟨hk, hk.2⟩ : _ ∧ k_ ≠ gb116))) (fun _ hk => hk.2) (.int .i64 t109)) (fun _ hk => hk.2) (.int .i64 t110)) (fun _ hk => hk.2) (.int .i64 t111)) (fun _ hk => hk.2) (.slice Ao19 t112.length co19)) (fun _ hk => ⟨hk.1.1.1, ⟨hk.1.1.2, hk.1.2⟩⟩)⟩
    have n2_ : Aside0 (((((w16.setCell ⟨gb116, 0, none⟩ (.int .i64 t109)).setCell ⟨gb116, 1, none⟩ (.int .i64 t110)).setCell ⟨gb116, 2, none⟩ (.int .i64 t111)).setCell ⟨gb116, 3, none⟩ (.slice Ao19 t112.length co19)).heap[gb107]? = some (.cells #[.int .i64 t101, .int .i64 t102, .int .i64 t103, .slice Ao13 t104.length co13] 29 (0, 0))) := ⟨by (with_reducible repeat (first | refine qc_ ?_ _ | refine qd_ ?_ | refine qb_ ?_ _));refine qt_ ?_ NB107_116.out _;(with_reducible repeat (first | refine qc_ ?_ _ | refine qd_ ?_ | refine qb_ ?_ _));refine qt_ ?_ NB107_116.out _;(with_reducible repeat (first | refine qc_ ?_ _ | refine qd_ ?_ | refine qb_ ?_ _));refine qt_ ?_ NB107_116.out _;(with_reducible repeat (first | refine qc_ ?_ _ | refine qd_ ?_ | refine qb_ ?_ _));refine qt_ ?_ NB107_116.out _;(with_reducible repeat (first | refine qc_ ?_ _ | refine qd_ ?_ | refine qb_ ?_ _));exact BK107.out⟩
    have n3_ : Aside0 (((((w16.setCell ⟨gb116, 0, none⟩ (.int .i64 t109)).setCell ⟨gb116, 1, none⟩ (.int .i64 t110)).setCell ⟨gb116, 2, none⟩ (.int .i64 t111)).setCell ⟨gb116, 3, none⟩ (.slice Ao19 t112.length co19)).heap[gb116]? = some (.cells #[.int .i64 t109, .int .i64 t110, .int .i64 t111, .slice Ao19 t112.length co19] 29 (0, 0))) := ⟨by (with_reducible repeat (first | refine qc_ ?_ _ | refine qd_ ?_ | refine qb_ ?_ _));refine ql_ (cs := #[.int .i64 t109, .int .i64 t110, .int .i64 t111, .slice none 0 0]) ?_ 3 _ rfl;(with_reducible repeat (first | refine qc_ ?_ _ | refine qd_ ?_ | refine qb_ ?_ _));refine ql_ (cs := #[.int .i64 t109, .int .i64 t110, .int .i64 0, .slice none 0 0]) ?_ 2 _ rfl;(with_reducible repeat (first | refine qc_ ?_ _ | refine qd_ ?_ | refine qb_ ?_ _));refine ql_ (cs := #[.int .i64 t109, .int .i64 0, .int .i64 0, .slice none 0 0]) ?_ 1 _ rfl;(with_reducible repeat (first | refine qc_ ?_ _ | refine qd_ ?_ | refine qb_ ?_ _));refine ql_ (cs := #[.int .i64 0, .int .i64 0, .int .i64 0, .slice none 0 0]) ?_ 0 _ rfl;(with_reducible repeat (first | refine qc_ ?_ _ | refine qd_ ?_ | refine qb_ ?_ _));exact BK116.out⟩
    have n4_ : Aside0 (Below w.heap.size w ((((w16.setCell ⟨gb116, 0, none⟩ (.int .i64 t109)).setCell ⟨gb116, 1, none⟩ (.int .i64 t110)).setCell ⟨gb116, 2, none⟩ (.int .i64 t111)).setCell ⟨gb116, 3, none⟩ (.slice Ao19 t112.length co19))) := ⟨by repeat (first | (with_reducible first | exact HB.out | apply qg_ | apply qa_ | apply qf_ | refine qe_ ?_ GE107.out | refine qe_ ?_ GE116.out) | exact HB.out)⟩
    (try clear HO106)
    (try clear HO114)
    (try clear BK107)
    (try clear BK116)
    (try clear HB)
    generalize ((((w16.setCell ⟨gb116, 0, none⟩ (.int .i64 t109)).setCell ⟨gb116, 1, none⟩ (.int .i64 t110)).setCell ⟨gb116, 2, none⟩ (.int .i64 t111)).setCell ⟨gb116, 3, none⟩ (.slice Ao19 t112.length co19)) = w40 at n0_ n1_ n2_ n3_ n4_ ⊢
    have HO106 := n0_
    have HO114 := n1_
    have BK107 := n2_
    have BK116 := n3_
    have HB := n4_
    clear n0_ n1_ n2_ n3_ n4_
    replace HO106 := m0_ (Kd.N_drew HO106.out)
    replace HO114 := m0_ (Kd.N_drew HO114.out)
    replace BK107 := m0_ (qd_ BK107.out)
    replace BK116 := m0_ (qd_ BK116.out)
    replace HB := m0_ (qf_ HB.out)
    refine start_ (n := 26) (S := fun w' => w'.cell? ⟨gb107, 0, none⟩ = some (.int .i64 t101) ∧ w'.cell? ⟨gb107, 1, none⟩ = some (.int .i64 t102) ∧ w'.cell? ⟨gb107, 2, none⟩ = some (.int .i64 t103) ∧ w'.cell? ⟨gb107, 3, none⟩ = some (.slice Ao13 t104.length co13) ∧ w'.cell? ⟨gb116, 0, none⟩ = some (.int .i64 t109) ∧ w'.cell? ⟨gb116, 1, none⟩ = some (.int .i64 t110) ∧ w'.cell? ⟨gb116, 2, none⟩ = some (.int .i64 t111) ∧ w'.cell? ⟨gb116, 3, none⟩ = some (.slice Ao19 t112.length co19)) (ds := []) q7_26 (by kernel_rfl) rfl rfl ⟨(qh_ BK107.out 0).trans rfl, (qh_ BK107.out 1).trans rfl, (qh_ BK107.out 2).trans rfl, (qh_ BK107.out 3).trans rfl, (qh_ BK116.out 0).trans rfl, (qh_ BK116.out 1).trans rfl, (qh_ BK116.out 2).trans rfl, (qh_ BK116.out 3).trans rfl⟩ (fun hHeld => ?_);refine with_tabW laws_FnEx.tab6 laws_FnEx.bits6 (fun HT_ HW_ => ?_)
    generalize w40.drew = w41 at HO106 HO114 BK107 BK116 HB hHeld ⊢
    refine pv_ 0 31 q7_25 (any_of HT_.out (by kernel_rfl)) ?_
    refine take_ (i := 1) (N := some 32) (v := ?_) (a' := ?_) q7_24 rfl rfl (take_ofW HT_.out HW_.out (by kernel_rfl)) (fun _ _ _ h => h) (Or.inl ⟨by rfl, ?_⟩) hHeld ?_ ?_
    rotate_left
    ·rintro w' ⟨s0, s1, s2, s3, s4, s5, s6, s7⟩
     go_simp
     with_reducible rfl
    rotate_left
    ·simp only [Act.put, q0_, List.set_cons_zero, List.set_cons_succ, i64_w, i32_w]
     rfl
    refine one_ (i := 2) (N := some 33) q7_23 rfl rfl (one_of HT_.out (by kernel_rfl)) (by decide) (fun K hK => ?_)
    refine goes_ Tryd.func9 (by kernel_rfl) rfl #[.agg #[.int .i64 t101, .int .i64 t102, .int .i64 t103, .slice Ao13 t104.length co13]] (by rfl) rfl rfl (by (try simp only [List.map_toArray, List.map_cons, List.map_nil]);first | done | rfl | (simp only [List.length_drop, List.length_take];rfl)) ?_
    with_reducible refine (spec_ExText.calls kj2 t101 t102 t103 _ _ t104 t117 _ ?side1 ?side2 A20.out).mono ?_
    (case side1 => repeat (first | exact (Kd.N_reads' HO106.out).2.2 | (with_reducible refine Kd.C_alloc ?_ _) | (with_reducible refine Kd.C_drewN ?_ _) | (with_reducible refine Kd.C_drew ?_)))
    (case side2 => exact (Kd.N_reads' HO106.out).2.1)
    rintro e w42 ⟨rfl, hb⟩
    refine ⟨_, rfl, ?_⟩
    replace HO106 := m0_ (Kd.N_below (by exact HO106.out) hb)
    replace HO114 := m0_ (Kd.N_below (by exact HO114.out) hb)
    replace BK107 := m0_ (qk_ BK107.out hb)
    replace BK116 := m0_ (qk_ BK116.out hb)
    replace HB := m0_ (qj_ (by repeat (first | (with_reducible first | exact HB.out | apply qg_ | apply qa_ | apply qf_ | refine qe_ ?_ GE107.out | refine qe_ ?_ GE116.out) | exact HB.out)) hb)
    (try clear hb)
    (try clear hb2)
    (try clear hk)
    (try clear hi)
    refine hK.out _ _ ⟨(qh_ BK107.out 0).trans rfl, (qh_ BK107.out 1).trans rfl, (qh_ BK107.out 2).trans rfl, (qh_ BK107.out 3).trans rfl, (qh_ BK116.out 0).trans rfl, (qh_ BK116.out 1).trans rfl, (qh_ BK116.out 2).trans rfl, (qh_ BK116.out 3).trans rfl⟩ (fun hHeld => ?_)
    clear hK K
    refine norm_ (a' := ?_) ?_ ?_
    rotate_left
    ·show Act.put _ (some 33) _ = _
     simp only [Act.put, q0_, List.set_cons_zero, List.set_cons_succ, i64_w, i32_w]
     rfl
    refine pv_ 3 34 q7_22 (any_of HT_.out (by kernel_rfl)) ?_
    refine pv_ 4 35 q7_21 (any_of HT_.out (by kernel_rfl)) ?_
    refine take_ (i := 5) (N := some 36) (v := ?_) (a' := ?_) q7_20 rfl rfl (take_ofW HT_.out HW_.out (by kernel_rfl)) (fun _ _ _ h => h) (Or.inl ⟨by rfl, ?_⟩) hHeld ?_ ?_
    rotate_left
    ·rintro w' ⟨s0, s1, s2, s3, s4, s5, s6, s7⟩
     go_simp
     with_reducible rfl
    rotate_left
    ·simp only [Act.put, q0_, List.set_cons_zero, List.set_cons_succ, i64_w, i32_w]
     rfl
    refine take_ (i := 7) (N := some 38) (v := ?_) (a' := ?_) q7_19 rfl rfl (take_ofW HT_.out HW_.out (by kernel_rfl)) (fun _ _ _ h => h) (Or.inl ⟨by rfl, ?_⟩) hHeld ?_ ?_
    rotate_left
    ·rintro w' ⟨s0, s1, s2, s3, s4, s5, s6, s7⟩
     go_simp
     with_reducible rfl
    rotate_left
    ·simp only [Act.put, q0_, List.set_cons_zero, List.set_cons_succ, i64_w, i32_w]
     rfl
    refine one_ (i := 6) (N := some 37) q7_18 rfl rfl (one_of HT_.out (by kernel_rfl)) (by decide) (fun K hK => ?_)
    refine goes_ Tryd.func19 (by kernel_rfl) rfl #[.agg #[.int .i64 t101, .int .i64 t102, .int .i64 t103, .slice Ao13 t104.length co13]] (by rfl) rfl rfl (by (try simp only [List.map_toArray, List.map_cons, List.map_nil]);first | done | rfl | (simp only [List.length_drop, List.length_take];rfl)) ?_
    with_reducible refine (impl_ExOk.calls kj2 t101 t102 t103 _ _ t104 t118 _ ?side1 ?side2 A22.out).mono ?_
    (case side1 => repeat (first | exact (Kd.N_reads' HO106.out).2.2 | (with_reducible refine Kd.C_alloc ?_ _) | (with_reducible refine Kd.C_drewN ?_ _) | (with_reducible refine Kd.C_drew ?_)))
    (case side2 => exact (Kd.N_reads' HO106.out).2.1)
    rintro e w43 ⟨rfl, hb⟩
    refine ⟨_, rfl, ?_⟩
    replace HO106 := m0_ (Kd.N_below (by exact HO106.out) hb)
    replace HO114 := m0_ (Kd.N_below (by exact HO114.out) hb)
    replace BK107 := m0_ (qk_ BK107.out hb)
    replace BK116 := m0_ (qk_ BK116.out hb)
    replace HB := m0_ (qj_ (by repeat (first | (with_reducible first | exact HB.out | apply qg_ | apply qa_ | apply qf_ | refine qe_ ?_ GE107.out | refine qe_ ?_ GE116.out) | exact HB.out)) hb)
    (try clear hb)
    (try clear hb2)
    (try clear hk)
    (try clear hi)
    refine hK.out _ _ ⟨(qh_ BK107.out 0).trans rfl, (qh_ BK107.out 1).trans rfl, (qh_ BK107.out 2).trans rfl, (qh_ BK107.out 3).trans rfl, (qh_ BK116.out 0).trans rfl, (qh_ BK116.out 1).trans rfl, (qh_ BK116.out 2).trans rfl, (qh_ BK116.out 3).trans rfl⟩ (fun hHeld => ?_)
    clear hK K
    refine norm_ (a' := ?_) ?_ ?_
    rotate_left
    ·show Act.put _ (some 37) _ = _
     simp only [Act.put, q0_, List.set_cons_zero, List.set_cons_succ, i64_w, i32_w]
     rfl
    refine one_ (i := 8) (N := some 39) q7_17 rfl rfl (one_of HT_.out (by kernel_rfl)) (by decide) (fun K hK => ?_)
    refine goes_ Tryd.func17 (by kernel_rfl) rfl #[.agg #[.int .i64 t101, .int .i64 t102, .int .i64 t103, .slice Ao13 t104.length co13]] (by rfl) rfl rfl (by (try simp only [List.map_toArray, List.map_cons, List.map_nil]);first | done | rfl | (simp only [List.length_drop, List.length_take];rfl)) ?_
    with_reducible refine (spec_ExOk.calls kj2 t101 t102 t103 _ _ t104 t119 _ ?side1 ?side2 A23.out).mono ?_
    (case side1 => repeat (first | exact (Kd.N_reads' HO106.out).2.2 | (with_reducible refine Kd.C_alloc ?_ _) | (with_reducible refine Kd.C_drewN ?_ _) | (with_reducible refine Kd.C_drew ?_)))
    (case side2 => exact (Kd.N_reads' HO106.out).2.1)
    rintro e w44 ⟨rfl, hb⟩
    refine ⟨_, rfl, ?_⟩
    replace HO106 := m0_ (Kd.N_below (by exact HO106.out) hb)
    replace HO114 := m0_ (Kd.N_below (by exact HO114.out) hb)
    replace BK107 := m0_ (qk_ BK107.out hb)
    replace BK116 := m0_ (qk_ BK116.out hb)
    replace HB := m0_ (qj_ (by repeat (first | (with_reducible first | exact HB.out | apply qg_ | apply qa_ | apply qf_ | refine qe_ ?_ GE107.out | refine qe_ ?_ GE116.out) | exact HB.out)) hb)
    (try clear hb)
    (try clear hb2)
    (try clear hk)
    (try clear hi)
    refine hK.out _ _ ⟨(qh_ BK107.out 0).trans rfl, (qh_ BK107.out 1).trans rfl, (qh_ BK107.out 2).trans rfl, (qh_ BK107.out 3).trans rfl, (qh_ BK116.out 0).trans rfl, (qh_ BK116.out 1).trans rfl, (qh_ BK116.out 2).trans rfl, (qh_ BK116.out 3).trans rfl⟩ (fun hHeld => ?_)
    clear hK K
    refine norm_ (a' := ?_) ?_ ?_
    rotate_left
    ·show Act.put _ (some 39) _ = _
     simp only [Act.put, q0_, List.set_cons_zero, List.set_cons_succ, i64_w, i32_w]
     rfl
    refine pv_ 9 40 q7_16 (any_of HT_.out (by kernel_rfl)) ?_
    refine pv_ 10 41 q7_15 (any_of HT_.out (by kernel_rfl)) ?_
    refine pv_ 11 42 q7_14 (any_of HT_.out (by kernel_rfl)) ?_
    refine pv_ 12 43 q7_13 (any_of HT_.out (by kernel_rfl)) ?_
    refine take_ (i := 13) (N := some 44) (v := ?_) (a' := ?_) q7_12 rfl rfl (take_ofW HT_.out HW_.out (by kernel_rfl)) (fun _ _ _ h => h) (Or.inl ⟨by rfl, ?_⟩) hHeld ?_ ?_
    rotate_left
    ·rintro w' ⟨s0, s1, s2, s3, s4, s5, s6, s7⟩
     go_simp
     with_reducible rfl
    rotate_left
    ·simp only [Act.put, q0_, List.set_cons_zero, List.set_cons_succ, i64_w, i32_w]
     rfl
    refine one_ (i := 14) (N := some 45) q7_11 rfl rfl (one_of HT_.out (by kernel_rfl)) (by decide) (fun K hK => ?_)
    refine goes_ Tryd.func17 (by kernel_rfl) rfl #[.agg #[.int .i64 t101, .int .i64 t102, .int .i64 t103, .slice Ao13 t104.length co13]] (by rfl) rfl rfl (by (try simp only [List.map_toArray, List.map_cons, List.map_nil]);first | done | rfl | (simp only [List.length_drop, List.length_take];rfl)) ?_
    with_reducible refine (spec_ExOk.calls kj2 t101 t102 t103 _ _ t104 t120 _ ?side1 ?side2 A30.out).mono ?_
    (case side1 => repeat (first | exact (Kd.N_reads' HO106.out).2.2 | (with_reducible refine Kd.C_alloc ?_ _) | (with_reducible refine Kd.C_drewN ?_ _) | (with_reducible refine Kd.C_drew ?_)))
    (case side2 => exact (Kd.N_reads' HO106.out).2.1)
    rintro e w45 ⟨rfl, hb⟩
    refine ⟨_, rfl, ?_⟩
    replace HO106 := m0_ (Kd.N_below (by exact HO106.out) hb)
    replace HO114 := m0_ (Kd.N_below (by exact HO114.out) hb)
    replace BK107 := m0_ (qk_ BK107.out hb)
    replace BK116 := m0_ (qk_ BK116.out hb)
    replace HB := m0_ (qj_ (by repeat (first | (with_reducible first | exact HB.out | apply qg_ | apply qa_ | apply qf_ | refine qe_ ?_ GE107.out | refine qe_ ?_ GE116.out) | exact HB.out)) hb)
    (try clear hb)
    (try clear hb2)
    (try clear hk)
    (try clear hi)
    refine hK.out _ _ ⟨(qh_ BK107.out 0).trans rfl, (qh_ BK107.out 1).trans rfl, (qh_ BK107.out 2).trans rfl, (qh_ BK107.out 3).trans rfl, (qh_ BK116.out 0).trans rfl, (qh_ BK116.out 1).trans rfl, (qh_ BK116.out 2).trans rfl, (qh_ BK116.out 3).trans rfl⟩ (fun hHeld => ?_)
    clear hK K
    refine norm_ (a' := ?_) ?_ ?_
    rotate_left
    ·show Act.put _ (some 45) _ = _
     simp only [Act.put, q0_, List.set_cons_zero, List.set_cons_succ, i64_w, i32_w]
     rfl
    refine pv_ 15 46 q7_10 (any_of HT_.out (by kernel_rfl)) ?_
    refine pv_ 16 47 q7_9 (any_of HT_.out (by kernel_rfl)) ?_
    refine pv_ 17 48 q7_8 (any_of HT_.out (by kernel_rfl)) ?_
    refine pv_ 18 49 q7_7 (any_of HT_.out (by kernel_rfl)) ?_
    refine pv_ 19 50 q7_6 (any_of HT_.out (by kernel_rfl)) ?_
    refine take_ (i := 20) (N := some 51) (v := ?_) (a' := ?_) q7_5 rfl rfl (take_ofW HT_.out HW_.out (by kernel_rfl)) (fun _ _ _ h => h) (Or.inl ⟨by rfl, ?_⟩) hHeld ?_ ?_
    rotate_left
    ·rintro w' ⟨s0, s1, s2, s3, s4, s5, s6, s7⟩
     go_simp
     with_reducible rfl
    rotate_left
    ·simp only [Act.put, q0_, List.set_cons_zero, List.set_cons_succ, i64_w, i32_w]
     rfl
    refine take_ (i := 21) (N := some 52) (v := ?_) (a' := ?_) q7_4 rfl rfl (take_ofW HT_.out HW_.out (by kernel_rfl)) (fun _ _ _ h => h) (Or.inl ⟨by rfl, ?_⟩) hHeld ?_ ?_
    rotate_left
    ·rintro w' ⟨s0, s1, s2, s3, s4, s5, s6, s7⟩
     go_simp
     with_reducible rfl
    rotate_left
    ·simp only [Act.put, q0_, List.set_cons_zero, List.set_cons_succ, i64_w, i32_w]
     rfl
    refine one_ (i := 22) (N := some 53) q7_3 rfl rfl (one_of HT_.out (by kernel_rfl)) (by decide) (fun K hK => ?_)
    refine goes_ Tryd.func15 (by kernel_rfl) rfl #[.agg #[.int .i64 t109, .int .i64 t110, .int .i64 t111, .slice Ao19 t112.length co19], .agg #[.int .i64 t101, .int .i64 t102, .int .i64 t103, .slice Ao13 t104.length co13]] (by rfl) rfl rfl (by (try simp only [List.map_toArray, List.map_cons, List.map_nil]);first | done | rfl | (simp only [List.length_drop, List.length_take];rfl)) ?_
    with_reducible refine (impl_ExSame.calls kj2 t109 t110 t111 _ _ t112 t101 t102 t103 _ _ t104 t121 _ ?side1 ?side2 ?side3 ?side4 A39.out).mono ?_
    (case side1 => repeat (first | exact (Kd.N_reads' HO114.out).2.2 | (with_reducible refine Kd.C_alloc ?_ _) | (with_reducible refine Kd.C_drewN ?_ _) | (with_reducible refine Kd.C_drew ?_)))
    (case side2 => exact (Kd.N_reads' HO114.out).2.1)
    (case side3 => repeat (first | exact (Kd.N_reads' HO106.out).2.2 | (with_reducible refine Kd.C_alloc ?_ _) | (with_reducible refine Kd.C_drewN ?_ _) | (with_reducible refine Kd.C_drew ?_)))
    (case side4 => exact (Kd.N_reads' HO106.out).2.1)
    rintro e w46 ⟨rfl, hb⟩
    refine ⟨_, rfl, ?_⟩
    replace HO106 := m0_ (Kd.N_below (by exact HO106.out) hb)
    replace HO114 := m0_ (Kd.N_below (by exact HO114.out) hb)
    replace BK107 := m0_ (qk_ BK107.out hb)
    replace BK116 := m0_ (qk_ BK116.out hb)
    replace HB := m0_ (qj_ (by repeat (first | (with_reducible first | exact HB.out | apply qg_ | apply qa_ | apply qf_ | refine qe_ ?_ GE107.out | refine qe_ ?_ GE116.out) | exact HB.out)) hb)
    (try clear hb)
    (try clear hb2)
    (try clear hk)
    (try clear hi)
    refine hK.out _ _ ⟨(qh_ BK107.out 0).trans rfl, (qh_ BK107.out 1).trans rfl, (qh_ BK107.out 2).trans rfl, (qh_ BK107.out 3).trans rfl, (qh_ BK116.out 0).trans rfl, (qh_ BK116.out 1).trans rfl, (qh_ BK116.out 2).trans rfl, (qh_ BK116.out 3).trans rfl⟩ (fun hHeld => ?_)
    clear hK K
    refine norm_ (a' := ?_) ?_ ?_
    rotate_left
    ·show Act.put _ (some 53) _ = _
     simp only [Act.put, q0_, List.set_cons_zero, List.set_cons_succ, i64_w, i32_w]
     rfl
    refine pv_ 23 54 q7_2 (any_of HT_.out (by kernel_rfl)) ?_
    refine pv_ 24 55 q7_1 (any_of HT_.out (by kernel_rfl)) ?_
    refine pv_ 25 56 q7_0 (any_of HT_.out (by kernel_rfl)) ?_
    refine done_ (done_of HT_.out (by kernel_rfl)) ?_
    try go_wp2
    go_meet
    case rel => exact ⟨_, (!t121), (by first | rfl | (simp;done) | (simp [*];done)), H', ⟨by have := HJ2.out;first | omega | exact Nat.le_refl _⟩, ⟨by (with_reducible repeat (first | apply Kd.N_alloc | apply Kd.N_drewN | apply Kd.N_drew));exact HO106.out⟩, ⟨by (with_reducible repeat (first | apply Kd.N_alloc | apply Kd.N_drewN | apply Kd.N_drew));exact HO114.out⟩, ⟨by (with_reducible repeat (first | refine qc_ ?_ _ | refine qd_ ?_ | refine qb_ ?_ _));exact BK107.out⟩, ⟨by (with_reducible repeat (first | refine qc_ ?_ _ | refine qd_ ?_ | refine qb_ ?_ _));exact BK116.out⟩, ⟨by repeat (first | (with_reducible first | exact HB.out | apply qg_ | apply qa_ | apply qf_ | refine qe_ ?_ GE107.out | refine qe_ ?_ GE116.out) | exact HB.out)⟩⟩
   case rest =>
    clear HC9
    try clear c1
    try clear c2
    try clear p2
    try clear c3
    try clear c9
    try clear c17
    try clear c19
    try clear c21
    try clear c21b0
    try clear c21b1
    try clear c38
    obtain ⟨kq, x56_8, rfl, HA, HJ8, HO_108003, HO_117003, BK107, BK116, HB⟩ := hcut
    cases kq with
    | zero => exact absurd HA.out (by simp [laws_FnEx.j1])
    | succ kj8 =>
     have H := HA.out
     clear HA
     simp only [laws_FnEx.j1] at H
     by_cases c56 : x56_8 = true
     ·subst c56
      have H1 : (some false) = some r := by rw [if_pos rfl] at H;exact H
      clear H
      have H := H1
      clear H1
      exact absurd (Option.some.inj H) (by rw [hT_.out];decide)
     replace c56 := Bool.eq_false_iff.mpr c56
     subst c56
     have H1 : ((spec_DrawExRead.f kj8 l1).bind fun t122 => ((impl_ExRead.f kj8 t122).bind fun bt123 => ((spec_ExRead.f kj8 t122).bind fun bt131 => (if (bt123.2.2.2.2 == bt131.2.2.2.2) = true then (if bt123.2.2.2.2 = true then ((impl_ExText.f kj8 bt123.1 bt123.2.1 bt123.2.2.1 bt123.2.2.2.1).bind fun t139 => (if t139.toList = t122.toList then ((impl_ExOk.f kj8 bt123.1 bt123.2.1 bt123.2.2.1 bt123.2.2.2.1).bind fun t140 => (some t140)) else (some false))) else (some true)) else (some false))))) = some r := by rw [if_neg (show ¬ (false = true) by decide)] at H;exact H
     clear H
     have H := H1
     clear H1
     replace H := Option.bind_eq_some_iff.mp H
     obtain ⟨t122, A570, H⟩ := H
     replace H : ((impl_ExRead.f kj8 t122).bind fun bt123 => ((spec_ExRead.f kj8 t122).bind fun bt131 => (if (bt123.2.2.2.2 == bt131.2.2.2.2) = true then (if bt123.2.2.2.2 = true then ((impl_ExText.f kj8 bt123.1 bt123.2.1 bt123.2.2.1 bt123.2.2.2.1).bind fun t139 => (if t139.toList = t122.toList then ((impl_ExOk.f kj8 bt123.1 bt123.2.1 bt123.2.2.1 bt123.2.2.2.1).bind fun t140 => (some t140)) else (some false))) else (some true)) else (some false)))) = some r := H
     have A57 := m0_ A570
     clear A570
     replace H := Option.bind_eq_some_iff.mp H
     obtain ⟨⟨t123, t124, t125, t126, t129⟩, A580, H⟩ := H
     replace H : ((spec_ExRead.f kj8 t122).bind fun bt131 => (if (t129 == bt131.2.2.2.2) = true then (if t129 = true then ((impl_ExText.f kj8 t123 t124 t125 t126).bind fun t139 => (if t139.toList = t122.toList then ((impl_ExOk.f kj8 t123 t124 t125 t126).bind fun t140 => (some t140)) else (some false))) else (some true)) else (some false))) = some r := H
     have A58 := m0_ A580
     clear A580
     replace H := Option.bind_eq_some_iff.mp H
     obtain ⟨⟨t131, t132, t133, t134, t137⟩, A590, H⟩ := H
     replace H : (if (t129 == t137) = true then (if t129 = true then ((impl_ExText.f kj8 t123 t124 t125 t126).bind fun t139 => (if t139.toList = t122.toList then ((impl_ExOk.f kj8 t123 t124 t125 t126).bind fun t140 => (some t140)) else (some false))) else (some true)) else (some false)) = some r := H
     have A59 := m0_ A590
     clear A590
     by_cases c60 : (t129 == t137) = true
     rotate_left
     ·rw [if_neg c60] at H
      have c60b0 : (t129 == t137) = false := by simpa using c60
      (try (have c60b1 : decide (t129 = t137) = false := by simpa using c60))
      (try (have c60b2 : (t129 == t137) = false := by simpa using c60))
      (try (have c60b3 : ¬ (t129 = t137) := by simpa using c60))
      clear c60
      exact absurd (Option.some.inj H) (by rw [hT_.out];decide)
     rw [if_pos c60] at H
     have c60b0 : (t129 == t137) = true := c60
     (try (have c60b1 : decide (t129 = t137) = true := by simpa using c60))
     (try (have c60b2 : (t129 == t137) = true := by simpa using c60))
     clear c60
     by_cases c61 : t129 = true
     rotate_left
     ·replace c61 := Bool.eq_false_iff.mpr c61
      subst c61
      have H1 : (some true) = some r := by rw [if_neg (show ¬ (false = true) by decide)] at H;exact H
      clear H
      have H := H1
      clear H1
      obtain rfl := Option.some.inj H
      go_wp2_with (first | ((with_reducible refine gate_callee (f := 26) rfl ?_);refine goesL_ (some 58) rfl rfl Tryd.func26 (by kernel_rfl) rfl #[.slice A1 l1.length c1] rfl (by (try simp only [List.map_toArray, List.map_cons, List.map_nil]);first | done | rfl | (simp only [List.length_drop, List.length_take];rfl)) ?_;(with_reducible refine (spec_DrawExRead.calls kj8 _ _ l1 t122 _ ?side1 ?side2 A57.out).mono ?_);(case side1 => repeat (first | exact (Kd.C_below HR1.out HB.out) | (with_reducible refine Kd.C_alloc ?_ _) | (with_reducible refine Kd.C_drewN ?_ _) | (with_reducible refine Kd.C_drew ?_)));(case side2 => exact HC1.out);rintro e w83 ⟨rfl, hb⟩;refine ⟨_, rfl, ?_⟩;replace HO_108003 := m0_ (Kd.N_below (by exact HO_108003.out) hb);replace HO_117003 := m0_ (Kd.N_below (by exact HO_117003.out) hb);replace BK107 := m0_ (qk_ BK107.out hb);replace BK116 := m0_ (qk_ BK116.out hb);replace HB := m0_ (qj_ (by repeat (first | (with_reducible first | exact HB.out | apply qg_ | apply qa_ | apply qf_ | refine qe_ ?_ GE107.out | refine qe_ ?_ GE116.out) | exact HB.out)) hb);(try clear hb);(try clear hb2);(try clear hk);(try clear hi)) | ((with_reducible refine gate_callee (f := 22) rfl ?_);refine goesL_ (some 61) rfl rfl Tryd.func22 (by kernel_rfl) rfl #[.string t122] rfl (by (try simp only [List.map_toArray, List.map_cons, List.map_nil]);first | done | rfl | (simp only [List.length_drop, List.length_take];rfl)) ?_;(with_reducible refine (impl_ExRead.calls kj8 t122 t123 t124 t125 t126 false _ A58.out (by first | exact TabX.below HTX_TabX.out (by repeat (first | (with_reducible first | exact HB.out | apply qg_ | apply qa_ | apply qf_ | refine qe_ ?_ GE107.out | refine qe_ ?_ GE116.out | refine qe_ ?_ GE130.out | refine qe_ ?_ GE138.out) | exact HB.out)) | exact TabX.below (TabX.below HTX_TabX.out HB.out) Q_HB) (by first | exact TabR.below HTX_TabR.out (by repeat (first | (with_reducible first | exact HB.out | apply qg_ | apply qa_ | apply qf_ | refine qe_ ?_ GE107.out | refine qe_ ?_ GE116.out | refine qe_ ?_ GE130.out | refine qe_ ?_ GE138.out) | exact HB.out)) | exact TabR.below (TabR.below HTX_TabR.out HB.out) Q_HB)).mono ?_);rintro e w84 ⟨v127, rfl, ho0, hb⟩;refine ⟨_, rfl, ?_⟩;have HO128 := m0_ (Kd.N_lower (Kd.N_mono (ok' := fun k_ => some k_ ≠ (.slice Ao13 t104.length co13 : Value).ownBlock ∧ some k_ ≠ (.slice Ao19 t112.length co19 : Value).ownBlock ∧ k_ ≠ gb107 ∧ k_ ≠ gb116) (Kd.R_N (Kd.R_bound ho0)) (fun k_ hk_ => ⟨(Kd.fresh' (Kd.N_lt (by exact HO_108003.out)) k_ hk_.2.1), (Kd.fresh' (Kd.N_lt (by exact HO_117003.out)) k_ hk_.2.1), (Kd.freshB BK107.out k_ hk_.2.1), (Kd.freshB BK116.out k_ hk_.2.1)⟩)) (qp_ (by repeat (first | (with_reducible first | exact HB.out | apply qg_ | apply qa_ | apply qf_ | refine qe_ ?_ GE107.out | refine qe_ ?_ GE116.out) | exact HB.out))));replace HO_108003 := m0_ (Kd.N_elder' (by exact HO_108003.out) (by first | exact Kd.N_base ho0 | exact Kd.S_base ho0 | exact Kd.R_base ho0) hb);replace HO_117003 := m0_ (Kd.N_elder' (by exact HO_117003.out) (by first | exact Kd.N_base ho0 | exact Kd.S_base ho0 | exact Kd.R_base ho0) hb);replace BK107 := m0_ (qk_ BK107.out hb);replace BK116 := m0_ (qk_ BK116.out hb);replace HB := m0_ (qj_ (by repeat (first | (with_reducible first | exact HB.out | apply qg_ | apply qa_ | apply qf_ | refine qe_ ?_ GE107.out | refine qe_ ?_ GE116.out) | exact HB.out)) hb);(try clear hb);(try clear hb2);(try clear hk);(try clear hi);(try clear ho0)) | ((with_reducible refine gate_dst (N := 10) rfl ?_);(try (refine gate_guard (by rfl) ?_;dsimp only));refine qs_ ?hg (N := 10) ?hd (cs := #[.int .i64 0, .int .i64 0, .int .i64 0, .slice none 0 0]) (t := 29) ?hr ?_;(case hd => rfl);(case hg => rfl);(case hr => first | (go_simp;done) | (go_simp;rfl));intro gb130 hg w85 hbox hb;replace HO_108003 := m0_ (Kd.N_below (Kd.N_elderB (by exact HO_108003.out) gb130 (Nat.le_of_eq hg.symm)) hb);replace HO_117003 := m0_ (Kd.N_below (Kd.N_elderB (by exact HO_117003.out) gb130 (Nat.le_of_eq hg.symm)) hb);replace HO128 := m0_ (Kd.N_below (Kd.N_elderB (by exact HO128.out) gb130 (Nat.le_of_eq hg.symm)) hb);have BK130 := m0_ (hbox);have GW130 := m0_ ((by rw [hg];exact (qp_ (by repeat (first | (with_reducible first | exact HB.out | apply qg_ | apply qa_ | apply qf_ | refine qe_ ?_ GE107.out | refine qe_ ?_ GE116.out) | exact HB.out))) : w.heap.size ≤ gb130));have GE130 := m0_ ((by rw [hg];exact (qp_ (by repeat (first | (with_reducible first | exact HB.out | apply qg_ | apply qa_ | apply qf_ | refine qe_ ?_ GE107.out | refine qe_ ?_ GE116.out) | exact HB.out))) : w.heap.size ≤ gb130));replace HB := m0_ (qj_ (by repeat (first | (with_reducible first | exact HB.out | apply qg_ | apply qa_ | apply qf_ | refine qe_ ?_ GE107.out | refine qe_ ?_ GE116.out) | exact HB.out)) hb);have NB107_130 := m0_ ((by rw [hg];exact qv_ (blk_lt BK107.out) : gb107 ≠ gb130));have NB130_107 := m0_ ((by rw [hg];exact qx_ (blk_lt BK107.out) : gb130 ≠ gb107));replace BK107 := m0_ (qk_ BK107.out hb);have NB116_130 := m0_ ((by rw [hg];exact qv_ (blk_lt BK116.out) : gb116 ≠ gb130));have NB130_116 := m0_ ((by rw [hg];exact qx_ (blk_lt BK116.out) : gb130 ≠ gb116));replace BK116 := m0_ (qk_ BK116.out hb);clear hb hbox hg;have hnb86 := NB130_107.out;have hnc86 := NB107_130.out;have hnb87 := NB130_116.out;have hnc87 := NB116_130.out;obtain ⟨hcz88_0, hcz88_1, hcz88_2, hcz88_3, hfz88_0, hfz88_1, hfz88_2, hfz88_3⟩ := bx4 BK130.out;obtain ⟨Ao89, co89, eo89⟩ := Kd.N_slice HO128.out;subst eo89) | ((with_reducible refine gate_callee (f := 21) rfl ?_);refine goesL_ (some 66) rfl rfl Tryd.func21 (by kernel_rfl) rfl #[.string t122] rfl (by (try simp only [List.map_toArray, List.map_cons, List.map_nil]);first | done | rfl | (simp only [List.length_drop, List.length_take];rfl)) ?_;(with_reducible refine (spec_ExRead.calls kj8 t122 t131 t132 t133 t134 t137 _ A59.out).mono ?_);rintro e w90 ⟨v135, rfl, ho0, hb⟩;refine ⟨_, rfl, ?_⟩;have HO136 := m0_ (Kd.N_lower (Kd.N_mono (ok' := fun k_ => some k_ ≠ (.slice Ao13 t104.length co13 : Value).ownBlock ∧ some k_ ≠ (.slice Ao19 t112.length co19 : Value).ownBlock ∧ some k_ ≠ (.slice Ao89 t126.length co89 : Value).ownBlock ∧ k_ ≠ gb107 ∧ k_ ≠ gb116 ∧ k_ ≠ gb130) (Kd.R_N (Kd.R_bound ho0)) (fun k_ hk_ => ⟨(Kd.fresh' (Kd.N_lt (by (with_reducible repeat (first | apply Kd.N_alloc | apply Kd.N_drewN | apply Kd.N_drew));exact (Kd.N_mono (Kd.N_far (p := ⟨gb130, 3, none⟩) (Kd.N_far (p := ⟨gb130, 2, none⟩) (Kd.N_far (p := ⟨gb130, 1, none⟩) (Kd.N_far (p := ⟨gb130, 0, none⟩) (Kd.N_mono HO_108003.out (fun k_ hk => (⟨hk, hk.2⟩ : _ ∧ k_ ≠ gb130))) (fun _ hk => hk.2) (.int .i64 t123)) (fun _ hk => hk.2) (.int .i64 t124)) (fun _ hk => hk.2) (.int .i64 t125)) (fun _ hk => hk.2) (.slice Ao89 t126.length co89)) (fun _ h_ => h_.1)))) k_ hk_.2.1), (Kd.fresh' (Kd.N_lt (by (with_reducible repeat (first | apply Kd.N_alloc | apply Kd.N_drewN | apply Kd.N_drew));exact (Kd.N_mono (Kd.N_far (p := ⟨gb130, 3, none⟩) (Kd.N_far (p := ⟨gb130, 2, none⟩) (Kd.N_far (p := ⟨gb130, 1, none⟩) (Kd.N_far (p := ⟨gb130, 0, none⟩) (Kd.N_mono HO_117003.out (fun k_ hk => (⟨hk, hk.2⟩ : _ ∧ k_ ≠ gb130))) (fun _ hk => hk.2) (.int .i64 t123)) (fun _ hk => hk.2) (.int .i64 t124)) (fun _ hk => hk.2) (.int .i64 t125)) (fun _ hk => hk.2) (.slice Ao89 t126.length co89)) (fun _ h_ => h_.1)))) k_ hk_.2.1), (Kd.fresh' (Kd.N_lt (by (with_reducible repeat (first | apply Kd.N_alloc | apply Kd.N_drewN | apply Kd.N_drew));exact (Kd.N_mono (Kd.N_far (p := ⟨gb130, 3, none⟩) (Kd.N_far (p := ⟨gb130, 2, none⟩) (Kd.N_far (p := ⟨gb130, 1, none⟩) (Kd.N_far (p := ⟨gb130, 0, none⟩) (Kd.N_mono HO128.out (fun k_ hk => (⟨hk, hk.2⟩ : _ ∧ k_ ≠ gb130))) (fun _ hk => hk.2) (.int .i64 t123)) (fun _ hk => hk.2) (.int .i64 t124)) (fun _ hk => hk.2) (.int .i64 t125)) (fun _ hk => hk.2) (.slice Ao89 t126.length co89)) (fun _ h_ => h_.1)))) k_ hk_.2.1), (Kd.freshB (g := gb107) (o := .cells #[.int .i64 t101, .int .i64 t102, .int .i64 t103, .slice Ao13 t104.length co13] 29 (0, 0)) (by (with_reducible repeat (first | refine qc_ ?_ _ | refine qd_ ?_ | refine qb_ ?_ _));refine qt_ ?_ NB107_130.out _;(with_reducible repeat (first | refine qc_ ?_ _ | refine qd_ ?_ | refine qb_ ?_ _));refine qt_ ?_ NB107_130.out _;(with_reducible repeat (first | refine qc_ ?_ _ | refine qd_ ?_ | refine qb_ ?_ _));refine qt_ ?_ NB107_130.out _;(with_reducible repeat (first | refine qc_ ?_ _ | refine qd_ ?_ | refine qb_ ?_ _));refine qt_ ?_ NB107_130.out _;(with_reducible repeat (first | refine qc_ ?_ _ | refine qd_ ?_ | refine qb_ ?_ _));exact BK107.out) k_ hk_.2.1), (Kd.freshB (g := gb116) (o := .cells #[.int .i64 t109, .int .i64 t110, .int .i64 t111, .slice Ao19 t112.length co19] 29 (0, 0)) (by (with_reducible repeat (first | refine qc_ ?_ _ | refine qd_ ?_ | refine qb_ ?_ _));refine qt_ ?_ NB116_130.out _;(with_reducible repeat (first | refine qc_ ?_ _ | refine qd_ ?_ | refine qb_ ?_ _));refine qt_ ?_ NB116_130.out _;(with_reducible repeat (first | refine qc_ ?_ _ | refine qd_ ?_ | refine qb_ ?_ _));refine qt_ ?_ NB116_130.out _;(with_reducible repeat (first | refine qc_ ?_ _ | refine qd_ ?_ | refine qb_ ?_ _));refine qt_ ?_ NB116_130.out _;(with_reducible repeat (first | refine qc_ ?_ _ | refine qd_ ?_ | refine qb_ ?_ _));exact BK116.out) k_ hk_.2.1), (Kd.freshB (g := gb130) (o := .cells #[.int .i64 t123, .int .i64 t124, .int .i64 t125, .slice Ao89 t126.length co89] 29 (0, 0)) (by (with_reducible repeat (first | refine qc_ ?_ _ | refine qd_ ?_ | refine qb_ ?_ _));refine ql_ (cs := #[.int .i64 t123, .int .i64 t124, .int .i64 t125, .slice none 0 0]) ?_ 3 _ rfl;(with_reducible repeat (first | refine qc_ ?_ _ | refine qd_ ?_ | refine qb_ ?_ _));refine ql_ (cs := #[.int .i64 t123, .int .i64 t124, .int .i64 0, .slice none 0 0]) ?_ 2 _ rfl;(with_reducible repeat (first | refine qc_ ?_ _ | refine qd_ ?_ | refine qb_ ?_ _));refine ql_ (cs := #[.int .i64 t123, .int .i64 0, .int .i64 0, .slice none 0 0]) ?_ 1 _ rfl;(with_reducible repeat (first | refine qc_ ?_ _ | refine qd_ ?_ | refine qb_ ?_ _));refine ql_ (cs := #[.int .i64 0, .int .i64 0, .int .i64 0, .slice none 0 0]) ?_ 0 _ rfl;(with_reducible repeat (first | refine qc_ ?_ _ | refine qd_ ?_ | refine qb_ ?_ _));exact BK130.out) k_ hk_.2.1)⟩)) (qp_ (by repeat (first | (with_reducible first | exact HB.out | apply qg_ | apply qa_ | apply qf_ | refine qe_ ?_ GE107.out | refine qe_ ?_ GE116.out | refine qe_ ?_ GE130.out) | exact HB.out))));replace HO_108003 := m0_ (Kd.N_elder' (by (with_reducible repeat (first | apply Kd.N_alloc | apply Kd.N_drewN | apply Kd.N_drew));exact (Kd.N_mono (Kd.N_far (p := ⟨gb130, 3, none⟩) (Kd.N_far (p := ⟨gb130, 2, none⟩) (Kd.N_far (p := ⟨gb130, 1, none⟩) (Kd.N_far (p := ⟨gb130, 0, none⟩) (Kd.N_mono HO_108003.out (fun k_ hk => (⟨hk, hk.2⟩ : _ ∧ k_ ≠ gb130))) (fun _ hk => hk.2) (.int .i64 t123)) (fun _ hk => hk.2) (.int .i64 t124)) (fun _ hk => hk.2) (.int .i64 t125)) (fun _ hk => hk.2) (.slice Ao89 t126.length co89)) (fun _ h_ => h_.1))) (by first | exact Kd.N_base ho0 | exact Kd.S_base ho0 | exact Kd.R_base ho0) hb);replace HO_117003 := m0_ (Kd.N_elder' (by (with_reducible repeat (first | apply Kd.N_alloc | apply Kd.N_drewN | apply Kd.N_drew));exact (Kd.N_mono (Kd.N_far (p := ⟨gb130, 3, none⟩) (Kd.N_far (p := ⟨gb130, 2, none⟩) (Kd.N_far (p := ⟨gb130, 1, none⟩) (Kd.N_far (p := ⟨gb130, 0, none⟩) (Kd.N_mono HO_117003.out (fun k_ hk => (⟨hk, hk.2⟩ : _ ∧ k_ ≠ gb130))) (fun _ hk => hk.2) (.int .i64 t123)) (fun _ hk => hk.2) (.int .i64 t124)) (fun _ hk => hk.2) (.int .i64 t125)) (fun _ hk => hk.2) (.slice Ao89 t126.length co89)) (fun _ h_ => h_.1))) (by first | exact Kd.N_base ho0 | exact Kd.S_base ho0 | exact Kd.R_base ho0) hb);replace HO128 := m0_ (Kd.N_elder' (by (with_reducible repeat (first | apply Kd.N_alloc | apply Kd.N_drewN | apply Kd.N_drew));exact (Kd.N_mono (Kd.N_far (p := ⟨gb130, 3, none⟩) (Kd.N_far (p := ⟨gb130, 2, none⟩) (Kd.N_far (p := ⟨gb130, 1, none⟩) (Kd.N_far (p := ⟨gb130, 0, none⟩) (Kd.N_mono HO128.out (fun k_ hk => (⟨hk, hk.2⟩ : _ ∧ k_ ≠ gb130))) (fun _ hk => hk.2) (.int .i64 t123)) (fun _ hk => hk.2) (.int .i64 t124)) (fun _ hk => hk.2) (.int .i64 t125)) (fun _ hk => hk.2) (.slice Ao89 t126.length co89)) (fun _ h_ => h_.1))) (by first | exact Kd.N_base ho0 | exact Kd.S_base ho0 | exact Kd.R_base ho0) hb);replace BK107 := m0_ (qk_ (g := gb107) (o := .cells #[.int .i64 t101, .int .i64 t102, .int .i64 t103, .slice Ao13 t104.length co13] 29 (0, 0)) (by (with_reducible repeat (first | refine qc_ ?_ _ | refine qd_ ?_ | refine qb_ ?_ _));refine qt_ ?_ NB107_130.out _;(with_reducible repeat (first | refine qc_ ?_ _ | refine qd_ ?_ | refine qb_ ?_ _));refine qt_ ?_ NB107_130.out _;(with_reducible repeat (first | refine qc_ ?_ _ | refine qd_ ?_ | refine qb_ ?_ _));refine qt_ ?_ NB107_130.out _;(with_reducible repeat (first | refine qc_ ?_ _ | refine qd_ ?_ | refine qb_ ?_ _));refine qt_ ?_ NB107_130.out _;(with_reducible repeat (first | refine qc_ ?_ _ | refine qd_ ?_ | refine qb_ ?_ _));exact BK107.out) hb);replace BK116 := m0_ (qk_ (g := gb116) (o := .cells #[.int .i64 t109, .int .i64 t110, .int .i64 t111, .slice Ao19 t112.length co19] 29 (0, 0)) (by (with_reducible repeat (first | refine qc_ ?_ _ | refine qd_ ?_ | refine qb_ ?_ _));refine qt_ ?_ NB116_130.out _;(with_reducible repeat (first | refine qc_ ?_ _ | refine qd_ ?_ | refine qb_ ?_ _));refine qt_ ?_ NB116_130.out _;(with_reducible repeat (first | refine qc_ ?_ _ | refine qd_ ?_ | refine qb_ ?_ _));refine qt_ ?_ NB116_130.out _;(with_reducible repeat (first | refine qc_ ?_ _ | refine qd_ ?_ | refine qb_ ?_ _));refine qt_ ?_ NB116_130.out _;(with_reducible repeat (first | refine qc_ ?_ _ | refine qd_ ?_ | refine qb_ ?_ _));exact BK116.out) hb);replace BK130 := m0_ (qk_ (g := gb130) (o := .cells #[.int .i64 t123, .int .i64 t124, .int .i64 t125, .slice Ao89 t126.length co89] 29 (0, 0)) (by (with_reducible repeat (first | refine qc_ ?_ _ | refine qd_ ?_ | refine qb_ ?_ _));refine ql_ (cs := #[.int .i64 t123, .int .i64 t124, .int .i64 t125, .slice none 0 0]) ?_ 3 _ rfl;(with_reducible repeat (first | refine qc_ ?_ _ | refine qd_ ?_ | refine qb_ ?_ _));refine ql_ (cs := #[.int .i64 t123, .int .i64 t124, .int .i64 0, .slice none 0 0]) ?_ 2 _ rfl;(with_reducible repeat (first | refine qc_ ?_ _ | refine qd_ ?_ | refine qb_ ?_ _));refine ql_ (cs := #[.int .i64 t123, .int .i64 0, .int .i64 0, .slice none 0 0]) ?_ 1 _ rfl;(with_reducible repeat (first | refine qc_ ?_ _ | refine qd_ ?_ | refine qb_ ?_ _));refine ql_ (cs := #[.int .i64 0, .int .i64 0, .int .i64 0, .slice none 0 0]) ?_ 0 _ rfl;(with_reducible repeat (first | refine qc_ ?_ _ | refine qd_ ?_ | refine qb_ ?_ _));exact BK130.out) hb);replace HB := m0_ (qj_ (by repeat (first | (with_reducible first | exact HB.out | apply qg_ | apply qa_ | apply qf_ | refine qe_ ?_ GE107.out | refine qe_ ?_ GE116.out | refine qe_ ?_ GE130.out) | exact HB.out)) hb);(try clear hb);(try clear hb2);(try clear hk);(try clear hi);(try clear ho0)) | ((with_reducible refine gate_dst (N := 12) rfl ?_);(try (refine gate_guard (by rfl) ?_;dsimp only));refine qs_ ?hg (N := 12) ?hd (cs := #[.int .i64 0, .int .i64 0, .int .i64 0, .slice none 0 0]) (t := 29) ?hr ?_;(case hd => rfl);(case hg => rfl);(case hr => first | (go_simp;done) | (go_simp;rfl));intro gb138 hg w91 hbox hb;replace HO_108003 := m0_ (Kd.N_below (Kd.N_elderB (by exact HO_108003.out) gb138 (Nat.le_of_eq hg.symm)) hb);replace HO_117003 := m0_ (Kd.N_below (Kd.N_elderB (by exact HO_117003.out) gb138 (Nat.le_of_eq hg.symm)) hb);replace HO128 := m0_ (Kd.N_below (Kd.N_elderB (by exact HO128.out) gb138 (Nat.le_of_eq hg.symm)) hb);replace HO136 := m0_ (Kd.N_below (Kd.N_elderB (by exact HO136.out) gb138 (Nat.le_of_eq hg.symm)) hb);have BK138 := m0_ (hbox);have GW138 := m0_ ((by rw [hg];exact (qp_ (by repeat (first | (with_reducible first | exact HB.out | apply qg_ | apply qa_ | apply qf_ | refine qe_ ?_ GE107.out | refine qe_ ?_ GE116.out | refine qe_ ?_ GE130.out) | exact HB.out))) : w.heap.size ≤ gb138));have GE138 := m0_ ((by rw [hg];exact (qp_ (by repeat (first | (with_reducible first | exact HB.out | apply qg_ | apply qa_ | apply qf_ | refine qe_ ?_ GE107.out | refine qe_ ?_ GE116.out | refine qe_ ?_ GE130.out) | exact HB.out))) : w.heap.size ≤ gb138));replace HB := m0_ (qj_ (by repeat (first | (with_reducible first | exact HB.out | apply qg_ | apply qa_ | apply qf_ | refine qe_ ?_ GE107.out | refine qe_ ?_ GE116.out | refine qe_ ?_ GE130.out) | exact HB.out)) hb);have NB107_138 := m0_ ((by rw [hg];exact qv_ (blk_lt BK107.out) : gb107 ≠ gb138));have NB138_107 := m0_ ((by rw [hg];exact qx_ (blk_lt BK107.out) : gb138 ≠ gb107));replace BK107 := m0_ (qk_ BK107.out hb);have NB116_138 := m0_ ((by rw [hg];exact qv_ (blk_lt BK116.out) : gb116 ≠ gb138));have NB138_116 := m0_ ((by rw [hg];exact qx_ (blk_lt BK116.out) : gb138 ≠ gb116));replace BK116 := m0_ (qk_ BK116.out hb);have NB130_138 := m0_ ((by rw [hg];exact qv_ (blk_lt BK130.out) : gb130 ≠ gb138));have NB138_130 := m0_ ((by rw [hg];exact qx_ (blk_lt BK130.out) : gb138 ≠ gb130));replace BK130 := m0_ (qk_ BK130.out hb);clear hb hbox hg;have hnb92 := NB138_107.out;have hnc92 := NB107_138.out;have hnb93 := NB138_116.out;have hnc93 := NB116_138.out;have hnb94 := NB138_130.out;have hnc94 := NB130_138.out;obtain ⟨hcz95_0, hcz95_1, hcz95_2, hcz95_3, hfz95_0, hfz95_1, hfz95_2, hfz95_3⟩ := bx4 BK138.out;obtain ⟨Ao96, co96, eo96⟩ := Kd.N_slice HO136.out;subst eo96))
      go_ret
      exact ⟨by first | rfl | (simp [errW_none, errW_some] <;> rfl) | (simp [*, errW_none, errW_some] <;> rfl), by repeat (first | (with_reducible first | exact HB.out | apply qg_ | apply qa_ | apply qf_ | refine qe_ ?_ GE107.out | refine qe_ ?_ GE116.out | refine qe_ ?_ GE130.out | refine qe_ ?_ GE138.out) | exact HB.out)⟩
     subst c61
     have H1 : ((impl_ExText.f kj8 t123 t124 t125 t126).bind fun t139 => (if t139.toList = t122.toList then ((impl_ExOk.f kj8 t123 t124 t125 t126).bind fun t140 => (some t140)) else (some false))) = some r := by rw [if_pos rfl] at H;exact H
     clear H
     have H := H1
     clear H1
     replace H := Option.bind_eq_some_iff.mp H
     obtain ⟨t139, A620, H⟩ := H
     replace H : (if t139.toList = t122.toList then ((impl_ExOk.f kj8 t123 t124 t125 t126).bind fun t140 => (some t140)) else (some false)) = some r := H
     have A62 := m0_ A620
     clear A620
     by_cases c63 : t139.toList = t122.toList
     ·rw [if_pos c63] at H
      have c63b0 : (t139.toList == t122.toList) = true := beq_iff_eq.mpr c63
      have c63b1 : (t139.toList != t122.toList) = false := bne_eq_false_iff_eq.mpr c63
      clear c63
      replace H := Option.bind_eq_some_iff.mp H
      obtain ⟨t140, A640, H⟩ := H
      replace H : (some t140) = some r := H
      have A64 := m0_ A640
      clear A640
      obtain rfl := Option.some.inj H
      go_wp2_with (first | ((with_reducible refine gate_callee (f := 26) rfl ?_);refine goesL_ (some 58) rfl rfl Tryd.func26 (by kernel_rfl) rfl #[.slice A1 l1.length c1] rfl (by (try simp only [List.map_toArray, List.map_cons, List.map_nil]);first | done | rfl | (simp only [List.length_drop, List.length_take];rfl)) ?_;(with_reducible refine (spec_DrawExRead.calls kj8 _ _ l1 t122 _ ?side1 ?side2 A57.out).mono ?_);(case side1 => repeat (first | exact (Kd.C_below HR1.out HB.out) | (with_reducible refine Kd.C_alloc ?_ _) | (with_reducible refine Kd.C_drewN ?_ _) | (with_reducible refine Kd.C_drew ?_)));(case side2 => exact HC1.out);rintro e w65 ⟨rfl, hb⟩;refine ⟨_, rfl, ?_⟩;replace HO_108003 := m0_ (Kd.N_below (by exact HO_108003.out) hb);replace HO_117003 := m0_ (Kd.N_below (by exact HO_117003.out) hb);replace BK107 := m0_ (qk_ BK107.out hb);replace BK116 := m0_ (qk_ BK116.out hb);replace HB := m0_ (qj_ (by repeat (first | (with_reducible first | exact HB.out | apply qg_ | apply qa_ | apply qf_ | refine qe_ ?_ GE107.out | refine qe_ ?_ GE116.out) | exact HB.out)) hb);(try clear hb);(try clear hb2);(try clear hk);(try clear hi)) | ((with_reducible refine gate_callee (f := 22) rfl ?_);refine goesL_ (some 61) rfl rfl Tryd.func22 (by kernel_rfl) rfl #[.string t122] rfl (by (try simp only [List.map_toArray, List.map_cons, List.map_nil]);first | done | rfl | (simp only [List.length_drop, List.length_take];rfl)) ?_;(with_reducible refine (impl_ExRead.calls kj8 t122 t123 t124 t125 t126 true _ A58.out (by first | exact TabX.below HTX_TabX.out (by repeat (first | (with_reducible first | exact HB.out | apply qg_ | apply qa_ | apply qf_ | refine qe_ ?_ GE107.out | refine qe_ ?_ GE116.out | refine qe_ ?_ GE130.out | refine qe_ ?_ GE138.out) | exact HB.out)) | exact TabX.below (TabX.below HTX_TabX.out HB.out) Q_HB) (by first | exact TabR.below HTX_TabR.out (by repeat (first | (with_reducible first | exact HB.out | apply qg_ | apply qa_ | apply qf_ | refine qe_ ?_ GE107.out | refine qe_ ?_ GE116.out | refine qe_ ?_ GE130.out | refine qe_ ?_ GE138.out) | exact HB.out)) | exact TabR.below (TabR.below HTX_TabR.out HB.out) Q_HB)).mono ?_);rintro e w66 ⟨v127, rfl, ho0, hb⟩;refine ⟨_, rfl, ?_⟩;have HO128 := m0_ (Kd.N_lower (Kd.N_mono (ok' := fun k_ => some k_ ≠ (.slice Ao13 t104.length co13 : Value).ownBlock ∧ some k_ ≠ (.slice Ao19 t112.length co19 : Value).ownBlock ∧ k_ ≠ gb107 ∧ k_ ≠ gb116) (Kd.R_N (Kd.R_bound ho0)) (fun k_ hk_ => ⟨(Kd.fresh' (Kd.N_lt (by exact HO_108003.out)) k_ hk_.2.1), (Kd.fresh' (Kd.N_lt (by exact HO_117003.out)) k_ hk_.2.1), (Kd.freshB BK107.out k_ hk_.2.1), (Kd.freshB BK116.out k_ hk_.2.1)⟩)) (qp_ (by repeat (first | (with_reducible first | exact HB.out | apply qg_ | apply qa_ | apply qf_ | refine qe_ ?_ GE107.out | refine qe_ ?_ GE116.out) | exact HB.out))));replace HO_108003 := m0_ (Kd.N_elder' (by exact HO_108003.out) (by first | exact Kd.N_base ho0 | exact Kd.S_base ho0 | exact Kd.R_base ho0) hb);replace HO_117003 := m0_ (Kd.N_elder' (by exact HO_117003.out) (by first | exact Kd.N_base ho0 | exact Kd.S_base ho0 | exact Kd.R_base ho0) hb);replace BK107 := m0_ (qk_ BK107.out hb);replace BK116 := m0_ (qk_ BK116.out hb);replace HB := m0_ (qj_ (by repeat (first | (with_reducible first | exact HB.out | apply qg_ | apply qa_ | apply qf_ | refine qe_ ?_ GE107.out | refine qe_ ?_ GE116.out) | exact HB.out)) hb);(try clear hb);(try clear hb2);(try clear hk);(try clear hi);(try clear ho0)) | ((with_reducible refine gate_dst (N := 10) rfl ?_);(try (refine gate_guard (by rfl) ?_;dsimp only));refine qs_ ?hg (N := 10) ?hd (cs := #[.int .i64 0, .int .i64 0, .int .i64 0, .slice none 0 0]) (t := 29) ?hr ?_;(case hd => rfl);(case hg => rfl);(case hr => first | (go_simp;done) | (go_simp;rfl));intro gb130 hg w67 hbox hb;replace HO_108003 := m0_ (Kd.N_below (Kd.N_elderB (by exact HO_108003.out) gb130 (Nat.le_of_eq hg.symm)) hb);replace HO_117003 := m0_ (Kd.N_below (Kd.N_elderB (by exact HO_117003.out) gb130 (Nat.le_of_eq hg.symm)) hb);replace HO128 := m0_ (Kd.N_below (Kd.N_elderB (by exact HO128.out) gb130 (Nat.le_of_eq hg.symm)) hb);have BK130 := m0_ (hbox);have GW130 := m0_ ((by rw [hg];exact (qp_ (by repeat (first | (with_reducible first | exact HB.out | apply qg_ | apply qa_ | apply qf_ | refine qe_ ?_ GE107.out | refine qe_ ?_ GE116.out) | exact HB.out))) : w.heap.size ≤ gb130));have GE130 := m0_ ((by rw [hg];exact (qp_ (by repeat (first | (with_reducible first | exact HB.out | apply qg_ | apply qa_ | apply qf_ | refine qe_ ?_ GE107.out | refine qe_ ?_ GE116.out) | exact HB.out))) : w.heap.size ≤ gb130));replace HB := m0_ (qj_ (by repeat (first | (with_reducible first | exact HB.out | apply qg_ | apply qa_ | apply qf_ | refine qe_ ?_ GE107.out | refine qe_ ?_ GE116.out) | exact HB.out)) hb);have NB107_130 := m0_ ((by rw [hg];exact qv_ (blk_lt BK107.out) : gb107 ≠ gb130));have NB130_107 := m0_ ((by rw [hg];exact qx_ (blk_lt BK107.out) : gb130 ≠ gb107));replace BK107 := m0_ (qk_ BK107.out hb);have NB116_130 := m0_ ((by rw [hg];exact qv_ (blk_lt BK116.out) : gb116 ≠ gb130));have NB130_116 := m0_ ((by rw [hg];exact qx_ (blk_lt BK116.out) : gb130 ≠ gb116));replace BK116 := m0_ (qk_ BK116.out hb);clear hb hbox hg;have hnb68 := NB130_107.out;have hnc68 := NB107_130.out;have hnb69 := NB130_116.out;have hnc69 := NB116_130.out;obtain ⟨hcz70_0, hcz70_1, hcz70_2, hcz70_3, hfz70_0, hfz70_1, hfz70_2, hfz70_3⟩ := bx4 BK130.out;obtain ⟨Ao71, co71, eo71⟩ := Kd.N_slice HO128.out;subst eo71) | ((with_reducible refine gate_callee (f := 21) rfl ?_);refine goesL_ (some 66) rfl rfl Tryd.func21 (by kernel_rfl) rfl #[.string t122] rfl (by (try simp only [List.map_toArray, List.map_cons, List.map_nil]);first | done | rfl | (simp only [List.length_drop, List.length_take];rfl)) ?_;(with_reducible refine (spec_ExRead.calls kj8 t122 t131 t132 t133 t134 t137 _ A59.out).mono ?_);rintro e w72 ⟨v135, rfl, ho0, hb⟩;refine ⟨_, rfl, ?_⟩;have HO136 := m0_ (Kd.N_lower (Kd.N_mono (ok' := fun k_ => some k_ ≠ (.slice Ao13 t104.length co13 : Value).ownBlock ∧ some k_ ≠ (.slice Ao19 t112.length co19 : Value).ownBlock ∧ some k_ ≠ (.slice Ao71 t126.length co71 : Value).ownBlock ∧ k_ ≠ gb107 ∧ k_ ≠ gb116 ∧ k_ ≠ gb130) (Kd.R_N (Kd.R_bound ho0)) (fun k_ hk_ => ⟨(Kd.fresh' (Kd.N_lt (by (with_reducible repeat (first | apply Kd.N_alloc | apply Kd.N_drewN | apply Kd.N_drew));exact (Kd.N_mono (Kd.N_far (p := ⟨gb130, 3, none⟩) (Kd.N_far (p := ⟨gb130, 2, none⟩) (Kd.N_far (p := ⟨gb130, 1, none⟩) (Kd.N_far (p := ⟨gb130, 0, none⟩) (Kd.N_mono HO_108003.out (fun k_ hk => (⟨hk, hk.2⟩ : _ ∧ k_ ≠ gb130))) (fun _ hk => hk.2) (.int .i64 t123)) (fun _ hk => hk.2) (.int .i64 t124)) (fun _ hk => hk.2) (.int .i64 t125)) (fun _ hk => hk.2) (.slice Ao71 t126.length co71)) (fun _ h_ => h_.1)))) k_ hk_.2.1), (Kd.fresh' (Kd.N_lt (by (with_reducible repeat (first | apply Kd.N_alloc | apply Kd.N_drewN | apply Kd.N_drew));exact (Kd.N_mono (Kd.N_far (p := ⟨gb130, 3, none⟩) (Kd.N_far (p := ⟨gb130, 2, none⟩) (Kd.N_far (p := ⟨gb130, 1, none⟩) (Kd.N_far (p := ⟨gb130, 0, none⟩) (Kd.N_mono HO_117003.out (fun k_ hk => (⟨hk, hk.2⟩ : _ ∧ k_ ≠ gb130))) (fun _ hk => hk.2) (.int .i64 t123)) (fun _ hk => hk.2) (.int .i64 t124)) (fun _ hk => hk.2) (.int .i64 t125)) (fun _ hk => hk.2) (.slice Ao71 t126.length co71)) (fun _ h_ => h_.1)))) k_ hk_.2.1), (Kd.fresh' (Kd.N_lt (by (with_reducible repeat (first | apply Kd.N_alloc | apply Kd.N_drewN | apply Kd.N_drew));exact (Kd.N_mono (Kd.N_far (p := ⟨gb130, 3, none⟩) (Kd.N_far (p := ⟨gb130, 2, none⟩) (Kd.N_far (p := ⟨gb130, 1, none⟩) (Kd.N_far (p := ⟨gb130, 0, none⟩) (Kd.N_mono HO128.out (fun k_ hk => (⟨hk, hk.2⟩ : _ ∧ k_ ≠ gb130))) (fun _ hk => hk.2) (.int .i64 t123)) (fun _ hk => hk.2) (.int .i64 t124)) (fun _ hk => hk.2) (.int .i64 t125)) (fun _ hk => hk.2) (.slice Ao71 t126.length co71)) (fun _ h_ => h_.1)))) k_ hk_.2.1), (Kd.freshB (g := gb107) (o := .cells #[.int .i64 t101, .int .i64 t102, .int .i64 t103, .slice Ao13 t104.length co13] 29 (0, 0)) (by (with_reducible repeat (first | refine qc_ ?_ _ | refine qd_ ?_ | refine qb_ ?_ _));refine qt_ ?_ NB107_130.out _;(with_reducible repeat (first | refine qc_ ?_ _ | refine qd_ ?_ | refine qb_ ?_ _));refine qt_ ?_ NB107_130.out _;(with_reducible repeat (first | refine qc_ ?_ _ | refine qd_ ?_ | refine qb_ ?_ _));refine qt_ ?_ NB107_130.out _;(with_reducible repeat (first | refine qc_ ?_ _ | refine qd_ ?_ | refine qb_ ?_ _));refine qt_ ?_ NB107_130.out _;(with_reducible repeat (first | refine qc_ ?_ _ | refine qd_ ?_ | refine qb_ ?_ _));exact BK107.out) k_ hk_.2.1), (Kd.freshB (g := gb116) (o := .cells #[.int .i64 t109, .int .i64 t110, .int .i64 t111, .slice Ao19 t112.length co19] 29 (0, 0)) (by (with_reducible repeat (first | refine qc_ ?_ _ | refine qd_ ?_ | refine qb_ ?_ _));refine qt_ ?_ NB116_130.out _;(with_reducible repeat (first | refine qc_ ?_ _ | refine qd_ ?_ | refine qb_ ?_ _));refine qt_ ?_ NB116_130.out _;(with_reducible repeat (first | refine qc_ ?_ _ | refine qd_ ?_ | refine qb_ ?_ _));refine qt_ ?_ NB116_130.out _;(with_reducible repeat (first | refine qc_ ?_ _ | refine qd_ ?_ | refine qb_ ?_ _));refine qt_ ?_ NB116_130.out _;(with_reducible repeat (first | refine qc_ ?_ _ | refine qd_ ?_ | refine qb_ ?_ _));exact BK116.out) k_ hk_.2.1), (Kd.freshB (g := gb130) (o := .cells #[.int .i64 t123, .int .i64 t124, .int .i64 t125, .slice Ao71 t126.length co71] 29 (0, 0)) (by (with_reducible repeat (first | refine qc_ ?_ _ | refine qd_ ?_ | refine qb_ ?_ _));refine ql_ (cs := #[.int .i64 t123, .int .i64 t124, .int .i64 t125, .slice none 0 0]) ?_ 3 _ rfl;(with_reducible repeat (first | refine qc_ ?_ _ | refine qd_ ?_ | refine qb_ ?_ _));refine ql_ (cs := #[.int .i64 t123, .int .i64 t124, .int .i64 0, .slice none 0 0]) ?_ 2 _ rfl;(with_reducible repeat (first | refine qc_ ?_ _ | refine qd_ ?_ | refine qb_ ?_ _));refine ql_ (cs := #[.int .i64 t123, .int .i64 0, .int .i64 0, .slice none 0 0]) ?_ 1 _ rfl;(with_reducible repeat (first | refine qc_ ?_ _ | refine qd_ ?_ | refine qb_ ?_ _));refine ql_ (cs := #[.int .i64 0, .int .i64 0, .int .i64 0, .slice none 0 0]) ?_ 0 _ rfl;(with_reducible repeat (first | refine qc_ ?_ _ | refine qd_ ?_ | refine qb_ ?_ _));exact BK130.out) k_ hk_.2.1)⟩)) (qp_ (by repeat (first | (with_reducible first | exact HB.out | apply qg_ | apply qa_ | apply qf_ | refine qe_ ?_ GE107.out | refine qe_ ?_ GE116.out | refine qe_ ?_ GE130.out) | exact HB.out))));replace HO_108003 := m0_ (Kd.N_elder' (by (with_reducible repeat (first | apply Kd.N_alloc | apply Kd.N_drewN | apply Kd.N_drew));exact (Kd.N_mono (Kd.N_far (p := ⟨gb130, 3, none⟩) (Kd.N_far (p := ⟨gb130, 2, none⟩) (Kd.N_far (p := ⟨gb130, 1, none⟩) (Kd.N_far (p := ⟨gb130, 0, none⟩) (Kd.N_mono HO_108003.out (fun k_ hk => (⟨hk, hk.2⟩ : _ ∧ k_ ≠ gb130))) (fun _ hk => hk.2) (.int .i64 t123)) (fun _ hk => hk.2) (.int .i64 t124)) (fun _ hk => hk.2) (.int .i64 t125)) (fun _ hk => hk.2) (.slice Ao71 t126.length co71)) (fun _ h_ => h_.1))) (by first | exact Kd.N_base ho0 | exact Kd.S_base ho0 | exact Kd.R_base ho0) hb);replace HO_117003 := m0_ (Kd.N_elder' (by (with_reducible repeat (first | apply Kd.N_alloc | apply Kd.N_drewN | apply Kd.N_drew));exact (Kd.N_mono (Kd.N_far (p := ⟨gb130, 3, none⟩) (Kd.N_far (p := ⟨gb130, 2, none⟩) (Kd.N_far (p := ⟨gb130, 1, none⟩) (Kd.N_far (p := ⟨gb130, 0, none⟩) (Kd.N_mono HO_117003.out (fun k_ hk => (⟨hk, hk.2⟩ : _ ∧ k_ ≠ gb130))) (fun _ hk => hk.2) (.int .i64 t123)) (fun _ hk => hk.2) (.int .i64 t124)) (fun _ hk => hk.2) (.int .i64 t125)) (fun _ hk => hk.2) (.slice Ao71 t126.length co71)) (fun _ h_ => h_.1))) (by first | exact Kd.N_base ho0 | exact Kd.S_base ho0 | exact Kd.R_base ho0) hb);replace HO128 := m0_ (Kd.N_elder' (by (with_reducible repeat (first | apply Kd.N_alloc | apply Kd.N_drewN | apply Kd.N_drew));exact (Kd.N_mono (Kd.N_far (p := ⟨gb130, 3, none⟩) (Kd.N_far (p := ⟨gb130, 2, none⟩) (Kd.N_far (p := ⟨gb130, 1, none⟩) (Kd.N_far (p := ⟨gb130, 0, none⟩) (Kd.N_mono HO128.out (fun k_ hk => (⟨hk, hk.2⟩ : _ ∧ k_ ≠ gb130))) (fun _ hk => hk.2) (.int .i64 t123)) (fun _ hk => hk.2) (.int .i64 t124)) (fun _ hk => hk.2) (.int .i64 t125)) (fun _ hk => hk.2) (.slice Ao71 t126.length co71)) (fun _ h_ => h_.1))) (by first | exact Kd.N_base ho0 | exact Kd.S_base ho0 | exact Kd.R_base ho0) hb);replace BK107 := m0_ (qk_ (g := gb107) (o := .cells #[.int .i64 t101, .int .i64 t102, .int .i64 t103, .slice Ao13 t104.length co13] 29 (0, 0)) (by (with_reducible repeat (first | refine qc_ ?_ _ | refine qd_ ?_ | refine qb_ ?_ _));refine qt_ ?_ NB107_130.out _;(with_reducible repeat (first | refine qc_ ?_ _ | refine qd_ ?_ | refine qb_ ?_ _));refine qt_ ?_ NB107_130.out _;(with_reducible repeat (first | refine qc_ ?_ _ | refine qd_ ?_ | refine qb_ ?_ _));refine qt_ ?_ NB107_130.out _;(with_reducible repeat (first | refine qc_ ?_ _ | refine qd_ ?_ | refine qb_ ?_ _));refine qt_ ?_ NB107_130.out _;(with_reducible repeat (first | refine qc_ ?_ _ | refine qd_ ?_ | refine qb_ ?_ _));exact BK107.out) hb);replace BK116 := m0_ (qk_ (g := gb116) (o := .cells #[.int .i64 t109, .int .i64 t110, .int .i64 t111, .slice Ao19 t112.length co19] 29 (0, 0)) (by (with_reducible repeat (first | refine qc_ ?_ _ | refine qd_ ?_ | refine qb_ ?_ _));refine qt_ ?_ NB116_130.out _;(with_reducible repeat (first | refine qc_ ?_ _ | refine qd_ ?_ | refine qb_ ?_ _));refine qt_ ?_ NB116_130.out _;(with_reducible repeat (first | refine qc_ ?_ _ | refine qd_ ?_ | refine qb_ ?_ _));refine qt_ ?_ NB116_130.out _;(with_reducible repeat (first | refine qc_ ?_ _ | refine qd_ ?_ | refine qb_ ?_ _));refine qt_ ?_ NB116_130.out _;(with_reducible repeat (first | refine qc_ ?_ _ | refine qd_ ?_ | refine qb_ ?_ _));exact BK116.out) hb);replace BK130 := m0_ (qk_ (g := gb130) (o := .cells #[.int .i64 t123, .int .i64 t124, .int .i64 t125, .slice Ao71 t126.length co71] 29 (0, 0)) (by (with_reducible repeat (first | refine qc_ ?_ _ | refine qd_ ?_ | refine qb_ ?_ _));refine ql_ (cs := #[.int .i64 t123, .int .i64 t124, .int .i64 t125, .slice none 0 0]) ?_ 3 _ rfl;(with_reducible repeat (first | refine qc_ ?_ _ | refine qd_ ?_ | refine qb_ ?_ _));refine ql_ (cs := #[.int .i64 t123, .int .i64 t124, .int .i64 0, .slice none 0 0]) ?_ 2 _ rfl;(with_reducible repeat (first | refine qc_ ?_ _ | refine qd_ ?_ | refine qb_ ?_ _));refine ql_ (cs := #[.int .i64 t123, .int .i64 0, .int .i64 0, .slice none 0 0]) ?_ 1 _ rfl;(with_reducible repeat (first | refine qc_ ?_ _ | refine qd_ ?_ | refine qb_ ?_ _));refine ql_ (cs := #[.int .i64 0, .int .i64 0, .int .i64 0, .slice none 0 0]) ?_ 0 _ rfl;(with_reducible repeat (first | refine qc_ ?_ _ | refine qd_ ?_ | refine qb_ ?_ _));exact BK130.out) hb);replace HB := m0_ (qj_ (by repeat (first | (with_reducible first | exact HB.out | apply qg_ | apply qa_ | apply qf_ | refine qe_ ?_ GE107.out | refine qe_ ?_ GE116.out | refine qe_ ?_ GE130.out) | exact HB.out)) hb);(try clear hb);(try clear hb2);(try clear hk);(try clear hi);(try clear ho0)) | ((with_reducible refine gate_dst (N := 12) rfl ?_);(try (refine gate_guard (by rfl) ?_;dsimp only));refine qs_ ?hg (N := 12) ?hd (cs := #[.int .i64 0, .int .i64 0, .int .i64 0, .slice none 0 0]) (t := 29) ?hr ?_;(case hd => rfl);(case hg => rfl);(case hr => first | (go_simp;done) | (go_simp;rfl));intro gb138 hg w73 hbox hb;replace HO_108003 := m0_ (Kd.N_below (Kd.N_elderB (by exact HO_108003.out) gb138 (Nat.le_of_eq hg.symm)) hb);replace HO_117003 := m0_ (Kd.N_below (Kd.N_elderB (by exact HO_117003.out) gb138 (Nat.le_of_eq hg.symm)) hb);replace HO128 := m0_ (Kd.N_below (Kd.N_elderB (by exact HO128.out) gb138 (Nat.le_of_eq hg.symm)) hb);replace HO136 := m0_ (Kd.N_below (Kd.N_elderB (by exact HO136.out) gb138 (Nat.le_of_eq hg.symm)) hb);have BK138 := m0_ (hbox);have GW138 := m0_ ((by rw [hg];exact (qp_ (by repeat (first | (with_reducible first | exact HB.out | apply qg_ | apply qa_ | apply qf_ | refine qe_ ?_ GE107.out | refine qe_ ?_ GE116.out | refine qe_ ?_ GE130.out) | exact HB.out))) : w.heap.size ≤ gb138));have GE138 := m0_ ((by rw [hg];exact (qp_ (by repeat (first | (with_reducible first | exact HB.out | apply qg_ | apply qa_ | apply qf_ | refine qe_ ?_ GE107.out | refine qe_ ?_ GE116.out | refine qe_ ?_ GE130.out) | exact HB.out))) : w.heap.size ≤ gb138));replace HB := m0_ (qj_ (by repeat (first | (with_reducible first | exact HB.out | apply qg_ | apply qa_ | apply qf_ | refine qe_ ?_ GE107.out | refine qe_ ?_ GE116.out | refine qe_ ?_ GE130.out) | exact HB.out)) hb);have NB107_138 := m0_ ((by rw [hg];exact qv_ (blk_lt BK107.out) : gb107 ≠ gb138));have NB138_107 := m0_ ((by rw [hg];exact qx_ (blk_lt BK107.out) : gb138 ≠ gb107));replace BK107 := m0_ (qk_ BK107.out hb);have NB116_138 := m0_ ((by rw [hg];exact qv_ (blk_lt BK116.out) : gb116 ≠ gb138));have NB138_116 := m0_ ((by rw [hg];exact qx_ (blk_lt BK116.out) : gb138 ≠ gb116));replace BK116 := m0_ (qk_ BK116.out hb);have NB130_138 := m0_ ((by rw [hg];exact qv_ (blk_lt BK130.out) : gb130 ≠ gb138));have NB138_130 := m0_ ((by rw [hg];exact qx_ (blk_lt BK130.out) : gb138 ≠ gb130));replace BK130 := m0_ (qk_ BK130.out hb);clear hb hbox hg;have hnb74 := NB138_107.out;have hnc74 := NB107_138.out;have hnb75 := NB138_116.out;have hnc75 := NB116_138.out;have hnb76 := NB138_130.out;have hnc76 := NB130_138.out;obtain ⟨hcz77_0, hcz77_1, hcz77_2, hcz77_3, hfz77_0, hfz77_1, hfz77_2, hfz77_3⟩ := bx4 BK138.out;obtain ⟨Ao78, co78, eo78⟩ := Kd.N_slice HO136.out;subst eo78;obtain ⟨hcz79_0, hcz79_1, hcz79_2, hcz79_3, hfz79_0, hfz79_1, hfz79_2, hfz79_3⟩ := bx4 BK130.out) | (go_at_call 11;(with_reducible refine (impl_ExText.calls kj8 t123 t124 t125 _ _ t126 t139 _ ?side1 ?side2 A62.out (by first | exact TabX.below HTX_TabX.out (by repeat (first | (with_reducible first | exact HB.out | apply qg_ | apply qa_ | apply qf_ | refine qe_ ?_ GE107.out | refine qe_ ?_ GE116.out | refine qe_ ?_ GE130.out | refine qe_ ?_ GE138.out) | exact HB.out)) | exact TabX.below (TabX.below HTX_TabX.out HB.out) Q_HB)).mono ?_);(case side1 => refine (Kd.N_reads' (e := 29) (base := w.heap.size) (ok := fun k_ => ((((some k_ ≠ (.slice Ao13 t104.length co13 : Value).ownBlock ∧ (some k_ ≠ (.slice Ao19 t112.length co19 : Value).ownBlock ∧ (k_ ≠ gb107 ∧ k_ ≠ gb116))) ∧ k_ ≠ gb130) ∧ some k_ ≠ (.slice Ao78 t134.length co78 : Value).ownBlock) ∧ k_ ≠ gb138)) (n := t126.length) (c := co71) ?_).2.2;exact (by (with_reducible repeat (first | apply Kd.N_alloc | apply Kd.N_drewN | apply Kd.N_drew));exact (Kd.N_mono (Kd.N_far (p := ⟨gb138, 3, none⟩) (Kd.N_far (p := ⟨gb138, 2, none⟩) (Kd.N_far (p := ⟨gb138, 1, none⟩) (Kd.N_far (p := ⟨gb138, 0, none⟩) (Kd.N_mono HO128.out (fun k_ hk => (⟨hk, hk.2⟩ : _ ∧ k_ ≠ gb138))) (fun _ hk => hk.2) (.int .i64 t131)) (fun _ hk => hk.2) (.int .i64 t132)) (fun _ hk => hk.2) (.int .i64 t133)) (fun _ hk => hk.2) (.slice Ao78 t134.length co78)) (fun _ h_ => h_.1))));(case side2 => exact (Kd.N_reads' HO128.out).2.1);rintro e w80 ⟨rfl, hb⟩;replace HO_108003 := m0_ (Kd.N_below (by (with_reducible repeat (first | apply Kd.N_alloc | apply Kd.N_drewN | apply Kd.N_drew));exact (Kd.N_mono (Kd.N_far (p := ⟨gb138, 3, none⟩) (Kd.N_far (p := ⟨gb138, 2, none⟩) (Kd.N_far (p := ⟨gb138, 1, none⟩) (Kd.N_far (p := ⟨gb138, 0, none⟩) (Kd.N_mono HO_108003.out (fun k_ hk => (⟨hk, hk.2⟩ : _ ∧ k_ ≠ gb138))) (fun _ hk => hk.2) (.int .i64 t131)) (fun _ hk => hk.2) (.int .i64 t132)) (fun _ hk => hk.2) (.int .i64 t133)) (fun _ hk => hk.2) (.slice Ao78 t134.length co78)) (fun _ h_ => h_.1))) hb);replace HO_117003 := m0_ (Kd.N_below (by (with_reducible repeat (first | apply Kd.N_alloc | apply Kd.N_drewN | apply Kd.N_drew));exact (Kd.N_mono (Kd.N_far (p := ⟨gb138, 3, none⟩) (Kd.N_far (p := ⟨gb138, 2, none⟩) (Kd.N_far (p := ⟨gb138, 1, none⟩) (Kd.N_far (p := ⟨gb138, 0, none⟩) (Kd.N_mono HO_117003.out (fun k_ hk => (⟨hk, hk.2⟩ : _ ∧ k_ ≠ gb138))) (fun _ hk => hk.2) (.int .i64 t131)) (fun _ hk => hk.2) (.int .i64 t132)) (fun _ hk => hk.2) (.int .i64 t133)) (fun _ hk => hk.2) (.slice Ao78 t134.length co78)) (fun _ h_ => h_.1))) hb);replace HO128 := m0_ (Kd.N_below (by (with_reducible repeat (first | apply Kd.N_alloc | apply Kd.N_drewN | apply Kd.N_drew));exact (Kd.N_mono (Kd.N_far (p := ⟨gb138, 3, none⟩) (Kd.N_far (p := ⟨gb138, 2, none⟩) (Kd.N_far (p := ⟨gb138, 1, none⟩) (Kd.N_far (p := ⟨gb138, 0, none⟩) (Kd.N_mono HO128.out (fun k_ hk => (⟨hk, hk.2⟩ : _ ∧ k_ ≠ gb138))) (fun _ hk => hk.2) (.int .i64 t131)) (fun _ hk => hk.2) (.int .i64 t132)) (fun _ hk => hk.2) (.int .i64 t133)) (fun _ hk => hk.2) (.slice Ao78 t134.length co78)) (fun _ h_ => h_.1))) hb);replace HO136 := m0_ (Kd.N_below (by (with_reducible repeat (first | apply Kd.N_alloc | apply Kd.N_drewN | apply Kd.N_drew));exact (Kd.N_mono (Kd.N_far (p := ⟨gb138, 3, none⟩) (Kd.N_far (p := ⟨gb138, 2, none⟩) (Kd.N_far (p := ⟨gb138, 1, none⟩) (Kd.N_far (p := ⟨gb138, 0, none⟩) (Kd.N_mono HO136.out (fun k_ hk => (⟨hk, hk.2⟩ : _ ∧ k_ ≠ gb138))) (fun _ hk => hk.2) (.int .i64 t131)) (fun _ hk => hk.2) (.int .i64 t132)) (fun _ hk => hk.2) (.int .i64 t133)) (fun _ hk => hk.2) (.slice Ao78 t134.length co78)) (fun _ h_ => h_.1))) hb);replace BK107 := m0_ (qk_ (g := gb107) (o := .cells #[.int .i64 t101, .int .i64 t102, .int .i64 t103, .slice Ao13 t104.length co13] 29 (0, 0)) (by (with_reducible repeat (first | refine qc_ ?_ _ | refine qd_ ?_ | refine qb_ ?_ _));refine qt_ ?_ NB107_138.out _;(with_reducible repeat (first | refine qc_ ?_ _ | refine qd_ ?_ | refine qb_ ?_ _));refine qt_ ?_ NB107_138.out _;(with_reducible repeat (first | refine qc_ ?_ _ | refine qd_ ?_ | refine qb_ ?_ _));refine qt_ ?_ NB107_138.out _;(with_reducible repeat (first | refine qc_ ?_ _ | refine qd_ ?_ | refine qb_ ?_ _));refine qt_ ?_ NB107_138.out _;(with_reducible repeat (first | refine qc_ ?_ _ | refine qd_ ?_ | refine qb_ ?_ _));exact BK107.out) hb);replace BK116 := m0_ (qk_ (g := gb116) (o := .cells #[.int .i64 t109, .int .i64 t110, .int .i64 t111, .slice Ao19 t112.length co19] 29 (0, 0)) (by (with_reducible repeat (first | refine qc_ ?_ _ | refine qd_ ?_ | refine qb_ ?_ _));refine qt_ ?_ NB116_138.out _;(with_reducible repeat (first | refine qc_ ?_ _ | refine qd_ ?_ | refine qb_ ?_ _));refine qt_ ?_ NB116_138.out _;(with_reducible repeat (first | refine qc_ ?_ _ | refine qd_ ?_ | refine qb_ ?_ _));refine qt_ ?_ NB116_138.out _;(with_reducible repeat (first | refine qc_ ?_ _ | refine qd_ ?_ | refine qb_ ?_ _));refine qt_ ?_ NB116_138.out _;(with_reducible repeat (first | refine qc_ ?_ _ | refine qd_ ?_ | refine qb_ ?_ _));exact BK116.out) hb);replace BK130 := m0_ (qk_ (g := gb130) (o := .cells #[.int .i64 t123, .int .i64 t124, .int .i64 t125, .slice Ao71 t126.length co71] 29 (0, 0)) (by (with_reducible repeat (first | refine qc_ ?_ _ | refine qd_ ?_ | refine qb_ ?_ _));refine qt_ ?_ NB130_138.out _;(with_reducible repeat (first | refine qc_ ?_ _ | refine qd_ ?_ | refine qb_ ?_ _));refine qt_ ?_ NB130_138.out _;(with_reducible repeat (first | refine qc_ ?_ _ | refine qd_ ?_ | refine qb_ ?_ _));refine qt_ ?_ NB130_138.out _;(with_reducible repeat (first | refine qc_ ?_ _ | refine qd_ ?_ | refine qb_ ?_ _));refine qt_ ?_ NB130_138.out _;(with_reducible repeat (first | refine qc_ ?_ _ | refine qd_ ?_ | refine qb_ ?_ _));exact BK130.out) hb);replace BK138 := m0_ (qk_ (g := gb138) (o := .cells #[.int .i64 t131, .int .i64 t132, .int .i64 t133, .slice Ao78 t134.length co78] 29 (0, 0)) (by (with_reducible repeat (first | refine qc_ ?_ _ | refine qd_ ?_ | refine qb_ ?_ _));refine ql_ (cs := #[.int .i64 t131, .int .i64 t132, .int .i64 t133, .slice none 0 0]) ?_ 3 _ rfl;(with_reducible repeat (first | refine qc_ ?_ _ | refine qd_ ?_ | refine qb_ ?_ _));refine ql_ (cs := #[.int .i64 t131, .int .i64 t132, .int .i64 0, .slice none 0 0]) ?_ 2 _ rfl;(with_reducible repeat (first | refine qc_ ?_ _ | refine qd_ ?_ | refine qb_ ?_ _));refine ql_ (cs := #[.int .i64 t131, .int .i64 0, .int .i64 0, .slice none 0 0]) ?_ 1 _ rfl;(with_reducible repeat (first | refine qc_ ?_ _ | refine qd_ ?_ | refine qb_ ?_ _));refine ql_ (cs := #[.int .i64 0, .int .i64 0, .int .i64 0, .slice none 0 0]) ?_ 0 _ rfl;(with_reducible repeat (first | refine qc_ ?_ _ | refine qd_ ?_ | refine qb_ ?_ _));exact BK138.out) hb);replace HB := m0_ (qj_ (by repeat (first | (with_reducible first | exact HB.out | apply qg_ | apply qa_ | apply qf_ | refine qe_ ?_ GE107.out | refine qe_ ?_ GE116.out | refine qe_ ?_ GE130.out | refine qe_ ?_ GE138.out) | exact HB.out)) hb);(try clear hb);(try clear hb2);(try clear hk);(try clear hi);obtain ⟨hcz81_0, hcz81_1, hcz81_2, hcz81_3, hfz81_0, hfz81_1, hfz81_2, hfz81_3⟩ := bx4 BK130.out) | (go_at_call 19;(with_reducible refine (impl_ExOk.calls kj8 t123 t124 t125 _ _ t126 t140 _ ?side1 ?side2 A64.out).mono ?_);(case side1 => repeat (first | exact (Kd.N_reads' HO128.out).2.2 | (with_reducible refine Kd.C_alloc ?_ _) | (with_reducible refine Kd.C_drewN ?_ _) | (with_reducible refine Kd.C_drew ?_)));(case side2 => exact (Kd.N_reads' HO128.out).2.1);rintro e w82 ⟨rfl, hb⟩;replace HO_108003 := m0_ (Kd.N_below (by exact HO_108003.out) hb);replace HO_117003 := m0_ (Kd.N_below (by exact HO_117003.out) hb);replace HO128 := m0_ (Kd.N_below (by exact HO128.out) hb);replace HO136 := m0_ (Kd.N_below (by exact HO136.out) hb);replace BK107 := m0_ (qk_ BK107.out hb);replace BK116 := m0_ (qk_ BK116.out hb);replace BK130 := m0_ (qk_ BK130.out hb);replace BK138 := m0_ (qk_ BK138.out hb);replace HB := m0_ (qj_ (by repeat (first | (with_reducible first | exact HB.out | apply qg_ | apply qa_ | apply qf_ | refine qe_ ?_ GE107.out | refine qe_ ?_ GE116.out | refine qe_ ?_ GE130.out | refine qe_ ?_ GE138.out) | exact HB.out)) hb);(try clear hb);(try clear hb2);(try clear hk);(try clear hi)))
      go_ret
      exact ⟨by first | rfl | (simp [errW_none, errW_some] <;> rfl) | (simp [*, errW_none, errW_some] <;> rfl), by repeat (first | (with_reducible first | exact HB.out | apply qg_ | apply qa_ | apply qf_ | refine qe_ ?_ GE107.out | refine qe_ ?_ GE116.out | refine qe_ ?_ GE130.out | refine qe_ ?_ GE138.out) | exact HB.out)⟩
     ·rw [if_neg c63] at H
      have c63b0 : (t139.toList == t122.toList) = false := beq_eq_false_iff_ne.mpr c63
      have c63b1 : (t139.toList != t122.toList) = true := bne_iff_ne.mpr c63
      exact absurd (Option.some.inj H) (by rw [hT_.out];decide)

end Go.Proofs.YtbcdfbiggjfmlaaDoor.M
namespace Go.Proofs.YtbcdfbiggjfmlaaDoor.M
set_option linter.unusedVariables false
set_option linter.unusedSimpArgs false
open Go.RowKit Go.Proofs.YtbcdfbiggjfmlaaDoorW.PrintWords Go.Proofs.YtbcdfbiggjfmlaaDoorW.PrintLast

theorem maxLen_le {n : Nat} (h : n ≤ maxLen) : n ≤ 9223372036854775807 := by unfold maxLen at h; omega
end Go.Proofs.YtbcdfbiggjfmlaaDoor.M
namespace Go.Proofs.YtbcdfbiggjfmlaaDoor.M
open Go.RowKit Go.Proofs.YtbcdfbiggjfmlaaDoorW.PrintWords Go.Proofs.YtbcdfbiggjfmlaaDoorW.PrintLast Go.Proofs.YtbcdfbiggjfmlaaDoorW.PrintMore
attribute [local go_sem] max2_int min2_int max_two min_two max_three min_three max_four min_four
set_option linter.unusedVariables false
set_option linter.unusedSimpArgs false


end Go.Proofs.YtbcdfbiggjfmlaaDoor.M
namespace Go.Proofs.YtbcdfbiggjfmlaaDoor.M
set_option linter.unusedVariables false
set_option linter.unusedSimpArgs false
open Go.RowKit Go.Proofs.YtbcdfbiggjfmlaaDoorW.PrintWords Go.Proofs.YtbcdfbiggjfmlaaDoorW.PrintLast

theorem indI {P : S29 → Prop} (h : ∀ x, (∀ y ∈ x.f3, P y) → P x) : ∀ x, P x := by
  have key : ∀ n, ∀ x : S29, SizeOf.sizeOf x ≤ n → P x := by
    intro n
    induction n with
    | zero => intro x hx; cases x; simp at hx
    | succ n ih =>
      intro x hx
      refine h x (fun y hy => ih y ?_)
      have := List.sizeOf_lt_of_mem hy
      cases x
      simp at *
      omega
  exact fun x => key _ x (Nat.le_refl _)

mutual
def allY : S29 → Nat
  | ⟨_, _, _, l⟩ => l.length + kidsY l
def kidsY : List S29 → Nat
  | [] => 0
  | x :: xs => allY x + kidsY xs
end
theorem allY_is (x : S29) : allY x = x.f3.length + kidsY x.f3 := by cases x; simp [allY]
theorem kidsY_cons (x : S29) (l : List S29) : kidsY (x :: l) = allY x + kidsY l := by simp [kidsY]
theorem kidsY_nil : kidsY [] = 0 := by simp [kidsY]
theorem kidsY_mem {l : List S29} {x : S29} (h : x ∈ l) : allY x ≤ kidsY l := by
  induction l with
  | nil => simp at h
  | cons y l ih =>
    rw [kidsY_cons]
    rcases List.mem_cons.1 h with rfl | h
    · omega
    · have := ih h
      omega
theorem allY_mem {x y : S29} (h : y ∈ x.f3) : allY y + 1 ≤ allY x := by
  have := kidsY_mem h
  have h2 := List.length_pos_of_mem h
  rw [allY_is x]
  omega
theorem allY_len {x : S29} : x.f3.length ≤ allY x := by rw [allY_is]; omega
theorem rdI (l : List S29) (n : Nat) (h : n < l.length) : rd_T29 l (n : Int) = l[n] := by
  show l.getD n z29 = _
  rw [List.getD_eq_getElem?_getD, List.getElem?_eq_getElem h]
  rfl

mutual
def manyY : S29 → Nat
  | ⟨_, _, _, l⟩ => 1 + manysY l
def manysY : List S29 → Nat
  | [] => 0
  | x :: xs => manyY x + manysY xs
end
mutual
def deepY : S29 → Nat
  | ⟨_, _, _, l⟩ => 1 + deepsY l
def deepsY : List S29 → Nat
  | [] => 0
  | x :: xs => max (deepY x) (deepsY xs)
end
def kidsOf (a : Int) : Int := if a = 1 then 0 else if a = 7 then 1 else if a = 2 ∨ a = 3 ∨ a = 4 then 2 else if a = 5 ∨ a = 6 then 3 else -1
def okN (a b c : Int) (n : Nat) : Bool := decide (kidsOf a = n) && (if a = 1 then decide (0 ≤ b ∧ b ≤ 4) else decide (b = 0)) && (if a = 7 then decide (1 ≤ c ∧ c ≤ 20) else decide (c = 0))
mutual
def fmY : S29 → Bool
  | ⟨a, b, c, l⟩ => okN a b c l.length && fmsY l
def fmsY : List S29 → Bool
  | [] => true
  | x :: xs => fmY x && fmsY xs
end
theorem manyY_is (x : S29) : manyY x = 1 + manysY x.f3 := by cases x; simp [manyY]
theorem manysY_nil : manysY [] = 0 := by simp [manysY]
theorem manysY_cons (x : S29) (l : List S29) : manysY (x :: l) = manyY x + manysY l := by simp [manysY]
theorem deepY_is (x : S29) : deepY x = 1 + deepsY x.f3 := by cases x; simp [deepY]
theorem deepsY_nil : deepsY [] = 0 := by simp [deepsY]
theorem deepsY_cons (x : S29) (l : List S29) : deepsY (x :: l) = max (deepY x) (deepsY l) := by simp [deepsY]
theorem fmY_is (x : S29) : fmY x = (okN x.f0 x.f1 x.f2 x.f3.length && fmsY x.f3) := by cases x; simp [fmY]
theorem fmsY_nil : fmsY [] = true := by simp [fmsY]
theorem fmsY_cons (x : S29) (l : List S29) : fmsY (x :: l) = (fmY x && fmsY l) := by simp [fmsY]
theorem manysY_all (l : List S29) (h : ∀ x ∈ l, manyY x = 1 + allY x) : manysY l = l.length + kidsY l := by
  induction l with
  | nil => simp [manysY_nil, kidsY_nil]
  | cons x l ih => rw [manysY_cons, kidsY_cons, h x (by simp), ih (fun y hy => h y (by simp [hy]))]; simp; omega
theorem manyY_all : ∀ x : S29, manyY x = 1 + allY x := by
  refine indI (fun x ih => ?_)
  rw [manyY_is, allY_is, manysY_all _ ih]
theorem deepsY_le (l : List S29) (h : ∀ x ∈ l, deepY x ≤ manyY x) : deepsY l ≤ manysY l := by
  induction l with
  | nil => simp [deepsY_nil, manysY_nil]
  | cons x l ih =>
    have h1 := h x (by simp)
    have h2 := ih (fun y hy => h y (by simp [hy]))
    rw [manysY_cons, deepsY_cons]
    omega
theorem deepY_le : ∀ x : S29, deepY x ≤ manyY x := by
  refine indI (fun x ih => ?_)
  have := deepsY_le _ ih
  rw [manyY_is, deepY_is]
  omega
def SizeOk (x : S29) : Prop := Ev (fun k => impl_Ex_size.f k x.f0 x.f1 x.f2 x.f3) ((manyY x : Int), (deepY x : Int))
theorem size_l0_ev (l : List S29) (hl : l.length ≤ 1048576) (hm : manysY l ≤ 1048577) (hs : ∀ x ∈ l, SizeOk x) : ∀ (d n m p : Nat), n + d = l.length → 1 ≤ m → 1 ≤ p → p ≤ 1048579 → m + manysY (l.drop n) ≤ 1048579 → Ev (fun k => impl_Ex_size.l0 k (m : Int) (p : Int) l (l.length : Int) (n : Int)) (((m + manysY (l.drop n) : Nat) : Int), ((max p (1 + deepsY (l.drop n)) : Nat) : Int)) := by
  intro d
  induction d with
  | zero =>
    intro n m p hn h0 h1 h2 h3
    rw [List.drop_of_length_le (by omega), manysY_nil, deepsY_nil]
    refine Ev.last (fun k => by simp only [impl_Ex_size.l0]; rw [if_neg (by omega)]; rw [Nat.max_eq_left (by omega)]; rfl)
  | succ d ih =>
    intro n m p hn h0 h1 h2 h3
    have hx : SizeOk l[n] := hs _ (List.getElem_mem _)
    have hd := List.drop_eq_getElem_cons (l := l) (i := n) (by omega)
    rw [hd, manysY_cons] at h3
    rw [hd, manysY_cons, deepsY_cons]
    have hp := deepY_le l[n]
    have e1 : wrap64 ((m : Int) + (manyY l[n] : Int)) = ((m + manyY l[n] : Nat) : Int) := by rw [w_small (by omega) (by omega)]; omega
    have e2 : mx (p : Int) (wrap64 ((deepY l[n] : Int) + 1)) = ((max p (1 + deepY l[n]) : Nat) : Int) := by rw [w_small (by omega) (by omega)]; unfold mx; omega
    refine Ev.step (fun k => by simp only [impl_Ex_size.l0]; rw [if_pos (by omega), if_pos (by omega), if_pos (by omega), rdI l n (by omega), w_succ (by omega)]) ?_
    refine Ev.bind hx ?_
    simp only [e1, e2]
    refine Ev.val (ih (n + 1) (m + manyY l[n]) (max p (1 + deepY l[n])) (by omega) (by omega) (by omega) (by omega) (by omega)) ?_
    refine Prod.ext ?_ ?_
    · show ((_ : Nat) : Int) = ((_ : Nat) : Int)
      congr 1
      omega
    · show ((_ : Nat) : Int) = ((_ : Nat) : Int)
      congr 1
      omega
theorem size_ev : ∀ x : S29, allY x ≤ 1048576 → SizeOk x := by
  refine indI (fun x ih g => ?_)
  have hk : ∀ y ∈ x.f3, SizeOk y := fun y hy => ih y hy (by have := allY_mem hy; omega)
  have hl : x.f3.length ≤ 1048576 := by have := allY_len (x := x); omega
  have hm : manysY x.f3 ≤ 1048577 := by have h1 := manyY_all x; have h2 := manyY_is x; omega
  unfold SizeOk
  refine Ev.step (fun k => by simp only [impl_Ex_size.f]; rfl) ?_
  refine Ev.val (size_l0_ev x.f3 hl hm hk x.f3.length 0 1 1 (by omega) (by omega) (by omega) (by omega) (by rw [List.drop_zero]; omega)) ?_
  rw [List.drop_zero, manyY_is, deepY_is]
  refine Prod.ext rfl ?_
  show ((_ : Nat) : Int) = ((_ : Nat) : Int)
  congr 1
  omega

def ManyOk (x : S29) : Prop := ∀ d : Nat, d ≤ 100 → deepY x ≤ d + 1 → Ev (fun k => spec_l2Many.f k x.f0 x.f1 x.f2 x.f3 (d : Int)) (manyY x : Int)
theorem many_l0_ev (l : List S29) (hl : l.length ≤ 1048576) (hs : ∀ x ∈ l, ManyOk x) (a b c : Int) (e : Nat) (he : e ≤ 100) : ∀ (d n m : Nat), n + d = l.length → deepsY (l.drop n) ≤ e → m + manysY (l.drop n) ≤ 1048579 → Ev (fun k => spec_l2Many.l0 k (e : Int) (m : Int) (n : Int) a b c l) ((m + manysY (l.drop n) : Nat) : Int) := by
  intro d
  induction d with
  | zero =>
    intro n m hn h1 h3
    rw [List.drop_of_length_le (by omega), manysY_nil]
    refine Ev.last (fun k => by simp only [spec_l2Many.l0]; rw [if_neg (by omega)]; rfl)
  | succ d ih =>
    intro n m hn h1 h3
    have hx : ManyOk l[n] := hs _ (List.getElem_mem _)
    have hd := List.drop_eq_getElem_cons (l := l) (i := n) (by omega)
    rw [hd, manysY_cons] at h3
    rw [hd, deepsY_cons] at h1
    rw [hd, manysY_cons]
    have hp : 1 ≤ deepY l[n] := by rw [deepY_is]; omega
    have e0 : wrap64 ((e : Int) - 1) = ((e - 1 : Nat) : Int) := by rw [w_small (by omega) (by omega)]; omega
    have e1 : wrap64 ((m : Int) + (manyY l[n] : Int)) = ((m + manyY l[n] : Nat) : Int) := by rw [w_small (by omega) (by omega)]; omega
    refine Ev.step (fun k => by simp only [spec_l2Many.l0]; rw [if_pos (by omega), if_pos (by omega), if_pos (by omega), rdI l n (by omega), w_succ (by omega), e0]) ?_
    refine Ev.bind (hx (e - 1) (by omega) (by omega)) ?_
    simp only [e1]
    have h5 : deepsY (l.drop (n + 1)) ≤ e := by omega
    have h6 : m + manyY l[n] + manysY (l.drop (n + 1)) ≤ 1048579 := by rw [Nat.add_assoc]; exact h3
    have h4 := ih (n + 1) (m + manyY l[n]) (by omega) h5 h6
    rw [Nat.add_assoc] at h4
    exact h4
theorem many_ev : ∀ x : S29, allY x ≤ 1048576 → ManyOk x := by
  refine indI (fun x ih g e he hd => ?_)
  have hk : ∀ y ∈ x.f3, ManyOk y := fun y hy => ih y hy (by have := allY_mem hy; omega)
  have hl : x.f3.length ≤ 1048576 := by have := allY_len (x := x); omega
  have hm : manysY x.f3 ≤ 1048577 := by have h1 := manyY_all x; have h2 := manyY_is x; omega
  rw [deepY_is] at hd
  refine Ev.step (fun k => by simp only [spec_l2Many.f]; rfl) ?_
  refine Ev.val (many_l0_ev x.f3 hl hk x.f0 x.f1 x.f2 e he x.f3.length 0 1 (by omega) (by rw [List.drop_zero]; omega) (by rw [List.drop_zero]; omega)) ?_
  rw [List.drop_zero, manyY_is]

theorem l2Kids_ev (a : Int) : Ev (fun k => spec_l2Kids.f k a) (kidsOf a) := by
  unfold spec_l2Kids.f kidsOf
  by_cases h1 : a = 1
  · exact Ev.pos h1 (Ev.val (Ev.now _) (by rw [if_pos h1]))
  refine Ev.neg h1 ?_
  rw [if_neg h1]
  by_cases h7 : a = 7
  · exact Ev.pos h7 (Ev.val (Ev.now _) (by rw [if_pos h7]))
  refine Ev.neg h7 ?_
  rw [if_neg h7]
  have yes : a = 2 ∨ a = 3 ∨ a = 4 → Ev (fun k => spec_l2Kids.j0 k a true) (if a = 2 ∨ a = 3 ∨ a = 4 then 2 else if a = 5 ∨ a = 6 then 3 else -1) := fun h => Ev.last (fun k => by simp only [spec_l2Kids.j0]; rw [if_pos trivial, if_pos h])
  by_cases h2 : a = 2
  · refine Ev.pos h2 ?_
    rw [show (a == 2) = true by simp [h2]]
    exact yes (by omega)
  refine Ev.neg h2 ?_
  by_cases h3 : a = 3
  · refine Ev.pos h3 ?_
    rw [show (a == 3) = true by simp [h3]]
    exact yes (by omega)
  refine Ev.neg h3 ?_
  by_cases h4 : a = 4
  · rw [show (a == 4) = true by simp [h4]]
    exact yes (by omega)
  rw [show (a == 4) = false by simp [h4]]
  rw [if_neg (by omega)]
  by_cases h5 : a = 5
  · exact Ev.last (fun k => by simp only [spec_l2Kids.j0]; rw [if_neg (by decide), if_pos h5, if_pos (by omega)])
  by_cases h6 : a = 6
  · exact Ev.last (fun k => by simp only [spec_l2Kids.j0]; rw [if_neg (by decide), if_neg h5, if_pos h6, if_pos (by omega)])
  · exact Ev.last (fun k => by simp only [spec_l2Kids.j0]; rw [if_neg (by decide), if_neg h5, if_neg h6, if_neg (by omega)])

def FormOk (x : S29) : Prop := ∀ d : Nat, d ≤ 100 → Ev (fun k => spec_l2Form.f k x.f0 x.f1 x.f2 x.f3 (d : Int)) (fmY x && decide (deepY x ≤ d))
theorem form_l0_ev (l : List S29) (hl : l.length ≤ 1048576) (hs : ∀ x ∈ l, FormOk x) (a b c : Int) (e : Nat) (he : e < 100) : ∀ (d n : Nat), n + d = l.length → Ev (fun k => spec_l2Form.l0 k ((e + 1 : Nat) : Int) (n : Int) a b c l) (fmsY (l.drop n) && decide (deepsY (l.drop n) ≤ e)) := by
  intro d
  induction d with
  | zero =>
    intro n hn
    rw [List.drop_of_length_le (by omega), fmsY_nil, deepsY_nil]
    exact Ev.last (fun k => by simp only [spec_l2Form.l0]; rw [if_neg (by omega)]; simp)
  | succ d ih =>
    intro n hn
    have hx : FormOk l[n] := hs _ (List.getElem_mem _)
    have hd := List.drop_eq_getElem_cons (l := l) (i := n) (by omega)
    rw [hd, fmsY_cons, deepsY_cons]
    have e0 : wrap64 (((e + 1 : Nat) : Int) - 1) = (e : Int) := by rw [w_small (by omega) (by omega)]; omega
    refine Ev.step (fun k => by simp only [spec_l2Form.l0]; rw [if_pos (by omega), if_pos (by omega), rdI l n (by omega), w_succ (by omega), e0]) ?_
    refine Ev.bind (hx e (by omega)) ?_
    by_cases h : (fmY l[n] && decide (deepY l[n] ≤ e)) = true
    · refine Ev.pos h (Ev.val (ih (n + 1) (by omega)) ?_)
      simp only [Bool.and_eq_true, decide_eq_true_eq] at h
      rw [h.1, Bool.true_and]
      have : (deepsY (l.drop (n + 1)) ≤ e) ↔ (max (deepY l[n]) (deepsY (l.drop (n + 1))) ≤ e) := by omega
      simp only [this]
    refine Ev.neg h (Ev.val (Ev.now false) ?_)
    by_cases hf : fmY l[n] = true
    · have : ¬ (max (deepY l[n]) (deepsY (l.drop (n + 1))) ≤ e) := by
        simp [hf] at h
        omega
      simp [this]
    · simp [hf]
theorem form_ev : ∀ x : S29, allY x ≤ 1048576 → FormOk x := by
  refine indI (fun x ih g d hd => ?_)
  have hk : ∀ y ∈ x.f3, FormOk y := fun y hy => ih y hy (by have := allY_mem hy; omega)
  have hl : x.f3.length ≤ 1048576 := by have := allY_len (x := x); omega
  rw [fmY_is, deepY_is]
  have bad : ∀ v : Bool, v = false → Ev (fun k => spec_l2Form.j0 k (d : Int) true x.f0 x.f1 x.f2 x.f3) v := fun v hv => Ev.last (fun k => by simp only [spec_l2Form.j0]; rw [if_pos trivial, hv])
  have bad1 : ∀ v : Bool, v = false → Ev (fun k => spec_l2Form.j1 k (d : Int) true x.f0 x.f1 x.f2 x.f3) v := fun v hv => Ev.last (fun k => by simp only [spec_l2Form.j1]; rw [if_pos trivial, hv])
  by_cases hd1 : (d : Int) < 1
  · refine Ev.step (fun k => by simp only [spec_l2Form.f]; rw [if_pos hd1]) (bad _ ?_)
    have : ¬ (1 + deepsY x.f3 ≤ d) := by omega
    simp [this]
  obtain ⟨e, rfl⟩ : ∃ e, d = e + 1 := ⟨d - 1, by omega⟩
  refine Ev.step (fun k => by simp only [spec_l2Form.f]; rw [if_neg hd1]) ?_
  refine Ev.bind (l2Kids_ev x.f0) ?_
  by_cases hn : kidsOf x.f0 = (x.f3.length : Int)
  rotate_left
  · refine Ev.neg hn (bad _ ?_)
    simp [okN, hn]
  refine Ev.pos hn ?_
  have rest : Ev (fun k => spec_l2Form.j0 k ((e + 1 : Nat) : Int) false x.f0 x.f1 x.f2 x.f3) ((if x.f0 = 7 then decide (1 ≤ x.f2 ∧ x.f2 ≤ 20) else decide (x.f2 = 0)) && (fmsY x.f3 && decide (deepsY x.f3 ≤ e))) := by
    have loop : Ev (fun k => spec_l2Form.j1 k ((e + 1 : Nat) : Int) false x.f0 x.f1 x.f2 x.f3) (fmsY x.f3 && decide (deepsY x.f3 ≤ e)) := by
      refine Ev.step (fun k => by simp only [spec_l2Form.j1]; rw [if_neg (by decide)]) ?_
      exact form_l0_ev x.f3 hl hk x.f0 x.f1 x.f2 e (by omega) x.f3.length 0 (by omega)
    by_cases h7 : x.f0 = 7
    · rw [if_pos h7]
      by_cases c1 : x.f2 < 1
      · refine Ev.step (fun k => by simp only [spec_l2Form.j0]; rw [if_neg (by decide), if_pos h7, if_pos c1]) (bad1 _ ?_)
        have : ¬ (1 ≤ x.f2 ∧ x.f2 ≤ 20) := by omega
        simp [this]
      by_cases c2 : x.f2 > 20
      · refine Ev.step (fun k => by simp only [spec_l2Form.j0]; rw [if_neg (by decide), if_pos h7, if_neg c1, if_pos c2]) (bad1 _ ?_)
        have : ¬ (1 ≤ x.f2 ∧ x.f2 ≤ 20) := by omega
        simp [this]
      · refine Ev.step (fun k => by simp only [spec_l2Form.j0]; rw [if_neg (by decide), if_pos h7, if_neg c1, if_neg c2]) (Ev.val loop ?_)
        have : (1 ≤ x.f2 ∧ x.f2 ≤ 20) := by omega
        simp [this]
    · rw [if_neg h7]
      by_cases c0 : x.f2 = 0
      · refine Ev.step (fun k => by simp only [spec_l2Form.j0]; rw [if_neg (by decide), if_neg h7, show (x.f2 != 0) = false by simp [c0]]) (Ev.val loop ?_)
        simp [c0]
      · refine Ev.step (fun k => by simp only [spec_l2Form.j0]; rw [if_neg (by decide), if_neg h7, show (x.f2 != 0) = true by simp [c0]]) (bad1 _ ?_)
        simp [c0]
  have hdd : (1 + deepsY x.f3 ≤ e + 1) ↔ (deepsY x.f3 ≤ e) := by omega
  simp only [hdd, okN, hn, decide_true, Bool.true_and]
  by_cases b0 : x.f1 < 0
  · refine Ev.pos b0 (bad _ ?_)
    have h1 : ¬ (0 ≤ x.f1 ∧ x.f1 ≤ 4) := by omega
    have h2 : ¬ (x.f1 = 0) := by omega
    simp [h1, h2]
  refine Ev.neg b0 ?_
  by_cases b5 : x.f1 ≥ 5
  · refine Ev.pos b5 (bad _ ?_)
    have h1 : ¬ (0 ≤ x.f1 ∧ x.f1 ≤ 4) := by omega
    have h2 : ¬ (x.f1 = 0) := by omega
    simp [h1, h2]
  refine Ev.neg b5 ?_
  by_cases a1 : x.f0 = 1
  · refine Ev.pos a1 (Ev.val rest ?_)
    rw [if_pos a1]
    have h1 : (0 ≤ x.f1 ∧ x.f1 ≤ 4) := by omega
    simp [h1, Bool.and_assoc]
  refine Ev.neg a1 ?_
  rw [if_neg a1]
  by_cases hb : x.f1 = 0
  · rw [show (x.f1 != 0) = false by simp [hb]]
    refine Ev.val rest ?_
    simp [hb, Bool.and_assoc]
  · rw [show (x.f1 != 0) = true by simp [hb]]
    exact bad _ (by simp [hb])

theorem in_is (a b c : Int) : impl_in.f a b c = some (decide (b ≤ a ∧ a ≤ c)) := by
  unfold impl_in.f
  by_cases h : b ≤ a
  · rw [if_pos h]; simp [h]
  · rw [if_neg h]; simp [h]
theorem kids_is (a : Int) (h1 : 1 ≤ a) (h7 : a ≤ 7) : impl_kids.f a = some (kidsOf a) := by
  have : a = 1 ∨ a = 2 ∨ a = 3 ∨ a = 4 ∨ a = 5 ∨ a = 6 ∨ a = 7 := by omega
  rcases this with rfl | rfl | rfl | rfl | rfl | rfl | rfl <;> rfl
theorem kidsOf_out {a : Int} (h : ¬ (1 ≤ a ∧ a ≤ 7)) : kidsOf a = -1 := by
  unfold kidsOf
  rw [if_neg (by omega), if_neg (by omega), if_neg (by omega), if_neg (by omega)]
def FmOk (x : S29) : Prop := Ev (fun k => impl_Ex_formed.f k x.f0 x.f1 x.f2 x.f3) (fmY x)
theorem fm_l0_ev (l : List S29) (hl : l.length ≤ 1048576) (hs : ∀ x ∈ l, FmOk x) : ∀ (d n : Nat), n + d = l.length → ∃ r : Int, Ev (fun k => impl_Ex_75.l0 k l (l.length : Int) (n : Int)) r ∧ (decide (r ≥ 0) = !fmsY (l.drop n)) := by
  intro d
  induction d with
  | zero =>
    intro n hn
    rw [List.drop_of_length_le (by omega), fmsY_nil]
    exact ⟨-1, Ev.last (fun k => by simp only [impl_Ex_75.l0]; rw [if_neg (by omega)]), by decide⟩
  | succ d ih =>
    intro n hn
    have hx : FmOk l[n] := hs _ (List.getElem_mem _)
    have hd := List.drop_eq_getElem_cons (l := l) (i := n) (by omega)
    rw [hd, fmsY_cons]
    have h1 : Ev (fun k => impl_Ex_formed_1.f k l[n].f0 l[n].f1 l[n].f2 l[n].f3) (!fmY l[n]) := Ev.step (fun k => by simp only [impl_Ex_formed_1.f]; rfl) (Ev.bindS hx rfl)
    cases hf : fmY l[n] with
    | true =>
      obtain ⟨r, hr, hv⟩ := ih (n + 1) (by omega)
      refine ⟨r, ?_, by rw [hv, Bool.true_and]⟩
      refine Ev.step (fun k => by simp only [impl_Ex_75.l0]; rw [if_pos (by omega), if_pos (by omega), if_pos (by omega), rdI l n (by omega), w_succ (by omega)]) ?_
      exact Ev.bind h1 (Ev.neg (by rw [hf]; decide) hr)
    | false =>
      refine ⟨(n : Int), ?_, by simp⟩
      refine Ev.step (fun k => by simp only [impl_Ex_75.l0]; rw [if_pos (by omega), if_pos (by omega), if_pos (by omega), rdI l n (by omega), w_succ (by omega)]) ?_
      exact Ev.bind h1 (Ev.pos (by rw [hf]; decide) (Ev.now _))
theorem formed_ev : ∀ x : S29, allY x ≤ 1048576 → FmOk x := by
  refine indI (fun x ih g => ?_)
  have hk : ∀ y ∈ x.f3, FmOk y := fun y hy => ih y hy (by have := allY_mem hy; omega)
  have hl : x.f3.length ≤ 1048576 := by have := allY_len (x := x); omega
  have hc : Ev (fun k => impl_Ex_63.f k x.f3) (!fmsY x.f3) := by
    obtain ⟨r, hr, hv⟩ := fm_l0_ev x.f3 hl hk x.f3.length 0 (by omega)
    rw [List.drop_zero] at hv
    refine Ev.step (fun k => by simp only [impl_Ex_63.f]; rfl) ?_
    refine Ev.bindS (Ev.step (fun k => by simp only [impl_Ex_75.f]; rfl) hr) ?_
    rw [hv]
  have bad : ∀ v : Bool, v = false → Ev (fun k => impl_Ex_formed.j0 k true x.f0 x.f1 x.f2 x.f3) v := fun v hv => Ev.last (fun k => by simp only [impl_Ex_formed.j0]; rw [if_pos trivial, hv])
  have bad1 : ∀ v : Bool, v = false → Ev (fun k => impl_Ex_formed.j1 k true x.f0 x.f1 x.f2 x.f3) v := fun v hv => Ev.last (fun k => by simp only [impl_Ex_formed.j1]; rw [if_pos trivial, hv])
  have last : Ev (fun k => impl_Ex_formed.j1 k false x.f0 x.f1 x.f2 x.f3) ((if x.f0 = 7 then decide (1 ≤ x.f2 ∧ x.f2 ≤ 20) else decide (x.f2 = 0)) && fmsY x.f3) := by
    by_cases h7 : x.f0 = 7
    · rw [if_pos h7]
      refine Ev.step (fun k => by simp only [impl_Ex_formed.j1]; rw [if_neg (by decide), if_pos h7, in_is, Option.bind_some]) ?_
      by_cases hc7 : 1 ≤ x.f2 ∧ x.f2 ≤ 20
      · refine Ev.pos (by simp [hc7]) (Ev.bindS hc ?_)
        simp [hc7]
      · refine Ev.neg (by simp; omega) (Ev.val (Ev.now false) ?_)
        simp [hc7]
    · rw [if_neg h7]
      by_cases hc0 : x.f2 = 0
      · refine Ev.step (fun k => by simp only [impl_Ex_formed.j1]; rw [if_neg (by decide), if_neg h7, if_pos hc0]) (Ev.bindS hc ?_)
        simp [hc0]
      · refine Ev.last (fun k => by simp only [impl_Ex_formed.j1]; rw [if_neg (by decide), if_neg h7, if_neg hc0]; simp [hc0])
  unfold FmOk
  rw [fmY_is]
  refine Ev.step (fun k => by simp only [impl_Ex_formed.f, impl_isKind.f]; rw [in_is, Option.bind_some, Option.bind_some]) ?_
  by_cases hkd : 1 ≤ x.f0 ∧ x.f0 ≤ 7
  rotate_left
  · refine Ev.neg (by simp; omega) (bad _ ?_)
    have hn : ¬ (kidsOf x.f0 = (x.f3.length : Int)) := by rw [kidsOf_out hkd]; omega
    simp [okN, hn]
  refine Ev.pos (by simp [hkd]) ?_
  refine Ev.bind (Ev.one (fun _ => kids_is x.f0 hkd.1 hkd.2)) ?_
  by_cases hn : kidsOf x.f0 = (x.f3.length : Int)
  rotate_left
  · rw [show ((x.f3.length : Int) != kidsOf x.f0) = true by simp; omega]
    exact bad _ (by simp [okN, hn])
  rw [show ((x.f3.length : Int) != kidsOf x.f0) = false by simp [hn]]
  by_cases a1 : x.f0 = 1
  · refine Ev.step (fun k => by simp only [impl_Ex_formed.j0, impl_isSym.f]; rw [if_neg (by decide), if_pos a1, in_is, Option.bind_some, Option.bind_some]) ?_
    by_cases hb : 0 ≤ x.f1 ∧ x.f1 ≤ 4
    · refine Ev.pos (by simp [hb]) (Ev.val last ?_)
      simp only [okN, hn, decide_true, Bool.true_and]
      rw [if_pos a1]
      simp [hb]
    · refine Ev.neg (by simp; omega) (bad1 _ ?_)
      simp only [okN, hn, decide_true, Bool.true_and]
      rw [if_pos a1]
      simp [hb]
  · by_cases hb : x.f1 = 0
    · refine Ev.step (fun k => by simp only [impl_Ex_formed.j0]; rw [if_neg (by decide), if_neg a1, show (x.f1 != 0) = false by simp [hb]]) (Ev.val last ?_)
      simp only [okN, hn, decide_true, Bool.true_and]
      rw [if_neg a1]
      simp [hb]
    · refine Ev.step (fun k => by simp only [impl_Ex_formed.j0]; rw [if_neg (by decide), if_neg a1, show (x.f1 != 0) = true by simp [hb]]) (bad1 _ ?_)
      simp only [okN, hn, decide_true, Bool.true_and]
      rw [if_neg a1]
      simp [hb]
def okX (x : S29) : Bool := fmY x && decide (deepY x ≤ 5) && decide (manyY x ≤ 12)
theorem form5 (x : S29) (h : allY x ≤ 1048576) : Ev (fun k => spec_l2Form.f k x.f0 x.f1 x.f2 x.f3 5) (fmY x && decide (deepY x ≤ 5)) := form_ev x h 5 (by omega)
theorem many5 (x : S29) (h : allY x ≤ 1048576) (hd : deepY x ≤ 5) : Ev (fun k => spec_l2Many.f k x.f0 x.f1 x.f2 x.f3 5) (manyY x : Int) := many_ev x h 5 (by omega) (by omega)
theorem spec_ExOk_ev (x : S29) (h : allY x ≤ 1048576) : Ev (fun k => spec_ExOk.f k x.f0 x.f1 x.f2 x.f3) (okX x) := by
  unfold spec_ExOk.f okX
  refine Ev.bind (form5 x h) ?_
  by_cases hf : (fmY x && decide (deepY x ≤ 5)) = true
  · have hd : deepY x ≤ 5 := by simp at hf; exact hf.2
    refine Ev.pos hf (Ev.bindS (many5 x h hd) ?_)
    rw [hf, Bool.true_and]
    have : ((manyY x : Int) ≤ 12) ↔ (manyY x ≤ 12) := by omega
    simp only [this]
  · refine Ev.neg hf (Ev.val (Ev.now _) ?_)
    simp only [Bool.not_eq_true] at hf
    rw [hf]
    rfl
theorem impl_ExOk_ev (x : S29) (h : allY x ≤ 1048576) : Ev (fun k => impl_ExOk.f k x.f0 x.f1 x.f2 x.f3) (okX x) := by
  unfold impl_ExOk.f okX
  refine Ev.bind (size_ev x h) ?_
  by_cases hm : manyY x ≤ 12
  · refine Ev.pos (show ((manyY x : Nat) : Int) ≤ 12 by omega) ?_
    by_cases hd : deepY x ≤ 5
    · refine Ev.pos (show ((deepY x : Nat) : Int) ≤ 5 by omega) (Ev.bindS (formed_ev x h) ?_)
      simp [hm, hd]
    · refine Ev.neg (show ¬ (((deepY x : Nat) : Int) ≤ 5) by omega) (Ev.val (Ev.now _) ?_)
      simp [hd]
  · refine Ev.neg (show ¬ (((manyY x : Nat) : Int) ≤ 12) by omega) (Ev.val (Ev.now _) ?_)
    simp [hm]
def itoaB (a : Int) : ByteArray := ⟨(Lib.itoa a).toArray⟩
theorem nDigits_le (n : Nat) : Lib.nDigits n ≤ n / 10 + 2 := by
  induction n using Nat.strongRecOn with
  | _ n ih =>
    by_cases h : n < 10
    · rw [Lib.nDigits_small h]; omega
    · have := ih (n / 10) (by omega)
      rw [Lib.nDigits_big h]; omega
theorem ba_cons (c : UInt8) (l : List UInt8) (x : ByteArray) : (⟨(l ++ [c]).toArray⟩ : ByteArray) ++ x = (⟨l.toArray⟩ : ByteArray) ++ ((⟨#[c]⟩ : ByteArray) ++ x) := by
  apply ByteArray.ext
  simp [ByteArray.data_append]
theorem digit_is (d : Nat) (h : d < 10) : strOfNums [wrap64 (48 + (d : Int)) % 256] = (⟨#[UInt8.ofNat (48 + d)]⟩ : ByteArray) := by
  rw [w_small (by omega) (by omega)]
  have : d = 0 ∨ d = 1 ∨ d = 2 ∨ d = 3 ∨ d = 4 ∨ d = 5 ∨ d = 6 ∨ d = 7 ∨ d = 8 ∨ d = 9 := by omega
  rcases this with rfl | rfl | rfl | rfl | rfl | rfl | rfl | rfl | rfl | rfl <;> rfl
theorem l14Dec_l0 : ∀ (n : Nat) (x : ByteArray), x.size + Lib.nDigits n ≤ 9223372036854775807 → n ≤ 9223372036854775807 → Ev (fun k => spec_l14Dec.l0 k (n : Int) x) ((⟨(Lib.decDigits n).toArray⟩ : ByteArray) ++ x) := by
  intro n
  induction n using Nat.strongRecOn with
  | _ n ih =>
    intro x hx hn
    have one : ∀ c : UInt8, (⟨#[c]⟩ : ByteArray).size = 1 := fun _ => rfl
    by_cases h : n < 10
    · rw [Lib.nDigits_small h] at hx
      rw [Lib.decDigits_one h]
      exact Ev.last (fun k => by simp only [spec_l14Dec.l0]; rw [if_neg (by omega), Option.bind_some, digit_is n h, one, if_pos (by omega)])
    rw [Lib.nDigits_big h] at hx
    have hd : Int.tmod (n : Int) 10 = ((n % 10 : Nat) : Int) := by rw [Int.tmod_eq_emod_of_nonneg (by omega)]; omega
    have hq : wrap64 (Int.tdiv (n : Int) 10) = ((n / 10 : Nat) : Int) := by rw [Int.tdiv_eq_ediv_of_nonneg (by omega), w_small (by omega) (by omega)]; omega
    rw [Lib.decDigits, dif_neg h, ba_cons]
    refine Ev.step (fun k => by simp only [spec_l14Dec.l0]; rw [if_pos (by omega), hd, Option.bind_some, digit_is _ (by omega), one, if_pos (by omega), hq]) (ih (n / 10) (by omega) _ ?_ (by omega))
    rw [ByteArray.size_append, one]
    omega
theorem l14Dec_ev (a : Int) (h0 : -9223372036854775808 ≤ a) (h1 : a ≤ 9223372036854775807) : Ev (fun k => spec_l14Dec.f k a) (itoaB a) := by
  have pos : ∀ a : Int, 0 ≤ a → a ≤ 9223372036854775807 → Ev (fun k => spec_l14Dec.f k a) (itoaB a) := by
    intro a g0 g1
    obtain ⟨n, rfl⟩ := Int.eq_ofNat_of_zero_le g0
    have hd := nDigits_le n
    have := l14Dec_l0 n ⟨#[]⟩ (by show 0 + _ ≤ _; omega) (by omega)
    refine Ev.step (fun k => by simp only [spec_l14Dec.f]; rw [if_neg (by omega), if_neg (by omega)]) (Ev.val this ?_)
    unfold itoaB Lib.itoa
    rw [if_neg (by omega)]
    apply ByteArray.ext
    simp [ByteArray.data_append]
  by_cases hp : 0 ≤ a
  · exact pos a hp h1
  by_cases hm : a < -9223372036854775807
  · have : a = -9223372036854775808 := by omega
    subst this
    refine Ev.step (f := fun _ => some _) (fun k => by simp only [spec_l14Dec.f]; rw [if_pos (by omega)]) (Ev.val (Ev.now _) ?_)
    unfold itoaB Lib.itoa
    rw [if_pos (by omega)]
    simp [Lib.decDigits]
  have hn := pos (-a) (by omega) (by omega)
  have hw : wrap64 (-a) = -a := w_small (by omega) (by omega)
  refine Ev.step (fun k => by simp only [spec_l14Dec.f]; rw [if_neg hm, if_pos (by omega), hw]) ?_
  refine Ev.bind hn ?_
  have hs : (itoaB (-a)).size = Lib.nDigits (-a).toNat := by
    unfold itoaB Lib.itoa
    rw [if_neg (by omega)]
    show ((Lib.decDigits _).toArray).size = _
    rw [List.size_toArray, Lib.decDigits_length]
  have hd := nDigits_le (-a).toNat
  refine Ev.pos (by omega) (Ev.val (Ev.now _) ?_)
  unfold itoaB Lib.itoa
  rw [if_neg (by omega), if_pos (by omega)]
  apply ByteArray.ext
  simp [ByteArray.data_append, show a.natAbs = (-a).toNat by omega]
theorem itoaB_dec (n : Int) (h : 0 ≤ n) : itoaB n = ⟨(Lib.decDigits n.toNat).toArray⟩ := by unfold itoaB Lib.itoa; rw [if_neg (by omega)]
theorem okN_cases {a b c : Int} {n : Nat} (h : okN a b c n = true) : 1 ≤ a ∧ a ≤ 7 ∧ kidsOf a = n ∧ (a = 1 → 0 ≤ b ∧ b ≤ 4 ∧ n = 0) ∧ (a ≠ 1 → b = 0) ∧ (a = 7 → 1 ≤ c ∧ c ≤ 20) ∧ (a ≠ 7 → c = 0) := by
  unfold okN at h
  simp only [Bool.and_eq_true, decide_eq_true_eq] at h
  obtain ⟨⟨h1, h2⟩, h3⟩ := h
  have h0 : 1 ≤ a ∧ a ≤ 7 := Decidable.byContradiction (fun q => by rw [kidsOf_out q] at h1; omega)
  refine ⟨h0.1, h0.2, h1, fun e => ?_, fun e => ?_, fun e => ?_, fun e => ?_⟩
  · rw [if_pos e] at h2
    have := qu_ h2
    refine ⟨this.1, this.2, ?_⟩
    subst e
    have : kidsOf 1 = 0 := rfl
    omega
  · rw [if_neg e] at h2
    exact qu_ h2
  · rw [if_pos e] at h3
    exact qu_ h3
  · rw [if_neg e] at h3
    exact qu_ h3
theorem fmsY_mem {l : List S29} (h : fmsY l = true) : ∀ y ∈ l, fmY y = true := by
  induction l with
  | nil => intro y hy; simp at hy
  | cons x l ih =>
    intro y hy
    rw [fmsY_cons, Bool.and_eq_true] at h
    rcases List.mem_cons.1 hy with rfl | hy
    · exact h.1
    · exact ih h.2 y hy
theorem fmY_parts {x : S29} (h : fmY x = true) : okN x.f0 x.f1 x.f2 x.f3.length = true ∧ ∀ y ∈ x.f3, fmY y = true := by
  rw [fmY_is, Bool.and_eq_true] at h
  exact ⟨h.1, fmsY_mem h.2⟩
theorem tfm_of : ∀ x : S29, fmY x = true → TFm x := by
  refine indI (fun x ih h => ?_)
  obtain ⟨h1, h2⟩ := fmY_parts h
  obtain ⟨a1, a7, _, hb, _, hc, _⟩ := okN_cases h1
  exact .mk x (fun e => ⟨(hb e).1, (hb e).2.1⟩) (by omega) (by omega) (fun e => by have := hc e; omega) (fun y hy => ih y hy (h2 y hy))
theorem word_size (a : Int) (h0 : 0 ≤ a) (h8 : a < 8) : (rdOf ByteArray.empty exW a).size ≤ 4 := by
  have : a = 0 ∨ a = 1 ∨ a = 2 ∨ a = 3 ∨ a = 4 ∨ a = 5 ∨ a = 6 ∨ a = 7 := by omega
  rcases this with rfl | rfl | rfl | rfl | rfl | rfl | rfl | rfl <;> decide +kernel
theorem letB_size (b : Int) (h0 : 0 ≤ b) (h4 : b ≤ 4) : (letB b).size = 1 := by
  have : b = 0 ∨ b = 1 ∨ b = 2 ∨ b = 3 ∨ b = 4 := by omega
  rcases this with rfl | rfl | rfl | rfl | rfl <;> decide +kernel
theorem decB_size (n : Int) (h1 : 0 ≤ n) (h2 : n < 100) : (decB n).size ≤ 2 := by
  unfold decB
  show (Lib.decDigits n.toNat).toArray.size ≤ 2
  rw [List.size_toArray]
  by_cases h : n.toNat < 10
  · rw [Lib.decDigits_one h]; simp
  · rw [Lib.decDigits_two h (by omega)]; simp
theorem textsP_size (l : List S29) (h : ∀ x ∈ l, (textP x).size + 1 ≤ 8 * manyY x) : (textsP l).size ≤ 8 * manysY l := by
  induction l with
  | nil => rw [textsP_nil]; simp [ByteArray.size_empty]
  | cons x l ih =>
    have h1 := h x (by simp)
    have h2 := ih (fun y hy => h y (by simp [hy]))
    rw [textsP_cons, manysY_cons, ByteArray.size_append, ByteArray.size_append, show (⟨#[32]⟩ : ByteArray).size = 1 from rfl]
    omega
theorem textP_size : ∀ x : S29, fmY x = true → (textP x).size + 1 ≤ 8 * manyY x := by
  refine indI (fun x ih h => ?_)
  obtain ⟨h1, h2⟩ := fmY_parts h
  obtain ⟨a1, a7, _, hb, _, hc, _⟩ := okN_cases h1
  have h3 := textsP_size x.f3 (fun y hy => ih y hy (h2 y hy))
  have h4 := word_size x.f0 (by omega) (by omega)
  rw [textP_is, manyY_is]
  by_cases e : x.f0 = 1
  · rw [if_pos e, letB_size x.f1 (hb e).1 (hb e).2.1]
    omega
  rw [if_neg e]
  by_cases e7 : x.f0 = 7
  · have h5 := decB_size x.f2 (by have := hc e7; omega) (by have := hc e7; omega)
    rw [if_pos e7, ByteArray.size_append, ByteArray.size_append, ByteArray.size_append, show (⟨#[32]⟩ : ByteArray).size = 1 from rfl]
    omega
  · rw [if_neg e7, ByteArray.size_append]
    omega
theorem sp_size : (⟨#[32]⟩ : ByteArray).size = 1 := rfl
theorem l1Letter_is (a : Int) (h0 : 0 ≤ a) (h1 : a ≤ 4) : spec_l1Letter.f a = some (letB a) := by
  have hw : wrap64 (a + 1) = a + 1 := w_small (by omega) (by omega)
  unfold spec_l1Letter.f letB
  rw [hw, if_neg (by omega), if_neg (by omega), if_pos h0, if_pos (by omega), if_pos (by omega)]
def STextOk (x : S29) : Prop := fmY x = true → Ev (fun k => spec_l2Text.f k x.f0 x.f1 x.f2 x.f3) (textP x)
theorem stext_l0_ev (l : List S29) (hl : l.length ≤ 1048576) (hs : ∀ x ∈ l, STextOk x) (hf : ∀ x ∈ l, fmY x = true) (a b c : Int) : ∀ (d n : Nat) (t : ByteArray), n + d = l.length → t.size + (textsP (l.drop n)).size ≤ 1000000000 → Ev (fun k => spec_l2Text.l0 k t (n : Int) a b c l) (t ++ textsP (l.drop n)) := by
  intro d
  induction d with
  | zero =>
    intro n t hn hz
    rw [List.drop_of_length_le (by omega), textsP_nil]
    exact Ev.last (fun k => by simp only [spec_l2Text.l0]; rw [if_neg (by omega)]; simp)
  | succ d ih =>
    intro n t hn hz
    have hx : STextOk l[n] := hs _ (List.getElem_mem _)
    have hd := List.drop_eq_getElem_cons (l := l) (i := n) (by omega)
    rw [hd, textsP_cons, ByteArray.size_append, ByteArray.size_append, sp_size] at hz
    have hz2 : (t ++ (⟨#[32]⟩ : ByteArray)).size + (textP l[n]).size ≤ 9223372036854775807 := by rw [ByteArray.size_append, sp_size]; omega
    refine Ev.step (fun k => by simp only [spec_l2Text.l0]; rw [if_pos (by omega), if_pos (by omega), if_pos (by omega), rdI l n (by omega), w_succ (by omega)]) ?_
    refine Ev.bind (hx (hf _ (List.getElem_mem _))) (Ev.pos hz2 (Ev.val (ih (n + 1) _ (by omega) ?_) ?_))
    · rw [ByteArray.size_append, ByteArray.size_append, sp_size]; omega
    · rw [hd, textsP_cons]
      apply ByteArray.ext
      simp [ByteArray.data_append]
theorem stext_ev : ∀ x : S29, allY x ≤ 1048576 → STextOk x := by
  refine indI (fun x ih g h => ?_)
  obtain ⟨h1, h2⟩ := fmY_parts h
  obtain ⟨a1, a7, _, hb, _, hc, _⟩ := okN_cases h1
  have hk : ∀ y ∈ x.f3, STextOk y := fun y hy => ih y hy (by have := allY_mem hy; omega)
  have hl : x.f3.length ≤ 1048576 := by have := allY_len (x := x); omega
  have hz := textP_size x h
  have hm := manyY_all x
  have h4 := word_size x.f0 (by omega) (by omega)
  have hwd : spec_l2Words.f = some exW := rfl
  by_cases e : x.f0 = 1
  · rw [show textP x = letB x.f1 from by rw [textP_is, if_pos e]]
    refine Ev.last (fun k => ?_)
    simp only [spec_l2Text.f]
    rw [if_pos e, l1Letter_is x.f1 (hb e).1 (hb e).2.1]
    rfl
  have ht : textP x = headP x ++ textsP x.f3 := by rw [textP_is, if_neg e]; rfl
  rw [ht, ByteArray.size_append] at hz
  have loop : Ev (fun k => spec_l2Text.j0 k (headP x) x.f0 x.f1 x.f2 x.f3) (headP x ++ textsP x.f3) := by
    refine Ev.step (fun k => by simp only [spec_l2Text.j0]; rfl) ?_
    exact stext_l0_ev x.f3 hl hk h2 x.f0 x.f1 x.f2 x.f3.length 0 (headP x) (by omega) (by rw [List.drop_zero]; omega)
  rw [ht]
  have len8 : ((exW.length : Nat) : Int) = 8 := rfl
  refine Ev.step (fun k => by simp only [spec_l2Text.f]; rw [if_neg e, hwd, Option.bind_some, if_pos (by omega), if_pos (by rw [len8]; omega)]) ?_
  by_cases e7 : x.f0 = 7
  · have hd := l14Dec_ev x.f2 (by have := hc e7; omega) (by have := hc e7; omega)
    rw [itoaB_dec _ (by have := hc e7; omega)] at hd
    have hh : headP x = rdOf ByteArray.empty exW x.f0 ++ (⟨#[32]⟩ : ByteArray) ++ decB x.f2 := by
      unfold headP
      rw [if_pos e7]
      apply ByteArray.ext
      simp [ByteArray.data_append]
    have h5 := decB_size x.f2 (by have := hc e7; omega) (by have := hc e7; omega)
    have g2 : (rdOf ByteArray.empty exW x.f0 ++ (⟨#[32]⟩ : ByteArray)).size + (decB x.f2).size ≤ 9223372036854775807 := by rw [ByteArray.size_append, sp_size]; omega
    refine Ev.pos e7 (Ev.pos (by omega) (Ev.bind hd (Ev.pos g2 (Ev.val ?_ rfl))))
    rw [hh] at loop ⊢
    exact loop
  · rw [show headP x = rdOf ByteArray.empty exW x.f0 from if_neg e7] at loop ⊢
    exact Ev.neg e7 loop
noncomputable def textO (x : S29) : ByteArray := if okX x = true then textP x else ⟨#[]⟩
theorem okX_fm {x : S29} (h : okX x = true) : fmY x = true ∧ manyY x ≤ 12 := by
  unfold okX at h
  simp only [Bool.and_eq_true, decide_eq_true_eq] at h
  exact ⟨h.1.1, h.2⟩
theorem spec_ExText_ev (x : S29) (h : allY x ≤ 1048576) : Ev (fun k => spec_ExText.f k x.f0 x.f1 x.f2 x.f3) (textO x) := by
  unfold spec_ExText.f textO
  refine Ev.bind (spec_ExOk_ev x h) ?_
  by_cases hk : okX x = true
  · rw [if_pos hk]
    exact Ev.pos hk (Ev.bindS (stext_ev x h (okX_fm hk).1) rfl)
  · rw [if_neg hk]
    exact Ev.neg hk (Ev.now _)
theorem impl_ExText_ev (x : S29) (h : allY x ≤ 1048576) : Ev (fun k => impl_ExText.f k x.f0 x.f1 x.f2 x.f3) (textO x) := by
  unfold impl_ExText.f textO
  refine Ev.bind (impl_ExOk_ev x h) ?_
  have ex : (⟨x.f0, x.f1, x.f2, x.f3⟩ : S29) = x := by cases x; rfl
  rw [ex]
  by_cases hk : okX x = true
  · have hs := textP_size x (okX_fm hk).1
    have h12 := (okX_fm hk).2
    rw [if_pos hk, if_pos hk, if_pos ⟨tfm_of x (okX_fm hk).1, by omega⟩]
    exact Ev.now _
  · rw [if_neg hk, if_neg hk]
    exact Ev.now _
def Gap (r : List UInt8) : Prop := r = [] ∨ ∃ s, r = 32 :: s
theorem word_cut : ∀ (a b r s : List UInt8), (∀ c ∈ a, c ≠ 32) → (∀ c ∈ b, c ≠ 32) → Gap r → Gap s → a ++ r = b ++ s → a = b ∧ r = s
  | [], [], _, _, _, _, _, _, h => ⟨rfl, h⟩
  | [], c :: b, r, s, _, hb, hr, _, h => by
    exfalso
    rcases hr with rfl | ⟨t, rfl⟩
    · simp at h
    · simp only [List.nil_append, List.cons_append, List.cons.injEq] at h
      exact hb c (by simp) h.1.symm
  | c :: a, [], r, s, ha, _, _, hs, h => by
    exfalso
    rcases hs with rfl | ⟨t, rfl⟩
    · simp at h
    · simp only [List.nil_append, List.cons_append, List.cons.injEq] at h
      exact ha c (by simp) h.1
  | c :: a, d :: b, r, s, ha, hb, hr, hs, h => by
    simp only [List.cons_append, List.cons.injEq] at h
    obtain ⟨h1, h2⟩ := word_cut a b r s (fun x hx => ha x (by simp [hx])) (fun x hx => hb x (by simp [hx])) hr hs h.2
    exact ⟨by rw [h.1, h1], h2⟩
def bL (b : ByteArray) : List UInt8 := b.data.toList
theorem bL_append (a b : ByteArray) : bL (a ++ b) = bL a ++ bL b := by unfold bL; rw [ByteArray.data_append, Array.toList_append]
theorem bL_inj {a b : ByteArray} (h : bL a = bL b) : a = b := by
  cases a; cases b
  simp only [bL] at h
  rw [Array.toList_inj] at h
  rw [h]
theorem bL_sp : bL (⟨#[32]⟩ : ByteArray) = [32] := rfl
def hdW (x : S29) : List UInt8 := if x.f0 = 1 then bL (letB x.f1) else bL (rdOf ByteArray.empty exW x.f0)
def numW (x : S29) : List UInt8 := if x.f0 = 7 then 32 :: Lib.decDigits x.f2.toNat else []
def txL (x : S29) : List UInt8 := bL (textP x)
def txsL (l : List S29) : List UInt8 := bL (textsP l)
theorem txsL_nil : txsL [] = [] := by unfold txsL; rw [textsP_nil]; rfl
theorem txsL_cons (x : S29) (l : List S29) : txsL (x :: l) = 32 :: (txL x ++ txsL l) := by
  unfold txsL txL
  rw [textsP_cons, bL_append, bL_append, bL_sp]
  simp
theorem txL_is (x : S29) (h : fmY x = true) : txL x = hdW x ++ (numW x ++ txsL x.f3) := by
  obtain ⟨h1, _⟩ := fmY_parts h
  obtain ⟨_, _, _, hb, _, _, _⟩ := okN_cases h1
  unfold txL hdW numW
  rw [textP_is]
  by_cases e : x.f0 = 1
  · have h0 : x.f3 = [] := List.length_eq_zero_iff.1 (hb e).2.2
    rw [if_pos e, if_pos e, if_neg (by omega), h0, txsL_nil]
    simp
  rw [if_neg e, if_neg e]
  by_cases e7 : x.f0 = 7
  · rw [if_pos e7, if_pos e7, bL_append, bL_append, bL_append, bL_sp]
    show (_ ++ ([32] ++ (Lib.decDigits x.f2.toNat).toArray.toList)) ++ _ = _
    simp [txsL]
  · rw [if_neg e7, if_neg e7, bL_append]
    simp [txsL]
theorem hdW_word {x : S29} (h : okN x.f0 x.f1 x.f2 x.f3.length = true) : ∀ c ∈ hdW x, c ≠ 32 := by
  obtain ⟨a1, a7, _, hb, _, _, _⟩ := okN_cases h
  unfold hdW
  by_cases e : x.f0 = 1
  · rw [if_pos e]
    obtain ⟨b0, b4, _⟩ := hb e
    have : x.f1 = 0 ∨ x.f1 = 1 ∨ x.f1 = 2 ∨ x.f1 = 3 ∨ x.f1 = 4 := by omega
    rcases this with q | q | q | q | q <;> rw [q] <;> decide +kernel
  · rw [if_neg e]
    have : x.f0 = 2 ∨ x.f0 = 3 ∨ x.f0 = 4 ∨ x.f0 = 5 ∨ x.f0 = 6 ∨ x.f0 = 7 := by omega
    rcases this with q | q | q | q | q | q <;> rw [q] <;> decide +kernel
theorem hdW_inj {x y : S29} (hx : okN x.f0 x.f1 x.f2 x.f3.length = true) (hy : okN y.f0 y.f1 y.f2 y.f3.length = true) (h : hdW x = hdW y) : x.f0 = y.f0 ∧ x.f1 = y.f1 := by
  obtain ⟨a1, a7, _, hb, hb', _, _⟩ := okN_cases hx
  obtain ⟨c1, c7, _, hd, hd', _, _⟩ := okN_cases hy
  have two : ∀ a : Int, 2 ≤ a → a ≤ 7 → 2 ≤ (bL (rdOf ByteArray.empty exW a)).length := by
    intro a h2 h7
    have : a = 2 ∨ a = 3 ∨ a = 4 ∨ a = 5 ∨ a = 6 ∨ a = 7 := by omega
    rcases this with q | q | q | q | q | q <;> rw [q] <;> decide +kernel
  have one : ∀ b : Int, 0 ≤ b → b ≤ 4 → (bL (letB b)).length = 1 := by
    intro b h0 h4
    have : b = 0 ∨ b = 1 ∨ b = 2 ∨ b = 3 ∨ b = 4 := by omega
    rcases this with q | q | q | q | q <;> rw [q] <;> decide +kernel
  unfold hdW at h
  by_cases e : x.f0 = 1
  · obtain ⟨b0, b4, _⟩ := hb e
    rw [if_pos e] at h
    have l1 := one x.f1 b0 b4
    by_cases e' : y.f0 = 1
    · obtain ⟨d0, d4, _⟩ := hd e'
      rw [if_pos e'] at h
      refine ⟨by omega, ?_⟩
      have p : x.f1 = 0 ∨ x.f1 = 1 ∨ x.f1 = 2 ∨ x.f1 = 3 ∨ x.f1 = 4 := by omega
      have q : y.f1 = 0 ∨ y.f1 = 1 ∨ y.f1 = 2 ∨ y.f1 = 3 ∨ y.f1 = 4 := by omega
      rcases p with p | p | p | p | p <;> rcases q with q | q | q | q | q <;> rw [p, q] at h <;> first | (exact absurd h (by decide +kernel)) | (rw [p, q])
    · rw [if_neg e'] at h
      have := two y.f0 (by omega) c7
      rw [h] at l1
      omega
  · rw [if_neg e] at h
    by_cases e' : y.f0 = 1
    · obtain ⟨d0, d4, _⟩ := hd e'
      rw [if_pos e'] at h
      have l1 := one y.f1 d0 d4
      have := two x.f0 (by omega) a7
      rw [h] at this
      omega
    · rw [if_neg e'] at h
      refine ⟨?_, by rw [hb' e, hd' e']⟩
      have p : x.f0 = 2 ∨ x.f0 = 3 ∨ x.f0 = 4 ∨ x.f0 = 5 ∨ x.f0 = 6 ∨ x.f0 = 7 := by omega
      have q : y.f0 = 2 ∨ y.f0 = 3 ∨ y.f0 = 4 ∨ y.f0 = 5 ∨ y.f0 = 6 ∨ y.f0 = 7 := by omega
      rcases p with p | p | p | p | p | p <;> rcases q with q | q | q | q | q | q <;> rw [p, q] at h <;> first | (exact absurd h (by decide +kernel)) | (rw [p, q])
theorem dec_word (n : Nat) (h : n < 100) : ∀ c ∈ Lib.decDigits n, c ≠ 32 := by
  have key : ∀ i : Nat, i < 10 → UInt8.ofNat (48 + i) ≠ 32 := by
    intro i hi
    have : i = 0 ∨ i = 1 ∨ i = 2 ∨ i = 3 ∨ i = 4 ∨ i = 5 ∨ i = 6 ∨ i = 7 ∨ i = 8 ∨ i = 9 := by omega
    rcases this with q | q | q | q | q | q | q | q | q | q <;> rw [q] <;> decide +kernel
  intro c hc
  by_cases h9 : n < 10
  · rw [Lib.decDigits_one h9] at hc
    rw [List.mem_singleton.1 hc]
    exact key n h9
  rw [Lib.decDigits_two h9 h] at hc
  rcases List.mem_cons.1 hc with rfl | hc
  · exact key _ (by omega)
  · rw [List.mem_singleton.1 hc]
    exact key _ (by omega)
theorem dec_inj {a b : Nat} (ha : a < 100) (hb : b < 100) (h : Lib.decDigits a = Lib.decDigits b) : a = b := by
  have key : ∀ i j : Nat, i < 10 → j < 10 → UInt8.ofNat (48 + i) = UInt8.ofNat (48 + j) → i = j := by
    intro i j hi hj e
    have := congrArg UInt8.toNat e
    simp only [UInt8.toNat_ofNat'] at this
    omega
  by_cases h9 : a < 10
  · by_cases g9 : b < 10
    · rw [Lib.decDigits_one h9, Lib.decDigits_one g9] at h
      simp only [List.cons.injEq, and_true] at h
      exact key _ _ h9 g9 h
    · rw [Lib.decDigits_one h9, Lib.decDigits_two g9 hb] at h
      simp at h
  by_cases g9 : b < 10
  · rw [Lib.decDigits_two h9 ha, Lib.decDigits_one g9] at h
    simp at h
  rw [Lib.decDigits_two h9 ha, Lib.decDigits_two g9 hb] at h
  simp only [List.cons.injEq, and_true] at h
  have := key _ _ (by omega) (by omega) h.1
  have := key _ _ (by omega) (by omega) h.2
  omega
theorem gap_txsL (l : List S29) {r : List UInt8} (h : Gap r) : Gap (txsL l ++ r) := by
  cases l with
  | nil => rw [txsL_nil]; exact h
  | cons x l => rw [txsL_cons]; exact .inr ⟨_, rfl⟩
theorem gap_num (x : S29) {r : List UInt8} (h : Gap r) : Gap (numW x ++ r) := by
  unfold numW
  by_cases e : x.f0 = 7
  · rw [if_pos e]; exact .inr ⟨_, rfl⟩
  · rw [if_neg e]; exact h
def CutOk (x : S29) : Prop := fmY x = true → ∀ (y : S29) (r s : List UInt8), fmY y = true → Gap r → Gap s → txL x ++ r = txL y ++ s → x = y ∧ r = s
theorem kids_cut : ∀ (l m : List S29) (r s : List UInt8), (∀ x ∈ l, CutOk x) → (∀ x ∈ l, fmY x = true) → (∀ y ∈ m, fmY y = true) → l.length = m.length → Gap r → Gap s → txsL l ++ r = txsL m ++ s → l = m ∧ r = s
  | [], [], _, _, _, _, _, _, _, _, h => by rw [txsL_nil] at h; exact ⟨rfl, h⟩
  | [], _ :: _, _, _, _, _, _, hn, _, _, _ => by simp at hn
  | _ :: _, [], _, _, _, _, _, hn, _, _, _ => by simp at hn
  | x :: l, y :: m, r, s, hc, hl, hm, hn, hr, hs, h => by
    rw [txsL_cons, txsL_cons, List.cons_append, List.cons_append, List.append_assoc, List.append_assoc] at h
    have h' := (List.cons.inj h).2
    obtain ⟨e1, e2⟩ := hc x (by simp) (hl x (by simp)) y _ _ (hm y (by simp)) (gap_txsL l hr) (gap_txsL m hs) h'
    obtain ⟨e3, e4⟩ := kids_cut l m r s (fun z hz => hc z (by simp [hz])) (fun z hz => hl z (by simp [hz])) (fun z hz => hm z (by simp [hz])) (by simpa using hn) hr hs e2
    exact ⟨by rw [e1, e3], e4⟩
theorem eta_T (x : S29) : (⟨x.f0, x.f1, x.f2, x.f3⟩ : S29) = x := by cases x; rfl
theorem cut_ok : ∀ x : S29, CutOk x := by
  refine indI (fun x ih hx y r s hy hr hs h => ?_)
  obtain ⟨x1, x2⟩ := fmY_parts hx
  obtain ⟨y1, y2⟩ := fmY_parts hy
  rw [txL_is x hx, txL_is y hy, List.append_assoc, List.append_assoc, List.append_assoc, List.append_assoc] at h
  obtain ⟨e1, h⟩ := word_cut _ _ _ _ (hdW_word x1) (hdW_word y1) (gap_num x (gap_txsL x.f3 hr)) (gap_num y (gap_txsL y.f3 hs)) h
  obtain ⟨k0, k1⟩ := hdW_inj x1 y1 e1
  obtain ⟨_, _, kx, _, _, cx, dx⟩ := okN_cases x1
  obtain ⟨_, _, ky, _, _, cy, dy⟩ := okN_cases y1
  have hn : x.f3.length = y.f3.length := by rw [k0] at kx; omega
  have h2 : x.f2 = y.f2 ∧ txsL x.f3 ++ r = txsL y.f3 ++ s := by
    unfold numW at h
    by_cases e7 : x.f0 = 7
    · have e7' : y.f0 = 7 := by omega
      rw [if_pos e7, if_pos e7', List.cons_append, List.cons_append] at h
      have qx := cx e7
      have qy := cy e7'
      obtain ⟨g1, g2⟩ := word_cut _ _ _ _ (dec_word _ (by omega)) (dec_word _ (by omega)) (gap_txsL x.f3 hr) (gap_txsL y.f3 hs) (List.cons.inj h).2
      have := dec_inj (by omega) (by omega) g1
      exact ⟨by omega, g2⟩
    · have e7' : ¬ y.f0 = 7 := by omega
      rw [if_neg e7, if_neg e7'] at h
      exact ⟨by rw [dx e7, dy e7'], h⟩
  obtain ⟨e3, e4⟩ := kids_cut x.f3 y.f3 r s ih x2 y2 hn hr hs h2.2
  refine ⟨?_, e4⟩
  rw [← eta_T x, ← eta_T y, k0, k1, h2.1, e3]
theorem text_inj {x y : S29} (hx : fmY x = true) (hy : fmY y = true) (h : textP x = textP y) : x = y :=
  (cut_ok x hx y [] [] hy (.inl rfl) (.inl rfl) (by unfold txL; rw [h])).1
end Go.Proofs.YtbcdfbiggjfmlaaDoor.M
namespace Go.Proofs.YtbcdfbiggjfmlaaDoor.M
set_option linter.unusedVariables false
set_option linter.unusedSimpArgs false
open Go Go.RowKit Go.Proofs.YtbcdfbiggjfmlaaDoorW.PrintWords Go.Proofs.YtbcdfbiggjfmlaaDoorW.PrintLast

def cutL : List UInt8 → List (List UInt8)
  | [] => [[]]
  | c :: r => if c = 32 then [] :: cutL r else match cutL r with
    | [] => [[c]]
    | h :: t => (c :: h) :: t
def joinL : List (List UInt8) → List UInt8
  | [] => []
  | w :: ws => w ++ ws.flatMap (fun x => 32 :: x)
theorem cutL_ne (l : List UInt8) : cutL l ≠ [] := by
  cases l with
  | nil => simp [cutL]
  | cons c r =>
    rw [cutL]
    split
    · simp
    · split <;> simp
theorem cutL_cons (c : UInt8) (r : List UInt8) (h : c ≠ 32) : ∃ w t, cutL r = w :: t ∧ cutL (c :: r) = (c :: w) :: t := by
  cases e : cutL r with
  | nil => exact absurd e (cutL_ne r)
  | cons w t => exact ⟨w, t, rfl, by rw [cutL, if_neg h, e]⟩
theorem join_cut : ∀ l : List UInt8, joinL (cutL l) = l
  | [] => rfl
  | c :: r => by
    have ih := join_cut r
    by_cases h : c = 32
    · subst h
      rw [cutL, if_pos rfl]
      cases e : cutL r with
      | nil => exact absurd e (cutL_ne r)
      | cons w t =>
        rw [e] at ih
        simp only [joinL] at ih ⊢
        rw [List.flatMap_cons, List.nil_append, List.cons_append, ih]
    · obtain ⟨w, t, e1, e2⟩ := cutL_cons c r h
      rw [e1] at ih
      rw [e2]
      simp only [joinL, List.cons_append] at ih ⊢
      rw [ih]
theorem cut_word : ∀ (w r : List UInt8), (∀ c ∈ w, c ≠ 32) → cutL (w ++ 32 :: r) = w :: cutL r
  | [], r, _ => by rw [List.nil_append, cutL, if_pos rfl]
  | c :: w, r, h => by
    have ih := cut_word w r (fun d hd => h d (by simp [hd]))
    rw [List.cons_append, cutL, if_neg (h c (by simp)), ih]
theorem cut_one : ∀ (w : List UInt8), (∀ c ∈ w, c ≠ 32) → cutL w = [w]
  | [], _ => rfl
  | c :: w, h => by
    have ih := cut_one w (fun d hd => h d (by simp [hd]))
    rw [cutL, if_neg (h c (by simp)), ih]
theorem cut_join : ∀ (ws : List (List UInt8)), ws ≠ [] → (∀ w ∈ ws, ∀ c ∈ w, c ≠ 32) → cutL (joinL ws) = ws
  | [], h, _ => absurd rfl h
  | [w], _, h => by
    simp only [joinL, List.flatMap_nil, List.append_nil]
    exact cut_one w (h w (by simp))
  | w :: v :: ws, _, h => by
    have ih := cut_join (v :: ws) (by simp) (fun x hx => h x (by simp [hx]))
    simp only [joinL, List.flatMap_cons, List.cons_append] at ih ⊢
    rw [cut_word w _ (h w (by simp)), ih]
theorem cutL_len : ∀ l : List UInt8, (cutL l).length ≤ l.length + 1
  | [] => Nat.le_refl _
  | c :: r => by
    have ih := cutL_len r
    by_cases h : c = 32
    · rw [cutL, if_pos h, List.length_cons, List.length_cons]; omega
    obtain ⟨w, t, e1, e2⟩ := cutL_cons c r h
    rw [e1] at ih
    rw [e2, List.length_cons, List.length_cons]
    rw [List.length_cons] at ih
    omega
def mkB (l : List UInt8) : ByteArray := ⟨l.toArray⟩
theorem mkB_data (s : ByteArray) : mkB s.data.toList = s := by
  cases s
  rfl
theorem extract_mk (s : ByteArray) (a b : Nat) : s.extract a b = mkB ((s.data.toList.drop a).take (b - a)) := Lib.extract_eq s a b
theorem size_data (s : ByteArray) : s.size = s.data.toList.length := by rw [Array.length_toList]; rfl
theorem split_is : ∀ (n : Nat) (s : ByteArray), s.size ≤ n → Lib.splitB (⟨#[32]⟩ : ByteArray) 0 (Lib.countB s ⟨#[32]⟩) s = (cutL s.data.toList).map mkB := by
  have one : (⟨#[32]⟩ : ByteArray).data.toList = [32] := rfl
  have miss : ∀ s : ByteArray, Lib.indexB s (⟨#[32]⟩ : ByteArray) = -1 → Lib.splitB (⟨#[32]⟩ : ByteArray) 0 (Lib.countB s ⟨#[32]⟩) s = (cutL s.data.toList).map mkB := by
    intro s h
    have hi : Lib.indexByte s.data.toList 32 = -1 := by rw [← Lib.index_one]; exact h
    have hn : ∀ c ∈ s.data.toList, c ≠ 32 := by
      intro c hc e
      obtain ⟨k, hk, hk2⟩ := List.getElem_of_mem hc
      exact Lib.indexByte_none hi k (by rw [List.getElem?_eq_getElem hk, hk2, e])
    rw [Lib.splitB_miss _ _ _ _ h, cut_one _ hn]
    simp [mkB_data]
  intro n
  induction n with
  | zero =>
    intro s hs
    refine miss s ?_
    rcases Lib.indexB_cases s (⟨#[32]⟩ : ByteArray) with h | ⟨i, _, h⟩
    · exact h
    · have : (⟨#[32]⟩ : ByteArray).size = 1 := rfl
      omega
  | succ n ih =>
    intro s hs
    rcases Lib.indexB_cases s (⟨#[32]⟩ : ByteArray) with h | ⟨i, h, hr⟩
    · exact miss s h
    have sz : (⟨#[32]⟩ : ByteArray).size = 1 := rfl
    have hi : Lib.indexByte s.data.toList 32 = i := by rw [← Lib.index_one]; exact h
    obtain ⟨g1, g2⟩ := Lib.indexByte_some hi
    have hl := size_data s
    have he : s.data.toList = s.data.toList.take i ++ 32 :: s.data.toList.drop (i + 1) := by
      have hlt : i < s.data.toList.length := by omega
      rw [List.getElem?_eq_getElem hlt] at g1
      rw [← Option.some.inj g1, List.getElem_cons_drop, List.take_append_drop]
    have hw : ∀ c ∈ s.data.toList.take i, c ≠ 32 := by
      intro c hc e
      obtain ⟨k, hk, hk2⟩ := List.getElem_of_mem hc
      rw [List.length_take] at hk
      refine g2 k (by omega) ?_
      rw [List.getElem?_eq_getElem (by omega), ← e, ← hk2, List.getElem_take]
    have hx : (s.extract (i + 1) s.size).data.toList = s.data.toList.drop (i + 1) := by
      rw [extract_mk]
      show List.take _ _ = _
      exact List.take_of_length_le (by rw [List.length_drop]; omega)
    have hz : (s.extract (i + 1) s.size).size ≤ n := by rw [ByteArray.size_extract]; omega
    have ih2 := ih (s.extract (i + 1) s.size) hz
    rw [Lib.countB_hit s ⟨#[32]⟩ i (by decide) h, Nat.add_comm, Lib.splitB_hit _ _ _ _ _ h, sz, ih2, hx]
    conv => rhs; rw [he, cut_word _ _ hw]
    rw [List.map_cons, Nat.add_zero, extract_mk, List.drop_zero, Nat.sub_zero]
theorem bt_is (s : ByteArray) (n : Nat) (h : n < s.data.toList.length) : bt s (n : Int) = ((s.data.toList[n]).toNat : Int) := by
  have hs : (n : Int).toNat < s.size := by rw [Int.toNat_natCast, size_data]; exact h
  unfold bt
  rw [dif_pos hs]
  rfl
theorem l14Cut_l0_ev (s : ByteArray) (hs : s.size ≤ 1000000) : ∀ (d n : Nat) (fr : Nat) (out : List ByteArray), n + d = s.size → fr ≤ n → out.length ≤ n →
    Ev (fun k => spec_l14Cut.l0 k s 32 out (fr : Int) (n : Int)) (out ++ (match cutL (s.data.toList.drop n) with | [] => [] | h :: t => mkB ((s.data.toList.drop fr).take (n - fr) ++ h) :: t.map mkB)) := by
  have hl := size_data s
  intro d
  induction d with
  | zero =>
    intro n fr out hn hf ho
    have e : n = s.size := by omega
    rw [List.drop_of_length_le (i := n) (by omega)]
    simp only [cutL, List.map_nil, List.append_nil]
    have wn : wrap64 ((n : Int) + 1) = ((n + 1 : Nat) : Int) := w_succ (by omega)
    refine Ev.step (fun k => by simp only [spec_l14Cut.l0]; rw [if_pos (by omega), if_pos (by omega), if_pos (by omega), if_pos (by omega), if_pos (by omega), wn, Int.toNat_natCast, Int.toNat_natCast, extract_mk]) ?_
    exact Ev.last (fun k => by simp only [spec_l14Cut.l0]; rw [if_neg (by omega)])
  | succ d ih =>
    intro n fr out hn hf ho
    have hlt : n < s.data.toList.length := by omega
    have wn : wrap64 ((n : Int) + 1) = ((n + 1 : Nat) : Int) := w_succ (by omega)
    rw [List.drop_eq_getElem_cons hlt]
    by_cases hc : s.data.toList[n] = 32
    · have hb : bt s (n : Int) = 32 := by rw [bt_is s n hlt, hc]; rfl
      rw [cutL, if_pos hc]
      have next := ih (n + 1) (n + 1) (out ++ [mkB ((s.data.toList.drop fr).take (n - fr))]) (by omega) (by omega) (by rw [List.length_append, List.length_singleton]; omega)
      refine Ev.step (fun k => by simp only [spec_l14Cut.l0]; rw [if_pos (by omega), if_neg (by omega), if_pos (by omega), if_pos (by omega), hb, if_pos rfl, if_pos (by omega), if_pos (by omega), if_pos (by omega), wn, Int.toNat_natCast, Int.toNat_natCast, extract_mk]) (Ev.val next ?_)
      simp only [Nat.sub_self, List.take_zero, List.nil_append, List.append_nil, List.append_assoc, List.singleton_append]
      cases e : cutL (s.data.toList.drop (n + 1)) with
      | nil => exact absurd e (cutL_ne _)
      | cons h t => rfl
    have hb : ¬ bt s (n : Int) = 32 := by
      rw [bt_is s n hlt]
      intro e
      exact hc (UInt8.toNat_inj.1 (by have : (s.data.toList[n]).toNat = 32 := by omega
                                      rw [this]; rfl))
    obtain ⟨w, t, e1, e2⟩ := cutL_cons s.data.toList[n] (s.data.toList.drop (n + 1)) hc
    rw [e2]
    have next := ih (n + 1) fr out (by omega) (by omega) (by omega)
    rw [e1] at next
    refine Ev.step (fun k => by simp only [spec_l14Cut.l0]; rw [if_pos (by omega), if_neg (by omega), if_pos (by omega), if_pos (by omega), if_neg hb, wn]) (Ev.val next ?_)
    have e3 : (s.data.toList.drop fr).take (n + 1 - fr) = (s.data.toList.drop fr).take (n - fr) ++ [s.data.toList[n]] := by
      rw [show n + 1 - fr = (n - fr) + 1 by omega, List.take_succ_eq_append_getElem (by rw [List.length_drop]; omega), List.getElem_drop]
      simp only [show fr + (n - fr) = n by omega]
    simp only [e3, List.append_assoc, List.singleton_append]
theorem l14Cut_ev (s : ByteArray) (hs : s.size ≤ 1000000) : Ev (fun k => spec_l14Cut.f k s 32) ((cutL s.data.toList).map mkB) := by
  have := l14Cut_l0_ev s hs s.size 0 0 [] (by omega) (by omega) (by simp)
  unfold spec_l14Cut.f
  refine Ev.val this ?_
  rw [List.drop_zero]
  cases e : cutL s.data.toList with
  | nil => exact absurd e (cutL_ne _)
  | cons h t => simp
def isDig (c : UInt8) : Prop := 48 ≤ c.toNat ∧ c.toNat ≤ 57
def stepV (a : Nat) (c : UInt8) : Nat := a * 10 + (c.toNat - 48)
theorem stepV_is (a x : Nat) (c : UInt8) (h : c.toNat = 48 + x) : stepV a c = a * 10 + x := by
  unfold stepV
  omega
def valL (a : Nat) (l : List UInt8) : Nat := l.foldl stepV a
theorem valL_nil (a : Nat) : valL a [] = a := by unfold valL; rw [List.foldl_nil]
theorem valL_cons (a : Nat) (c : UInt8) (r : List UInt8) : valL a (c :: r) = valL (stepV a c) r := by unfold valL; rw [List.foldl_cons]
theorem dig_is {c : UInt8} (h : isDig c) : ∃ x : Nat, c.toNat = 48 + x ∧ x ≤ 9 := ⟨c.toNat - 48, by have := h.1; have := h.2; omega, by have := h.1; have := h.2; omega⟩
theorem valL_append (l m : List UInt8) (a : Nat) : valL a (l ++ m) = valL (valL a l) m := by unfold valL; rw [List.foldl_append]
theorem dig_of (d : Nat) (h : d < 10) : (UInt8.ofNat (48 + d)).toNat = 48 + d := by
  have : d = 0 ∨ d = 1 ∨ d = 2 ∨ d = 3 ∨ d = 4 ∨ d = 5 ∨ d = 6 ∨ d = 7 ∨ d = 8 ∨ d = 9 := by omega
  rcases this with rfl | rfl | rfl | rfl | rfl | rfl | rfl | rfl | rfl | rfl <;> rfl
theorem dec_dig (n : Nat) : ∀ c ∈ Lib.decDigits n, isDig c := by
  induction n using Nat.strongRecOn with
  | _ n ih =>
    intro c hc
    by_cases h : n < 10
    · rw [Lib.decDigits_one h, List.mem_singleton] at hc
      rw [hc]
      unfold isDig
      rw [dig_of n h]
      omega
    rw [Lib.decDigits, dif_neg h] at hc
    rcases List.mem_append.1 hc with hc | hc
    · exact ih (n / 10) (by omega) c hc
    rw [List.mem_singleton.1 hc]
    unfold isDig
    rw [dig_of _ (by omega)]
    omega
theorem val_dec (n : Nat) : valL 0 (Lib.decDigits n) = n := by
  induction n using Nat.strongRecOn with
  | _ n ih =>
    by_cases h : n < 10
    · rw [Lib.decDigits_one h, valL_cons, valL_nil, stepV_is 0 n _ (dig_of n h)]
      omega
    · rw [Lib.decDigits, dif_neg h, valL_append, ih (n / 10) (by omega), valL_cons, valL_nil, stepV_is _ (n % 10) _ (dig_of _ (by omega))]
      omega
theorem dec_ne (n : Nat) : Lib.decDigits n ≠ [] := by
  intro e
  have := Lib.decDigits_length n
  have := Lib.nDigits_pos n
  rw [e] at *
  simp at *
  omega
theorem dec_head (n : Nat) (h0 : n ≠ 0) : ∃ c r, Lib.decDigits n = c :: r ∧ c.toNat ≠ 48 := by
  induction n using Nat.strongRecOn with
  | _ n ih =>
    by_cases h : n < 10
    · exact ⟨_, [], Lib.decDigits_one h, by rw [dig_of n h]; omega⟩
    · obtain ⟨c, r, e, hc⟩ := ih (n / 10) (by omega) (by omega)
      exact ⟨c, _, by rw [Lib.decDigits, dif_neg h, e, List.cons_append], hc⟩
theorem valL_pos : ∀ (l : List UInt8) (a : Nat), a ≤ valL a l
  | [], a => by rw [valL_nil]; exact Nat.le_refl _
  | c :: l, a => by
    have := valL_pos l (stepV a c)
    have h2 : a ≤ stepV a c := by unfold stepV; omega
    rw [valL_cons]
    omega
theorem dec_val : ∀ (n : Nat) (l : List UInt8), l.length = n + 1 → (∀ c ∈ l, isDig c) → (∀ c r, l = c :: r → c.toNat = 48 → r = []) → Lib.decDigits (valL 0 l) = l := by
  intro n
  induction n with
  | zero =>
    intro l hl hd _
    match l, hl with
    | [c], _ =>
      obtain ⟨x, hx, h9⟩ := dig_is (hd c (by simp))
      rw [valL_cons, valL_nil, stepV_is 0 x c hx, Lib.decDigits_one (by omega)]
      congr 1
      apply UInt8.toNat_inj.1
      rw [dig_of _ (by omega)]
      omega
  | succ n ih =>
    intro l hl hd hz
    obtain ⟨l', c, rfl⟩ : ∃ l' c, l = l' ++ [c] := by
      rcases List.eq_nil_or_concat l with rfl | ⟨l', c, e⟩
      · simp at hl
      · exact ⟨l', c, by rw [e]; simp⟩
    have hl' : l'.length = n + 1 := by simp at hl; exact hl
    obtain ⟨x, hx, h9⟩ := dig_is (hd c (by simp))
    match l', hl' with
    | b :: r, hl' =>
      obtain ⟨y, hy, hy9⟩ := dig_is (hd b (by simp))
      have hb0 : b.toNat ≠ 48 := fun e => by have := hz b (r ++ [c]) (by simp) e; simp at this
      have ih2 := ih (b :: r) hl' (fun x hx => hd x (by simp only [List.mem_append]; exact .inl hx)) (fun x z e hx => by
        injection e with e1 e2
        rw [e1] at hb0
        exact absurd hx hb0)
      have hp : 1 ≤ valL 0 (b :: r) := by
        rw [valL_cons, stepV_is 0 y b hy]
        have := valL_pos r (0 * 10 + y)
        omega
      rw [valL_append, valL_cons, valL_nil, stepV_is _ x c hx]
      generalize valL 0 (b :: r) = v at *
      rw [Lib.decDigits, dif_neg (by omega), show (v * 10 + x) / 10 = v by omega, ih2]
      congr 2
      apply UInt8.toNat_inj.1
      rw [show (v * 10 + x) % 10 = x by omega, dig_of _ (by omega)]
      omega
open Classical in
noncomputable def digR (neg : Bool) (l : List UInt8) (a : Nat) : Int × Bool := if (∀ c ∈ l, isDig c) then (if neg = true then -(valL a l : Int) else (valL a l : Int), true) else (0, false)
theorem num_l0_ev (s : ByteArray) (neg : Bool) (hs : s.size ≤ 17) : ∀ (d n a : Nat), n + d = s.size → a < 10 ^ n → Ev (fun k => spec_l14Num.l0 k s neg (a : Int) (n : Int)) (digR neg (s.data.toList.drop n) a) := by
  have hl := size_data s
  have p17 : ∀ n, n ≤ 17 → (10 : Nat) ^ n ≤ 100000000000000000 := fun n hn => Nat.pow_le_pow_right (by omega) hn
  intro d
  induction d with
  | zero =>
    intro n a hn ha
    have := p17 n (by omega)
    rw [List.drop_of_length_le (by omega)]
    unfold digR
    rw [if_pos (fun c hc => by simp at hc), valL_nil]
    cases neg with
    | true =>
      have w : wrap64 (-(a : Int)) = -(a : Int) := w_small (by omega) (by omega)
      exact Ev.last (fun k => by simp only [spec_l14Num.l0]; rw [if_neg (by omega), if_pos trivial, if_pos trivial, w])
    | false => exact Ev.last (fun k => by simp only [spec_l14Num.l0]; rw [if_neg (by omega), if_neg (by decide), if_neg (by decide)])
  | succ d ih =>
    intro n a hn ha
    have hlt : n < s.data.toList.length := by omega
    have hb := bt_is s n hlt
    have h17 := p17 (n + 1) (by omega)
    rw [Nat.pow_succ] at h17
    rw [List.drop_eq_getElem_cons hlt]
    generalize hc : s.data.toList[n] = c at *
    by_cases hd : isDig c
    rotate_left
    · have : digR neg (c :: s.data.toList.drop (n + 1)) a = (0, false) := by
        unfold digR
        rw [if_neg (fun q => hd (q c (by simp)))]
      rw [this]
      unfold isDig at hd
      by_cases h48 : c.toNat < 48
      · exact Ev.last (fun k => by simp only [spec_l14Num.l0]; rw [if_pos (by omega), if_pos (by omega), hb, if_pos (by omega)])
      · exact Ev.last (fun k => by simp only [spec_l14Num.l0]; rw [if_pos (by omega), if_pos (by omega), hb, if_neg (by omega), if_pos (by omega)])
    obtain ⟨x, hx, h9⟩ := dig_is hd
    have e1 : wrap64 ((a : Int) * 10) = ((a * 10 : Nat) : Int) := by rw [w_small (by omega) (by omega)]; omega
    have e2 : (((c.toNat : Int) - 48) % 256) = (x : Int) := by omega
    have e3 : wrap64 (((a * 10 : Nat) : Int) + (x : Int)) = ((stepV a c : Nat) : Int) := by rw [stepV_is a x c hx, w_small (by omega) (by omega)]; omega
    have q1 : (n : Int) < (s.size : Int) := by omega
    have q2 : (0 : Int) ≤ (n : Int) := by omega
    have q3 : ¬ ((c.toNat : Int) < 48) := by omega
    have q4 : ¬ ((c.toNat : Int) > 57) := by omega
    have q5 := w_succ (n := n) (by omega)
    have q6 : stepV a c < 10 ^ (n + 1) := by rw [stepV_is a x c hx, Nat.pow_succ]; omega
    have st : ∀ k, spec_l14Num.l0 (k + 1) s neg (a : Int) (n : Int) = spec_l14Num.l0 k s neg ((stepV a c : Nat) : Int) ((n + 1 : Nat) : Int) := fun k => by
      simp only [spec_l14Num.l0]
      rw [if_pos q1, if_pos q2, hb, if_neg q3, if_neg q4, e1, e2, e3, q5]
    refine Ev.step st (Ev.val (ih (n + 1) (stepV a c) (by omega) q6) ?_)
    unfold digR
    by_cases hr : ∀ x ∈ s.data.toList.drop (n + 1), isDig x
    · rw [if_pos hr, if_pos (fun x hx => by rcases List.mem_cons.1 hx with rfl | hx; exact hd; exact hr x hx), valL_cons]
    · rw [if_neg hr, if_neg (fun q => hr (fun x hx => q x (by simp [hx])))]
noncomputable def bodyR (neg : Bool) (l : List UInt8) : Int × Bool := if l = [] ∨ 17 < l.length ∨ (l.head? = some 48 ∧ (1 < l.length ∨ neg = true)) then (0, false) else digR neg l 0
theorem num_j1_ev (s : ByteArray) (neg : Bool) : Ev (fun k => spec_l14Num.j1 k s neg) (bodyR neg s.data.toList) := by
  have hl := size_data s
  have bad : Ev (fun k => spec_l14Num.j2 k s neg true) (0, false) := Ev.last (fun k => by simp only [spec_l14Num.j2]; rw [if_pos trivial])
  have good : s.size ≤ 17 → Ev (fun k => spec_l14Num.j2 k s neg false) (digR neg s.data.toList 0) := fun h => Ev.step (fun k => by simp only [spec_l14Num.j2]; rw [if_neg (by decide)]; rfl) (num_l0_ev s neg h s.size 0 0 (by omega) (by simp))
  unfold bodyR
  by_cases h0 : s.data.toList = []
  · rw [if_pos (.inl h0)]
    refine Ev.step (fun k => by simp only [spec_l14Num.j1]; rw [if_pos (by rw [hl, h0]; rfl)]) bad
  by_cases h17 : 17 < s.data.toList.length
  · rw [if_pos (.inr (.inl h17))]
    have : s.data.toList.length ≠ 0 := fun e => h0 (List.length_eq_zero_iff.1 e)
    refine Ev.step (fun k => by simp only [spec_l14Num.j1]; rw [if_neg (by omega), if_pos (by omega)]) bad
  have hp : s.data.toList.length ≠ 0 := fun e => h0 (List.length_eq_zero_iff.1 e)
  have hb : bt s 0 = ((s.data.toList[0]'(by omega)).toNat : Int) := bt_is s 0 (by omega)
  have hh : s.data.toList.head? = some (s.data.toList[0]'(by omega)) := by rw [List.head?_eq_getElem?, List.getElem?_eq_getElem (by omega)]
  by_cases h48 : (s.data.toList[0]'(by omega)).toNat = 48
  · have e48 : s.data.toList[0]'(by omega) = 48 := UInt8.toNat_inj.1 (by rw [h48]; rfl)
    by_cases h1 : 1 < s.data.toList.length
    · rw [if_pos (.inr (.inr ⟨by rw [hh, e48], .inl h1⟩))]
      refine Ev.step (fun k => by simp only [spec_l14Num.j1]; rw [if_neg (by omega), if_neg (by omega), if_pos (by omega), hb, if_pos (by omega), if_pos (by omega)]) bad
    cases neg with
    | true =>
      rw [if_pos (.inr (.inr ⟨by rw [hh, e48], .inr rfl⟩))]
      refine Ev.step (fun k => by simp only [spec_l14Num.j1]; rw [if_neg (by omega), if_neg (by omega), if_pos (by omega), hb, if_pos (by omega), if_neg (by omega)]) bad
    | false =>
      rw [if_neg (by rintro (q | q | ⟨_, q | q⟩); exact h0 q; omega; exact h1 q; cases q)]
      refine Ev.step (fun k => by simp only [spec_l14Num.j1]; rw [if_neg (by omega), if_neg (by omega), if_pos (by omega), hb, if_pos (by omega), if_neg (by omega)]) (good (by omega))
  · rw [if_neg (by rintro (q | q | ⟨q, _⟩); exact h0 q; omega; rw [hh] at q; exact h48 (by rw [Option.some.inj q]; rfl))]
    refine Ev.step (fun k => by simp only [spec_l14Num.j1]; rw [if_neg (by omega), if_neg (by omega), if_pos (by omega), hb, if_neg (by omega)]) (good (by omega))
noncomputable def numS (l : List UInt8) : Int × Bool := match l with
  | [] => (0, false)
  | c :: r => if c = 45 then bodyR true r else bodyR false (c :: r)
theorem l14Num_ev (s : ByteArray) (hs : s.size ≤ 9223372036854775806) : Ev (fun k => spec_l14Num.f k s) (numS s.data.toList) := by
  have hl := size_data s
  unfold spec_l14Num.f
  cases e : s.data.toList with
  | nil =>
    have h0 : s.size = 0 := by rw [hl, e]; rfl
    refine Ev.neg (by omega) (Ev.step (fun k => by simp only [spec_l14Num.j0]; rw [if_neg (by decide)]) (Ev.val (num_j1_ev s false) ?_))
    rw [e]
    unfold bodyR
    rw [if_pos (.inl rfl)]
    rfl
  | cons c r =>
    have h0 : s.size = r.length + 1 := by rw [hl, e]; rfl
    have hb : bt s 0 = (c.toNat : Int) := by
      rw [show (0 : Int) = ((0 : Nat) : Int) from rfl, bt_is s 0 (by rw [e]; simp)]
      simp only [e, List.getElem_cons_zero]
    refine Ev.pos (by omega) (Ev.pos (by omega) ?_)
    rw [hb]
    simp only [numS]
    by_cases hc : c = 45
    · have : (((c.toNat : Int)) == 45) = true := by rw [hc]; rfl
      rw [this, if_pos hc]
      refine Ev.step (fun k => by simp only [spec_l14Num.j0]; rw [if_pos trivial, if_pos (by omega)]) (Ev.val (num_j1_ev (s.extract 1 s.size) true) ?_)
      congr 1
      rw [extract_mk]
      show List.take _ (List.drop 1 s.data.toList) = r
      rw [e, List.drop_succ_cons, List.drop_zero, List.take_of_length_le (by omega)]
    have : (((c.toNat : Int)) == 45) = false := by
      refine beq_eq_false_iff_ne.2 (fun q => hc (UInt8.toNat_inj.1 ?_))
      have : c.toNat = 45 := by omega
      rw [this]
      rfl
    rw [this, if_neg hc]
    refine Ev.step (fun k => by simp only [spec_l14Num.j0]; rw [if_neg (by decide)]) (Ev.val (num_j1_ev s false) ?_)
    rw [e]
theorem num_dec (n : Nat) (h : n < 100000000000000000) : numS (Lib.decDigits n) = ((n : Int), true) := by
  have hd := dec_dig n
  have hlen : (Lib.decDigits n).length ≤ 17 := by
    rw [Lib.decDigits_length]
    by_cases h0 : n < 10
    · rw [Lib.nDigits_small h0]; omega
    refine Decidable.byContradiction (fun q => ?_)
    have key : ∀ k u : Nat, k + 1 ≤ Lib.nDigits u → 1 ≤ u → 10 ^ k ≤ u := by
      intro k
      induction k with
      | zero => intro u _ hu; simpa using hu
      | succ k ih =>
        intro u hk hu
        have hu10 : ¬ u < 10 := fun hq => by rw [Lib.nDigits_small hq] at hk; omega
        rw [Lib.nDigits_big hu10] at hk
        have := ih (u / 10) (by omega) (by omega)
        rw [Nat.pow_succ]
        omega
    have := key 17 n (by omega) (by omega)
    have e : (10 : Nat) ^ 17 = 100000000000000000 := by decide
    omega
  have key : bodyR false (Lib.decDigits n) = ((n : Int), true) := by
    unfold bodyR
    rw [if_neg]
    · unfold digR
      rw [if_pos hd, val_dec]
      rfl
    rintro (q | q | ⟨q, q2 | q2⟩)
    · exact dec_ne n q
    · omega
    · by_cases h0 : n = 0
      · subst h0
        rw [Lib.decDigits_one (by omega)] at q2
        simp at q2
      obtain ⟨c, r, e, hc⟩ := dec_head n h0
      rw [e] at q
      simp only [List.head?_cons, Option.some.injEq] at q
      rw [q] at hc
      exact hc rfl
    · cases q2
  cases e : Lib.decDigits n with
  | nil => exact absurd e (dec_ne n)
  | cons c r =>
    have hc := hd c (by rw [e]; simp)
    unfold isDig at hc
    simp only [numS]
    rw [if_neg (fun q => by rw [q] at hc; have : (45 : UInt8).toNat = 45 := rfl; omega), ← e]
    exact key
theorem num_sound {l : List UInt8} {n : Int} (h : numS l = (n, true)) (h0 : 0 ≤ n) : l = Lib.decDigits n.toNat := by
  have body : ∀ (neg : Bool) (m : List UInt8), bodyR neg m = (n, true) → neg = false ∧ m = Lib.decDigits n.toNat := by
    intro neg m hm
    unfold bodyR at hm
    by_cases c : m = [] ∨ 17 < m.length ∨ (m.head? = some 48 ∧ (1 < m.length ∨ neg = true))
    · rw [if_pos c] at hm
      cases (Prod.mk.inj hm).2
    rw [if_neg c] at hm
    unfold digR at hm
    by_cases hd : ∀ x ∈ m, isDig x
    rotate_left
    · rw [if_neg hd] at hm
      cases (Prod.mk.inj hm).2
    rw [if_pos hd] at hm
    have hv := (Prod.mk.inj hm).1
    have hne : m ≠ [] := fun e => c (.inl e)
    have hz : ∀ x r, m = x :: r → x.toNat = 48 → r = [] := by
      intro x r e hx
      refine Decidable.byContradiction (fun hr => c (.inr (.inr ⟨?_, .inl ?_⟩)))
      · rw [e]
        simp only [List.head?_cons, Option.some.injEq]
        exact UInt8.toNat_inj.1 (by rw [hx]; rfl)
      · rw [e, List.length_cons]
        have : r.length ≠ 0 := fun q => hr (List.length_eq_zero_iff.1 q)
        omega
    have hl : m.length ≠ 0 := fun q => hne (List.length_eq_zero_iff.1 q)
    have hdv := dec_val (m.length - 1) m (by omega) hd hz
    cases neg with
    | false =>
      rw [if_neg (by decide)] at hv
      refine ⟨rfl, ?_⟩
      rw [← hv, Int.toNat_natCast, hdv]
    | true =>
      exfalso
      rw [if_pos rfl] at hv
      have hv0 : valL 0 m = 0 := by omega
      rw [hv0, Lib.decDigits_one (by omega)] at hdv
      refine c (.inr (.inr ⟨?_, .inr rfl⟩))
      rw [← hdv]
      rfl
  cases l with
  | nil => cases (Prod.mk.inj h).2
  | cons c r =>
    simp only [numS] at h
    by_cases hc : c = 45
    · rw [if_pos hc] at h
      cases (body true r h).1
    · rw [if_neg hc] at h
      exact (body false _ h).2
theorem parse_dec : ∀ (l : List UInt8) (a : Nat), (∀ c ∈ l, isDig c) → valL a l < 1844674407370955162 → Lib.parseUint10 a l = .ok (valL a l)
  | [], a, _, _ => by rw [Lib.parseUint10, valL_nil]
  | c :: l, a, h, hv => by
    obtain ⟨x, hx, h9⟩ := dig_is (h c (by simp))
    have hp := valL_pos l (stepV a c)
    rw [valL_cons] at hv
    have hs := stepV_is a x c hx
    have hc := h c (by simp)
    unfold isDig at hc
    rw [Lib.parseUint10, if_pos hc, if_neg (by omega), if_neg (by omega), valL_cons]
    exact parse_dec l _ (fun d hd => h d (by simp [hd])) hv
theorem atoi_dec (n : Nat) (h : n < 1000000000000000) : Lib.atoiAll (Lib.decDigits n) = .ok (n : Int) := by
  have hd := dec_dig n
  have hp := parse_dec (Lib.decDigits n) 0 hd (by rw [val_dec]; omega)
  rw [val_dec] at hp
  cases e : Lib.decDigits n with
  | nil => exact absurd e (dec_ne n)
  | cons c r =>
    have hc := hd c (by rw [e]; simp)
    unfold isDig at hc
    rw [e] at hp
    unfold Lib.atoiAll
    simp only
    rw [if_neg (by omega)]
    unfold Lib.parseMag
    rw [if_neg (by simp), hp]
    simp only
    rw [if_neg (by omega), if_neg (by omega), if_neg (by omega)]
mutual
def wdsX : S29 → List (List UInt8)
  | ⟨a, b, n, l⟩ => (if a = 1 then bL (letB b) else bL (rdOf ByteArray.empty exW a)) :: ((if a = 7 then [Lib.decDigits n.toNat] else []) ++ wdsL l)
def wdsL : List S29 → List (List UInt8)
  | [] => []
  | x :: xs => wdsX x ++ wdsL xs
end
def numL (x : S29) : List (List UInt8) := if x.f0 = 7 then [Lib.decDigits x.f2.toNat] else []
theorem wdsX_is (x : S29) : wdsX x = hdW x :: (numL x ++ wdsL x.f3) := by
  cases x
  simp only [wdsX, hdW, numL]
theorem wdsL_nil : wdsL [] = [] := by simp only [wdsL]
theorem wdsL_cons (x : S29) (l : List S29) : wdsL (x :: l) = wdsX x ++ wdsL l := by simp only [wdsL]
def tw (ws : List (List UInt8)) : List UInt8 := ws.flatMap (fun w => 32 :: w)
theorem tw_append (a b : List (List UInt8)) : tw (a ++ b) = tw a ++ tw b := by unfold tw; rw [List.flatMap_append]
theorem tw_cons (w : List UInt8) (ws : List (List UInt8)) : tw (w :: ws) = 32 :: (w ++ tw ws) := by unfold tw; rw [List.flatMap_cons, List.cons_append]
theorem tw_num (x : S29) : tw (numL x) = numW x := by
  unfold numL numW
  by_cases h : x.f0 = 7
  · rw [if_pos h, if_pos h, tw_cons]
    simp [tw]
  · rw [if_neg h, if_neg h]
    rfl
theorem tw_kids (l : List S29) (h : ∀ x ∈ l, tw (wdsX x) = 32 :: txL x) : tw (wdsL l) = txsL l := by
  induction l with
  | nil => rw [wdsL_nil, txsL_nil]; rfl
  | cons x l ih => rw [wdsL_cons, txsL_cons, tw_append, h x (by simp), ih (fun y hy => h y (by simp [hy])), List.cons_append]
theorem tw_text : ∀ x : S29, fmY x = true → tw (wdsX x) = 32 :: txL x := by
  refine indI (fun x ih h => ?_)
  obtain ⟨_, h2⟩ := fmY_parts h
  rw [wdsX_is, tw_cons, tw_append, tw_num, tw_kids x.f3 (fun y hy => ih y hy (h2 y hy)), txL_is x h]
theorem text_join (x : S29) (h : fmY x = true) : txL x = joinL (wdsX x) := by
  have := tw_text x h
  rw [wdsX_is, tw_cons] at this
  rw [wdsX_is]
  exact (List.cons.inj this).2.symm
theorem wds_word : ∀ x : S29, fmY x = true → ∀ w ∈ wdsX x, ∀ c ∈ w, c ≠ 32 := by
  refine indI (fun x ih h w hw => ?_)
  obtain ⟨h1, h2⟩ := fmY_parts h
  obtain ⟨_, _, _, _, _, hc, _⟩ := okN_cases h1
  rw [wdsX_is] at hw
  rcases List.mem_cons.1 hw with rfl | hw
  · exact hdW_word h1
  rcases List.mem_append.1 hw with hw | hw
  · unfold numL at hw
    by_cases h7 : x.f0 = 7
    · rw [if_pos h7, List.mem_singleton] at hw
      rw [hw]
      have := hc h7
      exact dec_word _ (by omega)
    · rw [if_neg h7] at hw
      simp at hw
  have key : ∀ l : List S29, (∀ y ∈ l, ∀ w ∈ wdsX y, ∀ c ∈ w, c ≠ 32) → ∀ w ∈ wdsL l, ∀ c ∈ w, c ≠ 32 := by
    intro l
    induction l with
    | nil => intro _ w hw; rw [wdsL_nil] at hw; simp at hw
    | cons y l ihl =>
      intro hy w hw
      rw [wdsL_cons] at hw
      rcases List.mem_append.1 hw with hw | hw
      · exact hy y (by simp) w hw
      · exact ihl (fun z hz => hy z (by simp [hz])) w hw
  exact key x.f3 (fun y hy => ih y hy (h2 y hy)) w hw
theorem cut_text (x : S29) (h : fmY x = true) : cutL (textP x).data.toList = wdsX x := by
  have e : (textP x).data.toList = joinL (wdsX x) := text_join x h
  rw [e, cut_join _ (by rw [wdsX_is]; simp) (wds_word x h)]
theorem splitW_is (s : ByteArray) : splitW s = (cutL s.data.toList).map mkB := split_is s.size s (Nat.le_refl _)
theorem mkB_bL (s : ByteArray) : mkB (bL s) = s := mkB_data s
theorem drop_word {all : List ByteArray} {o : Nat} {w : ByteArray} {r : List ByteArray} (h : all.drop o = w :: r) : o < all.length ∧ all.getD o ByteArray.empty = w ∧ all.drop (o + 1) = r := by
  have hlt : o < all.length := by
    refine Decidable.byContradiction (fun q => ?_)
    rw [List.drop_of_length_le (by omega)] at h
    cases h
  rw [List.drop_eq_getElem_cons hlt] at h
  injection h with h1 h2
  refine ⟨hlt, ?_, h2⟩
  rw [List.getD_eq_getElem?_getD, List.getElem?_eq_getElem hlt, ← h1]
  rfl
theorem word_len (x : S29) : 1 ≤ (wdsX x).length := by rw [wdsX_is]; simp
theorem hd_kind {x : S29} (h : okN x.f0 x.f1 x.f2 x.f3.length = true) (h1 : x.f0 ≠ 1) : kdW (mkB (hdW x)) = x.f0 ∧ (mkB (hdW x)).size ≠ 1 := by
  obtain ⟨a1, a7, _, _, _, _, _⟩ := okN_cases h
  unfold hdW
  rw [if_neg h1, mkB_bL]
  have : x.f0 = 2 ∨ x.f0 = 3 ∨ x.f0 = 4 ∨ x.f0 = 5 ∨ x.f0 = 6 ∨ x.f0 = 7 := by omega
  rcases this with q | q | q | q | q | q <;> rw [q] <;> decide +kernel
theorem hd_letter {x : S29} (h : okN x.f0 x.f1 x.f2 x.f3.length = true) (h1 : x.f0 = 1) : letV (mkB (hdW x)) = x.f1 ∧ (mkB (hdW x)).size = 1 := by
  obtain ⟨_, _, _, hb, _, _, _⟩ := okN_cases h
  obtain ⟨b0, b4, _⟩ := hb h1
  unfold hdW
  rw [if_pos h1, mkB_bL]
  have : x.f1 = 0 ∨ x.f1 = 1 ∨ x.f1 = 2 ∨ x.f1 = 3 ∨ x.f1 = 4 := by omega
  rcases this with q | q | q | q | q <;> rw [q] <;> decide +kernel
theorem at_num (n : Int) (h0 : 0 ≤ n) (h1 : n < 1000) : atV (mkB (Lib.decDigits n.toNat)) = n := by
  unfold atV
  have : (mkB (Lib.decDigits n.toNat)).data.toList = Lib.decDigits n.toNat := rfl
  rw [this, atoi_dec n.toNat (by omega)]
  simp only
  omega
theorem kidN_is {x : S29} (h : okN x.f0 x.f1 x.f2 x.f3.length = true) (h1 : x.f0 ≠ 1) : kidN x.f0 = x.f3.length := by
  obtain ⟨a1, a7, hk, _, _, _, _⟩ := okN_cases h
  have : x.f0 = 2 ∨ x.f0 = 3 ∨ x.f0 = 4 ∨ x.f0 = 5 ∨ x.f0 = 6 ∨ x.f0 = 7 := by omega
  rcases this with q | q | q | q | q | q <;> rw [q] at hk ⊢ <;> (have e : kidsOf _ = _ := hk; simp [kidsOf] at e; unfold kidN; simp; omega)
def ReadOk (all : List ByteArray) (x : S29) : Prop := ∀ (d o : Nat) (rest : List ByteArray), all.drop o = (wdsX x).map mkB ++ rest → manyY x ≤ d → exP all d o = (x, o + (wdsX x).length)
theorem kids_read (all : List ByteArray) : ∀ (l : List S29), (∀ y ∈ l, ReadOk all y) → ∀ (d o : Nat) (acc : List S29) (rest : List ByteArray), all.drop o = (wdsL l).map mkB ++ rest → manysY l ≤ d → kidsG (exP all d) l.length o acc = (acc ++ l, o + (wdsL l).length)
  | [], _, d, o, acc, rest, _, _ => by
    rw [List.length_nil, kidsG, wdsL_nil]
    simp
  | x :: l, h, d, o, acc, rest, hd, hm => by
    rw [manysY_cons] at hm
    rw [wdsL_cons, List.map_append, List.append_assoc] at hd
    have h1 := h x (by simp) d o _ hd (by omega)
    have hd2 : all.drop (o + (wdsX x).length) = (wdsL l).map mkB ++ rest := by
      have := congrArg (List.drop (wdsX x).length) hd
      rw [List.drop_drop, List.drop_left' (by simp)] at this
      exact this
    have h2 := kids_read all l (fun y hy => h y (by simp [hy])) d (o + (wdsX x).length) (acc ++ [x]) rest hd2 (by omega)
    rw [List.length_cons, kidsG, h1, h2, wdsL_cons, List.length_append, List.append_assoc]
    simp [Nat.add_assoc]
theorem exP_read (all : List ByteArray) : ∀ x : S29, fmY x = true → ReadOk all x := by
  refine indI (fun x ih h d o rest hd hm => ?_)
  obtain ⟨h1, h2⟩ := fmY_parts h
  obtain ⟨a1, a7, hk, hb, hb', hc, hc'⟩ := okN_cases h1
  rw [manyY_is] at hm
  obtain ⟨d, rfl⟩ : ∃ e, d = e + 1 := ⟨d - 1, by omega⟩
  have hd0 := hd
  rw [wdsX_is, List.map_cons, List.cons_append] at hd
  obtain ⟨ho, hw, hd1⟩ := drop_word hd
  have hn : nextO all o = o + 1 := if_pos ho
  rw [exP_is, hw, hn, wdsX_is]
  by_cases e1 : x.f0 = 1
  · obtain ⟨l1, l2⟩ := hd_letter h1 e1
    have k0 : x.f3 = [] := List.length_eq_zero_iff.1 (hb e1).2.2
    have n0 := hc' (by omega)
    rw [if_pos l2, l1, k0, wdsL_nil]
    unfold numL
    rw [if_neg (by omega), ← e1, ← n0, ← k0, eta_T]
    rfl
  obtain ⟨l1, l2⟩ := hd_kind h1 e1
  rw [if_neg l2, l1, if_pos ⟨by omega, a7⟩, kidN_is h1 e1]
  have b0 := hb' e1
  have ks : ∀ y ∈ x.f3, ReadOk all y := fun y hy => ih y hy (h2 y hy)
  by_cases e7 : x.f0 = 7
  · simp only [if_pos e7]
    have hc7 := hc e7
    unfold numL at hd1 ⊢
    rw [if_pos e7] at hd1 ⊢
    rw [List.map_append, List.map_cons, List.map_nil, List.append_assoc, List.singleton_append] at hd1
    obtain ⟨ho2, hw2, hd2⟩ := drop_word hd1
    have hn2 : nextO all (o + 1) = o + 1 + 1 := if_pos ho2
    have key := kids_read all x.f3 ks d (o + 1 + 1) [] rest hd2 (by omega)
    rw [hw2, hn2, at_num x.f2 (by omega) (by omega), key, List.nil_append, ← b0, eta_T, List.length_cons, List.length_append, List.length_singleton]
    congr 1
    omega
  · simp only [if_neg e7]
    have n0 := hc' e7
    unfold numL at hd1 ⊢
    rw [if_neg e7, List.nil_append] at hd1 ⊢
    have key := kids_read all x.f3 ks d (o + 1) [] rest hd1 (by omega)
    rw [key, List.nil_append, List.length_cons]
    have ex : (⟨x.f0, 0, 0, x.f3⟩ : S29) = x := by rw [← eta_T x]; simp only [b0, n0]
    rw [ex]
    congr 1
    omega
theorem manyY_words : ∀ x : S29, manyY x ≤ (wdsX x).length := by
  refine indI (fun x ih => ?_)
  have key : ∀ l : List S29, (∀ y ∈ l, manyY y ≤ (wdsX y).length) → manysY l ≤ (wdsL l).length := by
    intro l
    induction l with
    | nil => intro _; rw [manysY_nil]; omega
    | cons y l ihl =>
      intro h
      have h1 := h y (by simp)
      have h2 := ihl (fun z hz => h z (by simp [hz]))
      rw [manysY_cons, wdsL_cons, List.length_append]
      omega
  have := key x.f3 ih
  rw [manyY_is, wdsX_is, List.length_cons, List.length_append]
  omega
theorem exT_text (x : S29) (h : fmY x = true) : exT (textP x) = x := by
  have e : splitW (textP x) = (wdsX x).map mkB := by rw [splitW_is, cut_text x h]
  have := exP_read (splitW (textP x)) x h ((splitW (textP x)).length + 1) 0 [] (by rw [e]; simp) (by rw [e]; have := manyY_words x; simp; omega)
  unfold exT exQ
  rw [this]
theorem kids_all {all : List ByteArray} {f : Nat → S29 × Nat} (hf : ∀ o, o ≤ all.length → allY (f o).1 + 3 * o ≤ 3 * (f o).2 ∧ (f o).2 ≤ all.length) : ∀ (c o : Nat) (acc : List S29), o ≤ all.length → kidsY (kidsG f c o acc).1 + 3 * o ≤ kidsY acc + 3 * (kidsG f c o acc).2 ∧ (kidsG f c o acc).1.length = acc.length + c
  | 0, o, acc, h => ⟨Nat.le_refl _, rfl⟩
  | c + 1, o, acc, h => by
    have h1 := hf o h
    have h2 := kids_all hf c (f o).2 (acc ++ [(f o).1]) h1.2
    have e : kidsY (acc ++ [(f o).1]) = kidsY acc + allY (f o).1 := by
      induction acc with
      | nil => simp [kidsY_cons, kidsY_nil]
      | cons y l ih => rw [List.cons_append, kidsY_cons, kidsY_cons, ih (kids_all hf c (f o).2 (l ++ [(f o).1]) h1.2)]; omega
    rw [e, List.length_append, List.length_singleton] at h2
    rw [kidsG]
    omega
theorem exP_all (all : List ByteArray) : ∀ (d o : Nat), o ≤ all.length → allY (exP all d o).1 + 3 * o ≤ 3 * (exP all d o).2 ∧ (exP all d o).2 ≤ all.length
  | 0, o, h => by
    refine ⟨?_, h⟩
    rw [allY_is]
    show 0 + kidsY [] + 3 * o ≤ 3 * o
    rw [kidsY_nil]
    omega
  | d + 1, o, h => by
    have n1 := nextO_ge all o
    have hle := exP_le all (d + 1) o h
    refine ⟨?_, hle.2⟩
    have z : ∀ a b c : Int, allY (⟨a, b, c, []⟩ : S29) = 0 := fun a b c => by rw [allY_is]; show 0 + kidsY [] = 0; rw [kidsY_nil]
    rw [exP_is]
    by_cases c1 : (all.getD o ByteArray.empty).size = 1
    · rw [if_pos c1, z]; omega
    rw [if_neg c1]
    by_cases c2 : 2 ≤ kdW (all.getD o ByteArray.empty) ∧ kdW (all.getD o ByteArray.empty) ≤ 7
    rotate_left
    · rw [if_neg c2, z]; omega
    rw [if_pos c2]
    have ho := kdW_ne c2.1
    have hn : nextO all o = o + 1 := if_pos ho
    have hk := kidN_le (kdW (all.getD o ByteArray.empty))
    have fin : ∀ o2, o + 1 ≤ o2 → o2 ≤ all.length → ∀ (a b c : Int), allY (⟨a, b, c, (kidsG (exP all d) (kidN (kdW (all.getD o ByteArray.empty))) o2 []).1⟩ : S29) + 3 * o ≤ 3 * (kidsG (exP all d) (kidN (kdW (all.getD o ByteArray.empty))) o2 []).2 := by
      intro o2 g1 g2 a b c
      have := kids_all (all := all) (f := exP all d) (fun o h => exP_all all d o h) (kidN (kdW (all.getD o ByteArray.empty))) o2 [] g2
      rw [kidsY_nil, List.length_nil] at this
      rw [allY_is]
      simp only
      omega
    have q2 := nextO_le h
    by_cases c7 : kdW (all.getD o ByteArray.empty) = 7
    · simp only [if_pos c7]
      exact fin _ (by have := nextO_ge all (nextO all o); omega) (nextO_le q2) _ _ _
    · simp only [if_neg c7]
      exact fin _ (by omega) q2 _ _ _
theorem exT_all (s : ByteArray) (h : s.size ≤ 300) : allY (exT s) ≤ 1000 := by
  have := exP_all (splitW s) ((splitW s).length + 1) 0 (Nat.zero_le _)
  have h2 := splitW_len s
  unfold exT exQ
  omega
def kdT (t : List UInt8) : Int := if t = (⟨#[]⟩ : ByteArray).toList then 0 else if t = (⟨#[111, 114]⟩ : ByteArray).toList then 2 else if t = (⟨#[97, 110, 100]⟩ : ByteArray).toList then 3 else if t = (⟨#[115, 101, 113]⟩ : ByteArray).toList then 4 else if t = (⟨#[110, 111, 116]⟩ : ByteArray).toList then 5 else if t = (⟨#[101, 97, 99, 104]⟩ : ByteArray).toList then 6 else if t = (⟨#[112, 108, 117, 115]⟩ : ByteArray).toList then 7 else -1
theorem kdW_T (s : ByteArray) : kdW s = kdT s.toList := rfl
def lastT (t : List UInt8) : Nat → Nat → Int → Int
  | _, 0, K => K
  | m, d + 1, K => lastT t (m + 1) d (if (exW.getD m ByteArray.empty).toList = t then (m : Int) else K)
theorem last_is (t : List UInt8) : lastT t 2 6 0 = if kdT t < 2 then 0 else kdT t := by
  by_cases h2 : (⟨#[111, 114]⟩ : ByteArray).toList = t
  · subst h2; decide +kernel
  by_cases h3 : (⟨#[97, 110, 100]⟩ : ByteArray).toList = t
  · subst h3; decide +kernel
  by_cases h4 : (⟨#[115, 101, 113]⟩ : ByteArray).toList = t
  · subst h4; decide +kernel
  by_cases h5 : (⟨#[110, 111, 116]⟩ : ByteArray).toList = t
  · subst h5; decide +kernel
  by_cases h6 : (⟨#[101, 97, 99, 104]⟩ : ByteArray).toList = t
  · subst h6; decide +kernel
  by_cases h7 : (⟨#[112, 108, 117, 115]⟩ : ByteArray).toList = t
  · subst h7; decide +kernel
  have e2 : (exW.getD 2 ByteArray.empty).toList ≠ t := h2
  have e3 : (exW.getD 3 ByteArray.empty).toList ≠ t := h3
  have e4 : (exW.getD 4 ByteArray.empty).toList ≠ t := h4
  have e5 : (exW.getD 5 ByteArray.empty).toList ≠ t := h5
  have e6 : (exW.getD 6 ByteArray.empty).toList ≠ t := h6
  have e7 : (exW.getD 7 ByteArray.empty).toList ≠ t := h7
  have e : kdT t < 2 := by
    unfold kdT
    by_cases h0 : t = (⟨#[]⟩ : ByteArray).toList
    · rw [if_pos h0]; decide
    · rw [if_neg h0, if_neg (fun q => h2 q.symm), if_neg (fun q => h3 q.symm), if_neg (fun q => h4 q.symm), if_neg (fun q => h5 q.symm), if_neg (fun q => h6 q.symm), if_neg (fun q => h7 q.symm)]; decide
  rw [if_pos e]
  simp only [lastT]
  rw [if_neg e7, if_neg e6, if_neg e5, if_neg e4, if_neg e3, if_neg e2]
noncomputable def tailR (all : List ByteArray) (o : Nat) (K : Int) : Int × Int × Int × Int := if K = 0 then (0, 0, 0, -1) else if K = 7 then (if all.length ≤ o + 1 then (7, 0, 0, -1) else if (numS (all.getD (o + 1) ByteArray.empty).data.toList).2 = true then (7, 0, (numS (all.getD (o + 1) ByteArray.empty).data.toList).1, ((o + 2 : Nat) : Int)) else (7, 0, 0, -1)) else (K, 0, 0, ((o + 1 : Nat) : Int))
noncomputable def headR (all : List ByteArray) (o : Nat) : Int × Int × Int × Int :=
  if (all.getD o ByteArray.empty).size = 1 ∧ 97 ≤ bt (all.getD o ByteArray.empty) 0 ∧ bt (all.getD o ByteArray.empty) 0 ≤ 101 then (1, bt (all.getD o ByteArray.empty) 0 - 97, 0, ((o + 1 : Nat) : Int))
  else tailR all o (if kdW (all.getD o ByteArray.empty) < 2 then 0 else kdW (all.getD o ByteArray.empty))
section
variable (all : List ByteArray) (hl : all.length ≤ 1000000) (hz : ∀ s ∈ all, s.size ≤ 1000000)
include hl hz
theorem tail_ev (o : Nat) (ho : o < all.length) (K : Int) : Ev (fun k => spec_l2Head.l0 k all (o : Int) 8 K 0 0) ((tailR all o K).1, (tailR all o K).2.1, (tailR all o K).2.2.1, [], (tailR all o K).2.2.2) := by
  have w1 : wrap64 ((o : Int) + 1) = ((o + 1 : Nat) : Int) := w_succ (by omega)
  have w2 : wrap64 ((o : Int) + 2) = ((o + 2 : Nat) : Int) := by rw [w_small (by omega) (by omega)]; omega
  unfold tailR
  by_cases h0 : K = 0
  · rw [if_pos h0]
    exact Ev.last (fun k => by simp only [spec_l2Head.l0]; rw [if_neg (by omega), if_pos h0, h0])
  rw [if_neg h0]
  by_cases h7 : K = 7
  rotate_left
  · rw [if_neg h7]
    exact Ev.last (fun k => by simp only [spec_l2Head.l0]; rw [if_neg (by omega), if_neg h0, if_neg h7, w1])
  subst h7
  rw [if_pos rfl]
  by_cases hn : all.length ≤ o + 1
  · rw [if_pos hn]
    exact Ev.last (fun k => by simp only [spec_l2Head.l0]; rw [if_neg (by omega), if_neg h0, if_pos trivial, w1, if_pos (by omega)])
  rw [if_neg hn]
  have hr : rdOf ByteArray.empty all ((o + 1 : Nat) : Int) = all.getD (o + 1) ByteArray.empty := rfl
  have hs : (all.getD (o + 1) ByteArray.empty).size ≤ 1000000 := by
    rw [List.getD_eq_getElem?_getD, List.getElem?_eq_getElem (by omega)]
    exact hz _ (List.getElem_mem _)
  have hnum := l14Num_ev (all.getD (o + 1) ByteArray.empty) (by omega)
  refine Ev.step (fun k => by simp only [spec_l2Head.l0]; rw [if_neg (by omega), if_neg h0, if_pos trivial, w1, if_neg (by omega), if_pos (by omega), if_pos (by omega), hr, w2]) (Ev.bind hnum ?_)
  by_cases hk : (numS (all.getD (o + 1) ByteArray.empty).data.toList).2 = true
  · simp only [if_pos hk]
    exact Ev.now _
  · simp only [if_neg hk]
    exact Ev.now _
theorem kind_ev (o : Nat) (ho : o < all.length) : ∀ (d m : Nat) (K : Int), m + d = 8 → Ev (fun k => spec_l2Head.l0 k all (o : Int) (m : Int) K 0 0) ((tailR all o (lastT (all.getD o ByteArray.empty).toList m d K)).1, (tailR all o (lastT (all.getD o ByteArray.empty).toList m d K)).2.1, (tailR all o (lastT (all.getD o ByteArray.empty).toList m d K)).2.2.1, [], (tailR all o (lastT (all.getD o ByteArray.empty).toList m d K)).2.2.2)
  | 0, m, K, hm => by
    have : m = 8 := by omega
    subst this
    exact tail_ev all hl hz o ho K
  | d + 1, m, K, hm => by
    have e8 : (exW.length : Int) = 8 := rfl
    have hw : spec_l2Words.f = some exW := rfl
    have hr : rdOf ByteArray.empty all (o : Int) = all.getD o ByteArray.empty := rfl
    have hr2 : rdOf ByteArray.empty exW (m : Int) = exW.getD m ByteArray.empty := rfl
    have w1 : wrap64 ((m : Int) + 1) = ((m + 1 : Nat) : Int) := w_succ (by omega)
    have st : ∀ k, spec_l2Head.l0 (k + 1) all (o : Int) (m : Int) K 0 0 = if (exW.getD m ByteArray.empty).toList = (all.getD o ByteArray.empty).toList then spec_l2Head.l0 k all (o : Int) ((m + 1 : Nat) : Int) (m : Int) 0 0 else spec_l2Head.l0 k all (o : Int) ((m + 1 : Nat) : Int) K 0 0 := fun k => by
      simp only [spec_l2Head.l0]
      rw [if_pos (by omega), hw, Option.bind_some, if_pos (by omega), if_pos (by omega), if_pos (by omega), if_pos (by omega), hr, hr2, w1]
    refine Ev.step st ?_
    rw [lastT]
    by_cases h : (exW.getD m ByteArray.empty).toList = (all.getD o ByteArray.empty).toList
    · simp only [if_pos h]
      exact kind_ev o ho d (m + 1) (m : Int) (by omega)
    · simp only [if_neg h]
      exact kind_ev o ho d (m + 1) K (by omega)
theorem head_ev (o : Nat) (ho : o < all.length) : Ev (fun k => spec_l2Head.f k all (o : Int)) ((headR all o).1, (headR all o).2.1, (headR all o).2.2.1, [], (headR all o).2.2.2) := by
  have hr : rdOf ByteArray.empty all (o : Int) = all.getD o ByteArray.empty := rfl
  have w1 : wrap64 ((o : Int) + 1) = ((o + 1 : Nat) : Int) := w_succ (by omega)
  have hj : Ev (fun k => spec_l2Head.j0 k all (o : Int) false 0 0 0) ((tailR all o (if kdW (all.getD o ByteArray.empty) < 2 then 0 else kdW (all.getD o ByteArray.empty))).1, (tailR all o (if kdW (all.getD o ByteArray.empty) < 2 then 0 else kdW (all.getD o ByteArray.empty))).2.1, (tailR all o (if kdW (all.getD o ByteArray.empty) < 2 then 0 else kdW (all.getD o ByteArray.empty))).2.2.1, [], (tailR all o (if kdW (all.getD o ByteArray.empty) < 2 then 0 else kdW (all.getD o ByteArray.empty))).2.2.2) := by
    have := kind_ev all hl hz o ho 6 2 0 rfl
    rw [last_is, ← kdW_T] at this
    exact Ev.step (fun k => by simp only [spec_l2Head.j0]; rw [if_neg (by decide)]; rfl) this
  unfold headR
  have hb := bt_range (all.getD o ByteArray.empty) 0
  unfold spec_l2Head.f
  rw [hr]
  refine Ev.pos (by omega) (Ev.pos (by omega) ?_)
  by_cases h1 : (all.getD o ByteArray.empty).size = 1
  · refine Ev.pos (by omega) (Ev.pos (by omega) ?_)
    by_cases h97 : 97 ≤ bt (all.getD o ByteArray.empty) 0
    · refine Ev.pos h97 ?_
      by_cases h101 : bt (all.getD o ByteArray.empty) 0 ≤ 101
      · rw [if_pos ⟨h1, h97, h101⟩, decide_eq_true h101]
        have w2 : wrap64 (wrap64 (bt (all.getD o ByteArray.empty) 0) - 97) = bt (all.getD o ByteArray.empty) 0 - 97 := by rw [w_small (i := bt _ 0) (by omega) (by omega), w_small (by omega) (by omega)]
        exact Ev.last (fun k => by simp only [spec_l2Head.j0]; rw [if_pos trivial, if_pos (by omega), if_pos (by omega), hr, if_pos (by omega), w2, w1])
      · rw [if_neg (fun q => h101 q.2.2), decide_eq_false h101]
        exact hj
    · rw [if_neg (fun q => h97 q.2.1)]
      exact Ev.neg h97 hj
  · rw [if_neg (fun q => h1 q.1)]
    exact Ev.neg (by omega) hj
end
def pX : Nat → Nat
  | 0 => 0
  | d + 1 => 3 + 3 * pX d
def PRes (all : List ByteArray) (o : Nat) (x : S29) (a : Int) : Prop := a < 0 ∨ ∃ o' : Nat, a = (o' : Int) ∧ o ≤ o' ∧ o' ≤ all.length ∧ (fmY x = true → all.drop o = (wdsX x).map mkB ++ all.drop o')
theorem drop_get {all : List ByteArray} {o : Nat} (h : o < all.length) : all.drop o = all.getD o ByteArray.empty :: all.drop (o + 1) := by
  rw [List.drop_eq_getElem_cons h, List.getD_eq_getElem?_getD, List.getElem?_eq_getElem h]
  rfl
theorem one_letter {s : ByteArray} (h1 : s.size = 1) (h2 : 97 ≤ bt s 0) (h3 : bt s 0 ≤ 101) : s = letB (bt s 0 - 97) := by
  obtain ⟨c, rfl⟩ := one_byte h1
  have hb : bt (⟨#[c]⟩ : ByteArray) 0 = (c.toNat : Int) := rfl
  rw [hb] at h2 h3 ⊢
  have : c = 97 ∨ c = 98 ∨ c = 99 ∨ c = 100 ∨ c = 101 := by
    have : c.toNat = 97 ∨ c.toNat = 98 ∨ c.toNat = 99 ∨ c.toNat = 100 ∨ c.toNat = 101 := by omega
    rcases this with q | q | q | q | q
    · exact .inl (UInt8.toNat_inj.1 q)
    · exact .inr (.inl (UInt8.toNat_inj.1 q))
    · exact .inr (.inr (.inl (UInt8.toNat_inj.1 q)))
    · exact .inr (.inr (.inr (.inl (UInt8.toNat_inj.1 q))))
    · exact .inr (.inr (.inr (.inr (UInt8.toNat_inj.1 q))))
  rcases this with rfl | rfl | rfl | rfl | rfl <;> decide +kernel
theorem ba_inj {a b : ByteArray} (h : a.toList = b.toList) : a = b := by
  rw [ByteArray.toList_eq, ByteArray.toList_eq] at h
  cases a
  cases b
  simp only [Array.toList_inj] at h
  rw [h]
theorem kind_word {s : ByteArray} (h : 2 ≤ kdW s) : s = rdOf ByteArray.empty exW (kdW s) := by
  have h' := h
  unfold kdW at h
  by_cases h0 : s.toList = (⟨#[]⟩ : ByteArray).toList
  · rw [if_pos h0] at h; omega
  rw [if_neg h0] at h
  by_cases h2 : s.toList = (⟨#[111, 114]⟩ : ByteArray).toList
  · rw [ba_inj h2]; decide +kernel
  rw [if_neg h2] at h
  by_cases h3 : s.toList = (⟨#[97, 110, 100]⟩ : ByteArray).toList
  · rw [ba_inj h3]; decide +kernel
  rw [if_neg h3] at h
  by_cases h4 : s.toList = (⟨#[115, 101, 113]⟩ : ByteArray).toList
  · rw [ba_inj h4]; decide +kernel
  rw [if_neg h4] at h
  by_cases h5 : s.toList = (⟨#[110, 111, 116]⟩ : ByteArray).toList
  · rw [ba_inj h5]; decide +kernel
  rw [if_neg h5] at h
  by_cases h6 : s.toList = (⟨#[101, 97, 99, 104]⟩ : ByteArray).toList
  · rw [ba_inj h6]; decide +kernel
  rw [if_neg h6] at h
  by_cases h7 : s.toList = (⟨#[112, 108, 117, 115]⟩ : ByteArray).toList
  · rw [ba_inj h7]; decide +kernel
  rw [if_neg h7] at h
  omega
theorem head_words {all : List ByteArray} {o : Nat} (ho : o < all.length) (hs : 0 ≤ (headR all o).2.2.2) : ∃ o1 : Nat, (headR all o).2.2.2 = (o1 : Int) ∧ o < o1 ∧ o1 ≤ all.length ∧ ∀ l : List S29, okN (headR all o).1 (headR all o).2.1 (headR all o).2.2.1 l.length = true → all.drop o = mkB (hdW ⟨(headR all o).1, (headR all o).2.1, (headR all o).2.2.1, l⟩) :: ((numL ⟨(headR all o).1, (headR all o).2.1, (headR all o).2.2.1, l⟩).map mkB ++ all.drop o1) := by
  by_cases c1 : (all.getD o ByteArray.empty).size = 1 ∧ 97 ≤ bt (all.getD o ByteArray.empty) 0 ∧ bt (all.getD o ByteArray.empty) 0 ≤ 101
  · have e : headR all o = (1, bt (all.getD o ByteArray.empty) 0 - 97, 0, ((o + 1 : Nat) : Int)) := by unfold headR; rw [if_pos c1]
    rw [e]
    refine ⟨o + 1, rfl, by omega, by omega, fun l hl => ?_⟩
    unfold hdW numL
    simp only [if_true]
    rw [if_neg (by decide), mkB_bL, ← one_letter c1.1 c1.2.1 c1.2.2, List.map_nil, List.nil_append]
    exact drop_get ho
  have e : headR all o = tailR all o (if kdW (all.getD o ByteArray.empty) < 2 then 0 else kdW (all.getD o ByteArray.empty)) := by unfold headR; rw [if_neg c1]
  rw [e] at hs ⊢
  by_cases c2 : kdW (all.getD o ByteArray.empty) < 2
  · rw [if_pos c2] at hs
    unfold tailR at hs
    rw [if_pos rfl] at hs
    simp only at hs
    omega
  rw [if_neg c2] at hs ⊢
  have hw := kind_word (s := all.getD o ByteArray.empty) (by omega)
  generalize hK : kdW (all.getD o ByteArray.empty) = K at *
  by_cases c7 : K = 7
  rotate_left
  · have e7 : tailR all o K = (K, 0, 0, ((o + 1 : Nat) : Int)) := by unfold tailR; rw [if_neg (by omega), if_neg c7]
    rw [e7]
    refine ⟨o + 1, rfl, by omega, by omega, fun l hl => ?_⟩
    unfold hdW numL
    simp only
    rw [if_neg (by omega), if_neg c7, mkB_bL, ← hw, List.map_nil, List.nil_append]
    exact drop_get ho
  subst c7
  have e7 : tailR all o 7 = (if all.length ≤ o + 1 then (7, 0, 0, -1) else if (numS (all.getD (o + 1) ByteArray.empty).data.toList).2 = true then (7, 0, (numS (all.getD (o + 1) ByteArray.empty).data.toList).1, ((o + 2 : Nat) : Int)) else (7, 0, 0, -1)) := by unfold tailR; rw [if_neg (by decide), if_pos rfl]
  rw [e7] at hs ⊢
  by_cases hn : all.length ≤ o + 1
  · rw [if_pos hn] at hs; simp only at hs; omega
  rw [if_neg hn] at hs ⊢
  by_cases hk : (numS (all.getD (o + 1) ByteArray.empty).data.toList).2 = true
  · rw [if_pos hk]
    refine ⟨o + 2, rfl, by omega, by omega, fun l hl => ?_⟩
    obtain ⟨_, _, _, _, _, hc, _⟩ := okN_cases hl
    have h20 : 1 ≤ (numS (all.getD (o + 1) ByteArray.empty).data.toList).1 ∧ (numS (all.getD (o + 1) ByteArray.empty).data.toList).1 ≤ 20 := hc rfl
    have hnm : numS (all.getD (o + 1) ByteArray.empty).data.toList = ((numS (all.getD (o + 1) ByteArray.empty).data.toList).1, true) := by rw [← hk]
    have hd := num_sound hnm (by omega)
    unfold hdW numL
    simp only [if_true]
    rw [if_neg (by decide), mkB_bL, ← hw, ← hd, List.map_cons, List.map_nil, mkB_data, List.singleton_append, drop_get ho, drop_get (by omega : o + 1 < all.length)]
  · rw [if_neg hk] at hs; simp only at hs; omega
theorem kidsOf_le3 (a : Int) : kidsOf a ≤ 3 := by
  unfold kidsOf
  (repeat' split) <;> omega
theorem kidsOf_ge (a : Int) : -1 ≤ kidsOf a := by
  unfold kidsOf
  (repeat' split) <;> omega
theorem kidsY_snoc (l : List S29) (x : S29) : kidsY (l ++ [x]) = kidsY l + allY x := by
  induction l with
  | nil => simp [kidsY_cons, kidsY_nil]
  | cons y l ih => rw [List.cons_append, kidsY_cons, kidsY_cons, ih]; omega
def Sound (all : List ByteArray) (d : Nat) : Prop := ∀ o : Nat, o ≤ all.length → ∃ (x : S29) (a : Int), Ev (fun k => spec_l2Parse.f k all (o : Int) (d : Int)) (x.f0, x.f1, x.f2, x.f3, a) ∧ PRes all o x a ∧ allY x ≤ pX d
theorem kids_sound (all : List ByteArray) (d : Nat) (hd : d ≤ 100) (ih : Sound all d) (K S N : Int) : ∀ (c : Nat) (n : Int) (o : Nat) (acc : List S29), n ≤ (c : Int) → (c : Int) ≤ max n 0 → c ≤ 3 → o ≤ all.length → acc.length + c ≤ 3 →
    ∃ (ks : List S29) (a : Int), Ev (fun k => spec_l2Parse.l0 k all ((d + 1 : Nat) : Int) (o : Int) n K S N acc) (K, S, N, ks, a) ∧ ks.length ≤ acc.length + c ∧ kidsY ks ≤ kidsY acc + c * pX d ∧ (a < 0 ∨ ∃ (o' : Nat) (new : List S29), a = (o' : Int) ∧ o ≤ o' ∧ o' ≤ all.length ∧ ks = acc ++ new ∧ ((∀ y ∈ new, fmY y = true) → all.drop o = (wdsL new).map mkB ++ all.drop o'))
  | 0, n, o, acc, h1, h2, _, ho, _ => by
    refine ⟨acc, (o : Int), Ev.last (fun k => by simp only [spec_l2Parse.l0]; rw [if_neg (by omega)]), by omega, by omega, .inr ⟨o, [], rfl, Nat.le_refl _, ho, by simp, fun _ => by rw [wdsL_nil]; simp⟩⟩
  | c + 1, n, o, acc, h1, h2, h3, ho, hac => by
    obtain ⟨x, a, hx, hp, hy⟩ := ih o ho
    have w1 : wrap64 (((d + 1 : Nat) : Int) - 1) = (d : Int) := by rw [w_small (by omega) (by omega)]; omega
    have w2 : wrap64 (n - 1) = n - 1 := w_small (by omega) (by omega)
    have st : ∀ k, spec_l2Parse.l0 (k + 1) all ((d + 1 : Nat) : Int) (o : Int) n K S N acc = (spec_l2Parse.f k all (o : Int) (d : Int)).bind fun t => if t.2.2.2.2 < 0 then some (K, S, N, acc, -1) else if acc.length < 2932031007402 then spec_l2Parse.l0 k all ((d + 1 : Nat) : Int) t.2.2.2.2 (n - 1) K S N (acc ++ [(⟨t.1, t.2.1, t.2.2.1, t.2.2.2.1⟩ : S29)]) else none := fun k => by
      simp only [spec_l2Parse.l0]
      rw [if_pos (by omega), w1, w2]
    have m1 : (c + 1) * pX d = c * pX d + pX d := Nat.succ_mul _ _
    by_cases ha : a < 0
    · exact ⟨acc, -1, Ev.step st (Ev.bind hx (Ev.pos ha (Ev.now _))), by omega, by omega, .inl (by omega)⟩
    rcases hp with hp | ⟨o1, rfl, g1, g2, g3⟩
    · omega
    obtain ⟨ks, a2, k1, k2, k3, k4⟩ := kids_sound all d hd ih K S N c (n - 1) o1 (acc ++ [x]) (by omega) (by omega) (by omega) g2 (by rw [List.length_append, List.length_singleton]; omega)
    rw [List.length_append, List.length_singleton] at k2
    have e := kidsY_snoc acc x
    rw [e] at k3
    refine ⟨ks, a2, Ev.step st (Ev.bind hx (Ev.neg ha (Ev.pos (by omega) ?_))), by omega, by omega, ?_⟩
    · rw [show (⟨x.f0, x.f1, x.f2, x.f3⟩ : S29) = x from eta_T x]
      exact k1
    rcases k4 with k4 | ⟨o', new, q1, q2, q3, q4, q5⟩
    · exact .inl k4
    · refine .inr ⟨o', x :: new, q1, by omega, q3, by rw [q4]; simp, fun hf => ?_⟩
      rw [g3 (hf x (by simp)), q5 (fun y hy' => hf y (by simp [hy'])), wdsL_cons, List.map_append, List.append_assoc]
def Compl (all : List ByteArray) (y : S29) : Prop := ∀ (d o : Nat) (rest : List ByteArray), deepY y ≤ d → d ≤ 100 → all.drop o = (wdsX y).map mkB ++ rest → Ev (fun k => spec_l2Parse.f k all (o : Int) (d : Int)) (y.f0, y.f1, y.f2, y.f3, ((o + (wdsX y).length : Nat) : Int))
theorem kids_complete (all : List ByteArray) (d : Nat) (hd : d ≤ 99) (K S N : Int) : ∀ (l : List S29), (∀ y ∈ l, Compl all y) → deepsY l ≤ d → l.length ≤ 3 → ∀ (o : Nat) (acc : List S29) (rest : List ByteArray), acc.length + l.length ≤ 3 → all.drop o = (wdsL l).map mkB ++ rest → Ev (fun k => spec_l2Parse.l0 k all ((d + 1 : Nat) : Int) (o : Int) (l.length : Int) K S N acc) (K, S, N, acc ++ l, ((o + (wdsL l).length : Nat) : Int))
  | [], _, _, _, o, acc, rest, _, _ => by
    rw [wdsL_nil, List.append_nil]
    exact Ev.last (fun k => by simp only [spec_l2Parse.l0]; rw [if_neg (by simp)]; rfl)
  | x :: l, h, hdp, hl3, o, acc, rest, hac, hdr => by
    rw [deepsY_cons] at hdp
    rw [List.length_cons] at hl3 hac
    rw [wdsL_cons, List.map_append, List.append_assoc] at hdr
    have h1 := h x (by simp) d o _ (by omega) (by omega) hdr
    have hd2 : all.drop (o + (wdsX x).length) = (wdsL l).map mkB ++ rest := by
      have := congrArg (List.drop (wdsX x).length) hdr
      rw [List.drop_drop, List.drop_left' (by simp)] at this
      exact this
    have h2 := kids_complete all d hd K S N l (fun y hy => h y (by simp [hy])) (by omega) (by omega) (o + (wdsX x).length) (acc ++ [x]) rest (by rw [List.length_append, List.length_singleton]; omega) hd2
    have w1 : wrap64 (((d + 1 : Nat) : Int) - 1) = (d : Int) := by rw [w_small (by omega) (by omega)]; omega
    have w2 : wrap64 (((x :: l).length : Int) - 1) = (l.length : Int) := by rw [List.length_cons, w_small (by omega) (by omega)]; omega
    have hneg : ¬ ((x.f0, x.f1, x.f2, x.f3, ((o + (wdsX x).length : Nat) : Int)).2.2.2.2 < 0) := by
      show ¬ (((o + (wdsX x).length : Nat) : Int) < 0)
      omega
    refine Ev.step (fun k => by simp only [spec_l2Parse.l0]; rw [if_pos (by rw [List.length_cons]; omega), w1, w2]) (Ev.bind h1 (Ev.neg hneg (Ev.pos (show acc.length < 2932031007402 by omega) ?_)))
    rw [show (⟨x.f0, x.f1, x.f2, x.f3⟩ : S29) = x from eta_T x]
    refine Ev.val h2 ?_
    rw [wdsL_cons, List.length_append, List.append_assoc]
    simp [Nat.add_assoc]
theorem head_of (all : List ByteArray) (y : S29) (h : fmY y = true) (o : Nat) (rest : List ByteArray) (hdr : all.drop o = (wdsX y).map mkB ++ rest) : o < all.length ∧ headR all o = (y.f0, y.f1, y.f2, ((o + 1 + (numL y).length : Nat) : Int)) ∧ all.drop (o + 1 + (numL y).length) = (wdsL y.f3).map mkB ++ rest := by
  obtain ⟨h1, _⟩ := fmY_parts h
  obtain ⟨a1, a7, hk, hb, hb', hc, hc'⟩ := okN_cases h1
  rw [wdsX_is, List.map_cons, List.cons_append] at hdr
  obtain ⟨ho, hw, hd1⟩ := drop_word hdr
  refine ⟨ho, ?_⟩
  unfold headR
  rw [hw]
  by_cases e1 : y.f0 = 1
  · obtain ⟨l1, l2⟩ := hd_letter h1 e1
    obtain ⟨b0, b4, _⟩ := hb e1
    have n0 := hc' (by omega)
    have hbt : bt (mkB (hdW y)) 0 = 97 + y.f1 := by
      unfold hdW
      rw [if_pos e1, mkB_bL]
      have : y.f1 = 0 ∨ y.f1 = 1 ∨ y.f1 = 2 ∨ y.f1 = 3 ∨ y.f1 = 4 := by omega
      rcases this with q | q | q | q | q <;> rw [q] <;> decide +kernel
    rw [if_pos ⟨l2, by omega, by omega⟩, hbt, e1, n0]
    unfold numL at hd1 ⊢
    rw [if_neg (by omega)] at hd1 ⊢
    rw [List.nil_append] at hd1
    refine ⟨?_, hd1⟩
    rw [show 97 + y.f1 - 97 = y.f1 by omega]
    rfl
  obtain ⟨l1, l2⟩ := hd_kind h1 e1
  rw [if_neg (fun q => l2 q.1), l1, if_neg (by omega)]
  unfold tailR
  rw [if_neg (by omega)]
  have b0 := hb' e1
  by_cases e7 : y.f0 = 7
  · have hc7 := hc e7
    unfold numL at hd1 ⊢
    rw [if_pos e7] at hd1 ⊢
    rw [List.map_append, List.map_cons, List.map_nil, List.append_assoc, List.singleton_append] at hd1
    obtain ⟨ho2, hw2, hd2⟩ := drop_word hd1
    have hnum : numS (mkB (Lib.decDigits y.f2.toNat)).data.toList = (y.f2, true) := by
      have := num_dec y.f2.toNat (by omega)
      rw [show ((y.f2.toNat : Nat) : Int) = y.f2 by omega] at this
      exact this
    rw [if_pos e7, if_neg (by omega), hw2, hnum, if_pos rfl, b0, e7]
    exact ⟨rfl, hd2⟩
  · have n0 := hc' e7
    unfold numL at hd1 ⊢
    rw [if_neg e7] at hd1 ⊢
    rw [List.nil_append] at hd1
    rw [if_neg e7, b0, n0]
    exact ⟨rfl, hd1⟩
section
variable (all : List ByteArray) (hl : all.length ≤ 1000000) (hz : ∀ s ∈ all, s.size ≤ 1000000)
include hl hz
theorem parse_sound : ∀ d : Nat, d ≤ 100 → Sound all d
  | 0, _ => fun o ho => by
    refine ⟨⟨0, 0, 0, []⟩, -1, ?_, .inl (by omega), by rw [allY_is]; show 0 + kidsY [] ≤ _; rw [kidsY_nil]; omega⟩
    have j : Ev (fun k => spec_l2Parse.j0 k all (o : Int) 0 true) (0, 0, 0, [], -1) := Ev.last (fun k => by simp only [spec_l2Parse.j0]; rw [if_pos trivial])
    by_cases c : (o : Int) ≥ (all.length : Int)
    · exact Ev.step (fun k => by simp only [spec_l2Parse.f]; rw [if_pos c]; rfl) j
    · exact Ev.step (fun k => by simp only [spec_l2Parse.f]; rw [if_neg c, decide_eq_true (by decide)]; rfl) j
  | d + 1, hd => fun o ho => by
    have z0 : allY (⟨0, 0, 0, []⟩ : S29) ≤ pX (d + 1) := by rw [allY_is]; show 0 + kidsY [] ≤ _; rw [kidsY_nil]; omega
    have p3 : pX (d + 1) = 3 + 3 * pX d := rfl
    by_cases c : (o : Int) ≥ (all.length : Int)
    · have j : Ev (fun k => spec_l2Parse.j0 k all (o : Int) ((d + 1 : Nat) : Int) true) (0, 0, 0, [], -1) := Ev.last (fun k => by simp only [spec_l2Parse.j0]; rw [if_pos trivial])
      exact ⟨⟨0, 0, 0, []⟩, -1, Ev.step (fun k => by simp only [spec_l2Parse.f]; rw [if_pos c]) j, .inl (by omega), z0⟩
    have hlt : o < all.length := by omega
    have hh := head_ev all hl hz o hlt
    have hw := @head_words all o hlt
    generalize headR all o = hd4 at *
    obtain ⟨K, S, N, a1⟩ := hd4
    simp only at hh hw
    have stf : ∀ k, spec_l2Parse.f (k + 1) all (o : Int) ((d + 1 : Nat) : Int) = spec_l2Parse.j0 k all (o : Int) ((d + 1 : Nat) : Int) false := fun k => by
      simp only [spec_l2Parse.f]
      rw [if_neg c, decide_eq_false (by omega)]
    have stj : ∀ k, spec_l2Parse.j0 (k + 1) all (o : Int) ((d + 1 : Nat) : Int) false = (spec_l2Head.f k all (o : Int)).bind fun t => if t.2.2.2.2 < 0 then some (t.1, t.2.1, t.2.2.1, t.2.2.2.1, -1) else (spec_l2Kids.f k t.1).bind fun n => spec_l2Parse.l0 k all ((d + 1 : Nat) : Int) t.2.2.2.2 n t.1 t.2.1 t.2.2.1 t.2.2.2.1 := fun k => by
      simp only [spec_l2Parse.j0]
      rw [if_neg (by decide)]
    by_cases ha : a1 < 0
    · refine ⟨⟨K, S, N, []⟩, -1, Ev.step stf (Ev.step stj (Ev.bind hh (Ev.pos ha (Ev.now _)))), .inl (by omega), ?_⟩
      rw [allY_is]; show 0 + kidsY [] ≤ _; rw [kidsY_nil]; omega
    obtain ⟨o1, rfl, g1, g2, g3⟩ := hw (by omega)
    have hk3 := kidsOf_le3 K
    have hkn := kidsOf_ge K
    obtain ⟨ks, a2, k1, k2, k3, k4⟩ := kids_sound all d (by omega) (parse_sound d (by omega)) K S N (kidsOf K).toNat (kidsOf K) o1 [] (by omega) (by omega) (by omega) g2 (by simp; omega)
    refine ⟨⟨K, S, N, ks⟩, a2, Ev.step stf (Ev.step stj (Ev.bind hh (Ev.neg ha (Ev.bind (l2Kids_ev K) k1)))), ?_, ?_⟩
    · rcases k4 with k4 | ⟨o', new, q1, q2, q3, q4, q5⟩
      · exact .inl k4
      refine .inr ⟨o', q1, by omega, q3, fun hf => ?_⟩
      rw [List.nil_append] at q4
      subst q4
      obtain ⟨f1, f2⟩ := fmY_parts hf
      rw [g3 ks f1, q5 f2, wdsX_is, List.map_cons, List.map_append, List.cons_append, List.append_assoc]
    · rw [allY_is]
      rw [List.length_nil] at k2
      rw [kidsY_nil] at k3
      have : (kidsOf K).toNat * pX d ≤ 3 * pX d := Nat.mul_le_mul_right _ (by omega)
      show ks.length + kidsY ks ≤ _
      omega
theorem parse_complete : ∀ y : S29, fmY y = true → Compl all y := by
  refine indI (fun y ih h d o rest hdp hd hdr => ?_)
  obtain ⟨h1, h2⟩ := fmY_parts h
  obtain ⟨a1, a7, hk, _, _, _, _⟩ := okN_cases h1
  have hk3 := kidsOf_le3 y.f0
  obtain ⟨ho, hh, hd2⟩ := head_of all y h o rest hdr
  have he := head_ev all hl hz o ho
  rw [hh] at he
  rw [deepY_is] at hdp
  obtain ⟨d, rfl⟩ : ∃ e, d = e + 1 := ⟨d - 1, by omega⟩
  have hks := kids_complete all d (by omega) y.f0 y.f1 y.f2 y.f3 (fun z hz' => ih z hz' (h2 z hz')) (by omega) (by omega) (o + 1 + (numL y).length) [] rest (by simp; omega) hd2
  refine Ev.step (fun k => by simp only [spec_l2Parse.f]; rw [if_neg (by omega), decide_eq_false (by omega)]) ?_
  refine Ev.step (fun k => by simp only [spec_l2Parse.j0]; rw [if_neg (by decide)]) ?_
  have hneg : ¬ ((y.f0, y.f1, y.f2, ([] : List S29), ((o + 1 + (numL y).length : Nat) : Int)).2.2.2.2 < 0) := by
    show ¬ (((o + 1 + (numL y).length : Nat) : Int) < 0)
    omega
  refine Ev.bind he (Ev.neg hneg (Ev.bind (l2Kids_ev y.f0) ?_))
  rw [hk]
  refine Ev.val hks ?_
  rw [List.nil_append, wdsX_is, List.length_cons, List.length_append]
  simp only [Prod.mk.injEq, true_and]
  omega
end
theorem read_same (s : ByteArray) (hs : s.size ≤ 1048576) : ∃ (x : S29) (b : Bool), Ev (fun k => spec_ExRead.f k s) (x.f0, x.f1, x.f2, x.f3, b) ∧ Ev (fun k => impl_ExRead.f k s) (x.f0, x.f1, x.f2, x.f3, b) ∧ (b = true → okX x = true ∧ textP x = s) ∧ allY x ≤ 1000 ∧ ((∃ y, okX y = true ∧ textP y = s) → b = true) := by
  have z0 : allY (⟨0, 0, 0, []⟩ : S29) ≤ 1000 := by rw [allY_is]; show 0 + kidsY [] ≤ _; rw [kidsY_nil]; omega
  unfold spec_ExRead.f impl_ExRead.f
  by_cases c300 : 300 < s.size
  · refine ⟨⟨0, 0, 0, []⟩, false, Ev.pos (by omega) (Ev.now _), Ev.pos (.inl c300) (Ev.now _), fun h => (by cases h), z0, ?_⟩
    rintro ⟨y, hy, hyt⟩
    have h1 := textP_size y (okX_fm hy).1
    have h2 := (okX_fm hy).2
    rw [hyt] at h1
    omega
  have hlen : ((cutL s.data.toList).map mkB).length ≤ 301 := by
    have := cutL_len s.data.toList
    rw [← size_data] at this
    rw [List.length_map]
    omega
  have hz : ∀ w ∈ (cutL s.data.toList).map mkB, w.size ≤ 1000000 := by
    intro w hw
    rw [← splitW_is] at hw
    have := splitW_size s w hw
    omega
  have hcut := l14Cut_ev s (by omega)
  by_cases E : ∃ y, okX y = true ∧ textP y = s
  rotate_left
  · refine ⟨⟨0, 0, 0, []⟩, false, Ev.neg (by omega) (Ev.bind hcut ?_), ?_, fun h => (by cases h), z0, fun h => absurd h E⟩
    · obtain ⟨x, a, hp, hr, hx⟩ := parse_sound ((cutL s.data.toList).map mkB) (by omega) hz 5 (by omega) 0 (Nat.zero_le _)
      have p5 : pX 5 = 363 := rfl
      refine Ev.bind hp ?_
      by_cases ha : a = (((cutL s.data.toList).map mkB).length : Int)
      · refine Ev.pos ha (Ev.bind (spec_ExOk_ev x (by omega)) (Ev.neg (fun hk => E ⟨x, hk, ?_⟩) (Ev.now _)))
        rcases hr with hr | ⟨o', e1, _, _, e2⟩
        · omega
        · have f1 := (okX_fm hk).1
          have e3 := e2 f1
          rw [List.drop_zero, List.drop_of_length_le (by omega), List.append_nil] at e3
          have e4 : cutL s.data.toList = wdsX x := by
            have := congrArg (List.map bL) e3
            rw [List.map_map, List.map_map, show bL ∘ mkB = id from rfl, List.map_id, List.map_id] at this
            exact this
          apply bL_inj
          have e5 := text_join x f1
          rw [← e4, join_cut] at e5
          exact e5
      · exact Ev.neg ha (Ev.now _)
    · by_cases c0 : s.size = 0
      · exact Ev.pos (.inr c0) (Ev.now _)
      refine Ev.neg (by omega) ?_
      have hall := exT_all s (by omega)
      refine Ev.bind (impl_ExText_ev (exT s) (by omega)) (Ev.neg (fun q => ?_) (Ev.now _))
      have q2 := ba_inj q
      unfold textO at q2
      by_cases hk : okX (exT s) = true
      · rw [if_pos hk] at q2
        exact E ⟨_, hk, q2⟩
      · rw [if_neg hk] at q2
        rw [← q2] at c0
        exact c0 rfl
  obtain ⟨y, hy, hyt⟩ := E
  obtain ⟨f1, f2⟩ := okX_fm hy
  have hdeep : deepY y ≤ 5 := by
    unfold okX at hy
    simp only [Bool.and_eq_true, decide_eq_true_eq] at hy
    exact hy.1.2
  have hall : allY y ≤ 1000 := by have := manyY_all y; omega
  have hw : (cutL s.data.toList).map mkB = (wdsX y).map mkB := by rw [← hyt, cut_text y f1]
  have hp := parse_complete ((cutL s.data.toList).map mkB) (by omega) hz y f1 5 0 [] hdeep (by omega) (by rw [hw]; simp)
  have h0 : s.size ≠ 0 := by
    intro e
    have := word_len y
    have h2 := congrArg List.length (cut_text y f1)
    have h3 := tw_text y f1
    rw [← hyt] at e
    have h4 : (txL y).length = 0 := by unfold txL bL; rw [← size_data]; exact e
    rw [List.length_eq_zero_iff] at h4
    rw [text_join y f1, wdsX_is] at h4
    simp only [joinL, List.append_eq_nil_iff] at h4
    have h5 := h4.1
    obtain ⟨g1, _⟩ := fmY_parts f1
    obtain ⟨_, _, _, hb, _, _, _⟩ := okN_cases g1
    by_cases e1 : y.f0 = 1
    · have := (hd_letter g1 e1).2
      rw [h5] at this
      cases this
    have := (hd_kind g1 e1).1
    rw [h5] at this
    have q : kdW (mkB []) = 0 := by decide +kernel
    rw [q] at this
    have := (okN_cases g1).1
    omega
  have hx : exT s = y := by rw [← hyt]; exact exT_text y f1
  refine ⟨y, true, Ev.neg (by omega) (Ev.bind hcut (Ev.bind hp ?_)), Ev.neg (by omega) ?_, fun _ => ⟨hy, hyt⟩, hall, fun _ => rfl⟩
  · refine Ev.pos ?_ (Ev.bind (spec_ExOk_ev y (by omega)) (Ev.pos hy (Ev.now _)))
    rw [hw, List.length_map]
    simp
  rw [hx]
  refine Ev.bind (impl_ExText_ev y (by omega)) (Ev.pos ?_ (Ev.now _))
  unfold textO
  rw [if_pos hy, hyt]
end Go.Proofs.YtbcdfbiggjfmlaaDoor.M
namespace Go.Proofs.YtbcdfbiggjfmlaaDoor.M
open Go.RowKit Go.Proofs.YtbcdfbiggjfmlaaDoorW.PrintWords Go.Proofs.YtbcdfbiggjfmlaaDoorW.PrintLast Go.Proofs.YtbcdfbiggjfmlaaDoorW.PrintMore
attribute [local go_sem] max2_int min2_int max_two min_two max_three min_three max_four min_four
set_option linter.unusedVariables false
set_option linter.unusedSimpArgs false

mutual
def spec_ExSame.j0 : Nat → Bool → Int → Int → Int → List (S29) → Int → Int → Int → List (S29) → Option (Bool)
 | 0, _, _, _, _, _, _, _, _, _ => none
 | k + 1, x33, x102000, x102001, x102002, x102003, x103000, x103001, x103002, x103003 => if x33 = true then (some false) else (spec_ExSame.l0 k 0 x102000 x102001 x102002 x102003 x103000 x103001 x103002 x103003)
def spec_ExSame.l0 : Nat → Int → Int → Int → Int → List (S29) → Int → Int → Int → List (S29) → Option (Bool)
 | 0, _, _, _, _, _, _, _, _, _ => none
 | k + 1, x5, x102000, x102001, x102002, x102003, x103000, x103001, x103002, x103003 => if x5 < (x102003.length : Int) then (if 0 ≤ x5 then (if x5 < (x103003.length : Int) then ((spec_ExSame.f k ((rd_T29 x102003 x5).f0) ((rd_T29 x102003 x5).f1) ((rd_T29 x102003 x5).f2) ((rd_T29 x102003 x5).f3) ((rd_T29 x103003 x5).f0) ((rd_T29 x103003 x5).f1) ((rd_T29 x103003 x5).f2) ((rd_T29 x103003 x5).f3)).bind fun t105 => (if t105 = true then (spec_ExSame.l0 k (wrap64 (x5 + 1)) x102000 x102001 x102002 x102003 x103000 x103001 x103002 x103003) else (some false))) else (none)) else (none)) else (some true)
def spec_ExSame.f : Nat → Int → Int → Int → List (S29) → Int → Int → Int → List (S29) → Option (Bool)
 | 0, _, _, _, _, _, _, _, _ => none
 | k + 1, a0_0, a0_1, a0_2, l0_3, a1_0, a1_1, a1_2, l1_3 => if a0_0 = a1_0 then (if a0_1 = a1_1 then (if a0_2 = a1_2 then (spec_ExSame.j0 k ((l0_3.length : Int) != (l1_3.length : Int)) a0_0 a0_1 a0_2 l0_3 a1_0 a1_1 a1_2 l1_3) else (spec_ExSame.j0 k true a0_0 a0_1 a0_2 l0_3 a1_0 a1_1 a1_2 l1_3)) else (spec_ExSame.j0 k true a0_0 a0_1 a0_2 l0_3 a1_0 a1_1 a1_2 l1_3)) else (spec_ExSame.j0 k true a0_0 a0_1 a0_2 l0_3 a1_0 a1_1 a1_2 l1_3)
end
end Go.Proofs.YtbcdfbiggjfmlaaDoor.M
namespace Go.Proofs.YtbcdfbiggjfmlaaDoor.M
set_option linter.unusedVariables false
set_option linter.unusedSimpArgs false
open Go.RowKit Go.Proofs.YtbcdfbiggjfmlaaDoorW.PrintWords Go.Proofs.YtbcdfbiggjfmlaaDoorW.PrintLast

def SameOk (a : S29) : Prop := ∀ b : S29, ∃ r, Ev (fun k => spec_ExSame.f k a.f0 a.f1 a.f2 a.f3 b.f0 b.f1 b.f2 b.f3) r ∧ Ev (fun k => impl_ExSame.f k a.f0 a.f1 a.f2 a.f3 b.f0 b.f1 b.f2 b.f3) r
theorem same_l0_ev (l m : List S29) (hl : l.length ≤ 1048576) (hm : l.length = m.length) (hs : ∀ x ∈ l, SameOk x) (p q r p' q' r' : Int) : ∀ (d n : Nat), n + d = l.length → ∃ v, Ev (fun k => spec_ExSame.l0 k (n : Int) p q r l p' q' r' m) v ∧ Ev (fun k => impl_Ex_34.l0 k m l (l.length : Int) (n : Int)) v := by
  intro d
  induction d with
  | zero =>
    intro n hn
    exact ⟨true, Ev.last (fun k => by simp only [spec_ExSame.l0]; rw [if_neg (by omega)]), Ev.last (fun k => by simp only [impl_Ex_34.l0]; rw [if_neg (by omega)])⟩
  | succ d ih =>
    intro n hn
    obtain ⟨v, h1, h2⟩ := hs l[n] (List.getElem_mem _) m[n]
    obtain ⟨v', h3, h4⟩ := ih (n + 1) (by omega)
    cases v with
    | true =>
      refine ⟨v', ?_, ?_⟩
      · refine Ev.step (fun k => by simp only [spec_ExSame.l0]; rw [if_pos (by omega), if_pos (by omega), if_pos (by omega), rdI l n (by omega), rdI m n (by omega), w_succ (by omega)]) ?_
        exact Ev.bind h1 (Ev.pos rfl h3)
      · refine Ev.step (fun k => by simp only [impl_Ex_34.l0]; rw [if_pos (by omega), if_pos (by omega), if_pos (by omega), if_pos (by omega), rdI l n (by omega), rdI m n (by omega), w_succ (by omega)]) ?_
        exact Ev.bind h2 (Ev.pos rfl h4)
    | false =>
      refine ⟨false, ?_, ?_⟩
      · refine Ev.step (fun k => by simp only [spec_ExSame.l0]; rw [if_pos (by omega), if_pos (by omega), if_pos (by omega), rdI l n (by omega), rdI m n (by omega), w_succ (by omega)]) ?_
        exact Ev.bind h1 (Ev.neg (by decide) (Ev.now _))
      · refine Ev.step (fun k => by simp only [impl_Ex_34.l0]; rw [if_pos (by omega), if_pos (by omega), if_pos (by omega), if_pos (by omega), rdI l n (by omega), rdI m n (by omega), w_succ (by omega)]) ?_
        exact Ev.bind h2 (Ev.neg (by decide) (Ev.now _))
theorem same_ev : ∀ a : S29, allY a ≤ 1048576 → SameOk a := by
  refine indI (fun x ih g b => ?_)
  have hk : ∀ y ∈ x.f3, SameOk y := fun y hy => ih y hy (by have := allY_mem hy; omega)
  have hl : x.f3.length ≤ 1048576 := by have := allY_len (x := x); omega
  have bad : Ev (fun k => spec_ExSame.j0 k true x.f0 x.f1 x.f2 x.f3 b.f0 b.f1 b.f2 b.f3) false := Ev.last (fun k => by simp only [spec_ExSame.j0]; rw [if_pos trivial])
  by_cases h0 : x.f0 = b.f0
  rotate_left
  · exact ⟨false, Ev.step (fun k => by simp only [spec_ExSame.f]; rw [if_neg h0]) bad, Ev.last (fun k => by simp only [impl_ExSame.f]; rw [if_neg h0])⟩
  by_cases h1 : x.f1 = b.f1
  rotate_left
  · exact ⟨false, Ev.step (fun k => by simp only [spec_ExSame.f]; rw [if_pos h0, if_neg h1]) bad, Ev.last (fun k => by simp only [impl_ExSame.f]; rw [if_pos h0, if_neg h1])⟩
  by_cases h2 : x.f2 = b.f2
  rotate_left
  · exact ⟨false, Ev.step (fun k => by simp only [spec_ExSame.f]; rw [if_pos h0, if_pos h1, if_neg h2]) bad, Ev.last (fun k => by simp only [impl_ExSame.f]; rw [if_pos h0, if_pos h1, if_neg h2])⟩
  by_cases h3 : x.f3.length = b.f3.length
  · obtain ⟨v, hv, hw⟩ := same_l0_ev x.f3 b.f3 hl h3 hk x.f0 x.f1 x.f2 b.f0 b.f1 b.f2 x.f3.length 0 (by omega)
    refine ⟨v, ?_, ?_⟩
    · have hd : ((x.f3.length : Int) != (b.f3.length : Int)) = false := by rw [h3]; simp
      refine Ev.step (fun k => by simp only [spec_ExSame.f]; rw [if_pos h0, if_pos h1, if_pos h2, hd]) ?_
      refine Ev.step (fun k => by simp only [spec_ExSame.j0]; rw [if_neg (by decide)]) ?_
      exact hv
    · refine Ev.step (fun k => by simp only [impl_ExSame.f]; rw [if_pos h0, if_pos h1, if_pos h2]) ?_
      refine Ev.bindS (Ev.step (fun k => by simp only [impl_Ex_34.f]; rw [if_pos (by omega)]; rfl) hw) rfl
  · have hd : ((x.f3.length : Int) != (b.f3.length : Int)) = true := by simp; omega
    refine ⟨false, ?_, ?_⟩
    · refine Ev.step (fun k => by simp only [spec_ExSame.f]; rw [if_pos h0, if_pos h1, if_pos h2, hd]) ?_
      exact bad
    · refine Ev.step (fun k => by simp only [impl_ExSame.f]; rw [if_pos h0, if_pos h1, if_pos h2]) ?_
      refine Ev.bindS (a := false) (Ev.last (fun k => by simp only [impl_Ex_34.f]; rw [if_neg (by omega)])) rfl
end Go.Proofs.YtbcdfbiggjfmlaaDoor.M
