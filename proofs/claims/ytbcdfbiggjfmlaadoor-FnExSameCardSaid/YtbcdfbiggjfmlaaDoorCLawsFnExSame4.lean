/- What the claim's law leans on: the program's functions, what they compute, and the law over plain values; no condition is asked. (Part 4 of 4.) -/
import Derived.Test.YtbcdfbiggjfmlaaDoorCLawsFnExSame3
import Derived.Laws.BitsAllLaws
import Derived.Laws.BitsLemmas
import Derived.Lib.ItoaNum
namespace Go.Proofs.YtbcdfbiggjfmlaaDoor.M
open Go.RowKit Go.Proofs.YtbcdfbiggjfmlaaDoorW.PrintWords Go.Proofs.YtbcdfbiggjfmlaaDoorW.PrintLast Go.Proofs.YtbcdfbiggjfmlaaDoorW.PrintMore
attribute [local go_sem] max2_int min2_int max_two min_two max_three min_three max_four min_four
set_option linter.unusedVariables false
set_option linter.unusedSimpArgs false

mutual
noncomputable def laws_FnExSame.j0 : Nat → List Int → List Int → Bool → Option (Bool)
 | 0, _, _, _ => none
 | k + 1, x0, x1, x16 => if x16 = true then (some true) else ((spec_DrawExSame.f k x0).bind fun bt101 => ((spec_DrawExMany.f k x1).bind fun bt115 => ((impl_ExSame.f k bt101.1 bt101.2.1 bt101.2.2.1 bt101.2.2.2.1 bt101.2.2.2.2.1 bt101.2.2.2.2.2.1 bt101.2.2.2.2.2.2.1 bt101.2.2.2.2.2.2.2).bind fun t122 => ((spec_ExSame.f k bt101.1 bt101.2.1 bt101.2.2.1 bt101.2.2.2.1 bt101.2.2.2.2.1 bt101.2.2.2.2.2.1 bt101.2.2.2.2.2.2.1 bt101.2.2.2.2.2.2.2).bind fun t123 => (if (t122 != t123) = true then (laws_FnExSame.j1 k true bt101.1 bt101.2.1 bt101.2.2.1 bt101.2.2.2.1 bt101.2.2.2.2.1 bt101.2.2.2.2.2.1 bt101.2.2.2.2.2.2.1 bt101.2.2.2.2.2.2.2 bt115.1 bt115.2.1 bt115.2.2.1 bt115.2.2.2) else ((impl_ExSame.f k bt101.1 bt101.2.1 bt101.2.2.1 bt101.2.2.2.1 bt115.1 bt115.2.1 bt115.2.2.1 bt115.2.2.2).bind fun t124 => ((impl_ExSame.f k bt115.1 bt115.2.1 bt115.2.2.1 bt115.2.2.2 bt101.1 bt101.2.1 bt101.2.2.1 bt101.2.2.2.1).bind fun t125 => (laws_FnExSame.j1 k (t124 != t125) bt101.1 bt101.2.1 bt101.2.2.1 bt101.2.2.2.1 bt101.2.2.2.2.1 bt101.2.2.2.2.2.1 bt101.2.2.2.2.2.2.1 bt101.2.2.2.2.2.2.2 bt115.1 bt115.2.1 bt115.2.2.1 bt115.2.2.2))))))))
noncomputable def laws_FnExSame.j1 : Nat → Bool → Int → Int → Int → List (S29) → Int → Int → Int → List (S29) → Int → Int → Int → List (S29) → Option (Bool)
 | 0, _, _, _, _, _, _, _, _, _, _, _, _, _ => none
 | k + 1, x39, x114000, x114001, x114002, x114003, x115000, x115001, x115002, x115003, x122000, x122001, x122002, x122003 => if x39 = true then (some false) else (laws_FnExSame.l0 k 0 x114000 x114001 x114002 x114003 x115000 x115001 x115002 x115003 x122000 x122001 x122002 x122003)
noncomputable def laws_FnExSame.l0 : Nat → Int → Int → Int → Int → List (S29) → Int → Int → Int → List (S29) → Int → Int → Int → List (S29) → Option (Bool)
 | 0, _, _, _, _, _, _, _, _, _, _, _, _, _ => none
 | k + 1, x8, x114000, x114001, x114002, x114003, x115000, x115001, x115002, x115003, x122000, x122001, x122002, x122003 => if x8 < (x114003.length : Int) then (if 0 ≤ x8 then ((impl_ExSame.f k x114000 x114001 x114002 x114003 ((rd_T29 x114003 x8).f0) ((rd_T29 x114003 x8).f1) ((rd_T29 x114003 x8).f2) ((rd_T29 x114003 x8).f3)).bind fun t127 => (if t127 = true then (some false) else (laws_FnExSame.l0 k (wrap64 (x8 + 1)) x114000 x114001 x114002 x114003 x115000 x115001 x115002 x115003 x122000 x122001 x122002 x122003))) else (none)) else ((spec_ExOk.f k x114000 x114001 x114002 x114003).bind fun t128 => (if t128 = true then ((spec_ExOk.f k x115000 x115001 x115002 x115003).bind fun t129 => (if t129 = true then ((spec_ExOk.f k x122000 x122001 x122002 x122003).bind fun t130 => (laws_FnExSame.j3 k (!t130) x114000 x114001 x114002 x114003 x115000 x115001 x115002 x115003 x122000 x122001 x122002 x122003)) else (laws_FnExSame.j3 k true x114000 x114001 x114002 x114003 x115000 x115001 x115002 x115003 x122000 x122001 x122002 x122003))) else (laws_FnExSame.j3 k true x114000 x114001 x114002 x114003 x115000 x115001 x115002 x115003 x122000 x122001 x122002 x122003)))
noncomputable def laws_FnExSame.j3 : Nat → Bool → Int → Int → Int → List (S29) → Int → Int → Int → List (S29) → Int → Int → Int → List (S29) → Option (Bool)
 | 0, _, _, _, _, _, _, _, _, _, _, _, _, _ => none
 | k + 1, x66, x114000, x114001, x114002, x114003, x115000, x115001, x115002, x115003, x122000, x122001, x122002, x122003 => if x66 = true then (some true) else ((impl_ExSame.f k x114000 x114001 x114002 x114003 x115000 x115001 x115002 x115003).bind fun t131 => ((impl_ExText.f k x114000 x114001 x114002 x114003).bind fun t132 => ((impl_ExText.f k x115000 x115001 x115002 x115003).bind fun t133 => (if (t131 == (t132.toList == t133.toList)) = true then ((impl_ExSame.f k x114000 x114001 x114002 x114003 x122000 x122001 x122002 x122003).bind fun t134 => ((impl_ExText.f k x114000 x114001 x114002 x114003).bind fun t135 => ((impl_ExText.f k x122000 x122001 x122002 x122003).bind fun t136 => (some (t134 == (t135.toList == t136.toList)))))) else (some false)))))
end
noncomputable def laws_FnExSame.f (k : Nat) (l0 : List Int) (l1 : List Int) : Option (Bool) := if (l0.length : Int) > 1048576 then (laws_FnExSame.j0 k l0 l1 true) else (laws_FnExSame.j0 k l0 l1 (decide ((l1.length : Int) > 1048576)))
noncomputable def laws_FnExSame.T5 : Bool × List (List Nat × List Nat) := (true, [([], []), ([], []), ([0, 1], [0, 1]), ([], []), ([], []), ([3, 4, 2], [3, 4]), ([2, 5], [2, 5]), ([6, 5], [6]), ([7], [7]), ([7], [7]), ([8, 9, 7, 7], [7, 8, 9]), ([7], [7]), ([7], [7]), ([11, 12, 10, 7], [7, 11, 12]), ([10, 13, 7], [7, 10, 13]), ([7, 14], [7, 14])])
noncomputable def laws_FnExSame.B5 : List Nat := [0, 0, 3, 0, 0, 31, 63, 127, 255, 255, 1023, 255, 255, 8191, 16383, 32767]
theorem laws_FnExSame.tab5 : rtab .any (opsOf Tryd.f4 5) = laws_FnExSame.T5 := by kernel_rfl
theorem laws_FnExSame.bits5 : waitsOk laws_FnExSame.T5.2 laws_FnExSame.B5 = true := by kernel_rfl
noncomputable def laws_FnExSame.T14 : Bool × List (List Nat × List Nat) := (true, [([], []), ([], []), ([0, 1], [0, 1]), ([], []), ([3, 2], [3]), ([], []), ([5, 4], [5]), ([4, 6], [4, 6]), ([2, 7], [2, 7]), ([8, 6], [8]), ([9], [9]), ([9], [9]), ([10, 11, 9, 9], [9, 10, 11]), ([9], [9]), ([13, 12, 9], [9, 13]), ([9], [9]), ([15, 14, 9], [9, 15]), ([14, 16, 9], [9, 14, 16]), ([12, 17, 9], [9, 12, 17]), ([9, 18], [9, 18]), ([19, 16, 0, 1, 2, 3, 4, 5, 6, 7, 8, 9, 10, 11, 12, 13, 14, 15, 16, 17, 18, 19], [19])])
noncomputable def laws_FnExSame.B14 : List Nat := [0, 0, 3, 0, 15, 0, 63, 127, 255, 511, 1023, 1023, 4095, 1023, 16383, 1023, 65535, 131071, 262143, 524287, 1048575]
theorem laws_FnExSame.tab14 : rtab .any (opsOf Tryd.f4 14) = laws_FnExSame.T14 := by kernel_rfl
theorem laws_FnExSame.bits14 : waitsOk laws_FnExSame.T14.2 laws_FnExSame.B14 = true := by kernel_rfl
set_option maxHeartbeats 8000000 in
set_option maxRecDepth 100000 in
theorem laws_FnExSame.calls (k : Nat) (A0 : Option Addr) (c0 : Nat) (l0 : List Int) (A1 : Option Addr) (c1 : Nat) (l1 : List Int) (r : Bool) (hT_ : Aside0 (r = true)) (w : World) (hr0 : Kd.C (Kd.int .u8) w A0 l0.length l0) (hc0 : l0.length ≤ c0) (hr1 : Kd.C (Kd.int .u8) w A1 l1.length l1) (hc1 : l1.length ≤ c1) (h : laws_FnExSame.f k l0 l1 = some r) (ht_TabX : TabX w) :
  Calls Tryd.prog 4 #[.slice A0 l0.length c0, .slice A1 l1.length c1] w fun e w' => e = .returned (.bool r) ∧ Below w.heap.size w w' := by
 have HTX_TabX := m0_ ht_TabX
 clear ht_TabX
 have hu29 := Tryd.underlying29
 have HR0 := m0_ hr0
 have HC0 := m0_ hc0
 clear hr0 hc0
 have HR1 := m0_ hr1
 have HC1 := m0_ hc1
 clear hr1 hc1
 have HB := m0_ (Below.refl w.heap.size w)
 have H : (if (l0.length : Int) > 1048576 then (laws_FnExSame.j0 k l0 l1 true) else (laws_FnExSame.j0 k l0 l1 (decide ((l1.length : Int) > 1048576)))) = some r := h
 clear h
 have HC3 := m0_ H
 clear H
 go_enter Tryd.func4, Tryd.ntmps4
 go_upto_region 1 with (fail)
 go_cut [16] (fun v16 wc => ∃ (kq : Nat) (x16_2 : Bool), v16 = .bool x16_2 ∧ Aside0 (laws_FnExSame.j0 kq l0 l1 x16_2 = some r) ∧ Aside0 (kq ≤ k) ∧ Aside0 (Below w.heap.size w wc))
 case first =>
  have H := HC3.out
  clear HC3
  by_cases c4 : (l0.length : Int) > 1048576
  ·rw [if_pos c4] at H
   have c4b0 : decide (1048576 < (l0.length : Int)) = true := decide_eq_true c4
   have c4b1 : decide (1048576 < l0.length) = true := decide_eq_true (by omega)
   clear c4
   (first | rw [c4b0] | (simp only [i64_w, i32_w];rw [c4b0]) | skip)
   have H' := m0_ H
   clear H
   go_wp2
   go_meet
   case rel => exact ⟨_, (true), (by first | rfl | (simp;done) | (simp [*];done)), H', ⟨by first | omega | exact Nat.le_refl _⟩, ⟨by repeat (first | (with_reducible first | exact HB.out | apply below_alloc | apply pw_below_drewN | apply below_drew1) | exact HB.out)⟩⟩
  ·rw [if_neg c4] at H
   have c4b0 : decide (1048576 < (l0.length : Int)) = false := decide_eq_false c4
   have c4b1 : decide (1048576 < l0.length) = false := decide_eq_false (by omega)
   clear c4
   (first | rw [c4b0] | (simp only [i64_w, i32_w];rw [c4b0]) | skip)
   have H' := m0_ H
   clear H
   go_wp2
   go_meet
   case rel => exact ⟨_, (decide ((l1.length : Int) > 1048576)), (by first | rfl | (simp;done) | (simp [*];done)), H', ⟨by first | omega | exact Nat.le_refl _⟩, ⟨by repeat (first | (with_reducible first | exact HB.out | apply below_alloc | apply pw_below_drewN | apply below_drew1) | exact HB.out)⟩⟩
 case rest =>
  clear HC3
  try clear c1
  try clear p2
  try clear c4
  try clear c4b0
  try clear c4b1
  obtain ⟨kq, x16_2, rfl, HA, HJ2, HB⟩ := hcut
  cases kq with
  | zero => exact absurd HA.out (by simp [laws_FnExSame.j0])
  | succ kj2 =>
   have H := HA.out
   clear HA
   simp only [laws_FnExSame.j0] at H
   by_cases c5 : x16_2 = true
   ·subst c5
    have H1 : (some true) = some r := by rw [if_pos rfl] at H;exact H
    clear H
    have H := H1
    clear H1
    obtain rfl := Option.some.inj H
    go_wp2
    go_ret
    exact ⟨by first | rfl | (simp [errW_none, errW_some] <;> rfl) | (simp [*, errW_none, errW_some] <;> rfl), by repeat (first | (with_reducible first | exact HB.out | apply below_alloc | apply pw_below_drewN | apply below_drew1) | exact HB.out)⟩
   replace c5 := Bool.eq_false_iff.mpr c5
   subst c5
   have H1 : ((spec_DrawExSame.f kj2 l0).bind fun bt101 => ((spec_DrawExMany.f kj2 l1).bind fun bt115 => ((impl_ExSame.f kj2 bt101.1 bt101.2.1 bt101.2.2.1 bt101.2.2.2.1 bt101.2.2.2.2.1 bt101.2.2.2.2.2.1 bt101.2.2.2.2.2.2.1 bt101.2.2.2.2.2.2.2).bind fun t122 => ((spec_ExSame.f kj2 bt101.1 bt101.2.1 bt101.2.2.1 bt101.2.2.2.1 bt101.2.2.2.2.1 bt101.2.2.2.2.2.1 bt101.2.2.2.2.2.2.1 bt101.2.2.2.2.2.2.2).bind fun t123 => (if (t122 != t123) = true then (laws_FnExSame.j1 kj2 true bt101.1 bt101.2.1 bt101.2.2.1 bt101.2.2.2.1 bt101.2.2.2.2.1 bt101.2.2.2.2.2.1 bt101.2.2.2.2.2.2.1 bt101.2.2.2.2.2.2.2 bt115.1 bt115.2.1 bt115.2.2.1 bt115.2.2.2) else ((impl_ExSame.f kj2 bt101.1 bt101.2.1 bt101.2.2.1 bt101.2.2.2.1 bt115.1 bt115.2.1 bt115.2.2.1 bt115.2.2.2).bind fun t124 => ((impl_ExSame.f kj2 bt115.1 bt115.2.1 bt115.2.2.1 bt115.2.2.2 bt101.1 bt101.2.1 bt101.2.2.1 bt101.2.2.2.1).bind fun t125 => (laws_FnExSame.j1 kj2 (t124 != t125) bt101.1 bt101.2.1 bt101.2.2.1 bt101.2.2.2.1 bt101.2.2.2.2.1 bt101.2.2.2.2.2.1 bt101.2.2.2.2.2.2.1 bt101.2.2.2.2.2.2.2 bt115.1 bt115.2.1 bt115.2.2.1 bt115.2.2.2)))))))) = some r := by rw [if_neg (show ¬ (false = true) by decide)] at H;exact H
   clear H
   have H := H1
   clear H1
   replace H := Option.bind_eq_some_iff.mp H
   obtain ⟨⟨t101, t102, t103, t104, t107, t108, t109, t110⟩, A60, H⟩ := H
   replace H : ((spec_DrawExMany.f kj2 l1).bind fun bt115 => ((impl_ExSame.f kj2 t101 t102 t103 t104 t107 t108 t109 t110).bind fun t122 => ((spec_ExSame.f kj2 t101 t102 t103 t104 t107 t108 t109 t110).bind fun t123 => (if (t122 != t123) = true then (laws_FnExSame.j1 kj2 true t101 t102 t103 t104 t107 t108 t109 t110 bt115.1 bt115.2.1 bt115.2.2.1 bt115.2.2.2) else ((impl_ExSame.f kj2 t101 t102 t103 t104 bt115.1 bt115.2.1 bt115.2.2.1 bt115.2.2.2).bind fun t124 => ((impl_ExSame.f kj2 bt115.1 bt115.2.1 bt115.2.2.1 bt115.2.2.2 t101 t102 t103 t104).bind fun t125 => (laws_FnExSame.j1 kj2 (t124 != t125) t101 t102 t103 t104 t107 t108 t109 t110 bt115.1 bt115.2.1 bt115.2.2.1 bt115.2.2.2))))))) = some r := H
   have A6 := m0_ A60
   clear A60
   replace H := Option.bind_eq_some_iff.mp H
   obtain ⟨⟨t115, t116, t117, t118⟩, A70, H⟩ := H
   replace H : ((impl_ExSame.f kj2 t101 t102 t103 t104 t107 t108 t109 t110).bind fun t122 => ((spec_ExSame.f kj2 t101 t102 t103 t104 t107 t108 t109 t110).bind fun t123 => (if (t122 != t123) = true then (laws_FnExSame.j1 kj2 true t101 t102 t103 t104 t107 t108 t109 t110 t115 t116 t117 t118) else ((impl_ExSame.f kj2 t101 t102 t103 t104 t115 t116 t117 t118).bind fun t124 => ((impl_ExSame.f kj2 t115 t116 t117 t118 t101 t102 t103 t104).bind fun t125 => (laws_FnExSame.j1 kj2 (t124 != t125) t101 t102 t103 t104 t107 t108 t109 t110 t115 t116 t117 t118)))))) = some r := H
   have A7 := m0_ A70
   clear A70
   have HC8 := m0_ H
   clear H
   go_upto_region 5 with (first | ((with_reducible refine gate_callee (f := 13) rfl ?_);refine goesL_ (some 19) rfl rfl Tryd.func13 (by kernel_rfl) rfl #[.slice A0 l0.length c0] rfl (by (try simp only [List.map_toArray, List.map_cons, List.map_nil]);first | done | rfl | (simp only [List.length_drop, List.length_take];rfl)) ?_;(with_reducible refine (spec_DrawExSame.calls kj2 _ _ l0 t101 t102 t103 t104 t107 t108 t109 t110 _ ?side1 ?side2 A6.out).mono ?_);(case side1 => repeat (first | exact (Kd.C_below HR0.out HB.out) | (with_reducible refine Kd.C_alloc ?_ _) | (with_reducible refine Kd.C_drewN ?_ _) | (with_reducible refine Kd.C_drew ?_)));(case side2 => exact HC0.out);rintro e w9 ⟨v105, v111, rfl, ho0, ho1, hb⟩;refine ⟨_, rfl, ?_⟩;have HO106 := m0_ (Kd.N_lower (Kd.N_mono (ok' := fun k_ => some k_ ≠ (v111 : Value).ownBlock) ho0 (fun k_ hk_ => hk_.2)) (below_size (by repeat (first | (with_reducible first | exact HB.out | apply below_alloc | apply pw_below_drewN | apply below_drew1) | exact HB.out))));have HO112 := m0_ (Kd.N_lower (Kd.N_mono (ok' := fun k_ => some k_ ≠ (v105 : Value).ownBlock) ho1 (fun k_ hk_ => hk_.2)) (below_size (by repeat (first | (with_reducible first | exact HB.out | apply below_alloc | apply pw_below_drewN | apply below_drew1) | exact HB.out))));replace HB := m0_ (below_step (by repeat (first | (with_reducible first | exact HB.out | apply below_alloc | apply pw_below_drewN | apply below_drew1) | exact HB.out)) hb);(try clear hb);(try clear hb2);(try clear hk);(try clear hi);(try clear ho0);(try clear ho1)) | ((with_reducible refine gate_dst (N := 5) rfl ?_);(try (refine gate_guard (by rfl) ?_;dsimp only));refine box_event ?hg (N := 5) ?hd (cs := #[.int .i64 0, .int .i64 0, .int .i64 0, .slice none 0 0]) (t := 29) ?hr ?_;(case hd => rfl);(case hg => rfl);(case hr => first | (go_simp;done) | (go_simp;rfl));intro gb113 hg w10 hbox hb;replace HO106 := m0_ (Kd.N_below (Kd.N_elderB (by exact HO106.out) gb113 (Nat.le_of_eq hg.symm)) hb);replace HO112 := m0_ (Kd.N_below (Kd.N_elderB (by exact HO112.out) gb113 (Nat.le_of_eq hg.symm)) hb);have BK113 := m0_ (hbox);have GW113 := m0_ ((by rw [hg];exact (below_size (by repeat (first | (with_reducible first | exact HB.out | apply below_alloc | apply pw_below_drewN | apply below_drew1) | exact HB.out))) : w.heap.size ≤ gb113));have GE113 := m0_ ((by rw [hg];exact (below_size (by repeat (first | (with_reducible first | exact HB.out | apply below_alloc | apply pw_below_drewN | apply below_drew1) | exact HB.out))) : w.heap.size ≤ gb113));replace HB := m0_ (below_step (by repeat (first | (with_reducible first | exact HB.out | apply below_alloc | apply pw_below_drewN | apply below_drew1) | exact HB.out)) hb);clear hb hbox hg) | ((with_reducible refine gate_dst (N := 6) rfl ?_);(try (refine gate_guard (by rfl) ?_;dsimp only));refine box_event ?hg (N := 6) ?hd (cs := #[.int .i64 0, .int .i64 0, .int .i64 0, .slice none 0 0]) (t := 29) ?hr ?_;(case hd => rfl);(case hg => rfl);(case hr => first | (go_simp;done) | (go_simp;rfl));intro gb114 hg w11 hbox hb;replace HO106 := m0_ (Kd.N_below (Kd.N_elderB (by exact HO106.out) gb114 (Nat.le_of_eq hg.symm)) hb);replace HO112 := m0_ (Kd.N_below (Kd.N_elderB (by exact HO112.out) gb114 (Nat.le_of_eq hg.symm)) hb);have BK114 := m0_ (hbox);have GW114 := m0_ ((by rw [hg];exact (below_size (by repeat (first | (with_reducible first | exact HB.out | apply below_alloc | apply pw_below_drewN | apply below_drew1 | refine below_set ?_ GE113.out) | exact HB.out))) : w.heap.size ≤ gb114));have GE114 := m0_ ((by rw [hg];exact (below_size (by repeat (first | (with_reducible first | exact HB.out | apply below_alloc | apply pw_below_drewN | apply below_drew1 | refine below_set ?_ GE113.out) | exact HB.out))) : w.heap.size ≤ gb114));replace HB := m0_ (below_step (by repeat (first | (with_reducible first | exact HB.out | apply below_alloc | apply pw_below_drewN | apply below_drew1 | refine below_set ?_ GE113.out) | exact HB.out)) hb);have NB113_114 := m0_ ((by rw [hg];exact Nat.ne_of_lt (blk_lt BK113.out) : gb113 ≠ gb114));have NB114_113 := m0_ ((by rw [hg];exact Nat.ne_of_gt (blk_lt BK113.out) : gb114 ≠ gb113));replace BK113 := m0_ (blk_below BK113.out hb);clear hb hbox hg;have hnb12 := NB113_114.out;have hnc12 := NB114_113.out;obtain ⟨hcz13_0, hcz13_1, hcz13_2, hcz13_3, hfz13_0, hfz13_1, hfz13_2, hfz13_3⟩ := bx4 BK113.out;obtain ⟨Ao14, co14, eo14⟩ := Kd.N_slice HO106.out;subst eo14;obtain ⟨hcz15_0, hcz15_1, hcz15_2, hcz15_3, hfz15_0, hfz15_1, hfz15_2, hfz15_3⟩ := bx4 BK114.out;obtain ⟨Ao16, co16, eo16⟩ := Kd.N_slice HO112.out;subst eo16) | ((with_reducible refine gate_callee (f := 14) rfl ?_);refine goesL_ (some 23) rfl rfl Tryd.func14 (by kernel_rfl) rfl #[.slice A1 l1.length c1] rfl (by (try simp only [List.map_toArray, List.map_cons, List.map_nil]);first | done | rfl | (simp only [List.length_drop, List.length_take];rfl)) ?_;(with_reducible refine (spec_DrawExMany.calls kj2 _ _ l1 t115 t116 t117 t118 _ ?side1 ?side2 A7.out).mono ?_);(case side1 => exact Kd.C_below HR1.out (by repeat (first | (with_reducible first | exact HB.out | apply below_alloc | apply pw_below_drewN | apply below_drew1 | refine below_set ?_ GE113.out | refine below_set ?_ GE114.out) | exact HB.out)));(case side2 => exact HC1.out);rintro e w17 ⟨v119, rfl, ho0, hb⟩;refine ⟨_, rfl, ?_⟩;have HO120 := m0_ (Kd.N_lower (Kd.N_mono (ok' := fun k_ => some k_ ≠ (.slice Ao14 t104.length co14 : Value).ownBlock ∧ some k_ ≠ (.slice Ao16 t110.length co16 : Value).ownBlock ∧ k_ ≠ gb113 ∧ k_ ≠ gb114) ho0 (fun k_ hk_ => ⟨(Kd.fresh' (Kd.N_lt (by (with_reducible repeat (first | apply Kd.N_alloc | apply Kd.N_drewN | apply Kd.N_drew));exact (Kd.N_mono (Kd.N_mono (Kd.N_far (p := ⟨gb114, 3, none⟩) (Kd.N_far (p := ⟨gb114, 2, none⟩) (Kd.N_far (p := ⟨gb114, 1, none⟩) (Kd.N_far (p := ⟨gb114, 0, none⟩) (Kd.N_far (p := ⟨gb113, 3, none⟩) (Kd.N_far (p := ⟨gb113, 2, none⟩) (Kd.N_far (p := ⟨gb113, 1, none⟩) (Kd.N_far (p := ⟨gb113, 0, none⟩) (Kd.N_mono (Kd.N_mono HO106.out (fun k_ hk => (⟨hk, hk.1.2⟩ : _ ∧ k_ ≠ gb113))) (fun k_ hk => (⟨hk, hk.1.2⟩ : _ ∧ k_ ≠ gb114))) (fun _ hk => hk.1.2) (.int .i64 t101)) (fun _ hk => hk.1.2) (.int .i64 t102)) (fun _ hk => hk.1.2) (.int .i64 t103)) (fun _ hk => hk.1.2) (.slice Ao14 t104.length co14)) (fun _ hk => hk.2) (.int .i64 t107)) (fun _ hk => hk.2) (.int .i64 t108)) (fun _ hk => hk.2) (.int .i64 t109)) (fun _ hk => hk.2) (.slice Ao16 t110.length co16)) (fun _ h_ => h_.1)) (fun _ h_ => h_.1)))) k_ hk_), (Kd.fresh' (Kd.N_lt (by (with_reducible repeat (first | apply Kd.N_alloc | apply Kd.N_drewN | apply Kd.N_drew));exact (Kd.N_mono (Kd.N_mono (Kd.N_far (p := ⟨gb114, 3, none⟩) (Kd.N_far (p := ⟨gb114, 2, none⟩) (Kd.N_far (p := ⟨gb114, 1, none⟩) (Kd.N_far (p := ⟨gb114, 0, none⟩) (Kd.N_far (p := ⟨gb113, 3, none⟩) (Kd.N_far (p := ⟨gb113, 2, none⟩) (Kd.N_far (p := ⟨gb113, 1, none⟩) (Kd.N_far (p := ⟨gb113, 0, none⟩) (Kd.N_mono (Kd.N_mono HO112.out (fun k_ hk => (⟨hk, hk.1.2⟩ : _ ∧ k_ ≠ gb113))) (fun k_ hk => (⟨hk, hk.1.2⟩ : _ ∧ k_ ≠ gb114))) (fun _ hk => hk.1.2) (.int .i64 t101)) (fun _ hk => hk.1.2) (.int .i64 t102)) (fun _ hk => hk.1.2) (.int .i64 t103)) (fun _ hk => hk.1.2) (.slice Ao14 t104.length co14)) (fun _ hk => hk.2) (.int .i64 t107)) (fun _ hk => hk.2) (.int .i64 t108)) (fun _ hk => hk.2) (.int .i64 t109)) (fun _ hk => hk.2) (.slice Ao16 t110.length co16)) (fun _ h_ => h_.1)) (fun _ h_ => h_.1)))) k_ hk_), (Kd.freshB (g := gb113) (o := .cells #[.int .i64 t101, .int .i64 t102, .int .i64 t103, .slice Ao14 t104.length co14] 29 (0, 0)) (by (with_reducible repeat (first | refine blk_drewN ?_ _ | refine blk_drew ?_ | refine blk_alloc ?_ _));refine blk_far ?_ NB113_114.out _;(with_reducible repeat (first | refine blk_drewN ?_ _ | refine blk_drew ?_ | refine blk_alloc ?_ _));refine blk_far ?_ NB113_114.out _;(with_reducible repeat (first | refine blk_drewN ?_ _ | refine blk_drew ?_ | refine blk_alloc ?_ _));refine blk_far ?_ NB113_114.out _;(with_reducible repeat (first | refine blk_drewN ?_ _ | refine blk_drew ?_ | refine blk_alloc ?_ _));refine blk_far ?_ NB113_114.out _;(with_reducible repeat (first | refine blk_drewN ?_ _ | refine blk_drew ?_ | refine blk_alloc ?_ _));refine blk_put (cs := #[.int .i64 t101, .int .i64 t102, .int .i64 t103, .slice none 0 0]) ?_ 3 _ rfl;(with_reducible repeat (first | refine blk_drewN ?_ _ | refine blk_drew ?_ | refine blk_alloc ?_ _));refine blk_put (cs := #[.int .i64 t101, .int .i64 t102, .int .i64 0, .slice none 0 0]) ?_ 2 _ rfl;(with_reducible repeat (first | refine blk_drewN ?_ _ | refine blk_drew ?_ | refine blk_alloc ?_ _));refine blk_put (cs := #[.int .i64 t101, .int .i64 0, .int .i64 0, .slice none 0 0]) ?_ 1 _ rfl;(with_reducible repeat (first | refine blk_drewN ?_ _ | refine blk_drew ?_ | refine blk_alloc ?_ _));refine blk_put (cs := #[.int .i64 0, .int .i64 0, .int .i64 0, .slice none 0 0]) ?_ 0 _ rfl;(with_reducible repeat (first | refine blk_drewN ?_ _ | refine blk_drew ?_ | refine blk_alloc ?_ _));exact BK113.out) k_ hk_), (Kd.freshB (g := gb114) (o := .cells #[.int .i64 t107, .int .i64 t108, .int .i64 t109, .slice Ao16 t110.length co16] 29 (0, 0)) (by (with_reducible repeat (first | refine blk_drewN ?_ _ | refine blk_drew ?_ | refine blk_alloc ?_ _));refine blk_put (cs := #[.int .i64 t107, .int .i64 t108, .int .i64 t109, .slice none 0 0]) ?_ 3 _ rfl;(with_reducible repeat (first | refine blk_drewN ?_ _ | refine blk_drew ?_ | refine blk_alloc ?_ _));refine blk_put (cs := #[.int .i64 t107, .int .i64 t108, .int .i64 0, .slice none 0 0]) ?_ 2 _ rfl;(with_reducible repeat (first | refine blk_drewN ?_ _ | refine blk_drew ?_ | refine blk_alloc ?_ _));refine blk_put (cs := #[.int .i64 t107, .int .i64 0, .int .i64 0, .slice none 0 0]) ?_ 1 _ rfl;(with_reducible repeat (first | refine blk_drewN ?_ _ | refine blk_drew ?_ | refine blk_alloc ?_ _));refine blk_put (cs := #[.int .i64 0, .int .i64 0, .int .i64 0, .slice none 0 0]) ?_ 0 _ rfl;(with_reducible repeat (first | refine blk_drewN ?_ _ | refine blk_drew ?_ | refine blk_alloc ?_ _));refine blk_far ?_ NB114_113.out _;(with_reducible repeat (first | refine blk_drewN ?_ _ | refine blk_drew ?_ | refine blk_alloc ?_ _));refine blk_far ?_ NB114_113.out _;(with_reducible repeat (first | refine blk_drewN ?_ _ | refine blk_drew ?_ | refine blk_alloc ?_ _));refine blk_far ?_ NB114_113.out _;(with_reducible repeat (first | refine blk_drewN ?_ _ | refine blk_drew ?_ | refine blk_alloc ?_ _));refine blk_far ?_ NB114_113.out _;(with_reducible repeat (first | refine blk_drewN ?_ _ | refine blk_drew ?_ | refine blk_alloc ?_ _));exact BK114.out) k_ hk_)⟩)) (below_size (by repeat (first | (with_reducible first | exact HB.out | apply below_alloc | apply pw_below_drewN | apply below_drew1 | refine below_set ?_ GE113.out | refine below_set ?_ GE114.out) | exact HB.out))));replace HO106 := m0_ (Kd.N_elder' (by (with_reducible repeat (first | apply Kd.N_alloc | apply Kd.N_drewN | apply Kd.N_drew));exact (Kd.N_mono (Kd.N_mono (Kd.N_far (p := ⟨gb114, 3, none⟩) (Kd.N_far (p := ⟨gb114, 2, none⟩) (Kd.N_far (p := ⟨gb114, 1, none⟩) (Kd.N_far (p := ⟨gb114, 0, none⟩) (Kd.N_far (p := ⟨gb113, 3, none⟩) (Kd.N_far (p := ⟨gb113, 2, none⟩) (Kd.N_far (p := ⟨gb113, 1, none⟩) (Kd.N_far (p := ⟨gb113, 0, none⟩) (Kd.N_mono (Kd.N_mono HO106.out (fun k_ hk => (⟨hk, hk.1.2⟩ : _ ∧ k_ ≠ gb113))) (fun k_ hk => (⟨hk, hk.1.2⟩ : _ ∧ k_ ≠ gb114))) (fun _ hk => hk.1.2) (.int .i64 t101)) (fun _ hk => hk.1.2) (.int .i64 t102)) (fun _ hk => hk.1.2) (.int .i64 t103)) (fun _ hk => hk.1.2) (.slice Ao14 t104.length co14)) (fun _ hk => hk.2) (.int .i64 t107)) (fun _ hk => hk.2) (.int .i64 t108)) (fun _ hk => hk.2) (.int .i64 t109)) (fun _ hk => hk.2) (.slice Ao16 t110.length co16)) (fun _ h_ => h_.1)) (fun _ h_ => h_.1))) (by first | exact Kd.N_base ho0 | exact Kd.S_base ho0 | exact Kd.R_base ho0) hb);replace HO112 := m0_ (Kd.N_elder' (by (with_reducible repeat (first | apply Kd.N_alloc | apply Kd.N_drewN | apply Kd.N_drew));exact (Kd.N_mono (Kd.N_mono (Kd.N_far (p := ⟨gb114, 3, none⟩) (Kd.N_far (p := ⟨gb114, 2, none⟩) (Kd.N_far (p := ⟨gb114, 1, none⟩) (Kd.N_far (p := ⟨gb114, 0, none⟩) (Kd.N_far (p := ⟨gb113, 3, none⟩) (Kd.N_far (p := ⟨gb113, 2, none⟩) (Kd.N_far (p := ⟨gb113, 1, none⟩) (Kd.N_far (p := ⟨gb113, 0, none⟩) (Kd.N_mono (Kd.N_mono HO112.out (fun k_ hk => (⟨hk, hk.1.2⟩ : _ ∧ k_ ≠ gb113))) (fun k_ hk => (⟨hk, hk.1.2⟩ : _ ∧ k_ ≠ gb114))) (fun _ hk => hk.1.2) (.int .i64 t101)) (fun _ hk => hk.1.2) (.int .i64 t102)) (fun _ hk => hk.1.2) (.int .i64 t103)) (fun _ hk => hk.1.2) (.slice Ao14 t104.length co14)) (fun _ hk => hk.2) (.int .i64 t107)) (fun _ hk => hk.2) (.int .i64 t108)) (fun _ hk => hk.2) (.int .i64 t109)) (fun _ hk => hk.2) (.slice Ao16 t110.length co16)) (fun _ h_ => h_.1)) (fun _ h_ => h_.1))) (by first | exact Kd.N_base ho0 | exact Kd.S_base ho0 | exact Kd.R_base ho0) hb);replace BK113 := m0_ (blk_below (g := gb113) (o := .cells #[.int .i64 t101, .int .i64 t102, .int .i64 t103, .slice Ao14 t104.length co14] 29 (0, 0)) (by (with_reducible repeat (first | refine blk_drewN ?_ _ | refine blk_drew ?_ | refine blk_alloc ?_ _));refine blk_far ?_ NB113_114.out _;(with_reducible repeat (first | refine blk_drewN ?_ _ | refine blk_drew ?_ | refine blk_alloc ?_ _));refine blk_far ?_ NB113_114.out _;(with_reducible repeat (first | refine blk_drewN ?_ _ | refine blk_drew ?_ | refine blk_alloc ?_ _));refine blk_far ?_ NB113_114.out _;(with_reducible repeat (first | refine blk_drewN ?_ _ | refine blk_drew ?_ | refine blk_alloc ?_ _));refine blk_far ?_ NB113_114.out _;(with_reducible repeat (first | refine blk_drewN ?_ _ | refine blk_drew ?_ | refine blk_alloc ?_ _));refine blk_put (cs := #[.int .i64 t101, .int .i64 t102, .int .i64 t103, .slice none 0 0]) ?_ 3 _ rfl;(with_reducible repeat (first | refine blk_drewN ?_ _ | refine blk_drew ?_ | refine blk_alloc ?_ _));refine blk_put (cs := #[.int .i64 t101, .int .i64 t102, .int .i64 0, .slice none 0 0]) ?_ 2 _ rfl;(with_reducible repeat (first | refine blk_drewN ?_ _ | refine blk_drew ?_ | refine blk_alloc ?_ _));refine blk_put (cs := #[.int .i64 t101, .int .i64 0, .int .i64 0, .slice none 0 0]) ?_ 1 _ rfl;(with_reducible repeat (first | refine blk_drewN ?_ _ | refine blk_drew ?_ | refine blk_alloc ?_ _));refine blk_put (cs := #[.int .i64 0, .int .i64 0, .int .i64 0, .slice none 0 0]) ?_ 0 _ rfl;(with_reducible repeat (first | refine blk_drewN ?_ _ | refine blk_drew ?_ | refine blk_alloc ?_ _));exact BK113.out) hb);replace BK114 := m0_ (blk_below (g := gb114) (o := .cells #[.int .i64 t107, .int .i64 t108, .int .i64 t109, .slice Ao16 t110.length co16] 29 (0, 0)) (by (with_reducible repeat (first | refine blk_drewN ?_ _ | refine blk_drew ?_ | refine blk_alloc ?_ _));refine blk_put (cs := #[.int .i64 t107, .int .i64 t108, .int .i64 t109, .slice none 0 0]) ?_ 3 _ rfl;(with_reducible repeat (first | refine blk_drewN ?_ _ | refine blk_drew ?_ | refine blk_alloc ?_ _));refine blk_put (cs := #[.int .i64 t107, .int .i64 t108, .int .i64 0, .slice none 0 0]) ?_ 2 _ rfl;(with_reducible repeat (first | refine blk_drewN ?_ _ | refine blk_drew ?_ | refine blk_alloc ?_ _));refine blk_put (cs := #[.int .i64 t107, .int .i64 0, .int .i64 0, .slice none 0 0]) ?_ 1 _ rfl;(with_reducible repeat (first | refine blk_drewN ?_ _ | refine blk_drew ?_ | refine blk_alloc ?_ _));refine blk_put (cs := #[.int .i64 0, .int .i64 0, .int .i64 0, .slice none 0 0]) ?_ 0 _ rfl;(with_reducible repeat (first | refine blk_drewN ?_ _ | refine blk_drew ?_ | refine blk_alloc ?_ _));refine blk_far ?_ NB114_113.out _;(with_reducible repeat (first | refine blk_drewN ?_ _ | refine blk_drew ?_ | refine blk_alloc ?_ _));refine blk_far ?_ NB114_113.out _;(with_reducible repeat (first | refine blk_drewN ?_ _ | refine blk_drew ?_ | refine blk_alloc ?_ _));refine blk_far ?_ NB114_113.out _;(with_reducible repeat (first | refine blk_drewN ?_ _ | refine blk_drew ?_ | refine blk_alloc ?_ _));refine blk_far ?_ NB114_113.out _;(with_reducible repeat (first | refine blk_drewN ?_ _ | refine blk_drew ?_ | refine blk_alloc ?_ _));exact BK114.out) hb);replace HB := m0_ (below_step (by repeat (first | (with_reducible first | exact HB.out | apply below_alloc | apply pw_below_drewN | apply below_drew1 | refine below_set ?_ GE113.out | refine below_set ?_ GE114.out) | exact HB.out)) hb);(try clear hb);(try clear hb2);(try clear hk);(try clear hi);(try clear ho0)) | ((with_reducible refine gate_dst (N := 7) rfl ?_);(try (refine gate_guard (by rfl) ?_;dsimp only));refine box_event ?hg (N := 7) ?hd (cs := #[.int .i64 0, .int .i64 0, .int .i64 0, .slice none 0 0]) (t := 29) ?hr ?_;(case hd => rfl);(case hg => rfl);(case hr => first | (go_simp;done) | (go_simp;rfl));intro gb121 hg w18 hbox hb;replace HO106 := m0_ (Kd.N_below (Kd.N_elderB (by exact HO106.out) gb121 (Nat.le_of_eq hg.symm)) hb);replace HO112 := m0_ (Kd.N_below (Kd.N_elderB (by exact HO112.out) gb121 (Nat.le_of_eq hg.symm)) hb);replace HO120 := m0_ (Kd.N_below (Kd.N_elderB (by exact HO120.out) gb121 (Nat.le_of_eq hg.symm)) hb);have BK121 := m0_ (hbox);have GW121 := m0_ ((by rw [hg];exact (below_size (by repeat (first | (with_reducible first | exact HB.out | apply below_alloc | apply pw_below_drewN | apply below_drew1 | refine below_set ?_ GE113.out | refine below_set ?_ GE114.out) | exact HB.out))) : w.heap.size ≤ gb121));have GE121 := m0_ ((by rw [hg];exact (below_size (by repeat (first | (with_reducible first | exact HB.out | apply below_alloc | apply pw_below_drewN | apply below_drew1 | refine below_set ?_ GE113.out | refine below_set ?_ GE114.out) | exact HB.out))) : w.heap.size ≤ gb121));replace HB := m0_ (below_step (by repeat (first | (with_reducible first | exact HB.out | apply below_alloc | apply pw_below_drewN | apply below_drew1 | refine below_set ?_ GE113.out | refine below_set ?_ GE114.out) | exact HB.out)) hb);have NB113_121 := m0_ ((by rw [hg];exact Nat.ne_of_lt (blk_lt BK113.out) : gb113 ≠ gb121));have NB121_113 := m0_ ((by rw [hg];exact Nat.ne_of_gt (blk_lt BK113.out) : gb121 ≠ gb113));replace BK113 := m0_ (blk_below BK113.out hb);have NB114_121 := m0_ ((by rw [hg];exact Nat.ne_of_lt (blk_lt BK114.out) : gb114 ≠ gb121));have NB121_114 := m0_ ((by rw [hg];exact Nat.ne_of_gt (blk_lt BK114.out) : gb121 ≠ gb114));replace BK114 := m0_ (blk_below BK114.out hb);clear hb hbox hg;have hnb19 := NB121_113.out;have hnc19 := NB113_121.out;have hnb20 := NB121_114.out;have hnc20 := NB114_121.out;obtain ⟨hcz21_0, hcz21_1, hcz21_2, hcz21_3, hfz21_0, hfz21_1, hfz21_2, hfz21_3⟩ := bx4 BK121.out;obtain ⟨Ao22, co22, eo22⟩ := Kd.N_slice HO120.out;subst eo22))
   (try simp only [Act.put, List.setIfInBounds_toArray, List.set_cons_zero, List.set_cons_succ])
   go_cut [39] (fun v39 wc => ∃ (kq : Nat) (x39_7 : Bool), v39 = .bool x39_7 ∧ Aside0 (laws_FnExSame.j1 kq x39_7 t101 t102 t103 t104 t107 t108 t109 t110 t115 t116 t117 t118 = some r) ∧ Aside0 (kq ≤ kj2) ∧ Aside0 (Kd.N k29 29 wc w.heap.size (fun k_ => some k_ ≠ ((.slice Ao16 t110.length co16) : Value).ownBlock ∧ some k_ ≠ ((.slice Ao22 t118.length co22) : Value).ownBlock ∧ k_ ≠ gb113 ∧ k_ ≠ gb114 ∧ k_ ≠ gb121) (.slice Ao14 t104.length co14) t104) ∧ Aside0 (Kd.N k29 29 wc w.heap.size (fun k_ => some k_ ≠ ((.slice Ao14 t104.length co14) : Value).ownBlock ∧ some k_ ≠ ((.slice Ao22 t118.length co22) : Value).ownBlock ∧ k_ ≠ gb113 ∧ k_ ≠ gb114 ∧ k_ ≠ gb121) (.slice Ao16 t110.length co16) t110) ∧ Aside0 (Kd.N k29 29 wc w.heap.size (fun k_ => some k_ ≠ ((.slice Ao14 t104.length co14) : Value).ownBlock ∧ some k_ ≠ ((.slice Ao16 t110.length co16) : Value).ownBlock ∧ k_ ≠ gb113 ∧ k_ ≠ gb114 ∧ k_ ≠ gb121) (.slice Ao22 t118.length co22) t118) ∧ Aside0 (wc.heap[gb113]? = some (.cells #[.int .i64 t101, .int .i64 t102, .int .i64 t103, (.slice Ao14 t104.length co14)] 29 (0, 0))) ∧ Aside0 (wc.heap[gb114]? = some (.cells #[.int .i64 t107, .int .i64 t108, .int .i64 t109, (.slice Ao16 t110.length co16)] 29 (0, 0))) ∧ Aside0 (wc.heap[gb121]? = some (.cells #[.int .i64 t115, .int .i64 t116, .int .i64 t117, (.slice Ao22 t118.length co22)] 29 (0, 0))) ∧ Aside0 (Below w.heap.size w wc))
   case first =>
    have H := HC8.out
    clear HC8
    replace H := Option.bind_eq_some_iff.mp H
    obtain ⟨t122, A230, H⟩ := H
    replace H : ((spec_ExSame.f kj2 t101 t102 t103 t104 t107 t108 t109 t110).bind fun t123 => (if (t122 != t123) = true then (laws_FnExSame.j1 kj2 true t101 t102 t103 t104 t107 t108 t109 t110 t115 t116 t117 t118) else ((impl_ExSame.f kj2 t101 t102 t103 t104 t115 t116 t117 t118).bind fun t124 => ((impl_ExSame.f kj2 t115 t116 t117 t118 t101 t102 t103 t104).bind fun t125 => (laws_FnExSame.j1 kj2 (t124 != t125) t101 t102 t103 t104 t107 t108 t109 t110 t115 t116 t117 t118))))) = some r := H
    have A23 := m0_ A230
    clear A230
    replace H := Option.bind_eq_some_iff.mp H
    obtain ⟨t123, A240, H⟩ := H
    replace H : (if (t122 != t123) = true then (laws_FnExSame.j1 kj2 true t101 t102 t103 t104 t107 t108 t109 t110 t115 t116 t117 t118) else ((impl_ExSame.f kj2 t101 t102 t103 t104 t115 t116 t117 t118).bind fun t124 => ((impl_ExSame.f kj2 t115 t116 t117 t118 t101 t102 t103 t104).bind fun t125 => (laws_FnExSame.j1 kj2 (t124 != t125) t101 t102 t103 t104 t107 t108 t109 t110 t115 t116 t117 t118)))) = some r := H
    have A24 := m0_ A240
    clear A240
    by_cases c25 : (t122 != t123) = true
    ·rw [if_pos c25] at H
     have c25b0 : (t122 != t123) = true := c25
     (try (have c25b1 : decide (t122 = t123) = false := by simpa using c25))
     (try (have c25b2 : (t122 == t123) = false := by simpa using c25))
     (try (have c25b3 : ¬ (t122 = t123) := by simpa using c25))
     clear c25
     (first | rw [c25b0] | (simp only [i64_w, i32_w];rw [c25b0]) | skip)
     have H' := m0_ H
     clear H
     try go_wp2
     have n0_ : Aside0 (Kd.N k29 29 ((((w18.setCell ⟨gb121, 0, none⟩ (.int .i64 t115)).setCell ⟨gb121, 1, none⟩ (.int .i64 t116)).setCell ⟨gb121, 2, none⟩ (.int .i64 t117)).setCell ⟨gb121, 3, none⟩ (.slice Ao22 t118.length co22)) w.heap.size (fun k_ => some k_ ≠ (.slice Ao16 t110.length co16 : Value).ownBlock ∧ some k_ ≠ (.slice Ao22 t118.length co22 : Value).ownBlock ∧ k_ ≠ gb113 ∧ k_ ≠ gb114 ∧ k_ ≠ gb121) (.slice Ao14 t104.length co14) t104) := ⟨by (with_reducible repeat (first | apply Kd.N_alloc | apply Kd.N_drewN | apply Kd.N_drew));exact Kd.N_mono (Kd.N_far (p := ⟨gb121, 3, none⟩) (Kd.N_far (p := ⟨gb121, 2, none⟩) (Kd.N_far (p := ⟨gb121, 1, none⟩) (Kd.N_far (p := ⟨gb121, 0, none⟩) (Kd.N_mono HO106.out (fun k_ hk => (⟨hk, hk.2⟩ : _ ∧ k_ ≠ gb121))) (fun _ hk => hk.2) (.int .i64 t115)) (fun _ hk => hk.2) (.int .i64 t116)) (fun _ hk => hk.2) (.int .i64 t117)) (fun _ hk => hk.2) (.slice Ao22 t118.length co22)) (fun _ hk => ⟨hk.1.1.1.1.1, ⟨hk.1.1.2, ⟨hk.1.1.1.1.2, ⟨hk.1.1.1.2, hk.1.2⟩⟩⟩⟩)⟩
     have n1_ : Aside0 (Kd.N k29 29 ((((w18.setCell ⟨gb121, 0, none⟩ (.int .i64 t115)).setCell ⟨gb121, 1, none⟩ (.int .i64 t116)).setCell ⟨gb121, 2, none⟩ (.int .i64 t117)).setCell ⟨gb121, 3, none⟩ (.slice Ao22 t118.length co22)) w.heap.size (fun k_ => some k_ ≠ (.slice Ao14 t104.length co14 : Value).ownBlock ∧ some k_ ≠ (.slice Ao22 t118.length co22 : Value).ownBlock ∧ k_ ≠ gb113 ∧ k_ ≠ gb114 ∧ k_ ≠ gb121) (.slice Ao16 t110.length co16) t110) := ⟨by (with_reducible repeat (first | apply Kd.N_alloc | apply Kd.N_drewN | apply Kd.N_drew));exact Kd.N_mono (Kd.N_far (p := ⟨gb121, 3, none⟩) (Kd.N_far (p := ⟨gb121, 2, none⟩) (Kd.N_far (p := ⟨gb121, 1, none⟩) (Kd.N_far (p := ⟨gb121, 0, none⟩) (Kd.N_mono HO112.out (fun k_ hk => (⟨hk, hk.2⟩ : _ ∧ k_ ≠ gb121))) (fun _ hk => hk.2) (.int .i64 t115)) (fun _ hk => hk.2) (.int .i64 t116)) (fun _ hk => hk.2) (.int .i64 t117)) (fun _ hk => hk.2) (.slice Ao22 t118.length co22)) (fun _ hk => ⟨hk.1.1.1.1.1, ⟨hk.1.1.2, ⟨hk.1.1.1.1.2, ⟨hk.1.1.1.2, hk.1.2⟩⟩⟩⟩)⟩
     have n2_ : Aside0 (Kd.N k29 29 ((((w18.setCell ⟨gb121, 0, none⟩ (.int .i64 t115)).setCell ⟨gb121, 1, none⟩ (.int .i64 t116)).setCell ⟨gb121, 2, none⟩ (.int .i64 t117)).setCell ⟨gb121, 3, none⟩ (.slice Ao22 t118.length co22)) w.heap.size (fun k_ => some k_ ≠ (.slice Ao14 t104.length co14 : Value).ownBlock ∧ some k_ ≠ (.slice Ao16 t110.length co16 : Value).ownBlock ∧ k_ ≠ gb113 ∧ k_ ≠ gb114 ∧ k_ ≠ gb121) (.slice Ao22 t118.length co22) t118) := ⟨by (with_reducible repeat (first | apply Kd.N_alloc | apply Kd.N_drewN | apply Kd.N_drew));exact Kd.N_mono (Kd.N_far (p := ⟨gb121, 3, none⟩) (Kd.N_far (p := ⟨gb121, 2, none⟩) (Kd.N_far (p := ⟨gb121, 1, none⟩) (Kd.N_far (p := ⟨gb121, 0, none⟩) (Kd.N_mono HO120.out (fun k_ hk => (⟨hk, hk.2⟩ : _ ∧ k_ ≠ gb121))) (fun _ hk => hk.2) (.int .i64 t115)) (fun _ hk => hk.2) (.int .i64 t116)) (fun _ hk => hk.2) (.int .i64 t117)) (fun _ hk => hk.2) (.slice Ao22 t118.length co22)) (fun _ hk => ⟨hk.1.1.1, ⟨hk.1.1.2.1, ⟨hk.1.1.2.2.1, ⟨hk.1.1.2.2.2, hk.1.2⟩⟩⟩⟩)⟩
     have n3_ : Aside0 (((((w18.setCell ⟨gb121, 0, none⟩ (.int .i64 t115)).setCell ⟨gb121, 1, none⟩ (.int .i64 t116)).setCell ⟨gb121, 2, none⟩ (.int .i64 t117)).setCell ⟨gb121, 3, none⟩ (.slice Ao22 t118.length co22)).heap[gb113]? = some (.cells #[.int .i64 t101, .int .i64 t102, .int .i64 t103, .slice Ao14 t104.length co14] 29 (0, 0))) := ⟨by (with_reducible repeat (first | refine blk_drewN ?_ _ | refine blk_drew ?_ | refine blk_alloc ?_ _));refine blk_far ?_ NB113_121.out _;(with_reducible repeat (first | refine blk_drewN ?_ _ | refine blk_drew ?_ | refine blk_alloc ?_ _));refine blk_far ?_ NB113_121.out _;(with_reducible repeat (first | refine blk_drewN ?_ _ | refine blk_drew ?_ | refine blk_alloc ?_ _));refine blk_far ?_ NB113_121.out _;(with_reducible repeat (first | refine blk_drewN ?_ _ | refine blk_drew ?_ | refine blk_alloc ?_ _));refine blk_far ?_ NB113_121.out _;(with_reducible repeat (first | refine blk_drewN ?_ _ | refine blk_drew ?_ | refine blk_alloc ?_ _));exact BK113.out⟩
     have n4_ : Aside0 (((((w18.setCell ⟨gb121, 0, none⟩ (.int .i64 t115)).setCell ⟨gb121, 1, none⟩ (.int .i64 t116)).setCell ⟨gb121, 2, none⟩ (.int .i64 t117)).setCell ⟨gb121, 3, none⟩ (.slice Ao22 t118.length co22)).heap[gb114]? = some (.cells #[.int .i64 t107, .int .i64 t108, .int .i64 t109, .slice Ao16 t110.length co16] 29 (0, 0))) := ⟨by (with_reducible repeat (first | refine blk_drewN ?_ _ | refine blk_drew ?_ | refine blk_alloc ?_ _));refine blk_far ?_ NB114_121.out _;(with_reducible repeat (first | refine blk_drewN ?_ _ | refine blk_drew ?_ | refine blk_alloc ?_ _));refine blk_far ?_ NB114_121.out _;(with_reducible repeat (first | refine blk_drewN ?_ _ | refine blk_drew ?_ | refine blk_alloc ?_ _));refine blk_far ?_ NB114_121.out _;(with_reducible repeat (first | refine blk_drewN ?_ _ | refine blk_drew ?_ | refine blk_alloc ?_ _));refine blk_far ?_ NB114_121.out _;(with_reducible repeat (first | refine blk_drewN ?_ _ | refine blk_drew ?_ | refine blk_alloc ?_ _));exact BK114.out⟩
     have n5_ : Aside0 (((((w18.setCell ⟨gb121, 0, none⟩ (.int .i64 t115)).setCell ⟨gb121, 1, none⟩ (.int .i64 t116)).setCell ⟨gb121, 2, none⟩ (.int .i64 t117)).setCell ⟨gb121, 3, none⟩ (.slice Ao22 t118.length co22)).heap[gb121]? = some (.cells #[.int .i64 t115, .int .i64 t116, .int .i64 t117, .slice Ao22 t118.length co22] 29 (0, 0))) := ⟨by (with_reducible repeat (first | refine blk_drewN ?_ _ | refine blk_drew ?_ | refine blk_alloc ?_ _));refine blk_put (cs := #[.int .i64 t115, .int .i64 t116, .int .i64 t117, .slice none 0 0]) ?_ 3 _ rfl;(with_reducible repeat (first | refine blk_drewN ?_ _ | refine blk_drew ?_ | refine blk_alloc ?_ _));refine blk_put (cs := #[.int .i64 t115, .int .i64 t116, .int .i64 0, .slice none 0 0]) ?_ 2 _ rfl;(with_reducible repeat (first | refine blk_drewN ?_ _ | refine blk_drew ?_ | refine blk_alloc ?_ _));refine blk_put (cs := #[.int .i64 t115, .int .i64 0, .int .i64 0, .slice none 0 0]) ?_ 1 _ rfl;(with_reducible repeat (first | refine blk_drewN ?_ _ | refine blk_drew ?_ | refine blk_alloc ?_ _));refine blk_put (cs := #[.int .i64 0, .int .i64 0, .int .i64 0, .slice none 0 0]) ?_ 0 _ rfl;(with_reducible repeat (first | refine blk_drewN ?_ _ | refine blk_drew ?_ | refine blk_alloc ?_ _));exact BK121.out⟩
     have n6_ : Aside0 (Below w.heap.size w ((((w18.setCell ⟨gb121, 0, none⟩ (.int .i64 t115)).setCell ⟨gb121, 1, none⟩ (.int .i64 t116)).setCell ⟨gb121, 2, none⟩ (.int .i64 t117)).setCell ⟨gb121, 3, none⟩ (.slice Ao22 t118.length co22))) := ⟨by repeat (first | (with_reducible first | exact HB.out | apply below_alloc | apply pw_below_drewN | apply below_drew1 | refine below_set ?_ GE113.out | refine below_set ?_ GE114.out | refine below_set ?_ GE121.out) | exact HB.out)⟩
     (try clear HO106)
     (try clear HO112)
     (try clear HO120)
     (try clear BK113)
     (try clear BK114)
     (try clear BK121)
     (try clear HB)
     generalize ((((w18.setCell ⟨gb121, 0, none⟩ (.int .i64 t115)).setCell ⟨gb121, 1, none⟩ (.int .i64 t116)).setCell ⟨gb121, 2, none⟩ (.int .i64 t117)).setCell ⟨gb121, 3, none⟩ (.slice Ao22 t118.length co22)) = w26 at n0_ n1_ n2_ n3_ n4_ n5_ n6_ ⊢
     have HO106 := n0_
     have HO112 := n1_
     have HO120 := n2_
     have BK113 := n3_
     have BK114 := n4_
     have BK121 := n5_
     have HB := n6_
     clear n0_ n1_ n2_ n3_ n4_ n5_ n6_
     replace HO106 := m0_ (Kd.N_drew HO106.out)
     replace HO112 := m0_ (Kd.N_drew HO112.out)
     replace HO120 := m0_ (Kd.N_drew HO120.out)
     replace BK113 := m0_ (blk_drew BK113.out)
     replace BK114 := m0_ (blk_drew BK114.out)
     replace BK121 := m0_ (blk_drew BK121.out)
     replace HB := m0_ (below_drew1 HB.out)
     refine start_ (n := 16) (S := fun w' => w'.cell? ⟨gb113, 0, none⟩ = some (.int .i64 t101) ∧ w'.cell? ⟨gb113, 1, none⟩ = some (.int .i64 t102) ∧ w'.cell? ⟨gb113, 2, none⟩ = some (.int .i64 t103) ∧ w'.cell? ⟨gb113, 3, none⟩ = some (.slice Ao14 t104.length co14) ∧ w'.cell? ⟨gb114, 0, none⟩ = some (.int .i64 t107) ∧ w'.cell? ⟨gb114, 1, none⟩ = some (.int .i64 t108) ∧ w'.cell? ⟨gb114, 2, none⟩ = some (.int .i64 t109) ∧ w'.cell? ⟨gb114, 3, none⟩ = some (.slice Ao16 t110.length co16)) (ds := []) #[false, false, false, false, false, false, false, false, false, false, false, false, false, false, false, false] (by kernel_rfl) rfl rfl ⟨(blk_cell BK113.out 0).trans rfl, (blk_cell BK113.out 1).trans rfl, (blk_cell BK113.out 2).trans rfl, (blk_cell BK113.out 3).trans rfl, (blk_cell BK114.out 0).trans rfl, (blk_cell BK114.out 1).trans rfl, (blk_cell BK114.out 2).trans rfl, (blk_cell BK114.out 3).trans rfl⟩ (fun hHeld => ?_);refine with_tabW laws_FnExSame.tab5 laws_FnExSame.bits5 (fun HT_ HW_ => ?_)
     generalize w26.drew = w27 at HO106 HO112 HO120 BK113 BK114 BK121 HB hHeld ⊢
     refine take_ (i := 0) (N := some 24) (v := ?_) (a' := ?_) #[true, false, false, false, false, false, false, false, false, false, false, false, false, false, false, false] rfl rfl (take_ofW HT_.out HW_.out (by kernel_rfl)) (fun _ _ _ h => h) (Or.inl ⟨by rfl, ?_⟩) hHeld ?_ ?_
     rotate_left
     ·rintro w' ⟨s0, s1, s2, s3, s4, s5, s6, s7⟩
      go_simp
      with_reducible rfl
     rotate_left
     ·simp only [Act.put, List.setIfInBounds_toArray, List.set_cons_zero, List.set_cons_succ, i64_w, i32_w]
      rfl
     refine take_ (i := 1) (N := some 25) (v := ?_) (a' := ?_) #[true, true, false, false, false, false, false, false, false, false, false, false, false, false, false, false] rfl rfl (take_ofW HT_.out HW_.out (by kernel_rfl)) (fun _ _ _ h => h) (Or.inl ⟨by rfl, ?_⟩) hHeld ?_ ?_
     rotate_left
     ·rintro w' ⟨s0, s1, s2, s3, s4, s5, s6, s7⟩
      go_simp
      with_reducible rfl
     rotate_left
     ·simp only [Act.put, List.setIfInBounds_toArray, List.set_cons_zero, List.set_cons_succ, i64_w, i32_w]
      rfl
     refine take_ (i := 3) (N := some 27) (v := ?_) (a' := ?_) #[true, true, false, true, false, false, false, false, false, false, false, false, false, false, false, false] rfl rfl (take_ofW HT_.out HW_.out (by kernel_rfl)) (fun _ _ _ h => h) (Or.inl ⟨by rfl, ?_⟩) hHeld ?_ ?_
     rotate_left
     ·rintro w' ⟨s0, s1, s2, s3, s4, s5, s6, s7⟩
      go_simp
      with_reducible rfl
     rotate_left
     ·simp only [Act.put, List.setIfInBounds_toArray, List.set_cons_zero, List.set_cons_succ, i64_w, i32_w]
      rfl
     refine take_ (i := 4) (N := some 28) (v := ?_) (a' := ?_) #[true, true, false, true, true, false, false, false, false, false, false, false, false, false, false, false] rfl rfl (take_ofW HT_.out HW_.out (by kernel_rfl)) (fun _ _ _ h => h) (Or.inl ⟨by rfl, ?_⟩) hHeld ?_ ?_
     rotate_left
     ·rintro w' ⟨s0, s1, s2, s3, s4, s5, s6, s7⟩
      go_simp
      with_reducible rfl
     rotate_left
     ·simp only [Act.put, List.setIfInBounds_toArray, List.set_cons_zero, List.set_cons_succ, i64_w, i32_w]
      rfl
     refine one_ (i := 2) (N := some 26) #[true, true, true, true, true, false, false, false, false, false, false, false, false, false, false, false] rfl rfl (one_of HT_.out (by kernel_rfl)) (by decide) (fun K hK => ?_)
     refine goes_ Tryd.func15 (by kernel_rfl) rfl #[.agg #[.int .i64 t101, .int .i64 t102, .int .i64 t103, .slice Ao14 t104.length co14], .agg #[.int .i64 t107, .int .i64 t108, .int .i64 t109, .slice Ao16 t110.length co16]] (by rfl) rfl rfl (by (try simp only [List.map_toArray, List.map_cons, List.map_nil]);first | done | rfl | (simp only [List.length_drop, List.length_take];rfl)) ?_
     with_reducible refine (impl_ExSame.calls kj2 t101 t102 t103 _ _ t104 t107 t108 t109 _ _ t110 t122 _ ?side1 ?side2 ?side3 ?side4 A23.out).mono ?_
     (case side1 => repeat (first | exact (Kd.N_reads' HO106.out).2.2 | (with_reducible refine Kd.C_alloc ?_ _) | (with_reducible refine Kd.C_drewN ?_ _) | (with_reducible refine Kd.C_drew ?_)))
     (case side2 => exact (Kd.N_reads' HO106.out).2.1)
     (case side3 => repeat (first | exact (Kd.N_reads' HO112.out).2.2 | (with_reducible refine Kd.C_alloc ?_ _) | (with_reducible refine Kd.C_drewN ?_ _) | (with_reducible refine Kd.C_drew ?_)))
     (case side4 => exact (Kd.N_reads' HO112.out).2.1)
     rintro e w28 ⟨rfl, hb⟩
     refine ⟨_, rfl, ?_⟩
     replace HO106 := m0_ (Kd.N_below (by exact HO106.out) hb)
     replace HO112 := m0_ (Kd.N_below (by exact HO112.out) hb)
     replace HO120 := m0_ (Kd.N_below (by exact HO120.out) hb)
     replace BK113 := m0_ (blk_below BK113.out hb)
     replace BK114 := m0_ (blk_below BK114.out hb)
     replace BK121 := m0_ (blk_below BK121.out hb)
     replace HB := m0_ (below_step (by repeat (first | (with_reducible first | exact HB.out | apply below_alloc | apply pw_below_drewN | apply below_drew1 | refine below_set ?_ GE113.out | refine below_set ?_ GE114.out | refine below_set ?_ GE121.out) | exact HB.out)) hb)
     (try clear hb)
     (try clear hb2)
     (try clear hk)
     (try clear hi)
     refine hK.out _ _ ⟨(blk_cell BK113.out 0).trans rfl, (blk_cell BK113.out 1).trans rfl, (blk_cell BK113.out 2).trans rfl, (blk_cell BK113.out 3).trans rfl, (blk_cell BK114.out 0).trans rfl, (blk_cell BK114.out 1).trans rfl, (blk_cell BK114.out 2).trans rfl, (blk_cell BK114.out 3).trans rfl⟩ (fun hHeld => ?_)
     clear hK K
     refine norm_ (a' := ?_) ?_ ?_
     rotate_left
     ·show Act.put _ (some 26) _ = _
      simp only [Act.put, List.setIfInBounds_toArray, List.set_cons_zero, List.set_cons_succ, i64_w, i32_w]
      rfl
     refine one_ (i := 5) (N := some 29) #[true, true, true, true, true, true, false, false, false, false, false, false, false, false, false, false] rfl rfl (one_of HT_.out (by kernel_rfl)) (by decide) (fun K hK => ?_)
     refine goes_ Tryd.func16 (by kernel_rfl) rfl #[.agg #[.int .i64 t101, .int .i64 t102, .int .i64 t103, .slice Ao14 t104.length co14], .agg #[.int .i64 t107, .int .i64 t108, .int .i64 t109, .slice Ao16 t110.length co16]] (by rfl) rfl rfl (by (try simp only [List.map_toArray, List.map_cons, List.map_nil]);first | done | rfl | (simp only [List.length_drop, List.length_take];rfl)) ?_
     with_reducible refine (spec_ExSame.calls kj2 t101 t102 t103 _ _ t104 t107 t108 t109 _ _ t110 t123 _ ?side1 ?side2 ?side3 ?side4 A24.out).mono ?_
     (case side1 => repeat (first | exact (Kd.N_reads' HO106.out).2.2 | (with_reducible refine Kd.C_alloc ?_ _) | (with_reducible refine Kd.C_drewN ?_ _) | (with_reducible refine Kd.C_drew ?_)))
     (case side2 => exact (Kd.N_reads' HO106.out).2.1)
     (case side3 => repeat (first | exact (Kd.N_reads' HO112.out).2.2 | (with_reducible refine Kd.C_alloc ?_ _) | (with_reducible refine Kd.C_drewN ?_ _) | (with_reducible refine Kd.C_drew ?_)))
     (case side4 => exact (Kd.N_reads' HO112.out).2.1)
     rintro e w29 ⟨rfl, hb⟩
     refine ⟨_, rfl, ?_⟩
     replace HO106 := m0_ (Kd.N_below (by exact HO106.out) hb)
     replace HO112 := m0_ (Kd.N_below (by exact HO112.out) hb)
     replace HO120 := m0_ (Kd.N_below (by exact HO120.out) hb)
     replace BK113 := m0_ (blk_below BK113.out hb)
     replace BK114 := m0_ (blk_below BK114.out hb)
     replace BK121 := m0_ (blk_below BK121.out hb)
     replace HB := m0_ (below_step (by repeat (first | (with_reducible first | exact HB.out | apply below_alloc | apply pw_below_drewN | apply below_drew1 | refine below_set ?_ GE113.out | refine below_set ?_ GE114.out | refine below_set ?_ GE121.out) | exact HB.out)) hb)
     (try clear hb)
     (try clear hb2)
     (try clear hk)
     (try clear hi)
     refine hK.out _ _ ⟨(blk_cell BK113.out 0).trans rfl, (blk_cell BK113.out 1).trans rfl, (blk_cell BK113.out 2).trans rfl, (blk_cell BK113.out 3).trans rfl, (blk_cell BK114.out 0).trans rfl, (blk_cell BK114.out 1).trans rfl, (blk_cell BK114.out 2).trans rfl, (blk_cell BK114.out 3).trans rfl⟩ (fun hHeld => ?_)
     clear hK K
     refine norm_ (a' := ?_) ?_ ?_
     rotate_left
     ·show Act.put _ (some 29) _ = _
      simp only [Act.put, List.setIfInBounds_toArray, List.set_cons_zero, List.set_cons_succ, i64_w, i32_w]
      rfl
     refine pv_ 6 30 #[true, true, true, true, true, true, true, false, false, false, false, false, false, false, false, false] (any_of HT_.out (by kernel_rfl)) ?_
     refine pv_ 7 31 #[true, true, true, true, true, true, true, true, false, false, false, false, false, false, false, false] (any_of HT_.out (by kernel_rfl)) ?_
     refine pu_ 8 32 #[true, true, true, true, true, true, true, true, true, false, false, false, false, false, false, false] (any_of HT_.out (by kernel_rfl)) ?_
     refine pu_ 9 33 #[true, true, true, true, true, true, true, true, true, true, false, false, false, false, false, false] (any_of HT_.out (by kernel_rfl)) ?_
     refine pu_ 10 34 #[true, true, true, true, true, true, true, true, true, true, true, false, false, false, false, false] (any_of HT_.out (by kernel_rfl)) ?_
     refine pu_ 11 35 #[true, true, true, true, true, true, true, true, true, true, true, true, false, false, false, false] (any_of HT_.out (by kernel_rfl)) ?_
     refine pu_ 12 36 #[true, true, true, true, true, true, true, true, true, true, true, true, true, false, false, false] (any_of HT_.out (by kernel_rfl)) ?_
     refine pu_ 13 37 #[true, true, true, true, true, true, true, true, true, true, true, true, true, true, false, false] (any_of HT_.out (by kernel_rfl)) ?_
     refine pu_ 14 38 #[true, true, true, true, true, true, true, true, true, true, true, true, true, true, true, false] (any_of HT_.out (by kernel_rfl)) ?_
     refine pv_ 15 39 #[true, true, true, true, true, true, true, true, true, true, true, true, true, true, true, true] (any_of HT_.out (by kernel_rfl)) ?_
     refine done_ (done_of HT_.out (by kernel_rfl)) ?_
     try go_wp2
     go_meet
     case rel => exact ⟨_, (true), (by first | rfl | (simp;done) | (simp [*];done)), H', ⟨by have := HJ2.out;first | omega | exact Nat.le_refl _⟩, ⟨by (with_reducible repeat (first | apply Kd.N_alloc | apply Kd.N_drewN | apply Kd.N_drew));exact HO106.out⟩, ⟨by (with_reducible repeat (first | apply Kd.N_alloc | apply Kd.N_drewN | apply Kd.N_drew));exact HO112.out⟩, ⟨by (with_reducible repeat (first | apply Kd.N_alloc | apply Kd.N_drewN | apply Kd.N_drew));exact HO120.out⟩, ⟨by (with_reducible repeat (first | refine blk_drewN ?_ _ | refine blk_drew ?_ | refine blk_alloc ?_ _));exact BK113.out⟩, ⟨by (with_reducible repeat (first | refine blk_drewN ?_ _ | refine blk_drew ?_ | refine blk_alloc ?_ _));exact BK114.out⟩, ⟨by (with_reducible repeat (first | refine blk_drewN ?_ _ | refine blk_drew ?_ | refine blk_alloc ?_ _));exact BK121.out⟩, ⟨by repeat (first | (with_reducible first | exact HB.out | apply below_alloc | apply pw_below_drewN | apply below_drew1 | refine below_set ?_ GE113.out | refine below_set ?_ GE114.out | refine below_set ?_ GE121.out) | exact HB.out)⟩⟩
    rw [if_neg c25] at H
    have c25b0 : (t122 != t123) = false := by simpa using c25
    (try (have c25b1 : decide (t122 = t123) = true := by simpa using c25))
    (try (have c25b2 : (t122 == t123) = true := by simpa using c25))
    clear c25
    (first | rw [c25b0] | (simp only [i64_w, i32_w];rw [c25b0]) | skip)
    replace H := Option.bind_eq_some_iff.mp H
    obtain ⟨t124, A300, H⟩ := H
    replace H : ((impl_ExSame.f kj2 t115 t116 t117 t118 t101 t102 t103 t104).bind fun t125 => (laws_FnExSame.j1 kj2 (t124 != t125) t101 t102 t103 t104 t107 t108 t109 t110 t115 t116 t117 t118)) = some r := H
    have A30 := m0_ A300
    clear A300
    replace H := Option.bind_eq_some_iff.mp H
    obtain ⟨t125, A310, H⟩ := H
    replace H : (laws_FnExSame.j1 kj2 (t124 != t125) t101 t102 t103 t104 t107 t108 t109 t110 t115 t116 t117 t118) = some r := H
    have A31 := m0_ A310
    clear A310
    have H' := m0_ H
    clear H
    try go_wp2
    have n0_ : Aside0 (Kd.N k29 29 ((((w18.setCell ⟨gb121, 0, none⟩ (.int .i64 t115)).setCell ⟨gb121, 1, none⟩ (.int .i64 t116)).setCell ⟨gb121, 2, none⟩ (.int .i64 t117)).setCell ⟨gb121, 3, none⟩ (.slice Ao22 t118.length co22)) w.heap.size (fun k_ => some k_ ≠ (.slice Ao16 t110.length co16 : Value).ownBlock ∧ some k_ ≠ (.slice Ao22 t118.length co22 : Value).ownBlock ∧ k_ ≠ gb113 ∧ k_ ≠ gb114 ∧ k_ ≠ gb121) (.slice Ao14 t104.length co14) t104) := ⟨by (with_reducible repeat (first | apply Kd.N_alloc | apply Kd.N_drewN | apply Kd.N_drew));exact Kd.N_mono (Kd.N_far (p := ⟨gb121, 3, none⟩) (Kd.N_far (p := ⟨gb121, 2, none⟩) (Kd.N_far (p := ⟨gb121, 1, none⟩) (Kd.N_far (p := ⟨gb121, 0, none⟩) (Kd.N_mono HO106.out (fun k_ hk => (⟨hk, hk.2⟩ : _ ∧ k_ ≠ gb121))) (fun _ hk => hk.2) (.int .i64 t115)) (fun _ hk => hk.2) (.int .i64 t116)) (fun _ hk => hk.2) (.int .i64 t117)) (fun _ hk => hk.2) (.slice Ao22 t118.length co22)) (fun _ hk => ⟨hk.1.1.1.1.1, ⟨hk.1.1.2, ⟨hk.1.1.1.1.2, ⟨hk.1.1.1.2, hk.1.2⟩⟩⟩⟩)⟩
    have n1_ : Aside0 (Kd.N k29 29 ((((w18.setCell ⟨gb121, 0, none⟩ (.int .i64 t115)).setCell ⟨gb121, 1, none⟩ (.int .i64 t116)).setCell ⟨gb121, 2, none⟩ (.int .i64 t117)).setCell ⟨gb121, 3, none⟩ (.slice Ao22 t118.length co22)) w.heap.size (fun k_ => some k_ ≠ (.slice Ao14 t104.length co14 : Value).ownBlock ∧ some k_ ≠ (.slice Ao22 t118.length co22 : Value).ownBlock ∧ k_ ≠ gb113 ∧ k_ ≠ gb114 ∧ k_ ≠ gb121) (.slice Ao16 t110.length co16) t110) := ⟨by (with_reducible repeat (first | apply Kd.N_alloc | apply Kd.N_drewN | apply Kd.N_drew));exact Kd.N_mono (Kd.N_far (p := ⟨gb121, 3, none⟩) (Kd.N_far (p := ⟨gb121, 2, none⟩) (Kd.N_far (p := ⟨gb121, 1, none⟩) (Kd.N_far (p := ⟨gb121, 0, none⟩) (Kd.N_mono HO112.out (fun k_ hk => (⟨hk, hk.2⟩ : _ ∧ k_ ≠ gb121))) (fun _ hk => hk.2) (.int .i64 t115)) (fun _ hk => hk.2) (.int .i64 t116)) (fun _ hk => hk.2) (.int .i64 t117)) (fun _ hk => hk.2) (.slice Ao22 t118.length co22)) (fun _ hk => ⟨hk.1.1.1.1.1, ⟨hk.1.1.2, ⟨hk.1.1.1.1.2, ⟨hk.1.1.1.2, hk.1.2⟩⟩⟩⟩)⟩
    have n2_ : Aside0 (Kd.N k29 29 ((((w18.setCell ⟨gb121, 0, none⟩ (.int .i64 t115)).setCell ⟨gb121, 1, none⟩ (.int .i64 t116)).setCell ⟨gb121, 2, none⟩ (.int .i64 t117)).setCell ⟨gb121, 3, none⟩ (.slice Ao22 t118.length co22)) w.heap.size (fun k_ => some k_ ≠ (.slice Ao14 t104.length co14 : Value).ownBlock ∧ some k_ ≠ (.slice Ao16 t110.length co16 : Value).ownBlock ∧ k_ ≠ gb113 ∧ k_ ≠ gb114 ∧ k_ ≠ gb121) (.slice Ao22 t118.length co22) t118) := ⟨by (with_reducible repeat (first | apply Kd.N_alloc | apply Kd.N_drewN | apply Kd.N_drew));exact Kd.N_mono (Kd.N_far (p := ⟨gb121, 3, none⟩) (Kd.N_far (p := ⟨gb121, 2, none⟩) (Kd.N_far (p := ⟨gb121, 1, none⟩) (Kd.N_far (p := ⟨gb121, 0, none⟩) (Kd.N_mono HO120.out (fun k_ hk => (⟨hk, hk.2⟩ : _ ∧ k_ ≠ gb121))) (fun _ hk => hk.2) (.int .i64 t115)) (fun _ hk => hk.2) (.int .i64 t116)) (fun _ hk => hk.2) (.int .i64 t117)) (fun _ hk => hk.2) (.slice Ao22 t118.length co22)) (fun _ hk => ⟨hk.1.1.1, ⟨hk.1.1.2.1, ⟨hk.1.1.2.2.1, ⟨hk.1.1.2.2.2, hk.1.2⟩⟩⟩⟩)⟩
    have n3_ : Aside0 (((((w18.setCell ⟨gb121, 0, none⟩ (.int .i64 t115)).setCell ⟨gb121, 1, none⟩ (.int .i64 t116)).setCell ⟨gb121, 2, none⟩ (.int .i64 t117)).setCell ⟨gb121, 3, none⟩ (.slice Ao22 t118.length co22)).heap[gb113]? = some (.cells #[.int .i64 t101, .int .i64 t102, .int .i64 t103, .slice Ao14 t104.length co14] 29 (0, 0))) := ⟨by (with_reducible repeat (first | refine blk_drewN ?_ _ | refine blk_drew ?_ | refine blk_alloc ?_ _));refine blk_far ?_ NB113_121.out _;(with_reducible repeat (first | refine blk_drewN ?_ _ | refine blk_drew ?_ | refine blk_alloc ?_ _));refine blk_far ?_ NB113_121.out _;(with_reducible repeat (first | refine blk_drewN ?_ _ | refine blk_drew ?_ | refine blk_alloc ?_ _));refine blk_far ?_ NB113_121.out _;(with_reducible repeat (first | refine blk_drewN ?_ _ | refine blk_drew ?_ | refine blk_alloc ?_ _));refine blk_far ?_ NB113_121.out _;(with_reducible repeat (first | refine blk_drewN ?_ _ | refine blk_drew ?_ | refine blk_alloc ?_ _));exact BK113.out⟩
    have n4_ : Aside0 (((((w18.setCell ⟨gb121, 0, none⟩ (.int .i64 t115)).setCell ⟨gb121, 1, none⟩ (.int .i64 t116)).setCell ⟨gb121, 2, none⟩ (.int .i64 t117)).setCell ⟨gb121, 3, none⟩ (.slice Ao22 t118.length co22)).heap[gb114]? = some (.cells #[.int .i64 t107, .int .i64 t108, .int .i64 t109, .slice Ao16 t110.length co16] 29 (0, 0))) := ⟨by (with_reducible repeat (first | refine blk_drewN ?_ _ | refine blk_drew ?_ | refine blk_alloc ?_ _));refine blk_far ?_ NB114_121.out _;(with_reducible repeat (first | refine blk_drewN ?_ _ | refine blk_drew ?_ | refine blk_alloc ?_ _));refine blk_far ?_ NB114_121.out _;(with_reducible repeat (first | refine blk_drewN ?_ _ | refine blk_drew ?_ | refine blk_alloc ?_ _));refine blk_far ?_ NB114_121.out _;(with_reducible repeat (first | refine blk_drewN ?_ _ | refine blk_drew ?_ | refine blk_alloc ?_ _));refine blk_far ?_ NB114_121.out _;(with_reducible repeat (first | refine blk_drewN ?_ _ | refine blk_drew ?_ | refine blk_alloc ?_ _));exact BK114.out⟩
    have n5_ : Aside0 (((((w18.setCell ⟨gb121, 0, none⟩ (.int .i64 t115)).setCell ⟨gb121, 1, none⟩ (.int .i64 t116)).setCell ⟨gb121, 2, none⟩ (.int .i64 t117)).setCell ⟨gb121, 3, none⟩ (.slice Ao22 t118.length co22)).heap[gb121]? = some (.cells #[.int .i64 t115, .int .i64 t116, .int .i64 t117, .slice Ao22 t118.length co22] 29 (0, 0))) := ⟨by (with_reducible repeat (first | refine blk_drewN ?_ _ | refine blk_drew ?_ | refine blk_alloc ?_ _));refine blk_put (cs := #[.int .i64 t115, .int .i64 t116, .int .i64 t117, .slice none 0 0]) ?_ 3 _ rfl;(with_reducible repeat (first | refine blk_drewN ?_ _ | refine blk_drew ?_ | refine blk_alloc ?_ _));refine blk_put (cs := #[.int .i64 t115, .int .i64 t116, .int .i64 0, .slice none 0 0]) ?_ 2 _ rfl;(with_reducible repeat (first | refine blk_drewN ?_ _ | refine blk_drew ?_ | refine blk_alloc ?_ _));refine blk_put (cs := #[.int .i64 t115, .int .i64 0, .int .i64 0, .slice none 0 0]) ?_ 1 _ rfl;(with_reducible repeat (first | refine blk_drewN ?_ _ | refine blk_drew ?_ | refine blk_alloc ?_ _));refine blk_put (cs := #[.int .i64 0, .int .i64 0, .int .i64 0, .slice none 0 0]) ?_ 0 _ rfl;(with_reducible repeat (first | refine blk_drewN ?_ _ | refine blk_drew ?_ | refine blk_alloc ?_ _));exact BK121.out⟩
    have n6_ : Aside0 (Below w.heap.size w ((((w18.setCell ⟨gb121, 0, none⟩ (.int .i64 t115)).setCell ⟨gb121, 1, none⟩ (.int .i64 t116)).setCell ⟨gb121, 2, none⟩ (.int .i64 t117)).setCell ⟨gb121, 3, none⟩ (.slice Ao22 t118.length co22))) := ⟨by repeat (first | (with_reducible first | exact HB.out | apply below_alloc | apply pw_below_drewN | apply below_drew1 | refine below_set ?_ GE113.out | refine below_set ?_ GE114.out | refine below_set ?_ GE121.out) | exact HB.out)⟩
    (try clear HO106)
    (try clear HO112)
    (try clear HO120)
    (try clear BK113)
    (try clear BK114)
    (try clear BK121)
    (try clear HB)
    generalize ((((w18.setCell ⟨gb121, 0, none⟩ (.int .i64 t115)).setCell ⟨gb121, 1, none⟩ (.int .i64 t116)).setCell ⟨gb121, 2, none⟩ (.int .i64 t117)).setCell ⟨gb121, 3, none⟩ (.slice Ao22 t118.length co22)) = w32 at n0_ n1_ n2_ n3_ n4_ n5_ n6_ ⊢
    have HO106 := n0_
    have HO112 := n1_
    have HO120 := n2_
    have BK113 := n3_
    have BK114 := n4_
    have BK121 := n5_
    have HB := n6_
    clear n0_ n1_ n2_ n3_ n4_ n5_ n6_
    replace HO106 := m0_ (Kd.N_drew HO106.out)
    replace HO112 := m0_ (Kd.N_drew HO112.out)
    replace HO120 := m0_ (Kd.N_drew HO120.out)
    replace BK113 := m0_ (blk_drew BK113.out)
    replace BK114 := m0_ (blk_drew BK114.out)
    replace BK121 := m0_ (blk_drew BK121.out)
    replace HB := m0_ (below_drew1 HB.out)
    refine start_ (n := 16) (S := fun w' => w'.cell? ⟨gb113, 0, none⟩ = some (.int .i64 t101) ∧ w'.cell? ⟨gb113, 1, none⟩ = some (.int .i64 t102) ∧ w'.cell? ⟨gb113, 2, none⟩ = some (.int .i64 t103) ∧ w'.cell? ⟨gb113, 3, none⟩ = some (.slice Ao14 t104.length co14) ∧ w'.cell? ⟨gb114, 0, none⟩ = some (.int .i64 t107) ∧ w'.cell? ⟨gb114, 1, none⟩ = some (.int .i64 t108) ∧ w'.cell? ⟨gb114, 2, none⟩ = some (.int .i64 t109) ∧ w'.cell? ⟨gb114, 3, none⟩ = some (.slice Ao16 t110.length co16) ∧ w'.cell? ⟨gb121, 0, none⟩ = some (.int .i64 t115) ∧ w'.cell? ⟨gb121, 1, none⟩ = some (.int .i64 t116) ∧ w'.cell? ⟨gb121, 2, none⟩ = some (.int .i64 t117) ∧ w'.cell? ⟨gb121, 3, none⟩ = some (.slice Ao22 t118.length co22)) (ds := []) #[false, false, false, false, false, false, false, false, false, false, false, false, false, false, false, false] (by kernel_rfl) rfl rfl ⟨(blk_cell BK113.out 0).trans rfl, (blk_cell BK113.out 1).trans rfl, (blk_cell BK113.out 2).trans rfl, (blk_cell BK113.out 3).trans rfl, (blk_cell BK114.out 0).trans rfl, (blk_cell BK114.out 1).trans rfl, (blk_cell BK114.out 2).trans rfl, (blk_cell BK114.out 3).trans rfl, (blk_cell BK121.out 0).trans rfl, (blk_cell BK121.out 1).trans rfl, (blk_cell BK121.out 2).trans rfl, (blk_cell BK121.out 3).trans rfl⟩ (fun hHeld => ?_);refine with_tabW laws_FnExSame.tab5 laws_FnExSame.bits5 (fun HT_ HW_ => ?_)
    generalize w32.drew = w33 at HO106 HO112 HO120 BK113 BK114 BK121 HB hHeld ⊢
    refine take_ (i := 0) (N := some 24) (v := ?_) (a' := ?_) #[true, false, false, false, false, false, false, false, false, false, false, false, false, false, false, false] rfl rfl (take_ofW HT_.out HW_.out (by kernel_rfl)) (fun _ _ _ h => h) (Or.inl ⟨by rfl, ?_⟩) hHeld ?_ ?_
    rotate_left
    ·rintro w' ⟨s0, s1, s2, s3, s4, s5, s6, s7, s8, s9, s10, s11⟩
     go_simp
     with_reducible rfl
    rotate_left
    ·simp only [Act.put, List.setIfInBounds_toArray, List.set_cons_zero, List.set_cons_succ, i64_w, i32_w]
     rfl
    refine take_ (i := 1) (N := some 25) (v := ?_) (a' := ?_) #[true, true, false, false, false, false, false, false, false, false, false, false, false, false, false, false] rfl rfl (take_ofW HT_.out HW_.out (by kernel_rfl)) (fun _ _ _ h => h) (Or.inl ⟨by rfl, ?_⟩) hHeld ?_ ?_
    rotate_left
    ·rintro w' ⟨s0, s1, s2, s3, s4, s5, s6, s7, s8, s9, s10, s11⟩
     go_simp
     with_reducible rfl
    rotate_left
    ·simp only [Act.put, List.setIfInBounds_toArray, List.set_cons_zero, List.set_cons_succ, i64_w, i32_w]
     rfl
    refine take_ (i := 3) (N := some 27) (v := ?_) (a' := ?_) #[true, true, false, true, false, false, false, false, false, false, false, false, false, false, false, false] rfl rfl (take_ofW HT_.out HW_.out (by kernel_rfl)) (fun _ _ _ h => h) (Or.inl ⟨by rfl, ?_⟩) hHeld ?_ ?_
    rotate_left
    ·rintro w' ⟨s0, s1, s2, s3, s4, s5, s6, s7, s8, s9, s10, s11⟩
     go_simp
     with_reducible rfl
    rotate_left
    ·simp only [Act.put, List.setIfInBounds_toArray, List.set_cons_zero, List.set_cons_succ, i64_w, i32_w]
     rfl
    refine take_ (i := 4) (N := some 28) (v := ?_) (a' := ?_) #[true, true, false, true, true, false, false, false, false, false, false, false, false, false, false, false] rfl rfl (take_ofW HT_.out HW_.out (by kernel_rfl)) (fun _ _ _ h => h) (Or.inl ⟨by rfl, ?_⟩) hHeld ?_ ?_
    rotate_left
    ·rintro w' ⟨s0, s1, s2, s3, s4, s5, s6, s7, s8, s9, s10, s11⟩
     go_simp
     with_reducible rfl
    rotate_left
    ·simp only [Act.put, List.setIfInBounds_toArray, List.set_cons_zero, List.set_cons_succ, i64_w, i32_w]
     rfl
    refine one_ (i := 2) (N := some 26) #[true, true, true, true, true, false, false, false, false, false, false, false, false, false, false, false] rfl rfl (one_of HT_.out (by kernel_rfl)) (by decide) (fun K hK => ?_)
    refine goes_ Tryd.func15 (by kernel_rfl) rfl #[.agg #[.int .i64 t101, .int .i64 t102, .int .i64 t103, .slice Ao14 t104.length co14], .agg #[.int .i64 t107, .int .i64 t108, .int .i64 t109, .slice Ao16 t110.length co16]] (by rfl) rfl rfl (by (try simp only [List.map_toArray, List.map_cons, List.map_nil]);first | done | rfl | (simp only [List.length_drop, List.length_take];rfl)) ?_
    with_reducible refine (impl_ExSame.calls kj2 t101 t102 t103 _ _ t104 t107 t108 t109 _ _ t110 t122 _ ?side1 ?side2 ?side3 ?side4 A23.out).mono ?_
    (case side1 => repeat (first | exact (Kd.N_reads' HO106.out).2.2 | (with_reducible refine Kd.C_alloc ?_ _) | (with_reducible refine Kd.C_drewN ?_ _) | (with_reducible refine Kd.C_drew ?_)))
    (case side2 => exact (Kd.N_reads' HO106.out).2.1)
    (case side3 => repeat (first | exact (Kd.N_reads' HO112.out).2.2 | (with_reducible refine Kd.C_alloc ?_ _) | (with_reducible refine Kd.C_drewN ?_ _) | (with_reducible refine Kd.C_drew ?_)))
    (case side4 => exact (Kd.N_reads' HO112.out).2.1)
    rintro e w34 ⟨rfl, hb⟩
    refine ⟨_, rfl, ?_⟩
    replace HO106 := m0_ (Kd.N_below (by exact HO106.out) hb)
    replace HO112 := m0_ (Kd.N_below (by exact HO112.out) hb)
    replace HO120 := m0_ (Kd.N_below (by exact HO120.out) hb)
    replace BK113 := m0_ (blk_below BK113.out hb)
    replace BK114 := m0_ (blk_below BK114.out hb)
    replace BK121 := m0_ (blk_below BK121.out hb)
    replace HB := m0_ (below_step (by repeat (first | (with_reducible first | exact HB.out | apply below_alloc | apply pw_below_drewN | apply below_drew1 | refine below_set ?_ GE113.out | refine below_set ?_ GE114.out | refine below_set ?_ GE121.out) | exact HB.out)) hb)
    (try clear hb)
    (try clear hb2)
    (try clear hk)
    (try clear hi)
    refine hK.out _ _ ⟨(blk_cell BK113.out 0).trans rfl, (blk_cell BK113.out 1).trans rfl, (blk_cell BK113.out 2).trans rfl, (blk_cell BK113.out 3).trans rfl, (blk_cell BK114.out 0).trans rfl, (blk_cell BK114.out 1).trans rfl, (blk_cell BK114.out 2).trans rfl, (blk_cell BK114.out 3).trans rfl, (blk_cell BK121.out 0).trans rfl, (blk_cell BK121.out 1).trans rfl, (blk_cell BK121.out 2).trans rfl, (blk_cell BK121.out 3).trans rfl⟩ (fun hHeld => ?_)
    clear hK K
    refine norm_ (a' := ?_) ?_ ?_
    rotate_left
    ·show Act.put _ (some 26) _ = _
     simp only [Act.put, List.setIfInBounds_toArray, List.set_cons_zero, List.set_cons_succ, i64_w, i32_w]
     rfl
    refine one_ (i := 5) (N := some 29) #[true, true, true, true, true, true, false, false, false, false, false, false, false, false, false, false] rfl rfl (one_of HT_.out (by kernel_rfl)) (by decide) (fun K hK => ?_)
    refine goes_ Tryd.func16 (by kernel_rfl) rfl #[.agg #[.int .i64 t101, .int .i64 t102, .int .i64 t103, .slice Ao14 t104.length co14], .agg #[.int .i64 t107, .int .i64 t108, .int .i64 t109, .slice Ao16 t110.length co16]] (by rfl) rfl rfl (by (try simp only [List.map_toArray, List.map_cons, List.map_nil]);first | done | rfl | (simp only [List.length_drop, List.length_take];rfl)) ?_
    with_reducible refine (spec_ExSame.calls kj2 t101 t102 t103 _ _ t104 t107 t108 t109 _ _ t110 t123 _ ?side1 ?side2 ?side3 ?side4 A24.out).mono ?_
    (case side1 => repeat (first | exact (Kd.N_reads' HO106.out).2.2 | (with_reducible refine Kd.C_alloc ?_ _) | (with_reducible refine Kd.C_drewN ?_ _) | (with_reducible refine Kd.C_drew ?_)))
    (case side2 => exact (Kd.N_reads' HO106.out).2.1)
    (case side3 => repeat (first | exact (Kd.N_reads' HO112.out).2.2 | (with_reducible refine Kd.C_alloc ?_ _) | (with_reducible refine Kd.C_drewN ?_ _) | (with_reducible refine Kd.C_drew ?_)))
    (case side4 => exact (Kd.N_reads' HO112.out).2.1)
    rintro e w35 ⟨rfl, hb⟩
    refine ⟨_, rfl, ?_⟩
    replace HO106 := m0_ (Kd.N_below (by exact HO106.out) hb)
    replace HO112 := m0_ (Kd.N_below (by exact HO112.out) hb)
    replace HO120 := m0_ (Kd.N_below (by exact HO120.out) hb)
    replace BK113 := m0_ (blk_below BK113.out hb)
    replace BK114 := m0_ (blk_below BK114.out hb)
    replace BK121 := m0_ (blk_below BK121.out hb)
    replace HB := m0_ (below_step (by repeat (first | (with_reducible first | exact HB.out | apply below_alloc | apply pw_below_drewN | apply below_drew1 | refine below_set ?_ GE113.out | refine below_set ?_ GE114.out | refine below_set ?_ GE121.out) | exact HB.out)) hb)
    (try clear hb)
    (try clear hb2)
    (try clear hk)
    (try clear hi)
    refine hK.out _ _ ⟨(blk_cell BK113.out 0).trans rfl, (blk_cell BK113.out 1).trans rfl, (blk_cell BK113.out 2).trans rfl, (blk_cell BK113.out 3).trans rfl, (blk_cell BK114.out 0).trans rfl, (blk_cell BK114.out 1).trans rfl, (blk_cell BK114.out 2).trans rfl, (blk_cell BK114.out 3).trans rfl, (blk_cell BK121.out 0).trans rfl, (blk_cell BK121.out 1).trans rfl, (blk_cell BK121.out 2).trans rfl, (blk_cell BK121.out 3).trans rfl⟩ (fun hHeld => ?_)
    clear hK K
    refine norm_ (a' := ?_) ?_ ?_
    rotate_left
    ·show Act.put _ (some 29) _ = _
     simp only [Act.put, List.setIfInBounds_toArray, List.set_cons_zero, List.set_cons_succ, i64_w, i32_w]
     rfl
    refine pv_ 6 30 #[true, true, true, true, true, true, true, false, false, false, false, false, false, false, false, false] (any_of HT_.out (by kernel_rfl)) ?_
    refine pv_ 7 31 #[true, true, true, true, true, true, true, true, false, false, false, false, false, false, false, false] (any_of HT_.out (by kernel_rfl)) ?_
    refine take_ (i := 8) (N := some 32) (v := ?_) (a' := ?_) #[true, true, true, true, true, true, true, true, true, false, false, false, false, false, false, false] rfl rfl (take_ofW HT_.out HW_.out (by kernel_rfl)) (fun _ _ _ h => h) (Or.inl ⟨by rfl, ?_⟩) hHeld ?_ ?_
    rotate_left
    ·rintro w' ⟨s0, s1, s2, s3, s4, s5, s6, s7, s8, s9, s10, s11⟩
     go_simp
     with_reducible rfl
    rotate_left
    ·simp only [Act.put, List.setIfInBounds_toArray, List.set_cons_zero, List.set_cons_succ, i64_w, i32_w]
     rfl
    refine take_ (i := 9) (N := some 33) (v := ?_) (a' := ?_) #[true, true, true, true, true, true, true, true, true, true, false, false, false, false, false, false] rfl rfl (take_ofW HT_.out HW_.out (by kernel_rfl)) (fun _ _ _ h => h) (Or.inl ⟨by rfl, ?_⟩) hHeld ?_ ?_
    rotate_left
    ·rintro w' ⟨s0, s1, s2, s3, s4, s5, s6, s7, s8, s9, s10, s11⟩
     go_simp
     with_reducible rfl
    rotate_left
    ·simp only [Act.put, List.setIfInBounds_toArray, List.set_cons_zero, List.set_cons_succ, i64_w, i32_w]
     rfl
    refine take_ (i := 11) (N := some 35) (v := ?_) (a' := ?_) #[true, true, true, true, true, true, true, true, true, true, false, true, false, false, false, false] rfl rfl (take_ofW HT_.out HW_.out (by kernel_rfl)) (fun _ _ _ h => h) (Or.inl ⟨by rfl, ?_⟩) hHeld ?_ ?_
    rotate_left
    ·rintro w' ⟨s0, s1, s2, s3, s4, s5, s6, s7, s8, s9, s10, s11⟩
     go_simp
     with_reducible rfl
    rotate_left
    ·simp only [Act.put, List.setIfInBounds_toArray, List.set_cons_zero, List.set_cons_succ, i64_w, i32_w]
     rfl
    refine take_ (i := 12) (N := some 36) (v := ?_) (a' := ?_) #[true, true, true, true, true, true, true, true, true, true, false, true, true, false, false, false] rfl rfl (take_ofW HT_.out HW_.out (by kernel_rfl)) (fun _ _ _ h => h) (Or.inl ⟨by rfl, ?_⟩) hHeld ?_ ?_
    rotate_left
    ·rintro w' ⟨s0, s1, s2, s3, s4, s5, s6, s7, s8, s9, s10, s11⟩
     go_simp
     with_reducible rfl
    rotate_left
    ·simp only [Act.put, List.setIfInBounds_toArray, List.set_cons_zero, List.set_cons_succ, i64_w, i32_w]
     rfl
    refine one_ (i := 10) (N := some 34) #[true, true, true, true, true, true, true, true, true, true, true, true, true, false, false, false] rfl rfl (one_of HT_.out (by kernel_rfl)) (by decide) (fun K hK => ?_)
    refine goes_ Tryd.func15 (by kernel_rfl) rfl #[.agg #[.int .i64 t101, .int .i64 t102, .int .i64 t103, .slice Ao14 t104.length co14], .agg #[.int .i64 t115, .int .i64 t116, .int .i64 t117, .slice Ao22 t118.length co22]] (by rfl) rfl rfl (by (try simp only [List.map_toArray, List.map_cons, List.map_nil]);first | done | rfl | (simp only [List.length_drop, List.length_take];rfl)) ?_
    with_reducible refine (impl_ExSame.calls kj2 t101 t102 t103 _ _ t104 t115 t116 t117 _ _ t118 t124 _ ?side1 ?side2 ?side3 ?side4 A30.out).mono ?_
    (case side1 => repeat (first | exact (Kd.N_reads' HO106.out).2.2 | (with_reducible refine Kd.C_alloc ?_ _) | (with_reducible refine Kd.C_drewN ?_ _) | (with_reducible refine Kd.C_drew ?_)))
    (case side2 => exact (Kd.N_reads' HO106.out).2.1)
    (case side3 => repeat (first | exact (Kd.N_reads' HO120.out).2.2 | (with_reducible refine Kd.C_alloc ?_ _) | (with_reducible refine Kd.C_drewN ?_ _) | (with_reducible refine Kd.C_drew ?_)))
    (case side4 => exact (Kd.N_reads' HO120.out).2.1)
    rintro e w36 ⟨rfl, hb⟩
    refine ⟨_, rfl, ?_⟩
    replace HO106 := m0_ (Kd.N_below (by exact HO106.out) hb)
    replace HO112 := m0_ (Kd.N_below (by exact HO112.out) hb)
    replace HO120 := m0_ (Kd.N_below (by exact HO120.out) hb)
    replace BK113 := m0_ (blk_below BK113.out hb)
    replace BK114 := m0_ (blk_below BK114.out hb)
    replace BK121 := m0_ (blk_below BK121.out hb)
    replace HB := m0_ (below_step (by repeat (first | (with_reducible first | exact HB.out | apply below_alloc | apply pw_below_drewN | apply below_drew1 | refine below_set ?_ GE113.out | refine below_set ?_ GE114.out | refine below_set ?_ GE121.out) | exact HB.out)) hb)
    (try clear hb)
    (try clear hb2)
    (try clear hk)
    (try clear hi)
    refine hK.out _ _ ⟨(blk_cell BK113.out 0).trans rfl, (blk_cell BK113.out 1).trans rfl, (blk_cell BK113.out 2).trans rfl, (blk_cell BK113.out 3).trans rfl, (blk_cell BK114.out 0).trans rfl, (blk_cell BK114.out 1).trans rfl, (blk_cell BK114.out 2).trans rfl, (blk_cell BK114.out 3).trans rfl, (blk_cell BK121.out 0).trans rfl, (blk_cell BK121.out 1).trans rfl, (blk_cell BK121.out 2).trans rfl, (blk_cell BK121.out 3).trans rfl⟩ (fun hHeld => ?_)
    clear hK K
    refine norm_ (a' := ?_) ?_ ?_
    rotate_left
    ·show Act.put _ (some 34) _ = _
     simp only [Act.put, List.setIfInBounds_toArray, List.set_cons_zero, List.set_cons_succ, i64_w, i32_w]
     rfl
    refine one_ (i := 13) (N := some 37) #[true, true, true, true, true, true, true, true, true, true, true, true, true, true, false, false] rfl rfl (one_of HT_.out (by kernel_rfl)) (by decide) (fun K hK => ?_)
    refine goes_ Tryd.func15 (by kernel_rfl) rfl #[.agg #[.int .i64 t115, .int .i64 t116, .int .i64 t117, .slice Ao22 t118.length co22], .agg #[.int .i64 t101, .int .i64 t102, .int .i64 t103, .slice Ao14 t104.length co14]] (by rfl) rfl rfl (by (try simp only [List.map_toArray, List.map_cons, List.map_nil]);first | done | rfl | (simp only [List.length_drop, List.length_take];rfl)) ?_
    with_reducible refine (impl_ExSame.calls kj2 t115 t116 t117 _ _ t118 t101 t102 t103 _ _ t104 t125 _ ?side1 ?side2 ?side3 ?side4 A31.out).mono ?_
    (case side1 => repeat (first | exact (Kd.N_reads' HO120.out).2.2 | (with_reducible refine Kd.C_alloc ?_ _) | (with_reducible refine Kd.C_drewN ?_ _) | (with_reducible refine Kd.C_drew ?_)))
    (case side2 => exact (Kd.N_reads' HO120.out).2.1)
    (case side3 => repeat (first | exact (Kd.N_reads' HO106.out).2.2 | (with_reducible refine Kd.C_alloc ?_ _) | (with_reducible refine Kd.C_drewN ?_ _) | (with_reducible refine Kd.C_drew ?_)))
    (case side4 => exact (Kd.N_reads' HO106.out).2.1)
    rintro e w37 ⟨rfl, hb⟩
    refine ⟨_, rfl, ?_⟩
    replace HO106 := m0_ (Kd.N_below (by exact HO106.out) hb)
    replace HO112 := m0_ (Kd.N_below (by exact HO112.out) hb)
    replace HO120 := m0_ (Kd.N_below (by exact HO120.out) hb)
    replace BK113 := m0_ (blk_below BK113.out hb)
    replace BK114 := m0_ (blk_below BK114.out hb)
    replace BK121 := m0_ (blk_below BK121.out hb)
    replace HB := m0_ (below_step (by repeat (first | (with_reducible first | exact HB.out | apply below_alloc | apply pw_below_drewN | apply below_drew1 | refine below_set ?_ GE113.out | refine below_set ?_ GE114.out | refine below_set ?_ GE121.out) | exact HB.out)) hb)
    (try clear hb)
    (try clear hb2)
    (try clear hk)
    (try clear hi)
    refine hK.out _ _ ⟨(blk_cell BK113.out 0).trans rfl, (blk_cell BK113.out 1).trans rfl, (blk_cell BK113.out 2).trans rfl, (blk_cell BK113.out 3).trans rfl, (blk_cell BK114.out 0).trans rfl, (blk_cell BK114.out 1).trans rfl, (blk_cell BK114.out 2).trans rfl, (blk_cell BK114.out 3).trans rfl, (blk_cell BK121.out 0).trans rfl, (blk_cell BK121.out 1).trans rfl, (blk_cell BK121.out 2).trans rfl, (blk_cell BK121.out 3).trans rfl⟩ (fun hHeld => ?_)
    clear hK K
    refine norm_ (a' := ?_) ?_ ?_
    rotate_left
    ·show Act.put _ (some 37) _ = _
     simp only [Act.put, List.setIfInBounds_toArray, List.set_cons_zero, List.set_cons_succ, i64_w, i32_w]
     rfl
    refine pv_ 14 38 #[true, true, true, true, true, true, true, true, true, true, true, true, true, true, true, false] (any_of HT_.out (by kernel_rfl)) ?_
    refine pv_ 15 39 #[true, true, true, true, true, true, true, true, true, true, true, true, true, true, true, true] (any_of HT_.out (by kernel_rfl)) ?_
    refine done_ (done_of HT_.out (by kernel_rfl)) ?_
    try go_wp2
    go_meet
    case rel => exact ⟨_, ((t124 != t125)), (by first | rfl | (simp;done) | (simp [*];done)), H', ⟨by have := HJ2.out;first | omega | exact Nat.le_refl _⟩, ⟨by (with_reducible repeat (first | apply Kd.N_alloc | apply Kd.N_drewN | apply Kd.N_drew));exact HO106.out⟩, ⟨by (with_reducible repeat (first | apply Kd.N_alloc | apply Kd.N_drewN | apply Kd.N_drew));exact HO112.out⟩, ⟨by (with_reducible repeat (first | apply Kd.N_alloc | apply Kd.N_drewN | apply Kd.N_drew));exact HO120.out⟩, ⟨by (with_reducible repeat (first | refine blk_drewN ?_ _ | refine blk_drew ?_ | refine blk_alloc ?_ _));exact BK113.out⟩, ⟨by (with_reducible repeat (first | refine blk_drewN ?_ _ | refine blk_drew ?_ | refine blk_alloc ?_ _));exact BK114.out⟩, ⟨by (with_reducible repeat (first | refine blk_drewN ?_ _ | refine blk_drew ?_ | refine blk_alloc ?_ _));exact BK121.out⟩, ⟨by repeat (first | (with_reducible first | exact HB.out | apply below_alloc | apply pw_below_drewN | apply below_drew1 | refine below_set ?_ GE113.out | refine below_set ?_ GE114.out | refine below_set ?_ GE121.out) | exact HB.out)⟩⟩
   case rest =>
    clear HC8
    try clear c1
    try clear c2
    try clear p2
    try clear c5
    try clear c12
    try clear c13
    try clear c14
    try clear c15
    try clear c16
    try clear c19
    try clear c20
    try clear c25
    try clear c25b0
    try clear c25b1
    try clear c25b2
    try clear hcz13_0
    try clear hcz13_1
    try clear hcz13_2
    try clear hcz13_3
    try clear hcz15_0
    try clear hcz15_1
    try clear hcz15_2
    try clear hcz15_3
    try clear hcz21_0
    try clear hcz21_1
    try clear hcz21_2
    try clear hcz21_3
    try clear hfz13_0
    try clear hfz13_1
    try clear hfz13_2
    try clear hfz13_3
    try clear hfz15_0
    try clear hfz15_1
    try clear hfz15_2
    try clear hfz15_3
    try clear hfz21_0
    try clear hfz21_1
    try clear hfz21_2
    try clear hfz21_3
    obtain ⟨kq, x39_7, rfl, HA, HJ7, HO_114003, HO_115003, HO_122003, BK113, BK114, BK121, HB⟩ := hcut
    cases kq with
    | zero => exact absurd HA.out (by simp [laws_FnExSame.j1])
    | succ kj7 =>
     have H := HA.out
     clear HA
     simp only [laws_FnExSame.j1] at H
     by_cases c38 : x39_7 = true
     ·subst c38
      have H1 : (some false) = some r := by rw [if_pos rfl] at H;exact H
      clear H
      have H := H1
      clear H1
      exact absurd (Option.some.inj H) (by rw [hT_.out];decide)
     replace c38 := Bool.eq_false_iff.mpr c38
     subst c38
     have H1 : (laws_FnExSame.l0 kj7 0 t101 t102 t103 t104 t107 t108 t109 t110 t115 t116 t117 t118) = some r := by rw [if_neg (show ¬ (false = true) by decide)] at H;exact H
     clear H
     have H := H1
     clear H1
     have H' := m0_ H
     clear H
     go_wp2
     go_loopg [8] kj7 (fun kq v8 w' => ∃ (x8_3 : Int), v8 = .int .i64 x8_3 ∧ Aside0 (laws_FnExSame.l0 kq x8_3 t101 t102 t103 t104 t107 t108 t109 t110 t115 t116 t117 t118 = some r) ∧ Aside0 (kq ≤ kj7) ∧ Aside0 (Kd.N k29 29 w' w.heap.size (fun k_ => some k_ ≠ ((.slice Ao16 t110.length co16) : Value).ownBlock ∧ some k_ ≠ ((.slice Ao22 t118.length co22) : Value).ownBlock ∧ k_ ≠ gb113 ∧ k_ ≠ gb114 ∧ k_ ≠ gb121) (.slice Ao14 t104.length co14) t104) ∧ Aside0 (Kd.N k29 29 w' w.heap.size (fun k_ => some k_ ≠ ((.slice Ao14 t104.length co14) : Value).ownBlock ∧ some k_ ≠ ((.slice Ao22 t118.length co22) : Value).ownBlock ∧ k_ ≠ gb113 ∧ k_ ≠ gb114 ∧ k_ ≠ gb121) (.slice Ao16 t110.length co16) t110) ∧ Aside0 (Kd.N k29 29 w' w.heap.size (fun k_ => some k_ ≠ ((.slice Ao14 t104.length co14) : Value).ownBlock ∧ some k_ ≠ ((.slice Ao16 t110.length co16) : Value).ownBlock ∧ k_ ≠ gb113 ∧ k_ ≠ gb114 ∧ k_ ≠ gb121) (.slice Ao22 t118.length co22) t118) ∧ Aside0 (w'.heap[gb113]? = some (.cells #[.int .i64 t101, .int .i64 t102, .int .i64 t103, (.slice Ao14 t104.length co14)] 29 (0, 0))) ∧ Aside0 (w'.heap[gb114]? = some (.cells #[.int .i64 t107, .int .i64 t108, .int .i64 t109, (.slice Ao16 t110.length co16)] 29 (0, 0))) ∧ Aside0 (w'.heap[gb121]? = some (.cells #[.int .i64 t115, .int .i64 t116, .int .i64 t117, (.slice Ao22 t118.length co22)] 29 (0, 0))) ∧ Aside0 (Below w.heap.size w w'))
     case atStart => exact ⟨(0), (by first | rfl | (simp;done) | (simp [*];done)), H', ⟨Nat.le_refl _⟩, ⟨by (with_reducible repeat (first | apply Kd.N_alloc | apply Kd.N_drewN | apply Kd.N_drew));exact HO_114003.out⟩, ⟨by (with_reducible repeat (first | apply Kd.N_alloc | apply Kd.N_drewN | apply Kd.N_drew));exact HO_115003.out⟩, ⟨by (with_reducible repeat (first | apply Kd.N_alloc | apply Kd.N_drewN | apply Kd.N_drew));exact HO_122003.out⟩, ⟨by (with_reducible repeat (first | refine blk_drewN ?_ _ | refine blk_drew ?_ | refine blk_alloc ?_ _));exact BK113.out⟩, ⟨by (with_reducible repeat (first | refine blk_drewN ?_ _ | refine blk_drew ?_ | refine blk_alloc ?_ _));exact BK114.out⟩, ⟨by (with_reducible repeat (first | refine blk_drewN ?_ _ | refine blk_drew ?_ | refine blk_alloc ?_ _));exact BK121.out⟩, ⟨by repeat (first | (with_reducible first | exact HB.out | apply below_alloc | apply pw_below_drewN | apply below_drew1 | refine below_set ?_ GE113.out | refine below_set ?_ GE114.out | refine below_set ?_ GE121.out) | exact HB.out)⟩⟩
     case round =>
      clear H'
      try clear c1
      try clear c2
      try clear p2
      try clear c3
      try clear c5
      try clear c12
      try clear c13
      try clear c14
      try clear c15
      try clear c16
      try clear c19
      try clear c20
      try clear c25
      try clear c25b0
      try clear c25b1
      try clear c25b2
      try clear c38
      try clear hcz13_0
      try clear hcz13_1
      try clear hcz13_2
      try clear hcz13_3
      try clear hcz15_0
      try clear hcz15_1
      try clear hcz15_2
      try clear hcz15_3
      try clear hcz21_0
      try clear hcz21_1
      try clear hcz21_2
      try clear hcz21_3
      try clear hfz13_0
      try clear hfz13_1
      try clear hfz13_2
      try clear hfz13_3
      try clear hfz15_0
      try clear hfz15_1
      try clear hfz15_2
      try clear hfz15_3
      try clear hfz21_0
      try clear hfz21_1
      try clear hfz21_2
      try clear hfz21_3
      try clear p2
      obtain ⟨x8_3, rfl, HA, HK3, HO_114003, HO_115003, HO_122003, BK113, BK114, BK121, HB⟩ := hrel
      cases gk with
      | zero => exact absurd HA.out (by simp [laws_FnExSame.l0])
      | succ k3 =>
       have H := HA.out
       clear HA
       simp only [laws_FnExSame.l0] at H
       by_cases c39 : x8_3 < (t104.length : Int)
       ·rw [if_pos c39] at H
        have c39b0 : decide (x8_3 < (t104.length : Int)) = true := decide_eq_true c39
        clear c39
        by_cases c40 : 0 ≤ x8_3
        rotate_left
        ·rw [if_neg c40] at H
         exact absurd H (by simp)
        rw [if_pos c40] at H
        have c40b0 : decide (0 ≤ x8_3) = true := decide_eq_true c40
        clear c40
        replace H := Option.bind_eq_some_iff.mp H
        obtain ⟨t127, A410, H⟩ := H
        replace H : (if t127 = true then (some false) else (laws_FnExSame.l0 k3 (wrap64 (x8_3 + 1)) t101 t102 t103 t104 t107 t108 t109 t110 t115 t116 t117 t118)) = some r := H
        have A41 := m0_ A410
        clear A410
        by_cases c42 : t127 = true
        ·subst c42
         have H1 : (some false) = some r := by rw [if_pos rfl] at H;exact H
         clear H
         have H := H1
         clear H1
         exact absurd (Option.some.inj H) (by rw [hT_.out];decide)
        replace c42 := Bool.eq_false_iff.mpr c42
        subst c42
        have H1 : (laws_FnExSame.l0 k3 (wrap64 (x8_3 + 1)) t101 t102 t103 t104 t107 t108 t109 t110 t115 t116 t117 t118) = some r := by rw [if_neg (show ¬ (false = true) by decide)] at H;exact H
        clear H
        have H := H1
        clear H1
        have H' := m0_ H
        clear H
        have hnb43 := NB113_114.out
        have hnc43 := NB114_113.out
        have hnb44 := NB113_121.out
        have hnc44 := NB121_113.out
        obtain ⟨hcz45_0, hcz45_1, hcz45_2, hcz45_3, hfz45_0, hfz45_1, hfz45_2, hfz45_3⟩ := bx4 BK113.out
        try go_wp2
        replace HO_114003 := m0_ (Kd.N_drew HO_114003.out)
        replace HO_115003 := m0_ (Kd.N_drew HO_115003.out)
        replace HO_122003 := m0_ (Kd.N_drew HO_122003.out)
        replace BK113 := m0_ (blk_drew BK113.out)
        replace BK114 := m0_ (blk_drew BK114.out)
        replace BK121 := m0_ (blk_drew BK121.out)
        replace HB := m0_ (below_drew1 HB.out)
        have p126 : 0 ≤ (x8_3 : Int) := of_decide_eq_true (by first | (with_reducible assumption) | assumption)
        have q126 : x8_3 < (t104.length : Int) := of_decide_eq_true (by first | (with_reducible assumption) | assumption)
        obtain ⟨ad126, A126_3, c126_3, e126, hx126_0, hx126_1, hx126_2, hx126_3, hl126_3, hi126_3⟩ := at_T29 (Kd.N_reads' HO_114003.out).2.2 x8_3 p126 q126
        cases e126
        obtain ⟨ce126, hce126, hMe126, hcc126⟩ := Kd.N_get HO_114003.out z29 x8_3 p126 (by first | exact q126 | exact of_decide_eq_true (by first | (with_reducible assumption) | assumption) | (have e_ := (Kd.N_reads' HO_114003.out).1;omega))
        obtain ⟨ua126_3, uc126_3, rfl, ul126_3, ge126_3⟩ := k29_openF hMe126
        have hv126_3 := hcc126 3 _ rfl
        rw [add_field _ _ 3 (by omega)] at hv126_3
        replace hv126_3 := Option.some.inj (hv126_3.symm.trans hx126_3)
        injection hv126_3 with hva_ hvn_ hvc_
        rw [hva_] at ge126_3
        rw [hvc_] at ul126_3
        have HL126_3 := m0_ (show Kd.V k29 29 _ w.heap.size _ _ ((rd_T29 t104 x8_3).f3) from Kd.V_mk ul126_3 ge126_3)
        clear hva_ hvn_ hvc_ ge126_3 ul126_3
        clear hcc126 hce126
        have HR126_3 := m0_ hi126_3
        have HC126_3 := m0_ hl126_3
        clear hi126_3 hl126_3
        replace p126 := eq_true p126
        replace q126 := eq_true q126
        refine start_ (n := 7) (S := fun w' => w'.cell? ⟨gb113, 0, none⟩ = some (.int .i64 t101) ∧ w'.cell? ⟨gb113, 1, none⟩ = some (.int .i64 t102) ∧ w'.cell? ⟨gb113, 2, none⟩ = some (.int .i64 t103) ∧ w'.cell? ⟨gb113, 3, none⟩ = some (.slice (some ad126) t104.length co14) ∧ w'.cell? (ad126.add ((x8_3).toNat * 4)) = some (.int .i64 ((rd_T29 t104 x8_3).f0)) ∧ w'.cell? ⟨(ad126.add ((x8_3).toNat * 4)).block, (ad126.add ((x8_3).toNat * 4)).off + 1, none⟩ = some (.int .i64 ((rd_T29 t104 x8_3).f1)) ∧ w'.cell? ⟨(ad126.add ((x8_3).toNat * 4)).block, (ad126.add ((x8_3).toNat * 4)).off + 2, none⟩ = some (.int .i64 ((rd_T29 t104 x8_3).f2)) ∧ w'.cell? ⟨(ad126.add ((x8_3).toNat * 4)).block, (ad126.add ((x8_3).toNat * 4)).off + 3, none⟩ = some (.slice A126_3 ((rd_T29 t104 x8_3).f3).length c126_3)) (ds := []) #[false, false, false, false, false, false, false] (by kernel_rfl) rfl rfl ⟨(blk_cell BK113.out 0).trans rfl, (blk_cell BK113.out 1).trans rfl, (blk_cell BK113.out 2).trans rfl, (blk_cell BK113.out 3).trans rfl, hx126_0, hx126_1, hx126_2, hx126_3⟩ (fun hHeld => ?_)
        generalize wr.drew = w46 at HO_114003 HO_115003 HO_122003 BK113 BK114 BK121 HB HL126_3 HR126_3 hx126_0 hx126_1 hx126_2 hx126_3 hHeld ⊢
        refine pv_ 1 48 #[false, true, false, false, false, false, false] (by kernel_rfl) ?_
        refine pv_ 3 50 #[false, true, false, true, false, false, false] (by kernel_rfl) ?_
        refine take_ (i := 0) (N := some 47) (v := ?_) (a' := ?_) #[true, true, false, true, false, false, false] rfl rfl (by kernel_rfl) (fun _ _ _ h => h) (Or.inl ⟨by rfl, ?_⟩) hHeld ?_ ?_
        rotate_left
        ·rintro w' ⟨s0, s1, s2, s3, s4, s5, s6, s7⟩
         go_simp
         with_reducible rfl
        rotate_left
        ·simp only [Act.put, List.setIfInBounds_toArray, List.set_cons_zero, List.set_cons_succ, i64_w, i32_w]
         rfl
        refine take_ (i := 2) (N := some 49) (v := ?_) (a' := ?_) #[true, true, true, true, false, false, false] rfl rfl (by kernel_rfl) (fun _ _ _ h => h) (Or.inl ⟨by rfl, ?_⟩) hHeld ?_ ?_
        rotate_left
        ·rintro w' ⟨s0, s1, s2, s3, s4, s5, s6, s7⟩
         go_simp
         with_reducible rfl
        rotate_left
        ·simp only [Act.put, List.setIfInBounds_toArray, List.set_cons_zero, List.set_cons_succ, i64_w, i32_w]
         rfl
        refine pv_ 4 51 #[true, true, true, true, true, false, false] (by kernel_rfl) ?_
        refine take_ (i := 5) (N := some 52) (v := ?_) (a' := ?_) #[true, true, true, true, true, true, false] rfl rfl (by kernel_rfl) (fun _ _ _ h => h) (Or.inl ⟨by rfl, ?_⟩) hHeld ?_ ?_
        rotate_left
        ·rintro w' ⟨s0, s1, s2, s3, s4, s5, s6, s7⟩
         go_simp
         with_reducible rfl
        rotate_left
        ·simp only [Act.put, List.setIfInBounds_toArray, List.set_cons_zero, List.set_cons_succ, i64_w, i32_w]
         rfl
        refine one_ (i := 6) (N := some 53) #[true, true, true, true, true, true, true] rfl rfl (by kernel_rfl) (by decide) (fun K hK => ?_)
        refine goes_ Tryd.func15 (by kernel_rfl) rfl #[.agg #[.int .i64 t101, .int .i64 t102, .int .i64 t103, .slice (some ad126) t104.length co14], .agg #[.int .i64 ((rd_T29 t104 x8_3).f0), .int .i64 ((rd_T29 t104 x8_3).f1), .int .i64 ((rd_T29 t104 x8_3).f2), .slice A126_3 ((rd_T29 t104 x8_3).f3).length c126_3]] (by rfl) rfl rfl (by (try simp only [List.map_toArray, List.map_cons, List.map_nil]);first | done | rfl | (simp only [List.length_drop, List.length_take];rfl)) ?_
        with_reducible refine (impl_ExSame.calls k3 t101 t102 t103 _ _ t104 ((rd_T29 t104 x8_3).f0) ((rd_T29 t104 x8_3).f1) ((rd_T29 t104 x8_3).f2) _ _ ((rd_T29 t104 x8_3).f3) false _ ?side1 ?side2 ?side3 ?side4 A41.out).mono ?_
        (case side1 => repeat (first | exact (Kd.N_reads' HO_114003.out).2.2 | (with_reducible refine Kd.C_alloc ?_ _) | (with_reducible refine Kd.C_drewN ?_ _) | (with_reducible refine Kd.C_drew ?_)))
        (case side2 => exact (Kd.N_reads' HO_114003.out).2.1)
        (case side3 => repeat (first | exact (by repeat (first | (with_reducible exact HR126_3.out) | (with_reducible refine Kd.C_alloc ?_ _) | (with_reducible refine Kd.C_drewN ?_ _) | (with_reducible refine Kd.C_drew ?_) | exact HR126_3.out)) | (with_reducible refine Kd.C_alloc ?_ _) | (with_reducible refine Kd.C_drewN ?_ _) | (with_reducible refine Kd.C_drew ?_)))
        (case side4 => exact HC126_3.out)
        rintro e w47 ⟨rfl, hb⟩
        have HS4_ := (hb.cell (World.block_lt_of_cell? _ _ (hHeld.2.2.2.2.1))).trans (hHeld.2.2.2.2.1)
        have HS5_ := (hb.cell (World.block_lt_of_cell? _ _ (hHeld.2.2.2.2.2.1))).trans (hHeld.2.2.2.2.2.1)
        have HS6_ := (hb.cell (World.block_lt_of_cell? _ _ (hHeld.2.2.2.2.2.2.1))).trans (hHeld.2.2.2.2.2.2.1)
        have HS7_ := (hb.cell (World.block_lt_of_cell? _ _ (hHeld.2.2.2.2.2.2.2))).trans (hHeld.2.2.2.2.2.2.2)
        refine ⟨_, rfl, ?_⟩
        replace HO_114003 := m0_ (Kd.N_below (by exact HO_114003.out) hb)
        replace HO_115003 := m0_ (Kd.N_below (by exact HO_115003.out) hb)
        replace HO_122003 := m0_ (Kd.N_below (by exact HO_122003.out) hb)
        replace HL126_3 := m0_ (Kd.V_below (by exact HL126_3.out) hb)
        replace BK113 := m0_ (blk_below BK113.out hb)
        replace BK114 := m0_ (blk_below BK114.out hb)
        replace BK121 := m0_ (blk_below BK121.out hb)
        replace HR126_3 := m0_ (Kd.C_below (by repeat (first | (with_reducible exact HR126_3.out) | (with_reducible refine Kd.C_alloc ?_ _) | (with_reducible refine Kd.C_drewN ?_ _) | (with_reducible refine Kd.C_drew ?_) | exact HR126_3.out)) hb)
        replace HB := m0_ (below_step (by repeat (first | (with_reducible first | exact HB.out | apply below_alloc | apply pw_below_drewN | apply below_drew1 | refine below_set ?_ GE113.out | refine below_set ?_ GE114.out | refine below_set ?_ GE121.out) | exact HB.out)) hb)
        (try clear hb)
        (try clear hb2)
        (try clear hk)
        (try clear hi)
        refine hK.out _ _ ⟨(blk_cell BK113.out 0).trans rfl, (blk_cell BK113.out 1).trans rfl, (blk_cell BK113.out 2).trans rfl, (blk_cell BK113.out 3).trans rfl, HS4_, HS5_, HS6_, HS7_⟩ (fun hHeld => ?_)
        clear hK K
        refine norm_ (a' := ?_) ?_ ?_
        rotate_left
        ·show Act.put _ (some 53) _ = _
         simp only [Act.put, List.setIfInBounds_toArray, List.set_cons_zero, List.set_cons_succ, i64_w, i32_w]
         rfl
        refine done_ (by kernel_rfl) ?_
        try go_wp2
        go_roundg k3
        case measure => have := HJ2.out;have := HJ7.out;have := HK3.out;omega
        case rel => exact ⟨(wrap64 (x8_3 + 1)), (by first | rfl | (simp;done) | (simp [*];done)), H', ⟨by have := HJ2.out;have := HJ7.out;have := HK3.out;omega⟩, ⟨by (with_reducible repeat (first | apply Kd.N_alloc | apply Kd.N_drewN | apply Kd.N_drew));exact HO_114003.out⟩, ⟨by (with_reducible repeat (first | apply Kd.N_alloc | apply Kd.N_drewN | apply Kd.N_drew));exact HO_115003.out⟩, ⟨by (with_reducible repeat (first | apply Kd.N_alloc | apply Kd.N_drewN | apply Kd.N_drew));exact HO_122003.out⟩, ⟨by (with_reducible repeat (first | refine blk_drewN ?_ _ | refine blk_drew ?_ | refine blk_alloc ?_ _));exact BK113.out⟩, ⟨by (with_reducible repeat (first | refine blk_drewN ?_ _ | refine blk_drew ?_ | refine blk_alloc ?_ _));exact BK114.out⟩, ⟨by (with_reducible repeat (first | refine blk_drewN ?_ _ | refine blk_drew ?_ | refine blk_alloc ?_ _));exact BK121.out⟩, ⟨by repeat (first | (with_reducible first | exact HB.out | apply below_alloc | apply pw_below_drewN | apply below_drew1 | refine below_set ?_ GE113.out | refine below_set ?_ GE114.out | refine below_set ?_ GE121.out) | exact HB.out)⟩⟩
       rw [if_neg c39] at H
       have c39b0 : decide (x8_3 < (t104.length : Int)) = false := decide_eq_false c39
       clear c39
       have HC48 := m0_ H
       clear H
       have hnb49 := NB113_114.out
       have hnc49 := NB114_113.out
       have hnb50 := NB113_121.out
       have hnc50 := NB121_113.out
       obtain ⟨hcz51_0, hcz51_1, hcz51_2, hcz51_3, hfz51_0, hfz51_1, hfz51_2, hfz51_3⟩ := bx4 BK113.out
       go_upto_region 12 with (fail)
       go_cut [66] (fun v66 wc => ∃ (kq : Nat) (x66_47 : Bool), v66 = .bool x66_47 ∧ Aside0 (laws_FnExSame.j3 kq x66_47 t101 t102 t103 t104 t107 t108 t109 t110 t115 t116 t117 t118 = some r) ∧ Aside0 (kq ≤ k3) ∧ Aside0 (Kd.N k29 29 wc w.heap.size (fun k_ => some k_ ≠ ((.slice Ao16 t110.length co16) : Value).ownBlock ∧ some k_ ≠ ((.slice Ao22 t118.length co22) : Value).ownBlock ∧ k_ ≠ gb113 ∧ k_ ≠ gb114 ∧ k_ ≠ gb121) (.slice Ao14 t104.length co14) t104) ∧ Aside0 (Kd.N k29 29 wc w.heap.size (fun k_ => some k_ ≠ ((.slice Ao14 t104.length co14) : Value).ownBlock ∧ some k_ ≠ ((.slice Ao22 t118.length co22) : Value).ownBlock ∧ k_ ≠ gb113 ∧ k_ ≠ gb114 ∧ k_ ≠ gb121) (.slice Ao16 t110.length co16) t110) ∧ Aside0 (Kd.N k29 29 wc w.heap.size (fun k_ => some k_ ≠ ((.slice Ao14 t104.length co14) : Value).ownBlock ∧ some k_ ≠ ((.slice Ao16 t110.length co16) : Value).ownBlock ∧ k_ ≠ gb113 ∧ k_ ≠ gb114 ∧ k_ ≠ gb121) (.slice Ao22 t118.length co22) t118) ∧ Aside0 (wc.heap[gb113]? = some (.cells #[.int .i64 t101, .int .i64 t102, .int .i64 t103, (.slice Ao14 t104.length co14)] 29 (0, 0))) ∧ Aside0 (wc.heap[gb114]? = some (.cells #[.int .i64 t107, .int .i64 t108, .int .i64 t109, (.slice Ao16 t110.length co16)] 29 (0, 0))) ∧ Aside0 (wc.heap[gb121]? = some (.cells #[.int .i64 t115, .int .i64 t116, .int .i64 t117, (.slice Ao22 t118.length co22)] 29 (0, 0))) ∧ Aside0 (Below w.heap.size w wc))
       case first =>
        have H := HC48.out
        clear HC48
        replace H := Option.bind_eq_some_iff.mp H
        obtain ⟨t128, A520, H⟩ := H
        replace H : (if t128 = true then ((spec_ExOk.f k3 t107 t108 t109 t110).bind fun t129 => (if t129 = true then ((spec_ExOk.f k3 t115 t116 t117 t118).bind fun t130 => (laws_FnExSame.j3 k3 (!t130) t101 t102 t103 t104 t107 t108 t109 t110 t115 t116 t117 t118)) else (laws_FnExSame.j3 k3 true t101 t102 t103 t104 t107 t108 t109 t110 t115 t116 t117 t118))) else (laws_FnExSame.j3 k3 true t101 t102 t103 t104 t107 t108 t109 t110 t115 t116 t117 t118)) = some r := H
        have A52 := m0_ A520
        clear A520
        by_cases c53 : t128 = true
        rotate_left
        ·replace c53 := Bool.eq_false_iff.mpr c53
         subst c53
         have H1 : (laws_FnExSame.j3 k3 true t101 t102 t103 t104 t107 t108 t109 t110 t115 t116 t117 t118) = some r := by rw [if_neg (show ¬ (false = true) by decide)] at H;exact H
         clear H
         have H := H1
         clear H1
         have H' := m0_ H
         clear H
         have hnb73 := NB113_114.out
         have hnc73 := NB114_113.out
         have hnb74 := NB113_121.out
         have hnc74 := NB121_113.out
         obtain ⟨hcz75_0, hcz75_1, hcz75_2, hcz75_3, hfz75_0, hfz75_1, hfz75_2, hfz75_3⟩ := bx4 BK113.out
         go_wp2_with (first | ((with_reducible refine gate_callee (f := 17) rfl ?_);refine goesL_ (some 55) rfl rfl Tryd.func17 (by kernel_rfl) rfl #[.agg #[.int .i64 t101, .int .i64 t102, .int .i64 t103, .slice Ao14 t104.length co14]] rfl (by (try simp only [List.map_toArray, List.map_cons, List.map_nil]);first | done | rfl | (simp only [List.length_drop, List.length_take];rfl)) ?_;(with_reducible refine (spec_ExOk.calls k3 t101 t102 t103 _ _ t104 false _ ?side1 ?side2 A52.out).mono ?_);(case side1 => repeat (first | exact (Kd.N_reads' HO_114003.out).2.2 | (with_reducible refine Kd.C_alloc ?_ _) | (with_reducible refine Kd.C_drewN ?_ _) | (with_reducible refine Kd.C_drew ?_)));(case side2 => exact (Kd.N_reads' HO_114003.out).2.1);rintro e w76 ⟨rfl, hb⟩;refine ⟨_, rfl, ?_⟩;replace HO_114003 := m0_ (Kd.N_below (by exact HO_114003.out) hb);replace HO_115003 := m0_ (Kd.N_below (by exact HO_115003.out) hb);replace HO_122003 := m0_ (Kd.N_below (by exact HO_122003.out) hb);replace BK113 := m0_ (blk_below BK113.out hb);replace BK114 := m0_ (blk_below BK114.out hb);replace BK121 := m0_ (blk_below BK121.out hb);replace HB := m0_ (below_step (by repeat (first | (with_reducible first | exact HB.out | apply below_alloc | apply pw_below_drewN | apply below_drew1 | refine below_set ?_ GE113.out | refine below_set ?_ GE114.out | refine below_set ?_ GE121.out) | exact HB.out)) hb);(try clear hb);(try clear hb2);(try clear hk);(try clear hi)))
         go_meet
         case rel => exact ⟨_, (true), (by first | rfl | (simp;done) | (simp [*];done)), H', ⟨by have := HJ2.out;have := HJ7.out;have := HK3.out;first | omega | exact Nat.le_refl _⟩, ⟨by (with_reducible repeat (first | apply Kd.N_alloc | apply Kd.N_drewN | apply Kd.N_drew));exact HO_114003.out⟩, ⟨by (with_reducible repeat (first | apply Kd.N_alloc | apply Kd.N_drewN | apply Kd.N_drew));exact HO_115003.out⟩, ⟨by (with_reducible repeat (first | apply Kd.N_alloc | apply Kd.N_drewN | apply Kd.N_drew));exact HO_122003.out⟩, ⟨by (with_reducible repeat (first | refine blk_drewN ?_ _ | refine blk_drew ?_ | refine blk_alloc ?_ _));exact BK113.out⟩, ⟨by (with_reducible repeat (first | refine blk_drewN ?_ _ | refine blk_drew ?_ | refine blk_alloc ?_ _));exact BK114.out⟩, ⟨by (with_reducible repeat (first | refine blk_drewN ?_ _ | refine blk_drew ?_ | refine blk_alloc ?_ _));exact BK121.out⟩, ⟨by repeat (first | (with_reducible first | exact HB.out | apply below_alloc | apply pw_below_drewN | apply below_drew1 | refine below_set ?_ GE113.out | refine below_set ?_ GE114.out | refine below_set ?_ GE121.out) | exact HB.out)⟩⟩
        subst c53
        have H1 : ((spec_ExOk.f k3 t107 t108 t109 t110).bind fun t129 => (if t129 = true then ((spec_ExOk.f k3 t115 t116 t117 t118).bind fun t130 => (laws_FnExSame.j3 k3 (!t130) t101 t102 t103 t104 t107 t108 t109 t110 t115 t116 t117 t118)) else (laws_FnExSame.j3 k3 true t101 t102 t103 t104 t107 t108 t109 t110 t115 t116 t117 t118))) = some r := by rw [if_pos rfl] at H;exact H
        clear H
        have H := H1
        clear H1
        replace H := Option.bind_eq_some_iff.mp H
        obtain ⟨t129, A540, H⟩ := H
        replace H : (if t129 = true then ((spec_ExOk.f k3 t115 t116 t117 t118).bind fun t130 => (laws_FnExSame.j3 k3 (!t130) t101 t102 t103 t104 t107 t108 t109 t110 t115 t116 t117 t118)) else (laws_FnExSame.j3 k3 true t101 t102 t103 t104 t107 t108 t109 t110 t115 t116 t117 t118)) = some r := H
        have A54 := m0_ A540
        clear A540
        by_cases c55 : t129 = true
        rotate_left
        ·replace c55 := Bool.eq_false_iff.mpr c55
         subst c55
         have H1 : (laws_FnExSame.j3 k3 true t101 t102 t103 t104 t107 t108 t109 t110 t115 t116 t117 t118) = some r := by rw [if_neg (show ¬ (false = true) by decide)] at H;exact H
         clear H
         have H := H1
         clear H1
         have H' := m0_ H
         clear H
         have hnb66 := NB113_114.out
         have hnc66 := NB114_113.out
         have hnb67 := NB113_121.out
         have hnc67 := NB121_113.out
         obtain ⟨hcz68_0, hcz68_1, hcz68_2, hcz68_3, hfz68_0, hfz68_1, hfz68_2, hfz68_3⟩ := bx4 BK113.out
         go_wp2_with (first | ((with_reducible refine gate_callee (f := 17) rfl ?_);refine goesL_ (some 55) rfl rfl Tryd.func17 (by kernel_rfl) rfl #[.agg #[.int .i64 t101, .int .i64 t102, .int .i64 t103, .slice Ao14 t104.length co14]] rfl (by (try simp only [List.map_toArray, List.map_cons, List.map_nil]);first | done | rfl | (simp only [List.length_drop, List.length_take];rfl)) ?_;(with_reducible refine (spec_ExOk.calls k3 t101 t102 t103 _ _ t104 true _ ?side1 ?side2 A52.out).mono ?_);(case side1 => repeat (first | exact (Kd.N_reads' HO_114003.out).2.2 | (with_reducible refine Kd.C_alloc ?_ _) | (with_reducible refine Kd.C_drewN ?_ _) | (with_reducible refine Kd.C_drew ?_)));(case side2 => exact (Kd.N_reads' HO_114003.out).2.1);rintro e w69 ⟨rfl, hb⟩;refine ⟨_, rfl, ?_⟩;replace HO_114003 := m0_ (Kd.N_below (by exact HO_114003.out) hb);replace HO_115003 := m0_ (Kd.N_below (by exact HO_115003.out) hb);replace HO_122003 := m0_ (Kd.N_below (by exact HO_122003.out) hb);replace BK113 := m0_ (blk_below BK113.out hb);replace BK114 := m0_ (blk_below BK114.out hb);replace BK121 := m0_ (blk_below BK121.out hb);replace HB := m0_ (below_step (by repeat (first | (with_reducible first | exact HB.out | apply below_alloc | apply pw_below_drewN | apply below_drew1 | refine below_set ?_ GE113.out | refine below_set ?_ GE114.out | refine below_set ?_ GE121.out) | exact HB.out)) hb);(try clear hb);(try clear hb2);(try clear hk);(try clear hi);have hnb70 := NB114_121.out;have hnc70 := NB121_114.out;obtain ⟨hcz71_0, hcz71_1, hcz71_2, hcz71_3, hfz71_0, hfz71_1, hfz71_2, hfz71_3⟩ := bx4 BK114.out) | (go_at_call 17;(with_reducible refine (spec_ExOk.calls k3 t107 t108 t109 _ _ t110 false _ ?side1 ?side2 A54.out).mono ?_);(case side1 => repeat (first | exact (Kd.N_reads' HO_115003.out).2.2 | (with_reducible refine Kd.C_alloc ?_ _) | (with_reducible refine Kd.C_drewN ?_ _) | (with_reducible refine Kd.C_drew ?_)));(case side2 => exact (Kd.N_reads' HO_115003.out).2.1);rintro e w72 ⟨rfl, hb⟩;replace HO_114003 := m0_ (Kd.N_below (by exact HO_114003.out) hb);replace HO_115003 := m0_ (Kd.N_below (by exact HO_115003.out) hb);replace HO_122003 := m0_ (Kd.N_below (by exact HO_122003.out) hb);replace BK113 := m0_ (blk_below BK113.out hb);replace BK114 := m0_ (blk_below BK114.out hb);replace BK121 := m0_ (blk_below BK121.out hb);replace HB := m0_ (below_step (by repeat (first | (with_reducible first | exact HB.out | apply below_alloc | apply pw_below_drewN | apply below_drew1 | refine below_set ?_ GE113.out | refine below_set ?_ GE114.out | refine below_set ?_ GE121.out) | exact HB.out)) hb);(try clear hb);(try clear hb2);(try clear hk);(try clear hi)))
         go_meet
         case rel => exact ⟨_, (true), (by first | rfl | (simp;done) | (simp [*];done)), H', ⟨by have := HJ2.out;have := HJ7.out;have := HK3.out;first | omega | exact Nat.le_refl _⟩, ⟨by (with_reducible repeat (first | apply Kd.N_alloc | apply Kd.N_drewN | apply Kd.N_drew));exact HO_114003.out⟩, ⟨by (with_reducible repeat (first | apply Kd.N_alloc | apply Kd.N_drewN | apply Kd.N_drew));exact HO_115003.out⟩, ⟨by (with_reducible repeat (first | apply Kd.N_alloc | apply Kd.N_drewN | apply Kd.N_drew));exact HO_122003.out⟩, ⟨by (with_reducible repeat (first | refine blk_drewN ?_ _ | refine blk_drew ?_ | refine blk_alloc ?_ _));exact BK113.out⟩, ⟨by (with_reducible repeat (first | refine blk_drewN ?_ _ | refine blk_drew ?_ | refine blk_alloc ?_ _));exact BK114.out⟩, ⟨by (with_reducible repeat (first | refine blk_drewN ?_ _ | refine blk_drew ?_ | refine blk_alloc ?_ _));exact BK121.out⟩, ⟨by repeat (first | (with_reducible first | exact HB.out | apply below_alloc | apply pw_below_drewN | apply below_drew1 | refine below_set ?_ GE113.out | refine below_set ?_ GE114.out | refine below_set ?_ GE121.out) | exact HB.out)⟩⟩
        subst c55
        have H1 : ((spec_ExOk.f k3 t115 t116 t117 t118).bind fun t130 => (laws_FnExSame.j3 k3 (!t130) t101 t102 t103 t104 t107 t108 t109 t110 t115 t116 t117 t118)) = some r := by rw [if_pos rfl] at H;exact H
        clear H
        have H := H1
        clear H1
        replace H := Option.bind_eq_some_iff.mp H
        obtain ⟨t130, A560, H⟩ := H
        replace H : (laws_FnExSame.j3 k3 (!t130) t101 t102 t103 t104 t107 t108 t109 t110 t115 t116 t117 t118) = some r := H
        have A56 := m0_ A560
        clear A560
        have H' := m0_ H
        clear H
        have hnb57 := NB113_114.out
        have hnc57 := NB114_113.out
        have hnb58 := NB113_121.out
        have hnc58 := NB121_113.out
        obtain ⟨hcz59_0, hcz59_1, hcz59_2, hcz59_3, hfz59_0, hfz59_1, hfz59_2, hfz59_3⟩ := bx4 BK113.out
        go_wp2_with (first | ((with_reducible refine gate_callee (f := 17) rfl ?_);refine goesL_ (some 55) rfl rfl Tryd.func17 (by kernel_rfl) rfl #[.agg #[.int .i64 t101, .int .i64 t102, .int .i64 t103, .slice Ao14 t104.length co14]] rfl (by (try simp only [List.map_toArray, List.map_cons, List.map_nil]);first | done | rfl | (simp only [List.length_drop, List.length_take];rfl)) ?_;(with_reducible refine (spec_ExOk.calls k3 t101 t102 t103 _ _ t104 true _ ?side1 ?side2 A52.out).mono ?_);(case side1 => repeat (first | exact (Kd.N_reads' HO_114003.out).2.2 | (with_reducible refine Kd.C_alloc ?_ _) | (with_reducible refine Kd.C_drewN ?_ _) | (with_reducible refine Kd.C_drew ?_)));(case side2 => exact (Kd.N_reads' HO_114003.out).2.1);rintro e w60 ⟨rfl, hb⟩;refine ⟨_, rfl, ?_⟩;replace HO_114003 := m0_ (Kd.N_below (by exact HO_114003.out) hb);replace HO_115003 := m0_ (Kd.N_below (by exact HO_115003.out) hb);replace HO_122003 := m0_ (Kd.N_below (by exact HO_122003.out) hb);replace BK113 := m0_ (blk_below BK113.out hb);replace BK114 := m0_ (blk_below BK114.out hb);replace BK121 := m0_ (blk_below BK121.out hb);replace HB := m0_ (below_step (by repeat (first | (with_reducible first | exact HB.out | apply below_alloc | apply pw_below_drewN | apply below_drew1 | refine below_set ?_ GE113.out | refine below_set ?_ GE114.out | refine below_set ?_ GE121.out) | exact HB.out)) hb);(try clear hb);(try clear hb2);(try clear hk);(try clear hi);have hnb61 := NB114_121.out;have hnc61 := NB121_114.out;obtain ⟨hcz62_0, hcz62_1, hcz62_2, hcz62_3, hfz62_0, hfz62_1, hfz62_2, hfz62_3⟩ := bx4 BK114.out) | (go_at_call 17;(with_reducible refine (spec_ExOk.calls k3 t107 t108 t109 _ _ t110 true _ ?side1 ?side2 A54.out).mono ?_);(case side1 => repeat (first | exact (Kd.N_reads' HO_115003.out).2.2 | (with_reducible refine Kd.C_alloc ?_ _) | (with_reducible refine Kd.C_drewN ?_ _) | (with_reducible refine Kd.C_drew ?_)));(case side2 => exact (Kd.N_reads' HO_115003.out).2.1);rintro e w63 ⟨rfl, hb⟩;replace HO_114003 := m0_ (Kd.N_below (by exact HO_114003.out) hb);replace HO_115003 := m0_ (Kd.N_below (by exact HO_115003.out) hb);replace HO_122003 := m0_ (Kd.N_below (by exact HO_122003.out) hb);replace BK113 := m0_ (blk_below BK113.out hb);replace BK114 := m0_ (blk_below BK114.out hb);replace BK121 := m0_ (blk_below BK121.out hb);replace HB := m0_ (below_step (by repeat (first | (with_reducible first | exact HB.out | apply below_alloc | apply pw_below_drewN | apply below_drew1 | refine below_set ?_ GE113.out | refine below_set ?_ GE114.out | refine below_set ?_ GE121.out) | exact HB.out)) hb);(try clear hb);(try clear hb2);(try clear hk);(try clear hi);obtain ⟨hcz64_0, hcz64_1, hcz64_2, hcz64_3, hfz64_0, hfz64_1, hfz64_2, hfz64_3⟩ := bx4 BK121.out) | (go_at_call 17;(with_reducible refine (spec_ExOk.calls k3 t115 t116 t117 _ _ t118 t130 _ ?side1 ?side2 A56.out).mono ?_);(case side1 => repeat (first | exact (Kd.N_reads' HO_122003.out).2.2 | (with_reducible refine Kd.C_alloc ?_ _) | (with_reducible refine Kd.C_drewN ?_ _) | (with_reducible refine Kd.C_drew ?_)));(case side2 => exact (Kd.N_reads' HO_122003.out).2.1);rintro e w65 ⟨rfl, hb⟩;replace HO_114003 := m0_ (Kd.N_below (by exact HO_114003.out) hb);replace HO_115003 := m0_ (Kd.N_below (by exact HO_115003.out) hb);replace HO_122003 := m0_ (Kd.N_below (by exact HO_122003.out) hb);replace BK113 := m0_ (blk_below BK113.out hb);replace BK114 := m0_ (blk_below BK114.out hb);replace BK121 := m0_ (blk_below BK121.out hb);replace HB := m0_ (below_step (by repeat (first | (with_reducible first | exact HB.out | apply below_alloc | apply pw_below_drewN | apply below_drew1 | refine below_set ?_ GE113.out | refine below_set ?_ GE114.out | refine below_set ?_ GE121.out) | exact HB.out)) hb);(try clear hb);(try clear hb2);(try clear hk);(try clear hi)))
        go_meet
        case rel => exact ⟨_, (!t130), (by first | rfl | (simp;done) | (simp [*];done)), H', ⟨by have := HJ2.out;have := HJ7.out;have := HK3.out;first | omega | exact Nat.le_refl _⟩, ⟨by (with_reducible repeat (first | apply Kd.N_alloc | apply Kd.N_drewN | apply Kd.N_drew));exact HO_114003.out⟩, ⟨by (with_reducible repeat (first | apply Kd.N_alloc | apply Kd.N_drewN | apply Kd.N_drew));exact HO_115003.out⟩, ⟨by (with_reducible repeat (first | apply Kd.N_alloc | apply Kd.N_drewN | apply Kd.N_drew));exact HO_122003.out⟩, ⟨by (with_reducible repeat (first | refine blk_drewN ?_ _ | refine blk_drew ?_ | refine blk_alloc ?_ _));exact BK113.out⟩, ⟨by (with_reducible repeat (first | refine blk_drewN ?_ _ | refine blk_drew ?_ | refine blk_alloc ?_ _));exact BK114.out⟩, ⟨by (with_reducible repeat (first | refine blk_drewN ?_ _ | refine blk_drew ?_ | refine blk_alloc ?_ _));exact BK121.out⟩, ⟨by repeat (first | (with_reducible first | exact HB.out | apply below_alloc | apply pw_below_drewN | apply below_drew1 | refine below_set ?_ GE113.out | refine below_set ?_ GE114.out | refine below_set ?_ GE121.out) | exact HB.out)⟩⟩
       case rest =>
        clear HC48
        try clear c1
        try clear p1
        try clear q1
        try clear hx1
        try clear c2
        try clear p2
        try clear c3
        try clear c4
        try clear c5
        try clear c6
        try clear p6
        try clear c7
        try clear c12
        try clear p12
        try clear q12
        try clear hx12
        try clear c13
        try clear c14
        try clear c15
        try clear c16
        try clear c17
        try clear c19
        try clear c20
        try clear c25
        try clear c25b0
        try clear c25b1
        try clear c25b2
        try clear c38
        try clear c39
        try clear c39b0
        try clear c40
        try clear c40b0
        try clear c42
        try clear c43
        try clear c44
        try clear c49
        try clear c50
        try clear c53
        try clear c55
        try clear c57
        try clear c58
        try clear c61
        try clear p64
        try clear c66
        try clear c67
        try clear c70
        try clear c73
        try clear c74
        try clear hcz13_0
        try clear hcz13_1
        try clear hcz13_2
        try clear hcz13_3
        try clear hcz15_0
        try clear hcz15_1
        try clear hcz15_2
        try clear hcz15_3
        try clear hcz21_0
        try clear hcz21_1
        try clear hcz21_2
        try clear hcz21_3
        try clear hcz45_0
        try clear hcz45_1
        try clear hcz45_2
        try clear hcz45_3
        try clear hcz51_0
        try clear hcz51_1
        try clear hcz51_2
        try clear hcz51_3
        try clear hcz59_0
        try clear hcz59_1
        try clear hcz59_2
        try clear hcz59_3
        try clear hcz62_0
        try clear hcz62_1
        try clear hcz62_2
        try clear hcz62_3
        try clear hcz64_0
        try clear hcz64_1
        try clear hcz64_2
        try clear hcz64_3
        try clear hcz68_0
        try clear hcz68_1
        try clear hcz68_2
        try clear hcz68_3
        try clear hcz71_0
        try clear hcz71_1
        try clear hcz71_2
        try clear hcz71_3
        try clear hcz75_0
        try clear hcz75_1
        try clear hcz75_2
        try clear hcz75_3
        try clear hfz13_0
        try clear hfz13_1
        try clear hfz13_2
        try clear hfz13_3
        try clear hfz15_0
        try clear hfz15_1
        try clear hfz15_2
        try clear hfz15_3
        try clear hfz21_0
        try clear hfz21_1
        try clear hfz21_2
        try clear hfz21_3
        try clear hfz45_0
        try clear hfz45_1
        try clear hfz45_2
        try clear hfz45_3
        try clear hfz51_0
        try clear hfz51_1
        try clear hfz51_2
        try clear hfz51_3
        try clear hfz59_0
        try clear hfz59_1
        try clear hfz59_2
        try clear hfz59_3
        try clear hfz62_0
        try clear hfz62_1
        try clear hfz62_2
        try clear hfz62_3
        try clear hfz64_0
        try clear hfz64_1
        try clear hfz64_2
        try clear hfz64_3
        try clear hfz68_0
        try clear hfz68_1
        try clear hfz68_2
        try clear hfz68_3
        try clear hfz71_0
        try clear hfz71_1
        try clear hfz71_2
        try clear hfz71_3
        try clear hfz75_0
        try clear hfz75_1
        try clear hfz75_2
        try clear hfz75_3
        try clear hx126_0
        try clear hx126_1
        try clear hx126_2
        try clear hx126_3
        try clear p126
        try clear p2
        try clear q126
        obtain ⟨kq, x66_47, rfl, HA, HJ47, HO_114003, HO_115003, HO_122003, BK113, BK114, BK121, HB⟩ := hcut
        cases kq with
        | zero => exact absurd HA.out (by simp [laws_FnExSame.j3])
        | succ kj47 =>
         have H := HA.out
         clear HA
         simp only [laws_FnExSame.j3] at H
         by_cases c77 : x66_47 = true
         ·subst c77
          have H1 : (some true) = some r := by rw [if_pos rfl] at H;exact H
          clear H
          have H := H1
          clear H1
          obtain rfl := Option.some.inj H
          go_wp2
          go_ret
          exact ⟨by first | rfl | (simp [errW_none, errW_some] <;> rfl) | (simp [*, errW_none, errW_some] <;> rfl), by repeat (first | (with_reducible first | exact HB.out | apply below_alloc | apply pw_below_drewN | apply below_drew1 | refine below_set ?_ GE113.out | refine below_set ?_ GE114.out | refine below_set ?_ GE121.out) | exact HB.out)⟩
         replace c77 := Bool.eq_false_iff.mpr c77
         subst c77
         have H1 : ((impl_ExSame.f kj47 t101 t102 t103 t104 t107 t108 t109 t110).bind fun t131 => ((impl_ExText.f kj47 t101 t102 t103 t104).bind fun t132 => ((impl_ExText.f kj47 t107 t108 t109 t110).bind fun t133 => (if (t131 == (t132.toList == t133.toList)) = true then ((impl_ExSame.f kj47 t101 t102 t103 t104 t115 t116 t117 t118).bind fun t134 => ((impl_ExText.f kj47 t101 t102 t103 t104).bind fun t135 => ((impl_ExText.f kj47 t115 t116 t117 t118).bind fun t136 => (some (t134 == (t135.toList == t136.toList)))))) else (some false))))) = some r := by rw [if_neg (show ¬ (false = true) by decide)] at H;exact H
         clear H
         have H := H1
         clear H1
         replace H := Option.bind_eq_some_iff.mp H
         obtain ⟨t131, A780, H⟩ := H
         replace H : ((impl_ExText.f kj47 t101 t102 t103 t104).bind fun t132 => ((impl_ExText.f kj47 t107 t108 t109 t110).bind fun t133 => (if (t131 == (t132.toList == t133.toList)) = true then ((impl_ExSame.f kj47 t101 t102 t103 t104 t115 t116 t117 t118).bind fun t134 => ((impl_ExText.f kj47 t101 t102 t103 t104).bind fun t135 => ((impl_ExText.f kj47 t115 t116 t117 t118).bind fun t136 => (some (t134 == (t135.toList == t136.toList)))))) else (some false)))) = some r := H
         have A78 := m0_ A780
         clear A780
         replace H := Option.bind_eq_some_iff.mp H
         obtain ⟨t132, A790, H⟩ := H
         replace H : ((impl_ExText.f kj47 t107 t108 t109 t110).bind fun t133 => (if (t131 == (t132.toList == t133.toList)) = true then ((impl_ExSame.f kj47 t101 t102 t103 t104 t115 t116 t117 t118).bind fun t134 => ((impl_ExText.f kj47 t101 t102 t103 t104).bind fun t135 => ((impl_ExText.f kj47 t115 t116 t117 t118).bind fun t136 => (some (t134 == (t135.toList == t136.toList)))))) else (some false))) = some r := H
         have A79 := m0_ A790
         clear A790
         replace H := Option.bind_eq_some_iff.mp H
         obtain ⟨t133, A800, H⟩ := H
         replace H : (if (t131 == (t132.toList == t133.toList)) = true then ((impl_ExSame.f kj47 t101 t102 t103 t104 t115 t116 t117 t118).bind fun t134 => ((impl_ExText.f kj47 t101 t102 t103 t104).bind fun t135 => ((impl_ExText.f kj47 t115 t116 t117 t118).bind fun t136 => (some (t134 == (t135.toList == t136.toList)))))) else (some false)) = some r := H
         have A80 := m0_ A800
         clear A800
         by_cases c81 : (t131 == (t132.toList == t133.toList)) = true
         rotate_left
         ·rw [if_neg c81] at H
          have c81b0 : (t131 == (t132.toList == t133.toList)) = false := by simpa using c81
          (try (have c81b1 : decide (t131 = (t132.toList == t133.toList)) = false := by simpa using c81))
          (try (have c81b2 : (t131 == (t132.toList == t133.toList)) = false := by simpa using c81))
          (try (have c81b3 : ¬ (t131 = (t132.toList == t133.toList)) := by simpa using c81))
          clear c81
          exact absurd (Option.some.inj H) (by rw [hT_.out];decide)
         rw [if_pos c81] at H
         have c81b0 : (t131 == (t132.toList == t133.toList)) = true := c81
         (try (have c81b1 : decide (t131 = (t132.toList == t133.toList)) = true := by simpa using c81))
         (try (have c81b2 : (t131 == (t132.toList == t133.toList)) = true := by simpa using c81))
         clear c81
         replace H := Option.bind_eq_some_iff.mp H
         obtain ⟨t134, A820, H⟩ := H
         replace H : ((impl_ExText.f kj47 t101 t102 t103 t104).bind fun t135 => ((impl_ExText.f kj47 t115 t116 t117 t118).bind fun t136 => (some (t134 == (t135.toList == t136.toList))))) = some r := H
         have A82 := m0_ A820
         clear A820
         replace H := Option.bind_eq_some_iff.mp H
         obtain ⟨t135, A830, H⟩ := H
         replace H : ((impl_ExText.f kj47 t115 t116 t117 t118).bind fun t136 => (some (t134 == (t135.toList == t136.toList)))) = some r := H
         have A83 := m0_ A830
         clear A830
         replace H := Option.bind_eq_some_iff.mp H
         obtain ⟨t136, A840, H⟩ := H
         replace H : (some (t134 == (t135.toList == t136.toList))) = some r := H
         have A84 := m0_ A840
         clear A840
         obtain rfl := Option.some.inj H
         try go_wp2
         replace HO_114003 := m0_ (Kd.N_drew HO_114003.out)
         replace HO_115003 := m0_ (Kd.N_drew HO_115003.out)
         replace HO_122003 := m0_ (Kd.N_drew HO_122003.out)
         replace BK113 := m0_ (blk_drew BK113.out)
         replace BK114 := m0_ (blk_drew BK114.out)
         replace BK121 := m0_ (blk_drew BK121.out)
         replace HB := m0_ (below_drew1 HB.out)
         refine start_ (n := 21) (S := fun w' => w'.cell? ⟨gb113, 0, none⟩ = some (.int .i64 t101) ∧ w'.cell? ⟨gb113, 1, none⟩ = some (.int .i64 t102) ∧ w'.cell? ⟨gb113, 2, none⟩ = some (.int .i64 t103) ∧ w'.cell? ⟨gb113, 3, none⟩ = some (.slice Ao14 t104.length co14) ∧ w'.cell? ⟨gb114, 0, none⟩ = some (.int .i64 t107) ∧ w'.cell? ⟨gb114, 1, none⟩ = some (.int .i64 t108) ∧ w'.cell? ⟨gb114, 2, none⟩ = some (.int .i64 t109) ∧ w'.cell? ⟨gb114, 3, none⟩ = some (.slice Ao16 t110.length co16) ∧ w'.cell? ⟨gb121, 0, none⟩ = some (.int .i64 t115) ∧ w'.cell? ⟨gb121, 1, none⟩ = some (.int .i64 t116) ∧ w'.cell? ⟨gb121, 2, none⟩ = some (.int .i64 t117) ∧ w'.cell? ⟨gb121, 3, none⟩ = some (.slice Ao22 t118.length co22)) (ds := []) #[false, false, false, false, false, false, false, false, false, false, false, false, false, false, false, false, false, false, false, false, false] (by kernel_rfl) rfl rfl ⟨(blk_cell BK113.out 0).trans rfl, (blk_cell BK113.out 1).trans rfl, (blk_cell BK113.out 2).trans rfl, (blk_cell BK113.out 3).trans rfl, (blk_cell BK114.out 0).trans rfl, (blk_cell BK114.out 1).trans rfl, (blk_cell BK114.out 2).trans rfl, (blk_cell BK114.out 3).trans rfl, (blk_cell BK121.out 0).trans rfl, (blk_cell BK121.out 1).trans rfl, (blk_cell BK121.out 2).trans rfl, (blk_cell BK121.out 3).trans rfl⟩ (fun hHeld => ?_);refine with_tabW laws_FnExSame.tab14 laws_FnExSame.bits14 (fun HT_ HW_ => ?_)
         generalize wc.drew = w85 at HO_114003 HO_115003 HO_122003 BK113 BK114 BK121 HB hHeld ⊢
         refine take_ (i := 0) (N := some 67) (v := ?_) (a' := ?_) #[true, false, false, false, false, false, false, false, false, false, false, false, false, false, false, false, false, false, false, false, false] rfl rfl (take_ofW HT_.out HW_.out (by kernel_rfl)) (fun _ _ _ h => h) (Or.inl ⟨by rfl, ?_⟩) hHeld ?_ ?_
         rotate_left
         ·rintro w' ⟨s0, s1, s2, s3, s4, s5, s6, s7, s8, s9, s10, s11⟩
          go_simp
          with_reducible rfl
         rotate_left
         ·simp only [Act.put, List.setIfInBounds_toArray, List.set_cons_zero, List.set_cons_succ, i64_w, i32_w]
          rfl
         refine take_ (i := 1) (N := some 68) (v := ?_) (a' := ?_) #[true, true, false, false, false, false, false, false, false, false, false, false, false, false, false, false, false, false, false, false, false] rfl rfl (take_ofW HT_.out HW_.out (by kernel_rfl)) (fun _ _ _ h => h) (Or.inl ⟨by rfl, ?_⟩) hHeld ?_ ?_
         rotate_left
         ·rintro w' ⟨s0, s1, s2, s3, s4, s5, s6, s7, s8, s9, s10, s11⟩
          go_simp
          with_reducible rfl
         rotate_left
         ·simp only [Act.put, List.setIfInBounds_toArray, List.set_cons_zero, List.set_cons_succ, i64_w, i32_w]
          rfl
         refine take_ (i := 3) (N := some 70) (v := ?_) (a' := ?_) #[true, true, false, true, false, false, false, false, false, false, false, false, false, false, false, false, false, false, false, false, false] rfl rfl (take_ofW HT_.out HW_.out (by kernel_rfl)) (fun _ _ _ h => h) (Or.inl ⟨by rfl, ?_⟩) hHeld ?_ ?_
         rotate_left
         ·rintro w' ⟨s0, s1, s2, s3, s4, s5, s6, s7, s8, s9, s10, s11⟩
          go_simp
          with_reducible rfl
         rotate_left
         ·simp only [Act.put, List.setIfInBounds_toArray, List.set_cons_zero, List.set_cons_succ, i64_w, i32_w]
          rfl
         refine take_ (i := 5) (N := some 72) (v := ?_) (a' := ?_) #[true, true, false, true, false, true, false, false, false, false, false, false, false, false, false, false, false, false, false, false, false] rfl rfl (take_ofW HT_.out HW_.out (by kernel_rfl)) (fun _ _ _ h => h) (Or.inl ⟨by rfl, ?_⟩) hHeld ?_ ?_
         rotate_left
         ·rintro w' ⟨s0, s1, s2, s3, s4, s5, s6, s7, s8, s9, s10, s11⟩
          go_simp
          with_reducible rfl
         rotate_left
         ·simp only [Act.put, List.setIfInBounds_toArray, List.set_cons_zero, List.set_cons_succ, i64_w, i32_w]
          rfl
         refine one_ (i := 2) (N := some 69) #[true, true, true, true, false, true, false, false, false, false, false, false, false, false, false, false, false, false, false, false, false] rfl rfl (one_of HT_.out (by kernel_rfl)) (by decide) (fun K hK => ?_)
         refine goes_ Tryd.func15 (by kernel_rfl) rfl #[.agg #[.int .i64 t101, .int .i64 t102, .int .i64 t103, .slice Ao14 t104.length co14], .agg #[.int .i64 t107, .int .i64 t108, .int .i64 t109, .slice Ao16 t110.length co16]] (by rfl) rfl rfl (by (try simp only [List.map_toArray, List.map_cons, List.map_nil]);first | done | rfl | (simp only [List.length_drop, List.length_take];rfl)) ?_
         with_reducible refine (impl_ExSame.calls kj47 t101 t102 t103 _ _ t104 t107 t108 t109 _ _ t110 t131 _ ?side1 ?side2 ?side3 ?side4 A78.out).mono ?_
         (case side1 => repeat (first | exact (Kd.N_reads' HO_114003.out).2.2 | (with_reducible refine Kd.C_alloc ?_ _) | (with_reducible refine Kd.C_drewN ?_ _) | (with_reducible refine Kd.C_drew ?_)))
         (case side2 => exact (Kd.N_reads' HO_114003.out).2.1)
         (case side3 => repeat (first | exact (Kd.N_reads' HO_115003.out).2.2 | (with_reducible refine Kd.C_alloc ?_ _) | (with_reducible refine Kd.C_drewN ?_ _) | (with_reducible refine Kd.C_drew ?_)))
         (case side4 => exact (Kd.N_reads' HO_115003.out).2.1)
         rintro e w86 ⟨rfl, hb⟩
         refine ⟨_, rfl, ?_⟩
         replace HO_114003 := m0_ (Kd.N_below (by exact HO_114003.out) hb)
         replace HO_115003 := m0_ (Kd.N_below (by exact HO_115003.out) hb)
         replace HO_122003 := m0_ (Kd.N_below (by exact HO_122003.out) hb)
         replace BK113 := m0_ (blk_below BK113.out hb)
         replace BK114 := m0_ (blk_below BK114.out hb)
         replace BK121 := m0_ (blk_below BK121.out hb)
         replace HB := m0_ (below_step (by repeat (first | (with_reducible first | exact HB.out | apply below_alloc | apply pw_below_drewN | apply below_drew1 | refine below_set ?_ GE113.out | refine below_set ?_ GE114.out | refine below_set ?_ GE121.out) | exact HB.out)) hb)
         (try clear hb)
         (try clear hb2)
         (try clear hk)
         (try clear hi)
         refine hK.out _ _ ⟨(blk_cell BK113.out 0).trans rfl, (blk_cell BK113.out 1).trans rfl, (blk_cell BK113.out 2).trans rfl, (blk_cell BK113.out 3).trans rfl, (blk_cell BK114.out 0).trans rfl, (blk_cell BK114.out 1).trans rfl, (blk_cell BK114.out 2).trans rfl, (blk_cell BK114.out 3).trans rfl, (blk_cell BK121.out 0).trans rfl, (blk_cell BK121.out 1).trans rfl, (blk_cell BK121.out 2).trans rfl, (blk_cell BK121.out 3).trans rfl⟩ (fun hHeld => ?_)
         clear hK K
         refine norm_ (a' := ?_) ?_ ?_
         rotate_left
         ·show Act.put _ (some 69) _ = _
          simp only [Act.put, List.setIfInBounds_toArray, List.set_cons_zero, List.set_cons_succ, i64_w, i32_w]
          rfl
         refine one_ (i := 4) (N := some 71) #[true, true, true, true, true, true, false, false, false, false, false, false, false, false, false, false, false, false, false, false, false] rfl rfl (one_of HT_.out (by kernel_rfl)) (by decide) (fun K hK => ?_)
         refine goes_ Tryd.func11 (by kernel_rfl) rfl #[.agg #[.int .i64 t101, .int .i64 t102, .int .i64 t103, .slice Ao14 t104.length co14]] (by rfl) rfl rfl (by (try simp only [List.map_toArray, List.map_cons, List.map_nil]);first | done | rfl | (simp only [List.length_drop, List.length_take];rfl)) ?_
         with_reducible refine (impl_ExText.calls kj47 t101 t102 t103 _ _ t104 t132 _ ?side1 ?side2 A79.out (by first | exact TabX.below HTX_TabX.out (by repeat (first | (with_reducible first | exact HB.out | apply below_alloc | apply pw_below_drewN | apply below_drew1 | refine below_set ?_ GE113.out | refine below_set ?_ GE114.out | refine below_set ?_ GE121.out) | exact HB.out)) | exact TabX.below (TabX.below HTX_TabX.out HB.out) Q_HB)).mono ?_
         (case side1 => repeat (first | exact (Kd.N_reads' HO_114003.out).2.2 | (with_reducible refine Kd.C_alloc ?_ _) | (with_reducible refine Kd.C_drewN ?_ _) | (with_reducible refine Kd.C_drew ?_)))
         (case side2 => exact (Kd.N_reads' HO_114003.out).2.1)
         rintro e w87 ⟨rfl, hb⟩
         refine ⟨_, rfl, ?_⟩
         replace HO_114003 := m0_ (Kd.N_below (by exact HO_114003.out) hb)
         replace HO_115003 := m0_ (Kd.N_below (by exact HO_115003.out) hb)
         replace HO_122003 := m0_ (Kd.N_below (by exact HO_122003.out) hb)
         replace BK113 := m0_ (blk_below BK113.out hb)
         replace BK114 := m0_ (blk_below BK114.out hb)
         replace BK121 := m0_ (blk_below BK121.out hb)
         replace HB := m0_ (below_step (by repeat (first | (with_reducible first | exact HB.out | apply below_alloc | apply pw_below_drewN | apply below_drew1 | refine below_set ?_ GE113.out | refine below_set ?_ GE114.out | refine below_set ?_ GE121.out) | exact HB.out)) hb)
         (try clear hb)
         (try clear hb2)
         (try clear hk)
         (try clear hi)
         refine hK.out _ _ ⟨(blk_cell BK113.out 0).trans rfl, (blk_cell BK113.out 1).trans rfl, (blk_cell BK113.out 2).trans rfl, (blk_cell BK113.out 3).trans rfl, (blk_cell BK114.out 0).trans rfl, (blk_cell BK114.out 1).trans rfl, (blk_cell BK114.out 2).trans rfl, (blk_cell BK114.out 3).trans rfl, (blk_cell BK121.out 0).trans rfl, (blk_cell BK121.out 1).trans rfl, (blk_cell BK121.out 2).trans rfl, (blk_cell BK121.out 3).trans rfl⟩ (fun hHeld => ?_)
         clear hK K
         refine norm_ (a' := ?_) ?_ ?_
         rotate_left
         ·show Act.put _ (some 71) _ = _
          simp only [Act.put, List.setIfInBounds_toArray, List.set_cons_zero, List.set_cons_succ, i64_w, i32_w]
          rfl
         refine one_ (i := 6) (N := some 73) #[true, true, true, true, true, true, true, false, false, false, false, false, false, false, false, false, false, false, false, false, false] rfl rfl (one_of HT_.out (by kernel_rfl)) (by decide) (fun K hK => ?_)
         refine goes_ Tryd.func11 (by kernel_rfl) rfl #[.agg #[.int .i64 t107, .int .i64 t108, .int .i64 t109, .slice Ao16 t110.length co16]] (by rfl) rfl rfl (by (try simp only [List.map_toArray, List.map_cons, List.map_nil]);first | done | rfl | (simp only [List.length_drop, List.length_take];rfl)) ?_
         with_reducible refine (impl_ExText.calls kj47 t107 t108 t109 _ _ t110 t133 _ ?side1 ?side2 A80.out (by first | exact TabX.below HTX_TabX.out (by repeat (first | (with_reducible first | exact HB.out | apply below_alloc | apply pw_below_drewN | apply below_drew1 | refine below_set ?_ GE113.out | refine below_set ?_ GE114.out | refine below_set ?_ GE121.out) | exact HB.out)) | exact TabX.below (TabX.below HTX_TabX.out HB.out) Q_HB)).mono ?_
         (case side1 => repeat (first | exact (Kd.N_reads' HO_115003.out).2.2 | (with_reducible refine Kd.C_alloc ?_ _) | (with_reducible refine Kd.C_drewN ?_ _) | (with_reducible refine Kd.C_drew ?_)))
         (case side2 => exact (Kd.N_reads' HO_115003.out).2.1)
         rintro e w88 ⟨rfl, hb⟩
         refine ⟨_, rfl, ?_⟩
         replace HO_114003 := m0_ (Kd.N_below (by exact HO_114003.out) hb)
         replace HO_115003 := m0_ (Kd.N_below (by exact HO_115003.out) hb)
         replace HO_122003 := m0_ (Kd.N_below (by exact HO_122003.out) hb)
         replace BK113 := m0_ (blk_below BK113.out hb)
         replace BK114 := m0_ (blk_below BK114.out hb)
         replace BK121 := m0_ (blk_below BK121.out hb)
         replace HB := m0_ (below_step (by repeat (first | (with_reducible first | exact HB.out | apply below_alloc | apply pw_below_drewN | apply below_drew1 | refine below_set ?_ GE113.out | refine below_set ?_ GE114.out | refine below_set ?_ GE121.out) | exact HB.out)) hb)
         (try clear hb)
         (try clear hb2)
         (try clear hk)
         (try clear hi)
         refine hK.out _ _ ⟨(blk_cell BK113.out 0).trans rfl, (blk_cell BK113.out 1).trans rfl, (blk_cell BK113.out 2).trans rfl, (blk_cell BK113.out 3).trans rfl, (blk_cell BK114.out 0).trans rfl, (blk_cell BK114.out 1).trans rfl, (blk_cell BK114.out 2).trans rfl, (blk_cell BK114.out 3).trans rfl, (blk_cell BK121.out 0).trans rfl, (blk_cell BK121.out 1).trans rfl, (blk_cell BK121.out 2).trans rfl, (blk_cell BK121.out 3).trans rfl⟩ (fun hHeld => ?_)
         clear hK K
         refine norm_ (a' := ?_) ?_ ?_
         rotate_left
         ·show Act.put _ (some 73) _ = _
          simp only [Act.put, List.setIfInBounds_toArray, List.set_cons_zero, List.set_cons_succ, i64_w, i32_w]
          rfl
         refine pv_ 7 74 #[true, true, true, true, true, true, true, true, false, false, false, false, false, false, false, false, false, false, false, false, false] (any_of HT_.out (by kernel_rfl)) ?_
         refine pv_ 8 75 #[true, true, true, true, true, true, true, true, true, false, false, false, false, false, false, false, false, false, false, false, false] (any_of HT_.out (by kernel_rfl)) ?_
         refine pv_ 9 76 #[true, true, true, true, true, true, true, true, true, true, false, false, false, false, false, false, false, false, false, false, false] (any_of HT_.out (by kernel_rfl)) ?_
         refine take_ (i := 10) (N := some 77) (v := ?_) (a' := ?_) #[true, true, true, true, true, true, true, true, true, true, true, false, false, false, false, false, false, false, false, false, false] rfl rfl (take_ofW HT_.out HW_.out (by kernel_rfl)) (fun _ _ _ h => h) (Or.inl ⟨by rfl, ?_⟩) hHeld ?_ ?_
         rotate_left
         ·rintro w' ⟨s0, s1, s2, s3, s4, s5, s6, s7, s8, s9, s10, s11⟩
          go_simp
          with_reducible rfl
         rotate_left
         ·simp only [Act.put, List.setIfInBounds_toArray, List.set_cons_zero, List.set_cons_succ, i64_w, i32_w]
          rfl
         refine take_ (i := 11) (N := some 78) (v := ?_) (a' := ?_) #[true, true, true, true, true, true, true, true, true, true, true, true, false, false, false, false, false, false, false, false, false] rfl rfl (take_ofW HT_.out HW_.out (by kernel_rfl)) (fun _ _ _ h => h) (Or.inl ⟨by rfl, ?_⟩) hHeld ?_ ?_
         rotate_left
         ·rintro w' ⟨s0, s1, s2, s3, s4, s5, s6, s7, s8, s9, s10, s11⟩
          go_simp
          with_reducible rfl
         rotate_left
         ·simp only [Act.put, List.setIfInBounds_toArray, List.set_cons_zero, List.set_cons_succ, i64_w, i32_w]
          rfl
         refine take_ (i := 13) (N := some 80) (v := ?_) (a' := ?_) #[true, true, true, true, true, true, true, true, true, true, true, true, false, true, false, false, false, false, false, false, false] rfl rfl (take_ofW HT_.out HW_.out (by kernel_rfl)) (fun _ _ _ h => h) (Or.inl ⟨by rfl, ?_⟩) hHeld ?_ ?_
         rotate_left
         ·rintro w' ⟨s0, s1, s2, s3, s4, s5, s6, s7, s8, s9, s10, s11⟩
          go_simp
          with_reducible rfl
         rotate_left
         ·simp only [Act.put, List.setIfInBounds_toArray, List.set_cons_zero, List.set_cons_succ, i64_w, i32_w]
          rfl
         refine take_ (i := 15) (N := some 82) (v := ?_) (a' := ?_) #[true, true, true, true, true, true, true, true, true, true, true, true, false, true, false, true, false, false, false, false, false] rfl rfl (take_ofW HT_.out HW_.out (by kernel_rfl)) (fun _ _ _ h => h) (Or.inl ⟨by rfl, ?_⟩) hHeld ?_ ?_
         rotate_left
         ·rintro w' ⟨s0, s1, s2, s3, s4, s5, s6, s7, s8, s9, s10, s11⟩
          go_simp
          with_reducible rfl
         rotate_left
         ·simp only [Act.put, List.setIfInBounds_toArray, List.set_cons_zero, List.set_cons_succ, i64_w, i32_w]
          rfl
         refine one_ (i := 12) (N := some 79) #[true, true, true, true, true, true, true, true, true, true, true, true, true, true, false, true, false, false, false, false, false] rfl rfl (one_of HT_.out (by kernel_rfl)) (by decide) (fun K hK => ?_)
         refine goes_ Tryd.func15 (by kernel_rfl) rfl #[.agg #[.int .i64 t101, .int .i64 t102, .int .i64 t103, .slice Ao14 t104.length co14], .agg #[.int .i64 t115, .int .i64 t116, .int .i64 t117, .slice Ao22 t118.length co22]] (by rfl) rfl rfl (by (try simp only [List.map_toArray, List.map_cons, List.map_nil]);first | done | rfl | (simp only [List.length_drop, List.length_take];rfl)) ?_
         with_reducible refine (impl_ExSame.calls kj47 t101 t102 t103 _ _ t104 t115 t116 t117 _ _ t118 t134 _ ?side1 ?side2 ?side3 ?side4 A82.out).mono ?_
         (case side1 => repeat (first | exact (Kd.N_reads' HO_114003.out).2.2 | (with_reducible refine Kd.C_alloc ?_ _) | (with_reducible refine Kd.C_drewN ?_ _) | (with_reducible refine Kd.C_drew ?_)))
         (case side2 => exact (Kd.N_reads' HO_114003.out).2.1)
         (case side3 => repeat (first | exact (Kd.N_reads' HO_122003.out).2.2 | (with_reducible refine Kd.C_alloc ?_ _) | (with_reducible refine Kd.C_drewN ?_ _) | (with_reducible refine Kd.C_drew ?_)))
         (case side4 => exact (Kd.N_reads' HO_122003.out).2.1)
         rintro e w89 ⟨rfl, hb⟩
         refine ⟨_, rfl, ?_⟩
         replace HO_114003 := m0_ (Kd.N_below (by exact HO_114003.out) hb)
         replace HO_115003 := m0_ (Kd.N_below (by exact HO_115003.out) hb)
         replace HO_122003 := m0_ (Kd.N_below (by exact HO_122003.out) hb)
         replace BK113 := m0_ (blk_below BK113.out hb)
         replace BK114 := m0_ (blk_below BK114.out hb)
         replace BK121 := m0_ (blk_below BK121.out hb)
         replace HB := m0_ (below_step (by repeat (first | (with_reducible first | exact HB.out | apply below_alloc | apply pw_below_drewN | apply below_drew1 | refine below_set ?_ GE113.out | refine below_set ?_ GE114.out | refine below_set ?_ GE121.out) | exact HB.out)) hb)
         (try clear hb)
         (try clear hb2)
         (try clear hk)
         (try clear hi)
         refine hK.out _ _ ⟨(blk_cell BK113.out 0).trans rfl, (blk_cell BK113.out 1).trans rfl, (blk_cell BK113.out 2).trans rfl, (blk_cell BK113.out 3).trans rfl, (blk_cell BK114.out 0).trans rfl, (blk_cell BK114.out 1).trans rfl, (blk_cell BK114.out 2).trans rfl, (blk_cell BK114.out 3).trans rfl, (blk_cell BK121.out 0).trans rfl, (blk_cell BK121.out 1).trans rfl, (blk_cell BK121.out 2).trans rfl, (blk_cell BK121.out 3).trans rfl⟩ (fun hHeld => ?_)
         clear hK K
         refine norm_ (a' := ?_) ?_ ?_
         rotate_left
         ·show Act.put _ (some 79) _ = _
          simp only [Act.put, List.setIfInBounds_toArray, List.set_cons_zero, List.set_cons_succ, i64_w, i32_w]
          rfl
         refine one_ (i := 14) (N := some 81) #[true, true, true, true, true, true, true, true, true, true, true, true, true, true, true, true, false, false, false, false, false] rfl rfl (one_of HT_.out (by kernel_rfl)) (by decide) (fun K hK => ?_)
         refine goes_ Tryd.func11 (by kernel_rfl) rfl #[.agg #[.int .i64 t101, .int .i64 t102, .int .i64 t103, .slice Ao14 t104.length co14]] (by rfl) rfl rfl (by (try simp only [List.map_toArray, List.map_cons, List.map_nil]);first | done | rfl | (simp only [List.length_drop, List.length_take];rfl)) ?_
         with_reducible refine (impl_ExText.calls kj47 t101 t102 t103 _ _ t104 t135 _ ?side1 ?side2 A83.out (by first | exact TabX.below HTX_TabX.out (by repeat (first | (with_reducible first | exact HB.out | apply below_alloc | apply pw_below_drewN | apply below_drew1 | refine below_set ?_ GE113.out | refine below_set ?_ GE114.out | refine below_set ?_ GE121.out) | exact HB.out)) | exact TabX.below (TabX.below HTX_TabX.out HB.out) Q_HB)).mono ?_
         (case side1 => repeat (first | exact (Kd.N_reads' HO_114003.out).2.2 | (with_reducible refine Kd.C_alloc ?_ _) | (with_reducible refine Kd.C_drewN ?_ _) | (with_reducible refine Kd.C_drew ?_)))
         (case side2 => exact (Kd.N_reads' HO_114003.out).2.1)
         rintro e w90 ⟨rfl, hb⟩
         refine ⟨_, rfl, ?_⟩
         replace HO_114003 := m0_ (Kd.N_below (by exact HO_114003.out) hb)
         replace HO_115003 := m0_ (Kd.N_below (by exact HO_115003.out) hb)
         replace HO_122003 := m0_ (Kd.N_below (by exact HO_122003.out) hb)
         replace BK113 := m0_ (blk_below BK113.out hb)
         replace BK114 := m0_ (blk_below BK114.out hb)
         replace BK121 := m0_ (blk_below BK121.out hb)
         replace HB := m0_ (below_step (by repeat (first | (with_reducible first | exact HB.out | apply below_alloc | apply pw_below_drewN | apply below_drew1 | refine below_set ?_ GE113.out | refine below_set ?_ GE114.out | refine below_set ?_ GE121.out) | exact HB.out)) hb)
         (try clear hb)
         (try clear hb2)
         (try clear hk)
         (try clear hi)
         refine hK.out _ _ ⟨(blk_cell BK113.out 0).trans rfl, (blk_cell BK113.out 1).trans rfl, (blk_cell BK113.out 2).trans rfl, (blk_cell BK113.out 3).trans rfl, (blk_cell BK114.out 0).trans rfl, (blk_cell BK114.out 1).trans rfl, (blk_cell BK114.out 2).trans rfl, (blk_cell BK114.out 3).trans rfl, (blk_cell BK121.out 0).trans rfl, (blk_cell BK121.out 1).trans rfl, (blk_cell BK121.out 2).trans rfl, (blk_cell BK121.out 3).trans rfl⟩ (fun hHeld => ?_)
         clear hK K
         refine norm_ (a' := ?_) ?_ ?_
         rotate_left
         ·show Act.put _ (some 81) _ = _
          simp only [Act.put, List.setIfInBounds_toArray, List.set_cons_zero, List.set_cons_succ, i64_w, i32_w]
          rfl
         refine one_ (i := 16) (N := some 83) #[true, true, true, true, true, true, true, true, true, true, true, true, true, true, true, true, true, false, false, false, false] rfl rfl (one_of HT_.out (by kernel_rfl)) (by decide) (fun K hK => ?_)
         refine goes_ Tryd.func11 (by kernel_rfl) rfl #[.agg #[.int .i64 t115, .int .i64 t116, .int .i64 t117, .slice Ao22 t118.length co22]] (by rfl) rfl rfl (by (try simp only [List.map_toArray, List.map_cons, List.map_nil]);first | done | rfl | (simp only [List.length_drop, List.length_take];rfl)) ?_
         with_reducible refine (impl_ExText.calls kj47 t115 t116 t117 _ _ t118 t136 _ ?side1 ?side2 A84.out (by first | exact TabX.below HTX_TabX.out (by repeat (first | (with_reducible first | exact HB.out | apply below_alloc | apply pw_below_drewN | apply below_drew1 | refine below_set ?_ GE113.out | refine below_set ?_ GE114.out | refine below_set ?_ GE121.out) | exact HB.out)) | exact TabX.below (TabX.below HTX_TabX.out HB.out) Q_HB)).mono ?_
         (case side1 => repeat (first | exact (Kd.N_reads' HO_122003.out).2.2 | (with_reducible refine Kd.C_alloc ?_ _) | (with_reducible refine Kd.C_drewN ?_ _) | (with_reducible refine Kd.C_drew ?_)))
         (case side2 => exact (Kd.N_reads' HO_122003.out).2.1)
         rintro e w91 ⟨rfl, hb⟩
         refine ⟨_, rfl, ?_⟩
         replace HO_114003 := m0_ (Kd.N_below (by exact HO_114003.out) hb)
         replace HO_115003 := m0_ (Kd.N_below (by exact HO_115003.out) hb)
         replace HO_122003 := m0_ (Kd.N_below (by exact HO_122003.out) hb)
         replace BK113 := m0_ (blk_below BK113.out hb)
         replace BK114 := m0_ (blk_below BK114.out hb)
         replace BK121 := m0_ (blk_below BK121.out hb)
         replace HB := m0_ (below_step (by repeat (first | (with_reducible first | exact HB.out | apply below_alloc | apply pw_below_drewN | apply below_drew1 | refine below_set ?_ GE113.out | refine below_set ?_ GE114.out | refine below_set ?_ GE121.out) | exact HB.out)) hb)
         (try clear hb)
         (try clear hb2)
         (try clear hk)
         (try clear hi)
         refine hK.out _ _ ⟨(blk_cell BK113.out 0).trans rfl, (blk_cell BK113.out 1).trans rfl, (blk_cell BK113.out 2).trans rfl, (blk_cell BK113.out 3).trans rfl, (blk_cell BK114.out 0).trans rfl, (blk_cell BK114.out 1).trans rfl, (blk_cell BK114.out 2).trans rfl, (blk_cell BK114.out 3).trans rfl, (blk_cell BK121.out 0).trans rfl, (blk_cell BK121.out 1).trans rfl, (blk_cell BK121.out 2).trans rfl, (blk_cell BK121.out 3).trans rfl⟩ (fun hHeld => ?_)
         clear hK K
         refine norm_ (a' := ?_) ?_ ?_
         rotate_left
         ·show Act.put _ (some 83) _ = _
          simp only [Act.put, List.setIfInBounds_toArray, List.set_cons_zero, List.set_cons_succ, i64_w, i32_w]
          rfl
         refine pv_ 17 84 #[true, true, true, true, true, true, true, true, true, true, true, true, true, true, true, true, true, true, false, false, false] (any_of HT_.out (by kernel_rfl)) ?_
         refine pv_ 18 85 #[true, true, true, true, true, true, true, true, true, true, true, true, true, true, true, true, true, true, true, false, false] (any_of HT_.out (by kernel_rfl)) ?_
         refine pv_ 19 86 #[true, true, true, true, true, true, true, true, true, true, true, true, true, true, true, true, true, true, true, true, false] (any_of HT_.out (by kernel_rfl)) ?_
         refine pv_ 20 4 #[true, true, true, true, true, true, true, true, true, true, true, true, true, true, true, true, true, true, true, true, true] (any_of HT_.out (by kernel_rfl)) ?_
         refine done_ (done_of HT_.out (by kernel_rfl)) ?_
         try go_wp2
         go_ret
         exact ⟨by first | rfl | (simp [errW_none, errW_some] <;> rfl) | (simp [*, errW_none, errW_some] <;> rfl), by repeat (first | (with_reducible first | exact HB.out | apply below_alloc | apply pw_below_drewN | apply below_drew1 | refine below_set ?_ GE113.out | refine below_set ?_ GE114.out | refine below_set ?_ GE121.out) | exact HB.out)⟩

end Go.Proofs.YtbcdfbiggjfmlaaDoor.M
namespace Go.Proofs.YtbcdfbiggjfmlaaDoor.M
set_option linter.unusedVariables false
set_option linter.unusedSimpArgs false
open Go.RowKit Go.Proofs.YtbcdfbiggjfmlaaDoorW.PrintWords Go.Proofs.YtbcdfbiggjfmlaaDoorW.PrintLast

theorem maxLen_le {n : Nat} (h : n ≤ maxLen) : n ≤ 9223372036854775807 := by unfold maxLen at h; omega
end Go.Proofs.YtbcdfbiggjfmlaaDoor.M
namespace Go.Proofs.YtbcdfbiggjfmlaaDoor.M
open Go.RowKit Go.Proofs.YtbcdfbiggjfmlaaDoorW.PrintWords Go.Proofs.YtbcdfbiggjfmlaaDoorW.PrintLast Go.Proofs.YtbcdfbiggjfmlaaDoorW.PrintMore
attribute [local go_sem] max2_int min2_int max_two min_two max_three min_three max_four min_four
set_option linter.unusedVariables false
set_option linter.unusedSimpArgs false


end Go.Proofs.YtbcdfbiggjfmlaaDoor.M
namespace Go.Proofs.YtbcdfbiggjfmlaaDoor.M
set_option linter.unusedVariables false
set_option linter.unusedSimpArgs false
open Go.RowKit Go.Proofs.YtbcdfbiggjfmlaaDoorW.PrintWords Go.Proofs.YtbcdfbiggjfmlaaDoorW.PrintLast

theorem indI {P : S29 → Prop} (h : ∀ x, (∀ y ∈ x.f3, P y) → P x) : ∀ x, P x := by
  have key : ∀ n, ∀ x : S29, SizeOf.sizeOf x ≤ n → P x := by
    intro n
    induction n with
    | zero => intro x hx; cases x; simp at hx
    | succ n ih =>
      intro x hx
      refine h x (fun y hy => ih y ?_)
      have := List.sizeOf_lt_of_mem hy
      cases x
      simp at *
      omega
  exact fun x => key _ x (Nat.le_refl _)

mutual
def allY : S29 → Nat
  | ⟨_, _, _, l⟩ => l.length + kidsY l
def kidsY : List S29 → Nat
  | [] => 0
  | x :: xs => allY x + kidsY xs
end
theorem allY_is (x : S29) : allY x = x.f3.length + kidsY x.f3 := by cases x; simp [allY]
theorem kidsY_cons (x : S29) (l : List S29) : kidsY (x :: l) = allY x + kidsY l := by simp [kidsY]
theorem kidsY_nil : kidsY [] = 0 := by simp [kidsY]
theorem kidsY_mem {l : List S29} {x : S29} (h : x ∈ l) : allY x ≤ kidsY l := by
  induction l with
  | nil => simp at h
  | cons y l ih =>
    rw [kidsY_cons]
    rcases List.mem_cons.1 h with rfl | h
    · omega
    · have := ih h
      omega
theorem allY_mem {x y : S29} (h : y ∈ x.f3) : allY y + 1 ≤ allY x := by
  have := kidsY_mem h
  have h2 := List.length_pos_of_mem h
  rw [allY_is x]
  omega
theorem allY_len {x : S29} : x.f3.length ≤ allY x := by rw [allY_is]; omega
theorem rdI (l : List S29) (n : Nat) (h : n < l.length) : rd_T29 l (n : Int) = l[n] := by
  show l.getD n z29 = _
  rw [List.getD_eq_getElem?_getD, List.getElem?_eq_getElem h]
  rfl

def SameOk (a : S29) : Prop := ∀ b : S29, ∃ r, Ev (fun k => spec_ExSame.f k a.f0 a.f1 a.f2 a.f3 b.f0 b.f1 b.f2 b.f3) r ∧ Ev (fun k => impl_ExSame.f k a.f0 a.f1 a.f2 a.f3 b.f0 b.f1 b.f2 b.f3) r
theorem same_l0_ev (l m : List S29) (hl : l.length ≤ 1048576) (hm : l.length = m.length) (hs : ∀ x ∈ l, SameOk x) (p q r p' q' r' : Int) : ∀ (d n : Nat), n + d = l.length → ∃ v, Ev (fun k => spec_ExSame.l0 k (n : Int) p q r l p' q' r' m) v ∧ Ev (fun k => impl_Ex_34.l0 k m l (l.length : Int) (n : Int)) v := by
  intro d
  induction d with
  | zero =>
    intro n hn
    exact ⟨true, Ev.last (fun k => by simp only [spec_ExSame.l0]; rw [if_neg (by omega)]), Ev.last (fun k => by simp only [impl_Ex_34.l0]; rw [if_neg (by omega)])⟩
  | succ d ih =>
    intro n hn
    obtain ⟨v, h1, h2⟩ := hs l[n] (List.getElem_mem _) m[n]
    obtain ⟨v', h3, h4⟩ := ih (n + 1) (by omega)
    cases v with
    | true =>
      refine ⟨v', ?_, ?_⟩
      · refine Ev.step (fun k => by simp only [spec_ExSame.l0]; rw [if_pos (by omega), if_pos (by omega), if_pos (by omega), rdI l n (by omega), rdI m n (by omega), w_succ (by omega)]) ?_
        exact Ev.bind h1 (Ev.pos rfl h3)
      · refine Ev.step (fun k => by simp only [impl_Ex_34.l0]; rw [if_pos (by omega), if_pos (by omega), if_pos (by omega), if_pos (by omega), rdI l n (by omega), rdI m n (by omega), w_succ (by omega)]) ?_
        exact Ev.bind h2 (Ev.pos rfl h4)
    | false =>
      refine ⟨false, ?_, ?_⟩
      · refine Ev.step (fun k => by simp only [spec_ExSame.l0]; rw [if_pos (by omega), if_pos (by omega), if_pos (by omega), rdI l n (by omega), rdI m n (by omega), w_succ (by omega)]) ?_
        exact Ev.bind h1 (Ev.neg (by decide) (Ev.now _))
      · refine Ev.step (fun k => by simp only [impl_Ex_34.l0]; rw [if_pos (by omega), if_pos (by omega), if_pos (by omega), if_pos (by omega), rdI l n (by omega), rdI m n (by omega), w_succ (by omega)]) ?_
        exact Ev.bind h2 (Ev.neg (by decide) (Ev.now _))
theorem same_ev : ∀ a : S29, allY a ≤ 1048576 → SameOk a := by
  refine indI (fun x ih g b => ?_)
  have hk : ∀ y ∈ x.f3, SameOk y := fun y hy => ih y hy (by have := allY_mem hy; omega)
  have hl : x.f3.length ≤ 1048576 := by have := allY_len (x := x); omega
  have bad : Ev (fun k => spec_ExSame.j0 k true x.f0 x.f1 x.f2 x.f3 b.f0 b.f1 b.f2 b.f3) false := Ev.last (fun k => by simp only [spec_ExSame.j0]; rw [if_pos trivial])
  by_cases h0 : x.f0 = b.f0
  rotate_left
  · exact ⟨false, Ev.step (fun k => by simp only [spec_ExSame.f]; rw [if_neg h0]) bad, Ev.last (fun k => by simp only [impl_ExSame.f]; rw [if_neg h0])⟩
  by_cases h1 : x.f1 = b.f1
  rotate_left
  · exact ⟨false, Ev.step (fun k => by simp only [spec_ExSame.f]; rw [if_pos h0, if_neg h1]) bad, Ev.last (fun k => by simp only [impl_ExSame.f]; rw [if_pos h0, if_neg h1])⟩
  by_cases h2 : x.f2 = b.f2
  rotate_left
  · exact ⟨false, Ev.step (fun k => by simp only [spec_ExSame.f]; rw [if_pos h0, if_pos h1, if_neg h2]) bad, Ev.last (fun k => by simp only [impl_ExSame.f]; rw [if_pos h0, if_pos h1, if_neg h2])⟩
  by_cases h3 : x.f3.length = b.f3.length
  · obtain ⟨v, hv, hw⟩ := same_l0_ev x.f3 b.f3 hl h3 hk x.f0 x.f1 x.f2 b.f0 b.f1 b.f2 x.f3.length 0 (by omega)
    refine ⟨v, ?_, ?_⟩
    · have hd : ((x.f3.length : Int) != (b.f3.length : Int)) = false := by rw [h3]; simp
      refine Ev.step (fun k => by simp only [spec_ExSame.f]; rw [if_pos h0, if_pos h1, if_pos h2, hd]) ?_
      refine Ev.step (fun k => by simp only [spec_ExSame.j0]; rw [if_neg (by decide)]) ?_
      exact hv
    · refine Ev.step (fun k => by simp only [impl_ExSame.f]; rw [if_pos h0, if_pos h1, if_pos h2]) ?_
      refine Ev.bindS (Ev.step (fun k => by simp only [impl_Ex_34.f]; rw [if_pos (by omega)]; rfl) hw) rfl
  · have hd : ((x.f3.length : Int) != (b.f3.length : Int)) = true := by simp; omega
    refine ⟨false, ?_, ?_⟩
    · refine Ev.step (fun k => by simp only [spec_ExSame.f]; rw [if_pos h0, if_pos h1, if_pos h2, hd]) ?_
      exact bad
    · refine Ev.step (fun k => by simp only [impl_ExSame.f]; rw [if_pos h0, if_pos h1, if_pos h2]) ?_
      refine Ev.bindS (a := false) (Ev.last (fun k => by simp only [impl_Ex_34.f]; rw [if_neg (by omega)])) rfl
theorem ofInt_small (a : Nat) (ha : a < 9223372036854775808) : (BitVec.ofInt 64 (a : Int)).toNat = a := by
  rw [BitVec.ofInt_natCast, BitVec.toNat_ofNat]; exact Nat.mod_eq_of_lt (by omega)
theorem xor_small (a b : Nat) (ha : a < 9223372036854775808) (hb : b < 9223372036854775808) : bits .xor .i64 (a : Int) (b : Int) = ((a ^^^ b : Nat) : Int) := by
  have hx : a ^^^ b < 2 ^ 63 := Nat.xor_lt_two_pow (by omega) (by omega)
  show IntKind.i64.wrap ((BitVec.ofInt 64 (a : Int) ^^^ BitVec.ofInt 64 (b : Int)).toNat : Int) = _
  rw [BitVec.toNat_xor, ofInt_small a ha, ofInt_small b hb, IntKind.wrap_i64]
  omega
theorem mix_small (x : Int) (h0 : 0 ≤ x) (h1 : x ≤ 1099511627776) : 0 ≤ bits .xor .i64 x (wrap64 (Int.tdiv x 64)) := by
  obtain ⟨n, rfl⟩ := Int.eq_ofNat_of_zero_le h0
  have : Int.tdiv (n : Int) 64 = ((n / 64 : Nat) : Int) := rfl
  rw [this, w_small (by omega) (by omega), xor_small n (n / 64) (by omega) (by omega)]
  exact Int.natCast_nonneg _

def Bytes (bs : List Int) : Prop := bs.length ≤ 2000 ∧ ∀ x ∈ bs, 0 ≤ x ∧ x ≤ 255
theorem bytes_of {l : List Int} (h : ∀ x ∈ l, (Lit.int .u8 x).wf = true) : ∀ x ∈ l, 0 ≤ x ∧ x ≤ 255 := by
  intro x hx
  have := h x hx
  simp only [Lit.wf, Bool.and_eq_true, decide_eq_true_eq] at this
  exact this
theorem Bytes.rdLe {bs : List Int} (h : Bytes bs) (i : Int) : 0 ≤ rd bs i ∧ rd bs i ≤ 255 := by
  unfold rd
  rw [List.getD_eq_getElem?_getD]
  rcases Nat.lt_or_ge i.toNat bs.length with hi | hi
  · rw [List.getElem?_eq_getElem hi]
    exact h.2 _ (List.getElem_mem hi)
  · rw [List.getElem?_eq_none hi]
    simp

theorem l14Open_is (l : List Int) (hl : l.length ≤ 9223372036854775807) : spec_l14Open.f l = some (l.take 2000, 0) := by
  unfold spec_l14Open.f
  by_cases h : (l.length : Int) > 2000
  · rw [if_pos h, if_pos (by omega)]
  · rw [if_neg h, List.take_of_length_le (by omega)]
theorem open_bytes {l : List Int} (h : ∀ x ∈ l, (Lit.int .u8 x).wf = true) : Bytes (l.take 2000) :=
  ⟨by rw [List.length_take]; omega, fun x hx => bytes_of h x (List.mem_of_mem_take hx)⟩

theorem tmod_lt (a n : Int) (h0 : 0 ≤ a) (h1 : 1 ≤ n) : 0 ≤ Int.tmod a n ∧ Int.tmod a n < n := by
  rw [Int.tmod_eq_emod_of_nonneg h0]
  exact ⟨Int.emod_nonneg _ (by omega), Int.emod_lt_of_pos _ (by omega)⟩

theorem pick_ev (bs : List Int) (hb : Bytes bs) (p n : Int) (h0 : 0 ≤ p) (h1 : p ≤ 1000000) : ∃ r, Ev (fun k => spec_l14Rd_pick.f k bs p n) (r, p + 1) ∧ 0 ≤ r ∧ (r < n ∨ n < 1 ∧ r = 0) := by
  have w1 : wrap64 (p + 1) = p + 1 := w_small (by omega) (by omega)
  by_cases hn : n < 1
  · refine ⟨0, ?_, by omega, .inr ⟨hn, rfl⟩⟩
    unfold spec_l14Rd_pick.f
    refine Ev.pos hn (Ev.last (fun k => ?_))
    simp only [spec_l14Rd_pick.j0]
    rw [if_pos trivial, w1]
  by_cases he : (bs.length : Int) = 0
  · refine ⟨0, ?_, by omega, .inl (by omega)⟩
    unfold spec_l14Rd_pick.f
    refine Ev.neg hn (Ev.last (fun k => ?_))
    simp only [spec_l14Rd_pick.j0]
    rw [beq_iff_eq.2 he, if_pos rfl, w1]
  have w2 : wrap64 (p + 1 - 1) = p := by rw [show p + 1 - 1 = p by omega]; exact w_small (by omega) (by omega)
  have hne : ((bs.length : Int) == 0) = false := beq_eq_false_iff_ne.2 he
  have hlen := hb.1
  by_cases hk : p < (bs.length : Int)
  · have hr := hb.rdLe p
    have hm := tmod_lt (rd bs p) n hr.1 (by omega)
    refine ⟨Int.tmod (rd bs p) n, ?_, hm.1, .inl hm.2⟩
    unfold spec_l14Rd_pick.f
    refine Ev.neg hn (Ev.last (fun k => ?_))
    simp only [spec_l14Rd_pick.j0]
    rw [hne, if_neg (by decide), w1, w2, if_pos hk, if_pos h0, if_neg (by omega), w_small (by omega) (by omega)]
  have t1 := tmod_lt p (bs.length : Int) h0 (by omega)
  have w3 : wrap64 (p * 7) = p * 7 := w_small (by omega) (by omega)
  have w4 : wrap64 (p * 7 + 3) = p * 7 + 3 := w_small (by omega) (by omega)
  have t2 := tmod_lt (p * 7 + 3) (bs.length : Int) (by omega) (by omega)
  have r1 := hb.rdLe (Int.tmod p (bs.length : Int))
  have r2 := hb.rdLe (Int.tmod (p * 7 + 3) (bs.length : Int))
  have hd : 0 ≤ Int.tdiv p (bs.length : Int) ∧ Int.tdiv p (bs.length : Int) ≤ p := by
    rw [Int.tdiv_eq_ediv_of_nonneg h0]
    exact ⟨Int.ediv_nonneg h0 (by omega), Int.ediv_le_self _ h0⟩
  have w5 : wrap64 (Int.tdiv p (bs.length : Int)) = Int.tdiv p (bs.length : Int) := w_small (by omega) (by omega)
  generalize hq : Int.tdiv p (bs.length : Int) = q at *
  generalize ha : rd bs (Int.tmod p (bs.length : Int)) = a at *
  generalize hb' : rd bs (Int.tmod (p * 7 + 3) (bs.length : Int)) = b at *
  have x1 : wrap64 a = a := w_small (by omega) (by omega)
  have x2 : wrap64 b = b := w_small (by omega) (by omega)
  have x3 : wrap64 (a * 131) = a * 131 := w_small (by omega) (by omega)
  have x4 : wrap64 (b * 1117) = b * 1117 := w_small (by omega) (by omega)
  have x5 : wrap64 (a * 131 + b * 1117) = a * 131 + b * 1117 := w_small (by omega) (by omega)
  have x6 : wrap64 (p * 29) = p * 29 := w_small (by omega) (by omega)
  have x7 : wrap64 (a * 131 + b * 1117 + p * 29) = a * 131 + b * 1117 + p * 29 := w_small (by omega) (by omega)
  have x8 : wrap64 (q * 53) = q * 53 := w_small (by omega) (by omega)
  have x9 : wrap64 (a * 131 + b * 1117 + p * 29 + q * 53) = a * 131 + b * 1117 + p * 29 + q * 53 := w_small (by omega) (by omega)
  have hx := mix_small (a * 131 + b * 1117 + p * 29 + q * 53) (by omega) (by omega)
  generalize hX : bits .xor .i64 (a * 131 + b * 1117 + p * 29 + q * 53) (wrap64 (Int.tdiv (a * 131 + b * 1117 + p * 29 + q * 53) 64)) = X at *
  have hm := tmod_lt X n hx (by omega)
  refine ⟨Int.tmod X n, ?_, hm.1, .inl hm.2⟩
  unfold spec_l14Rd_pick.f
  refine Ev.neg hn (Ev.last (fun k => ?_))
  simp only [spec_l14Rd_pick.j0]
  rw [hne, if_neg (by decide), w1, w2, if_neg hk, if_neg he, if_pos t1.1, if_pos t1.2, w3, w4, if_pos t2.1, if_pos t2.2, if_neg (by omega), hq, ha, hb', w5, x1, x2, x3, x4, x5, x6, x7, x8, x9, hX]

theorem num_ev (bs : List Int) (hb : Bytes bs) (p : Int) (l : List Int) (hl : l ≠ []) (hm : l.length ≤ 1000000) (h0 : 0 ≤ p) (h1 : p ≤ 1000000) : ∃ r, Ev (fun k => spec_l14Rd_num.f k bs p l) (r, p + 1) ∧ r ∈ l := by
  obtain ⟨r, hr, h2, h3⟩ := pick_ev bs hb p (l.length : Int) h0 h1
  have hpos : 0 < l.length := List.length_pos_iff.2 hl
  have hlt : r < (l.length : Int) := by omega
  refine ⟨rd l r, ?_, ?_⟩
  · unfold spec_l14Rd_num.f
    exact Ev.bind hr (Ev.pos h2 (Ev.pos hlt (Ev.now _)))
  · unfold rd
    rw [List.getD_eq_getElem?_getD, List.getElem?_eq_getElem (show r.toNat < l.length by omega)]
    exact List.getElem_mem _
mutual
def manyY : S29 → Nat
  | ⟨_, _, _, l⟩ => 1 + manysY l
def manysY : List S29 → Nat
  | [] => 0
  | x :: xs => manyY x + manysY xs
end
mutual
def deepY : S29 → Nat
  | ⟨_, _, _, l⟩ => 1 + deepsY l
def deepsY : List S29 → Nat
  | [] => 0
  | x :: xs => max (deepY x) (deepsY xs)
end
def kidsOf (a : Int) : Int := if a = 1 then 0 else if a = 7 then 1 else if a = 2 ∨ a = 3 ∨ a = 4 then 2 else if a = 5 ∨ a = 6 then 3 else -1
def okN (a b c : Int) (n : Nat) : Bool := decide (kidsOf a = n) && (if a = 1 then decide (0 ≤ b ∧ b ≤ 4) else decide (b = 0)) && (if a = 7 then decide (1 ≤ c ∧ c ≤ 20) else decide (c = 0))
mutual
def fmY : S29 → Bool
  | ⟨a, b, c, l⟩ => okN a b c l.length && fmsY l
def fmsY : List S29 → Bool
  | [] => true
  | x :: xs => fmY x && fmsY xs
end
theorem manyY_is (x : S29) : manyY x = 1 + manysY x.f3 := by cases x; simp [manyY]
theorem manysY_nil : manysY [] = 0 := by simp [manysY]
theorem manysY_cons (x : S29) (l : List S29) : manysY (x :: l) = manyY x + manysY l := by simp [manysY]
theorem deepY_is (x : S29) : deepY x = 1 + deepsY x.f3 := by cases x; simp [deepY]
theorem deepsY_nil : deepsY [] = 0 := by simp [deepsY]
theorem deepsY_cons (x : S29) (l : List S29) : deepsY (x :: l) = max (deepY x) (deepsY l) := by simp [deepsY]
theorem fmY_is (x : S29) : fmY x = (okN x.f0 x.f1 x.f2 x.f3.length && fmsY x.f3) := by cases x; simp [fmY]
theorem fmsY_nil : fmsY [] = true := by simp [fmsY]
theorem fmsY_cons (x : S29) (l : List S29) : fmsY (x :: l) = (fmY x && fmsY l) := by simp [fmsY]
theorem manysY_all (l : List S29) (h : ∀ x ∈ l, manyY x = 1 + allY x) : manysY l = l.length + kidsY l := by
  induction l with
  | nil => simp [manysY_nil, kidsY_nil]
  | cons x l ih => rw [manysY_cons, kidsY_cons, h x (by simp), ih (fun y hy => h y (by simp [hy]))]; simp; omega
theorem manyY_all : ∀ x : S29, manyY x = 1 + allY x := by
  refine indI (fun x ih => ?_)
  rw [manyY_is, allY_is, manysY_all _ ih]
theorem deepsY_le (l : List S29) (h : ∀ x ∈ l, deepY x ≤ manyY x) : deepsY l ≤ manysY l := by
  induction l with
  | nil => simp [deepsY_nil, manysY_nil]
  | cons x l ih =>
    have h1 := h x (by simp)
    have h2 := ih (fun y hy => h y (by simp [hy]))
    rw [manysY_cons, deepsY_cons]
    omega
theorem deepY_le : ∀ x : S29, deepY x ≤ manyY x := by
  refine indI (fun x ih => ?_)
  have := deepsY_le _ ih
  rw [manyY_is, deepY_is]
  omega
def SizeOk (x : S29) : Prop := Ev (fun k => impl_Ex_size.f k x.f0 x.f1 x.f2 x.f3) ((manyY x : Int), (deepY x : Int))
theorem size_l0_ev (l : List S29) (hl : l.length ≤ 1048576) (hm : manysY l ≤ 1048577) (hs : ∀ x ∈ l, SizeOk x) : ∀ (d n m p : Nat), n + d = l.length → 1 ≤ m → 1 ≤ p → p ≤ 1048579 → m + manysY (l.drop n) ≤ 1048579 → Ev (fun k => impl_Ex_size.l0 k (m : Int) (p : Int) l (l.length : Int) (n : Int)) (((m + manysY (l.drop n) : Nat) : Int), ((max p (1 + deepsY (l.drop n)) : Nat) : Int)) := by
  intro d
  induction d with
  | zero =>
    intro n m p hn h0 h1 h2 h3
    rw [List.drop_of_length_le (by omega), manysY_nil, deepsY_nil]
    refine Ev.last (fun k => by simp only [impl_Ex_size.l0]; rw [if_neg (by omega)]; rw [Nat.max_eq_left (by omega)]; rfl)
  | succ d ih =>
    intro n m p hn h0 h1 h2 h3
    have hx : SizeOk l[n] := hs _ (List.getElem_mem _)
    have hd := List.drop_eq_getElem_cons (l := l) (i := n) (by omega)
    rw [hd, manysY_cons] at h3
    rw [hd, manysY_cons, deepsY_cons]
    have hp := deepY_le l[n]
    have e1 : wrap64 ((m : Int) + (manyY l[n] : Int)) = ((m + manyY l[n] : Nat) : Int) := by rw [w_small (by omega) (by omega)]; omega
    have e2 : mx (p : Int) (wrap64 ((deepY l[n] : Int) + 1)) = ((max p (1 + deepY l[n]) : Nat) : Int) := by rw [w_small (by omega) (by omega)]; unfold mx; omega
    refine Ev.step (fun k => by simp only [impl_Ex_size.l0]; rw [if_pos (by omega), if_pos (by omega), if_pos (by omega), rdI l n (by omega), w_succ (by omega)]) ?_
    refine Ev.bind hx ?_
    simp only [e1, e2]
    refine Ev.val (ih (n + 1) (m + manyY l[n]) (max p (1 + deepY l[n])) (by omega) (by omega) (by omega) (by omega) (by omega)) ?_
    refine Prod.ext ?_ ?_
    · show ((_ : Nat) : Int) = ((_ : Nat) : Int)
      congr 1
      omega
    · show ((_ : Nat) : Int) = ((_ : Nat) : Int)
      congr 1
      omega
theorem size_ev : ∀ x : S29, allY x ≤ 1048576 → SizeOk x := by
  refine indI (fun x ih g => ?_)
  have hk : ∀ y ∈ x.f3, SizeOk y := fun y hy => ih y hy (by have := allY_mem hy; omega)
  have hl : x.f3.length ≤ 1048576 := by have := allY_len (x := x); omega
  have hm : manysY x.f3 ≤ 1048577 := by have h1 := manyY_all x; have h2 := manyY_is x; omega
  unfold SizeOk
  refine Ev.step (fun k => by simp only [impl_Ex_size.f]; rfl) ?_
  refine Ev.val (size_l0_ev x.f3 hl hm hk x.f3.length 0 1 1 (by omega) (by omega) (by omega) (by omega) (by rw [List.drop_zero]; omega)) ?_
  rw [List.drop_zero, manyY_is, deepY_is]
  refine Prod.ext rfl ?_
  show ((_ : Nat) : Int) = ((_ : Nat) : Int)
  congr 1
  omega

def ManyOk (x : S29) : Prop := ∀ d : Nat, d ≤ 100 → deepY x ≤ d + 1 → Ev (fun k => spec_l2Many.f k x.f0 x.f1 x.f2 x.f3 (d : Int)) (manyY x : Int)
theorem many_l0_ev (l : List S29) (hl : l.length ≤ 1048576) (hs : ∀ x ∈ l, ManyOk x) (a b c : Int) (e : Nat) (he : e ≤ 100) : ∀ (d n m : Nat), n + d = l.length → deepsY (l.drop n) ≤ e → m + manysY (l.drop n) ≤ 1048579 → Ev (fun k => spec_l2Many.l0 k (e : Int) (m : Int) (n : Int) a b c l) ((m + manysY (l.drop n) : Nat) : Int) := by
  intro d
  induction d with
  | zero =>
    intro n m hn h1 h3
    rw [List.drop_of_length_le (by omega), manysY_nil]
    refine Ev.last (fun k => by simp only [spec_l2Many.l0]; rw [if_neg (by omega)]; rfl)
  | succ d ih =>
    intro n m hn h1 h3
    have hx : ManyOk l[n] := hs _ (List.getElem_mem _)
    have hd := List.drop_eq_getElem_cons (l := l) (i := n) (by omega)
    rw [hd, manysY_cons] at h3
    rw [hd, deepsY_cons] at h1
    rw [hd, manysY_cons]
    have hp : 1 ≤ deepY l[n] := by rw [deepY_is]; omega
    have e0 : wrap64 ((e : Int) - 1) = ((e - 1 : Nat) : Int) := by rw [w_small (by omega) (by omega)]; omega
    have e1 : wrap64 ((m : Int) + (manyY l[n] : Int)) = ((m + manyY l[n] : Nat) : Int) := by rw [w_small (by omega) (by omega)]; omega
    refine Ev.step (fun k => by simp only [spec_l2Many.l0]; rw [if_pos (by omega), if_pos (by omega), if_pos (by omega), rdI l n (by omega), w_succ (by omega), e0]) ?_
    refine Ev.bind (hx (e - 1) (by omega) (by omega)) ?_
    simp only [e1]
    have h5 : deepsY (l.drop (n + 1)) ≤ e := by omega
    have h6 : m + manyY l[n] + manysY (l.drop (n + 1)) ≤ 1048579 := by rw [Nat.add_assoc]; exact h3
    have h4 := ih (n + 1) (m + manyY l[n]) (by omega) h5 h6
    rw [Nat.add_assoc] at h4
    exact h4
theorem many_ev : ∀ x : S29, allY x ≤ 1048576 → ManyOk x := by
  refine indI (fun x ih g e he hd => ?_)
  have hk : ∀ y ∈ x.f3, ManyOk y := fun y hy => ih y hy (by have := allY_mem hy; omega)
  have hl : x.f3.length ≤ 1048576 := by have := allY_len (x := x); omega
  have hm : manysY x.f3 ≤ 1048577 := by have h1 := manyY_all x; have h2 := manyY_is x; omega
  rw [deepY_is] at hd
  refine Ev.step (fun k => by simp only [spec_l2Many.f]; rfl) ?_
  refine Ev.val (many_l0_ev x.f3 hl hk x.f0 x.f1 x.f2 e he x.f3.length 0 1 (by omega) (by rw [List.drop_zero]; omega) (by rw [List.drop_zero]; omega)) ?_
  rw [List.drop_zero, manyY_is]

theorem l2Kids_ev (a : Int) : Ev (fun k => spec_l2Kids.f k a) (kidsOf a) := by
  unfold spec_l2Kids.f kidsOf
  by_cases h1 : a = 1
  · exact Ev.pos h1 (Ev.val (Ev.now _) (by rw [if_pos h1]))
  refine Ev.neg h1 ?_
  rw [if_neg h1]
  by_cases h7 : a = 7
  · exact Ev.pos h7 (Ev.val (Ev.now _) (by rw [if_pos h7]))
  refine Ev.neg h7 ?_
  rw [if_neg h7]
  have yes : a = 2 ∨ a = 3 ∨ a = 4 → Ev (fun k => spec_l2Kids.j0 k a true) (if a = 2 ∨ a = 3 ∨ a = 4 then 2 else if a = 5 ∨ a = 6 then 3 else -1) := fun h => Ev.last (fun k => by simp only [spec_l2Kids.j0]; rw [if_pos trivial, if_pos h])
  by_cases h2 : a = 2
  · refine Ev.pos h2 ?_
    rw [show (a == 2) = true by simp [h2]]
    exact yes (by omega)
  refine Ev.neg h2 ?_
  by_cases h3 : a = 3
  · refine Ev.pos h3 ?_
    rw [show (a == 3) = true by simp [h3]]
    exact yes (by omega)
  refine Ev.neg h3 ?_
  by_cases h4 : a = 4
  · rw [show (a == 4) = true by simp [h4]]
    exact yes (by omega)
  rw [show (a == 4) = false by simp [h4]]
  rw [if_neg (by omega)]
  by_cases h5 : a = 5
  · exact Ev.last (fun k => by simp only [spec_l2Kids.j0]; rw [if_neg (by decide), if_pos h5, if_pos (by omega)])
  by_cases h6 : a = 6
  · exact Ev.last (fun k => by simp only [spec_l2Kids.j0]; rw [if_neg (by decide), if_neg h5, if_pos h6, if_pos (by omega)])
  · exact Ev.last (fun k => by simp only [spec_l2Kids.j0]; rw [if_neg (by decide), if_neg h5, if_neg h6, if_neg (by omega)])

def FormOk (x : S29) : Prop := ∀ d : Nat, d ≤ 100 → Ev (fun k => spec_l2Form.f k x.f0 x.f1 x.f2 x.f3 (d : Int)) (fmY x && decide (deepY x ≤ d))
theorem form_l0_ev (l : List S29) (hl : l.length ≤ 1048576) (hs : ∀ x ∈ l, FormOk x) (a b c : Int) (e : Nat) (he : e < 100) : ∀ (d n : Nat), n + d = l.length → Ev (fun k => spec_l2Form.l0 k ((e + 1 : Nat) : Int) (n : Int) a b c l) (fmsY (l.drop n) && decide (deepsY (l.drop n) ≤ e)) := by
  intro d
  induction d with
  | zero =>
    intro n hn
    rw [List.drop_of_length_le (by omega), fmsY_nil, deepsY_nil]
    exact Ev.last (fun k => by simp only [spec_l2Form.l0]; rw [if_neg (by omega)]; simp)
  | succ d ih =>
    intro n hn
    have hx : FormOk l[n] := hs _ (List.getElem_mem _)
    have hd := List.drop_eq_getElem_cons (l := l) (i := n) (by omega)
    rw [hd, fmsY_cons, deepsY_cons]
    have e0 : wrap64 (((e + 1 : Nat) : Int) - 1) = (e : Int) := by rw [w_small (by omega) (by omega)]; omega
    refine Ev.step (fun k => by simp only [spec_l2Form.l0]; rw [if_pos (by omega), if_pos (by omega), rdI l n (by omega), w_succ (by omega), e0]) ?_
    refine Ev.bind (hx e (by omega)) ?_
    by_cases h : (fmY l[n] && decide (deepY l[n] ≤ e)) = true
    · refine Ev.pos h (Ev.val (ih (n + 1) (by omega)) ?_)
      simp only [Bool.and_eq_true, decide_eq_true_eq] at h
      rw [h.1, Bool.true_and]
      have : (deepsY (l.drop (n + 1)) ≤ e) ↔ (max (deepY l[n]) (deepsY (l.drop (n + 1))) ≤ e) := by omega
      simp only [this]
    refine Ev.neg h (Ev.val (Ev.now false) ?_)
    by_cases hf : fmY l[n] = true
    · have : ¬ (max (deepY l[n]) (deepsY (l.drop (n + 1))) ≤ e) := by
        simp [hf] at h
        omega
      simp [this]
    · simp [hf]
theorem form_ev : ∀ x : S29, allY x ≤ 1048576 → FormOk x := by
  refine indI (fun x ih g d hd => ?_)
  have hk : ∀ y ∈ x.f3, FormOk y := fun y hy => ih y hy (by have := allY_mem hy; omega)
  have hl : x.f3.length ≤ 1048576 := by have := allY_len (x := x); omega
  rw [fmY_is, deepY_is]
  have bad : ∀ v : Bool, v = false → Ev (fun k => spec_l2Form.j0 k (d : Int) true x.f0 x.f1 x.f2 x.f3) v := fun v hv => Ev.last (fun k => by simp only [spec_l2Form.j0]; rw [if_pos trivial, hv])
  have bad1 : ∀ v : Bool, v = false → Ev (fun k => spec_l2Form.j1 k (d : Int) true x.f0 x.f1 x.f2 x.f3) v := fun v hv => Ev.last (fun k => by simp only [spec_l2Form.j1]; rw [if_pos trivial, hv])
  by_cases hd1 : (d : Int) < 1
  · refine Ev.step (fun k => by simp only [spec_l2Form.f]; rw [if_pos hd1]) (bad _ ?_)
    have : ¬ (1 + deepsY x.f3 ≤ d) := by omega
    simp [this]
  obtain ⟨e, rfl⟩ : ∃ e, d = e + 1 := ⟨d - 1, by omega⟩
  refine Ev.step (fun k => by simp only [spec_l2Form.f]; rw [if_neg hd1]) ?_
  refine Ev.bind (l2Kids_ev x.f0) ?_
  by_cases hn : kidsOf x.f0 = (x.f3.length : Int)
  rotate_left
  · refine Ev.neg hn (bad _ ?_)
    simp [okN, hn]
  refine Ev.pos hn ?_
  have rest : Ev (fun k => spec_l2Form.j0 k ((e + 1 : Nat) : Int) false x.f0 x.f1 x.f2 x.f3) ((if x.f0 = 7 then decide (1 ≤ x.f2 ∧ x.f2 ≤ 20) else decide (x.f2 = 0)) && (fmsY x.f3 && decide (deepsY x.f3 ≤ e))) := by
    have loop : Ev (fun k => spec_l2Form.j1 k ((e + 1 : Nat) : Int) false x.f0 x.f1 x.f2 x.f3) (fmsY x.f3 && decide (deepsY x.f3 ≤ e)) := by
      refine Ev.step (fun k => by simp only [spec_l2Form.j1]; rw [if_neg (by decide)]) ?_
      exact form_l0_ev x.f3 hl hk x.f0 x.f1 x.f2 e (by omega) x.f3.length 0 (by omega)
    by_cases h7 : x.f0 = 7
    · rw [if_pos h7]
      by_cases c1 : x.f2 < 1
      · refine Ev.step (fun k => by simp only [spec_l2Form.j0]; rw [if_neg (by decide), if_pos h7, if_pos c1]) (bad1 _ ?_)
        have : ¬ (1 ≤ x.f2 ∧ x.f2 ≤ 20) := by omega
        simp [this]
      by_cases c2 : x.f2 > 20
      · refine Ev.step (fun k => by simp only [spec_l2Form.j0]; rw [if_neg (by decide), if_pos h7, if_neg c1, if_pos c2]) (bad1 _ ?_)
        have : ¬ (1 ≤ x.f2 ∧ x.f2 ≤ 20) := by omega
        simp [this]
      · refine Ev.step (fun k => by simp only [spec_l2Form.j0]; rw [if_neg (by decide), if_pos h7, if_neg c1, if_neg c2]) (Ev.val loop ?_)
        have : (1 ≤ x.f2 ∧ x.f2 ≤ 20) := by omega
        simp [this]
    · rw [if_neg h7]
      by_cases c0 : x.f2 = 0
      · refine Ev.step (fun k => by simp only [spec_l2Form.j0]; rw [if_neg (by decide), if_neg h7, show (x.f2 != 0) = false by simp [c0]]) (Ev.val loop ?_)
        simp [c0]
      · refine Ev.step (fun k => by simp only [spec_l2Form.j0]; rw [if_neg (by decide), if_neg h7, show (x.f2 != 0) = true by simp [c0]]) (bad1 _ ?_)
        simp [c0]
  have hdd : (1 + deepsY x.f3 ≤ e + 1) ↔ (deepsY x.f3 ≤ e) := by omega
  simp only [hdd, okN, hn, decide_true, Bool.true_and]
  by_cases b0 : x.f1 < 0
  · refine Ev.pos b0 (bad _ ?_)
    have h1 : ¬ (0 ≤ x.f1 ∧ x.f1 ≤ 4) := by omega
    have h2 : ¬ (x.f1 = 0) := by omega
    simp [h1, h2]
  refine Ev.neg b0 ?_
  by_cases b5 : x.f1 ≥ 5
  · refine Ev.pos b5 (bad _ ?_)
    have h1 : ¬ (0 ≤ x.f1 ∧ x.f1 ≤ 4) := by omega
    have h2 : ¬ (x.f1 = 0) := by omega
    simp [h1, h2]
  refine Ev.neg b5 ?_
  by_cases a1 : x.f0 = 1
  · refine Ev.pos a1 (Ev.val rest ?_)
    rw [if_pos a1]
    have h1 : (0 ≤ x.f1 ∧ x.f1 ≤ 4) := by omega
    simp [h1, Bool.and_assoc]
  refine Ev.neg a1 ?_
  rw [if_neg a1]
  by_cases hb : x.f1 = 0
  · rw [show (x.f1 != 0) = false by simp [hb]]
    refine Ev.val rest ?_
    simp [hb, Bool.and_assoc]
  · rw [show (x.f1 != 0) = true by simp [hb]]
    exact bad _ (by simp [hb])

theorem in_is (a b c : Int) : impl_in.f a b c = some (decide (b ≤ a ∧ a ≤ c)) := by
  unfold impl_in.f
  by_cases h : b ≤ a
  · rw [if_pos h]; simp [h]
  · rw [if_neg h]; simp [h]
theorem kids_is (a : Int) (h1 : 1 ≤ a) (h7 : a ≤ 7) : impl_kids.f a = some (kidsOf a) := by
  have : a = 1 ∨ a = 2 ∨ a = 3 ∨ a = 4 ∨ a = 5 ∨ a = 6 ∨ a = 7 := by omega
  rcases this with rfl | rfl | rfl | rfl | rfl | rfl | rfl <;> rfl
theorem kidsOf_out {a : Int} (h : ¬ (1 ≤ a ∧ a ≤ 7)) : kidsOf a = -1 := by
  unfold kidsOf
  rw [if_neg (by omega), if_neg (by omega), if_neg (by omega), if_neg (by omega)]
def FmOk (x : S29) : Prop := Ev (fun k => impl_Ex_formed.f k x.f0 x.f1 x.f2 x.f3) (fmY x)
theorem fm_l0_ev (l : List S29) (hl : l.length ≤ 1048576) (hs : ∀ x ∈ l, FmOk x) : ∀ (d n : Nat), n + d = l.length → ∃ r : Int, Ev (fun k => impl_Ex_75.l0 k l (l.length : Int) (n : Int)) r ∧ (decide (r ≥ 0) = !fmsY (l.drop n)) := by
  intro d
  induction d with
  | zero =>
    intro n hn
    rw [List.drop_of_length_le (by omega), fmsY_nil]
    exact ⟨-1, Ev.last (fun k => by simp only [impl_Ex_75.l0]; rw [if_neg (by omega)]), by decide⟩
  | succ d ih =>
    intro n hn
    have hx : FmOk l[n] := hs _ (List.getElem_mem _)
    have hd := List.drop_eq_getElem_cons (l := l) (i := n) (by omega)
    rw [hd, fmsY_cons]
    have h1 : Ev (fun k => impl_Ex_formed_1.f k l[n].f0 l[n].f1 l[n].f2 l[n].f3) (!fmY l[n]) := Ev.step (fun k => by simp only [impl_Ex_formed_1.f]; rfl) (Ev.bindS hx rfl)
    cases hf : fmY l[n] with
    | true =>
      obtain ⟨r, hr, hv⟩ := ih (n + 1) (by omega)
      refine ⟨r, ?_, by rw [hv, Bool.true_and]⟩
      refine Ev.step (fun k => by simp only [impl_Ex_75.l0]; rw [if_pos (by omega), if_pos (by omega), if_pos (by omega), rdI l n (by omega), w_succ (by omega)]) ?_
      exact Ev.bind h1 (Ev.neg (by rw [hf]; decide) hr)
    | false =>
      refine ⟨(n : Int), ?_, by simp⟩
      refine Ev.step (fun k => by simp only [impl_Ex_75.l0]; rw [if_pos (by omega), if_pos (by omega), if_pos (by omega), rdI l n (by omega), w_succ (by omega)]) ?_
      exact Ev.bind h1 (Ev.pos (by rw [hf]; decide) (Ev.now _))
theorem formed_ev : ∀ x : S29, allY x ≤ 1048576 → FmOk x := by
  refine indI (fun x ih g => ?_)
  have hk : ∀ y ∈ x.f3, FmOk y := fun y hy => ih y hy (by have := allY_mem hy; omega)
  have hl : x.f3.length ≤ 1048576 := by have := allY_len (x := x); omega
  have hc : Ev (fun k => impl_Ex_63.f k x.f3) (!fmsY x.f3) := by
    obtain ⟨r, hr, hv⟩ := fm_l0_ev x.f3 hl hk x.f3.length 0 (by omega)
    rw [List.drop_zero] at hv
    refine Ev.step (fun k => by simp only [impl_Ex_63.f]; rfl) ?_
    refine Ev.bindS (Ev.step (fun k => by simp only [impl_Ex_75.f]; rfl) hr) ?_
    rw [hv]
  have bad : ∀ v : Bool, v = false → Ev (fun k => impl_Ex_formed.j0 k true x.f0 x.f1 x.f2 x.f3) v := fun v hv => Ev.last (fun k => by simp only [impl_Ex_formed.j0]; rw [if_pos trivial, hv])
  have bad1 : ∀ v : Bool, v = false → Ev (fun k => impl_Ex_formed.j1 k true x.f0 x.f1 x.f2 x.f3) v := fun v hv => Ev.last (fun k => by simp only [impl_Ex_formed.j1]; rw [if_pos trivial, hv])
  have last : Ev (fun k => impl_Ex_formed.j1 k false x.f0 x.f1 x.f2 x.f3) ((if x.f0 = 7 then decide (1 ≤ x.f2 ∧ x.f2 ≤ 20) else decide (x.f2 = 0)) && fmsY x.f3) := by
    by_cases h7 : x.f0 = 7
    · rw [if_pos h7]
      refine Ev.step (fun k => by simp only [impl_Ex_formed.j1]; rw [if_neg (by decide), if_pos h7, in_is, Option.bind_some]) ?_
      by_cases hc7 : 1 ≤ x.f2 ∧ x.f2 ≤ 20
      · refine Ev.pos (by simp [hc7]) (Ev.bindS hc ?_)
        simp [hc7]
      · refine Ev.neg (by simp; omega) (Ev.val (Ev.now false) ?_)
        simp [hc7]
    · rw [if_neg h7]
      by_cases hc0 : x.f2 = 0
      · refine Ev.step (fun k => by simp only [impl_Ex_formed.j1]; rw [if_neg (by decide), if_neg h7, if_pos hc0]) (Ev.bindS hc ?_)
        simp [hc0]
      · refine Ev.last (fun k => by simp only [impl_Ex_formed.j1]; rw [if_neg (by decide), if_neg h7, if_neg hc0]; simp [hc0])
  unfold FmOk
  rw [fmY_is]
  refine Ev.step (fun k => by simp only [impl_Ex_formed.f, impl_isKind.f]; rw [in_is, Option.bind_some, Option.bind_some]) ?_
  by_cases hkd : 1 ≤ x.f0 ∧ x.f0 ≤ 7
  rotate_left
  · refine Ev.neg (by simp; omega) (bad _ ?_)
    have hn : ¬ (kidsOf x.f0 = (x.f3.length : Int)) := by rw [kidsOf_out hkd]; omega
    simp [okN, hn]
  refine Ev.pos (by simp [hkd]) ?_
  refine Ev.bind (Ev.one (fun _ => kids_is x.f0 hkd.1 hkd.2)) ?_
  by_cases hn : kidsOf x.f0 = (x.f3.length : Int)
  rotate_left
  · rw [show ((x.f3.length : Int) != kidsOf x.f0) = true by simp; omega]
    exact bad _ (by simp [okN, hn])
  rw [show ((x.f3.length : Int) != kidsOf x.f0) = false by simp [hn]]
  by_cases a1 : x.f0 = 1
  · refine Ev.step (fun k => by simp only [impl_Ex_formed.j0, impl_isSym.f]; rw [if_neg (by decide), if_pos a1, in_is, Option.bind_some, Option.bind_some]) ?_
    by_cases hb : 0 ≤ x.f1 ∧ x.f1 ≤ 4
    · refine Ev.pos (by simp [hb]) (Ev.val last ?_)
      simp only [okN, hn, decide_true, Bool.true_and]
      rw [if_pos a1]
      simp [hb]
    · refine Ev.neg (by simp; omega) (bad1 _ ?_)
      simp only [okN, hn, decide_true, Bool.true_and]
      rw [if_pos a1]
      simp [hb]
  · by_cases hb : x.f1 = 0
    · refine Ev.step (fun k => by simp only [impl_Ex_formed.j0]; rw [if_neg (by decide), if_neg a1, show (x.f1 != 0) = false by simp [hb]]) (Ev.val last ?_)
      simp only [okN, hn, decide_true, Bool.true_and]
      rw [if_neg a1]
      simp [hb]
    · refine Ev.step (fun k => by simp only [impl_Ex_formed.j0]; rw [if_neg (by decide), if_neg a1, show (x.f1 != 0) = true by simp [hb]]) (bad1 _ ?_)
      simp only [okN, hn, decide_true, Bool.true_and]
      rw [if_neg a1]
      simp [hb]
def okX (x : S29) : Bool := fmY x && decide (deepY x ≤ 5) && decide (manyY x ≤ 12)
theorem form5 (x : S29) (h : allY x ≤ 1048576) : Ev (fun k => spec_l2Form.f k x.f0 x.f1 x.f2 x.f3 5) (fmY x && decide (deepY x ≤ 5)) := form_ev x h 5 (by omega)
theorem many5 (x : S29) (h : allY x ≤ 1048576) (hd : deepY x ≤ 5) : Ev (fun k => spec_l2Many.f k x.f0 x.f1 x.f2 x.f3 5) (manyY x : Int) := many_ev x h 5 (by omega) (by omega)
theorem spec_ExOk_ev (x : S29) (h : allY x ≤ 1048576) : Ev (fun k => spec_ExOk.f k x.f0 x.f1 x.f2 x.f3) (okX x) := by
  unfold spec_ExOk.f okX
  refine Ev.bind (form5 x h) ?_
  by_cases hf : (fmY x && decide (deepY x ≤ 5)) = true
  · have hd : deepY x ≤ 5 := by simp at hf; exact hf.2
    refine Ev.pos hf (Ev.bindS (many5 x h hd) ?_)
    rw [hf, Bool.true_and]
    have : ((manyY x : Int) ≤ 12) ↔ (manyY x ≤ 12) := by omega
    simp only [this]
  · refine Ev.neg hf (Ev.val (Ev.now _) ?_)
    simp only [Bool.not_eq_true] at hf
    rw [hf]
    rfl
theorem impl_ExOk_ev (x : S29) (h : allY x ≤ 1048576) : Ev (fun k => impl_ExOk.f k x.f0 x.f1 x.f2 x.f3) (okX x) := by
  unfold impl_ExOk.f okX
  refine Ev.bind (size_ev x h) ?_
  by_cases hm : manyY x ≤ 12
  · refine Ev.pos (show ((manyY x : Nat) : Int) ≤ 12 by omega) ?_
    by_cases hd : deepY x ≤ 5
    · refine Ev.pos (show ((deepY x : Nat) : Int) ≤ 5 by omega) (Ev.bindS (formed_ev x h) ?_)
      simp [hm, hd]
    · refine Ev.neg (show ¬ (((deepY x : Nat) : Int) ≤ 5) by omega) (Ev.val (Ev.now _) ?_)
      simp [hd]
  · refine Ev.neg (show ¬ (((manyY x : Nat) : Int) ≤ 12) by omega) (Ev.val (Ev.now _) ?_)
    simp [hm]
theorem kidsY_append (l m : List S29) : kidsY (l ++ m) = kidsY l + kidsY m := by
  induction l with
  | nil => simp [kidsY_nil]
  | cons x l ih => rw [List.cons_append, kidsY_cons, kidsY_cons, ih]; omega
theorem kidsOf_le (a : Int) : kidsOf a ≤ 3 := by
  unfold kidsOf
  (repeat' split) <;> omega
def bX : Nat → Nat
  | 0 => 0
  | d + 1 => 3 + 3 * bX d
def cX : Nat → Nat
  | 0 => 1
  | d + 1 => 3 + 3 * cX d
def DrawX (bs : List Int) (d : Nat) : Prop := ∀ p : Int, 0 ≤ p → p + (cX d : Int) ≤ 990000 → ∃ (x : S29) (q : Int), Ev (fun k => spec_l2Ex.f k bs p ((d + 1 : Nat) : Int)) (x.f0, x.f1, x.f2, x.f3, q) ∧ allY x ≤ bX d ∧ p ≤ q ∧ q ≤ p + (cX d : Int)
theorem eta_X (x : S29) : (⟨x.f0, x.f1, x.f2, x.f3⟩ : S29) = x := by cases x; rfl
theorem allY_mk (a b c : Int) (l : List S29) : allY (⟨a, b, c, l⟩ : S29) = l.length + kidsY l := by rw [allY_is]
theorem l2leaf_ev (bs : List Int) (hb : Bytes bs) (a p : Int) (h0 : 0 ≤ p) (h1 : p ≤ 1000000) : ∃ r : Int, Ev (fun k => spec_l2Ex.j0 k a true bs p) (1, r, 0, [], p + 1) := by
  obtain ⟨r, hr, _⟩ := num_ev bs hb p [0, 0, 1, 1, 2, 2, 3, 4] (by simp) (by simp) h0 h1
  exact ⟨r, (by refine Ev.step (fun k => by simp only [spec_l2Ex.j0]; rw [if_pos trivial]) ?_; exact (Ev.bindS hr rfl))⟩
theorem l2kids_ev (bs : List Int) (hb : Bytes bs) (d : Nat) (hd3 : d ≤ 3) (hd : DrawX bs d) : ∀ (e : Nat) (n p A B C : Int) (xs : List S29), n ≤ (e : Int) → e ≤ 3 → 0 ≤ p → p + ((e * cX d : Nat) : Int) ≤ 990000 → xs.length + e ≤ 1000 →
    ∃ (ys : List S29) (q : Int), Ev (fun k => spec_l2Ex.l0 k ((d + 2 : Nat) : Int) n bs p A B C xs) (A, B, C, ys, q) ∧ ys.length ≤ xs.length + e ∧ kidsY ys ≤ kidsY xs + e * bX d ∧ p ≤ q ∧ q ≤ p + ((e * cX d : Nat) : Int)
  | 0, n, p, A, B, C, xs, hn, _, h0, h1, hx => by
    refine ⟨xs, p, (by refine Ev.step (fun k => by simp only [spec_l2Ex.l0]; rw [if_neg (by omega)]) ?_; exact (Ev.now _)), by omega, by omega, by omega, by omega⟩
  | e + 1, n, p, A, B, C, xs, hn, he, h0, h1, hx => by
    have m1 : (e + 1) * cX d = e * cX d + cX d := Nat.succ_mul _ _
    have m2 : (e + 1) * bX d = e * bX d + bX d := Nat.succ_mul _ _
    by_cases hp : n > 0
    · have w1 : wrap64 (((d + 2 : Nat) : Int) - 1) = wrap64 ((d + 1 : Nat) : Int) := by congr 1; omega
      obtain ⟨x, q, hq, h2, h3, h4⟩ := hd p h0 (by omega)
      obtain ⟨ys, q', g1, g2, g3, g4, g5⟩ := l2kids_ev bs hb d hd3 hd e (n - 1) q A B C (xs ++ [x]) (by omega) (by omega) (by omega) (by omega) (by rw [List.length_append, List.length_singleton]; omega)
      rw [List.length_append, List.length_singleton] at g2
      rw [kidsY_append, kidsY_cons, kidsY_nil] at g3
      rw [w_small (i := ((d + 1 : Nat) : Int)) (by omega) (by omega)] at w1
      have w2 : wrap64 (n - 1) = n - 1 := w_small (by omega) (by omega)
      refine ⟨ys, q', (by refine Ev.step (fun k => by simp only [spec_l2Ex.l0]; rw [if_pos hp, w1, w2]) ?_; refine Ev.bind hq (Ev.pos (by omega) ?_); show Ev (fun k => spec_l2Ex.l0 k ((d + 2 : Nat) : Int) (n - 1) bs q A B C (xs ++ [(⟨x.f0, x.f1, x.f2, x.f3⟩ : S29)])) _; rw [eta_X]; exact g1), by omega, by omega, by omega, by omega⟩
    · refine ⟨xs, p, (by refine Ev.step (fun k => by simp only [spec_l2Ex.l0]; rw [if_neg hp]) ?_; exact (Ev.now _)), by omega, by omega, by omega, by omega⟩
theorem l2Ex_ev (bs : List Int) (hb : Bytes bs) : ∀ d : Nat, d ≤ 3 → DrawX bs d
  | 0, _ => fun p h0 h1 => by
    obtain ⟨r, hr⟩ := l2leaf_ev bs hb ((0 + 1 : Nat) : Int) p h0 (by omega)
    refine ⟨⟨1, r, 0, []⟩, p + 1, Ev.step (fun k => by simp only [spec_l2Ex.f]; rw [if_pos (by omega)]) hr, ?_, by omega, ?_⟩
    · rw [allY_mk, kidsY_nil]; exact Nat.le_refl _
    · show p + 1 ≤ p + ((1 : Nat) : Int); omega
  | d + 1, hd => fun p h0 h1 => by
    have ih := l2Ex_ev bs hb d (by omega)
    have hc : cX d ≤ 66 := by
      match d, hd with
      | 0, _ => decide
      | 1, _ => decide
      | 2, _ => decide
    obtain ⟨r, hr, _⟩ := pick_ev bs hb p 4 h0 (by omega)
    have e1 : cX (d + 1) = 3 + 3 * cX d := rfl
    have e2 : bX (d + 1) = 3 + 3 * bX d := rfl
    by_cases hz : r = 0
    · obtain ⟨s, hs⟩ := l2leaf_ev bs hb ((d + 1 + 1 : Nat) : Int) (p + 1) (by omega) (by omega)
      refine ⟨⟨1, s, 0, []⟩, p + 1 + 1, ?_, ?_, by omega, by omega⟩
      · refine Ev.step (fun k => by simp only [spec_l2Ex.f]; rw [if_neg (by omega)]) (Ev.bind hr ?_)
        simp only [hz]; exact hs
      · rw [allY_mk, kidsY_nil]; simp
    have hzf : (r == 0) = false := beq_eq_false_iff_ne.2 hz
    obtain ⟨K, hK, _⟩ := num_ev bs hb (p + 1) [2, 3, 3, 4, 4, 4, 5, 6, 7] (by simp) (by simp) (by omega) (by omega)
    have fin : ∀ (q N : Int), 0 ≤ q → q ≤ p + 3 → p ≤ q → ∃ (x : S29) (q' : Int), Ev (fun k => spec_l2Ex.j1 k ((d + 2 : Nat) : Int) bs q K 0 N) (x.f0, x.f1, x.f2, x.f3, q') ∧ allY x ≤ 3 + 3 * bX d ∧ p ≤ q' ∧ q' ≤ p + ((3 + 3 * cX d : Nat) : Int) := fun q N g0 g1 g2 => by
      obtain ⟨ys, q', f1, f2, f3, f4, f5⟩ := l2kids_ev bs hb d (by omega) ih 3 (kidsOf K) q K 0 N [] (kidsOf_le K) (by omega) g0 (by omega) (by simp)
      rw [kidsY_nil] at f3
      rw [List.length_nil] at f2
      refine ⟨⟨K, 0, N, ys⟩, q', (by refine Ev.step (fun k => by rw [spec_l2Ex.j1]) ?_; exact (Ev.bind (l2Kids_ev K) f1)), ?_, by omega, by omega⟩
      rw [allY_mk]; omega
    by_cases h7 : K = 7
    · obtain ⟨N, hN, _⟩ := num_ev bs hb (p + 1 + 1) [1, 2, 3, 5, 20] (by simp) (by simp) (by omega) (by omega)
      obtain ⟨x, q', f1, f2, f3, f4⟩ := fin (p + 1 + 1 + 1) N (by omega) (by omega) (by omega)
      refine ⟨x, q', ?_, by omega, f3, by omega⟩
      refine Ev.step (fun k => by simp only [spec_l2Ex.f]; rw [if_neg (by omega)]) (Ev.bind hr ?_)
      simp only [hzf]
      refine (by refine Ev.step (fun k => by simp only [spec_l2Ex.j0]; rw [if_neg (by decide)]) ?_; exact (Ev.bind hK (Ev.pos h7 (Ev.bind hN f1))))
    · obtain ⟨x, q', f1, f2, f3, f4⟩ := fin (p + 1 + 1) 0 (by omega) (by omega) (by omega)
      refine ⟨x, q', ?_, by omega, f3, by omega⟩
      refine Ev.step (fun k => by simp only [spec_l2Ex.f]; rw [if_neg (by omega)]) (Ev.bind hr ?_)
      simp only [hzf]
      refine (by refine Ev.step (fun k => by simp only [spec_l2Ex.j0]; rw [if_neg (by decide)]) ?_; exact (Ev.bind hK (Ev.neg h7 f1)))
theorem l2Ex2_ev (bs : List Int) (hb : Bytes bs) (p : Int) (h0 : 0 ≤ p) (h1 : p ≤ 900000) : ∃ (x : S29) (q : Int), Ev (fun k => spec_l2Ex.f k bs p 2) (x.f0, x.f1, x.f2, x.f3, q) ∧ allY x ≤ 39 ∧ p ≤ q ∧ q ≤ p + 6 := by
  have e : cX 1 = 6 := rfl
  obtain ⟨x, q, h2, h3, h4, h5⟩ := l2Ex_ev bs hb 1 (by omega) p h0 (by omega)
  exact ⟨x, q, h2, Nat.le_trans h3 (by decide), h4, h5⟩
theorem l2Some_ev (bs : List Int) (hb : Bytes bs) (p : Int) (h0 : 0 ≤ p) (h1 : p ≤ 800000) : ∃ (x : S29) (q : Int), Ev (fun k => spec_l2Some.f k bs p) (x.f0, x.f1, x.f2, x.f3, q) ∧ allY x ≤ 39 ∧ p ≤ q ∧ q ≤ p + 73 := by
  obtain ⟨r, hr, r0, r1⟩ := pick_ev bs hb p 4 h0 (by omega)
  obtain ⟨d, rfl⟩ := Int.eq_ofNat_of_zero_le r0
  have hd : d ≤ 3 := by omega
  have w1 : wrap64 (1 + (d : Int)) = ((d + 1 : Nat) : Int) := by rw [w_small (by omega) (by omega)]; omega
  have hc : cX d ≤ 66 ∧ bX d ≤ 39 := by
    match d, hd with
    | 0, _ => decide
    | 1, _ => decide
    | 2, _ => decide
    | 3, _ => decide
  obtain ⟨x, q, h2, h3, h4, h5⟩ := l2Ex_ev bs hb d hd (p + 1) (by omega) (by omega)
  have hk := spec_ExOk_ev x (by omega)
  by_cases ho : okX x = true
  · refine ⟨x, q, ?_, by omega, by omega, by omega⟩
    unfold spec_l2Some.f
    refine Ev.bind hr ?_
    simp only [w1]
    exact Ev.bind h2 (Ev.bind hk (Ev.pos ho (Ev.now _)))
  obtain ⟨y, q', g2, g3, g4, g5⟩ := l2Ex2_ev bs hb q (by omega) (by omega)
  refine ⟨y, q', ?_, g3, by omega, by omega⟩
  unfold spec_l2Some.f
  refine Ev.bind hr ?_
  simp only [w1]
  exact Ev.bind h2 (Ev.bind hk (Ev.neg ho (Ev.bindS g2 rfl)))
def CopyOk (x : S29) : Prop := Ev (fun k => spec_l2Copy.f k x.f0 x.f1 x.f2 x.f3) (x.f0, x.f1, x.f2, x.f3)
theorem l2Copy_l0_ev (l : List S29) (hl : l.length ≤ 1000000) (hs : ∀ x ∈ l, CopyOk x) (a b c A B C : Int) : ∀ d n : Nat, n + d = l.length → Ev (fun k => spec_l2Copy.l0 k (n : Int) a b c l A B C (l.take n)) (A, B, C, l)
  | 0, n, h => by
    have : l.take n = l := List.take_of_length_le (by omega)
    rw [this]
    exact (by refine Ev.step (fun k => by simp only [spec_l2Copy.l0]; rw [if_neg (by omega)]) ?_; exact (Ev.now _))
  | d + 1, n, h => by
    have hn : n < l.length := by omega
    have hw : wrap64 ((n : Int) + 1) = ((n + 1 : Nat) : Int) := by rw [w_small (by omega) (by omega)]; omega
    have hx := hs l[n] (List.getElem_mem hn)
    have ih := l2Copy_l0_ev l hl hs a b c A B C d (n + 1) (by omega)
    refine Ev.step (fun k => by simp only [spec_l2Copy.l0]; rw [if_pos (by omega), if_pos (by omega), rdI l n hn]) ?_
    refine Ev.bind hx (Ev.pos (by rw [List.length_take]; omega) ?_)
    have e : l.take n ++ [(⟨l[n].f0, l[n].f1, l[n].f2, l[n].f3⟩ : S29)] = l.take (n + 1) := by
      rw [eta_X, List.take_succ_eq_append_getElem hn]
    simp only [e, hw]
    exact ih
theorem l2Copy_ev : ∀ x : S29, allY x ≤ 1000000 → CopyOk x := by
  refine indI (fun x ih h => ?_)
  have hlen := allY_len (x := x)
  refine Ev.step (fun k => by rw [spec_l2Copy.f]) ?_
  exact l2Copy_l0_ev x.f3 (by omega) (fun y hy => ih y hy (by have := allY_mem hy; omega)) _ _ _ _ _ _ x.f3.length 0 (by omega)
theorem l2Bent_l0_ev (bs : List Int) (p : Int) : ∀ (e n : Nat) (x : S29), n + e = 5 → ∃ y : S29, Ev (fun k => spec_l2Bent.l0 k (n : Int) bs p x.f0 x.f1 x.f2 x.f3) (y.f0, y.f1, y.f2, y.f3, p) ∧ allY y ≤ allY x + e
  | 0, n, x, h => ⟨x, (by refine Ev.step (fun k => by simp only [spec_l2Bent.l0]; rw [if_neg (by omega)]) ?_; exact (Ev.now _)), by omega⟩
  | e + 1, n, x, h => by
    have hw : wrap64 ((n : Int) + 1) = ((n + 1 : Nat) : Int) := by rw [w_small (by omega) (by omega)]; omega
    obtain ⟨y, h1, h2⟩ := l2Bent_l0_ev bs p e (n + 1) ⟨7, 0, 1, [x]⟩ (by omega)
    refine ⟨y, Ev.step (fun k => by simp only [spec_l2Bent.l0]; rw [if_pos (by omega), hw, eta_X]) h1, ?_⟩
    rw [allY_mk, kidsY_cons, kidsY_nil, List.length_singleton] at h2
    omega
def dblX : Nat → Nat → Nat
  | 0, a => a
  | e + 1, a => dblX e (2 * a + 2)
theorem l2Bent_l1_ev (bs : List Int) (p : Int) : ∀ (e n : Nat) (x : S29) (m : Nat), n + e = 4 → allY x ≤ m → dblX e m ≤ 1000 → m ≤ 1000 → ∃ y : S29, Ev (fun k => spec_l2Bent.l1 k (n : Int) bs p x.f0 x.f1 x.f2 x.f3) (y.f0, y.f1, y.f2, y.f3, p) ∧ allY y ≤ dblX e m
  | 0, n, x, m, h, hm, _, _ => ⟨x, (by refine Ev.step (fun k => by simp only [spec_l2Bent.l1]; rw [if_neg (by omega)]) ?_; exact (Ev.now _)), hm⟩
  | e + 1, n, x, m, h, hm, hd, hm1 => by
    have hw : wrap64 ((n : Int) + 1) = ((n + 1 : Nat) : Int) := by rw [w_small (by omega) (by omega)]; omega
    have hc := l2Copy_ev x (by omega)
    have mono : ∀ (e a : Nat), a ≤ dblX e a := by
      intro e
      induction e with
      | zero => intro a; exact Nat.le_refl _
      | succ e ih => intro a; have := ih (2 * a + 2); simp only [dblX]; omega
    have hd' : dblX e (2 * m + 2) ≤ 1000 := hd
    have hm2 := mono e (2 * m + 2)
    obtain ⟨y, h1, h2⟩ := l2Bent_l1_ev bs p e (n + 1) ⟨2, 0, 0, [x, x]⟩ (2 * m + 2) (by omega) (by rw [allY_mk, kidsY_cons, kidsY_cons, kidsY_nil]; simp only [List.length_cons, List.length_nil]; omega) hd' (by omega)
    refine ⟨y, ?_, h2⟩
    refine Ev.step (fun k => by simp only [spec_l2Bent.l1]; rw [if_pos (by omega)]) ?_
    refine Ev.bind hc ?_
    simp only [hw, eta_X]
    exact h1
theorem l2Bent_ev (bs : List Int) (hb : Bytes bs) (p : Int) (h0 : 0 ≤ p) (h1 : p ≤ 700000) : ∃ (x : S29) (q : Int), Ev (fun k => spec_l2Bent.f k bs p) (x.f0, x.f1, x.f2, x.f3, q) ∧ allY x ≤ 1000 ∧ p ≤ q ∧ q ≤ p + 75 := by
  obtain ⟨x, q, h2, h3, h4, h5⟩ := l2Some_ev bs hb p h0 (by omega)
  obtain ⟨r, hr, _, _⟩ := pick_ev bs hb q 60 (by omega) (by omega)
  have hx := allY_is x
  by_cases c0 : r = 0
  · obtain ⟨s, hs, _⟩ := num_ev bs hb (q + 1) [0, 8, 2, 5] (by simp) (by simp) (by omega) (by omega)
    refine ⟨⟨s, x.f1, x.f2, x.f3⟩, q + 1 + 1, ?_, by rw [allY_mk]; omega, by omega, by omega⟩
    unfold spec_l2Bent.f
    exact Ev.bind h2 (Ev.bind hr (Ev.pos c0 (Ev.bindS hs rfl)))
  by_cases c1 : r = 1
  · obtain ⟨s, hs, _⟩ := num_ev bs hb (q + 1) [(-1), 5, 1] (by simp) (by simp) (by omega) (by omega)
    refine ⟨⟨x.f0, s, x.f2, x.f3⟩, q + 1 + 1, ?_, by rw [allY_mk]; omega, by omega, by omega⟩
    unfold spec_l2Bent.f
    exact Ev.bind h2 (Ev.bind hr (Ev.neg c0 (Ev.pos c1 (Ev.bindS hs rfl))))
  by_cases c2 : r = 2
  · obtain ⟨s, hs, _⟩ := num_ev bs hb (q + 1) [(-1), 21, 1, 0] (by simp) (by simp) (by omega) (by omega)
    refine ⟨⟨x.f0, x.f1, s, x.f3⟩, q + 1 + 1, ?_, by rw [allY_mk]; omega, by omega, by omega⟩
    unfold spec_l2Bent.f
    exact Ev.bind h2 (Ev.bind hr (Ev.neg c0 (Ev.neg c1 (Ev.pos c2 (Ev.bindS hs rfl)))))
  by_cases c3 : r = 3
  · obtain ⟨y, g1, g2⟩ := l2Bent_l0_ev bs (q + 1) 5 0 x rfl
    refine ⟨y, q + 1, ?_, by omega, by omega, by omega⟩
    unfold spec_l2Bent.f
    exact Ev.bind h2 (Ev.bind hr (Ev.neg c0 (Ev.neg c1 (Ev.neg c2 (Ev.pos c3 g1)))))
  by_cases c4 : r = 4
  · obtain ⟨y, g1, g2⟩ := l2Bent_l1_ev bs (q + 1) 4 0 x 39 rfl h3 (by decide) (by decide)
    refine ⟨y, q + 1, ?_, Nat.le_trans g2 (by decide), by omega, by omega⟩
    unfold spec_l2Bent.f
    exact Ev.bind h2 (Ev.bind hr (Ev.neg c0 (Ev.neg c1 (Ev.neg c2 (Ev.neg c3 (Ev.pos c4 g1))))))
  · refine ⟨x, q + 1, ?_, by omega, by omega, by omega⟩
    unfold spec_l2Bent.f
    exact Ev.bind h2 (Ev.bind hr (Ev.neg c0 (Ev.neg c1 (Ev.neg c2 (Ev.neg c3 (Ev.neg c4 (Ev.now _)))))))
theorem ev_one {α : Type} {g : Nat → Option α} {r s : α} (h : Ev g r) (h' : Ev g s) : r = s := by
  obtain ⟨K, hK⟩ := h
  obtain ⟨L, hL⟩ := h'
  have h1 := hK (max K L) (by omega)
  rw [hL (max K L) (by omega)] at h1
  exact (Option.some.inj h1).symm
theorem DrawExSame_ev (l : List Int) (hl : l.length ≤ 9223372036854775807) (hw : ∀ x ∈ l, (Lit.int .u8 x).wf = true) : ∃ a b : S29, Ev (fun k => spec_DrawExSame.f k l) (a.f0, a.f1, a.f2, a.f3, b.f0, b.f1, b.f2, b.f3) ∧ allY a ≤ 1000 ∧ allY b ≤ 1000 := by
  have hb := open_bytes hw
  obtain ⟨x, q, h1, h2, _, _⟩ := l2Bent_ev _ hb 0 (by omega) (by omega)
  have ho : Ev (fun _ => spec_l14Open.f l) (l.take 2000, (0 : Int)) := Ev.one (fun _ => l14Open_is l hl)
  refine ⟨x, ⟨x.f0, if 0 < l.length ∧ Int.tmod (rd l 0) 2 = 1 then wrap64 (x.f1 + 1) else x.f1, x.f2, x.f3⟩, ?_, h2, ?_⟩
  · unfold spec_DrawExSame.f
    exact Ev.bind ho (Ev.bind h1 (Ev.bind h1 (Ev.now _)))
  · rw [allY_mk, ← allY_is]
    exact h2
def IsOk (a : S29) : Prop := ∀ b : S29, ∃ r, Ev (fun k => spec_ExSame.f k a.f0 a.f1 a.f2 a.f3 b.f0 b.f1 b.f2 b.f3) r ∧ (r = true ↔ a = b)
theorem is_l0_ev (l m : List S29) (hl : l.length ≤ 1048576) (hm : l.length = m.length) (hs : ∀ x ∈ l, IsOk x) (p q r p' q' r' : Int) : ∀ (d n : Nat), n + d = l.length → ∃ v, Ev (fun k => spec_ExSame.l0 k (n : Int) p q r l p' q' r' m) v ∧ (v = true ↔ l.drop n = m.drop n) := by
  intro d
  induction d with
  | zero =>
    intro n hn
    refine ⟨true, Ev.last (fun k => by simp only [spec_ExSame.l0]; rw [if_neg (by omega)]), ?_⟩
    rw [List.drop_of_length_le (by omega), List.drop_of_length_le (by omega)]
    exact ⟨fun _ => rfl, fun _ => rfl⟩
  | succ d ih =>
    intro n hn
    obtain ⟨v, h1, h2⟩ := hs l[n] (List.getElem_mem _) m[n]
    obtain ⟨v', h3, h4⟩ := ih (n + 1) (by omega)
    rw [List.drop_eq_getElem_cons (l := l) (i := n) (by omega), List.drop_eq_getElem_cons (l := m) (i := n) (by omega)]
    have st : ∀ k, spec_ExSame.l0 (k + 1) (n : Int) p q r l p' q' r' m = (spec_ExSame.f k l[n].f0 l[n].f1 l[n].f2 l[n].f3 m[n].f0 m[n].f1 m[n].f2 m[n].f3).bind fun t => if t = true then spec_ExSame.l0 k ((n + 1 : Nat) : Int) p q r l p' q' r' m else some false := fun k => by
      simp only [spec_ExSame.l0]
      rw [if_pos (by omega), if_pos (by omega), if_pos (by omega), rdI l n (by omega), rdI m n (by omega), w_succ (by omega)]
    cases v with
    | true =>
      refine ⟨v', Ev.step st (Ev.bind h1 (Ev.pos rfl h3)), ?_⟩
      have e : l[n] = m[n] := h2.1 rfl
      rw [h4, e]
      exact ⟨fun h => by rw [h], fun h => (List.cons.inj h).2⟩
    | false =>
      refine ⟨false, Ev.step st (Ev.bind h1 (Ev.neg (by decide) (Ev.now _))), ?_⟩
      exact ⟨fun h => (by cases h), fun h => (by have := h2.2 (List.cons.inj h).1; cases this)⟩
theorem is_ev : ∀ a : S29, allY a ≤ 1048576 → IsOk a := by
  refine indI (fun x ih g b => ?_)
  have hk : ∀ y ∈ x.f3, IsOk y := fun y hy => ih y hy (by have := allY_mem hy; omega)
  have hl : x.f3.length ≤ 1048576 := by have := allY_len (x := x); omega
  have bad : Ev (fun k => spec_ExSame.j0 k true x.f0 x.f1 x.f2 x.f3 b.f0 b.f1 b.f2 b.f3) false := Ev.last (fun k => by simp only [spec_ExSame.j0]; rw [if_pos trivial])
  by_cases h0 : x.f0 = b.f0
  rotate_left
  · exact ⟨false, Ev.step (fun k => by simp only [spec_ExSame.f]; rw [if_neg h0]) bad, fun h => (by cases h), fun h => absurd (by rw [h]) h0⟩
  by_cases h1 : x.f1 = b.f1
  rotate_left
  · exact ⟨false, Ev.step (fun k => by simp only [spec_ExSame.f]; rw [if_pos h0, if_neg h1]) bad, fun h => (by cases h), fun h => absurd (by rw [h]) h1⟩
  by_cases h2 : x.f2 = b.f2
  rotate_left
  · exact ⟨false, Ev.step (fun k => by simp only [spec_ExSame.f]; rw [if_pos h0, if_pos h1, if_neg h2]) bad, fun h => (by cases h), fun h => absurd (by rw [h]) h2⟩
  by_cases h3 : x.f3.length = b.f3.length
  · obtain ⟨v, hv, hw⟩ := is_l0_ev x.f3 b.f3 hl h3 hk x.f0 x.f1 x.f2 b.f0 b.f1 b.f2 x.f3.length 0 (by omega)
    have hd : ((x.f3.length : Int) != (b.f3.length : Int)) = false := by rw [h3]; simp
    refine ⟨v, ?_, ?_⟩
    · refine Ev.step (fun k => by simp only [spec_ExSame.f]; rw [if_pos h0, if_pos h1, if_pos h2, hd]) ?_
      refine Ev.step (fun k => by simp only [spec_ExSame.j0]; rw [if_neg (by decide)]) ?_
      exact hv
    rw [hw, List.drop_zero, List.drop_zero]
    refine ⟨fun h => ?_, fun h => by rw [h]⟩
    cases x
    cases b
    simp only at h0 h1 h2 h
    rw [h0, h1, h2, h]
  · have hd : ((x.f3.length : Int) != (b.f3.length : Int)) = true := by simp; omega
    refine ⟨false, ?_, fun h => (by cases h), fun h => absurd (by rw [h]) h3⟩
    refine Ev.step (fun k => by simp only [spec_ExSame.f]; rw [if_pos h0, if_pos h1, if_pos h2, hd]) ?_
    exact bad
open Classical in
noncomputable def oneB (a b : S29) : Bool := decide (a = b)
open Classical in
theorem oneB_iff {a b : S29} : oneB a b = true ↔ a = b := by unfold oneB; exact decide_eq_true_iff
theorem spec_same (a b : S29) (h : allY a ≤ 1048576) : Ev (fun k => spec_ExSame.f k a.f0 a.f1 a.f2 a.f3 b.f0 b.f1 b.f2 b.f3) (oneB a b) := by
  obtain ⟨r, h1, h2⟩ := is_ev a h b
  have : r = oneB a b := Bool.eq_iff_iff.2 (h2.trans oneB_iff.symm)
  rw [← this]
  exact h1
theorem impl_same (a b : S29) (h : allY a ≤ 1048576) : Ev (fun k => impl_ExSame.f k a.f0 a.f1 a.f2 a.f3 b.f0 b.f1 b.f2 b.f3) (oneB a b) := by
  obtain ⟨r, h1, h2⟩ := same_ev a h b
  rw [ev_one (spec_same a b h) h1]
  exact h2
theorem not_kid {a b : S29} (h : b ∈ a.f3) : oneB a b = false := by
  cases e : oneB a b with
  | false => rfl
  | true =>
    have := allY_mem h
    rw [oneB_iff.1 e] at this
    omega
end Go.Proofs.YtbcdfbiggjfmlaaDoor.M
namespace Go.Proofs.YtbcdfbiggjfmlaaDoor.M
open Go.RowKit Go.Proofs.YtbcdfbiggjfmlaaDoorW.PrintWords Go.Proofs.YtbcdfbiggjfmlaaDoorW.PrintLast Go.Proofs.YtbcdfbiggjfmlaaDoorW.PrintMore
attribute [local go_sem] max2_int min2_int max_two min_two max_three min_three max_four min_four
set_option linter.unusedVariables false
set_option linter.unusedSimpArgs false

end Go.Proofs.YtbcdfbiggjfmlaaDoor.M
namespace Go.Proofs.YtbcdfbiggjfmlaaDoor.M
set_option linter.unusedVariables false
set_option linter.unusedSimpArgs false
open Go.RowKit Go.Proofs.YtbcdfbiggjfmlaaDoorW.PrintWords Go.Proofs.YtbcdfbiggjfmlaaDoorW.PrintLast

end Go.Proofs.YtbcdfbiggjfmlaaDoor.M
namespace Go.Proofs.YtbcdfbiggjfmlaaDoor.M
open Go.RowKit Go.Proofs.YtbcdfbiggjfmlaaDoorW.PrintWords Go.Proofs.YtbcdfbiggjfmlaaDoorW.PrintLast Go.Proofs.YtbcdfbiggjfmlaaDoorW.PrintMore
attribute [local go_sem] max2_int min2_int max_two min_two max_three min_three max_four min_four
set_option linter.unusedVariables false
set_option linter.unusedSimpArgs false



end Go.Proofs.YtbcdfbiggjfmlaaDoor.M
namespace Go.Proofs.YtbcdfbiggjfmlaaDoor.M
set_option linter.unusedVariables false
set_option linter.unusedSimpArgs false
open Go.RowKit Go.Proofs.YtbcdfbiggjfmlaaDoorW.PrintWords Go.Proofs.YtbcdfbiggjfmlaaDoorW.PrintLast

theorem okN_cases {a b c : Int} {n : Nat} (h : okN a b c n = true) : 1 ≤ a ∧ a ≤ 7 ∧ kidsOf a = n ∧ (a = 1 → 0 ≤ b ∧ b ≤ 4 ∧ n = 0) ∧ (a ≠ 1 → b = 0) ∧ (a = 7 → 1 ≤ c ∧ c ≤ 20) ∧ (a ≠ 7 → c = 0) := by
  unfold okN at h
  simp only [Bool.and_eq_true, decide_eq_true_eq] at h
  obtain ⟨⟨h1, h2⟩, h3⟩ := h
  have h0 : 1 ≤ a ∧ a ≤ 7 := Decidable.byContradiction (fun q => by rw [kidsOf_out q] at h1; omega)
  refine ⟨h0.1, h0.2, h1, fun e => ?_, fun e => ?_, fun e => ?_, fun e => ?_⟩
  · rw [if_pos e] at h2
    have := of_decide_eq_true h2
    refine ⟨this.1, this.2, ?_⟩
    subst e
    have : kidsOf 1 = 0 := rfl
    omega
  · rw [if_neg e] at h2
    exact of_decide_eq_true h2
  · rw [if_pos e] at h3
    exact of_decide_eq_true h3
  · rw [if_neg e] at h3
    exact of_decide_eq_true h3
theorem fmsY_mem {l : List S29} (h : fmsY l = true) : ∀ y ∈ l, fmY y = true := by
  induction l with
  | nil => intro y hy; simp at hy
  | cons x l ih =>
    intro y hy
    rw [fmsY_cons, Bool.and_eq_true] at h
    rcases List.mem_cons.1 hy with rfl | hy
    · exact h.1
    · exact ih h.2 y hy
theorem fmY_parts {x : S29} (h : fmY x = true) : okN x.f0 x.f1 x.f2 x.f3.length = true ∧ ∀ y ∈ x.f3, fmY y = true := by
  rw [fmY_is, Bool.and_eq_true] at h
  exact ⟨h.1, fmsY_mem h.2⟩
theorem tfm_of : ∀ x : S29, fmY x = true → TFm x := by
  refine indI (fun x ih h => ?_)
  obtain ⟨h1, h2⟩ := fmY_parts h
  obtain ⟨a1, a7, _, hb, _, hc, _⟩ := okN_cases h1
  exact .mk x (fun e => ⟨(hb e).1, (hb e).2.1⟩) (by omega) (by omega) (fun e => by have := hc e; omega) (fun y hy => ih y hy (h2 y hy))
theorem word_size (a : Int) (h0 : 0 ≤ a) (h8 : a < 8) : (rdOf ByteArray.empty exW a).size ≤ 4 := by
  have : a = 0 ∨ a = 1 ∨ a = 2 ∨ a = 3 ∨ a = 4 ∨ a = 5 ∨ a = 6 ∨ a = 7 := by omega
  rcases this with rfl | rfl | rfl | rfl | rfl | rfl | rfl | rfl <;> decide +kernel
theorem letB_size (b : Int) (h0 : 0 ≤ b) (h4 : b ≤ 4) : (letB b).size = 1 := by
  have : b = 0 ∨ b = 1 ∨ b = 2 ∨ b = 3 ∨ b = 4 := by omega
  rcases this with rfl | rfl | rfl | rfl | rfl <;> decide +kernel
theorem decB_size (n : Int) (h1 : 0 ≤ n) (h2 : n < 100) : (decB n).size ≤ 2 := by
  unfold decB
  show (Lib.decDigits n.toNat).toArray.size ≤ 2
  rw [List.size_toArray]
  by_cases h : n.toNat < 10
  · rw [Lib.decDigits_one h]; simp
  · rw [Lib.decDigits_two h (by omega)]; simp
theorem textsP_size (l : List S29) (h : ∀ x ∈ l, (textP x).size + 1 ≤ 8 * manyY x) : (textsP l).size ≤ 8 * manysY l := by
  induction l with
  | nil => rw [textsP_nil]; simp [ByteArray.size_empty]
  | cons x l ih =>
    have h1 := h x (by simp)
    have h2 := ih (fun y hy => h y (by simp [hy]))
    rw [textsP_cons, manysY_cons, ByteArray.size_append, ByteArray.size_append, show (⟨#[32]⟩ : ByteArray).size = 1 from rfl]
    omega
theorem textP_size : ∀ x : S29, fmY x = true → (textP x).size + 1 ≤ 8 * manyY x := by
  refine indI (fun x ih h => ?_)
  obtain ⟨h1, h2⟩ := fmY_parts h
  obtain ⟨a1, a7, _, hb, _, hc, _⟩ := okN_cases h1
  have h3 := textsP_size x.f3 (fun y hy => ih y hy (h2 y hy))
  have h4 := word_size x.f0 (by omega) (by omega)
  rw [textP_is, manyY_is]
  by_cases e : x.f0 = 1
  · rw [if_pos e, letB_size x.f1 (hb e).1 (hb e).2.1]
    omega
  rw [if_neg e]
  by_cases e7 : x.f0 = 7
  · have h5 := decB_size x.f2 (by have := hc e7; omega) (by have := hc e7; omega)
    rw [if_pos e7, ByteArray.size_append, ByteArray.size_append, ByteArray.size_append, show (⟨#[32]⟩ : ByteArray).size = 1 from rfl]
    omega
  · rw [if_neg e7, ByteArray.size_append]
    omega
noncomputable def textO (x : S29) : ByteArray := if okX x = true then textP x else ⟨#[]⟩
theorem okX_fm {x : S29} (h : okX x = true) : fmY x = true ∧ manyY x ≤ 12 := by
  unfold okX at h
  simp only [Bool.and_eq_true, decide_eq_true_eq] at h
  exact ⟨h.1.1, h.2⟩
theorem impl_ExText_ev (x : S29) (h : allY x ≤ 1048576) : Ev (fun k => impl_ExText.f k x.f0 x.f1 x.f2 x.f3) (textO x) := by
  unfold impl_ExText.f textO
  refine Ev.bind (impl_ExOk_ev x h) ?_
  have ex : (⟨x.f0, x.f1, x.f2, x.f3⟩ : S29) = x := by cases x; rfl
  rw [ex]
  by_cases hk : okX x = true
  · have hs := textP_size x (okX_fm hk).1
    have h12 := (okX_fm hk).2
    rw [if_pos hk, if_pos hk, if_pos ⟨tfm_of x (okX_fm hk).1, by omega⟩]
    exact Ev.now _
  · rw [if_neg hk, if_neg hk]
    exact Ev.now _
def Gap (r : List UInt8) : Prop := r = [] ∨ ∃ s, r = 32 :: s
theorem word_cut : ∀ (a b r s : List UInt8), (∀ c ∈ a, c ≠ 32) → (∀ c ∈ b, c ≠ 32) → Gap r → Gap s → a ++ r = b ++ s → a = b ∧ r = s
  | [], [], _, _, _, _, _, _, h => ⟨rfl, h⟩
  | [], c :: b, r, s, _, hb, hr, _, h => by
    exfalso
    rcases hr with rfl | ⟨t, rfl⟩
    · simp at h
    · simp only [List.nil_append, List.cons_append, List.cons.injEq] at h
      exact hb c (by simp) h.1.symm
  | c :: a, [], r, s, ha, _, _, hs, h => by
    exfalso
    rcases hs with rfl | ⟨t, rfl⟩
    · simp at h
    · simp only [List.nil_append, List.cons_append, List.cons.injEq] at h
      exact ha c (by simp) h.1
  | c :: a, d :: b, r, s, ha, hb, hr, hs, h => by
    simp only [List.cons_append, List.cons.injEq] at h
    obtain ⟨h1, h2⟩ := word_cut a b r s (fun x hx => ha x (by simp [hx])) (fun x hx => hb x (by simp [hx])) hr hs h.2
    exact ⟨by rw [h.1, h1], h2⟩
def bL (b : ByteArray) : List UInt8 := b.data.toList
theorem bL_append (a b : ByteArray) : bL (a ++ b) = bL a ++ bL b := by unfold bL; rw [ByteArray.data_append, Array.toList_append]
theorem bL_sp : bL (⟨#[32]⟩ : ByteArray) = [32] := rfl
def hdW (x : S29) : List UInt8 := if x.f0 = 1 then bL (letB x.f1) else bL (rdOf ByteArray.empty exW x.f0)
def numW (x : S29) : List UInt8 := if x.f0 = 7 then 32 :: Lib.decDigits x.f2.toNat else []
def txL (x : S29) : List UInt8 := bL (textP x)
def txsL (l : List S29) : List UInt8 := bL (textsP l)
theorem txsL_nil : txsL [] = [] := by unfold txsL; rw [textsP_nil]; rfl
theorem txsL_cons (x : S29) (l : List S29) : txsL (x :: l) = 32 :: (txL x ++ txsL l) := by
  unfold txsL txL
  rw [textsP_cons, bL_append, bL_append, bL_sp]
  simp
theorem txL_is (x : S29) (h : fmY x = true) : txL x = hdW x ++ (numW x ++ txsL x.f3) := by
  obtain ⟨h1, _⟩ := fmY_parts h
  obtain ⟨_, _, _, hb, _, _, _⟩ := okN_cases h1
  unfold txL hdW numW
  rw [textP_is]
  by_cases e : x.f0 = 1
  · have h0 : x.f3 = [] := List.length_eq_zero_iff.1 (hb e).2.2
    rw [if_pos e, if_pos e, if_neg (by omega), h0, txsL_nil]
    simp
  rw [if_neg e, if_neg e]
  by_cases e7 : x.f0 = 7
  · rw [if_pos e7, if_pos e7, bL_append, bL_append, bL_append, bL_sp]
    show (_ ++ ([32] ++ (Lib.decDigits x.f2.toNat).toArray.toList)) ++ _ = _
    simp [txsL]
  · rw [if_neg e7, if_neg e7, bL_append]
    simp [txsL]
theorem hdW_word {x : S29} (h : okN x.f0 x.f1 x.f2 x.f3.length = true) : ∀ c ∈ hdW x, c ≠ 32 := by
  obtain ⟨a1, a7, _, hb, _, _, _⟩ := okN_cases h
  unfold hdW
  by_cases e : x.f0 = 1
  · rw [if_pos e]
    obtain ⟨b0, b4, _⟩ := hb e
    have : x.f1 = 0 ∨ x.f1 = 1 ∨ x.f1 = 2 ∨ x.f1 = 3 ∨ x.f1 = 4 := by omega
    rcases this with q | q | q | q | q <;> rw [q] <;> decide +kernel
  · rw [if_neg e]
    have : x.f0 = 2 ∨ x.f0 = 3 ∨ x.f0 = 4 ∨ x.f0 = 5 ∨ x.f0 = 6 ∨ x.f0 = 7 := by omega
    rcases this with q | q | q | q | q | q <;> rw [q] <;> decide +kernel
theorem hdW_inj {x y : S29} (hx : okN x.f0 x.f1 x.f2 x.f3.length = true) (hy : okN y.f0 y.f1 y.f2 y.f3.length = true) (h : hdW x = hdW y) : x.f0 = y.f0 ∧ x.f1 = y.f1 := by
  obtain ⟨a1, a7, _, hb, hb', _, _⟩ := okN_cases hx
  obtain ⟨c1, c7, _, hd, hd', _, _⟩ := okN_cases hy
  have two : ∀ a : Int, 2 ≤ a → a ≤ 7 → 2 ≤ (bL (rdOf ByteArray.empty exW a)).length := by
    intro a h2 h7
    have : a = 2 ∨ a = 3 ∨ a = 4 ∨ a = 5 ∨ a = 6 ∨ a = 7 := by omega
    rcases this with q | q | q | q | q | q <;> rw [q] <;> decide +kernel
  have one : ∀ b : Int, 0 ≤ b → b ≤ 4 → (bL (letB b)).length = 1 := by
    intro b h0 h4
    have : b = 0 ∨ b = 1 ∨ b = 2 ∨ b = 3 ∨ b = 4 := by omega
    rcases this with q | q | q | q | q <;> rw [q] <;> decide +kernel
  unfold hdW at h
  by_cases e : x.f0 = 1
  · obtain ⟨b0, b4, _⟩ := hb e
    rw [if_pos e] at h
    have l1 := one x.f1 b0 b4
    by_cases e' : y.f0 = 1
    · obtain ⟨d0, d4, _⟩ := hd e'
      rw [if_pos e'] at h
      refine ⟨by omega, ?_⟩
      have p : x.f1 = 0 ∨ x.f1 = 1 ∨ x.f1 = 2 ∨ x.f1 = 3 ∨ x.f1 = 4 := by omega
      have q : y.f1 = 0 ∨ y.f1 = 1 ∨ y.f1 = 2 ∨ y.f1 = 3 ∨ y.f1 = 4 := by omega
      rcases p with p | p | p | p | p <;> rcases q with q | q | q | q | q <;> rw [p, q] at h <;> first | (exact absurd h (by decide +kernel)) | (rw [p, q])
    · rw [if_neg e'] at h
      have := two y.f0 (by omega) c7
      rw [h] at l1
      omega
  · rw [if_neg e] at h
    by_cases e' : y.f0 = 1
    · obtain ⟨d0, d4, _⟩ := hd e'
      rw [if_pos e'] at h
      have l1 := one y.f1 d0 d4
      have := two x.f0 (by omega) a7
      rw [h] at this
      omega
    · rw [if_neg e'] at h
      refine ⟨?_, by rw [hb' e, hd' e']⟩
      have p : x.f0 = 2 ∨ x.f0 = 3 ∨ x.f0 = 4 ∨ x.f0 = 5 ∨ x.f0 = 6 ∨ x.f0 = 7 := by omega
      have q : y.f0 = 2 ∨ y.f0 = 3 ∨ y.f0 = 4 ∨ y.f0 = 5 ∨ y.f0 = 6 ∨ y.f0 = 7 := by omega
      rcases p with p | p | p | p | p | p <;> rcases q with q | q | q | q | q | q <;> rw [p, q] at h <;> first | (exact absurd h (by decide +kernel)) | (rw [p, q])
theorem dec_word (n : Nat) (h : n < 100) : ∀ c ∈ Lib.decDigits n, c ≠ 32 := by
  have key : ∀ i : Nat, i < 10 → UInt8.ofNat (48 + i) ≠ 32 := by
    intro i hi
    have : i = 0 ∨ i = 1 ∨ i = 2 ∨ i = 3 ∨ i = 4 ∨ i = 5 ∨ i = 6 ∨ i = 7 ∨ i = 8 ∨ i = 9 := by omega
    rcases this with q | q | q | q | q | q | q | q | q | q <;> rw [q] <;> decide +kernel
  intro c hc
  by_cases h9 : n < 10
  · rw [Lib.decDigits_one h9] at hc
    rw [List.mem_singleton.1 hc]
    exact key n h9
  rw [Lib.decDigits_two h9 h] at hc
  rcases List.mem_cons.1 hc with rfl | hc
  · exact key _ (by omega)
  · rw [List.mem_singleton.1 hc]
    exact key _ (by omega)
theorem dec_inj {a b : Nat} (ha : a < 100) (hb : b < 100) (h : Lib.decDigits a = Lib.decDigits b) : a = b := by
  have key : ∀ i j : Nat, i < 10 → j < 10 → UInt8.ofNat (48 + i) = UInt8.ofNat (48 + j) → i = j := by
    intro i j hi hj e
    have := congrArg UInt8.toNat e
    simp only [UInt8.toNat_ofNat'] at this
    omega
  by_cases h9 : a < 10
  · by_cases g9 : b < 10
    · rw [Lib.decDigits_one h9, Lib.decDigits_one g9] at h
      simp only [List.cons.injEq, and_true] at h
      exact key _ _ h9 g9 h
    · rw [Lib.decDigits_one h9, Lib.decDigits_two g9 hb] at h
      simp at h
  by_cases g9 : b < 10
  · rw [Lib.decDigits_two h9 ha, Lib.decDigits_one g9] at h
    simp at h
  rw [Lib.decDigits_two h9 ha, Lib.decDigits_two g9 hb] at h
  simp only [List.cons.injEq, and_true] at h
  have := key _ _ (by omega) (by omega) h.1
  have := key _ _ (by omega) (by omega) h.2
  omega
theorem gap_txsL (l : List S29) {r : List UInt8} (h : Gap r) : Gap (txsL l ++ r) := by
  cases l with
  | nil => rw [txsL_nil]; exact h
  | cons x l => rw [txsL_cons]; exact .inr ⟨_, rfl⟩
theorem gap_num (x : S29) {r : List UInt8} (h : Gap r) : Gap (numW x ++ r) := by
  unfold numW
  by_cases e : x.f0 = 7
  · rw [if_pos e]; exact .inr ⟨_, rfl⟩
  · rw [if_neg e]; exact h
def CutOk (x : S29) : Prop := fmY x = true → ∀ (y : S29) (r s : List UInt8), fmY y = true → Gap r → Gap s → txL x ++ r = txL y ++ s → x = y ∧ r = s
theorem kids_cut : ∀ (l m : List S29) (r s : List UInt8), (∀ x ∈ l, CutOk x) → (∀ x ∈ l, fmY x = true) → (∀ y ∈ m, fmY y = true) → l.length = m.length → Gap r → Gap s → txsL l ++ r = txsL m ++ s → l = m ∧ r = s
  | [], [], _, _, _, _, _, _, _, _, h => by rw [txsL_nil] at h; exact ⟨rfl, h⟩
  | [], _ :: _, _, _, _, _, _, hn, _, _, _ => by simp at hn
  | _ :: _, [], _, _, _, _, _, hn, _, _, _ => by simp at hn
  | x :: l, y :: m, r, s, hc, hl, hm, hn, hr, hs, h => by
    rw [txsL_cons, txsL_cons, List.cons_append, List.cons_append, List.append_assoc, List.append_assoc] at h
    have h' := (List.cons.inj h).2
    obtain ⟨e1, e2⟩ := hc x (by simp) (hl x (by simp)) y _ _ (hm y (by simp)) (gap_txsL l hr) (gap_txsL m hs) h'
    obtain ⟨e3, e4⟩ := kids_cut l m r s (fun z hz => hc z (by simp [hz])) (fun z hz => hl z (by simp [hz])) (fun z hz => hm z (by simp [hz])) (by simpa using hn) hr hs e2
    exact ⟨by rw [e1, e3], e4⟩
theorem eta_T (x : S29) : (⟨x.f0, x.f1, x.f2, x.f3⟩ : S29) = x := by cases x; rfl
theorem cut_ok : ∀ x : S29, CutOk x := by
  refine indI (fun x ih hx y r s hy hr hs h => ?_)
  obtain ⟨x1, x2⟩ := fmY_parts hx
  obtain ⟨y1, y2⟩ := fmY_parts hy
  rw [txL_is x hx, txL_is y hy, List.append_assoc, List.append_assoc, List.append_assoc, List.append_assoc] at h
  obtain ⟨e1, h⟩ := word_cut _ _ _ _ (hdW_word x1) (hdW_word y1) (gap_num x (gap_txsL x.f3 hr)) (gap_num y (gap_txsL y.f3 hs)) h
  obtain ⟨k0, k1⟩ := hdW_inj x1 y1 e1
  obtain ⟨_, _, kx, _, _, cx, dx⟩ := okN_cases x1
  obtain ⟨_, _, ky, _, _, cy, dy⟩ := okN_cases y1
  have hn : x.f3.length = y.f3.length := by rw [k0] at kx; omega
  have h2 : x.f2 = y.f2 ∧ txsL x.f3 ++ r = txsL y.f3 ++ s := by
    unfold numW at h
    by_cases e7 : x.f0 = 7
    · have e7' : y.f0 = 7 := by omega
      rw [if_pos e7, if_pos e7', List.cons_append, List.cons_append] at h
      have qx := cx e7
      have qy := cy e7'
      obtain ⟨g1, g2⟩ := word_cut _ _ _ _ (dec_word _ (by omega)) (dec_word _ (by omega)) (gap_txsL x.f3 hr) (gap_txsL y.f3 hs) (List.cons.inj h).2
      have := dec_inj (by omega) (by omega) g1
      exact ⟨by omega, g2⟩
    · have e7' : ¬ y.f0 = 7 := by omega
      rw [if_neg e7, if_neg e7'] at h
      exact ⟨by rw [dx e7, dy e7'], h⟩
  obtain ⟨e3, e4⟩ := kids_cut x.f3 y.f3 r s ih x2 y2 hn hr hs h2.2
  refine ⟨?_, e4⟩
  rw [← eta_T x, ← eta_T y, k0, k1, h2.1, e3]
theorem text_inj {x y : S29} (hx : fmY x = true) (hy : fmY y = true) (h : textP x = textP y) : x = y :=
  (cut_ok x hx y [] [] hy (.inl rfl) (.inl rfl) (by unfold txL; rw [h])).1
theorem DrawExMany_ev (l : List Int) (hl : l.length ≤ 9223372036854775807) (hw : ∀ x ∈ l, (Lit.int .u8 x).wf = true) : ∃ a : S29, Ev (fun k => spec_DrawExMany.f k l) (a.f0, a.f1, a.f2, a.f3) ∧ allY a ≤ 1000 := by
  have hb := open_bytes hw
  obtain ⟨x, q, h1, h2, _, _⟩ := l2Bent_ev _ hb 0 (by omega) (by omega)
  have ho : Ev (fun _ => spec_l14Open.f l) (l.take 2000, (0 : Int)) := Ev.one (fun _ => l14Open_is l hl)
  refine ⟨x, ?_, h2⟩
  unfold spec_DrawExMany.f
  exact Ev.bind ho (Ev.bind h1 (Ev.now _))
theorem ba_toList_inj {a b : ByteArray} (h : a.toList = b.toList) : a = b := by
  rw [ByteArray.toList_eq, ByteArray.toList_eq] at h
  cases a
  cases b
  simp only [Array.toList_inj] at h
  rw [h]
theorem one_text {a b : S29} (ha : okX a = true) (hb : okX b = true) : oneB a b = ((textO a).toList == (textO b).toList) := by
  apply Bool.eq_iff_iff.2
  rw [oneB_iff, beq_iff_eq]
  unfold textO
  rw [if_pos ha, if_pos hb]
  refine ⟨fun h => by rw [h], fun h => text_inj (okX_fm ha).1 (okX_fm hb).1 (ba_toList_inj h)⟩
section
variable (a b c : S29)
theorem j3_true : Ev (fun k => laws_FnExSame.j3 k true a.f0 a.f1 a.f2 a.f3 b.f0 b.f1 b.f2 b.f3 c.f0 c.f1 c.f2 c.f3) true := Ev.last (fun k => by simp only [laws_FnExSame.j3]; rw [if_pos trivial])
variable (ha : allY a ≤ 1000) (hb : allY b ≤ 1000) (hc : allY c ≤ 1000)
include ha hb hc
theorem j3_false (oa : okX a = true) (ob : okX b = true) (oc : okX c = true) : Ev (fun k => laws_FnExSame.j3 k false a.f0 a.f1 a.f2 a.f3 b.f0 b.f1 b.f2 b.f3 c.f0 c.f1 c.f2 c.f3) true := by
  refine Ev.step (fun k => by simp only [laws_FnExSame.j3]; rw [if_neg (by decide)]) ?_
  refine Ev.bind (impl_same a b (by omega)) (Ev.bind (impl_ExText_ev a (by omega)) (Ev.bind (impl_ExText_ev b (by omega)) (Ev.pos (by rw [one_text oa ob]; exact beq_self_eq_true _) ?_)))
  refine Ev.bind (impl_same a c (by omega)) (Ev.bind (impl_ExText_ev a (by omega)) (Ev.bind (impl_ExText_ev c (by omega)) (Ev.val (Ev.now _) ?_)))
  rw [one_text oa oc]
  exact beq_self_eq_true _
theorem j3_ev (o : Bool) (h : o = false → okX a = true ∧ okX b = true ∧ okX c = true) : Ev (fun k => laws_FnExSame.j3 k o a.f0 a.f1 a.f2 a.f3 b.f0 b.f1 b.f2 b.f3 c.f0 c.f1 c.f2 c.f3) true := by
  cases o with
  | true => exact j3_true a b c
  | false => obtain ⟨h1, h2, h3⟩ := h rfl; exact j3_false a b c ha hb hc h1 h2 h3
theorem same_loop_ev : ∀ d n : Nat, n + d = a.f3.length → Ev (fun k => laws_FnExSame.l0 k (n : Int) a.f0 a.f1 a.f2 a.f3 b.f0 b.f1 b.f2 b.f3 c.f0 c.f1 c.f2 c.f3) true := by
  have hl := allY_len (x := a)
  intro d
  induction d with
  | zero =>
    intro n hn
    refine Ev.step (fun k => by simp only [laws_FnExSame.l0]; rw [if_neg (by omega)]) ?_
    refine Ev.bind (spec_ExOk_ev a (by omega)) ?_
    by_cases oa : okX a = true
    · refine Ev.pos oa (Ev.bind (spec_ExOk_ev b (by omega)) ?_)
      by_cases ob : okX b = true
      · refine Ev.pos ob (Ev.bind (spec_ExOk_ev c (by omega)) ?_)
        exact j3_ev a b c ha hb hc _ (fun h => ⟨oa, ob, by simpa using h⟩)
      · exact Ev.neg ob (j3_true a b c)
    · exact Ev.neg oa (j3_true a b c)
  | succ d ih =>
    intro n hn
    refine Ev.step (fun k => by simp only [laws_FnExSame.l0]; rw [if_pos (by omega), if_pos (by omega), rdI a.f3 n (by omega), w_succ (by omega)]) ?_
    refine Ev.bind (impl_same a a.f3[n] (by omega)) (Ev.neg ?_ (ih (n + 1) (by omega)))
    rw [not_kid (List.getElem_mem _)]
    decide
theorem j1_ev : Ev (fun k => laws_FnExSame.j1 k false a.f0 a.f1 a.f2 a.f3 b.f0 b.f1 b.f2 b.f3 c.f0 c.f1 c.f2 c.f3) true := by
  refine Ev.step (fun k => by simp only [laws_FnExSame.j1]; rw [if_neg (by decide)]) ?_
  exact same_loop_ev a b c ha hb hc a.f3.length 0 (by omega)
end
theorem FnExSame_pure (l0 : List Int) (h0 : l0.length ≤ maxLen ∧ ∀ y ∈ l0, (Lit.int .u8 y).wf = true) (_ : l0.length * 1 ≤ 140737488351232) (l1 : List Int) (h1 : l1.length ≤ maxLen ∧ ∀ y ∈ l1, (Lit.int .u8 y).wf = true) (_ : l1.length * 1 ≤ 140737488351232) : ∃ k, laws_FnExSame.f k l0 l1 = some true := by
  refine Ev.rounds (g := fun k => laws_FnExSame.f k l0 l1) ?_
  have jt : Ev (fun k => laws_FnExSame.j0 k l0 l1 true) true := Ev.last (fun k => by simp only [laws_FnExSame.j0]; rw [if_pos trivial])
  unfold laws_FnExSame.f
  by_cases c : (l0.length : Int) > 1048576
  · exact Ev.pos c jt
  refine Ev.neg c ?_
  by_cases c1 : (l1.length : Int) > 1048576
  · rw [decide_eq_true c1]; exact jt
  rw [decide_eq_false c1]
  obtain ⟨a, b, h, ha, hb⟩ := DrawExSame_ev l0 (maxLen_le h0.1) h0.2
  obtain ⟨c, hc, hc'⟩ := DrawExMany_ev l1 (maxLen_le h1.1) h1.2
  refine Ev.step (fun k => by simp only [laws_FnExSame.j0]; rw [if_neg (by decide)]) ?_
  refine Ev.bind h (Ev.bind hc (Ev.bind (impl_same a b (by omega)) (Ev.bind (spec_same a b (by omega)) ?_)))
  refine Ev.neg (by simp) (Ev.bind (impl_same a c (by omega)) (Ev.bind (impl_same c a (by omega)) ?_))
  have : (oneB a c != oneB c a) = false := by
    have e : oneB a c = oneB c a := Bool.eq_iff_iff.2 (by rw [oneB_iff, oneB_iff]; exact ⟨fun h => h.symm, fun h => h.symm⟩)
    rw [e]
    simp
  simp only [this]
  exact j1_ev a b c ha hb hc'
end Go.Proofs.YtbcdfbiggjfmlaaDoor.M
