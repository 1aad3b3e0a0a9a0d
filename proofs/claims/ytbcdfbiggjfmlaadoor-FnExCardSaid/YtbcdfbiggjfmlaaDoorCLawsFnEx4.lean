/- What the claim's law leans on: the program's functions, what they compute, and the law over plain values; no condition is asked. (Part 4 of 6.) -/
import Derived.Test.YtbcdfbiggjfmlaaDoorCLawsFnEx3
namespace Go.Proofs.YtbcdfbiggjfmlaaDoor.M
open Go.RowKit Go.Proofs.YtbcdfbiggjfmlaaDoorW.PrintWords Go.Proofs.YtbcdfbiggjfmlaaDoorW.PrintLast Go.Proofs.YtbcdfbiggjfmlaaDoorW.PrintMore
attribute [local go_sem] max2_int min2_int max_two min_two max_three min_three max_four min_four
set_option linter.unusedVariables false
set_option linter.unusedSimpArgs false

mutual
def spec_l2Bent.l0 : Nat → Int → List Int → Int → Int → Int → Int → List (S29) → Option (Int × Int × Int × (List (S29)) × Int)
 | 0, _, _, _, _, _, _, _ => none
 | k + 1, x4, x1000, x1001, x110000, x110001, x110002, x110003 => if x4 < 5 then (spec_l2Bent.l0 k (wrap64 (x4 + 1)) x1000 x1001 7 0 1 (([(⟨x110000, x110001, x110002, x110003⟩ : S29)] : List (S29)))) else (some (x110000, x110001, x110002, x110003, x1001))
def spec_l2Bent.l1 : Nat → Int → List Int → Int → Int → Int → Int → List (S29) → Option (Int × Int × Int × (List (S29)) × Int)
 | 0, _, _, _, _, _, _, _ => none
 | k + 1, x5, x1000, x1001, x110000, x110001, x110002, x110003 => if x5 < 4 then ((spec_l2Copy.f k x110000 x110001 x110002 x110003).bind fun bt130 => (spec_l2Bent.l1 k (wrap64 (x5 + 1)) x1000 x1001 2 0 0 (([(⟨x110000, x110001, x110002, x110003⟩ : S29), (⟨bt130.1, bt130.2.1, bt130.2.2.1, bt130.2.2.2⟩ : S29)] : List (S29))))) else (some (x110000, x110001, x110002, x110003, x1001))
end
def spec_l2Bent.f (k : Nat) (s0_0 : List Int) (s0_1 : Int) : Option (Int × Int × Int × (List (S29)) × Int) := (spec_l2Some.f k s0_0 s0_1).bind fun bt102 => ((spec_l14Rd_pick.f k s0_0 bt102.2.2.2.2 60).bind fun bt110 => (if bt110.1 = 0 then ((spec_l14Rd_num.f k s0_0 bt110.2 (([0, 8, 2, 5] : List Int))).bind fun bt115 => (some (bt115.1, bt102.2.1, bt102.2.2.1, bt102.2.2.2.1, bt115.2))) else (if bt110.1 = 1 then ((spec_l14Rd_num.f k s0_0 bt110.2 (([(-1), 5, 1] : List Int))).bind fun bt120 => (some (bt102.1, bt120.1, bt102.2.2.1, bt102.2.2.2.1, bt120.2))) else (if bt110.1 = 2 then ((spec_l14Rd_num.f k s0_0 bt110.2 (([(-1), 21, 1, 0] : List Int))).bind fun bt125 => (some (bt102.1, bt102.2.1, bt125.1, bt102.2.2.2.1, bt125.2))) else (if bt110.1 = 3 then (spec_l2Bent.l0 k 0 s0_0 bt110.2 bt102.1 bt102.2.1 bt102.2.2.1 bt102.2.2.2.1) else (if bt110.1 = 4 then (spec_l2Bent.l1 k 0 s0_0 bt110.2 bt102.1 bt102.2.1 bt102.2.2.1 bt102.2.2.2.1) else (some (bt102.1, bt102.2.1, bt102.2.2.1, bt102.2.2.2.1, bt110.2))))))))
set_option maxHeartbeats 8000000 in
set_option maxRecDepth 100000 in
theorem spec_l2Bent.calls (k : Nat) (g : Nat) (s0_0 : List Int) (s0_1 : Int) (r1 : Int) (r2 : Int) (r3 : Int) (r4 : List (S29)) (r5 : Int) (w0 w : World) (hI : IsS79 w0 w g s0_0 s0_1) (hB : Below w0.heap.size w0 w) (h : spec_l2Bent.f k s0_0 s0_1 = some (r1, r2, r3, r4, r5)) :
  Calls Tryd.prog 32 #[.pointer (some ⟨g, 0, none⟩)] w fun e w' => ∃ v3_ : Value, e = .returned (.agg #[.int .i64 r1, .int .i64 r2, .int .i64 r3, v3_]) ∧ Kd.N k29 29 w' w.heap.size (fun k_ => (w.heap.size ≤ k_)) v3_ r4 ∧ IsS79 w0 w' g s0_0 r5 ∧ Below w0.heap.size w0 w' ∧ KeepBut w w' g none := by
 have hu29 := Tryd.underlying29
 have HI0 := m0_ hI
 have HK := m0_ (KeepBut.refl w g none)
 have HL := m0_ hB.size
 clear hI
 have HW0 := m0_ hB.size
 have HB := m0_ hB
 clear hB
 have H : ((spec_l2Some.f k s0_0 s0_1).bind fun bt102 => ((spec_l14Rd_pick.f k s0_0 bt102.2.2.2.2 60).bind fun bt110 => (if bt110.1 = 0 then ((spec_l14Rd_num.f k s0_0 bt110.2 (([0, 8, 2, 5] : List Int))).bind fun bt115 => (some (bt115.1, bt102.2.1, bt102.2.2.1, bt102.2.2.2.1, bt115.2))) else (if bt110.1 = 1 then ((spec_l14Rd_num.f k s0_0 bt110.2 (([(-1), 5, 1] : List Int))).bind fun bt120 => (some (bt102.1, bt120.1, bt102.2.2.1, bt102.2.2.2.1, bt120.2))) else (if bt110.1 = 2 then ((spec_l14Rd_num.f k s0_0 bt110.2 (([(-1), 21, 1, 0] : List Int))).bind fun bt125 => (some (bt102.1, bt102.2.1, bt125.1, bt102.2.2.2.1, bt125.2))) else (if bt110.1 = 3 then (spec_l2Bent.l0 k 0 s0_0 bt110.2 bt102.1 bt102.2.1 bt102.2.2.1 bt102.2.2.2.1) else (if bt110.1 = 4 then (spec_l2Bent.l1 k 0 s0_0 bt110.2 bt102.1 bt102.2.1 bt102.2.2.1 bt102.2.2.2.1) else (some (bt102.1, bt102.2.1, bt102.2.2.1, bt102.2.2.2.1, bt110.2))))))))) = some (r1, r2, r3, r4, r5) := h
 clear h
 replace H := Option.bind_eq_some_iff.mp H
 obtain ⟨⟨t102, t103, t104, t105, t108⟩, A20, H⟩ := H
 replace H : ((spec_l14Rd_pick.f k s0_0 t108 60).bind fun bt110 => (if bt110.1 = 0 then ((spec_l14Rd_num.f k s0_0 bt110.2 (([0, 8, 2, 5] : List Int))).bind fun bt115 => (some (bt115.1, t103, t104, t105, bt115.2))) else (if bt110.1 = 1 then ((spec_l14Rd_num.f k s0_0 bt110.2 (([(-1), 5, 1] : List Int))).bind fun bt120 => (some (t102, bt120.1, t104, t105, bt120.2))) else (if bt110.1 = 2 then ((spec_l14Rd_num.f k s0_0 bt110.2 (([(-1), 21, 1, 0] : List Int))).bind fun bt125 => (some (t102, t103, bt125.1, t105, bt125.2))) else (if bt110.1 = 3 then (spec_l2Bent.l0 k 0 s0_0 bt110.2 t102 t103 t104 t105) else (if bt110.1 = 4 then (spec_l2Bent.l1 k 0 s0_0 bt110.2 t102 t103 t104 t105) else (some (t102, t103, t104, t105, bt110.2)))))))) = some (r1, r2, r3, r4, r5) := H
 have A2 := m0_ A20
 clear A20
 replace H := Option.bind_eq_some_iff.mp H
 obtain ⟨⟨t110, t111⟩, A30, H⟩ := H
 replace H : (if t110 = 0 then ((spec_l14Rd_num.f k s0_0 t111 (([0, 8, 2, 5] : List Int))).bind fun bt115 => (some (bt115.1, t103, t104, t105, bt115.2))) else (if t110 = 1 then ((spec_l14Rd_num.f k s0_0 t111 (([(-1), 5, 1] : List Int))).bind fun bt120 => (some (t102, bt120.1, t104, t105, bt120.2))) else (if t110 = 2 then ((spec_l14Rd_num.f k s0_0 t111 (([(-1), 21, 1, 0] : List Int))).bind fun bt125 => (some (t102, t103, bt125.1, t105, bt125.2))) else (if t110 = 3 then (spec_l2Bent.l0 k 0 s0_0 t111 t102 t103 t104 t105) else (if t110 = 4 then (spec_l2Bent.l1 k 0 s0_0 t111 t102 t103 t104 t105) else (some (t102, t103, t104, t105, t111))))))) = some (r1, r2, r3, r4, r5) := H
 have A3 := m0_ A30
 clear A30
 by_cases c4 : t110 = 0
 ·rw [if_pos c4] at H
  have c4b0 : (t110 == 0) = true := beq_iff_eq.mpr c4
  have c4b1 : (t110 != 0) = false := bne_eq_false_iff_eq.mpr c4
  clear c4
  obtain ⟨y112, hy112⟩ : ∃ y_ : List Int, y_ = (([0, 8, 2, 5] : List Int)) := ⟨_, rfl⟩
  replace H : ((spec_l14Rd_num.f k s0_0 t111 y112).bind fun bt115 => (some (bt115.1, t103, t104, t105, bt115.2))) = some (r1, r2, r3, r4, r5) := by first | (rw [hy112];with_reducible exact H) | (have H2_ := (Option.bind_some _ _).symm.trans H;rw [hy112];with_reducible exact H2_) | (have H2_ := (Option.bind_some _ _).symm.trans H;with_reducible exact H2_) | with_reducible exact H | (rw [hy112];exact H) | exact H
  have Ny112 := m0_ hy112
  clear hy112
  replace H := Option.bind_eq_some_iff.mp H
  obtain ⟨⟨t115, t116⟩, A50, H⟩ := H
  replace H : (some (t115, t103, t104, t105, t116)) = some (r1, r2, r3, r4, r5) := H
  have A5 := m0_ A50
  clear A50
  simp only [Option.some.injEq, Prod.mk.injEq] at H
  obtain ⟨rfl, rfl, rfl, rfl, rfl⟩ := H
  go_enter Tryd.func32, Tryd.ntmps32
  go_wp2_with (first | ((with_reducible refine gate_dst (N := 2) rfl ?_);refine qs_ ?hg (N := 2) ?hd (cs := #[.int .i64 0, .int .i64 0, .int .i64 0, .slice none 0 0]) (t := 29) ?hr ?_;(case hd => rfl);(case hg => rfl);(case hr => first | (go_simp;done) | (go_simp;rfl));intro gb101 hg w6 hbox hb;replace HB := m0_ (qj_ (by repeat (first | (with_reducible first | exact HB.out | apply qg_ | apply qa_ | apply qf_ | refine qe_ ?_ (IsS79.ge HI0.out)) | exact HB.out)) hb);have BK101 := m0_ (hbox);have GW101 := m0_ ((by rw [hg];exact (keep_size (w := w) (g := g) (row := none) (by repeat (first | (with_reducible first | exact HK.out | apply qi_ | apply qm_ | apply qo_ | apply qn_) | exact HK.out))) : w.heap.size ≤ gb101));have GE101 := m0_ ((Nat.le_trans HW0.out (by rw [hg];exact (keep_size (w := w) (g := g) (row := none) (by repeat (first | (with_reducible first | exact HK.out | apply qi_ | apply qm_ | apply qo_ | apply qn_) | exact HK.out))) : w.heap.size ≤ gb101) : w0.heap.size ≤ gb101));replace HK := m0_ (KeepBut.trans (by repeat (first | (with_reducible first | exact HK.out | apply qi_ | apply qm_ | apply qo_ | apply qn_) | exact HK.out)) (KeepBut.of_below hb g none) (.inl rfl));have NB0_101 := m0_ ((by rw [hg];exact qv_ (IsS79.lt (show IsS79 w0 _ g s0_0 s0_1 from by repeat (first | (with_reducible first | exact HI0.out | apply IsS79.alloc | apply IsS79.drewN | apply IsS79.drew | apply IsS79.set_1) | exact HI0.out))) : g ≠ gb101));have NB101_0 := m0_ ((by rw [hg];exact qx_ (IsS79.lt (show IsS79 w0 _ g s0_0 s0_1 from by repeat (first | (with_reducible first | exact HI0.out | apply IsS79.alloc | apply IsS79.drewN | apply IsS79.drew | apply IsS79.set_1) | exact HI0.out))) : gb101 ≠ g));replace HI0 := m0_ (IsS79.below (by repeat (first | (with_reducible first | exact HI0.out | apply IsS79.alloc | apply IsS79.drewN | apply IsS79.drew | apply IsS79.set_1) | exact HI0.out)) hb);clear hb hbox hg) | ((with_reducible refine gate_callee (f := 55) rfl ?_);refine goesL_ (some 7) rfl rfl Tryd.func55 (by kernel_rfl) rfl #[.pointer (some ⟨g, 0, none⟩)] rfl (by (try simp only [List.map_toArray, List.map_cons, List.map_nil]);first | done | rfl | (simp only [List.length_drop, List.length_take];rfl)) ?_;(with_reducible refine (spec_l2Some.calls k g s0_0 s0_1 t102 t103 t104 t105 t108 w0 _ ?side1 ?side2 A2.out).mono ?_);(case side1 => repeat (first | (with_reducible first | exact HI0.out | apply IsS79.alloc | apply IsS79.drewN | apply IsS79.drew | apply IsS79.set_1 | refine IsS79.far ?_ NB0_101.out _) | exact HI0.out));(case side2 => repeat (first | (with_reducible first | exact HB.out | apply qg_ | apply qa_ | apply qf_ | refine qe_ ?_ (IsS79.ge HI0.out) | refine qe_ ?_ GE101.out) | exact HB.out));rintro e w7 ⟨v106, rfl, ho0, hi, hb, hk⟩;refine ⟨_, rfl, ?_⟩;have HO107 := m0_ (Kd.N_lower (Kd.N_mono (ok' := fun k_ => (w.heap.size ≤ k_) ∧ k_ ≠ gb101 ∧ k_ ≠ g) (Kd.R_N (Kd.R_bound ho0)) (fun k_ hk_ => ⟨(Nat.le_trans (keep_size (w := w) (g := g) (row := none) (by repeat (first | (with_reducible first | exact HK.out | apply qi_ | apply qm_ | apply qo_ | apply qn_ | refine qr_ ?_ GW101.out _) | exact HK.out))) hk_.2.1), (Kd.freshB BK101.out k_ hk_.2.1), (IsS79.fresh (by repeat (first | (with_reducible first | exact HI0.out | apply IsS79.alloc | apply IsS79.drewN | apply IsS79.drew | apply IsS79.set_1 | refine IsS79.far ?_ NB0_101.out _) | exact HI0.out)) k_ hk_.2.1)⟩)) (keep_size (w := w) (g := g) (row := none) (by repeat (first | (with_reducible first | exact HK.out | apply qi_ | apply qm_ | apply qo_ | apply qn_ | refine qr_ ?_ GW101.out _) | exact HK.out))));replace BK101 := m0_ (KeepBut.blk hk (g' := gb101) (o := .cells #[.int .i64 0, .int .i64 0, .int .i64 0, .slice none 0 0] 29 (0, 0)) (by (with_reducible repeat (first | refine qc_ ?_ _ | refine qd_ ?_ | refine qb_ ?_ _));exact BK101.out) NB101_0.out (by simp));replace HK := m0_ (KeepBut.trans (by repeat (first | (with_reducible first | exact HK.out | apply qi_ | apply qm_ | apply qo_ | apply qn_ | refine qr_ ?_ GW101.out _) | exact HK.out)) hk (.inl rfl));replace HB := m0_ (hb);replace HI0 := m0_ (hi);(try clear hb);(try clear hb2);(try clear hk);(try clear hi);(try clear ho0)) | ((with_reducible refine gate_dst (N := 3) rfl ?_);refine qs_ ?hg (N := 3) ?hd (cs := #[.int .i64 0, .int .i64 0, .int .i64 0, .slice none 0 0]) (t := 29) ?hr ?_;(case hd => rfl);(case hg => rfl);(case hr => first | (go_simp;done) | (go_simp;rfl));intro gb109 hg w8 hbox hb;replace HO107 := m0_ (Kd.N_below (Kd.N_elderB (by exact HO107.out) gb109 (Nat.le_of_eq hg.symm)) hb);replace HB := m0_ (qj_ (by repeat (first | (with_reducible first | exact HB.out | apply qg_ | apply qa_ | apply qf_ | refine qe_ ?_ (IsS79.ge HI0.out) | refine qe_ ?_ GE101.out) | exact HB.out)) hb);have BK109 := m0_ (hbox);have GW109 := m0_ ((by rw [hg];exact (keep_size (w := w) (g := g) (row := none) (by repeat (first | (with_reducible first | exact HK.out | apply qi_ | apply qm_ | apply qo_ | apply qn_ | refine qr_ ?_ GW101.out _) | exact HK.out))) : w.heap.size ≤ gb109));have GE109 := m0_ ((Nat.le_trans HW0.out (by rw [hg];exact (keep_size (w := w) (g := g) (row := none) (by repeat (first | (with_reducible first | exact HK.out | apply qi_ | apply qm_ | apply qo_ | apply qn_ | refine qr_ ?_ GW101.out _) | exact HK.out))) : w.heap.size ≤ gb109) : w0.heap.size ≤ gb109));replace HK := m0_ (KeepBut.trans (by repeat (first | (with_reducible first | exact HK.out | apply qi_ | apply qm_ | apply qo_ | apply qn_ | refine qr_ ?_ GW101.out _) | exact HK.out)) (KeepBut.of_below hb g none) (.inl rfl));have NB101_109 := m0_ ((by rw [hg];exact qv_ (blk_lt BK101.out) : gb101 ≠ gb109));have NB109_101 := m0_ ((by rw [hg];exact qx_ (blk_lt BK101.out) : gb109 ≠ gb101));replace BK101 := m0_ (qk_ BK101.out hb);have NB0_109 := m0_ ((by rw [hg];exact qv_ (IsS79.lt (show IsS79 w0 _ g s0_0 t108 from by repeat (first | (with_reducible first | exact HI0.out | apply IsS79.alloc | apply IsS79.drewN | apply IsS79.drew | apply IsS79.set_1 | refine IsS79.far ?_ NB0_101.out _) | exact HI0.out))) : g ≠ gb109));have NB109_0 := m0_ ((by rw [hg];exact qx_ (IsS79.lt (show IsS79 w0 _ g s0_0 t108 from by repeat (first | (with_reducible first | exact HI0.out | apply IsS79.alloc | apply IsS79.drewN | apply IsS79.drew | apply IsS79.set_1 | refine IsS79.far ?_ NB0_101.out _) | exact HI0.out))) : gb109 ≠ g));replace HI0 := m0_ (IsS79.below (by repeat (first | (with_reducible first | exact HI0.out | apply IsS79.alloc | apply IsS79.drewN | apply IsS79.drew | apply IsS79.set_1 | refine IsS79.far ?_ NB0_101.out _) | exact HI0.out)) hb);clear hb hbox hg;have hnb9 := NB109_101.out;have hnc9 := NB101_109.out;have hnb10 := NB109_0.out;have hnc10 := NB0_109.out;obtain ⟨hcz11_0, hcz11_1, hcz11_2, hcz11_3, hfz11_0, hfz11_1, hfz11_2, hfz11_3⟩ := bx4 BK109.out;obtain ⟨Ao12, co12, eo12⟩ := Kd.N_slice HO107.out;subst eo12) | ((with_reducible refine gate_callee (f := 48) rfl ?_);refine goesL_ (some 9) rfl rfl Tryd.func48 (by kernel_rfl) rfl #[.pointer (some ⟨g, 0, none⟩), .int .i64 60] rfl (by (try simp only [List.map_toArray, List.map_cons, List.map_nil]);first | done | rfl | (simp only [List.length_drop, List.length_take];rfl)) ?_;(with_reducible refine (spec_l14Rd_pick.calls k g s0_0 t108 60 t110 t111 w0 _ ?side1 ?side2 A3.out).mono ?_);(case side1 => repeat (first | (with_reducible first | exact HI0.out | apply IsS79.alloc | apply IsS79.drewN | apply IsS79.drew | apply IsS79.set_1 | refine IsS79.far ?_ NB0_101.out _ | refine IsS79.far ?_ NB0_109.out _) | exact HI0.out));(case side2 => repeat (first | (with_reducible first | exact HB.out | apply qg_ | apply qa_ | apply qf_ | refine qe_ ?_ (IsS79.ge HI0.out) | refine qe_ ?_ GE101.out | refine qe_ ?_ GE109.out) | exact HB.out));rintro e w13 ⟨rfl, hi, hb, hk⟩;refine ⟨_, rfl, ?_⟩;replace BK101 := m0_ (KeepBut.blk hk (g' := gb101) (o := .cells #[.int .i64 0, .int .i64 0, .int .i64 0, .slice none 0 0] 29 (0, 0)) (by (with_reducible repeat (first | refine qc_ ?_ _ | refine qd_ ?_ | refine qb_ ?_ _));refine qt_ ?_ NB101_109.out _;(with_reducible repeat (first | refine qc_ ?_ _ | refine qd_ ?_ | refine qb_ ?_ _));refine qt_ ?_ NB101_109.out _;(with_reducible repeat (first | refine qc_ ?_ _ | refine qd_ ?_ | refine qb_ ?_ _));refine qt_ ?_ NB101_109.out _;(with_reducible repeat (first | refine qc_ ?_ _ | refine qd_ ?_ | refine qb_ ?_ _));refine qt_ ?_ NB101_109.out _;(with_reducible repeat (first | refine qc_ ?_ _ | refine qd_ ?_ | refine qb_ ?_ _));exact BK101.out) NB101_0.out (by simp));replace HO107 := m0_ (Kd.N_mono (Kd.N_keep (Kd.N_mono (ok := fun k_ => ((((w.heap.size ≤ k_)) ∧ (k_ ≠ gb101 ∧ k_ ≠ g)) ∧ k_ ≠ gb109)) (by (with_reducible repeat (first | apply Kd.N_alloc | apply Kd.N_drewN | apply Kd.N_drew));exact (Kd.N_mono (Kd.N_far (p := ⟨gb109, 3, none⟩) (Kd.N_far (p := ⟨gb109, 2, none⟩) (Kd.N_far (p := ⟨gb109, 1, none⟩) (Kd.N_far (p := ⟨gb109, 0, none⟩) (Kd.N_mono HO107.out (fun k_ hk => (⟨hk, hk.2⟩ : _ ∧ k_ ≠ gb109))) (fun _ hk => hk.2) (.int .i64 t102)) (fun _ hk => hk.2) (.int .i64 t103)) (fun _ hk => hk.2) (.int .i64 t104)) (fun _ hk => hk.2) (.slice Ao12 t105.length co12)) (fun _ h_ => h_.1))) (fun k_ hk_ => (⟨hk_, hk_.1.2.2⟩ : _ ∧ k_ ≠ g))) hk (fun _ h => h.2)) (fun _ h => h.1));replace BK109 := m0_ (KeepBut.blk hk (g' := gb109) (o := .cells #[.int .i64 t102, .int .i64 t103, .int .i64 t104, .slice Ao12 t105.length co12] 29 (0, 0)) (by (with_reducible repeat (first | refine qc_ ?_ _ | refine qd_ ?_ | refine qb_ ?_ _));refine ql_ (cs := #[.int .i64 t102, .int .i64 t103, .int .i64 t104, .slice none 0 0]) ?_ 3 _ rfl;(with_reducible repeat (first | refine qc_ ?_ _ | refine qd_ ?_ | refine qb_ ?_ _));refine ql_ (cs := #[.int .i64 t102, .int .i64 t103, .int .i64 0, .slice none 0 0]) ?_ 2 _ rfl;(with_reducible repeat (first | refine qc_ ?_ _ | refine qd_ ?_ | refine qb_ ?_ _));refine ql_ (cs := #[.int .i64 t102, .int .i64 0, .int .i64 0, .slice none 0 0]) ?_ 1 _ rfl;(with_reducible repeat (first | refine qc_ ?_ _ | refine qd_ ?_ | refine qb_ ?_ _));refine ql_ (cs := #[.int .i64 0, .int .i64 0, .int .i64 0, .slice none 0 0]) ?_ 0 _ rfl;(with_reducible repeat (first | refine qc_ ?_ _ | refine qd_ ?_ | refine qb_ ?_ _));exact BK109.out) NB109_0.out (by simp));replace HK := m0_ (KeepBut.trans (by repeat (first | (with_reducible first | exact HK.out | apply qi_ | apply qm_ | apply qo_ | apply qn_ | refine qr_ ?_ GW101.out _ | refine qr_ ?_ GW109.out _) | exact HK.out)) hk (.inl rfl));replace HB := m0_ (hb);replace HI0 := m0_ (hi);(try clear hb);(try clear hb2);(try clear hk);(try clear hi)) | ((with_reducible refine gate_dst (N := 13) rfl ?_);refine Kd.R_lit (Kd.int .i64) _ 3 ?hg (N := 13) ?hd (xs := ([0, 8, 2, 5] : List Int)) (inner := [.int .i64 0, .int .i64 8, .int .i64 2, .int .i64 5]) (ok := fun _ => True) (okp := fun _ => True) ?hr ?hp (fun _ hk => hk) trivial (Below.refl _ _) (Nat.le_refl _) (by simp) ?_;(case hd => rfl);(case hg => rfl);(case hr => first | (go_simp;done) | (go_simp;rfl));(case hp => exact (Reps.one (show Kd.M (Kd.int .i64) _ _ _ 0 [.int .i64 0] from rfl) (Reps.one (show Kd.M (Kd.int .i64) _ _ _ 8 [.int .i64 8] from rfl) (Reps.one (show Kd.M (Kd.int .i64) _ _ _ 2 [.int .i64 2] from rfl) (Reps.one (show Kd.M (Kd.int .i64) _ _ _ 5 [.int .i64 5] from rfl) (Reps.none _ _))))));intro v113 w14 ho15 hb hg_ hnew_;clear hg_ hnew_;(first | rw [← Ny112.out] at ho15 | (simp only [Int.reduceToNat] at ho15;rw [← Ny112.out] at ho15));replace HO107 := m0_ (Kd.N_elder' (by exact HO107.out) (Kd.R_base ho15) hb);have HO114 := m0_ (Kd.R_lower (Kd.R_newM (M := fun k_ => (w.heap.size ≤ k_)) ho15 (keep_size (w := w) (g := g) (row := none) (by repeat (first | (with_reducible first | exact HK.out | apply qi_ | apply qm_ | apply qo_ | apply qn_ | refine qr_ ?_ GW101.out _ | refine qr_ ?_ GW109.out _) | exact HK.out))) (fun k_ h_ => h_)) (keep_size (w := w) (g := g) (row := none) (by repeat (first | (with_reducible first | exact HK.out | apply qi_ | apply qm_ | apply qo_ | apply qn_ | refine qr_ ?_ GW101.out _ | refine qr_ ?_ GW109.out _) | exact HK.out))));replace BK101 := m0_ (qk_ BK101.out hb);replace BK109 := m0_ (qk_ BK109.out hb);replace HK := m0_ (KeepBut.trans (by repeat (first | (with_reducible first | exact HK.out | apply qi_ | apply qm_ | apply qo_ | apply qn_ | refine qr_ ?_ GW101.out _ | refine qr_ ?_ GW109.out _) | exact HK.out)) (KeepBut.of_below hb g none) (.inl rfl));replace HB := m0_ (qj_ (by repeat (first | (with_reducible first | exact HB.out | apply qg_ | apply qa_ | apply qf_ | refine qe_ ?_ (IsS79.ge HI0.out) | refine qe_ ?_ GE101.out | refine qe_ ?_ GE109.out) | exact HB.out)) hb);replace HI0 := m0_ (IsS79.below (by repeat (first | (with_reducible first | exact HI0.out | apply IsS79.alloc | apply IsS79.drewN | apply IsS79.drew | apply IsS79.set_1 | refine IsS79.far ?_ NB0_101.out _ | refine IsS79.far ?_ NB0_109.out _) | exact HI0.out)) hb);clear hb ho15;obtain ⟨Ao16, co16, eo16⟩ := Kd.R_slice HO114.out;subst eo16) | ((with_reducible refine gate_callee (f := 56) rfl ?_);refine goesL_ (some 14) rfl rfl Tryd.func56 (by kernel_rfl) rfl #[.pointer (some ⟨g, 0, none⟩), .slice Ao16 y112.length co16] rfl (by (try simp only [List.map_toArray, List.map_cons, List.map_nil]);first | done | rfl | (simp only [List.length_drop, List.length_take];rfl)) ?_;(with_reducible refine (spec_l14Rd_num.calls k g s0_0 t111 _ _ y112 t115 t116 w0 _ ?side1 ?side2 ?side3 ?side4 ?side5 A5.out).mono ?_);(case side1 => repeat (first | (with_reducible first | exact HI0.out | apply IsS79.alloc | apply IsS79.drewN | apply IsS79.drew | apply IsS79.set_1 | refine IsS79.far ?_ NB0_101.out _ | refine IsS79.far ?_ NB0_109.out _) | exact HI0.out));(case side2 => repeat (first | (with_reducible first | exact HB.out | apply qg_ | apply qa_ | apply qf_ | refine qe_ ?_ (IsS79.ge HI0.out) | refine qe_ ?_ GE101.out | refine qe_ ?_ GE109.out) | exact HB.out));(case side3 => repeat (first | exact (Kd.R_reads' HO114.out).2.2 | (with_reducible refine Kd.C_alloc ?_ _) | (with_reducible refine Kd.C_drewN ?_ _) | (with_reducible refine Kd.C_drew ?_)));(case side4 => exact (Kd.R_reads' HO114.out).2.1);(case side5 => exact far_slice (IsS79.own_ne HI0.out HO114.out (by decide)));rintro e w17 ⟨rfl, hi, hb, hk⟩;refine ⟨_, rfl, ?_⟩;replace BK101 := m0_ (KeepBut.blk hk (g' := gb101) (o := .cells #[.int .i64 0, .int .i64 0, .int .i64 0, .slice none 0 0] 29 (0, 0)) (by (with_reducible repeat (first | refine qc_ ?_ _ | refine qd_ ?_ | refine qb_ ?_ _));exact BK101.out) NB101_0.out (by simp));replace HO107 := m0_ (Kd.N_mono (Kd.N_keep (Kd.N_mono (ok := fun k_ => (((((w.heap.size ≤ k_)) ∧ (k_ ≠ gb101 ∧ k_ ≠ g)) ∧ k_ ≠ gb109) ∧ some k_ ≠ (.slice Ao16 y112.length co16 : Value).ownBlock)) (by exact HO107.out) (fun k_ hk_ => (⟨hk_, hk_.1.1.2.2⟩ : _ ∧ k_ ≠ g))) hk (fun _ h => h.2)) (fun _ h => h.1));replace BK109 := m0_ (KeepBut.blk hk (g' := gb109) (o := .cells #[.int .i64 t102, .int .i64 t103, .int .i64 t104, .slice Ao12 t105.length co12] 29 (0, 0)) (by (with_reducible repeat (first | refine qc_ ?_ _ | refine qd_ ?_ | refine qb_ ?_ _));exact BK109.out) NB109_0.out (by simp));replace HO114 := m0_ (Kd.R_mono (Kd.R_keep (IsS79.apart (show IsS79 w0 _ g s0_0 t111 from by repeat (first | (with_reducible first | exact HI0.out | apply IsS79.alloc | apply IsS79.drewN | apply IsS79.drew | apply IsS79.set_1 | refine IsS79.far ?_ NB0_101.out _ | refine IsS79.far ?_ NB0_109.out _) | exact HI0.out)) (by exact HO114.out) (by decide)) hk (fun _ h => h.2)) (fun _ h => h.1));replace HK := m0_ (KeepBut.trans (by repeat (first | (with_reducible first | exact HK.out | apply qi_ | apply qm_ | apply qo_ | apply qn_ | refine qr_ ?_ GW101.out _ | refine qr_ ?_ GW109.out _) | exact HK.out)) hk (.inl rfl));replace HB := m0_ (hb);replace HI0 := m0_ (hi);(try clear hb);(try clear hb2);(try clear hk);(try clear hi);obtain ⟨hcz18_0, hcz18_1, hcz18_2, hcz18_3, hfz18_0, hfz18_1, hfz18_2, hfz18_3⟩ := bx4 BK109.out;have hnb19 := NB101_0.out;have hnc19 := NB0_101.out;obtain ⟨hcz20_0, hcz20_1, hcz20_2, hcz20_3, hfz20_0, hfz20_1, hfz20_2, hfz20_3⟩ := bx4 BK101.out))
  refine bodyPost_ret (results_cell_row rfl _ _ gb101 29 #[.int .i64 t115, .int .i64 t103, .int .i64 t104, .slice Ao12 t105.length co12] (0, 0) _ rfl (by (with_reducible repeat (first | refine qc_ ?_ _ | refine qd_ ?_ | refine qb_ ?_ _));refine ql_ (cs := #[.int .i64 t115, .int .i64 t103, .int .i64 t104, .slice none 0 0]) ?_ 3 _ rfl;(with_reducible repeat (first | refine qc_ ?_ _ | refine qd_ ?_ | refine qb_ ?_ _));refine ql_ (cs := #[.int .i64 t115, .int .i64 t103, .int .i64 0, .slice none 0 0]) ?_ 2 _ rfl;(with_reducible repeat (first | refine qc_ ?_ _ | refine qd_ ?_ | refine qb_ ?_ _));refine ql_ (cs := #[.int .i64 t115, .int .i64 0, .int .i64 0, .slice none 0 0]) ?_ 1 _ rfl;(with_reducible repeat (first | refine qc_ ?_ _ | refine qd_ ?_ | refine qb_ ?_ _));refine ql_ (cs := #[.int .i64 0, .int .i64 0, .int .i64 0, .slice none 0 0]) ?_ 0 _ rfl;(with_reducible repeat (first | refine qc_ ?_ _ | refine qd_ ?_ | refine qb_ ?_ _));refine qt_ ?_ NB101_109.out _;(with_reducible repeat (first | refine qc_ ?_ _ | refine qd_ ?_ | refine qb_ ?_ _));exact BK101.out) Tryd.underlying29 rfl (by kernel_rfl)) rfl ?_
  exact ⟨_, by first | rfl | (simp [errW_none, errW_some] <;> rfl) | (simp [*, errW_none, errW_some] <;> rfl), by (with_reducible repeat (first | apply Kd.N_alloc | apply Kd.N_drewN | apply Kd.N_drew));exact Kd.N_mono (Kd.N_far (p := ⟨gb101, 3, none⟩) (Kd.N_far (p := ⟨gb101, 2, none⟩) (Kd.N_far (p := ⟨gb101, 1, none⟩) (Kd.N_far (p := ⟨gb101, 0, none⟩) (Kd.N_far (p := ⟨gb109, 0, none⟩) (Kd.N_mono (Kd.N_mono HO107.out (fun k_ hk => (⟨hk, hk.1.2⟩ : _ ∧ k_ ≠ gb109))) (fun k_ hk => (⟨hk, hk.1.1.1.2.1⟩ : _ ∧ k_ ≠ gb101))) (fun _ hk => hk.1.2) (.int .i64 t115)) (fun _ hk => hk.2) (.int .i64 t115)) (fun _ hk => hk.2) (.int .i64 t103)) (fun _ hk => hk.2) (.int .i64 t104)) (fun _ hk => hk.2) (.slice Ao12 t105.length co12)) (fun _ hk => hk.1.1.1.1.1), by repeat (first | (with_reducible first | exact HI0.out | apply IsS79.alloc | apply IsS79.drewN | apply IsS79.drew | apply IsS79.set_1 | refine IsS79.far ?_ NB0_101.out _ | refine IsS79.far ?_ NB0_109.out _) | exact HI0.out), by repeat (first | (with_reducible first | exact HB.out | apply qg_ | apply qa_ | apply qf_ | refine qe_ ?_ (IsS79.ge HI0.out) | refine qe_ ?_ GE101.out | refine qe_ ?_ GE109.out) | exact HB.out), by repeat (first | (with_reducible first | exact HK.out | apply qi_ | apply qm_ | apply qo_ | apply qn_ | refine qr_ ?_ GW101.out _ | refine qr_ ?_ GW109.out _) | exact HK.out)⟩
 rw [if_neg c4] at H
 have c4b0 : (t110 == 0) = false := beq_eq_false_iff_ne.mpr c4
 have c4b1 : (t110 != 0) = true := bne_iff_ne.mpr c4
 by_cases c21 : t110 = 1
 ·rw [if_pos c21] at H
  have c21b0 : (t110 == 1) = true := beq_iff_eq.mpr c21
  have c21b1 : (t110 != 1) = false := bne_eq_false_iff_eq.mpr c21
  clear c21
  obtain ⟨y117, hy117⟩ : ∃ y_ : List Int, y_ = (([(-1), 5, 1] : List Int)) := ⟨_, rfl⟩
  replace H : ((spec_l14Rd_num.f k s0_0 t111 y117).bind fun bt120 => (some (t102, bt120.1, t104, t105, bt120.2))) = some (r1, r2, r3, r4, r5) := by first | (rw [hy117];with_reducible exact H) | (have H2_ := (Option.bind_some _ _).symm.trans H;rw [hy117];with_reducible exact H2_) | (have H2_ := (Option.bind_some _ _).symm.trans H;with_reducible exact H2_) | with_reducible exact H | (rw [hy117];exact H) | exact H
  have Ny117 := m0_ hy117
  clear hy117
  replace H := Option.bind_eq_some_iff.mp H
  obtain ⟨⟨t120, t121⟩, A220, H⟩ := H
  replace H : (some (t102, t120, t104, t105, t121)) = some (r1, r2, r3, r4, r5) := H
  have A22 := m0_ A220
  clear A220
  simp only [Option.some.injEq, Prod.mk.injEq] at H
  obtain ⟨rfl, rfl, rfl, rfl, rfl⟩ := H
  go_enter Tryd.func32, Tryd.ntmps32
  go_wp2_with (first | ((with_reducible refine gate_dst (N := 2) rfl ?_);refine qs_ ?hg (N := 2) ?hd (cs := #[.int .i64 0, .int .i64 0, .int .i64 0, .slice none 0 0]) (t := 29) ?hr ?_;(case hd => rfl);(case hg => rfl);(case hr => first | (go_simp;done) | (go_simp;rfl));intro gb101 hg w23 hbox hb;replace HB := m0_ (qj_ (by repeat (first | (with_reducible first | exact HB.out | apply qg_ | apply qa_ | apply qf_ | refine qe_ ?_ (IsS79.ge HI0.out)) | exact HB.out)) hb);have BK101 := m0_ (hbox);have GW101 := m0_ ((by rw [hg];exact (keep_size (w := w) (g := g) (row := none) (by repeat (first | (with_reducible first | exact HK.out | apply qi_ | apply qm_ | apply qo_ | apply qn_) | exact HK.out))) : w.heap.size ≤ gb101));have GE101 := m0_ ((Nat.le_trans HW0.out (by rw [hg];exact (keep_size (w := w) (g := g) (row := none) (by repeat (first | (with_reducible first | exact HK.out | apply qi_ | apply qm_ | apply qo_ | apply qn_) | exact HK.out))) : w.heap.size ≤ gb101) : w0.heap.size ≤ gb101));replace HK := m0_ (KeepBut.trans (by repeat (first | (with_reducible first | exact HK.out | apply qi_ | apply qm_ | apply qo_ | apply qn_) | exact HK.out)) (KeepBut.of_below hb g none) (.inl rfl));have NB0_101 := m0_ ((by rw [hg];exact qv_ (IsS79.lt (show IsS79 w0 _ g s0_0 s0_1 from by repeat (first | (with_reducible first | exact HI0.out | apply IsS79.alloc | apply IsS79.drewN | apply IsS79.drew | apply IsS79.set_1) | exact HI0.out))) : g ≠ gb101));have NB101_0 := m0_ ((by rw [hg];exact qx_ (IsS79.lt (show IsS79 w0 _ g s0_0 s0_1 from by repeat (first | (with_reducible first | exact HI0.out | apply IsS79.alloc | apply IsS79.drewN | apply IsS79.drew | apply IsS79.set_1) | exact HI0.out))) : gb101 ≠ g));replace HI0 := m0_ (IsS79.below (by repeat (first | (with_reducible first | exact HI0.out | apply IsS79.alloc | apply IsS79.drewN | apply IsS79.drew | apply IsS79.set_1) | exact HI0.out)) hb);clear hb hbox hg) | ((with_reducible refine gate_callee (f := 55) rfl ?_);refine goesL_ (some 7) rfl rfl Tryd.func55 (by kernel_rfl) rfl #[.pointer (some ⟨g, 0, none⟩)] rfl (by (try simp only [List.map_toArray, List.map_cons, List.map_nil]);first | done | rfl | (simp only [List.length_drop, List.length_take];rfl)) ?_;(with_reducible refine (spec_l2Some.calls k g s0_0 s0_1 t102 t103 t104 t105 t108 w0 _ ?side1 ?side2 A2.out).mono ?_);(case side1 => repeat (first | (with_reducible first | exact HI0.out | apply IsS79.alloc | apply IsS79.drewN | apply IsS79.drew | apply IsS79.set_1 | refine IsS79.far ?_ NB0_101.out _) | exact HI0.out));(case side2 => repeat (first | (with_reducible first | exact HB.out | apply qg_ | apply qa_ | apply qf_ | refine qe_ ?_ (IsS79.ge HI0.out) | refine qe_ ?_ GE101.out) | exact HB.out));rintro e w24 ⟨v106, rfl, ho0, hi, hb, hk⟩;refine ⟨_, rfl, ?_⟩;have HO107 := m0_ (Kd.N_lower (Kd.N_mono (ok' := fun k_ => (w.heap.size ≤ k_) ∧ k_ ≠ gb101 ∧ k_ ≠ g) (Kd.R_N (Kd.R_bound ho0)) (fun k_ hk_ => ⟨(Nat.le_trans (keep_size (w := w) (g := g) (row := none) (by repeat (first | (with_reducible first | exact HK.out | apply qi_ | apply qm_ | apply qo_ | apply qn_ | refine qr_ ?_ GW101.out _) | exact HK.out))) hk_.2.1), (Kd.freshB BK101.out k_ hk_.2.1), (IsS79.fresh (by repeat (first | (with_reducible first | exact HI0.out | apply IsS79.alloc | apply IsS79.drewN | apply IsS79.drew | apply IsS79.set_1 | refine IsS79.far ?_ NB0_101.out _) | exact HI0.out)) k_ hk_.2.1)⟩)) (keep_size (w := w) (g := g) (row := none) (by repeat (first | (with_reducible first | exact HK.out | apply qi_ | apply qm_ | apply qo_ | apply qn_ | refine qr_ ?_ GW101.out _) | exact HK.out))));replace BK101 := m0_ (KeepBut.blk hk (g' := gb101) (o := .cells #[.int .i64 0, .int .i64 0, .int .i64 0, .slice none 0 0] 29 (0, 0)) (by (with_reducible repeat (first | refine qc_ ?_ _ | refine qd_ ?_ | refine qb_ ?_ _));exact BK101.out) NB101_0.out (by simp));replace HK := m0_ (KeepBut.trans (by repeat (first | (with_reducible first | exact HK.out | apply qi_ | apply qm_ | apply qo_ | apply qn_ | refine qr_ ?_ GW101.out _) | exact HK.out)) hk (.inl rfl));replace HB := m0_ (hb);replace HI0 := m0_ (hi);(try clear hb);(try clear hb2);(try clear hk);(try clear hi);(try clear ho0)) | ((with_reducible refine gate_dst (N := 3) rfl ?_);refine qs_ ?hg (N := 3) ?hd (cs := #[.int .i64 0, .int .i64 0, .int .i64 0, .slice none 0 0]) (t := 29) ?hr ?_;(case hd => rfl);(case hg => rfl);(case hr => first | (go_simp;done) | (go_simp;rfl));intro gb109 hg w25 hbox hb;replace HO107 := m0_ (Kd.N_below (Kd.N_elderB (by exact HO107.out) gb109 (Nat.le_of_eq hg.symm)) hb);replace HB := m0_ (qj_ (by repeat (first | (with_reducible first | exact HB.out | apply qg_ | apply qa_ | apply qf_ | refine qe_ ?_ (IsS79.ge HI0.out) | refine qe_ ?_ GE101.out) | exact HB.out)) hb);have BK109 := m0_ (hbox);have GW109 := m0_ ((by rw [hg];exact (keep_size (w := w) (g := g) (row := none) (by repeat (first | (with_reducible first | exact HK.out | apply qi_ | apply qm_ | apply qo_ | apply qn_ | refine qr_ ?_ GW101.out _) | exact HK.out))) : w.heap.size ≤ gb109));have GE109 := m0_ ((Nat.le_trans HW0.out (by rw [hg];exact (keep_size (w := w) (g := g) (row := none) (by repeat (first | (with_reducible first | exact HK.out | apply qi_ | apply qm_ | apply qo_ | apply qn_ | refine qr_ ?_ GW101.out _) | exact HK.out))) : w.heap.size ≤ gb109) : w0.heap.size ≤ gb109));replace HK := m0_ (KeepBut.trans (by repeat (first | (with_reducible first | exact HK.out | apply qi_ | apply qm_ | apply qo_ | apply qn_ | refine qr_ ?_ GW101.out _) | exact HK.out)) (KeepBut.of_below hb g none) (.inl rfl));have NB101_109 := m0_ ((by rw [hg];exact qv_ (blk_lt BK101.out) : gb101 ≠ gb109));have NB109_101 := m0_ ((by rw [hg];exact qx_ (blk_lt BK101.out) : gb109 ≠ gb101));replace BK101 := m0_ (qk_ BK101.out hb);have NB0_109 := m0_ ((by rw [hg];exact qv_ (IsS79.lt (show IsS79 w0 _ g s0_0 t108 from by repeat (first | (with_reducible first | exact HI0.out | apply IsS79.alloc | apply IsS79.drewN | apply IsS79.drew | apply IsS79.set_1 | refine IsS79.far ?_ NB0_101.out _) | exact HI0.out))) : g ≠ gb109));have NB109_0 := m0_ ((by rw [hg];exact qx_ (IsS79.lt (show IsS79 w0 _ g s0_0 t108 from by repeat (first | (with_reducible first | exact HI0.out | apply IsS79.alloc | apply IsS79.drewN | apply IsS79.drew | apply IsS79.set_1 | refine IsS79.far ?_ NB0_101.out _) | exact HI0.out))) : gb109 ≠ g));replace HI0 := m0_ (IsS79.below (by repeat (first | (with_reducible first | exact HI0.out | apply IsS79.alloc | apply IsS79.drewN | apply IsS79.drew | apply IsS79.set_1 | refine IsS79.far ?_ NB0_101.out _) | exact HI0.out)) hb);clear hb hbox hg;have hnb26 := NB109_101.out;have hnc26 := NB101_109.out;have hnb27 := NB109_0.out;have hnc27 := NB0_109.out;obtain ⟨hcz28_0, hcz28_1, hcz28_2, hcz28_3, hfz28_0, hfz28_1, hfz28_2, hfz28_3⟩ := bx4 BK109.out;obtain ⟨Ao29, co29, eo29⟩ := Kd.N_slice HO107.out;subst eo29) | ((with_reducible refine gate_callee (f := 48) rfl ?_);refine goesL_ (some 9) rfl rfl Tryd.func48 (by kernel_rfl) rfl #[.pointer (some ⟨g, 0, none⟩), .int .i64 60] rfl (by (try simp only [List.map_toArray, List.map_cons, List.map_nil]);first | done | rfl | (simp only [List.length_drop, List.length_take];rfl)) ?_;(with_reducible refine (spec_l14Rd_pick.calls k g s0_0 t108 60 t110 t111 w0 _ ?side1 ?side2 A3.out).mono ?_);(case side1 => repeat (first | (with_reducible first | exact HI0.out | apply IsS79.alloc | apply IsS79.drewN | apply IsS79.drew | apply IsS79.set_1 | refine IsS79.far ?_ NB0_101.out _ | refine IsS79.far ?_ NB0_109.out _) | exact HI0.out));(case side2 => repeat (first | (with_reducible first | exact HB.out | apply qg_ | apply qa_ | apply qf_ | refine qe_ ?_ (IsS79.ge HI0.out) | refine qe_ ?_ GE101.out | refine qe_ ?_ GE109.out) | exact HB.out));rintro e w30 ⟨rfl, hi, hb, hk⟩;refine ⟨_, rfl, ?_⟩;replace BK101 := m0_ (KeepBut.blk hk (g' := gb101) (o := .cells #[.int .i64 0, .int .i64 0, .int .i64 0, .slice none 0 0] 29 (0, 0)) (by (with_reducible repeat (first | refine qc_ ?_ _ | refine qd_ ?_ | refine qb_ ?_ _));refine qt_ ?_ NB101_109.out _;(with_reducible repeat (first | refine qc_ ?_ _ | refine qd_ ?_ | refine qb_ ?_ _));refine qt_ ?_ NB101_109.out _;(with_reducible repeat (first | refine qc_ ?_ _ | refine qd_ ?_ | refine qb_ ?_ _));refine qt_ ?_ NB101_109.out _;(with_reducible repeat (first | refine qc_ ?_ _ | refine qd_ ?_ | refine qb_ ?_ _));refine qt_ ?_ NB101_109.out _;(with_reducible repeat (first | refine qc_ ?_ _ | refine qd_ ?_ | refine qb_ ?_ _));exact BK101.out) NB101_0.out (by simp));replace HO107 := m0_ (Kd.N_mono (Kd.N_keep (Kd.N_mono (ok := fun k_ => ((((w.heap.size ≤ k_)) ∧ (k_ ≠ gb101 ∧ k_ ≠ g)) ∧ k_ ≠ gb109)) (by (with_reducible repeat (first | apply Kd.N_alloc | apply Kd.N_drewN | apply Kd.N_drew));exact (Kd.N_mono (Kd.N_far (p := ⟨gb109, 3, none⟩) (Kd.N_far (p := ⟨gb109, 2, none⟩) (Kd.N_far (p := ⟨gb109, 1, none⟩) (Kd.N_far (p := ⟨gb109, 0, none⟩) (Kd.N_mono HO107.out (fun k_ hk => (⟨hk, hk.2⟩ : _ ∧ k_ ≠ gb109))) (fun _ hk => hk.2) (.int .i64 t102)) (fun _ hk => hk.2) (.int .i64 t103)) (fun _ hk => hk.2) (.int .i64 t104)) (fun _ hk => hk.2) (.slice Ao29 t105.length co29)) (fun _ h_ => h_.1))) (fun k_ hk_ => (⟨hk_, hk_.1.2.2⟩ : _ ∧ k_ ≠ g))) hk (fun _ h => h.2)) (fun _ h => h.1));replace BK109 := m0_ (KeepBut.blk hk (g' := gb109) (o := .cells #[.int .i64 t102, .int .i64 t103, .int .i64 t104, .slice Ao29 t105.length co29] 29 (0, 0)) (by (with_reducible repeat (first | refine qc_ ?_ _ | refine qd_ ?_ | refine qb_ ?_ _));refine ql_ (cs := #[.int .i64 t102, .int .i64 t103, .int .i64 t104, .slice none 0 0]) ?_ 3 _ rfl;(with_reducible repeat (first | refine qc_ ?_ _ | refine qd_ ?_ | refine qb_ ?_ _));refine ql_ (cs := #[.int .i64 t102, .int .i64 t103, .int .i64 0, .slice none 0 0]) ?_ 2 _ rfl;(with_reducible repeat (first | refine qc_ ?_ _ | refine qd_ ?_ | refine qb_ ?_ _));refine ql_ (cs := #[.int .i64 t102, .int .i64 0, .int .i64 0, .slice none 0 0]) ?_ 1 _ rfl;(with_reducible repeat (first | refine qc_ ?_ _ | refine qd_ ?_ | refine qb_ ?_ _));refine ql_ (cs := #[.int .i64 0, .int .i64 0, .int .i64 0, .slice none 0 0]) ?_ 0 _ rfl;(with_reducible repeat (first | refine qc_ ?_ _ | refine qd_ ?_ | refine qb_ ?_ _));exact BK109.out) NB109_0.out (by simp));replace HK := m0_ (KeepBut.trans (by repeat (first | (with_reducible first | exact HK.out | apply qi_ | apply qm_ | apply qo_ | apply qn_ | refine qr_ ?_ GW101.out _ | refine qr_ ?_ GW109.out _) | exact HK.out)) hk (.inl rfl));replace HB := m0_ (hb);replace HI0 := m0_ (hi);(try clear hb);(try clear hb2);(try clear hk);(try clear hi)) | ((with_reducible refine gate_dst (N := 19) rfl ?_);refine Kd.R_lit (Kd.int .i64) _ 3 ?hg (N := 19) ?hd (xs := ([(-1), 5, 1] : List Int)) (inner := [.int .i64 (-1), .int .i64 5, .int .i64 1]) (ok := fun _ => True) (okp := fun _ => True) ?hr ?hp (fun _ hk => hk) trivial (Below.refl _ _) (Nat.le_refl _) (by simp) ?_;(case hd => rfl);(case hg => rfl);(case hr => first | (go_simp;done) | (go_simp;rfl));(case hp => exact (Reps.one (show Kd.M (Kd.int .i64) _ _ _ (-1) [.int .i64 (-1)] from rfl) (Reps.one (show Kd.M (Kd.int .i64) _ _ _ 5 [.int .i64 5] from rfl) (Reps.one (show Kd.M (Kd.int .i64) _ _ _ 1 [.int .i64 1] from rfl) (Reps.none _ _)))));intro v118 w31 ho32 hb hg_ hnew_;clear hg_ hnew_;(first | rw [← Ny117.out] at ho32 | (simp only [Int.reduceToNat] at ho32;rw [← Ny117.out] at ho32));replace HO107 := m0_ (Kd.N_elder' (by exact HO107.out) (Kd.R_base ho32) hb);have HO119 := m0_ (Kd.R_lower (Kd.R_newM (M := fun k_ => (w.heap.size ≤ k_)) ho32 (keep_size (w := w) (g := g) (row := none) (by repeat (first | (with_reducible first | exact HK.out | apply qi_ | apply qm_ | apply qo_ | apply qn_ | refine qr_ ?_ GW101.out _ | refine qr_ ?_ GW109.out _) | exact HK.out))) (fun k_ h_ => h_)) (keep_size (w := w) (g := g) (row := none) (by repeat (first | (with_reducible first | exact HK.out | apply qi_ | apply qm_ | apply qo_ | apply qn_ | refine qr_ ?_ GW101.out _ | refine qr_ ?_ GW109.out _) | exact HK.out))));replace BK101 := m0_ (qk_ BK101.out hb);replace BK109 := m0_ (qk_ BK109.out hb);replace HK := m0_ (KeepBut.trans (by repeat (first | (with_reducible first | exact HK.out | apply qi_ | apply qm_ | apply qo_ | apply qn_ | refine qr_ ?_ GW101.out _ | refine qr_ ?_ GW109.out _) | exact HK.out)) (KeepBut.of_below hb g none) (.inl rfl));replace HB := m0_ (qj_ (by repeat (first | (with_reducible first | exact HB.out | apply qg_ | apply qa_ | apply qf_ | refine qe_ ?_ (IsS79.ge HI0.out) | refine qe_ ?_ GE101.out | refine qe_ ?_ GE109.out) | exact HB.out)) hb);replace HI0 := m0_ (IsS79.below (by repeat (first | (with_reducible first | exact HI0.out | apply IsS79.alloc | apply IsS79.drewN | apply IsS79.drew | apply IsS79.set_1 | refine IsS79.far ?_ NB0_101.out _ | refine IsS79.far ?_ NB0_109.out _) | exact HI0.out)) hb);clear hb ho32;obtain ⟨Ao33, co33, eo33⟩ := Kd.R_slice HO119.out;subst eo33) | ((with_reducible refine gate_callee (f := 56) rfl ?_);refine goesL_ (some 20) rfl rfl Tryd.func56 (by kernel_rfl) rfl #[.pointer (some ⟨g, 0, none⟩), .slice Ao33 y117.length co33] rfl (by (try simp only [List.map_toArray, List.map_cons, List.map_nil]);first | done | rfl | (simp only [List.length_drop, List.length_take];rfl)) ?_;(with_reducible refine (spec_l14Rd_num.calls k g s0_0 t111 _ _ y117 t120 t121 w0 _ ?side1 ?side2 ?side3 ?side4 ?side5 A22.out).mono ?_);(case side1 => repeat (first | (with_reducible first | exact HI0.out | apply IsS79.alloc | apply IsS79.drewN | apply IsS79.drew | apply IsS79.set_1 | refine IsS79.far ?_ NB0_101.out _ | refine IsS79.far ?_ NB0_109.out _) | exact HI0.out));(case side2 => repeat (first | (with_reducible first | exact HB.out | apply qg_ | apply qa_ | apply qf_ | refine qe_ ?_ (IsS79.ge HI0.out) | refine qe_ ?_ GE101.out | refine qe_ ?_ GE109.out) | exact HB.out));(case side3 => repeat (first | exact (Kd.R_reads' HO119.out).2.2 | (with_reducible refine Kd.C_alloc ?_ _) | (with_reducible refine Kd.C_drewN ?_ _) | (with_reducible refine Kd.C_drew ?_)));(case side4 => exact (Kd.R_reads' HO119.out).2.1);(case side5 => exact far_slice (IsS79.own_ne HI0.out HO119.out (by decide)));rintro e w34 ⟨rfl, hi, hb, hk⟩;refine ⟨_, rfl, ?_⟩;replace BK101 := m0_ (KeepBut.blk hk (g' := gb101) (o := .cells #[.int .i64 0, .int .i64 0, .int .i64 0, .slice none 0 0] 29 (0, 0)) (by (with_reducible repeat (first | refine qc_ ?_ _ | refine qd_ ?_ | refine qb_ ?_ _));exact BK101.out) NB101_0.out (by simp));replace HO107 := m0_ (Kd.N_mono (Kd.N_keep (Kd.N_mono (ok := fun k_ => (((((w.heap.size ≤ k_)) ∧ (k_ ≠ gb101 ∧ k_ ≠ g)) ∧ k_ ≠ gb109) ∧ some k_ ≠ (.slice Ao33 y117.length co33 : Value).ownBlock)) (by exact HO107.out) (fun k_ hk_ => (⟨hk_, hk_.1.1.2.2⟩ : _ ∧ k_ ≠ g))) hk (fun _ h => h.2)) (fun _ h => h.1));replace BK109 := m0_ (KeepBut.blk hk (g' := gb109) (o := .cells #[.int .i64 t102, .int .i64 t103, .int .i64 t104, .slice Ao29 t105.length co29] 29 (0, 0)) (by (with_reducible repeat (first | refine qc_ ?_ _ | refine qd_ ?_ | refine qb_ ?_ _));exact BK109.out) NB109_0.out (by simp));replace HO119 := m0_ (Kd.R_mono (Kd.R_keep (IsS79.apart (show IsS79 w0 _ g s0_0 t111 from by repeat (first | (with_reducible first | exact HI0.out | apply IsS79.alloc | apply IsS79.drewN | apply IsS79.drew | apply IsS79.set_1 | refine IsS79.far ?_ NB0_101.out _ | refine IsS79.far ?_ NB0_109.out _) | exact HI0.out)) (by exact HO119.out) (by decide)) hk (fun _ h => h.2)) (fun _ h => h.1));replace HK := m0_ (KeepBut.trans (by repeat (first | (with_reducible first | exact HK.out | apply qi_ | apply qm_ | apply qo_ | apply qn_ | refine qr_ ?_ GW101.out _ | refine qr_ ?_ GW109.out _) | exact HK.out)) hk (.inl rfl));replace HB := m0_ (hb);replace HI0 := m0_ (hi);(try clear hb);(try clear hb2);(try clear hk);(try clear hi);obtain ⟨hcz35_0, hcz35_1, hcz35_2, hcz35_3, hfz35_0, hfz35_1, hfz35_2, hfz35_3⟩ := bx4 BK109.out;have hnb36 := NB101_0.out;have hnc36 := NB0_101.out;obtain ⟨hcz37_0, hcz37_1, hcz37_2, hcz37_3, hfz37_0, hfz37_1, hfz37_2, hfz37_3⟩ := bx4 BK101.out))
  refine bodyPost_ret (results_cell_row rfl _ _ gb101 29 #[.int .i64 t102, .int .i64 t120, .int .i64 t104, .slice Ao29 t105.length co29] (0, 0) _ rfl (by (with_reducible repeat (first | refine qc_ ?_ _ | refine qd_ ?_ | refine qb_ ?_ _));refine ql_ (cs := #[.int .i64 t102, .int .i64 t120, .int .i64 t104, .slice none 0 0]) ?_ 3 _ rfl;(with_reducible repeat (first | refine qc_ ?_ _ | refine qd_ ?_ | refine qb_ ?_ _));refine ql_ (cs := #[.int .i64 t102, .int .i64 t120, .int .i64 0, .slice none 0 0]) ?_ 2 _ rfl;(with_reducible repeat (first | refine qc_ ?_ _ | refine qd_ ?_ | refine qb_ ?_ _));refine ql_ (cs := #[.int .i64 t102, .int .i64 0, .int .i64 0, .slice none 0 0]) ?_ 1 _ rfl;(with_reducible repeat (first | refine qc_ ?_ _ | refine qd_ ?_ | refine qb_ ?_ _));refine ql_ (cs := #[.int .i64 0, .int .i64 0, .int .i64 0, .slice none 0 0]) ?_ 0 _ rfl;(with_reducible repeat (first | refine qc_ ?_ _ | refine qd_ ?_ | refine qb_ ?_ _));refine qt_ ?_ NB101_109.out _;(with_reducible repeat (first | refine qc_ ?_ _ | refine qd_ ?_ | refine qb_ ?_ _));exact BK101.out) Tryd.underlying29 rfl (by kernel_rfl)) rfl ?_
  exact ⟨_, by first | rfl | (simp [errW_none, errW_some] <;> rfl) | (simp [*, errW_none, errW_some] <;> rfl), by (with_reducible repeat (first | apply Kd.N_alloc | apply Kd.N_drewN | apply Kd.N_drew));exact Kd.N_mono (Kd.N_far (p := ⟨gb101, 3, none⟩) (Kd.N_far (p := ⟨gb101, 2, none⟩) (Kd.N_far (p := ⟨gb101, 1, none⟩) (Kd.N_far (p := ⟨gb101, 0, none⟩) (Kd.N_far (p := ⟨gb109, 1, none⟩) (Kd.N_mono (Kd.N_mono HO107.out (fun k_ hk => (⟨hk, hk.1.2⟩ : _ ∧ k_ ≠ gb109))) (fun k_ hk => (⟨hk, hk.1.1.1.2.1⟩ : _ ∧ k_ ≠ gb101))) (fun _ hk => hk.1.2) (.int .i64 t120)) (fun _ hk => hk.2) (.int .i64 t102)) (fun _ hk => hk.2) (.int .i64 t120)) (fun _ hk => hk.2) (.int .i64 t104)) (fun _ hk => hk.2) (.slice Ao29 t105.length co29)) (fun _ hk => hk.1.1.1.1.1), by repeat (first | (with_reducible first | exact HI0.out | apply IsS79.alloc | apply IsS79.drewN | apply IsS79.drew | apply IsS79.set_1 | refine IsS79.far ?_ NB0_101.out _ | refine IsS79.far ?_ NB0_109.out _) | exact HI0.out), by repeat (first | (with_reducible first | exact HB.out | apply qg_ | apply qa_ | apply qf_ | refine qe_ ?_ (IsS79.ge HI0.out) | refine qe_ ?_ GE101.out | refine qe_ ?_ GE109.out) | exact HB.out), by repeat (first | (with_reducible first | exact HK.out | apply qi_ | apply qm_ | apply qo_ | apply qn_ | refine qr_ ?_ GW101.out _ | refine qr_ ?_ GW109.out _) | exact HK.out)⟩
 rw [if_neg c21] at H
 have c21b0 : (t110 == 1) = false := beq_eq_false_iff_ne.mpr c21
 have c21b1 : (t110 != 1) = true := bne_iff_ne.mpr c21
 by_cases c38 : t110 = 2
 ·rw [if_pos c38] at H
  have c38b0 : (t110 == 2) = true := beq_iff_eq.mpr c38
  have c38b1 : (t110 != 2) = false := bne_eq_false_iff_eq.mpr c38
  clear c38
  obtain ⟨y122, hy122⟩ : ∃ y_ : List Int, y_ = (([(-1), 21, 1, 0] : List Int)) := ⟨_, rfl⟩
  replace H : ((spec_l14Rd_num.f k s0_0 t111 y122).bind fun bt125 => (some (t102, t103, bt125.1, t105, bt125.2))) = some (r1, r2, r3, r4, r5) := by first | (rw [hy122];with_reducible exact H) | (have H2_ := (Option.bind_some _ _).symm.trans H;rw [hy122];with_reducible exact H2_) | (have H2_ := (Option.bind_some _ _).symm.trans H;with_reducible exact H2_) | with_reducible exact H | (rw [hy122];exact H) | exact H
  have Ny122 := m0_ hy122
  clear hy122
  replace H := Option.bind_eq_some_iff.mp H
  obtain ⟨⟨t125, t126⟩, A390, H⟩ := H
  replace H : (some (t102, t103, t125, t105, t126)) = some (r1, r2, r3, r4, r5) := H
  have A39 := m0_ A390
  clear A390
  simp only [Option.some.injEq, Prod.mk.injEq] at H
  obtain ⟨rfl, rfl, rfl, rfl, rfl⟩ := H
  go_enter Tryd.func32, Tryd.ntmps32
  go_wp2_with (first | ((with_reducible refine gate_dst (N := 2) rfl ?_);refine qs_ ?hg (N := 2) ?hd (cs := #[.int .i64 0, .int .i64 0, .int .i64 0, .slice none 0 0]) (t := 29) ?hr ?_;(case hd => rfl);(case hg => rfl);(case hr => first | (go_simp;done) | (go_simp;rfl));intro gb101 hg w40 hbox hb;replace HB := m0_ (qj_ (by repeat (first | (with_reducible first | exact HB.out | apply qg_ | apply qa_ | apply qf_ | refine qe_ ?_ (IsS79.ge HI0.out)) | exact HB.out)) hb);have BK101 := m0_ (hbox);have GW101 := m0_ ((by rw [hg];exact (keep_size (w := w) (g := g) (row := none) (by repeat (first | (with_reducible first | exact HK.out | apply qi_ | apply qm_ | apply qo_ | apply qn_) | exact HK.out))) : w.heap.size ≤ gb101));have GE101 := m0_ ((Nat.le_trans HW0.out (by rw [hg];exact (keep_size (w := w) (g := g) (row := none) (by repeat (first | (with_reducible first | exact HK.out | apply qi_ | apply qm_ | apply qo_ | apply qn_) | exact HK.out))) : w.heap.size ≤ gb101) : w0.heap.size ≤ gb101));replace HK := m0_ (KeepBut.trans (by repeat (first | (with_reducible first | exact HK.out | apply qi_ | apply qm_ | apply qo_ | apply qn_) | exact HK.out)) (KeepBut.of_below hb g none) (.inl rfl));have NB0_101 := m0_ ((by rw [hg];exact qv_ (IsS79.lt (show IsS79 w0 _ g s0_0 s0_1 from by repeat (first | (with_reducible first | exact HI0.out | apply IsS79.alloc | apply IsS79.drewN | apply IsS79.drew | apply IsS79.set_1) | exact HI0.out))) : g ≠ gb101));have NB101_0 := m0_ ((by rw [hg];exact qx_ (IsS79.lt (show IsS79 w0 _ g s0_0 s0_1 from by repeat (first | (with_reducible first | exact HI0.out | apply IsS79.alloc | apply IsS79.drewN | apply IsS79.drew | apply IsS79.set_1) | exact HI0.out))) : gb101 ≠ g));replace HI0 := m0_ (IsS79.below (by repeat (first | (with_reducible first | exact HI0.out | apply IsS79.alloc | apply IsS79.drewN | apply IsS79.drew | apply IsS79.set_1) | exact HI0.out)) hb);clear hb hbox hg) | ((with_reducible refine gate_callee (f := 55) rfl ?_);refine goesL_ (some 7) rfl rfl Tryd.func55 (by kernel_rfl) rfl #[.pointer (some ⟨g, 0, none⟩)] rfl (by (try simp only [List.map_toArray, List.map_cons, List.map_nil]);first | done | rfl | (simp only [List.length_drop, List.length_take];rfl)) ?_;(with_reducible refine (spec_l2Some.calls k g s0_0 s0_1 t102 t103 t104 t105 t108 w0 _ ?side1 ?side2 A2.out).mono ?_);(case side1 => repeat (first | (with_reducible first | exact HI0.out | apply IsS79.alloc | apply IsS79.drewN | apply IsS79.drew | apply IsS79.set_1 | refine IsS79.far ?_ NB0_101.out _) | exact HI0.out));(case side2 => repeat (first | (with_reducible first | exact HB.out | apply qg_ | apply qa_ | apply qf_ | refine qe_ ?_ (IsS79.ge HI0.out) | refine qe_ ?_ GE101.out) | exact HB.out));rintro e w41 ⟨v106, rfl, ho0, hi, hb, hk⟩;refine ⟨_, rfl, ?_⟩;have HO107 := m0_ (Kd.N_lower (Kd.N_mono (ok' := fun k_ => (w.heap.size ≤ k_) ∧ k_ ≠ gb101 ∧ k_ ≠ g) (Kd.R_N (Kd.R_bound ho0)) (fun k_ hk_ => ⟨(Nat.le_trans (keep_size (w := w) (g := g) (row := none) (by repeat (first | (with_reducible first | exact HK.out | apply qi_ | apply qm_ | apply qo_ | apply qn_ | refine qr_ ?_ GW101.out _) | exact HK.out))) hk_.2.1), (Kd.freshB BK101.out k_ hk_.2.1), (IsS79.fresh (by repeat (first | (with_reducible first | exact HI0.out | apply IsS79.alloc | apply IsS79.drewN | apply IsS79.drew | apply IsS79.set_1 | refine IsS79.far ?_ NB0_101.out _) | exact HI0.out)) k_ hk_.2.1)⟩)) (keep_size (w := w) (g := g) (row := none) (by repeat (first | (with_reducible first | exact HK.out | apply qi_ | apply qm_ | apply qo_ | apply qn_ | refine qr_ ?_ GW101.out _) | exact HK.out))));replace BK101 := m0_ (KeepBut.blk hk (g' := gb101) (o := .cells #[.int .i64 0, .int .i64 0, .int .i64 0, .slice none 0 0] 29 (0, 0)) (by (with_reducible repeat (first | refine qc_ ?_ _ | refine qd_ ?_ | refine qb_ ?_ _));exact BK101.out) NB101_0.out (by simp));replace HK := m0_ (KeepBut.trans (by repeat (first | (with_reducible first | exact HK.out | apply qi_ | apply qm_ | apply qo_ | apply qn_ | refine qr_ ?_ GW101.out _) | exact HK.out)) hk (.inl rfl));replace HB := m0_ (hb);replace HI0 := m0_ (hi);(try clear hb);(try clear hb2);(try clear hk);(try clear hi);(try clear ho0)) | ((with_reducible refine gate_dst (N := 3) rfl ?_);refine qs_ ?hg (N := 3) ?hd (cs := #[.int .i64 0, .int .i64 0, .int .i64 0, .slice none 0 0]) (t := 29) ?hr ?_;(case hd => rfl);(case hg => rfl);(case hr => first | (go_simp;done) | (go_simp;rfl));intro gb109 hg w42 hbox hb;replace HO107 := m0_ (Kd.N_below (Kd.N_elderB (by exact HO107.out) gb109 (Nat.le_of_eq hg.symm)) hb);replace HB := m0_ (qj_ (by repeat (first | (with_reducible first | exact HB.out | apply qg_ | apply qa_ | apply qf_ | refine qe_ ?_ (IsS79.ge HI0.out) | refine qe_ ?_ GE101.out) | exact HB.out)) hb);have BK109 := m0_ (hbox);have GW109 := m0_ ((by rw [hg];exact (keep_size (w := w) (g := g) (row := none) (by repeat (first | (with_reducible first | exact HK.out | apply qi_ | apply qm_ | apply qo_ | apply qn_ | refine qr_ ?_ GW101.out _) | exact HK.out))) : w.heap.size ≤ gb109));have GE109 := m0_ ((Nat.le_trans HW0.out (by rw [hg];exact (keep_size (w := w) (g := g) (row := none) (by repeat (first | (with_reducible first | exact HK.out | apply qi_ | apply qm_ | apply qo_ | apply qn_ | refine qr_ ?_ GW101.out _) | exact HK.out))) : w.heap.size ≤ gb109) : w0.heap.size ≤ gb109));replace HK := m0_ (KeepBut.trans (by repeat (first | (with_reducible first | exact HK.out | apply qi_ | apply qm_ | apply qo_ | apply qn_ | refine qr_ ?_ GW101.out _) | exact HK.out)) (KeepBut.of_below hb g none) (.inl rfl));have NB101_109 := m0_ ((by rw [hg];exact qv_ (blk_lt BK101.out) : gb101 ≠ gb109));have NB109_101 := m0_ ((by rw [hg];exact qx_ (blk_lt BK101.out) : gb109 ≠ gb101));replace BK101 := m0_ (qk_ BK101.out hb);have NB0_109 := m0_ ((by rw [hg];exact qv_ (IsS79.lt (show IsS79 w0 _ g s0_0 t108 from by repeat (first | (with_reducible first | exact HI0.out | apply IsS79.alloc | apply IsS79.drewN | apply IsS79.drew | apply IsS79.set_1 | refine IsS79.far ?_ NB0_101.out _) | exact HI0.out))) : g ≠ gb109));have NB109_0 := m0_ ((by rw [hg];exact qx_ (IsS79.lt (show IsS79 w0 _ g s0_0 t108 from by repeat (first | (with_reducible first | exact HI0.out | apply IsS79.alloc | apply IsS79.drewN | apply IsS79.drew | apply IsS79.set_1 | refine IsS79.far ?_ NB0_101.out _) | exact HI0.out))) : gb109 ≠ g));replace HI0 := m0_ (IsS79.below (by repeat (first | (with_reducible first | exact HI0.out | apply IsS79.alloc | apply IsS79.drewN | apply IsS79.drew | apply IsS79.set_1 | refine IsS79.far ?_ NB0_101.out _) | exact HI0.out)) hb);clear hb hbox hg;have hnb43 := NB109_101.out;have hnc43 := NB101_109.out;have hnb44 := NB109_0.out;have hnc44 := NB0_109.out;obtain ⟨hcz45_0, hcz45_1, hcz45_2, hcz45_3, hfz45_0, hfz45_1, hfz45_2, hfz45_3⟩ := bx4 BK109.out;obtain ⟨Ao46, co46, eo46⟩ := Kd.N_slice HO107.out;subst eo46) | ((with_reducible refine gate_callee (f := 48) rfl ?_);refine goesL_ (some 9) rfl rfl Tryd.func48 (by kernel_rfl) rfl #[.pointer (some ⟨g, 0, none⟩), .int .i64 60] rfl (by (try simp only [List.map_toArray, List.map_cons, List.map_nil]);first | done | rfl | (simp only [List.length_drop, List.length_take];rfl)) ?_;(with_reducible refine (spec_l14Rd_pick.calls k g s0_0 t108 60 t110 t111 w0 _ ?side1 ?side2 A3.out).mono ?_);(case side1 => repeat (first | (with_reducible first | exact HI0.out | apply IsS79.alloc | apply IsS79.drewN | apply IsS79.drew | apply IsS79.set_1 | refine IsS79.far ?_ NB0_101.out _ | refine IsS79.far ?_ NB0_109.out _) | exact HI0.out));(case side2 => repeat (first | (with_reducible first | exact HB.out | apply qg_ | apply qa_ | apply qf_ | refine qe_ ?_ (IsS79.ge HI0.out) | refine qe_ ?_ GE101.out | refine qe_ ?_ GE109.out) | exact HB.out));rintro e w47 ⟨rfl, hi, hb, hk⟩;refine ⟨_, rfl, ?_⟩;replace BK101 := m0_ (KeepBut.blk hk (g' := gb101) (o := .cells #[.int .i64 0, .int .i64 0, .int .i64 0, .slice none 0 0] 29 (0, 0)) (by (with_reducible repeat (first | refine qc_ ?_ _ | refine qd_ ?_ | refine qb_ ?_ _));refine qt_ ?_ NB101_109.out _;(with_reducible repeat (first | refine qc_ ?_ _ | refine qd_ ?_ | refine qb_ ?_ _));refine qt_ ?_ NB101_109.out _;(with_reducible repeat (first | refine qc_ ?_ _ | refine qd_ ?_ | refine qb_ ?_ _));refine qt_ ?_ NB101_109.out _;(with_reducible repeat (first | refine qc_ ?_ _ | refine qd_ ?_ | refine qb_ ?_ _));refine qt_ ?_ NB101_109.out _;(with_reducible repeat (first | refine qc_ ?_ _ | refine qd_ ?_ | refine qb_ ?_ _));exact BK101.out) NB101_0.out (by simp));replace HO107 := m0_ (Kd.N_mono (Kd.N_keep (Kd.N_mono (ok := fun k_ => ((((w.heap.size ≤ k_)) ∧ (k_ ≠ gb101 ∧ k_ ≠ g)) ∧ k_ ≠ gb109)) (by (with_reducible repeat (first | apply Kd.N_alloc | apply Kd.N_drewN | apply Kd.N_drew));exact (Kd.N_mono (Kd.N_far (p := ⟨gb109, 3, none⟩) (Kd.N_far (p := ⟨gb109, 2, none⟩) (Kd.N_far (p := ⟨gb109, 1, none⟩) (Kd.N_far (p := ⟨gb109, 0, none⟩) (Kd.N_mono HO107.out (fun k_ hk => (⟨hk, hk.2⟩ : _ ∧ k_ ≠ gb109))) (fun _ hk => hk.2) (.int .i64 t102)) (fun _ hk => hk.2) (.int .i64 t103)) (fun _ hk => hk.2) (.int .i64 t104)) (fun _ hk => hk.2) (.slice Ao46 t105.length co46)) (fun _ h_ => h_.1))) (fun k_ hk_ => (⟨hk_, hk_.1.2.2⟩ : _ ∧ k_ ≠ g))) hk (fun _ h => h.2)) (fun _ h => h.1));replace BK109 := m0_ (KeepBut.blk hk (g' := gb109) (o := .cells #[.int .i64 t102, .int .i64 t103, .int .i64 t104, .slice Ao46 t105.length co46] 29 (0, 0)) (by (with_reducible repeat (first | refine qc_ ?_ _ | refine qd_ ?_ | refine qb_ ?_ _));refine ql_ (cs := #[.int .i64 t102, .int .i64 t103, .int .i64 t104, .slice none 0 0]) ?_ 3 _ rfl;(with_reducible repeat (first | refine qc_ ?_ _ | refine qd_ ?_ | refine qb_ ?_ _));refine ql_ (cs := #[.int .i64 t102, .int .i64 t103, .int .i64 0, .slice none 0 0]) ?_ 2 _ rfl;(with_reducible repeat (first | refine qc_ ?_ _ | refine qd_ ?_ | refine qb_ ?_ _));refine ql_ (cs := #[.int .i64 t102, .int .i64 0, .int .i64 0, .slice none 0 0]) ?_ 1 _ rfl;(with_reducible repeat (first | refine qc_ ?_ _ | refine qd_ ?_ | refine qb_ ?_ _));refine ql_ (cs := #[.int .i64 0, .int .i64 0, .int .i64 0, .slice none 0 0]) ?_ 0 _ rfl;(with_reducible repeat (first | refine qc_ ?_ _ | refine qd_ ?_ | refine qb_ ?_ _));exact BK109.out) NB109_0.out (by simp));replace HK := m0_ (KeepBut.trans (by repeat (first | (with_reducible first | exact HK.out | apply qi_ | apply qm_ | apply qo_ | apply qn_ | refine qr_ ?_ GW101.out _ | refine qr_ ?_ GW109.out _) | exact HK.out)) hk (.inl rfl));replace HB := m0_ (hb);replace HI0 := m0_ (hi);(try clear hb);(try clear hb2);(try clear hk);(try clear hi)) | ((with_reducible refine gate_dst (N := 25) rfl ?_);refine Kd.R_lit (Kd.int .i64) _ 3 ?hg (N := 25) ?hd (xs := ([(-1), 21, 1, 0] : List Int)) (inner := [.int .i64 (-1), .int .i64 21, .int .i64 1, .int .i64 0]) (ok := fun _ => True) (okp := fun _ => True) ?hr ?hp (fun _ hk => hk) trivial (Below.refl _ _) (Nat.le_refl _) (by simp) ?_;(case hd => rfl);(case hg => rfl);(case hr => first | (go_simp;done) | (go_simp;rfl));(case hp => exact (Reps.one (show Kd.M (Kd.int .i64) _ _ _ (-1) [.int .i64 (-1)] from rfl) (Reps.one (show Kd.M (Kd.int .i64) _ _ _ 21 [.int .i64 21] from rfl) (Reps.one (show Kd.M (Kd.int .i64) _ _ _ 1 [.int .i64 1] from rfl) (Reps.one (show Kd.M (Kd.int .i64) _ _ _ 0 [.int .i64 0] from rfl) (Reps.none _ _))))));intro v123 w48 ho49 hb hg_ hnew_;clear hg_ hnew_;(first | rw [← Ny122.out] at ho49 | (simp only [Int.reduceToNat] at ho49;rw [← Ny122.out] at ho49));replace HO107 := m0_ (Kd.N_elder' (by exact HO107.out) (Kd.R_base ho49) hb);have HO124 := m0_ (Kd.R_lower (Kd.R_newM (M := fun k_ => (w.heap.size ≤ k_)) ho49 (keep_size (w := w) (g := g) (row := none) (by repeat (first | (with_reducible first | exact HK.out | apply qi_ | apply qm_ | apply qo_ | apply qn_ | refine qr_ ?_ GW101.out _ | refine qr_ ?_ GW109.out _) | exact HK.out))) (fun k_ h_ => h_)) (keep_size (w := w) (g := g) (row := none) (by repeat (first | (with_reducible first | exact HK.out | apply qi_ | apply qm_ | apply qo_ | apply qn_ | refine qr_ ?_ GW101.out _ | refine qr_ ?_ GW109.out _) | exact HK.out))));replace BK101 := m0_ (qk_ BK101.out hb);replace BK109 := m0_ (qk_ BK109.out hb);replace HK := m0_ (KeepBut.trans (by repeat (first | (with_reducible first | exact HK.out | apply qi_ | apply qm_ | apply qo_ | apply qn_ | refine qr_ ?_ GW101.out _ | refine qr_ ?_ GW109.out _) | exact HK.out)) (KeepBut.of_below hb g none) (.inl rfl));replace HB := m0_ (qj_ (by repeat (first | (with_reducible first | exact HB.out | apply qg_ | apply qa_ | apply qf_ | refine qe_ ?_ (IsS79.ge HI0.out) | refine qe_ ?_ GE101.out | refine qe_ ?_ GE109.out) | exact HB.out)) hb);replace HI0 := m0_ (IsS79.below (by repeat (first | (with_reducible first | exact HI0.out | apply IsS79.alloc | apply IsS79.drewN | apply IsS79.drew | apply IsS79.set_1 | refine IsS79.far ?_ NB0_101.out _ | refine IsS79.far ?_ NB0_109.out _) | exact HI0.out)) hb);clear hb ho49;obtain ⟨Ao50, co50, eo50⟩ := Kd.R_slice HO124.out;subst eo50) | ((with_reducible refine gate_callee (f := 56) rfl ?_);refine goesL_ (some 26) rfl rfl Tryd.func56 (by kernel_rfl) rfl #[.pointer (some ⟨g, 0, none⟩), .slice Ao50 y122.length co50] rfl (by (try simp only [List.map_toArray, List.map_cons, List.map_nil]);first | done | rfl | (simp only [List.length_drop, List.length_take];rfl)) ?_;(with_reducible refine (spec_l14Rd_num.calls k g s0_0 t111 _ _ y122 t125 t126 w0 _ ?side1 ?side2 ?side3 ?side4 ?side5 A39.out).mono ?_);(case side1 => repeat (first | (with_reducible first | exact HI0.out | apply IsS79.alloc | apply IsS79.drewN | apply IsS79.drew | apply IsS79.set_1 | refine IsS79.far ?_ NB0_101.out _ | refine IsS79.far ?_ NB0_109.out _) | exact HI0.out));(case side2 => repeat (first | (with_reducible first | exact HB.out | apply qg_ | apply qa_ | apply qf_ | refine qe_ ?_ (IsS79.ge HI0.out) | refine qe_ ?_ GE101.out | refine qe_ ?_ GE109.out) | exact HB.out));(case side3 => repeat (first | exact (Kd.R_reads' HO124.out).2.2 | (with_reducible refine Kd.C_alloc ?_ _) | (with_reducible refine Kd.C_drewN ?_ _) | (with_reducible refine Kd.C_drew ?_)));(case side4 => exact (Kd.R_reads' HO124.out).2.1);(case side5 => exact far_slice (IsS79.own_ne HI0.out HO124.out (by decide)));rintro e w51 ⟨rfl, hi, hb, hk⟩;refine ⟨_, rfl, ?_⟩;replace BK101 := m0_ (KeepBut.blk hk (g' := gb101) (o := .cells #[.int .i64 0, .int .i64 0, .int .i64 0, .slice none 0 0] 29 (0, 0)) (by (with_reducible repeat (first | refine qc_ ?_ _ | refine qd_ ?_ | refine qb_ ?_ _));exact BK101.out) NB101_0.out (by simp));replace HO107 := m0_ (Kd.N_mono (Kd.N_keep (Kd.N_mono (ok := fun k_ => (((((w.heap.size ≤ k_)) ∧ (k_ ≠ gb101 ∧ k_ ≠ g)) ∧ k_ ≠ gb109) ∧ some k_ ≠ (.slice Ao50 y122.length co50 : Value).ownBlock)) (by exact HO107.out) (fun k_ hk_ => (⟨hk_, hk_.1.1.2.2⟩ : _ ∧ k_ ≠ g))) hk (fun _ h => h.2)) (fun _ h => h.1));replace BK109 := m0_ (KeepBut.blk hk (g' := gb109) (o := .cells #[.int .i64 t102, .int .i64 t103, .int .i64 t104, .slice Ao46 t105.length co46] 29 (0, 0)) (by (with_reducible repeat (first | refine qc_ ?_ _ | refine qd_ ?_ | refine qb_ ?_ _));exact BK109.out) NB109_0.out (by simp));replace HO124 := m0_ (Kd.R_mono (Kd.R_keep (IsS79.apart (show IsS79 w0 _ g s0_0 t111 from by repeat (first | (with_reducible first | exact HI0.out | apply IsS79.alloc | apply IsS79.drewN | apply IsS79.drew | apply IsS79.set_1 | refine IsS79.far ?_ NB0_101.out _ | refine IsS79.far ?_ NB0_109.out _) | exact HI0.out)) (by exact HO124.out) (by decide)) hk (fun _ h => h.2)) (fun _ h => h.1));replace HK := m0_ (KeepBut.trans (by repeat (first | (with_reducible first | exact HK.out | apply qi_ | apply qm_ | apply qo_ | apply qn_ | refine qr_ ?_ GW101.out _ | refine qr_ ?_ GW109.out _) | exact HK.out)) hk (.inl rfl));replace HB := m0_ (hb);replace HI0 := m0_ (hi);(try clear hb);(try clear hb2);(try clear hk);(try clear hi);obtain ⟨hcz52_0, hcz52_1, hcz52_2, hcz52_3, hfz52_0, hfz52_1, hfz52_2, hfz52_3⟩ := bx4 BK109.out;have hnb53 := NB101_0.out;have hnc53 := NB0_101.out;obtain ⟨hcz54_0, hcz54_1, hcz54_2, hcz54_3, hfz54_0, hfz54_1, hfz54_2, hfz54_3⟩ := bx4 BK101.out))
  refine bodyPost_ret (results_cell_row rfl _ _ gb101 29 #[.int .i64 t102, .int .i64 t103, .int .i64 t125, .slice Ao46 t105.length co46] (0, 0) _ rfl (by (with_reducible repeat (first | refine qc_ ?_ _ | refine qd_ ?_ | refine qb_ ?_ _));refine ql_ (cs := #[.int .i64 t102, .int .i64 t103, .int .i64 t125, .slice none 0 0]) ?_ 3 _ rfl;(with_reducible repeat (first | refine qc_ ?_ _ | refine qd_ ?_ | refine qb_ ?_ _));refine ql_ (cs := #[.int .i64 t102, .int .i64 t103, .int .i64 0, .slice none 0 0]) ?_ 2 _ rfl;(with_reducible repeat (first | refine qc_ ?_ _ | refine qd_ ?_ | refine qb_ ?_ _));refine ql_ (cs := #[.int .i64 t102, .int .i64 0, .int .i64 0, .slice none 0 0]) ?_ 1 _ rfl;(with_reducible repeat (first | refine qc_ ?_ _ | refine qd_ ?_ | refine qb_ ?_ _));refine ql_ (cs := #[.int .i64 0, .int .i64 0, .int .i64 0, .slice none 0 0]) ?_ 0 _ rfl;(with_reducible repeat (first | refine qc_ ?_ _ | refine qd_ ?_ | refine qb_ ?_ _));refine qt_ ?_ NB101_109.out _;(with_reducible repeat (first | refine qc_ ?_ _ | refine qd_ ?_ | refine qb_ ?_ _));exact BK101.out) Tryd.underlying29 rfl (by kernel_rfl)) rfl ?_
  exact ⟨_, by first | rfl | (simp [errW_none, errW_some] <;> rfl) | (simp [*, errW_none, errW_some] <;> rfl), by (with_reducible repeat (first | apply Kd.N_alloc | apply Kd.N_drewN | apply Kd.N_drew));exact Kd.N_mono (Kd.N_far (p := ⟨gb101, 3, none⟩) (Kd.N_far (p := ⟨gb101, 2, none⟩) (Kd.N_far (p := ⟨gb101, 1, none⟩) (Kd.N_far (p := ⟨gb101, 0, none⟩) (Kd.N_far (p := ⟨gb109, 2, none⟩) (Kd.N_mono (Kd.N_mono HO107.out (fun k_ hk => (⟨hk, hk.1.2⟩ : _ ∧ k_ ≠ gb109))) (fun k_ hk => (⟨hk, hk.1.1.1.2.1⟩ : _ ∧ k_ ≠ gb101))) (fun _ hk => hk.1.2) (.int .i64 t125)) (fun _ hk => hk.2) (.int .i64 t102)) (fun _ hk => hk.2) (.int .i64 t103)) (fun _ hk => hk.2) (.int .i64 t125)) (fun _ hk => hk.2) (.slice Ao46 t105.length co46)) (fun _ hk => hk.1.1.1.1.1), by repeat (first | (with_reducible first | exact HI0.out | apply IsS79.alloc | apply IsS79.drewN | apply IsS79.drew | apply IsS79.set_1 | refine IsS79.far ?_ NB0_101.out _ | refine IsS79.far ?_ NB0_109.out _) | exact HI0.out), by repeat (first | (with_reducible first | exact HB.out | apply qg_ | apply qa_ | apply qf_ | refine qe_ ?_ (IsS79.ge HI0.out) | refine qe_ ?_ GE101.out | refine qe_ ?_ GE109.out) | exact HB.out), by repeat (first | (with_reducible first | exact HK.out | apply qi_ | apply qm_ | apply qo_ | apply qn_ | refine qr_ ?_ GW101.out _ | refine qr_ ?_ GW109.out _) | exact HK.out)⟩
 rw [if_neg c38] at H
 have c38b0 : (t110 == 2) = false := beq_eq_false_iff_ne.mpr c38
 have c38b1 : (t110 != 2) = true := bne_iff_ne.mpr c38
 by_cases c55 : t110 = 3
 ·rw [if_pos c55] at H
  have c55b0 : (t110 == 3) = true := beq_iff_eq.mpr c55
  have c55b1 : (t110 != 3) = false := bne_eq_false_iff_eq.mpr c55
  clear c55
  have H' := m0_ H
  clear H
  go_enter Tryd.func32, Tryd.ntmps32
  go_wp2_with (first | ((with_reducible refine gate_dst (N := 2) rfl ?_);refine qs_ ?hg (N := 2) ?hd (cs := #[.int .i64 0, .int .i64 0, .int .i64 0, .slice none 0 0]) (t := 29) ?hr ?_;(case hd => rfl);(case hg => rfl);(case hr => first | (go_simp;done) | (go_simp;rfl));intro gb101 hg w56 hbox hb;replace HB := m0_ (qj_ (by repeat (first | (with_reducible first | exact HB.out | apply qg_ | apply qa_ | apply qf_ | refine qe_ ?_ (IsS79.ge HI0.out)) | exact HB.out)) hb);have BK101 := m0_ (hbox);have GW101 := m0_ ((by rw [hg];exact (keep_size (w := w) (g := g) (row := none) (by repeat (first | (with_reducible first | exact HK.out | apply qi_ | apply qm_ | apply qo_ | apply qn_) | exact HK.out))) : w.heap.size ≤ gb101));have GE101 := m0_ ((Nat.le_trans HW0.out (by rw [hg];exact (keep_size (w := w) (g := g) (row := none) (by repeat (first | (with_reducible first | exact HK.out | apply qi_ | apply qm_ | apply qo_ | apply qn_) | exact HK.out))) : w.heap.size ≤ gb101) : w0.heap.size ≤ gb101));replace HK := m0_ (KeepBut.trans (by repeat (first | (with_reducible first | exact HK.out | apply qi_ | apply qm_ | apply qo_ | apply qn_) | exact HK.out)) (KeepBut.of_below hb g none) (.inl rfl));have NB0_101 := m0_ ((by rw [hg];exact qv_ (IsS79.lt (show IsS79 w0 _ g s0_0 s0_1 from by repeat (first | (with_reducible first | exact HI0.out | apply IsS79.alloc | apply IsS79.drewN | apply IsS79.drew | apply IsS79.set_1) | exact HI0.out))) : g ≠ gb101));have NB101_0 := m0_ ((by rw [hg];exact qx_ (IsS79.lt (show IsS79 w0 _ g s0_0 s0_1 from by repeat (first | (with_reducible first | exact HI0.out | apply IsS79.alloc | apply IsS79.drewN | apply IsS79.drew | apply IsS79.set_1) | exact HI0.out))) : gb101 ≠ g));replace HI0 := m0_ (IsS79.below (by repeat (first | (with_reducible first | exact HI0.out | apply IsS79.alloc | apply IsS79.drewN | apply IsS79.drew | apply IsS79.set_1) | exact HI0.out)) hb);clear hb hbox hg) | ((with_reducible refine gate_callee (f := 55) rfl ?_);refine goesL_ (some 7) rfl rfl Tryd.func55 (by kernel_rfl) rfl #[.pointer (some ⟨g, 0, none⟩)] rfl (by (try simp only [List.map_toArray, List.map_cons, List.map_nil]);first | done | rfl | (simp only [List.length_drop, List.length_take];rfl)) ?_;(with_reducible refine (spec_l2Some.calls k g s0_0 s0_1 t102 t103 t104 t105 t108 w0 _ ?side1 ?side2 A2.out).mono ?_);(case side1 => repeat (first | (with_reducible first | exact HI0.out | apply IsS79.alloc | apply IsS79.drewN | apply IsS79.drew | apply IsS79.set_1 | refine IsS79.far ?_ NB0_101.out _) | exact HI0.out));(case side2 => repeat (first | (with_reducible first | exact HB.out | apply qg_ | apply qa_ | apply qf_ | refine qe_ ?_ (IsS79.ge HI0.out) | refine qe_ ?_ GE101.out) | exact HB.out));rintro e w57 ⟨v106, rfl, ho0, hi, hb, hk⟩;refine ⟨_, rfl, ?_⟩;have HO107 := m0_ (Kd.N_lower (Kd.N_mono (ok' := fun k_ => (w.heap.size ≤ k_) ∧ k_ ≠ gb101 ∧ k_ ≠ g) (Kd.R_N (Kd.R_bound ho0)) (fun k_ hk_ => ⟨(Nat.le_trans (keep_size (w := w) (g := g) (row := none) (by repeat (first | (with_reducible first | exact HK.out | apply qi_ | apply qm_ | apply qo_ | apply qn_ | refine qr_ ?_ GW101.out _) | exact HK.out))) hk_.2.1), (Kd.freshB BK101.out k_ hk_.2.1), (IsS79.fresh (by repeat (first | (with_reducible first | exact HI0.out | apply IsS79.alloc | apply IsS79.drewN | apply IsS79.drew | apply IsS79.set_1 | refine IsS79.far ?_ NB0_101.out _) | exact HI0.out)) k_ hk_.2.1)⟩)) (keep_size (w := w) (g := g) (row := none) (by repeat (first | (with_reducible first | exact HK.out | apply qi_ | apply qm_ | apply qo_ | apply qn_ | refine qr_ ?_ GW101.out _) | exact HK.out))));replace BK101 := m0_ (KeepBut.blk hk (g' := gb101) (o := .cells #[.int .i64 0, .int .i64 0, .int .i64 0, .slice none 0 0] 29 (0, 0)) (by (with_reducible repeat (first | refine qc_ ?_ _ | refine qd_ ?_ | refine qb_ ?_ _));exact BK101.out) NB101_0.out (by simp));replace HK := m0_ (KeepBut.trans (by repeat (first | (with_reducible first | exact HK.out | apply qi_ | apply qm_ | apply qo_ | apply qn_ | refine qr_ ?_ GW101.out _) | exact HK.out)) hk (.inl rfl));replace HB := m0_ (hb);replace HI0 := m0_ (hi);(try clear hb);(try clear hb2);(try clear hk);(try clear hi);(try clear ho0)) | ((with_reducible refine gate_dst (N := 3) rfl ?_);refine qs_ ?hg (N := 3) ?hd (cs := #[.int .i64 0, .int .i64 0, .int .i64 0, .slice none 0 0]) (t := 29) ?hr ?_;(case hd => rfl);(case hg => rfl);(case hr => first | (go_simp;done) | (go_simp;rfl));intro gb109 hg w58 hbox hb;replace HO107 := m0_ (Kd.N_below (Kd.N_elderB (by exact HO107.out) gb109 (Nat.le_of_eq hg.symm)) hb);replace HB := m0_ (qj_ (by repeat (first | (with_reducible first | exact HB.out | apply qg_ | apply qa_ | apply qf_ | refine qe_ ?_ (IsS79.ge HI0.out) | refine qe_ ?_ GE101.out) | exact HB.out)) hb);have BK109 := m0_ (hbox);have GW109 := m0_ ((by rw [hg];exact (keep_size (w := w) (g := g) (row := none) (by repeat (first | (with_reducible first | exact HK.out | apply qi_ | apply qm_ | apply qo_ | apply qn_ | refine qr_ ?_ GW101.out _) | exact HK.out))) : w.heap.size ≤ gb109));have GE109 := m0_ ((Nat.le_trans HW0.out (by rw [hg];exact (keep_size (w := w) (g := g) (row := none) (by repeat (first | (with_reducible first | exact HK.out | apply qi_ | apply qm_ | apply qo_ | apply qn_ | refine qr_ ?_ GW101.out _) | exact HK.out))) : w.heap.size ≤ gb109) : w0.heap.size ≤ gb109));replace HK := m0_ (KeepBut.trans (by repeat (first | (with_reducible first | exact HK.out | apply qi_ | apply qm_ | apply qo_ | apply qn_ | refine qr_ ?_ GW101.out _) | exact HK.out)) (KeepBut.of_below hb g none) (.inl rfl));have NB101_109 := m0_ ((by rw [hg];exact qv_ (blk_lt BK101.out) : gb101 ≠ gb109));have NB109_101 := m0_ ((by rw [hg];exact qx_ (blk_lt BK101.out) : gb109 ≠ gb101));replace BK101 := m0_ (qk_ BK101.out hb);have NB0_109 := m0_ ((by rw [hg];exact qv_ (IsS79.lt (show IsS79 w0 _ g s0_0 t108 from by repeat (first | (with_reducible first | exact HI0.out | apply IsS79.alloc | apply IsS79.drewN | apply IsS79.drew | apply IsS79.set_1 | refine IsS79.far ?_ NB0_101.out _) | exact HI0.out))) : g ≠ gb109));have NB109_0 := m0_ ((by rw [hg];exact qx_ (IsS79.lt (show IsS79 w0 _ g s0_0 t108 from by repeat (first | (with_reducible first | exact HI0.out | apply IsS79.alloc | apply IsS79.drewN | apply IsS79.drew | apply IsS79.set_1 | refine IsS79.far ?_ NB0_101.out _) | exact HI0.out))) : gb109 ≠ g));replace HI0 := m0_ (IsS79.below (by repeat (first | (with_reducible first | exact HI0.out | apply IsS79.alloc | apply IsS79.drewN | apply IsS79.drew | apply IsS79.set_1 | refine IsS79.far ?_ NB0_101.out _) | exact HI0.out)) hb);clear hb hbox hg;have hnb59 := NB109_101.out;have hnc59 := NB101_109.out;have hnb60 := NB109_0.out;have hnc60 := NB0_109.out;obtain ⟨hcz61_0, hcz61_1, hcz61_2, hcz61_3, hfz61_0, hfz61_1, hfz61_2, hfz61_3⟩ := bx4 BK109.out;obtain ⟨Ao62, co62, eo62⟩ := Kd.N_slice HO107.out;subst eo62) | ((with_reducible refine gate_callee (f := 48) rfl ?_);refine goesL_ (some 9) rfl rfl Tryd.func48 (by kernel_rfl) rfl #[.pointer (some ⟨g, 0, none⟩), .int .i64 60] rfl (by (try simp only [List.map_toArray, List.map_cons, List.map_nil]);first | done | rfl | (simp only [List.length_drop, List.length_take];rfl)) ?_;(with_reducible refine (spec_l14Rd_pick.calls k g s0_0 t108 60 t110 t111 w0 _ ?side1 ?side2 A3.out).mono ?_);(case side1 => repeat (first | (with_reducible first | exact HI0.out | apply IsS79.alloc | apply IsS79.drewN | apply IsS79.drew | apply IsS79.set_1 | refine IsS79.far ?_ NB0_101.out _ | refine IsS79.far ?_ NB0_109.out _) | exact HI0.out));(case side2 => repeat (first | (with_reducible first | exact HB.out | apply qg_ | apply qa_ | apply qf_ | refine qe_ ?_ (IsS79.ge HI0.out) | refine qe_ ?_ GE101.out | refine qe_ ?_ GE109.out) | exact HB.out));rintro e w63 ⟨rfl, hi, hb, hk⟩;refine ⟨_, rfl, ?_⟩;replace BK101 := m0_ (KeepBut.blk hk (g' := gb101) (o := .cells #[.int .i64 0, .int .i64 0, .int .i64 0, .slice none 0 0] 29 (0, 0)) (by (with_reducible repeat (first | refine qc_ ?_ _ | refine qd_ ?_ | refine qb_ ?_ _));refine qt_ ?_ NB101_109.out _;(with_reducible repeat (first | refine qc_ ?_ _ | refine qd_ ?_ | refine qb_ ?_ _));refine qt_ ?_ NB101_109.out _;(with_reducible repeat (first | refine qc_ ?_ _ | refine qd_ ?_ | refine qb_ ?_ _));refine qt_ ?_ NB101_109.out _;(with_reducible repeat (first | refine qc_ ?_ _ | refine qd_ ?_ | refine qb_ ?_ _));refine qt_ ?_ NB101_109.out _;(with_reducible repeat (first | refine qc_ ?_ _ | refine qd_ ?_ | refine qb_ ?_ _));exact BK101.out) NB101_0.out (by simp));replace HO107 := m0_ (Kd.N_mono (Kd.N_keep (Kd.N_mono (ok := fun k_ => ((((w.heap.size ≤ k_)) ∧ (k_ ≠ gb101 ∧ k_ ≠ g)) ∧ k_ ≠ gb109)) (by (with_reducible repeat (first | apply Kd.N_alloc | apply Kd.N_drewN | apply Kd.N_drew));exact (Kd.N_mono (Kd.N_far (p := ⟨gb109, 3, none⟩) (Kd.N_far (p := ⟨gb109, 2, none⟩) (Kd.N_far (p := ⟨gb109, 1, none⟩) (Kd.N_far (p := ⟨gb109, 0, none⟩) (Kd.N_mono HO107.out (fun k_ hk => (⟨hk, hk.2⟩ : _ ∧ k_ ≠ gb109))) (fun _ hk => hk.2) (.int .i64 t102)) (fun _ hk => hk.2) (.int .i64 t103)) (fun _ hk => hk.2) (.int .i64 t104)) (fun _ hk => hk.2) (.slice Ao62 t105.length co62)) (fun _ h_ => h_.1))) (fun k_ hk_ => (⟨hk_, hk_.1.2.2⟩ : _ ∧ k_ ≠ g))) hk (fun _ h => h.2)) (fun _ h => h.1));replace BK109 := m0_ (KeepBut.blk hk (g' := gb109) (o := .cells #[.int .i64 t102, .int .i64 t103, .int .i64 t104, .slice Ao62 t105.length co62] 29 (0, 0)) (by (with_reducible repeat (first | refine qc_ ?_ _ | refine qd_ ?_ | refine qb_ ?_ _));refine ql_ (cs := #[.int .i64 t102, .int .i64 t103, .int .i64 t104, .slice none 0 0]) ?_ 3 _ rfl;(with_reducible repeat (first | refine qc_ ?_ _ | refine qd_ ?_ | refine qb_ ?_ _));refine ql_ (cs := #[.int .i64 t102, .int .i64 t103, .int .i64 0, .slice none 0 0]) ?_ 2 _ rfl;(with_reducible repeat (first | refine qc_ ?_ _ | refine qd_ ?_ | refine qb_ ?_ _));refine ql_ (cs := #[.int .i64 t102, .int .i64 0, .int .i64 0, .slice none 0 0]) ?_ 1 _ rfl;(with_reducible repeat (first | refine qc_ ?_ _ | refine qd_ ?_ | refine qb_ ?_ _));refine ql_ (cs := #[.int .i64 0, .int .i64 0, .int .i64 0, .slice none 0 0]) ?_ 0 _ rfl;(with_reducible repeat (first | refine qc_ ?_ _ | refine qd_ ?_ | refine qb_ ?_ _));exact BK109.out) NB109_0.out (by simp));replace HK := m0_ (KeepBut.trans (by repeat (first | (with_reducible first | exact HK.out | apply qi_ | apply qm_ | apply qo_ | apply qn_ | refine qr_ ?_ GW101.out _ | refine qr_ ?_ GW109.out _) | exact HK.out)) hk (.inl rfl));replace HB := m0_ (hb);replace HI0 := m0_ (hi);(try clear hb);(try clear hb2);(try clear hk);(try clear hi)))
  go_loopg [4] k (fun kq v4 w' => ∃ (x4_1 : Int) (x110000_1 : Int) (x110001_1 : Int) (x110002_1 : Int) (x110003_1 : List (S29)) (u110003 : Value), v4 = .int .i64 x4_1 ∧ Aside0 (spec_l2Bent.l0 kq x4_1 s0_0 t111 x110000_1 x110001_1 x110002_1 x110003_1 = some (r1, r2, r3, r4, r5)) ∧ Aside0 (kq ≤ k) ∧ Aside0 (Kd.N k29 29 w' w.heap.size (fun k_ => (w.heap.size ≤ k_) ∧ k_ ≠ gb101 ∧ k_ ≠ gb109 ∧ k_ ≠ g) u110003 x110003_1) ∧ Aside0 (w'.heap[gb101]? = some (.cells #[.int .i64 0, .int .i64 0, .int .i64 0, (.slice none 0 0)] 29 (0, 0))) ∧ Aside0 (w'.heap[gb109]? = some (.cells #[.int .i64 x110000_1, .int .i64 x110001_1, .int .i64 x110002_1, u110003] 29 (0, 0))) ∧ Aside0 (IsS79 w0 w' g s0_0 t111) ∧ Aside0 (KeepBut w w' g none) ∧ Aside0 (Below w0.heap.size w0 w'))
  case atStart => exact ⟨(0), (t102), (t103), (t104), (t105), (.slice Ao62 t105.length co62), (by first | rfl | (simp;done) | (simp [*];done)), H', ⟨Nat.le_refl _⟩, ⟨by (with_reducible repeat (first | apply Kd.N_alloc | apply Kd.N_drewN | apply Kd.N_drew));exact Kd.N_mono HO107.out (fun _ hk => ⟨hk.1.1, ⟨hk.1.2.1, ⟨hk.2, hk.1.2.2⟩⟩⟩)⟩, ⟨by (with_reducible repeat (first | refine qc_ ?_ _ | refine qd_ ?_ | refine qb_ ?_ _));exact BK101.out⟩, ⟨by (with_reducible repeat (first | refine qc_ ?_ _ | refine qd_ ?_ | refine qb_ ?_ _));exact BK109.out⟩, ⟨by repeat (first | (with_reducible first | exact HI0.out | apply IsS79.alloc | apply IsS79.drewN | apply IsS79.drew | apply IsS79.set_1 | refine IsS79.far ?_ NB0_101.out _ | refine IsS79.far ?_ NB0_109.out _) | exact HI0.out)⟩, ⟨by repeat (first | (with_reducible first | exact HK.out | apply qi_ | apply qm_ | apply qo_ | apply qn_ | refine qr_ ?_ GW101.out _ | refine qr_ ?_ GW109.out _) | exact HK.out)⟩, ⟨by repeat (first | (with_reducible first | exact HB.out | apply qg_ | apply qa_ | apply qf_ | refine qe_ ?_ (IsS79.ge HI0.out) | refine qe_ ?_ GE101.out | refine qe_ ?_ GE109.out) | exact HB.out)⟩⟩
  case round =>
   clear H'
   try clear c1
   try clear c2
   try clear p2
   try clear c3
   try clear c4
   try clear c4b0
   try clear c4b1
   try clear c5
   try clear c6
   try clear c9
   try clear c10
   try clear c19
   try clear c21
   try clear c21b0
   try clear c21b1
   try clear c26
   try clear c27
   try clear c32
   try clear c36
   try clear c38
   try clear c38b0
   try clear c38b1
   try clear c43
   try clear c44
   try clear c48
   try clear c53
   try clear c55
   try clear c55b0
   try clear c55b1
   try clear c56
   try clear c59
   try clear c60
   try clear hcz11_0
   try clear hcz11_1
   try clear hcz11_2
   try clear hcz11_3
   try clear hcz18_0
   try clear hcz18_1
   try clear hcz18_2
   try clear hcz18_3
   try clear hcz20_0
   try clear hcz20_1
   try clear hcz20_2
   try clear hcz20_3
   try clear hcz28_0
   try clear hcz28_1
   try clear hcz28_2
   try clear hcz28_3
   try clear hcz35_0
   try clear hcz35_1
   try clear hcz35_2
   try clear hcz35_3
   try clear hcz37_0
   try clear hcz37_1
   try clear hcz37_2
   try clear hcz37_3
   try clear hcz45_0
   try clear hcz45_1
   try clear hcz45_2
   try clear hcz45_3
   try clear hcz52_0
   try clear hcz52_1
   try clear hcz52_2
   try clear hcz52_3
   try clear hcz54_0
   try clear hcz54_1
   try clear hcz54_2
   try clear hcz54_3
   try clear hcz61_0
   try clear hcz61_1
   try clear hcz61_2
   try clear hcz61_3
   try clear hfz11_0
   try clear hfz11_1
   try clear hfz11_2
   try clear hfz11_3
   try clear hfz18_0
   try clear hfz18_1
   try clear hfz18_2
   try clear hfz18_3
   try clear hfz20_0
   try clear hfz20_1
   try clear hfz20_2
   try clear hfz20_3
   try clear hfz28_0
   try clear hfz28_1
   try clear hfz28_2
   try clear hfz28_3
   try clear hfz35_0
   try clear hfz35_1
   try clear hfz35_2
   try clear hfz35_3
   try clear hfz37_0
   try clear hfz37_1
   try clear hfz37_2
   try clear hfz37_3
   try clear hfz45_0
   try clear hfz45_1
   try clear hfz45_2
   try clear hfz45_3
   try clear hfz52_0
   try clear hfz52_1
   try clear hfz52_2
   try clear hfz52_3
   try clear hfz54_0
   try clear hfz54_1
   try clear hfz54_2
   try clear hfz54_3
   try clear hfz61_0
   try clear hfz61_1
   try clear hfz61_2
   try clear hfz61_3
   obtain ⟨x4_1, x110000_1, x110001_1, x110002_1, x110003_1, u110003, rfl, HA, HK1, HO_110003, BK101, BK109, HI0, HK, HB⟩ := hrel
   cases gk with
   | zero => exact absurd HA.out (by simp [spec_l2Bent.l0])
   | succ k1 =>
    have H := HA.out
    clear HA
    simp only [spec_l2Bent.l0] at H
    by_cases c64 : x4_1 < 5
    rotate_left
    ·rw [if_neg c64] at H
     have c64b0 : decide (x4_1 < 5) = false := decide_eq_false c64
     clear c64
     simp only [Option.some.injEq, Prod.mk.injEq] at H
     obtain ⟨rfl, rfl, rfl, rfl, rfl⟩ := H
     have hnb73 := NB109_101.out
     have hnc73 := NB101_109.out
     have hnb74 := NB109_0.out
     have hnc74 := NB0_109.out
     obtain ⟨hcz75_0, hcz75_1, hcz75_2, hcz75_3, hfz75_0, hfz75_1, hfz75_2, hfz75_3⟩ := bx4 BK109.out
     have hnb76 := NB101_0.out
     have hnc76 := NB0_101.out
     obtain ⟨hcz77_0, hcz77_1, hcz77_2, hcz77_3, hfz77_0, hfz77_1, hfz77_2, hfz77_3⟩ := bx4 BK101.out
     obtain ⟨Ao78, co78, eo78⟩ := Kd.N_slice HO_110003.out
     subst eo78
     go_wp2
     refine bodyPost_ret (results_cell_row rfl _ _ gb101 29 #[.int .i64 x110000_1, .int .i64 x110001_1, .int .i64 x110002_1, .slice Ao78 x110003_1.length co78] (0, 0) _ rfl (by (with_reducible repeat (first | refine qc_ ?_ _ | refine qd_ ?_ | refine qb_ ?_ _));refine ql_ (cs := #[.int .i64 x110000_1, .int .i64 x110001_1, .int .i64 x110002_1, .slice none 0 0]) ?_ 3 _ rfl;(with_reducible repeat (first | refine qc_ ?_ _ | refine qd_ ?_ | refine qb_ ?_ _));refine ql_ (cs := #[.int .i64 x110000_1, .int .i64 x110001_1, .int .i64 0, .slice none 0 0]) ?_ 2 _ rfl;(with_reducible repeat (first | refine qc_ ?_ _ | refine qd_ ?_ | refine qb_ ?_ _));refine ql_ (cs := #[.int .i64 x110000_1, .int .i64 0, .int .i64 0, .slice none 0 0]) ?_ 1 _ rfl;(with_reducible repeat (first | refine qc_ ?_ _ | refine qd_ ?_ | refine qb_ ?_ _));refine ql_ (cs := #[.int .i64 0, .int .i64 0, .int .i64 0, .slice none 0 0]) ?_ 0 _ rfl;(with_reducible repeat (first | refine qc_ ?_ _ | refine qd_ ?_ | refine qb_ ?_ _));exact BK101.out) Tryd.underlying29 rfl (by kernel_rfl)) rfl ?_
     exact ⟨_, by first | rfl | (simp [errW_none, errW_some] <;> rfl) | (simp [*, errW_none, errW_some] <;> rfl), by (with_reducible repeat (first | apply Kd.N_alloc | apply Kd.N_drewN | apply Kd.N_drew));exact Kd.N_mono (Kd.N_far (p := ⟨gb101, 3, none⟩) (Kd.N_far (p := ⟨gb101, 2, none⟩) (Kd.N_far (p := ⟨gb101, 1, none⟩) (Kd.N_far (p := ⟨gb101, 0, none⟩) (Kd.N_mono HO_110003.out (fun k_ hk => (⟨hk, hk.2.1⟩ : _ ∧ k_ ≠ gb101))) (fun _ hk => hk.2) (.int .i64 x110000_1)) (fun _ hk => hk.2) (.int .i64 x110001_1)) (fun _ hk => hk.2) (.int .i64 x110002_1)) (fun _ hk => hk.2) (.slice Ao78 x110003_1.length co78)) (fun _ hk => hk.1.1), by repeat (first | (with_reducible first | exact HI0.out | apply IsS79.alloc | apply IsS79.drewN | apply IsS79.drew | apply IsS79.set_1 | refine IsS79.far ?_ NB0_101.out _ | refine IsS79.far ?_ NB0_109.out _) | exact HI0.out), by repeat (first | (with_reducible first | exact HB.out | apply qg_ | apply qa_ | apply qf_ | refine qe_ ?_ (IsS79.ge HI0.out) | refine qe_ ?_ GE101.out | refine qe_ ?_ GE109.out) | exact HB.out), by repeat (first | (with_reducible first | exact HK.out | apply qi_ | apply qm_ | apply qo_ | apply qn_ | refine qr_ ?_ GW101.out _ | refine qr_ ?_ GW109.out _) | exact HK.out)⟩
    rw [if_pos c64] at H
    have c64b0 : decide (x4_1 < 5) = true := decide_eq_true c64
    clear c64
    obtain ⟨y127, hy127⟩ : ∃ y_ : List (S29), y_ = (([(⟨x110000_1, x110001_1, x110002_1, x110003_1⟩ : S29)] : List (S29))) := ⟨_, rfl⟩
    replace H : (spec_l2Bent.l0 k1 (wrap64 (x4_1 + 1)) s0_0 t111 7 0 1 y127) = some (r1, r2, r3, r4, r5) := by first | (rw [hy127];with_reducible exact H) | (have H2_ := (Option.bind_some _ _).symm.trans H;rw [hy127];with_reducible exact H2_) | (have H2_ := (Option.bind_some _ _).symm.trans H;with_reducible exact H2_) | with_reducible exact H | (rw [hy127];exact H) | exact H
    have Ny127 := m0_ hy127
    clear hy127
    have H' := m0_ H
    clear H
    have hnb65 := NB109_101.out
    have hnc65 := NB101_109.out
    have hnb66 := NB109_0.out
    have hnc66 := NB0_109.out
    obtain ⟨hcz67_0, hcz67_1, hcz67_2, hcz67_3, hfz67_0, hfz67_1, hfz67_2, hfz67_3⟩ := bx4 BK109.out
    obtain ⟨Ao68, co68, eo68⟩ := Kd.N_slice HO_110003.out
    subst eo68
    go_wp2_with (first | ((with_reducible refine gate_dst (N := 35) rfl ?_);refine Kd.N_lit k29 _ 29 ?hg (N' := 35) ?hd (xs := ([(⟨x110000_1, x110001_1, x110002_1, x110003_1⟩ : S29)] : List (S29))) (inner := [.int .i64 x110000_1, .int .i64 x110001_1, .int .i64 x110002_1, .slice Ao68 x110003_1.length co68]) (ok := (fun k_ => (w.heap.size ≤ k_) ∧ k_ ≠ gb101 ∧ k_ ≠ gb109 ∧ k_ ≠ g)) (okp := (fun k_ => (w.heap.size ≤ k_) ∧ k_ ≠ gb101 ∧ k_ ≠ gb109 ∧ k_ ≠ g)) ?hr ?hp (fun _ hk => hk) ((show ∀ k_, wr.heap.size ≤ k_ → (fun k_ => (w.heap.size ≤ k_) ∧ k_ ≠ gb101 ∧ k_ ≠ gb109 ∧ k_ ≠ g) k_ from fun k_ hk => ⟨(Nat.le_trans (keep_size (w := w) (g := g) (row := none) (by repeat (first | (with_reducible first | exact HK.out | apply qi_ | apply qm_ | apply qo_ | apply qn_ | refine qr_ ?_ GW101.out _ | refine qr_ ?_ GW109.out _) | exact HK.out))) hk), Kd.freshB BK101.out k_ hk, Kd.freshB BK109.out k_ hk, IsS79.fresh (by repeat (first | (with_reducible first | exact HI0.out | apply IsS79.alloc | apply IsS79.drewN | apply IsS79.drew | apply IsS79.set_1 | refine IsS79.far ?_ NB0_101.out _ | refine IsS79.far ?_ NB0_109.out _) | exact HI0.out)) k_ hk⟩) _ (Nat.le_refl _)) (Below.refl _ _) (Nat.le_refl _) (by simp) ?_;(case hd => rfl);(case hg => rfl);(case hr => first | (go_simp;done) | (go_simp;rfl));(case hp => exact (Reps.c4 (show Kd.FK k29 _ _ (⟨x110000_1, x110001_1, x110002_1, x110003_1⟩ : S29) [.int .i64 x110000_1, .int .i64 x110001_1, .int .i64 x110002_1, .slice Ao68 x110003_1.length co68] from (k29_mkF _ _ (⟨x110000_1, x110001_1, x110002_1, x110003_1⟩ : S29) (Kd.N_reads' (Kd.N_mono (ok' := (fun k_ => (w.heap.size ≤ k_) ∧ k_ ≠ gb101 ∧ k_ ≠ gb109 ∧ k_ ≠ g)) (HO_110003.out) (fun k_ hk => ⟨hk.1, ⟨hk.2.1, ⟨hk.2.2.1, hk.2.2.2⟩⟩⟩))).2.1 (Kd.N_F (Kd.N_mono (ok' := (fun k_ => (w.heap.size ≤ k_) ∧ k_ ≠ gb101 ∧ k_ ≠ gb109 ∧ k_ ≠ g)) (HO_110003.out) (fun k_ hk => ⟨hk.1, ⟨hk.2.1, ⟨hk.2.2.1, hk.2.2.2⟩⟩⟩))))) (Reps.none _ _)));intro v128 w69 ho70 hb hg_ hnew_;clear hg_ hnew_;(first | rw [← Ny127.out] at ho70 | (simp only [Int.reduceToNat] at ho70;rw [← Ny127.out] at ho70));have n0_ := m0_ (Kd.N_lower ho70 (keep_size (w := w) (g := g) (row := none) (by repeat (first | (with_reducible first | exact HK.out | apply qi_ | apply qm_ | apply qo_ | apply qn_ | refine qr_ ?_ GW101.out _ | refine qr_ ?_ GW109.out _) | exact HK.out))));have n1_ := m0_ (qk_ BK101.out hb);have n2_ := m0_ (qk_ BK109.out hb);have n3_ := m0_ (IsS79.below (by repeat (first | (with_reducible first | exact HI0.out | apply IsS79.alloc | apply IsS79.drewN | apply IsS79.drew | apply IsS79.set_1 | refine IsS79.far ?_ NB0_101.out _ | refine IsS79.far ?_ NB0_109.out _) | exact HI0.out)) hb);have n4_ := m0_ (KeepBut.trans (by repeat (first | (with_reducible first | exact HK.out | apply qi_ | apply qm_ | apply qo_ | apply qn_ | refine qr_ ?_ GW101.out _ | refine qr_ ?_ GW109.out _) | exact HK.out)) (KeepBut.of_below hb g none) (.inl rfl));have n5_ := m0_ (qj_ (by repeat (first | (with_reducible first | exact HB.out | apply qg_ | apply qa_ | apply qf_ | refine qe_ ?_ (IsS79.ge HI0.out) | refine qe_ ?_ GE101.out | refine qe_ ?_ GE109.out) | exact HB.out)) hb);clear BK101;clear BK109;clear HI0;clear HK;clear HB;clear HO_110003;have HO129 := n0_;have BK101 := n1_;have BK109 := n2_;have HI0 := n3_;have HK := n4_;have HB := n5_;clear n0_ n1_ n2_ n3_ n4_ n5_;clear hb ho70;obtain ⟨Ao71, co71, eo71⟩ := Kd.N_slice HO129.out;subst eo71;obtain ⟨hcz72_0, hcz72_1, hcz72_2, hcz72_3, hfz72_0, hfz72_1, hfz72_2, hfz72_3⟩ := bx4 BK109.out))
    go_roundg k1
    case measure => have := HK1.out;omega
    case rel => exact ⟨(wrap64 (x4_1 + 1)), (7), (0), (1), (y127), (.slice Ao71 y127.length co71), (by first | rfl | (simp;done) | (simp [*];done)), H', ⟨by have := HK1.out;omega⟩, ⟨by (with_reducible repeat (first | apply Kd.N_alloc | apply Kd.N_drewN | apply Kd.N_drew));exact Kd.N_mono (Kd.N_far (p := ⟨gb109, 3, none⟩) (Kd.N_far (p := ⟨gb109, 2, none⟩) (Kd.N_far (p := ⟨gb109, 1, none⟩) (Kd.N_far (p := ⟨gb109, 0, none⟩) (Kd.N_mono HO129.out (fun k_ hk => (⟨hk, hk.2.2.1⟩ : _ ∧ k_ ≠ gb109))) (fun _ hk => hk.2) (.int .i64 7)) (fun _ hk => hk.2) (.int .i64 0)) (fun _ hk => hk.2) (.int .i64 1)) (fun _ hk => hk.2) (.slice Ao71 y127.length co71)) (fun _ hk => ⟨hk.1.1, ⟨hk.1.2.1, ⟨hk.1.2.2.1, hk.1.2.2.2⟩⟩⟩)⟩, ⟨by (with_reducible repeat (first | refine qc_ ?_ _ | refine qd_ ?_ | refine qb_ ?_ _));refine qt_ ?_ NB101_109.out _;(with_reducible repeat (first | refine qc_ ?_ _ | refine qd_ ?_ | refine qb_ ?_ _));refine qt_ ?_ NB101_109.out _;(with_reducible repeat (first | refine qc_ ?_ _ | refine qd_ ?_ | refine qb_ ?_ _));refine qt_ ?_ NB101_109.out _;(with_reducible repeat (first | refine qc_ ?_ _ | refine qd_ ?_ | refine qb_ ?_ _));refine qt_ ?_ NB101_109.out _;(with_reducible repeat (first | refine qc_ ?_ _ | refine qd_ ?_ | refine qb_ ?_ _));exact BK101.out⟩, ⟨by (with_reducible repeat (first | refine qc_ ?_ _ | refine qd_ ?_ | refine qb_ ?_ _));refine ql_ (cs := #[.int .i64 7, .int .i64 0, .int .i64 1, .slice Ao68 x110003_1.length co68]) ?_ 3 _ rfl;(with_reducible repeat (first | refine qc_ ?_ _ | refine qd_ ?_ | refine qb_ ?_ _));refine ql_ (cs := #[.int .i64 7, .int .i64 0, .int .i64 x110002_1, .slice Ao68 x110003_1.length co68]) ?_ 2 _ rfl;(with_reducible repeat (first | refine qc_ ?_ _ | refine qd_ ?_ | refine qb_ ?_ _));refine ql_ (cs := #[.int .i64 7, .int .i64 x110001_1, .int .i64 x110002_1, .slice Ao68 x110003_1.length co68]) ?_ 1 _ rfl;(with_reducible repeat (first | refine qc_ ?_ _ | refine qd_ ?_ | refine qb_ ?_ _));refine ql_ (cs := #[.int .i64 x110000_1, .int .i64 x110001_1, .int .i64 x110002_1, .slice Ao68 x110003_1.length co68]) ?_ 0 _ rfl;(with_reducible repeat (first | refine qc_ ?_ _ | refine qd_ ?_ | refine qb_ ?_ _));exact BK109.out⟩, ⟨by repeat (first | (with_reducible first | exact HI0.out | apply IsS79.alloc | apply IsS79.drewN | apply IsS79.drew | apply IsS79.set_1 | refine IsS79.far ?_ NB0_101.out _ | refine IsS79.far ?_ NB0_109.out _) | exact HI0.out)⟩, ⟨by repeat (first | (with_reducible first | exact HK.out | apply qi_ | apply qm_ | apply qo_ | apply qn_ | refine qr_ ?_ GW101.out _ | refine qr_ ?_ GW109.out _) | exact HK.out)⟩, ⟨by repeat (first | (with_reducible first | exact HB.out | apply qg_ | apply qa_ | apply qf_ | refine qe_ ?_ (IsS79.ge HI0.out) | refine qe_ ?_ GE101.out | refine qe_ ?_ GE109.out) | exact HB.out)⟩⟩
 rw [if_neg c55] at H
 have c55b0 : (t110 == 3) = false := beq_eq_false_iff_ne.mpr c55
 have c55b1 : (t110 != 3) = true := bne_iff_ne.mpr c55
 by_cases c79 : t110 = 4
 rotate_left
 ·rw [if_neg c79] at H
  have c79b0 : (t110 == 4) = false := beq_eq_false_iff_ne.mpr c79
  have c79b1 : (t110 != 4) = true := bne_iff_ne.mpr c79
  simp only [Option.some.injEq, Prod.mk.injEq] at H
  obtain ⟨rfl, rfl, rfl, rfl, rfl⟩ := H
  go_enter Tryd.func32, Tryd.ntmps32
  go_wp2_with (first | ((with_reducible refine gate_dst (N := 2) rfl ?_);refine qs_ ?hg (N := 2) ?hd (cs := #[.int .i64 0, .int .i64 0, .int .i64 0, .slice none 0 0]) (t := 29) ?hr ?_;(case hd => rfl);(case hg => rfl);(case hr => first | (go_simp;done) | (go_simp;rfl));intro gb101 hg w107 hbox hb;replace HB := m0_ (qj_ (by repeat (first | (with_reducible first | exact HB.out | apply qg_ | apply qa_ | apply qf_ | refine qe_ ?_ (IsS79.ge HI0.out)) | exact HB.out)) hb);have BK101 := m0_ (hbox);have GW101 := m0_ ((by rw [hg];exact (keep_size (w := w) (g := g) (row := none) (by repeat (first | (with_reducible first | exact HK.out | apply qi_ | apply qm_ | apply qo_ | apply qn_) | exact HK.out))) : w.heap.size ≤ gb101));have GE101 := m0_ ((Nat.le_trans HW0.out (by rw [hg];exact (keep_size (w := w) (g := g) (row := none) (by repeat (first | (with_reducible first | exact HK.out | apply qi_ | apply qm_ | apply qo_ | apply qn_) | exact HK.out))) : w.heap.size ≤ gb101) : w0.heap.size ≤ gb101));replace HK := m0_ (KeepBut.trans (by repeat (first | (with_reducible first | exact HK.out | apply qi_ | apply qm_ | apply qo_ | apply qn_) | exact HK.out)) (KeepBut.of_below hb g none) (.inl rfl));have NB0_101 := m0_ ((by rw [hg];exact qv_ (IsS79.lt (show IsS79 w0 _ g s0_0 s0_1 from by repeat (first | (with_reducible first | exact HI0.out | apply IsS79.alloc | apply IsS79.drewN | apply IsS79.drew | apply IsS79.set_1) | exact HI0.out))) : g ≠ gb101));have NB101_0 := m0_ ((by rw [hg];exact qx_ (IsS79.lt (show IsS79 w0 _ g s0_0 s0_1 from by repeat (first | (with_reducible first | exact HI0.out | apply IsS79.alloc | apply IsS79.drewN | apply IsS79.drew | apply IsS79.set_1) | exact HI0.out))) : gb101 ≠ g));replace HI0 := m0_ (IsS79.below (by repeat (first | (with_reducible first | exact HI0.out | apply IsS79.alloc | apply IsS79.drewN | apply IsS79.drew | apply IsS79.set_1) | exact HI0.out)) hb);clear hb hbox hg) | ((with_reducible refine gate_callee (f := 55) rfl ?_);refine goesL_ (some 7) rfl rfl Tryd.func55 (by kernel_rfl) rfl #[.pointer (some ⟨g, 0, none⟩)] rfl (by (try simp only [List.map_toArray, List.map_cons, List.map_nil]);first | done | rfl | (simp only [List.length_drop, List.length_take];rfl)) ?_;(with_reducible refine (spec_l2Some.calls k g s0_0 s0_1 t102 t103 t104 t105 t108 w0 _ ?side1 ?side2 A2.out).mono ?_);(case side1 => repeat (first | (with_reducible first | exact HI0.out | apply IsS79.alloc | apply IsS79.drewN | apply IsS79.drew | apply IsS79.set_1 | refine IsS79.far ?_ NB0_101.out _) | exact HI0.out));(case side2 => repeat (first | (with_reducible first | exact HB.out | apply qg_ | apply qa_ | apply qf_ | refine qe_ ?_ (IsS79.ge HI0.out) | refine qe_ ?_ GE101.out) | exact HB.out));rintro e w108 ⟨v106, rfl, ho0, hi, hb, hk⟩;refine ⟨_, rfl, ?_⟩;have HO107 := m0_ (Kd.N_lower (Kd.N_mono (ok' := fun k_ => (w.heap.size ≤ k_) ∧ k_ ≠ gb101 ∧ k_ ≠ g) (Kd.R_N (Kd.R_bound ho0)) (fun k_ hk_ => ⟨(Nat.le_trans (keep_size (w := w) (g := g) (row := none) (by repeat (first | (with_reducible first | exact HK.out | apply qi_ | apply qm_ | apply qo_ | apply qn_ | refine qr_ ?_ GW101.out _) | exact HK.out))) hk_.2.1), (Kd.freshB BK101.out k_ hk_.2.1), (IsS79.fresh (by repeat (first | (with_reducible first | exact HI0.out | apply IsS79.alloc | apply IsS79.drewN | apply IsS79.drew | apply IsS79.set_1 | refine IsS79.far ?_ NB0_101.out _) | exact HI0.out)) k_ hk_.2.1)⟩)) (keep_size (w := w) (g := g) (row := none) (by repeat (first | (with_reducible first | exact HK.out | apply qi_ | apply qm_ | apply qo_ | apply qn_ | refine qr_ ?_ GW101.out _) | exact HK.out))));replace BK101 := m0_ (KeepBut.blk hk (g' := gb101) (o := .cells #[.int .i64 0, .int .i64 0, .int .i64 0, .slice none 0 0] 29 (0, 0)) (by (with_reducible repeat (first | refine qc_ ?_ _ | refine qd_ ?_ | refine qb_ ?_ _));exact BK101.out) NB101_0.out (by simp));replace HK := m0_ (KeepBut.trans (by repeat (first | (with_reducible first | exact HK.out | apply qi_ | apply qm_ | apply qo_ | apply qn_ | refine qr_ ?_ GW101.out _) | exact HK.out)) hk (.inl rfl));replace HB := m0_ (hb);replace HI0 := m0_ (hi);(try clear hb);(try clear hb2);(try clear hk);(try clear hi);(try clear ho0)) | ((with_reducible refine gate_dst (N := 3) rfl ?_);refine qs_ ?hg (N := 3) ?hd (cs := #[.int .i64 0, .int .i64 0, .int .i64 0, .slice none 0 0]) (t := 29) ?hr ?_;(case hd => rfl);(case hg => rfl);(case hr => first | (go_simp;done) | (go_simp;rfl));intro gb109 hg w109 hbox hb;replace HO107 := m0_ (Kd.N_below (Kd.N_elderB (by exact HO107.out) gb109 (Nat.le_of_eq hg.symm)) hb);replace HB := m0_ (qj_ (by repeat (first | (with_reducible first | exact HB.out | apply qg_ | apply qa_ | apply qf_ | refine qe_ ?_ (IsS79.ge HI0.out) | refine qe_ ?_ GE101.out) | exact HB.out)) hb);have BK109 := m0_ (hbox);have GW109 := m0_ ((by rw [hg];exact (keep_size (w := w) (g := g) (row := none) (by repeat (first | (with_reducible first | exact HK.out | apply qi_ | apply qm_ | apply qo_ | apply qn_ | refine qr_ ?_ GW101.out _) | exact HK.out))) : w.heap.size ≤ gb109));have GE109 := m0_ ((Nat.le_trans HW0.out (by rw [hg];exact (keep_size (w := w) (g := g) (row := none) (by repeat (first | (with_reducible first | exact HK.out | apply qi_ | apply qm_ | apply qo_ | apply qn_ | refine qr_ ?_ GW101.out _) | exact HK.out))) : w.heap.size ≤ gb109) : w0.heap.size ≤ gb109));replace HK := m0_ (KeepBut.trans (by repeat (first | (with_reducible first | exact HK.out | apply qi_ | apply qm_ | apply qo_ | apply qn_ | refine qr_ ?_ GW101.out _) | exact HK.out)) (KeepBut.of_below hb g none) (.inl rfl));have NB101_109 := m0_ ((by rw [hg];exact qv_ (blk_lt BK101.out) : gb101 ≠ gb109));have NB109_101 := m0_ ((by rw [hg];exact qx_ (blk_lt BK101.out) : gb109 ≠ gb101));replace BK101 := m0_ (qk_ BK101.out hb);have NB0_109 := m0_ ((by rw [hg];exact qv_ (IsS79.lt (show IsS79 w0 _ g s0_0 t108 from by repeat (first | (with_reducible first | exact HI0.out | apply IsS79.alloc | apply IsS79.drewN | apply IsS79.drew | apply IsS79.set_1 | refine IsS79.far ?_ NB0_101.out _) | exact HI0.out))) : g ≠ gb109));have NB109_0 := m0_ ((by rw [hg];exact qx_ (IsS79.lt (show IsS79 w0 _ g s0_0 t108 from by repeat (first | (with_reducible first | exact HI0.out | apply IsS79.alloc | apply IsS79.drewN | apply IsS79.drew | apply IsS79.set_1 | refine IsS79.far ?_ NB0_101.out _) | exact HI0.out))) : gb109 ≠ g));replace HI0 := m0_ (IsS79.below (by repeat (first | (with_reducible first | exact HI0.out | apply IsS79.alloc | apply IsS79.drewN | apply IsS79.drew | apply IsS79.set_1 | refine IsS79.far ?_ NB0_101.out _) | exact HI0.out)) hb);clear hb hbox hg;have hnb110 := NB109_101.out;have hnc110 := NB101_109.out;have hnb111 := NB109_0.out;have hnc111 := NB0_109.out;obtain ⟨hcz112_0, hcz112_1, hcz112_2, hcz112_3, hfz112_0, hfz112_1, hfz112_2, hfz112_3⟩ := bx4 BK109.out;obtain ⟨Ao113, co113, eo113⟩ := Kd.N_slice HO107.out;subst eo113) | ((with_reducible refine gate_callee (f := 48) rfl ?_);refine goesL_ (some 9) rfl rfl Tryd.func48 (by kernel_rfl) rfl #[.pointer (some ⟨g, 0, none⟩), .int .i64 60] rfl (by (try simp only [List.map_toArray, List.map_cons, List.map_nil]);first | done | rfl | (simp only [List.length_drop, List.length_take];rfl)) ?_;(with_reducible refine (spec_l14Rd_pick.calls k g s0_0 t108 60 t110 t111 w0 _ ?side1 ?side2 A3.out).mono ?_);(case side1 => repeat (first | (with_reducible first | exact HI0.out | apply IsS79.alloc | apply IsS79.drewN | apply IsS79.drew | apply IsS79.set_1 | refine IsS79.far ?_ NB0_101.out _ | refine IsS79.far ?_ NB0_109.out _) | exact HI0.out));(case side2 => repeat (first | (with_reducible first | exact HB.out | apply qg_ | apply qa_ | apply qf_ | refine qe_ ?_ (IsS79.ge HI0.out) | refine qe_ ?_ GE101.out | refine qe_ ?_ GE109.out) | exact HB.out));rintro e w114 ⟨rfl, hi, hb, hk⟩;refine ⟨_, rfl, ?_⟩;replace BK101 := m0_ (KeepBut.blk hk (g' := gb101) (o := .cells #[.int .i64 0, .int .i64 0, .int .i64 0, .slice none 0 0] 29 (0, 0)) (by (with_reducible repeat (first | refine qc_ ?_ _ | refine qd_ ?_ | refine qb_ ?_ _));refine qt_ ?_ NB101_109.out _;(with_reducible repeat (first | refine qc_ ?_ _ | refine qd_ ?_ | refine qb_ ?_ _));refine qt_ ?_ NB101_109.out _;(with_reducible repeat (first | refine qc_ ?_ _ | refine qd_ ?_ | refine qb_ ?_ _));refine qt_ ?_ NB101_109.out _;(with_reducible repeat (first | refine qc_ ?_ _ | refine qd_ ?_ | refine qb_ ?_ _));refine qt_ ?_ NB101_109.out _;(with_reducible repeat (first | refine qc_ ?_ _ | refine qd_ ?_ | refine qb_ ?_ _));exact BK101.out) NB101_0.out (by simp));replace HO107 := m0_ (Kd.N_mono (Kd.N_keep (Kd.N_mono (ok := fun k_ => ((((w.heap.size ≤ k_)) ∧ (k_ ≠ gb101 ∧ k_ ≠ g)) ∧ k_ ≠ gb109)) (by (with_reducible repeat (first | apply Kd.N_alloc | apply Kd.N_drewN | apply Kd.N_drew));exact (Kd.N_mono (Kd.N_far (p := ⟨gb109, 3, none⟩) (Kd.N_far (p := ⟨gb109, 2, none⟩) (Kd.N_far (p := ⟨gb109, 1, none⟩) (Kd.N_far (p := ⟨gb109, 0, none⟩) (Kd.N_mono HO107.out (fun k_ hk => (⟨hk, hk.2⟩ : _ ∧ k_ ≠ gb109))) (fun _ hk => hk.2) (.int .i64 t102)) (fun _ hk => hk.2) (.int .i64 t103)) (fun _ hk => hk.2) (.int .i64 t104)) (fun _ hk => hk.2) (.slice Ao113 t105.length co113)) (fun _ h_ => h_.1))) (fun k_ hk_ => (⟨hk_, hk_.1.2.2⟩ : _ ∧ k_ ≠ g))) hk (fun _ h => h.2)) (fun _ h => h.1));replace BK109 := m0_ (KeepBut.blk hk (g' := gb109) (o := .cells #[.int .i64 t102, .int .i64 t103, .int .i64 t104, .slice Ao113 t105.length co113] 29 (0, 0)) (by (with_reducible repeat (first | refine qc_ ?_ _ | refine qd_ ?_ | refine qb_ ?_ _));refine ql_ (cs := #[.int .i64 t102, .int .i64 t103, .int .i64 t104, .slice none 0 0]) ?_ 3 _ rfl;(with_reducible repeat (first | refine qc_ ?_ _ | refine qd_ ?_ | refine qb_ ?_ _));refine ql_ (cs := #[.int .i64 t102, .int .i64 t103, .int .i64 0, .slice none 0 0]) ?_ 2 _ rfl;(with_reducible repeat (first | refine qc_ ?_ _ | refine qd_ ?_ | refine qb_ ?_ _));refine ql_ (cs := #[.int .i64 t102, .int .i64 0, .int .i64 0, .slice none 0 0]) ?_ 1 _ rfl;(with_reducible repeat (first | refine qc_ ?_ _ | refine qd_ ?_ | refine qb_ ?_ _));refine ql_ (cs := #[.int .i64 0, .int .i64 0, .int .i64 0, .slice none 0 0]) ?_ 0 _ rfl;(with_reducible repeat (first | refine qc_ ?_ _ | refine qd_ ?_ | refine qb_ ?_ _));exact BK109.out) NB109_0.out (by simp));replace HK := m0_ (KeepBut.trans (by repeat (first | (with_reducible first | exact HK.out | apply qi_ | apply qm_ | apply qo_ | apply qn_ | refine qr_ ?_ GW101.out _ | refine qr_ ?_ GW109.out _) | exact HK.out)) hk (.inl rfl));replace HB := m0_ (hb);replace HI0 := m0_ (hi);(try clear hb);(try clear hb2);(try clear hk);(try clear hi);obtain ⟨hcz115_0, hcz115_1, hcz115_2, hcz115_3, hfz115_0, hfz115_1, hfz115_2, hfz115_3⟩ := bx4 BK109.out;have hnb116 := NB101_0.out;have hnc116 := NB0_101.out;obtain ⟨hcz117_0, hcz117_1, hcz117_2, hcz117_3, hfz117_0, hfz117_1, hfz117_2, hfz117_3⟩ := bx4 BK101.out))
  refine bodyPost_ret (results_cell_row rfl _ _ gb101 29 #[.int .i64 t102, .int .i64 t103, .int .i64 t104, .slice Ao113 t105.length co113] (0, 0) _ rfl (by (with_reducible repeat (first | refine qc_ ?_ _ | refine qd_ ?_ | refine qb_ ?_ _));refine ql_ (cs := #[.int .i64 t102, .int .i64 t103, .int .i64 t104, .slice none 0 0]) ?_ 3 _ rfl;(with_reducible repeat (first | refine qc_ ?_ _ | refine qd_ ?_ | refine qb_ ?_ _));refine ql_ (cs := #[.int .i64 t102, .int .i64 t103, .int .i64 0, .slice none 0 0]) ?_ 2 _ rfl;(with_reducible repeat (first | refine qc_ ?_ _ | refine qd_ ?_ | refine qb_ ?_ _));refine ql_ (cs := #[.int .i64 t102, .int .i64 0, .int .i64 0, .slice none 0 0]) ?_ 1 _ rfl;(with_reducible repeat (first | refine qc_ ?_ _ | refine qd_ ?_ | refine qb_ ?_ _));refine ql_ (cs := #[.int .i64 0, .int .i64 0, .int .i64 0, .slice none 0 0]) ?_ 0 _ rfl;(with_reducible repeat (first | refine qc_ ?_ _ | refine qd_ ?_ | refine qb_ ?_ _));exact BK101.out) Tryd.underlying29 rfl (by kernel_rfl)) rfl ?_
  exact ⟨_, by first | rfl | (simp [errW_none, errW_some] <;> rfl) | (simp [*, errW_none, errW_some] <;> rfl), by (with_reducible repeat (first | apply Kd.N_alloc | apply Kd.N_drewN | apply Kd.N_drew));exact Kd.N_mono (Kd.N_far (p := ⟨gb101, 3, none⟩) (Kd.N_far (p := ⟨gb101, 2, none⟩) (Kd.N_far (p := ⟨gb101, 1, none⟩) (Kd.N_far (p := ⟨gb101, 0, none⟩) (Kd.N_mono HO107.out (fun k_ hk => (⟨hk, hk.1.2.1⟩ : _ ∧ k_ ≠ gb101))) (fun _ hk => hk.2) (.int .i64 t102)) (fun _ hk => hk.2) (.int .i64 t103)) (fun _ hk => hk.2) (.int .i64 t104)) (fun _ hk => hk.2) (.slice Ao113 t105.length co113)) (fun _ hk => hk.1.1.1), by repeat (first | (with_reducible first | exact HI0.out | apply IsS79.alloc | apply IsS79.drewN | apply IsS79.drew | apply IsS79.set_1 | refine IsS79.far ?_ NB0_101.out _ | refine IsS79.far ?_ NB0_109.out _) | exact HI0.out), by repeat (first | (with_reducible first | exact HB.out | apply qg_ | apply qa_ | apply qf_ | refine qe_ ?_ (IsS79.ge HI0.out) | refine qe_ ?_ GE101.out | refine qe_ ?_ GE109.out) | exact HB.out), by repeat (first | (with_reducible first | exact HK.out | apply qi_ | apply qm_ | apply qo_ | apply qn_ | refine qr_ ?_ GW101.out _ | refine qr_ ?_ GW109.out _) | exact HK.out)⟩
 rw [if_pos c79] at H
 have c79b0 : (t110 == 4) = true := beq_iff_eq.mpr c79
 have c79b1 : (t110 != 4) = false := bne_eq_false_iff_eq.mpr c79
 clear c79
 have H' := m0_ H
 clear H
 go_enter Tryd.func32, Tryd.ntmps32
 go_wp2_with (first | ((with_reducible refine gate_dst (N := 2) rfl ?_);refine qs_ ?hg (N := 2) ?hd (cs := #[.int .i64 0, .int .i64 0, .int .i64 0, .slice none 0 0]) (t := 29) ?hr ?_;(case hd => rfl);(case hg => rfl);(case hr => first | (go_simp;done) | (go_simp;rfl));intro gb101 hg w80 hbox hb;replace HB := m0_ (qj_ (by repeat (first | (with_reducible first | exact HB.out | apply qg_ | apply qa_ | apply qf_ | refine qe_ ?_ (IsS79.ge HI0.out)) | exact HB.out)) hb);have BK101 := m0_ (hbox);have GW101 := m0_ ((by rw [hg];exact (keep_size (w := w) (g := g) (row := none) (by repeat (first | (with_reducible first | exact HK.out | apply qi_ | apply qm_ | apply qo_ | apply qn_) | exact HK.out))) : w.heap.size ≤ gb101));have GE101 := m0_ ((Nat.le_trans HW0.out (by rw [hg];exact (keep_size (w := w) (g := g) (row := none) (by repeat (first | (with_reducible first | exact HK.out | apply qi_ | apply qm_ | apply qo_ | apply qn_) | exact HK.out))) : w.heap.size ≤ gb101) : w0.heap.size ≤ gb101));replace HK := m0_ (KeepBut.trans (by repeat (first | (with_reducible first | exact HK.out | apply qi_ | apply qm_ | apply qo_ | apply qn_) | exact HK.out)) (KeepBut.of_below hb g none) (.inl rfl));have NB0_101 := m0_ ((by rw [hg];exact qv_ (IsS79.lt (show IsS79 w0 _ g s0_0 s0_1 from by repeat (first | (with_reducible first | exact HI0.out | apply IsS79.alloc | apply IsS79.drewN | apply IsS79.drew | apply IsS79.set_1) | exact HI0.out))) : g ≠ gb101));have NB101_0 := m0_ ((by rw [hg];exact qx_ (IsS79.lt (show IsS79 w0 _ g s0_0 s0_1 from by repeat (first | (with_reducible first | exact HI0.out | apply IsS79.alloc | apply IsS79.drewN | apply IsS79.drew | apply IsS79.set_1) | exact HI0.out))) : gb101 ≠ g));replace HI0 := m0_ (IsS79.below (by repeat (first | (with_reducible first | exact HI0.out | apply IsS79.alloc | apply IsS79.drewN | apply IsS79.drew | apply IsS79.set_1) | exact HI0.out)) hb);clear hb hbox hg) | ((with_reducible refine gate_callee (f := 55) rfl ?_);refine goesL_ (some 7) rfl rfl Tryd.func55 (by kernel_rfl) rfl #[.pointer (some ⟨g, 0, none⟩)] rfl (by (try simp only [List.map_toArray, List.map_cons, List.map_nil]);first | done | rfl | (simp only [List.length_drop, List.length_take];rfl)) ?_;(with_reducible refine (spec_l2Some.calls k g s0_0 s0_1 t102 t103 t104 t105 t108 w0 _ ?side1 ?side2 A2.out).mono ?_);(case side1 => repeat (first | (with_reducible first | exact HI0.out | apply IsS79.alloc | apply IsS79.drewN | apply IsS79.drew | apply IsS79.set_1 | refine IsS79.far ?_ NB0_101.out _) | exact HI0.out));(case side2 => repeat (first | (with_reducible first | exact HB.out | apply qg_ | apply qa_ | apply qf_ | refine qe_ ?_ (IsS79.ge HI0.out) | refine qe_ ?_ GE101.out) | exact HB.out));rintro e w81 ⟨v106, rfl, ho0, hi, hb, hk⟩;refine ⟨_, rfl, ?_⟩;have HO107 := m0_ (Kd.N_lower (Kd.N_mono (ok' := fun k_ => (w.heap.size ≤ k_) ∧ k_ ≠ gb101 ∧ k_ ≠ g) (Kd.R_N (Kd.R_bound ho0)) (fun k_ hk_ => ⟨(Nat.le_trans (keep_size (w := w) (g := g) (row := none) (by repeat (first | (with_reducible first | exact HK.out | apply qi_ | apply qm_ | apply qo_ | apply qn_ | refine qr_ ?_ GW101.out _) | exact HK.out))) hk_.2.1), (Kd.freshB BK101.out k_ hk_.2.1), (IsS79.fresh (by repeat (first | (with_reducible first | exact HI0.out | apply IsS79.alloc | apply IsS79.drewN | apply IsS79.drew | apply IsS79.set_1 | refine IsS79.far ?_ NB0_101.out _) | exact HI0.out)) k_ hk_.2.1)⟩)) (keep_size (w := w) (g := g) (row := none) (by repeat (first | (with_reducible first | exact HK.out | apply qi_ | apply qm_ | apply qo_ | apply qn_ | refine qr_ ?_ GW101.out _) | exact HK.out))));replace BK101 := m0_ (KeepBut.blk hk (g' := gb101) (o := .cells #[.int .i64 0, .int .i64 0, .int .i64 0, .slice none 0 0] 29 (0, 0)) (by (with_reducible repeat (first | refine qc_ ?_ _ | refine qd_ ?_ | refine qb_ ?_ _));exact BK101.out) NB101_0.out (by simp));replace HK := m0_ (KeepBut.trans (by repeat (first | (with_reducible first | exact HK.out | apply qi_ | apply qm_ | apply qo_ | apply qn_ | refine qr_ ?_ GW101.out _) | exact HK.out)) hk (.inl rfl));replace HB := m0_ (hb);replace HI0 := m0_ (hi);(try clear hb);(try clear hb2);(try clear hk);(try clear hi);(try clear ho0)) | ((with_reducible refine gate_dst (N := 3) rfl ?_);refine qs_ ?hg (N := 3) ?hd (cs := #[.int .i64 0, .int .i64 0, .int .i64 0, .slice none 0 0]) (t := 29) ?hr ?_;(case hd => rfl);(case hg => rfl);(case hr => first | (go_simp;done) | (go_simp;rfl));intro gb109 hg w82 hbox hb;replace HO107 := m0_ (Kd.N_below (Kd.N_elderB (by exact HO107.out) gb109 (Nat.le_of_eq hg.symm)) hb);replace HB := m0_ (qj_ (by repeat (first | (with_reducible first | exact HB.out | apply qg_ | apply qa_ | apply qf_ | refine qe_ ?_ (IsS79.ge HI0.out) | refine qe_ ?_ GE101.out) | exact HB.out)) hb);have BK109 := m0_ (hbox);have GW109 := m0_ ((by rw [hg];exact (keep_size (w := w) (g := g) (row := none) (by repeat (first | (with_reducible first | exact HK.out | apply qi_ | apply qm_ | apply qo_ | apply qn_ | refine qr_ ?_ GW101.out _) | exact HK.out))) : w.heap.size ≤ gb109));have GE109 := m0_ ((Nat.le_trans HW0.out (by rw [hg];exact (keep_size (w := w) (g := g) (row := none) (by repeat (first | (with_reducible first | exact HK.out | apply qi_ | apply qm_ | apply qo_ | apply qn_ | refine qr_ ?_ GW101.out _) | exact HK.out))) : w.heap.size ≤ gb109) : w0.heap.size ≤ gb109));replace HK := m0_ (KeepBut.trans (by repeat (first | (with_reducible first | exact HK.out | apply qi_ | apply qm_ | apply qo_ | apply qn_ | refine qr_ ?_ GW101.out _) | exact HK.out)) (KeepBut.of_below hb g none) (.inl rfl));have NB101_109 := m0_ ((by rw [hg];exact qv_ (blk_lt BK101.out) : gb101 ≠ gb109));have NB109_101 := m0_ ((by rw [hg];exact qx_ (blk_lt BK101.out) : gb109 ≠ gb101));replace BK101 := m0_ (qk_ BK101.out hb);have NB0_109 := m0_ ((by rw [hg];exact qv_ (IsS79.lt (show IsS79 w0 _ g s0_0 t108 from by repeat (first | (with_reducible first | exact HI0.out | apply IsS79.alloc | apply IsS79.drewN | apply IsS79.drew | apply IsS79.set_1 | refine IsS79.far ?_ NB0_101.out _) | exact HI0.out))) : g ≠ gb109));have NB109_0 := m0_ ((by rw [hg];exact qx_ (IsS79.lt (show IsS79 w0 _ g s0_0 t108 from by repeat (first | (with_reducible first | exact HI0.out | apply IsS79.alloc | apply IsS79.drewN | apply IsS79.drew | apply IsS79.set_1 | refine IsS79.far ?_ NB0_101.out _) | exact HI0.out))) : gb109 ≠ g));replace HI0 := m0_ (IsS79.below (by repeat (first | (with_reducible first | exact HI0.out | apply IsS79.alloc | apply IsS79.drewN | apply IsS79.drew | apply IsS79.set_1 | refine IsS79.far ?_ NB0_101.out _) | exact HI0.out)) hb);clear hb hbox hg;have hnb83 := NB109_101.out;have hnc83 := NB101_109.out;have hnb84 := NB109_0.out;have hnc84 := NB0_109.out;obtain ⟨hcz85_0, hcz85_1, hcz85_2, hcz85_3, hfz85_0, hfz85_1, hfz85_2, hfz85_3⟩ := bx4 BK109.out;obtain ⟨Ao86, co86, eo86⟩ := Kd.N_slice HO107.out;subst eo86) | ((with_reducible refine gate_callee (f := 48) rfl ?_);refine goesL_ (some 9) rfl rfl Tryd.func48 (by kernel_rfl) rfl #[.pointer (some ⟨g, 0, none⟩), .int .i64 60] rfl (by (try simp only [List.map_toArray, List.map_cons, List.map_nil]);first | done | rfl | (simp only [List.length_drop, List.length_take];rfl)) ?_;(with_reducible refine (spec_l14Rd_pick.calls k g s0_0 t108 60 t110 t111 w0 _ ?side1 ?side2 A3.out).mono ?_);(case side1 => repeat (first | (with_reducible first | exact HI0.out | apply IsS79.alloc | apply IsS79.drewN | apply IsS79.drew | apply IsS79.set_1 | refine IsS79.far ?_ NB0_101.out _ | refine IsS79.far ?_ NB0_109.out _) | exact HI0.out));(case side2 => repeat (first | (with_reducible first | exact HB.out | apply qg_ | apply qa_ | apply qf_ | refine qe_ ?_ (IsS79.ge HI0.out) | refine qe_ ?_ GE101.out | refine qe_ ?_ GE109.out) | exact HB.out));rintro e w87 ⟨rfl, hi, hb, hk⟩;refine ⟨_, rfl, ?_⟩;replace BK101 := m0_ (KeepBut.blk hk (g' := gb101) (o := .cells #[.int .i64 0, .int .i64 0, .int .i64 0, .slice none 0 0] 29 (0, 0)) (by (with_reducible repeat (first | refine qc_ ?_ _ | refine qd_ ?_ | refine qb_ ?_ _));refine qt_ ?_ NB101_109.out _;(with_reducible repeat (first | refine qc_ ?_ _ | refine qd_ ?_ | refine qb_ ?_ _));refine qt_ ?_ NB101_109.out _;(with_reducible repeat (first | refine qc_ ?_ _ | refine qd_ ?_ | refine qb_ ?_ _));refine qt_ ?_ NB101_109.out _;(with_reducible repeat (first | refine qc_ ?_ _ | refine qd_ ?_ | refine qb_ ?_ _));refine qt_ ?_ NB101_109.out _;(with_reducible repeat (first | refine qc_ ?_ _ | refine qd_ ?_ | refine qb_ ?_ _));exact BK101.out) NB101_0.out (by simp));replace HO107 := m0_ (Kd.N_mono (Kd.N_keep (Kd.N_mono (ok := fun k_ => ((((w.heap.size ≤ k_)) ∧ (k_ ≠ gb101 ∧ k_ ≠ g)) ∧ k_ ≠ gb109)) (by (with_reducible repeat (first | apply Kd.N_alloc | apply Kd.N_drewN | apply Kd.N_drew));exact (Kd.N_mono (Kd.N_far (p := ⟨gb109, 3, none⟩) (Kd.N_far (p := ⟨gb109, 2, none⟩) (Kd.N_far (p := ⟨gb109, 1, none⟩) (Kd.N_far (p := ⟨gb109, 0, none⟩) (Kd.N_mono HO107.out (fun k_ hk => (⟨hk, hk.2⟩ : _ ∧ k_ ≠ gb109))) (fun _ hk => hk.2) (.int .i64 t102)) (fun _ hk => hk.2) (.int .i64 t103)) (fun _ hk => hk.2) (.int .i64 t104)) (fun _ hk => hk.2) (.slice Ao86 t105.length co86)) (fun _ h_ => h_.1))) (fun k_ hk_ => (⟨hk_, hk_.1.2.2⟩ : _ ∧ k_ ≠ g))) hk (fun _ h => h.2)) (fun _ h => h.1));replace BK109 := m0_ (KeepBut.blk hk (g' := gb109) (o := .cells #[.int .i64 t102, .int .i64 t103, .int .i64 t104, .slice Ao86 t105.length co86] 29 (0, 0)) (by (with_reducible repeat (first | refine qc_ ?_ _ | refine qd_ ?_ | refine qb_ ?_ _));refine ql_ (cs := #[.int .i64 t102, .int .i64 t103, .int .i64 t104, .slice none 0 0]) ?_ 3 _ rfl;(with_reducible repeat (first | refine qc_ ?_ _ | refine qd_ ?_ | refine qb_ ?_ _));refine ql_ (cs := #[.int .i64 t102, .int .i64 t103, .int .i64 0, .slice none 0 0]) ?_ 2 _ rfl;(with_reducible repeat (first | refine qc_ ?_ _ | refine qd_ ?_ | refine qb_ ?_ _));refine ql_ (cs := #[.int .i64 t102, .int .i64 0, .int .i64 0, .slice none 0 0]) ?_ 1 _ rfl;(with_reducible repeat (first | refine qc_ ?_ _ | refine qd_ ?_ | refine qb_ ?_ _));refine ql_ (cs := #[.int .i64 0, .int .i64 0, .int .i64 0, .slice none 0 0]) ?_ 0 _ rfl;(with_reducible repeat (first | refine qc_ ?_ _ | refine qd_ ?_ | refine qb_ ?_ _));exact BK109.out) NB109_0.out (by simp));replace HK := m0_ (KeepBut.trans (by repeat (first | (with_reducible first | exact HK.out | apply qi_ | apply qm_ | apply qo_ | apply qn_ | refine qr_ ?_ GW101.out _ | refine qr_ ?_ GW109.out _) | exact HK.out)) hk (.inl rfl));replace HB := m0_ (hb);replace HI0 := m0_ (hi);(try clear hb);(try clear hb2);(try clear hk);(try clear hi)))
 go_loopg [5] k (fun kq v5 w' => ∃ (x5_1 : Int) (x110000_1 : Int) (x110001_1 : Int) (x110002_1 : Int) (x110003_1 : List (S29)) (u110003 : Value), v5 = .int .i64 x5_1 ∧ Aside0 (spec_l2Bent.l1 kq x5_1 s0_0 t111 x110000_1 x110001_1 x110002_1 x110003_1 = some (r1, r2, r3, r4, r5)) ∧ Aside0 (kq ≤ k) ∧ Aside0 (Kd.N k29 29 w' w.heap.size (fun k_ => (w.heap.size ≤ k_) ∧ k_ ≠ gb101 ∧ k_ ≠ gb109 ∧ k_ ≠ g) u110003 x110003_1) ∧ Aside0 (w'.heap[gb101]? = some (.cells #[.int .i64 0, .int .i64 0, .int .i64 0, (.slice none 0 0)] 29 (0, 0))) ∧ Aside0 (w'.heap[gb109]? = some (.cells #[.int .i64 x110000_1, .int .i64 x110001_1, .int .i64 x110002_1, u110003] 29 (0, 0))) ∧ Aside0 (IsS79 w0 w' g s0_0 t111) ∧ Aside0 (KeepBut w w' g none) ∧ Aside0 (Below w0.heap.size w0 w'))
 case atStart => exact ⟨(0), (t102), (t103), (t104), (t105), (.slice Ao86 t105.length co86), (by first | rfl | (simp;done) | (simp [*];done)), H', ⟨Nat.le_refl _⟩, ⟨by (with_reducible repeat (first | apply Kd.N_alloc | apply Kd.N_drewN | apply Kd.N_drew));exact Kd.N_mono HO107.out (fun _ hk => ⟨hk.1.1, ⟨hk.1.2.1, ⟨hk.2, hk.1.2.2⟩⟩⟩)⟩, ⟨by (with_reducible repeat (first | refine qc_ ?_ _ | refine qd_ ?_ | refine qb_ ?_ _));exact BK101.out⟩, ⟨by (with_reducible repeat (first | refine qc_ ?_ _ | refine qd_ ?_ | refine qb_ ?_ _));exact BK109.out⟩, ⟨by repeat (first | (with_reducible first | exact HI0.out | apply IsS79.alloc | apply IsS79.drewN | apply IsS79.drew | apply IsS79.set_1 | refine IsS79.far ?_ NB0_101.out _ | refine IsS79.far ?_ NB0_109.out _) | exact HI0.out)⟩, ⟨by repeat (first | (with_reducible first | exact HK.out | apply qi_ | apply qm_ | apply qo_ | apply qn_ | refine qr_ ?_ GW101.out _ | refine qr_ ?_ GW109.out _) | exact HK.out)⟩, ⟨by repeat (first | (with_reducible first | exact HB.out | apply qg_ | apply qa_ | apply qf_ | refine qe_ ?_ (IsS79.ge HI0.out) | refine qe_ ?_ GE101.out | refine qe_ ?_ GE109.out) | exact HB.out)⟩⟩
 case round =>
  clear H'
  try clear c1
  try clear c2
  try clear p2
  try clear c3
  try clear c4
  try clear c4b0
  try clear c4b1
  try clear c5
  try clear c6
  try clear p6
  try clear c7
  try clear c8
  try clear c9
  try clear c10
  try clear c19
  try clear c21
  try clear c21b0
  try clear c21b1
  try clear c26
  try clear c27
  try clear c32
  try clear c36
  try clear c38
  try clear c38b0
  try clear c38b1
  try clear c43
  try clear c44
  try clear c48
  try clear c53
  try clear c55
  try clear c55b0
  try clear c55b1
  try clear c56
  try clear c59
  try clear c60
  try clear c64
  try clear c64b0
  try clear p64
  try clear c65
  try clear c66
  try clear c73
  try clear c74
  try clear c76
  try clear c79
  try clear c79b0
  try clear c79b1
  try clear c83
  try clear c84
  try clear hcz11_0
  try clear hcz11_1
  try clear hcz11_2
  try clear hcz11_3
  try clear hcz18_0
  try clear hcz18_1
  try clear hcz18_2
  try clear hcz18_3
  try clear hcz20_0
  try clear hcz20_1
  try clear hcz20_2
  try clear hcz20_3
  try clear hcz28_0
  try clear hcz28_1
  try clear hcz28_2
  try clear hcz28_3
  try clear hcz35_0
  try clear hcz35_1
  try clear hcz35_2
  try clear hcz35_3
  try clear hcz37_0
  try clear hcz37_1
  try clear hcz37_2
  try clear hcz37_3
  try clear hcz45_0
  try clear hcz45_1
  try clear hcz45_2
  try clear hcz45_3
  try clear hcz52_0
  try clear hcz52_1
  try clear hcz52_2
  try clear hcz52_3
  try clear hcz54_0
  try clear hcz54_1
  try clear hcz54_2
  try clear hcz54_3
  try clear hcz61_0
  try clear hcz61_1
  try clear hcz61_2
  try clear hcz61_3
  try clear hcz67_0
  try clear hcz67_1
  try clear hcz67_2
  try clear hcz67_3
  try clear hcz72_0
  try clear hcz72_1
  try clear hcz72_2
  try clear hcz72_3
  try clear hcz75_0
  try clear hcz75_1
  try clear hcz75_2
  try clear hcz75_3
  try clear hcz77_0
  try clear hcz77_1
  try clear hcz77_2
  try clear hcz77_3
  try clear hcz85_0
  try clear hcz85_1
  try clear hcz85_2
  try clear hcz85_3
  try clear hfz11_0
  try clear hfz11_1
  try clear hfz11_2
  try clear hfz11_3
  try clear hfz18_0
  try clear hfz18_1
  try clear hfz18_2
  try clear hfz18_3
  try clear hfz20_0
  try clear hfz20_1
  try clear hfz20_2
  try clear hfz20_3
  try clear hfz28_0
  try clear hfz28_1
  try clear hfz28_2
  try clear hfz28_3
  try clear hfz35_0
  try clear hfz35_1
  try clear hfz35_2
  try clear hfz35_3
  try clear hfz37_0
  try clear hfz37_1
  try clear hfz37_2
  try clear hfz37_3
  try clear hfz45_0
  try clear hfz45_1
  try clear hfz45_2
  try clear hfz45_3
  try clear hfz52_0
  try clear hfz52_1
  try clear hfz52_2
  try clear hfz52_3
  try clear hfz54_0
  try clear hfz54_1
  try clear hfz54_2
  try clear hfz54_3
  try clear hfz61_0
  try clear hfz61_1
  try clear hfz61_2
  try clear hfz61_3
  try clear hfz67_0
  try clear hfz67_1
  try clear hfz67_2
  try clear hfz67_3
  try clear hfz72_0
  try clear hfz72_1
  try clear hfz72_2
  try clear hfz72_3
  try clear hfz75_0
  try clear hfz75_1
  try clear hfz75_2
  try clear hfz75_3
  try clear hfz77_0
  try clear hfz77_1
  try clear hfz77_2
  try clear hfz77_3
  try clear hfz85_0
  try clear hfz85_1
  try clear hfz85_2
  try clear hfz85_3
  try clear p2
  obtain ⟨x5_1, x110000_1, x110001_1, x110002_1, x110003_1, u110003, rfl, HA, HK1, HO_110003, BK101, BK109, HI0, HK, HB⟩ := hrel
  cases gk with
  | zero => exact absurd HA.out (by simp [spec_l2Bent.l1])
  | succ k1 =>
   have H := HA.out
   clear HA
   simp only [spec_l2Bent.l1] at H
   by_cases c88 : x5_1 < 4
   rotate_left
   ·rw [if_neg c88] at H
    have c88b0 : decide (x5_1 < 4) = false := decide_eq_false c88
    clear c88
    simp only [Option.some.injEq, Prod.mk.injEq] at H
    obtain ⟨rfl, rfl, rfl, rfl, rfl⟩ := H
    have hnb101 := NB109_101.out
    have hnc101 := NB101_109.out
    have hnb102 := NB109_0.out
    have hnc102 := NB0_109.out
    obtain ⟨hcz103_0, hcz103_1, hcz103_2, hcz103_3, hfz103_0, hfz103_1, hfz103_2, hfz103_3⟩ := bx4 BK109.out
    have hnb104 := NB101_0.out
    have hnc104 := NB0_101.out
    obtain ⟨hcz105_0, hcz105_1, hcz105_2, hcz105_3, hfz105_0, hfz105_1, hfz105_2, hfz105_3⟩ := bx4 BK101.out
    obtain ⟨Ao106, co106, eo106⟩ := Kd.N_slice HO_110003.out
    subst eo106
    go_wp2
    refine bodyPost_ret (results_cell_row rfl _ _ gb101 29 #[.int .i64 x110000_1, .int .i64 x110001_1, .int .i64 x110002_1, .slice Ao106 x110003_1.length co106] (0, 0) _ rfl (by (with_reducible repeat (first | refine qc_ ?_ _ | refine qd_ ?_ | refine qb_ ?_ _));refine ql_ (cs := #[.int .i64 x110000_1, .int .i64 x110001_1, .int .i64 x110002_1, .slice none 0 0]) ?_ 3 _ rfl;(with_reducible repeat (first | refine qc_ ?_ _ | refine qd_ ?_ | refine qb_ ?_ _));refine ql_ (cs := #[.int .i64 x110000_1, .int .i64 x110001_1, .int .i64 0, .slice none 0 0]) ?_ 2 _ rfl;(with_reducible repeat (first | refine qc_ ?_ _ | refine qd_ ?_ | refine qb_ ?_ _));refine ql_ (cs := #[.int .i64 x110000_1, .int .i64 0, .int .i64 0, .slice none 0 0]) ?_ 1 _ rfl;(with_reducible repeat (first | refine qc_ ?_ _ | refine qd_ ?_ | refine qb_ ?_ _));refine ql_ (cs := #[.int .i64 0, .int .i64 0, .int .i64 0, .slice none 0 0]) ?_ 0 _ rfl;(with_reducible repeat (first | refine qc_ ?_ _ | refine qd_ ?_ | refine qb_ ?_ _));exact BK101.out) Tryd.underlying29 rfl (by kernel_rfl)) rfl ?_
    exact ⟨_, by first | rfl | (simp [errW_none, errW_some] <;> rfl) | (simp [*, errW_none, errW_some] <;> rfl), by (with_reducible repeat (first | apply Kd.N_alloc | apply Kd.N_drewN | apply Kd.N_drew));exact Kd.N_mono (Kd.N_far (p := ⟨gb101, 3, none⟩) (Kd.N_far (p := ⟨gb101, 2, none⟩) (Kd.N_far (p := ⟨gb101, 1, none⟩) (Kd.N_far (p := ⟨gb101, 0, none⟩) (Kd.N_mono HO_110003.out (fun k_ hk => (⟨hk, hk.2.1⟩ : _ ∧ k_ ≠ gb101))) (fun _ hk => hk.2) (.int .i64 x110000_1)) (fun _ hk => hk.2) (.int .i64 x110001_1)) (fun _ hk => hk.2) (.int .i64 x110002_1)) (fun _ hk => hk.2) (.slice Ao106 x110003_1.length co106)) (fun _ hk => hk.1.1), by repeat (first | (with_reducible first | exact HI0.out | apply IsS79.alloc | apply IsS79.drewN | apply IsS79.drew | apply IsS79.set_1 | refine IsS79.far ?_ NB0_101.out _ | refine IsS79.far ?_ NB0_109.out _) | exact HI0.out), by repeat (first | (with_reducible first | exact HB.out | apply qg_ | apply qa_ | apply qf_ | refine qe_ ?_ (IsS79.ge HI0.out) | refine qe_ ?_ GE101.out | refine qe_ ?_ GE109.out) | exact HB.out), by repeat (first | (with_reducible first | exact HK.out | apply qi_ | apply qm_ | apply qo_ | apply qn_ | refine qr_ ?_ GW101.out _ | refine qr_ ?_ GW109.out _) | exact HK.out)⟩
   rw [if_pos c88] at H
   have c88b0 : decide (x5_1 < 4) = true := decide_eq_true c88
   clear c88
   replace H := Option.bind_eq_some_iff.mp H
   obtain ⟨⟨t130, t131, t132, t133⟩, A890, H⟩ := H
   replace H : (spec_l2Bent.l1 k1 (wrap64 (x5_1 + 1)) s0_0 t111 2 0 0 (([(⟨x110000_1, x110001_1, x110002_1, x110003_1⟩ : S29), (⟨t130, t131, t132, t133⟩ : S29)] : List (S29)))) = some (r1, r2, r3, r4, r5) := H
   have A89 := m0_ A890
   clear A890
   obtain ⟨y136, hy136⟩ : ∃ y_ : List (S29), y_ = (([(⟨x110000_1, x110001_1, x110002_1, x110003_1⟩ : S29), (⟨t130, t131, t132, t133⟩ : S29)] : List (S29))) := ⟨_, rfl⟩
   replace H : (spec_l2Bent.l1 k1 (wrap64 (x5_1 + 1)) s0_0 t111 2 0 0 y136) = some (r1, r2, r3, r4, r5) := by first | (rw [hy136];with_reducible exact H) | (have H2_ := (Option.bind_some _ _).symm.trans H;rw [hy136];with_reducible exact H2_) | (have H2_ := (Option.bind_some _ _).symm.trans H;with_reducible exact H2_) | with_reducible exact H | (rw [hy136];exact H) | exact H
   have Ny136 := m0_ hy136
   clear hy136
   have H' := m0_ H
   clear H
   try go_wp2
   replace HO_110003 := m0_ (Kd.N_drew HO_110003.out)
   replace BK101 := m0_ (qd_ BK101.out)
   replace BK109 := m0_ (qd_ BK109.out)
   replace HI0 := m0_ (IsS79.drew HI0.out)
   replace HK := m0_ (qo_ HK.out)
   replace HB := m0_ (qf_ HB.out)
   obtain ⟨Ao91, co91, eo91⟩ := Kd.N_slice HO_110003.out
   (first | subst eo91 | (injection eo91 with f1_ f2_ f3_;have f4_ := f1_.symm;have f5_ := f3_.symm;clear f1_ f2_ f3_;subst f4_;subst f5_))
   refine start_ (n := 6) (S := fun w' => w'.cell? ⟨gb109, 0, none⟩ = some (.int .i64 x110000_1) ∧ w'.cell? ⟨gb109, 1, none⟩ = some (.int .i64 x110001_1) ∧ w'.cell? ⟨gb109, 2, none⟩ = some (.int .i64 x110002_1) ∧ w'.cell? ⟨gb109, 3, none⟩ = some (.slice Ao91 x110003_1.length co91)) (ds := [5]) #[false, false, false, false, false, false] (by kernel_rfl) rfl rfl ⟨(qh_ BK109.out 0).trans rfl, (qh_ BK109.out 1).trans rfl, (qh_ BK109.out 2).trans rfl, (qh_ BK109.out 3).trans rfl⟩ (fun hHeld => ?_)
   generalize wr.drew = w90 at HO_110003 BK101 BK109 HI0 HK HB hHeld ⊢
   refine take_ (i := 0) (N := some 43) (v := ?_) (a' := ?_) #[true, false, false, false, false, false] rfl rfl (by kernel_rfl) (fun _ _ _ h => h) (Or.inl ⟨by rfl, ?_⟩) hHeld ?_ ?_
   rotate_left
   ·rintro w' ⟨s0, s1, s2, s3⟩
    go_simp
    with_reducible rfl
   rotate_left
   ·simp only [Act.put, q0_, List.set_cons_zero, List.set_cons_succ, i64_w, i32_w]
    rfl
   refine take_ (i := 1) (N := some 44) (v := ?_) (a' := ?_) #[true, true, false, false, false, false] rfl rfl (by kernel_rfl) (fun _ _ _ h => h) (Or.inl ⟨by rfl, ?_⟩) hHeld ?_ ?_
   rotate_left
   ·rintro w' ⟨s0, s1, s2, s3⟩
    go_simp
    with_reducible rfl
   rotate_left
   ·simp only [Act.put, q0_, List.set_cons_zero, List.set_cons_succ, i64_w, i32_w]
    rfl
   refine one_ (i := 2) (N := some 45) #[true, true, true, false, false, false] rfl rfl (by kernel_rfl) (by decide) (fun K hK => ?_)
   refine goes_ Tryd.func57 (by kernel_rfl) rfl #[.agg #[.int .i64 x110000_1, .int .i64 x110001_1, .int .i64 x110002_1, .slice Ao91 x110003_1.length co91]] (by rfl) rfl rfl (by (try simp only [List.map_toArray, List.map_cons, List.map_nil]);first | done | rfl | (simp only [List.length_drop, List.length_take];rfl)) ?_
   with_reducible refine (spec_l2Copy.calls k1 x110000_1 x110001_1 x110002_1 _ _ x110003_1 t130 t131 t132 t133 _ ?side1 ?side2 A89.out).mono ?_
   (case side1 => repeat (first | exact (Kd.N_reads' HO_110003.out).2.2 | (with_reducible refine Kd.C_alloc ?_ _) | (with_reducible refine Kd.C_drewN ?_ _) | (with_reducible refine Kd.C_drew ?_)))
   (case side2 => exact (Kd.N_reads' HO_110003.out).2.1)
   rintro e w92 ⟨v134, rfl, ho0, hb⟩
   refine ⟨_, rfl, ?_⟩
   have HO135 := m0_ (Kd.N_lower (Kd.N_mono (ok' := fun k_ => (w.heap.size ≤ k_) ∧ some k_ ≠ (.slice Ao91 x110003_1.length co91 : Value).ownBlock ∧ k_ ≠ gb101 ∧ k_ ≠ gb109 ∧ k_ ≠ g) (Kd.R_N (Kd.R_bound ho0)) (fun k_ hk_ => ⟨(Nat.le_trans (keep_size (w := w) (g := g) (row := none) (by repeat (first | (with_reducible first | exact HK.out | apply qi_ | apply qm_ | apply qo_ | apply qn_ | refine qr_ ?_ GW101.out _ | refine qr_ ?_ GW109.out _) | exact HK.out))) hk_.2.1), (Kd.fresh' (Kd.N_lt (by exact HO_110003.out)) k_ hk_.2.1), (Kd.freshB BK101.out k_ hk_.2.1), (Kd.freshB BK109.out k_ hk_.2.1), (IsS79.fresh (by repeat (first | (with_reducible first | exact HI0.out | apply IsS79.alloc | apply IsS79.drewN | apply IsS79.drew | apply IsS79.set_1 | refine IsS79.far ?_ NB0_101.out _ | refine IsS79.far ?_ NB0_109.out _) | exact HI0.out)) k_ hk_.2.1)⟩)) (keep_size (w := w) (g := g) (row := none) (by repeat (first | (with_reducible first | exact HK.out | apply qi_ | apply qm_ | apply qo_ | apply qn_ | refine qr_ ?_ GW101.out _ | refine qr_ ?_ GW109.out _) | exact HK.out))))
   replace HO_110003 := m0_ (Kd.N_elder' (by exact HO_110003.out) (by first | exact Kd.N_base ho0 | exact Kd.S_base ho0 | exact Kd.R_base ho0) hb)
   replace BK101 := m0_ (qk_ BK101.out hb)
   replace BK109 := m0_ (qk_ BK109.out hb)
   replace HK := m0_ (KeepBut.trans (by repeat (first | (with_reducible first | exact HK.out | apply qi_ | apply qm_ | apply qo_ | apply qn_ | refine qr_ ?_ GW101.out _ | refine qr_ ?_ GW109.out _) | exact HK.out)) (KeepBut.of_below hb g none) (.inl rfl))
   replace HB := m0_ (qj_ (by repeat (first | (with_reducible first | exact HB.out | apply qg_ | apply qa_ | apply qf_ | refine qe_ ?_ (IsS79.ge HI0.out) | refine qe_ ?_ GE101.out | refine qe_ ?_ GE109.out) | exact HB.out)) hb)
   replace HI0 := m0_ (IsS79.below (by repeat (first | (with_reducible first | exact HI0.out | apply IsS79.alloc | apply IsS79.drewN | apply IsS79.drew | apply IsS79.set_1 | refine IsS79.far ?_ NB0_101.out _ | refine IsS79.far ?_ NB0_109.out _) | exact HI0.out)) hb)
   (try clear hb)
   (try clear hb2)
   (try clear hk)
   (try clear hi)
   (try clear ho0)
   obtain ⟨Ao93, co93, eo93⟩ := Kd.N_slice HO135.out
   (first | subst eo93 | (injection eo93 with f1_ f2_ f3_;have f4_ := f1_.symm;have f5_ := f3_.symm;clear f1_ f2_ f3_;subst f4_;subst f5_))
   refine hK.out _ _ ⟨(qh_ BK109.out 0).trans rfl, (qh_ BK109.out 1).trans rfl, (qh_ BK109.out 2).trans rfl, (qh_ BK109.out 3).trans rfl⟩ (fun hHeld => ?_)
   clear hK K
   refine norm_ (a' := ?_) ?_ ?_
   rotate_left
   ·show Act.put _ (some 45) _ = _
    simp only [Act.put, q0_, List.set_cons_zero, List.set_cons_succ, i64_w, i32_w]
    rfl
   refine one_ (i := 3) (N := some 46) #[true, true, true, true, false, false] rfl rfl (by kernel_rfl) (by decide) (fun K hK => ?_)
   refine Kd.N_lit_step k29 _ 29 ?hg (N' := 46) ?hd (xs := ([(⟨x110000_1, x110001_1, x110002_1, x110003_1⟩ : S29), (⟨t130, t131, t132, t133⟩ : S29)] : List (S29))) (inner := [.int .i64 x110000_1, .int .i64 x110001_1, .int .i64 x110002_1, .slice Ao91 x110003_1.length co91, .int .i64 t130, .int .i64 t131, .int .i64 t132, .slice Ao93 t133.length co93]) (ok := (fun k_ => (w.heap.size ≤ k_) ∧ k_ ≠ gb101 ∧ k_ ≠ gb109 ∧ k_ ≠ g)) (okp := (fun k_ => (w.heap.size ≤ k_) ∧ k_ ≠ gb101 ∧ k_ ≠ gb109 ∧ k_ ≠ g)) ?hr ?hp (fun _ hk => hk) ((show ∀ k_, w92.heap.size ≤ k_ → (fun k_ => (w.heap.size ≤ k_) ∧ k_ ≠ gb101 ∧ k_ ≠ gb109 ∧ k_ ≠ g) k_ from fun k_ hk => ⟨(Nat.le_trans (keep_size (w := w) (g := g) (row := none) (by repeat (first | (with_reducible first | exact HK.out | apply qi_ | apply qm_ | apply qo_ | apply qn_ | refine qr_ ?_ GW101.out _ | refine qr_ ?_ GW109.out _) | exact HK.out))) hk), Kd.freshB BK101.out k_ hk, Kd.freshB BK109.out k_ hk, IsS79.fresh (by repeat (first | (with_reducible first | exact HI0.out | apply IsS79.alloc | apply IsS79.drewN | apply IsS79.drew | apply IsS79.set_1 | refine IsS79.far ?_ NB0_101.out _ | refine IsS79.far ?_ NB0_109.out _) | exact HI0.out)) k_ hk⟩) _ (Nat.le_refl _)) (Below.refl _ _) (Nat.le_refl _) (by simp) ?_;(case hd => rfl);(case hg => rfl);(case hr => first | (go_simp;done) | (go_simp;rfl));(case hp => exact (Reps.c4 (show Kd.FK k29 _ _ (⟨x110000_1, x110001_1, x110002_1, x110003_1⟩ : S29) [.int .i64 x110000_1, .int .i64 x110001_1, .int .i64 x110002_1, .slice Ao91 x110003_1.length co91] from (k29_mkF _ _ (⟨x110000_1, x110001_1, x110002_1, x110003_1⟩ : S29) (Kd.N_reads' (Kd.N_mono (ok' := (fun k_ => (w.heap.size ≤ k_) ∧ k_ ≠ gb101 ∧ k_ ≠ gb109 ∧ k_ ≠ g)) (HO_110003.out) (fun k_ hk => ⟨hk.1.1, ⟨hk.1.2.1, ⟨hk.1.2.2.1, hk.1.2.2.2⟩⟩⟩))).2.1 (Kd.N_F (Kd.N_mono (ok' := (fun k_ => (w.heap.size ≤ k_) ∧ k_ ≠ gb101 ∧ k_ ≠ gb109 ∧ k_ ≠ g)) (HO_110003.out) (fun k_ hk => ⟨hk.1.1, ⟨hk.1.2.1, ⟨hk.1.2.2.1, hk.1.2.2.2⟩⟩⟩))))) (Reps.c4 (show Kd.FK k29 _ _ (⟨t130, t131, t132, t133⟩ : S29) [.int .i64 t130, .int .i64 t131, .int .i64 t132, .slice Ao93 t133.length co93] from (k29_mkF _ _ (⟨t130, t131, t132, t133⟩ : S29) (Kd.N_reads' (Kd.N_mono (ok' := (fun k_ => (w.heap.size ≤ k_) ∧ k_ ≠ gb101 ∧ k_ ≠ gb109 ∧ k_ ≠ g)) (HO135.out) (fun k_ hk => ⟨hk.1, ⟨hk.2.2.1, ⟨hk.2.2.2.1, hk.2.2.2.2⟩⟩⟩))).2.1 (Kd.N_F (Kd.N_mono (ok' := (fun k_ => (w.heap.size ≤ k_) ∧ k_ ≠ gb101 ∧ k_ ≠ gb109 ∧ k_ ≠ g)) (HO135.out) (fun k_ hk => ⟨hk.1, ⟨hk.2.2.1, ⟨hk.2.2.2.1, hk.2.2.2.2⟩⟩⟩))))) (Reps.none _ _))))
   intro v137 w94 ho95 hb hg_ hnew_
   clear hg_ hnew_
   (first | rw [← Ny136.out] at ho95 | (simp only [Int.reduceToNat] at ho95;rw [← Ny136.out] at ho95))
   have n0_ := m0_ (Kd.N_lower ho95 (keep_size (w := w) (g := g) (row := none) (by repeat (first | (with_reducible first | exact HK.out | apply qi_ | apply qm_ | apply qo_ | apply qn_ | refine qr_ ?_ GW101.out _ | refine qr_ ?_ GW109.out _) | exact HK.out))))
   have n1_ := m0_ (qk_ BK101.out hb)
   have n2_ := m0_ (qk_ BK109.out hb)
   have n3_ := m0_ (IsS79.below (by repeat (first | (with_reducible first | exact HI0.out | apply IsS79.alloc | apply IsS79.drewN | apply IsS79.drew | apply IsS79.set_1 | refine IsS79.far ?_ NB0_101.out _ | refine IsS79.far ?_ NB0_109.out _) | exact HI0.out)) hb)
   have n4_ := m0_ (KeepBut.trans (by repeat (first | (with_reducible first | exact HK.out | apply qi_ | apply qm_ | apply qo_ | apply qn_ | refine qr_ ?_ GW101.out _ | refine qr_ ?_ GW109.out _) | exact HK.out)) (KeepBut.of_below hb g none) (.inl rfl))
   have n5_ := m0_ (qj_ (by repeat (first | (with_reducible first | exact HB.out | apply qg_ | apply qa_ | apply qf_ | refine qe_ ?_ (IsS79.ge HI0.out) | refine qe_ ?_ GE101.out | refine qe_ ?_ GE109.out) | exact HB.out)) hb)
   clear BK101
   clear BK109
   clear HI0
   clear HK
   clear HB
   clear HO135
   clear HO_110003
   have HO138 := n0_
   have BK101 := n1_
   have BK109 := n2_
   have HI0 := n3_
   have HK := n4_
   have HB := n5_
   clear n0_ n1_ n2_ n3_ n4_ n5_
   clear hb ho95
   obtain ⟨Ao96, co96, eo96⟩ := Kd.N_slice HO138.out
   (first | subst eo96 | (injection eo96 with f1_ f2_ f3_;have f4_ := f1_.symm;have f5_ := f3_.symm;clear f1_ f2_ f3_;subst f4_;subst f5_))
   refine hK.out _ _ ⟨(qh_ BK109.out 0).trans rfl, (qh_ BK109.out 1).trans rfl, (qh_ BK109.out 2).trans rfl, (qh_ BK109.out 3).trans rfl⟩ (fun hHeld => ?_)
   clear hK K
   refine norm_ (a' := ?_) ?_ ?_
   rotate_left
   ·show Act.put _ (some 46) _ = _
    simp only [Act.put, q0_, List.set_cons_zero, List.set_cons_succ, i64_w, i32_w]
    rfl
   refine pv_ 4 47 #[true, true, true, true, true, false] (by kernel_rfl) ?_
   refine last_ (i := 5) (N := none) #[true, true, true, true, true, true] rfl rfl (by kernel_rfl) (by decide) (fun K hK => ?_)
   have hs97 : w94.cell? ⟨gb109, 0, none⟩ = some (.int .i64 x110000_1) := (qh_ BK109.out 0).trans rfl
   have hfs97 := blk_frozen BK109.out 0
   have hns97_0 := NB101_109.out
   have hms97_0 := NB109_101.out
   have hs98 : w94.cell? ⟨gb109, 1, none⟩ = some (.int .i64 x110001_1) := (qh_ BK109.out 1).trans rfl
   have hfs98 := blk_frozen BK109.out 1
   have hns98_0 := NB101_109.out
   have hms98_0 := NB109_101.out
   have hs99 : w94.cell? ⟨gb109, 2, none⟩ = some (.int .i64 x110002_1) := (qh_ BK109.out 2).trans rfl
   have hfs99 := blk_frozen BK109.out 2
   have hns99_0 := NB101_109.out
   have hms99_0 := NB109_101.out
   have hs100 : w94.cell? ⟨gb109, 3, none⟩ = some (.slice Ao91 x110003_1.length co91) := (qh_ BK109.out 3).trans rfl
   have hfs100 := blk_frozen BK109.out 3
   have hns100_0 := NB101_109.out
   have hms100_0 := NB109_101.out
   refine skip_ (w1 := ?_) (by rfl) rfl ?_ ?_
   rotate_left
   ·go_simp
    rfl
   refine hK.out _ _ ?_
   clear hK K
   refine done_ (by kernel_rfl) ?_
   try go_wp2
   go_roundg k1
   case measure => have := HK1.out;omega
   case rel => exact ⟨(wrap64 (x5_1 + 1)), (2), (0), (0), (y136), (.slice Ao96 y136.length co96), (by first | rfl | (simp;done) | (simp [*];done)), H', ⟨by have := HK1.out;omega⟩, ⟨by (with_reducible repeat (first | apply Kd.N_alloc | apply Kd.N_drewN | apply Kd.N_drew));exact Kd.N_mono (Kd.N_far (p := ⟨gb109, 3, none⟩) (Kd.N_far (p := ⟨gb109, 2, none⟩) (Kd.N_far (p := ⟨gb109, 1, none⟩) (Kd.N_far (p := ⟨gb109, 0, none⟩) (Kd.N_mono HO138.out (fun k_ hk => (⟨hk, hk.2.2.1⟩ : _ ∧ k_ ≠ gb109))) (fun _ hk => hk.2) (.int .i64 2)) (fun _ hk => hk.2) (.int .i64 0)) (fun _ hk => hk.2) (.int .i64 0)) (fun _ hk => hk.2) (.slice Ao96 y136.length co96)) (fun _ hk => ⟨hk.1.1, ⟨hk.1.2.1, ⟨hk.1.2.2.1, hk.1.2.2.2⟩⟩⟩)⟩, ⟨by (with_reducible repeat (first | refine qc_ ?_ _ | refine qd_ ?_ | refine qb_ ?_ _));refine qt_ ?_ NB101_109.out _;(with_reducible repeat (first | refine qc_ ?_ _ | refine qd_ ?_ | refine qb_ ?_ _));refine qt_ ?_ NB101_109.out _;(with_reducible repeat (first | refine qc_ ?_ _ | refine qd_ ?_ | refine qb_ ?_ _));refine qt_ ?_ NB101_109.out _;(with_reducible repeat (first | refine qc_ ?_ _ | refine qd_ ?_ | refine qb_ ?_ _));refine qt_ ?_ NB101_109.out _;(with_reducible repeat (first | refine qc_ ?_ _ | refine qd_ ?_ | refine qb_ ?_ _));exact BK101.out⟩, ⟨by (with_reducible repeat (first | refine qc_ ?_ _ | refine qd_ ?_ | refine qb_ ?_ _));refine ql_ (cs := #[.int .i64 2, .int .i64 0, .int .i64 0, .slice Ao91 x110003_1.length co91]) ?_ 3 _ rfl;(with_reducible repeat (first | refine qc_ ?_ _ | refine qd_ ?_ | refine qb_ ?_ _));refine ql_ (cs := #[.int .i64 2, .int .i64 0, .int .i64 x110002_1, .slice Ao91 x110003_1.length co91]) ?_ 2 _ rfl;(with_reducible repeat (first | refine qc_ ?_ _ | refine qd_ ?_ | refine qb_ ?_ _));refine ql_ (cs := #[.int .i64 2, .int .i64 x110001_1, .int .i64 x110002_1, .slice Ao91 x110003_1.length co91]) ?_ 1 _ rfl;(with_reducible repeat (first | refine qc_ ?_ _ | refine qd_ ?_ | refine qb_ ?_ _));refine ql_ (cs := #[.int .i64 x110000_1, .int .i64 x110001_1, .int .i64 x110002_1, .slice Ao91 x110003_1.length co91]) ?_ 0 _ rfl;(with_reducible repeat (first | refine qc_ ?_ _ | refine qd_ ?_ | refine qb_ ?_ _));exact BK109.out⟩, ⟨by repeat (first | (with_reducible first | exact HI0.out | apply IsS79.alloc | apply IsS79.drewN | apply IsS79.drew | apply IsS79.set_1 | refine IsS79.far ?_ NB0_101.out _ | refine IsS79.far ?_ NB0_109.out _) | exact HI0.out)⟩, ⟨by repeat (first | (with_reducible first | exact HK.out | apply qi_ | apply qm_ | apply qo_ | apply qn_ | refine qr_ ?_ GW101.out _ | refine qr_ ?_ GW109.out _) | exact HK.out)⟩, ⟨by repeat (first | (with_reducible first | exact HB.out | apply qg_ | apply qa_ | apply qf_ | refine qe_ ?_ (IsS79.ge HI0.out) | refine qe_ ?_ GE101.out | refine qe_ ?_ GE109.out) | exact HB.out)⟩⟩

def spec_l14Open.f (l0 : List Int) : Option (List Int × Int) := if (l0.length : Int) > 2000 then (if 2000 ≤ (l0.length : Int) then (some (l0.take 2000, 0)) else (none)) else (some (l0, 0))
set_option maxHeartbeats 8000000 in
set_option maxRecDepth 100000 in
theorem spec_l14Open.calls (A0 : Option Addr) (c0 : Nat) (l0 : List Int) (r1 : List Int) (r2 : Int) (w0 w : World) (hB : Below w0.heap.size w0 w) (hr0 : Kd.C (Kd.int .u8) w0 A0 l0.length l0) (hc0 : l0.length ≤ c0) (h : spec_l14Open.f l0 = some (r1, r2)) :
  Calls Tryd.prog 33 #[.slice A0 l0.length c0] w fun e w' => ∃ g_ : Nat, e = .returned (.pointer (some ⟨g_, 0, none⟩)) ∧ IsS79 w0 w' g_ r1 r2 ∧ Below w0.heap.size w0 w' ∧ Below w.heap.size w w' := by
 have hu79 := Tryd.underlying79
 have HR0 := m0_ hr0
 have HC0 := m0_ hc0
 clear hr0 hc0
 have HBW := m0_ (Below.refl w.heap.size w)
 have HW0 := m0_ hB.size
 have HB := m0_ hB
 clear hB
 have H : (if (l0.length : Int) > 2000 then (if 2000 ≤ (l0.length : Int) then (some (l0.take 2000, 0)) else (none)) else (some (l0, 0))) = some (r1, r2) := h
 clear h
 by_cases c2 : (l0.length : Int) > 2000
 rotate_left
 ·rw [if_neg c2] at H
  have c2b0 : decide (2000 < (l0.length : Int)) = false := decide_eq_false c2
  have c2b1 : decide (2000 < l0.length) = false := decide_eq_false (by omega)
  clear c2
  simp only [Option.some.injEq, Prod.mk.injEq] at H
  obtain ⟨rfl, rfl⟩ := H
  go_enter Tryd.func33, Tryd.ntmps33
  go_wp2_with (first | ((with_reducible refine gate_dst (N := 10) rfl ?_);refine qs_ ?hg (N := 10) ?hd (cs := #[.slice A0 l0.length c0, .int .i64 0]) (t := 79) ?hr ?_;(case hd => rfl);(case hg => rfl);(case hr => first | (go_simp;done) | (go_simp;rfl));intro gb103 hg w6 hbox hb;replace HB := m0_ (qj_ (by exact HB.out) hb);have BK103 := m0_ (hbox);have GW103 := m0_ ((by rw [hg];exact (qp_ (by repeat (first | (with_reducible first | exact HBW.out | apply qg_ | apply qa_ | apply qf_) | exact HBW.out))) : w.heap.size ≤ gb103));have GE103 := m0_ ((Nat.le_trans HW0.out (by rw [hg];exact (qp_ (by repeat (first | (with_reducible first | exact HBW.out | apply qg_ | apply qa_ | apply qf_) | exact HBW.out))) : w.heap.size ≤ gb103) : w0.heap.size ≤ gb103));replace HBW := m0_ (qj_ HBW.out hb);clear hb hbox hg))
  go_ret
  exact ⟨_, rfl, (show IsS79 w0 _ gb103 l0 0 from ⟨_, _, by (with_reducible repeat (first | refine qc_ ?_ _ | refine qd_ ?_ | refine qb_ ?_ _));exact BK103.out, GE103.out, HR0.out⟩), by repeat (first | (with_reducible first | exact HB.out | apply qg_ | apply qa_ | apply qf_ | refine qe_ ?_ GE103.out) | exact HB.out), by repeat (first | (with_reducible first | exact HBW.out | apply qg_ | apply qa_ | apply qf_ | refine qe_ ?_ GW103.out) | exact HBW.out)⟩
 rw [if_pos c2] at H
 have c2b0 : decide (2000 < (l0.length : Int)) = true := decide_eq_true c2
 have c2b1 : decide (2000 < l0.length) = true := decide_eq_true (by omega)
 clear c2
 by_cases c3 : 2000 ≤ (l0.length : Int)
 rotate_left
 ·rw [if_neg c3] at H
  exact absurd H (by simp)
 rw [if_pos c3] at H
 have c3b0 := eq_true c3
 have c3b1 : decide (2000 ≤ (l0.length : Int)) = true := decide_eq_true c3
 clear c3
 simp only [Option.some.injEq, Prod.mk.injEq] at H
 obtain ⟨rfl, rfl⟩ := H
 obtain ⟨i04, hi04, _, hsz4, _⟩ := info_parts info5
 obtain ⟨hcut4, hA4, hC4⟩ := print_take_of (P := Tryd.prog) (Value.int .u8) 0 33 5 .i64 Tryd.underlying33 hi04 hsz4 A0 c0 l0 2000 (by omega) (qu_ (by first | (with_reducible assumption) | assumption)) HC0.out
 have HR101 := m0_ (Kd.C_of_reads (h1 := fun _ => rfl) (hA4 _ (Kd.reads_of_C HR0.out)))
 have HC101 := m0_ hC4
 clear hA4 hC4 hi04 hsz4
 go_enter Tryd.func33, Tryd.ntmps33
 go_wp2_with (first | ((with_reducible refine gate_dst (N := 10) rfl ?_);refine qs_ ?hg (N := 10) ?hd (cs := #[.slice A0 (l0.take 2000).length c0, .int .i64 0]) (t := 79) ?hr ?_;(case hd => rfl);(case hg => rfl);(case hr => first | (go_simp;done) | (go_simp;rfl));intro gb102 hg w5 hbox hb;replace HB := m0_ (qj_ (by exact HB.out) hb);have BK102 := m0_ (hbox);have GW102 := m0_ ((by rw [hg];exact (qp_ (by repeat (first | (with_reducible first | exact HBW.out | apply qg_ | apply qa_ | apply qf_) | exact HBW.out))) : w.heap.size ≤ gb102));have GE102 := m0_ ((Nat.le_trans HW0.out (by rw [hg];exact (qp_ (by repeat (first | (with_reducible first | exact HBW.out | apply qg_ | apply qa_ | apply qf_) | exact HBW.out))) : w.heap.size ≤ gb102) : w0.heap.size ≤ gb102));replace HBW := m0_ (qj_ HBW.out hb);clear hb hbox hg))
 go_ret
 exact ⟨_, rfl, (show IsS79 w0 _ gb102 (l0.take 2000) 0 from ⟨_, _, by (with_reducible repeat (first | refine qc_ ?_ _ | refine qd_ ?_ | refine qb_ ?_ _));exact BK102.out, GE102.out, HR101.out⟩), by repeat (first | (with_reducible first | exact HB.out | apply qg_ | apply qa_ | apply qf_ | refine qe_ ?_ GE102.out) | exact HB.out), by repeat (first | (with_reducible first | exact HBW.out | apply qg_ | apply qa_ | apply qf_ | refine qe_ ?_ GW102.out) | exact HBW.out)⟩

def spec_DrawExText.f (k : Nat) (l0 : List Int) : Option (Int × Int × Int × (List (S29))) := (spec_l14Open.f l0).bind fun bt102 => ((spec_l2Bent.f k bt102.1 bt102.2).bind fun bt105 => (some (bt105.1, bt105.2.1, bt105.2.2.1, bt105.2.2.2.1)))
set_option maxHeartbeats 8000000 in
set_option maxRecDepth 100000 in
theorem spec_DrawExText.calls (k : Nat) (A0 : Option Addr) (c0 : Nat) (l0 : List Int) (r1 : Int) (r2 : Int) (r3 : Int) (r4 : List (S29)) (w : World) (hr0 : Kd.C (Kd.int .u8) w A0 l0.length l0) (hc0 : l0.length ≤ c0) (h : spec_DrawExText.f k l0 = some (r1, r2, r3, r4)) :
  Calls Tryd.prog 25 #[.slice A0 l0.length c0] w fun e w' => ∃ v3_ : Value, e = .returned (.agg #[.int .i64 r1, .int .i64 r2, .int .i64 r3, v3_]) ∧ Kd.N k29 29 w' w.heap.size (fun k_ => (w.heap.size ≤ k_)) v3_ r4 ∧ Below w.heap.size w w' := by
 have hu29 := Tryd.underlying29
 have HR0 := m0_ hr0
 have HC0 := m0_ hc0
 clear hr0 hc0
 have HB := m0_ (Below.refl w.heap.size w)
 have H : ((spec_l14Open.f l0).bind fun bt102 => ((spec_l2Bent.f k bt102.1 bt102.2).bind fun bt105 => (some (bt105.1, bt105.2.1, bt105.2.2.1, bt105.2.2.2.1)))) = some (r1, r2, r3, r4) := h
 clear h
 replace H := Option.bind_eq_some_iff.mp H
 obtain ⟨⟨t102, t103⟩, A20, H⟩ := H
 replace H : ((spec_l2Bent.f k t102 t103).bind fun bt105 => (some (bt105.1, bt105.2.1, bt105.2.2.1, bt105.2.2.2.1))) = some (r1, r2, r3, r4) := H
 have A2 := m0_ A20
 clear A20
 replace H := Option.bind_eq_some_iff.mp H
 obtain ⟨⟨t105, t106, t107, t108, t111⟩, A30, H⟩ := H
 replace H : (some (t105, t106, t107, t108)) = some (r1, r2, r3, r4) := H
 have A3 := m0_ A30
 clear A30
 simp only [Option.some.injEq, Prod.mk.injEq] at H
 obtain ⟨rfl, rfl, rfl, rfl⟩ := H
 go_enter Tryd.func25, Tryd.ntmps25
 go_wp2_with (first | ((with_reducible refine gate_dst (N := 2) rfl ?_);refine qs_ ?hg (N := 2) ?hd (cs := #[.int .i64 0, .int .i64 0, .int .i64 0, .slice none 0 0]) (t := 29) ?hr ?_;(case hd => rfl);(case hg => rfl);(case hr => first | (go_simp;done) | (go_simp;rfl));intro gb101 hg w4 hbox hb;have BK101 := m0_ (hbox);have GW101 := m0_ ((by rw [hg];exact (qp_ (by exact HB.out)) : w.heap.size ≤ gb101));have GE101 := m0_ ((by rw [hg];exact (qp_ (by exact HB.out)) : w.heap.size ≤ gb101));replace HB := m0_ (qj_ (by exact HB.out) hb);clear hb hbox hg) | ((with_reducible refine gate_callee (f := 33) rfl ?_);refine goesL_ (some 4) rfl rfl Tryd.func33 (by kernel_rfl) rfl #[.slice A0 l0.length c0] rfl (by (try simp only [List.map_toArray, List.map_cons, List.map_nil]);first | done | rfl | (simp only [List.length_drop, List.length_take];rfl)) ?_;(with_reducible refine (spec_l14Open.calls _ _ l0 t102 t103 w _ ?side1 ?side2 ?side3 A2.out).mono ?_);(case side1 => repeat (first | (with_reducible first | exact HB.out | apply qg_ | apply qa_ | apply qf_ | refine qe_ ?_ GE101.out) | exact HB.out));(case side2 => exact HR0.out);(case side3 => exact HC0.out);rintro e w5 ⟨g104, rfl, hi, hb, hb2⟩;refine ⟨_, rfl, ?_⟩;replace HB := m0_ (hb);have HI104 := m0_ (hi);have NB104_101 := m0_ (IsS79.ne_blk hi (qk_ BK101.out hb2) (by decide));have NB101_104 := m0_ (Ne.symm (IsS79.ne_blk hi (qk_ BK101.out hb2) (by decide)));replace BK101 := m0_ (qk_ BK101.out hb2);(try clear hb);(try clear hb2);(try clear hk);(try clear hi)) | ((with_reducible refine gate_callee (f := 32) rfl ?_);refine goesL_ (some 5) rfl rfl Tryd.func32 (by kernel_rfl) rfl #[.pointer (some ⟨g104, 0, none⟩)] rfl (by (try simp only [List.map_toArray, List.map_cons, List.map_nil]);first | done | rfl | (simp only [List.length_drop, List.length_take];rfl)) ?_;(with_reducible refine (spec_l2Bent.calls k g104 t102 t103 t105 t106 t107 t108 t111 w _ ?side1 ?side2 A3.out).mono ?_);(case side1 => repeat (first | (with_reducible first | exact HI104.out | apply IsS79.alloc | apply IsS79.drewN | apply IsS79.drew | apply IsS79.set_1 | refine IsS79.far ?_ NB104_101.out _) | exact HI104.out));(case side2 => repeat (first | (with_reducible first | exact HB.out | apply qg_ | apply qa_ | apply qf_ | refine qe_ ?_ (IsS79.ge HI104.out) | refine qe_ ?_ GE101.out) | exact HB.out));rintro e w6 ⟨v109, rfl, ho0, hi, hb, hk⟩;refine ⟨_, rfl, ?_⟩;have HO110 := m0_ (Kd.N_lower (Kd.N_mono (ok' := fun k_ => (w.heap.size ≤ k_) ∧ k_ ≠ gb101 ∧ k_ ≠ g104) ho0 (fun k_ hk_ => ⟨(Nat.le_trans (qp_ (by repeat (first | (with_reducible first | exact HB.out | apply qg_ | apply qa_ | apply qf_ | refine qe_ ?_ (IsS79.ge HI104.out) | refine qe_ ?_ GE101.out) | exact HB.out))) hk_), (Kd.freshB BK101.out k_ hk_), (IsS79.fresh (by repeat (first | (with_reducible first | exact HI104.out | apply IsS79.alloc | apply IsS79.drewN | apply IsS79.drew | apply IsS79.set_1 | refine IsS79.far ?_ NB104_101.out _) | exact HI104.out)) k_ hk_)⟩)) (qp_ (by repeat (first | (with_reducible first | exact HB.out | apply qg_ | apply qa_ | apply qf_ | refine qe_ ?_ (IsS79.ge HI104.out) | refine qe_ ?_ GE101.out) | exact HB.out))));replace BK101 := m0_ (KeepBut.blk hk (g' := gb101) (o := .cells #[.int .i64 0, .int .i64 0, .int .i64 0, .slice none 0 0] 29 (0, 0)) (by (with_reducible repeat (first | refine qc_ ?_ _ | refine qd_ ?_ | refine qb_ ?_ _));exact BK101.out) NB101_104.out (by simp));replace HB := m0_ (hb);replace HI104 := m0_ (hi);(try clear hb);(try clear hb2);(try clear hk);(try clear hi);(try clear ho0);have hnb7 := NB101_104.out;have hnc7 := NB104_101.out;obtain ⟨hcz8_0, hcz8_1, hcz8_2, hcz8_3, hfz8_0, hfz8_1, hfz8_2, hfz8_3⟩ := bx4 BK101.out;obtain ⟨Ao9, co9, eo9⟩ := Kd.N_slice HO110.out;subst eo9))
 refine bodyPost_ret (results_cell_row rfl _ _ gb101 29 #[.int .i64 t105, .int .i64 t106, .int .i64 t107, .slice Ao9 t108.length co9] (0, 0) _ rfl (by (with_reducible repeat (first | refine qc_ ?_ _ | refine qd_ ?_ | refine qb_ ?_ _));refine ql_ (cs := #[.int .i64 t105, .int .i64 t106, .int .i64 t107, .slice none 0 0]) ?_ 3 _ rfl;(with_reducible repeat (first | refine qc_ ?_ _ | refine qd_ ?_ | refine qb_ ?_ _));refine ql_ (cs := #[.int .i64 t105, .int .i64 t106, .int .i64 0, .slice none 0 0]) ?_ 2 _ rfl;(with_reducible repeat (first | refine qc_ ?_ _ | refine qd_ ?_ | refine qb_ ?_ _));refine ql_ (cs := #[.int .i64 t105, .int .i64 0, .int .i64 0, .slice none 0 0]) ?_ 1 _ rfl;(with_reducible repeat (first | refine qc_ ?_ _ | refine qd_ ?_ | refine qb_ ?_ _));refine ql_ (cs := #[.int .i64 0, .int .i64 0, .int .i64 0, .slice none 0 0]) ?_ 0 _ rfl;(with_reducible repeat (first | refine qc_ ?_ _ | refine qd_ ?_ | refine qb_ ?_ _));exact BK101.out) Tryd.underlying29 rfl (by kernel_rfl)) rfl ?_
 exact ⟨_, by first | rfl | (simp [errW_none, errW_some] <;> rfl) | (simp [*, errW_none, errW_some] <;> rfl), by (with_reducible repeat (first | apply Kd.N_alloc | apply Kd.N_drewN | apply Kd.N_drew));exact Kd.N_mono (Kd.N_far (p := ⟨gb101, 3, none⟩) (Kd.N_far (p := ⟨gb101, 2, none⟩) (Kd.N_far (p := ⟨gb101, 1, none⟩) (Kd.N_far (p := ⟨gb101, 0, none⟩) (Kd.N_mono HO110.out (fun k_ hk => (⟨hk, hk.2.1⟩ : _ ∧ k_ ≠ gb101))) (fun _ hk => hk.2) (.int .i64 t105)) (fun _ hk => hk.2) (.int .i64 t106)) (fun _ hk => hk.2) (.int .i64 t107)) (fun _ hk => hk.2) (.slice Ao9 t108.length co9)) (fun _ hk => hk.1.1), by repeat (first | (with_reducible first | exact HB.out | apply qg_ | apply qa_ | apply qf_ | refine qe_ ?_ (IsS79.ge HI104.out) | refine qe_ ?_ GE101.out) | exact HB.out)⟩

def spec_l14Rd_of.f (k : Nat) (s0_0 : List Int) (s0_1 : Int) (l1 : List ByteArray) : Option (ByteArray × Int) := (spec_l14Rd_pick.f k s0_0 s0_1 (l1.length : Int)).bind fun bt101 => (if 0 ≤ bt101.1 then (if bt101.1 < (l1.length : Int) then (some (rdOf ByteArray.empty l1 bt101.1, bt101.2)) else (none)) else (none))
set_option maxHeartbeats 8000000 in
set_option maxRecDepth 100000 in
theorem spec_l14Rd_of.calls (k : Nat) (g : Nat) (s0_0 : List Int) (s0_1 : Int) (A1 : Option Addr) (c1 : Nat) (l1 : List ByteArray) (r1 : ByteArray) (r2 : Int) (w0 w : World) (hI : IsS79 w0 w g s0_0 s0_1) (hB : Below w0.heap.size w0 w) (hr1 : Kd.C Kd.string w A1 l1.length l1) (hc1 : l1.length ≤ c1) (hf1 : ∀ ad, A1 = some ad → 0 < l1.length → ad.block ≠ g) (h : spec_l14Rd_of.f k s0_0 s0_1 l1 = some (r1, r2)) :
  Calls Tryd.prog 49 #[.pointer (some ⟨g, 0, none⟩), .slice A1 l1.length c1] w fun e w' => e = .returned (.string r1) ∧ IsS79 w0 w' g s0_0 r2 ∧ Below w0.heap.size w0 w' ∧ KeepBut w w' g none := by
 have HR1 := m0_ hr1
 have HC1 := m0_ hc1
 clear hr1 hc1
 have HI0 := m0_ hI
 have HK := m0_ (KeepBut.refl w g none)
 have HL := m0_ hB.size
 clear hI
 have HW0 := m0_ hB.size
 have HB := m0_ hB
 clear hB
 have H : ((spec_l14Rd_pick.f k s0_0 s0_1 (l1.length : Int)).bind fun bt101 => (if 0 ≤ bt101.1 then (if bt101.1 < (l1.length : Int) then (some (rdOf ByteArray.empty l1 bt101.1, bt101.2)) else (none)) else (none))) = some (r1, r2) := h
 clear h
 replace H := Option.bind_eq_some_iff.mp H
 obtain ⟨⟨t101, t102⟩, A30, H⟩ := H
 replace H : (if 0 ≤ t101 then (if t101 < (l1.length : Int) then (some (rdOf ByteArray.empty l1 t101, t102)) else (none)) else (none)) = some (r1, r2) := H
 have A3 := m0_ A30
 clear A30
 by_cases c4 : 0 ≤ t101
 rotate_left
 ·rw [if_neg c4] at H
  exact absurd H (by simp)
 rw [if_pos c4] at H
 have c4b0 : decide (0 ≤ t101) = true := decide_eq_true c4
 clear c4
 by_cases c5 : t101 < (l1.length : Int)
 ·rw [if_pos c5] at H
  have c5b0 : decide (t101 < (l1.length : Int)) = true := decide_eq_true c5
  clear c5
  simp only [Option.some.injEq, Prod.mk.injEq] at H
  obtain ⟨rfl, rfl⟩ := H
  go_enter Tryd.func49, Tryd.ntmps49
  go_wp2_with (first | ((with_reducible refine gate_callee (f := 48) rfl ?_);refine goesL_ (some 9) rfl rfl Tryd.func48 (by kernel_rfl) rfl #[.pointer (some ⟨g, 0, none⟩), .int .i64 (l1.length : Int)] rfl (by (try simp only [List.map_toArray, List.map_cons, List.map_nil]);first | done | rfl | (simp only [List.length_drop, List.length_take];rfl)) ?_;(with_reducible refine (spec_l14Rd_pick.calls k g s0_0 s0_1 (l1.length : Int) t101 t102 w0 _ ?side1 ?side2 A3.out).mono ?_);(case side1 => repeat (first | (with_reducible first | exact HI0.out | apply IsS79.alloc | apply IsS79.drewN | apply IsS79.drew | apply IsS79.set_1) | exact HI0.out));(case side2 => repeat (first | (with_reducible first | exact HB.out | apply qg_ | apply qa_ | apply qf_ | refine qe_ ?_ (IsS79.ge HI0.out)) | exact HB.out));rintro e w6 ⟨rfl, hi, hb, hk⟩;refine ⟨_, rfl, ?_⟩;replace HK := m0_ (KeepBut.trans (by repeat (first | (with_reducible first | exact HK.out | apply qi_ | apply qm_ | apply qo_ | apply qn_) | exact HK.out)) hk (.inl rfl));replace HB := m0_ (hb);replace HI0 := m0_ (hi);(try clear hb);(try clear hb2);(try clear hk);(try clear hi);have p103 : 0 ≤ (t101 : Int) := qu_ (by first | (with_reducible assumption) | assumption);have q103 : t101 < (l1.length : Int) := qu_ (by first | (with_reducible assumption) | assumption);obtain ⟨ad103, e103, hx103_0⟩ := Kd.at_string HR1.out t101 p103 q103;cases e103;replace hx103_0 := keep_cell HK.out hx103_0 (by first | (rw [qq_];exact hf1 _ rfl (by omega)) | exact hf1 _ rfl (by omega) | exact hf1 ad103 rfl (by omega));replace p103 := eq_true p103;replace q103 := eq_true q103))
  go_ret
  exact ⟨by first | rfl | (simp [errW_none, errW_some] <;> rfl) | (simp [*, errW_none, errW_some] <;> rfl), by repeat (first | (with_reducible first | exact HI0.out | apply IsS79.alloc | apply IsS79.drewN | apply IsS79.drew | apply IsS79.set_1) | exact HI0.out), by repeat (first | (with_reducible first | exact HB.out | apply qg_ | apply qa_ | apply qf_ | refine qe_ ?_ (IsS79.ge HI0.out)) | exact HB.out), by repeat (first | (with_reducible first | exact HK.out | apply qi_ | apply qm_ | apply qo_ | apply qn_) | exact HK.out)⟩
 ·rw [if_neg c5] at H
  exact absurd H (by simp)

def spec_l1Letter.f (a0 : Int) : Option (ByteArray) := if a0 < 0 then (some (⟨#[63]⟩ : ByteArray)) else (if a0 ≥ 5 then (some (⟨#[63]⟩ : ByteArray)) else (if 0 ≤ a0 then (if a0 ≤ (wrap64 (a0 + 1)) then (if (wrap64 (a0 + 1)) ≤ 5 then (some ((⟨#[97, 98, 99, 100, 101]⟩ : ByteArray).extract (a0 : Int).toNat ((wrap64 (a0 + 1)) : Int).toNat)) else (none)) else (none)) else (none)))
set_option maxHeartbeats 8000000 in
set_option maxRecDepth 100000 in
theorem spec_l1Letter.calls (a0 : Int) (r : ByteArray) (w : World) (h : spec_l1Letter.f a0 = some r) :
  Calls Tryd.prog 50 #[.int .i64 a0] w fun e w' => e = .returned (.string r) ∧ Drawn0 w w' := by
 have H : (if a0 < 0 then (some (⟨#[63]⟩ : ByteArray)) else (if a0 ≥ 5 then (some (⟨#[63]⟩ : ByteArray)) else (if 0 ≤ a0 then (if a0 ≤ (wrap64 (a0 + 1)) then (if (wrap64 (a0 + 1)) ≤ 5 then (some ((⟨#[97, 98, 99, 100, 101]⟩ : ByteArray).extract (a0 : Int).toNat ((wrap64 (a0 + 1)) : Int).toNat)) else (none)) else (none)) else (none)))) = some r := h
 clear h
 by_cases c2 : a0 < 0
 ·rw [if_pos c2] at H
  have c2b0 : decide (a0 < 0) = true := decide_eq_true c2
  clear c2
  obtain rfl := Option.some.inj H
  go_enter Tryd.func50, Tryd.ntmps50
  go_wp2
  go_ret
  exact ⟨by first | rfl | (simp;done) | (simp [*];done), by repeat (first | exact Drawn0.refl _ | apply Drawn0.step)⟩
 rw [if_neg c2] at H
 have c2b0 : decide (a0 < 0) = false := decide_eq_false c2
 clear c2
 by_cases c3 : a0 ≥ 5
 ·rw [if_pos c3] at H
  have c3b0 : decide (5 ≤ a0) = true := decide_eq_true c3
  clear c3
  obtain rfl := Option.some.inj H
  go_enter Tryd.func50, Tryd.ntmps50
  go_wp2
  go_ret
  exact ⟨by first | rfl | (simp;done) | (simp [*];done), by repeat (first | exact Drawn0.refl _ | apply Drawn0.step)⟩
 rw [if_neg c3] at H
 have c3b0 : decide (5 ≤ a0) = false := decide_eq_false c3
 clear c3
 by_cases c4 : 0 ≤ a0
 rotate_left
 ·rw [if_neg c4] at H
  exact absurd H (by simp)
 rw [if_pos c4] at H
 have c4b0 := eq_true c4
 have c4b1 : decide (0 ≤ a0) = true := decide_eq_true c4
 clear c4
 by_cases c5 : a0 ≤ (wrap64 (a0 + 1))
 ·rw [if_pos c5] at H
  have c5b0 := eq_true c5
  have c5b1 : decide (a0 ≤ (wrap64 (a0 + 1))) = true := decide_eq_true c5
  by_cases c6 : (wrap64 (a0 + 1)) ≤ 5
  ·rw [if_pos c6] at H
   have c6b0 := eq_true c6
   have c6b1 : decide ((wrap64 (a0 + 1)) ≤ 5) = true := decide_eq_true c6
   obtain rfl := Option.some.inj H
   go_enter Tryd.func50, Tryd.ntmps50
   go_wp2
   go_ret
   exact ⟨by first | rfl | (simp;done) | (simp [*];done), by repeat (first | exact Drawn0.refl _ | apply Drawn0.step)⟩
  ·rw [if_neg c6] at H
   exact absurd H (by simp)
 ·rw [if_neg c5] at H
  exact absurd H (by simp)

mutual
def spec_l14Dec.l0 : Nat → Int → ByteArray → Option (ByteArray)
 | 0, _, _ => none
 | k + 1, x0, x3 => if x0 > 9 then ((some (([(wrap64 (48 + (Int.tmod x0 10))) % 256] : List Int) : List Int)).bind fun y102 => (if (strOfNums y102).size + x3.size ≤ 9223372036854775807 then (spec_l14Dec.l0 k (wrap64 (Int.tdiv x0 10)) ((strOfNums y102) ++ x3)) else (none))) else ((some (([(wrap64 (48 + x0)) % 256] : List Int) : List Int)).bind fun y105 => (if (strOfNums y105).size + x3.size ≤ 9223372036854775807 then (some ((strOfNums y105) ++ x3)) else (none)))
def spec_l14Dec.f : Nat → Int → Option (ByteArray)
 | 0, _ => none
 | k + 1, a0 => if a0 < (-9223372036854775807) then (some (⟨#[45, 57, 50, 50, 51, 51, 55, 50, 48, 51, 54, 56, 53, 52, 55, 55, 53, 56, 48, 56]⟩ : ByteArray)) else (if a0 < 0 then ((spec_l14Dec.f k (wrap64 (-a0))).bind fun t101 => (if 1 + t101.size ≤ 9223372036854775807 then (some ((⟨#[45]⟩ : ByteArray) ++ t101)) else (none))) else (spec_l14Dec.l0 k a0 (⟨#[]⟩ : ByteArray)))
end
set_option maxHeartbeats 8000000 in
set_option maxRecDepth 100000 in
theorem spec_l14Dec.calls (k : Nat) : ∀ (a0 : Int) (r : ByteArray) (w : World) (h : spec_l14Dec.f k a0 = some r),
  Calls Tryd.prog 52 #[.int .i64 a0] w fun e w' => e = .returned (.string r) ∧ Below w.heap.size w w' := by
 induction k using Nat.strongRecOn with
 | _ k ih =>
 intro a0 r w h
 cases k with
 | zero => exact absurd h (by simp [spec_l14Dec.f])
 | succ k =>
 simp only [spec_l14Dec.f] at h
 have HB := m0_ (Below.refl w.heap.size w)
 have H : (if a0 < (-9223372036854775807) then (some (⟨#[45, 57, 50, 50, 51, 51, 55, 50, 48, 51, 54, 56, 53, 52, 55, 55, 53, 56, 48, 56]⟩ : ByteArray)) else (if a0 < 0 then ((spec_l14Dec.f k (wrap64 (-a0))).bind fun t101 => (if 1 + t101.size ≤ 9223372036854775807 then (some ((⟨#[45]⟩ : ByteArray) ++ t101)) else (none))) else (spec_l14Dec.l0 k a0 (⟨#[]⟩ : ByteArray)))) = some r := h
 clear h
 by_cases c2 : a0 < (-9223372036854775807)
 ·rw [if_pos c2] at H
  have c2b0 : decide (a0 < (-9223372036854775807)) = true := decide_eq_true c2
  clear c2
  obtain rfl := Option.some.inj H
  go_enter Tryd.func52, Tryd.ntmps52
  go_wp2
  go_ret
  exact ⟨by first | rfl | (simp [errW_none, errW_some] <;> rfl) | (simp [*, errW_none, errW_some] <;> rfl), by repeat (first | (with_reducible first | exact HB.out | apply qg_ | apply qa_ | apply qf_) | exact HB.out)⟩
 rw [if_neg c2] at H
 have c2b0 : decide (a0 < (-9223372036854775807)) = false := decide_eq_false c2
 clear c2
 by_cases c3 : a0 < 0
 ·rw [if_pos c3] at H
  have c3b0 : decide (a0 < 0) = true := decide_eq_true c3
  clear c3
  replace H := Option.bind_eq_some_iff.mp H
  obtain ⟨t101, A40, H⟩ := H
  replace H : (if 1 + t101.size ≤ 9223372036854775807 then (some ((⟨#[45]⟩ : ByteArray) ++ t101)) else (none)) = some r := H
  have A4 := m0_ A40
  clear A40
  by_cases c5 : 1 + t101.size ≤ 9223372036854775807
  ·rw [if_pos c5] at H
   have c5b0 := eq_true c5
   have c5b1 : decide (1 + t101.size ≤ 9223372036854775807) = true := decide_eq_true c5
   try have c5b2 : (9223372036854775807 < 1 + t101.size) = False := eq_false (Nat.not_lt.2 c5)
   obtain rfl := Option.some.inj H
   go_enter Tryd.func52, Tryd.ntmps52
   go_wp2_with (first | ((with_reducible refine gate_callee (f := 52) rfl ?_);refine goesL_ (some 10) rfl rfl Tryd.func52 (by kernel_rfl) rfl #[.int .i64 (wrap64 (-a0))] rfl (by (try simp only [List.map_toArray, List.map_cons, List.map_nil]);first | done | rfl | (simp only [List.length_drop, List.length_take];rfl)) ?_;(with_reducible refine (ih k (by omega) (wrap64 (-a0)) t101 _ A4.out).mono ?_);rintro e w6 ⟨rfl, hb⟩;refine ⟨_, rfl, ?_⟩;replace HB := m0_ (qj_ (by exact HB.out) hb);(try clear hb);(try clear hb2);(try clear hk);(try clear hi)))
   go_ret
   exact ⟨by first | rfl | (simp [errW_none, errW_some] <;> rfl) | (simp [*, errW_none, errW_some] <;> rfl), by repeat (first | (with_reducible first | exact HB.out | apply qg_ | apply qa_ | apply qf_) | exact HB.out)⟩
  ·rw [if_neg c5] at H
   exact absurd H (by simp)
 rw [if_neg c3] at H
 have c3b0 : decide (a0 < 0) = false := decide_eq_false c3
 clear c3
 have H' := m0_ H
 clear H
 go_enter Tryd.func52, Tryd.ntmps52
 go_wp2
 go_loopg [0, 3] k (fun kq v0 v3 w' => ∃ (x0_1 : Int) (x3_1 : ByteArray), v0 = .int .i64 x0_1 ∧ v3 = .string x3_1 ∧ Aside0 (spec_l14Dec.l0 kq x0_1 x3_1 = some r) ∧ Aside0 (kq ≤ k) ∧ Aside0 (Below w.heap.size w w'))
 case atStart => exact ⟨(a0), ((⟨#[]⟩ : ByteArray)), (by first | rfl | (simp;done) | (simp [*];done)), (by first | rfl | (simp;done) | (simp [*];done)), H', ⟨Nat.le_refl _⟩, ⟨by repeat (first | (with_reducible first | exact HB.out | apply qg_ | apply qa_ | apply qf_) | exact HB.out)⟩⟩
 case round =>
  clear H'
  try clear c2
  try clear c2b0
  try clear p2
  try clear c3
  try clear c3b0
  try clear c5
  try clear c5b0
  try clear c5b1
  try clear c5b2
  try clear p6
  obtain ⟨x0_1, x3_1, rfl, rfl, HA, HK1, HB⟩ := hrel
  cases gk with
  | zero => exact absurd HA.out (by simp [spec_l14Dec.l0])
  | succ k1 =>
   have H := HA.out
   clear HA
   simp only [spec_l14Dec.l0] at H
   by_cases c7 : x0_1 > 9
   rotate_left
   ·rw [if_neg c7] at H
    have c7b0 : decide (9 < x0_1) = false := decide_eq_false c7
    clear c7
    obtain ⟨y105, hy105⟩ : ∃ y_ : List Int, y_ = (([(wrap64 (48 + x0_1)) % 256] : List Int)) := ⟨_, rfl⟩
    replace H : (if (strOfNums y105).size + x3_1.size ≤ 9223372036854775807 then (some ((strOfNums y105) ++ x3_1)) else (none)) = some r := by first | (rw [hy105];with_reducible exact H) | (have H2_ := (Option.bind_some _ _).symm.trans H;rw [hy105];with_reducible exact H2_) | (have H2_ := (Option.bind_some _ _).symm.trans H;with_reducible exact H2_) | with_reducible exact H | (rw [hy105];exact H) | exact H
    have Ny105 := m0_ hy105
    clear hy105
    by_cases c12 : (strOfNums y105).size + x3_1.size ≤ 9223372036854775807
    ·rw [if_pos c12] at H
     have c12b0 := eq_true c12
     have c12b1 : decide ((strOfNums y105).size + x3_1.size ≤ 9223372036854775807) = true := decide_eq_true c12
     try have c12b2 : (9223372036854775807 < (strOfNums y105).size + x3_1.size) = False := eq_false (Nat.not_lt.2 c12)
     obtain rfl := Option.some.inj H
     go_wp2_with (first | ((with_reducible refine gate_dst (N := 27) rfl ?_);refine Kd.R_lit (Kd.int .u8) _ 5 ?hg (N := 27) ?hd (xs := ([(wrap64 (48 + x0_1)) % 256] : List Int)) (inner := [.int .u8 ((wrap64 (48 + x0_1)) % 256)]) (ok := fun _ => True) (okp := fun _ => True) ?hr ?hp (fun _ hk => hk) trivial (Below.refl _ _) (Nat.le_refl _) (by simp) ?_;(case hd => rfl);(case hg => rfl);(case hr => first | (go_simp;done) | (go_simp;rfl));(case hp => exact (Reps.one (show Kd.M (Kd.int .u8) _ _ _ ((wrap64 (48 + x0_1)) % 256) [.int .u8 ((wrap64 (48 + x0_1)) % 256)] from rfl) (Reps.none _ _)));intro v106 w13 ho14 hb hg_ hnew_;clear hg_ hnew_;(first | rw [← Ny105.out] at ho14 | (simp only [Int.reduceToNat] at ho14;rw [← Ny105.out] at ho14));have HO107 := m0_ (Kd.R_lower ho14 (qp_ (by exact HB.out)));replace HB := m0_ (qj_ (by exact HB.out) hb);clear hb ho14;have hcv15 := own_string (P := Tryd.prog) Tryd.underlying33 Tryd.underlying5 Tryd.underlying9 (Kd.own_of_R HO107.out)))
     go_ret
     exact ⟨by first | rfl | (simp [errW_none, errW_some] <;> rfl) | (simp [*, errW_none, errW_some] <;> rfl), by repeat (first | (with_reducible first | exact HB.out | apply qg_ | apply qa_ | apply qf_) | exact HB.out)⟩
    ·rw [if_neg c12] at H
     exact absurd H (by simp)
   rw [if_pos c7] at H
   have c7b0 : decide (9 < x0_1) = true := decide_eq_true c7
   clear c7
   obtain ⟨y102, hy102⟩ : ∃ y_ : List Int, y_ = (([(wrap64 (48 + (Int.tmod x0_1 10))) % 256] : List Int)) := ⟨_, rfl⟩
   replace H : (if (strOfNums y102).size + x3_1.size ≤ 9223372036854775807 then (spec_l14Dec.l0 k1 (wrap64 (Int.tdiv x0_1 10)) ((strOfNums y102) ++ x3_1)) else (none)) = some r := by first | (rw [hy102];with_reducible exact H) | (have H2_ := (Option.bind_some _ _).symm.trans H;rw [hy102];with_reducible exact H2_) | (have H2_ := (Option.bind_some _ _).symm.trans H;with_reducible exact H2_) | with_reducible exact H | (rw [hy102];exact H) | exact H
   have Ny102 := m0_ hy102
   clear hy102
   by_cases c8 : (strOfNums y102).size + x3_1.size ≤ 9223372036854775807
   ·rw [if_pos c8] at H
    have c8b0 := eq_true c8
    have c8b1 : decide ((strOfNums y102).size + x3_1.size ≤ 9223372036854775807) = true := decide_eq_true c8
    try have c8b2 : (9223372036854775807 < (strOfNums y102).size + x3_1.size) = False := eq_false (Nat.not_lt.2 c8)
    have H' := m0_ H
    clear H
    go_wp2_with (first | ((with_reducible refine gate_dst (N := 18) rfl ?_);refine Kd.R_lit (Kd.int .u8) _ 5 ?hg (N := 18) ?hd (xs := ([(wrap64 (48 + (Int.tmod x0_1 10))) % 256] : List Int)) (inner := [.int .u8 ((wrap64 (48 + (Int.tmod x0_1 10))) % 256)]) (ok := fun _ => True) (okp := fun _ => True) ?hr ?hp (fun _ hk => hk) trivial (Below.refl _ _) (Nat.le_refl _) (by simp) ?_;(case hd => rfl);(case hg => rfl);(case hr => first | (go_simp;done) | (go_simp;rfl));(case hp => exact (Reps.one (show Kd.M (Kd.int .u8) _ _ _ ((wrap64 (48 + (Int.tmod x0_1 10))) % 256) [.int .u8 ((wrap64 (48 + (Int.tmod x0_1 10))) % 256)] from rfl) (Reps.none _ _)));intro v103 w9 ho10 hb hg_ hnew_;clear hg_ hnew_;(first | rw [← Ny102.out] at ho10 | (simp only [Int.reduceToNat] at ho10;rw [← Ny102.out] at ho10));have HO104 := m0_ (Kd.R_lower ho10 (qp_ (by exact HB.out)));replace HB := m0_ (qj_ (by exact HB.out) hb);clear hb ho10;have hcv11 := own_string (P := Tryd.prog) Tryd.underlying33 Tryd.underlying5 Tryd.underlying9 (Kd.own_of_R HO104.out)))
    go_roundg k1
    case measure => have := HK1.out;omega
    case rel => exact ⟨(wrap64 (Int.tdiv x0_1 10)), ((strOfNums y102) ++ x3_1), (by first | rfl | (simp;done) | (simp [*];done)), (by first | rfl | (simp;done) | (simp [*];done)), H', ⟨by have := HK1.out;omega⟩, ⟨by repeat (first | (with_reducible first | exact HB.out | apply qg_ | apply qa_ | apply qf_) | exact HB.out)⟩⟩
   ·rw [if_neg c8] at H
    exact absurd H (by simp)

mutual
def spec_l2Text.j0 : Nat → ByteArray → Int → Int → Int → List (S29) → Option (ByteArray)
 | 0, _, _, _, _, _ => none
 | k + 1, x3, x102000, x102001, x102002, x102003 => spec_l2Text.l0 k x3 0 x102000 x102001 x102002 x102003
def spec_l2Text.l0 : Nat → ByteArray → Int → Int → Int → Int → List (S29) → Option (ByteArray)
 | 0, _, _, _, _, _, _ => none
 | k + 1, x3, x4, x102000, x102001, x102002, x102003 => if x4 < (x102003.length : Int) then (if x3.size + 1 ≤ 9223372036854775807 then (if 0 ≤ x4 then ((spec_l2Text.f k ((rd_T29 x102003 x4).f0) ((rd_T29 x102003 x4).f1) ((rd_T29 x102003 x4).f2) ((rd_T29 x102003 x4).f3)).bind fun t109 => (if (x3 ++ (⟨#[32]⟩ : ByteArray)).size + t109.size ≤ 9223372036854775807 then (spec_l2Text.l0 k ((x3 ++ (⟨#[32]⟩ : ByteArray)) ++ t109) (wrap64 (x4 + 1)) x102000 x102001 x102002 x102003) else (none))) else (none)) else (none)) else (some x3)
def spec_l2Text.f : Nat → Int → Int → Int → List (S29) → Option (ByteArray)
 | 0, _, _, _, _ => none
 | k + 1, a0_0, a0_1, a0_2, l0_3 => if a0_0 = 1 then ((spec_l1Letter.f a0_1).bind fun t102 => (some t102)) else ((spec_l2Words.f).bind fun t103 => (if 0 ≤ a0_0 then (if a0_0 < (t103.length : Int) then (if a0_0 = 7 then (if (rdOf ByteArray.empty t103 a0_0).size + 1 ≤ 9223372036854775807 then ((spec_l14Dec.f k a0_2).bind fun t107 => (if ((rdOf ByteArray.empty t103 a0_0) ++ (⟨#[32]⟩ : ByteArray)).size + t107.size ≤ 9223372036854775807 then (spec_l2Text.j0 k (((rdOf ByteArray.empty t103 a0_0) ++ (⟨#[32]⟩ : ByteArray)) ++ t107) a0_0 a0_1 a0_2 l0_3) else (none))) else (none)) else (spec_l2Text.j0 k (rdOf ByteArray.empty t103 a0_0) a0_0 a0_1 a0_2 l0_3)) else (none)) else (none)))
end
set_option maxHeartbeats 8000000 in
set_option maxRecDepth 100000 in
theorem spec_l2Text.calls (k : Nat) : ∀ (a0_0 : Int) (a0_1 : Int) (a0_2 : Int) (A0_3 : Option Addr) (c0_3 : Nat) (l0_3 : List (S29)) (r : ByteArray) (w : World) (hr0_3 : Kd.C k29 w A0_3 l0_3.length l0_3) (hc0_3 : l0_3.length ≤ c0_3) (h : spec_l2Text.f k a0_0 a0_1 a0_2 l0_3 = some r),
  Calls Tryd.prog 28 #[.agg #[.int .i64 a0_0, .int .i64 a0_1, .int .i64 a0_2, .slice A0_3 l0_3.length c0_3]] w fun e w' => e = .returned (.string r) ∧ Below w.heap.size w w' := by
 induction k using Nat.strongRecOn with
 | _ k ih =>
 intro a0_0 a0_1 a0_2 A0_3 c0_3 l0_3 r w hr0_3 hc0_3 h
 cases k with
 | zero => exact absurd h (by simp [spec_l2Text.f])
 | succ k =>
 simp only [spec_l2Text.f] at h
 have hu29 := Tryd.underlying29
 have HR0_3 := m0_ hr0_3
 have HC0_3 := m0_ hc0_3
 clear hr0_3 hc0_3
 have HB := m0_ (Below.refl w.heap.size w)
 have H : (if a0_0 = 1 then ((spec_l1Letter.f a0_1).bind fun t102 => (some t102)) else ((spec_l2Words.f).bind fun t103 => (if 0 ≤ a0_0 then (if a0_0 < (t103.length : Int) then (if a0_0 = 7 then (if (rdOf ByteArray.empty t103 a0_0).size + 1 ≤ 9223372036854775807 then ((spec_l14Dec.f k a0_2).bind fun t107 => (if ((rdOf ByteArray.empty t103 a0_0) ++ (⟨#[32]⟩ : ByteArray)).size + t107.size ≤ 9223372036854775807 then (spec_l2Text.j0 k (((rdOf ByteArray.empty t103 a0_0) ++ (⟨#[32]⟩ : ByteArray)) ++ t107) a0_0 a0_1 a0_2 l0_3) else (none))) else (none)) else (spec_l2Text.j0 k (rdOf ByteArray.empty t103 a0_0) a0_0 a0_1 a0_2 l0_3)) else (none)) else (none)))) = some r := h
 clear h
 by_cases c2 : a0_0 = 1
 ·rw [if_pos c2] at H
  have c2b0 : (a0_0 == 1) = true := beq_iff_eq.mpr c2
  have c2b1 : (a0_0 != 1) = false := bne_eq_false_iff_eq.mpr c2
  clear c2
  replace H := Option.bind_eq_some_iff.mp H
  obtain ⟨t102, A30, H⟩ := H
  replace H : (some t102) = some r := H
  have A3 := m0_ A30
  clear A30
  obtain rfl := Option.some.inj H
  go_enter Tryd.func28, Tryd.ntmps28
  go_wp2_with (first | ((with_reducible refine gate_dst (N := 1) rfl ?_);refine qs_ ?hg (N := 1) ?hd (cs := #[.int .i64 a0_0, .int .i64 a0_1, .int .i64 a0_2, .slice A0_3 l0_3.length c0_3]) (t := 29) ?hr ?_;(case hd => rfl);(case hg => rfl);(case hr => first | (go_simp;done) | (go_simp;rfl));intro gb101 hg w4 hbox hb;have BK101 := m0_ (hbox);have GW101 := m0_ ((by rw [hg];exact (qp_ (by exact HB.out)) : w.heap.size ≤ gb101));have GE101 := m0_ ((by rw [hg];exact (qp_ (by exact HB.out)) : w.heap.size ≤ gb101));replace HB := m0_ (qj_ (by exact HB.out) hb);clear hb hbox hg;obtain ⟨hcz5_0, hcz5_1, hcz5_2, hcz5_3, hfz5_0, hfz5_1, hfz5_2, hfz5_3⟩ := bx4 BK101.out) | ((with_reducible refine gate_callee (f := 50) rfl ?_);refine goesL_ (some 10) rfl rfl Tryd.func50 (by kernel_rfl) rfl #[.int .i64 a0_1] rfl (by (try simp only [List.map_toArray, List.map_cons, List.map_nil]);first | done | rfl | (simp only [List.length_drop, List.length_take];rfl)) ?_;(with_reducible refine (spec_l1Letter.calls a0_1 t102 _ A3.out).mono ?_);rintro e w' ⟨rfl, ⟨nd, rfl⟩⟩;refine ⟨_, rfl, ?_⟩) | (go_at_call 50;(with_reducible refine (spec_l1Letter.calls a0_1 t102 _ A3.out).mono ?_);rintro e w' ⟨rfl, ⟨nd, rfl⟩⟩))
  go_ret
  exact ⟨by first | rfl | (simp [errW_none, errW_some] <;> rfl) | (simp [*, errW_none, errW_some] <;> rfl), by repeat (first | (with_reducible first | exact HB.out | apply qg_ | apply qa_ | apply qf_ | refine qe_ ?_ GE101.out) | exact HB.out)⟩
 rw [if_neg c2] at H
 have c2b0 : (a0_0 == 1) = false := beq_eq_false_iff_ne.mpr c2
 have c2b1 : (a0_0 != 1) = true := bne_iff_ne.mpr c2
 replace H := Option.bind_eq_some_iff.mp H
 obtain ⟨t103, A60, H⟩ := H
 replace H : (if 0 ≤ a0_0 then (if a0_0 < (t103.length : Int) then (if a0_0 = 7 then (if (rdOf ByteArray.empty t103 a0_0).size + 1 ≤ 9223372036854775807 then ((spec_l14Dec.f k a0_2).bind fun t107 => (if ((rdOf ByteArray.empty t103 a0_0) ++ (⟨#[32]⟩ : ByteArray)).size + t107.size ≤ 9223372036854775807 then (spec_l2Text.j0 k (((rdOf ByteArray.empty t103 a0_0) ++ (⟨#[32]⟩ : ByteArray)) ++ t107) a0_0 a0_1 a0_2 l0_3) else (none))) else (none)) else (spec_l2Text.j0 k (rdOf ByteArray.empty t103 a0_0) a0_0 a0_1 a0_2 l0_3)) else (none)) else (none)) = some r := H
 have A6 := m0_ A60
 clear A60
 by_cases c7 : 0 ≤ a0_0
 rotate_left
 ·rw [if_neg c7] at H
  exact absurd H (by simp)
 rw [if_pos c7] at H
 have c7b0 : decide (0 ≤ a0_0) = true := decide_eq_true c7
 clear c7
 by_cases c8 : a0_0 < (t103.length : Int)
 rotate_left
 ·rw [if_neg c8] at H
  exact absurd H (by simp)
 rw [if_pos c8] at H
 have c8b0 : decide (a0_0 < (t103.length : Int)) = true := decide_eq_true c8
 clear c8
 have HC9 := m0_ H
 clear H
 go_enter Tryd.func28, Tryd.ntmps28
 try go_wp2_with (first | ((with_reducible refine gate_dst (N := 1) rfl ?_);refine qs_ ?hg (N := 1) ?hd (cs := #[.int .i64 a0_0, .int .i64 a0_1, .int .i64 a0_2, .slice A0_3 l0_3.length c0_3]) (t := 29) ?hr ?_;(case hd => rfl);(case hg => rfl);(case hr => first | (go_simp;done) | (go_simp;rfl));intro gb101 hg w10 hbox hb;have BK101 := m0_ (hbox);have GW101 := m0_ ((by rw [hg];exact (qp_ (by exact HB.out)) : w.heap.size ≤ gb101));have GE101 := m0_ ((by rw [hg];exact (qp_ (by exact HB.out)) : w.heap.size ≤ gb101));replace HB := m0_ (qj_ (by exact HB.out) hb);clear hb hbox hg;obtain ⟨hcz11_0, hcz11_1, hcz11_2, hcz11_3, hfz11_0, hfz11_1, hfz11_2, hfz11_3⟩ := bx4 BK101.out))
 replace BK101 := m0_ (qd_ BK101.out)
 replace HB := m0_ (qf_ HB.out)
 refine start_ (n := 6) (S := fun w' => w'.cell? ⟨gb101, 0, none⟩ = some (.int .i64 a0_0) ∧ w'.cell? ⟨gb101, 1, none⟩ = some (.int .i64 a0_1) ∧ w'.cell? ⟨gb101, 2, none⟩ = some (.int .i64 a0_2) ∧ w'.cell? ⟨gb101, 3, none⟩ = some (.slice A0_3 l0_3.length c0_3)) (ds := []) #[false, false, false, false, false, false] (by kernel_rfl) rfl rfl ⟨(qh_ BK101.out 0).trans rfl, (qh_ BK101.out 1).trans rfl, (qh_ BK101.out 2).trans rfl, (qh_ BK101.out 3).trans rfl⟩ (fun hHeld => ?_)
 generalize w10.drew = w12 at BK101 HB hHeld ⊢
 refine pv_ 1 12 #[false, true, false, false, false, false] (by kernel_rfl) ?_
 refine take_ (i := 2) (N := some 13) (v := ?_) (a' := ?_) #[false, true, true, false, false, false] rfl rfl (by kernel_rfl) (fun _ _ _ h => h) (Or.inl ⟨by rfl, ?_⟩) hHeld ?_ ?_
 rotate_left
 ·rintro w' ⟨s0, s1, s2, s3⟩
  go_simp
  with_reducible rfl
 rotate_left
 ·simp only [Act.put, q0_, List.set_cons_zero, List.set_cons_succ, i64_w, i32_w]
  rfl
 refine one_ (i := 0) (N := some 11) #[true, true, true, false, false, false] rfl rfl (by kernel_rfl) (by decide) (fun K hK => ?_)
 refine goes_ Tryd.func51 (by kernel_rfl) rfl #[] (by rfl) rfl rfl (by (try simp only [List.map_toArray, List.map_cons, List.map_nil]);first | done | rfl | (simp only [List.length_drop, List.length_take];rfl)) ?_
 with_reducible refine (spec_l2Words.calls  t103 _ A6.out).mono ?_
 rintro e w13 ⟨v104, rfl, ho0, hb⟩
 refine ⟨_, rfl, ?_⟩
 have HO105 := m0_ (Kd.R_lower ho0 (qp_ (by exact HB.out)))
 replace BK101 := m0_ (qk_ BK101.out hb)
 replace HB := m0_ (qj_ (by exact HB.out) hb)
 (try clear hb)
 (try clear hb2)
 (try clear hk)
 (try clear hi)
 (try clear ho0)
 obtain ⟨Ao14, co14, eo14⟩ := Kd.R_slice HO105.out
 (first | subst eo14 | (injection eo14 with f1_ f2_ f3_;have f4_ := f1_.symm;have f5_ := f3_.symm;clear f1_ f2_ f3_;subst f4_;subst f5_))
 have p106 : 0 ≤ (a0_0 : Int) := qu_ (by first | (with_reducible assumption) | assumption)
 have q106 : a0_0 < (t103.length : Int) := qu_ (by first | (with_reducible assumption) | assumption)
 obtain ⟨ad106, e106, hx106_0⟩ := Kd.at_string (Kd.R_reads' HO105.out).2.2 a0_0 p106 q106
 cases e106
 replace p106 := eq_true p106
 replace q106 := eq_true q106
 refine hK.out _ _ ⟨(qh_ BK101.out 0).trans rfl, (qh_ BK101.out 1).trans rfl, (qh_ BK101.out 2).trans rfl, (qh_ BK101.out 3).trans rfl⟩ (fun hHeld => ?_)
 clear hK K
 refine norm_ (a' := ?_) ?_ ?_
 rotate_left
 ·show Act.put _ (some 11) _ = _
  simp only [Act.put, q0_, List.set_cons_zero, List.set_cons_succ, i64_w, i32_w]
  rfl
 refine pv_ 3 14 #[true, true, true, true, false, false] (by kernel_rfl) ?_
 refine one_ (i := 4) (N := some 15) #[true, true, true, true, true, false] rfl rfl (by kernel_rfl) (by decide) (fun K hK => ?_)
 refine value_ (w1 := w13) (v := .string (rdOf ByteArray.empty t103 a0_0)) (by rfl) rfl ?_ ?_
 ·go_simp
  try rfl
 refine hK.out _ _ ⟨(qh_ BK101.out 0).trans rfl, (qh_ BK101.out 1).trans rfl, (qh_ BK101.out 2).trans rfl, (qh_ BK101.out 3).trans rfl⟩ (fun hHeld => ?_)
 clear hK K
 refine norm_ (a' := ?_) ?_ ?_
 rotate_left
 ·show Act.put _ (some 15) _ = _
  simp only [Act.put, q0_, List.set_cons_zero, List.set_cons_succ, i64_w, i32_w]
  rfl
 refine pv_ 5 3 #[true, true, true, true, true, true] (by kernel_rfl) ?_
 refine done_ (by kernel_rfl) ?_
 obtain ⟨hcz15_0, hcz15_1, hcz15_2, hcz15_3, hfz15_0, hfz15_1, hfz15_2, hfz15_3⟩ := bx4 BK101.out
 go_upto_if 18 with (fail)
 go_cut [3] (fun v3 wc => ∃ (kq : Nat) (x3_8 : ByteArray), v3 = .string x3_8 ∧ Aside0 (spec_l2Text.j0 kq x3_8 a0_0 a0_1 a0_2 l0_3 = some r) ∧ Aside0 (kq ≤ k) ∧ Aside0 (wc.heap[gb101]? = some (.cells #[.int .i64 a0_0, .int .i64 a0_1, .int .i64 a0_2, (.slice A0_3 l0_3.length c0_3)] 29 (0, 0))) ∧ Aside0 (Below w.heap.size w wc))
 case first =>
  have H := HC9.out
  clear HC9
  by_cases c16 : a0_0 = 7
  rotate_left
  ·rw [if_neg c16] at H
   have c16b0 : (a0_0 == 7) = false := beq_eq_false_iff_ne.mpr c16
   have c16b1 : (a0_0 != 7) = true := bne_iff_ne.mpr c16
   (first | rw [c16b0] | (simp only [i64_w, i32_w];rw [c16b0]) | skip)
   have H' := m0_ H
   clear H
   go_wp2
   go_meet
   case rel => exact ⟨_, (rdOf ByteArray.empty t103 a0_0), (by first | rfl | (simp;done) | (simp [*];done)), H', ⟨by first | omega | exact Nat.le_refl _⟩, ⟨by (with_reducible repeat (first | refine qc_ ?_ _ | refine qd_ ?_ | refine qb_ ?_ _));exact BK101.out⟩, ⟨by repeat (first | (with_reducible first | exact HB.out | apply qg_ | apply qa_ | apply qf_ | refine qe_ ?_ GE101.out) | exact HB.out)⟩⟩
  rw [if_pos c16] at H
  have c16b0 : (a0_0 == 7) = true := beq_iff_eq.mpr c16
  have c16b1 : (a0_0 != 7) = false := bne_eq_false_iff_eq.mpr c16
  clear c16
  (first | rw [c16b0] | (simp only [i64_w, i32_w];rw [c16b0]) | skip)
  by_cases c17 : (rdOf ByteArray.empty t103 a0_0).size + 1 ≤ 9223372036854775807
  rotate_left
  ·rw [if_neg c17] at H
   exact absurd H (by simp)
  rw [if_pos c17] at H
  have c17b0 := eq_true c17
  have c17b1 : decide ((rdOf ByteArray.empty t103 a0_0).size + 1 ≤ 9223372036854775807) = true := decide_eq_true c17
  try have c17b2 : (9223372036854775807 < (rdOf ByteArray.empty t103 a0_0).size + 1) = False := eq_false (Nat.not_lt.2 c17)
  replace H := Option.bind_eq_some_iff.mp H
  obtain ⟨t107, A180, H⟩ := H
  replace H : (if ((rdOf ByteArray.empty t103 a0_0) ++ (⟨#[32]⟩ : ByteArray)).size + t107.size ≤ 9223372036854775807 then (spec_l2Text.j0 k (((rdOf ByteArray.empty t103 a0_0) ++ (⟨#[32]⟩ : ByteArray)) ++ t107) a0_0 a0_1 a0_2 l0_3) else (none)) = some r := H
  have A18 := m0_ A180
  clear A180
  by_cases c19 : ((rdOf ByteArray.empty t103 a0_0) ++ (⟨#[32]⟩ : ByteArray)).size + t107.size ≤ 9223372036854775807
  rotate_left
  ·rw [if_neg c19] at H
   exact absurd H (by simp)
  rw [if_pos c19] at H
  have c19b0 := eq_true c19
  have c19b1 : decide (((rdOf ByteArray.empty t103 a0_0) ++ (⟨#[32]⟩ : ByteArray)).size + t107.size ≤ 9223372036854775807) = true := decide_eq_true c19
  have c19z : ((rdOf ByteArray.empty t103 a0_0) ++ (⟨#[32]⟩ : ByteArray)).size + t107.size ≤ 9223372036854775807 := c19
  simp only [ByteArray.size_append, show (⟨#[32]⟩ : ByteArray).size = 1 from rfl] at c19z
  have c19z0 := eq_true c19z
  have c19z1 := decide_eq_true c19z
  have c19z2 := eq_false (Nat.not_lt.2 c19z)
  try have c19b2 : (9223372036854775807 < ((rdOf ByteArray.empty t103 a0_0) ++ (⟨#[32]⟩ : ByteArray)).size + t107.size) = False := eq_false (Nat.not_lt.2 c19)
  have H' := m0_ H
  clear H
  obtain ⟨hcz20_0, hcz20_1, hcz20_2, hcz20_3, hfz20_0, hfz20_1, hfz20_2, hfz20_3⟩ := bx4 BK101.out
  go_wp2_with (first | ((with_reducible refine gate_callee (f := 52) rfl ?_);refine goesL_ (some 23) rfl rfl Tryd.func52 (by kernel_rfl) rfl #[.int .i64 a0_2] rfl (by (try simp only [List.map_toArray, List.map_cons, List.map_nil]);first | done | rfl | (simp only [List.length_drop, List.length_take];rfl)) ?_;(with_reducible refine (spec_l14Dec.calls k a0_2 t107 _ A18.out).mono ?_);rintro e w21 ⟨rfl, hb⟩;refine ⟨_, rfl, ?_⟩;replace HO105 := m0_ (Kd.R_below (by exact HO105.out) hb);replace BK101 := m0_ (qk_ BK101.out hb);replace HB := m0_ (qj_ (by exact HB.out) hb);(try clear hb);(try clear hb2);(try clear hk);(try clear hi)))
  go_meet
  case rel => exact ⟨_, (((rdOf ByteArray.empty t103 a0_0) ++ (⟨#[32]⟩ : ByteArray)) ++ t107), (by first | rfl | (simp;done) | (simp [*];done)), H', ⟨by first | omega | exact Nat.le_refl _⟩, ⟨by (with_reducible repeat (first | refine qc_ ?_ _ | refine qd_ ?_ | refine qb_ ?_ _));exact BK101.out⟩, ⟨by repeat (first | (with_reducible first | exact HB.out | apply qg_ | apply qa_ | apply qf_ | refine qe_ ?_ GE101.out) | exact HB.out)⟩⟩
 case rest =>
  clear HC9
  try clear c1
  try clear p1
  try clear q1
  try clear hx1
  try clear c2
  try clear c2b0
  try clear c2b1
  try clear p2
  try clear c5
  try clear c7
  try clear c7b0
  try clear c8
  try clear c8b0
  try clear p10
  try clear q10
  try clear hx10
  try clear c16
  try clear c16b0
  try clear c16b1
  try clear c17
  try clear c17b0
  try clear c17b1
  try clear c17b2
  try clear c19
  try clear c19b0
  try clear c19b1
  try clear c19b2
  try clear hcz11_0
  try clear hcz11_1
  try clear hcz11_2
  try clear hcz11_3
  try clear hcz15_0
  try clear hcz15_1
  try clear hcz15_2
  try clear hcz15_3
  try clear hcz20_0
  try clear hcz20_1
  try clear hcz20_2
  try clear hcz20_3
  try clear hcz5_0
  try clear hcz5_1
  try clear hcz5_2
  try clear hcz5_3
  try clear hfz11_0
  try clear hfz11_1
  try clear hfz11_2
  try clear hfz11_3
  try clear hfz15_0
  try clear hfz15_1
  try clear hfz15_2
  try clear hfz15_3
  try clear hfz20_0
  try clear hfz20_1
  try clear hfz20_2
  try clear hfz20_3
  try clear hfz5_0
  try clear hfz5_1
  try clear hfz5_2
  try clear hfz5_3
  try clear hx106_0
  try clear p106
  try clear q106
  obtain ⟨kq, x3_8, rfl, HA, HJ8, BK101, HB⟩ := hcut
  cases kq with
  | zero => exact absurd HA.out (by simp [spec_l2Text.j0])
  | succ kj8 =>
   have H := HA.out
   clear HA
   simp only [spec_l2Text.j0] at H
   have H' := m0_ H
   clear H
   go_wp2
   go_loopg [3, 4] kj8 (fun kq v3 v4 w' => ∃ (x3_2 : ByteArray) (x4_2 : Int), v3 = .string x3_2 ∧ v4 = .int .i64 x4_2 ∧ Aside0 (spec_l2Text.l0 kq x3_2 x4_2 a0_0 a0_1 a0_2 l0_3 = some r) ∧ Aside0 (kq ≤ kj8) ∧ Aside0 (w'.heap[gb101]? = some (.cells #[.int .i64 a0_0, .int .i64 a0_1, .int .i64 a0_2, (.slice A0_3 l0_3.length c0_3)] 29 (0, 0))) ∧ Aside0 (Below w.heap.size w w'))
   case atStart => exact ⟨(x3_8), (0), (by first | rfl | (simp;done) | (simp [*];done)), (by first | rfl | (simp;done) | (simp [*];done)), H', ⟨Nat.le_refl _⟩, ⟨by (with_reducible repeat (first | refine qc_ ?_ _ | refine qd_ ?_ | refine qb_ ?_ _));exact BK101.out⟩, ⟨by repeat (first | (with_reducible first | exact HB.out | apply qg_ | apply qa_ | apply qf_ | refine qe_ ?_ GE101.out) | exact HB.out)⟩⟩
   case round =>
    clear H'
    try clear c1
    try clear p1
    try clear q1
    try clear hx1
    try clear c2
    try clear c2b0
    try clear c2b1
    try clear p2
    try clear c5
    try clear c7
    try clear c7b0
    try clear c8
    try clear c8b0
    try clear p10
    try clear q10
    try clear hx10
    try clear c16
    try clear c16b0
    try clear c16b1
    try clear c17
    try clear c17b0
    try clear c17b1
    try clear c17b2
    try clear c19
    try clear c19b0
    try clear c19b1
    try clear c19b2
    try clear hcz11_0
    try clear hcz11_1
    try clear hcz11_2
    try clear hcz11_3
    try clear hcz15_0
    try clear hcz15_1
    try clear hcz15_2
    try clear hcz15_3
    try clear hcz20_0
    try clear hcz20_1
    try clear hcz20_2
    try clear hcz20_3
    try clear hcz5_0
    try clear hcz5_1
    try clear hcz5_2
    try clear hcz5_3
    try clear hfz11_0
    try clear hfz11_1
    try clear hfz11_2
    try clear hfz11_3
    try clear hfz15_0
    try clear hfz15_1
    try clear hfz15_2
    try clear hfz15_3
    try clear hfz20_0
    try clear hfz20_1
    try clear hfz20_2
    try clear hfz20_3
    try clear hfz5_0
    try clear hfz5_1
    try clear hfz5_2
    try clear hfz5_3
    try clear hx106_0
    try clear p1
    try clear p10
    try clear p106
    try clear p2
    try clear q1
    try clear q10
    try clear q106
    obtain ⟨x3_2, x4_2, rfl, rfl, HA, HK2, BK101, HB⟩ := hrel
    cases gk with
    | zero => exact absurd HA.out (by simp [spec_l2Text.l0])
    | succ k2 =>
     have H := HA.out
     clear HA
     simp only [spec_l2Text.l0] at H
     by_cases c22 : x4_2 < (l0_3.length : Int)
     rotate_left
     ·rw [if_neg c22] at H
      have c22b0 : decide (x4_2 < (l0_3.length : Int)) = false := decide_eq_false c22
      clear c22
      obtain rfl := Option.some.inj H
      obtain ⟨hcz29_0, hcz29_1, hcz29_2, hcz29_3, hfz29_0, hfz29_1, hfz29_2, hfz29_3⟩ := bx4 BK101.out
      go_wp2
      go_ret
      exact ⟨by first | rfl | (simp [errW_none, errW_some] <;> rfl) | (simp [*, errW_none, errW_some] <;> rfl), by repeat (first | (with_reducible first | exact HB.out | apply qg_ | apply qa_ | apply qf_ | refine qe_ ?_ GE101.out) | exact HB.out)⟩
     rw [if_pos c22] at H
     have c22b0 : decide (x4_2 < (l0_3.length : Int)) = true := decide_eq_true c22
     clear c22
     by_cases c23 : x3_2.size + 1 ≤ 9223372036854775807
     rotate_left
     ·rw [if_neg c23] at H
      exact absurd H (by simp)
     rw [if_pos c23] at H
     have c23b0 := eq_true c23
     have c23b1 : decide (x3_2.size + 1 ≤ 9223372036854775807) = true := decide_eq_true c23
     try have c23b2 : (9223372036854775807 < x3_2.size + 1) = False := eq_false (Nat.not_lt.2 c23)
     by_cases c24 : 0 ≤ x4_2
     rotate_left
     ·rw [if_neg c24] at H
      exact absurd H (by simp)
     rw [if_pos c24] at H
     have c24b0 : decide (0 ≤ x4_2) = true := decide_eq_true c24
     clear c24
     replace H := Option.bind_eq_some_iff.mp H
     obtain ⟨t109, A250, H⟩ := H
     replace H : (if (x3_2 ++ (⟨#[32]⟩ : ByteArray)).size + t109.size ≤ 9223372036854775807 then (spec_l2Text.l0 k2 ((x3_2 ++ (⟨#[32]⟩ : ByteArray)) ++ t109) (wrap64 (x4_2 + 1)) a0_0 a0_1 a0_2 l0_3) else (none)) = some r := H
     have A25 := m0_ A250
     clear A250
     by_cases c26 : (x3_2 ++ (⟨#[32]⟩ : ByteArray)).size + t109.size ≤ 9223372036854775807
     rotate_left
     ·rw [if_neg c26] at H
      exact absurd H (by simp)
     rw [if_pos c26] at H
     have c26b0 := eq_true c26
     have c26b1 : decide ((x3_2 ++ (⟨#[32]⟩ : ByteArray)).size + t109.size ≤ 9223372036854775807) = true := decide_eq_true c26
     have c26z : (x3_2 ++ (⟨#[32]⟩ : ByteArray)).size + t109.size ≤ 9223372036854775807 := c26
     simp only [ByteArray.size_append, show (⟨#[32]⟩ : ByteArray).size = 1 from rfl] at c26z
     have c26z0 := eq_true c26z
     have c26z1 := decide_eq_true c26z
     have c26z2 := eq_false (Nat.not_lt.2 c26z)
     try have c26b2 : (9223372036854775807 < (x3_2 ++ (⟨#[32]⟩ : ByteArray)).size + t109.size) = False := eq_false (Nat.not_lt.2 c26)
     have H' := m0_ H
     clear H
     obtain ⟨hcz27_0, hcz27_1, hcz27_2, hcz27_3, hfz27_0, hfz27_1, hfz27_2, hfz27_3⟩ := bx4 BK101.out
     have p108 : 0 ≤ (x4_2 : Int) := qu_ (by first | (with_reducible assumption) | assumption)
     have q108 : x4_2 < (l0_3.length : Int) := qu_ (by first | (with_reducible assumption) | assumption)
     obtain ⟨ad108, A108_3, c108_3, e108, hx108_0, hx108_1, hx108_2, hx108_3, hl108_3, hi108_3⟩ := at_T29 HR0_3.out x4_2 p108 q108
     cases e108
     replace hx108_0 := (HB.out.cell (World.block_lt_of_cell? w _ hx108_0)).trans hx108_0
     replace hx108_1 := (HB.out.cell (World.block_lt_of_cell? w _ hx108_1)).trans hx108_1
     replace hx108_2 := (HB.out.cell (World.block_lt_of_cell? w _ hx108_2)).trans hx108_2
     replace hx108_3 := (HB.out.cell (World.block_lt_of_cell? w _ hx108_3)).trans hx108_3
     have HR108_3 := m0_ hi108_3
     have HC108_3 := m0_ hl108_3
     clear hi108_3 hl108_3
     replace p108 := eq_true p108
     replace q108 := eq_true q108
     go_wp2_with (first | ((with_reducible refine gate_callee (f := 28) rfl ?_);refine goesL_ (some 39) rfl rfl Tryd.func28 (by kernel_rfl) rfl #[.agg #[.int .i64 ((rd_T29 l0_3 x4_2).f0), .int .i64 ((rd_T29 l0_3 x4_2).f1), .int .i64 ((rd_T29 l0_3 x4_2).f2), .slice A108_3 ((rd_T29 l0_3 x4_2).f3).length c108_3]] rfl (by (try simp only [List.map_toArray, List.map_cons, List.map_nil]);first | done | rfl | (simp only [List.length_drop, List.length_take];rfl)) ?_;(with_reducible refine (ih k2 (by have := HJ8.out;have := HK2.out;omega) ((rd_T29 l0_3 x4_2).f0) ((rd_T29 l0_3 x4_2).f1) ((rd_T29 l0_3 x4_2).f2) _ _ ((rd_T29 l0_3 x4_2).f3) t109 _ ?side1 ?side2 A25.out).mono ?_);(case side1 => repeat (first | exact (Kd.C_below HR108_3.out HB.out) | (with_reducible refine Kd.C_alloc ?_ _) | (with_reducible refine Kd.C_drewN ?_ _) | (with_reducible refine Kd.C_drew ?_)));(case side2 => exact HC108_3.out);rintro e w28 ⟨rfl, hb⟩;refine ⟨_, rfl, ?_⟩;replace BK101 := m0_ (qk_ BK101.out hb);replace HB := m0_ (qj_ (by exact HB.out) hb);(try clear hb);(try clear hb2);(try clear hk);(try clear hi)))
     go_roundg k2
     case measure => have := HJ8.out;have := HK2.out;omega
     case rel => exact ⟨((x3_2 ++ (⟨#[32]⟩ : ByteArray)) ++ t109), (wrap64 (x4_2 + 1)), (by first | rfl | (simp;done) | (simp [*];done)), (by first | rfl | (simp;done) | (simp [*];done)), H', ⟨by have := HJ8.out;have := HK2.out;omega⟩, ⟨by (with_reducible repeat (first | refine qc_ ?_ _ | refine qd_ ?_ | refine qb_ ?_ _));exact BK101.out⟩, ⟨by repeat (first | (with_reducible first | exact HB.out | apply qg_ | apply qa_ | apply qf_ | refine qe_ ?_ GE101.out) | exact HB.out)⟩⟩

def spec_ExText.f (k : Nat) (a0_0 : Int) (a0_1 : Int) (a0_2 : Int) (l0_3 : List (S29)) : Option (ByteArray) := (spec_ExOk.f k a0_0 a0_1 a0_2 l0_3).bind fun t102 => (if t102 = true then ((spec_l2Text.f k a0_0 a0_1 a0_2 l0_3).bind fun t103 => (some t103)) else (some (⟨#[]⟩ : ByteArray)))
set_option maxHeartbeats 8000000 in
set_option maxRecDepth 100000 in
theorem spec_ExText.calls (k : Nat) (a0_0 : Int) (a0_1 : Int) (a0_2 : Int) (A0_3 : Option Addr) (c0_3 : Nat) (l0_3 : List (S29)) (r : ByteArray) (w : World) (hr0_3 : Kd.C k29 w A0_3 l0_3.length l0_3) (hc0_3 : l0_3.length ≤ c0_3) (h : spec_ExText.f k a0_0 a0_1 a0_2 l0_3 = some r) :
  Calls Tryd.prog 9 #[.agg #[.int .i64 a0_0, .int .i64 a0_1, .int .i64 a0_2, .slice A0_3 l0_3.length c0_3]] w fun e w' => e = .returned (.string r) ∧ Below w.heap.size w w' := by
 have hu29 := Tryd.underlying29
 have HR0_3 := m0_ hr0_3
 have HC0_3 := m0_ hc0_3
 clear hr0_3 hc0_3
 have HB := m0_ (Below.refl w.heap.size w)
 have H : ((spec_ExOk.f k a0_0 a0_1 a0_2 l0_3).bind fun t102 => (if t102 = true then ((spec_l2Text.f k a0_0 a0_1 a0_2 l0_3).bind fun t103 => (some t103)) else (some (⟨#[]⟩ : ByteArray)))) = some r := h
 clear h
 replace H := Option.bind_eq_some_iff.mp H
 obtain ⟨t102, A20, H⟩ := H
 replace H : (if t102 = true then ((spec_l2Text.f k a0_0 a0_1 a0_2 l0_3).bind fun t103 => (some t103)) else (some (⟨#[]⟩ : ByteArray))) = some r := H
 have A2 := m0_ A20
 clear A20
 by_cases c3 : t102 = true
 rotate_left
 ·replace c3 := Bool.eq_false_iff.mpr c3
  subst c3
  have H1 : (some (⟨#[]⟩ : ByteArray)) = some r := by rw [if_neg (show ¬ (false = true) by decide)] at H;exact H
  clear H
  have H := H1
  clear H1
  obtain rfl := Option.some.inj H
  go_enter Tryd.func9, Tryd.ntmps9
  go_wp2_with (first | ((with_reducible refine gate_dst (N := 1) rfl ?_);refine qs_ ?hg (N := 1) ?hd (cs := #[.int .i64 a0_0, .int .i64 a0_1, .int .i64 a0_2, .slice A0_3 l0_3.length c0_3]) (t := 29) ?hr ?_;(case hd => rfl);(case hg => rfl);(case hr => first | (go_simp;done) | (go_simp;rfl));intro gb101 hg w10 hbox hb;have BK101 := m0_ (hbox);have GW101 := m0_ ((by rw [hg];exact (qp_ (by exact HB.out)) : w.heap.size ≤ gb101));have GE101 := m0_ ((by rw [hg];exact (qp_ (by exact HB.out)) : w.heap.size ≤ gb101));replace HB := m0_ (qj_ (by exact HB.out) hb);clear hb hbox hg;obtain ⟨hcz11_0, hcz11_1, hcz11_2, hcz11_3, hfz11_0, hfz11_1, hfz11_2, hfz11_3⟩ := bx4 BK101.out) | ((with_reducible refine gate_callee (f := 17) rfl ?_);refine goesL_ (some 4) rfl rfl Tryd.func17 (by kernel_rfl) rfl #[.agg #[.int .i64 a0_0, .int .i64 a0_1, .int .i64 a0_2, .slice A0_3 l0_3.length c0_3]] rfl (by (try simp only [List.map_toArray, List.map_cons, List.map_nil]);first | done | rfl | (simp only [List.length_drop, List.length_take];rfl)) ?_;(with_reducible refine (spec_ExOk.calls k a0_0 a0_1 a0_2 _ _ l0_3 false _ ?side1 ?side2 A2.out).mono ?_);(case side1 => repeat (first | exact (Kd.C_below HR0_3.out HB.out) | (with_reducible refine Kd.C_alloc ?_ _) | (with_reducible refine Kd.C_drewN ?_ _) | (with_reducible refine Kd.C_drew ?_)));(case side2 => exact HC0_3.out);rintro e w12 ⟨rfl, hb⟩;refine ⟨_, rfl, ?_⟩;replace BK101 := m0_ (qk_ BK101.out hb);replace HB := m0_ (qj_ (by exact HB.out) hb);(try clear hb);(try clear hb2);(try clear hk);(try clear hi)))
  go_ret
  exact ⟨by first | rfl | (simp [errW_none, errW_some] <;> rfl) | (simp [*, errW_none, errW_some] <;> rfl), by repeat (first | (with_reducible first | exact HB.out | apply qg_ | apply qa_ | apply qf_ | refine qe_ ?_ GE101.out) | exact HB.out)⟩
 subst c3
 have H1 : ((spec_l2Text.f k a0_0 a0_1 a0_2 l0_3).bind fun t103 => (some t103)) = some r := by rw [if_pos rfl] at H;exact H
 clear H
 have H := H1
 clear H1
 replace H := Option.bind_eq_some_iff.mp H
 obtain ⟨t103, A40, H⟩ := H
 replace H : (some t103) = some r := H
 have A4 := m0_ A40
 clear A40
 obtain rfl := Option.some.inj H
 go_enter Tryd.func9, Tryd.ntmps9
 go_wp2_with (first | ((with_reducible refine gate_dst (N := 1) rfl ?_);refine qs_ ?hg (N := 1) ?hd (cs := #[.int .i64 a0_0, .int .i64 a0_1, .int .i64 a0_2, .slice A0_3 l0_3.length c0_3]) (t := 29) ?hr ?_;(case hd => rfl);(case hg => rfl);(case hr => first | (go_simp;done) | (go_simp;rfl));intro gb101 hg w5 hbox hb;have BK101 := m0_ (hbox);have GW101 := m0_ ((by rw [hg];exact (qp_ (by exact HB.out)) : w.heap.size ≤ gb101));have GE101 := m0_ ((by rw [hg];exact (qp_ (by exact HB.out)) : w.heap.size ≤ gb101));replace HB := m0_ (qj_ (by exact HB.out) hb);clear hb hbox hg;obtain ⟨hcz6_0, hcz6_1, hcz6_2, hcz6_3, hfz6_0, hfz6_1, hfz6_2, hfz6_3⟩ := bx4 BK101.out) | ((with_reducible refine gate_callee (f := 17) rfl ?_);refine goesL_ (some 4) rfl rfl Tryd.func17 (by kernel_rfl) rfl #[.agg #[.int .i64 a0_0, .int .i64 a0_1, .int .i64 a0_2, .slice A0_3 l0_3.length c0_3]] rfl (by (try simp only [List.map_toArray, List.map_cons, List.map_nil]);first | done | rfl | (simp only [List.length_drop, List.length_take];rfl)) ?_;(with_reducible refine (spec_ExOk.calls k a0_0 a0_1 a0_2 _ _ l0_3 true _ ?side1 ?side2 A2.out).mono ?_);(case side1 => repeat (first | exact (Kd.C_below HR0_3.out HB.out) | (with_reducible refine Kd.C_alloc ?_ _) | (with_reducible refine Kd.C_drewN ?_ _) | (with_reducible refine Kd.C_drew ?_)));(case side2 => exact HC0_3.out);rintro e w7 ⟨rfl, hb⟩;refine ⟨_, rfl, ?_⟩;replace BK101 := m0_ (qk_ BK101.out hb);replace HB := m0_ (qj_ (by exact HB.out) hb);(try clear hb);(try clear hb2);(try clear hk);(try clear hi);obtain ⟨hcz8_0, hcz8_1, hcz8_2, hcz8_3, hfz8_0, hfz8_1, hfz8_2, hfz8_3⟩ := bx4 BK101.out) | ((with_reducible refine gate_callee (f := 28) rfl ?_);refine goesL_ (some 7) rfl rfl Tryd.func28 (by kernel_rfl) rfl #[.agg #[.int .i64 a0_0, .int .i64 a0_1, .int .i64 a0_2, .slice A0_3 l0_3.length c0_3]] rfl (by (try simp only [List.map_toArray, List.map_cons, List.map_nil]);first | done | rfl | (simp only [List.length_drop, List.length_take];rfl)) ?_;(with_reducible refine (spec_l2Text.calls k a0_0 a0_1 a0_2 _ _ l0_3 t103 _ ?side1 ?side2 A4.out).mono ?_);(case side1 => repeat (first | exact (Kd.C_below HR0_3.out HB.out) | (with_reducible refine Kd.C_alloc ?_ _) | (with_reducible refine Kd.C_drewN ?_ _) | (with_reducible refine Kd.C_drew ?_)));(case side2 => exact HC0_3.out);rintro e w9 ⟨rfl, hb⟩;refine ⟨_, rfl, ?_⟩;replace BK101 := m0_ (qk_ BK101.out hb);replace HB := m0_ (qj_ (by exact HB.out) hb);(try clear hb);(try clear hb2);(try clear hk);(try clear hi)))
 go_ret
 exact ⟨by first | rfl | (simp [errW_none, errW_some] <;> rfl) | (simp [*, errW_none, errW_some] <;> rfl), by repeat (first | (with_reducible first | exact HB.out | apply qg_ | apply qa_ | apply qf_ | refine qe_ ?_ GE101.out) | exact HB.out)⟩

def spec_DrawExRead.j0 : Nat → ByteArray → Bool → List Int → Int → Option (ByteArray)
 | 0, _, _, _, _ => none
 | k + 1, x4, x18, x104000, x104001 => if x18 = true then (some x4) else ((spec_l14Rd_pick.f k x104000 x104001 (x4.size : Int)).bind fun bt114 => (if 0 ≤ bt114.1 then (if bt114.1 ≤ (x4.size : Int) then ((spec_l14Rd_of.f k x104000 bt114.2 (([(⟨#[]⟩ : ByteArray), (⟨#[32]⟩ : ByteArray), (⟨#[97, 32]⟩ : ByteArray), (⟨#[111, 114, 32]⟩ : ByteArray), (⟨#[49]⟩ : ByteArray), (⟨#[32, 98]⟩ : ByteArray), (⟨#[112, 108, 117, 115, 32]⟩ : ByteArray)] : List ByteArray))).bind fun bt119 => (if (x4.extract 0 (bt114.1 : Int).toNat).size + bt119.1.size ≤ 9223372036854775807 then ((spec_l14Rd_pick.f k x104000 bt119.2 2).bind fun bt121 => (if 0 ≤ (wrap64 (bt114.1 + bt121.1)) then (if (wrap64 (bt114.1 + bt121.1)) ≤ (x4.size : Int) then (if ((x4.extract 0 (bt114.1 : Int).toNat) ++ bt119.1).size + (x4.extract ((wrap64 (bt114.1 + bt121.1)) : Int).toNat x4.size).size ≤ 9223372036854775807 then (some (((x4.extract 0 (bt114.1 : Int).toNat) ++ bt119.1) ++ (x4.extract ((wrap64 (bt114.1 + bt121.1)) : Int).toNat x4.size))) else (none)) else (none)) else (none))) else (none))) else (none)) else (none)))
def spec_DrawExRead.f (k : Nat) (l0 : List Int) : Option (ByteArray) := (spec_l14Open.f l0).bind fun bt101 => ((spec_l2Bent.f k bt101.1 bt101.2).bind fun bt104 => ((spec_ExText.f k bt104.1 bt104.2.1 bt104.2.2.1 bt104.2.2.2.1).bind fun t111 => (if (t111.size : Int) = 0 then (spec_DrawExRead.j0 k t111 true bt101.1 bt104.2.2.2.2) else ((spec_l14Rd_pick.f k bt101.1 bt104.2.2.2.2 2).bind fun bt112 => (spec_DrawExRead.j0 k t111 (bt112.1 == 0) bt101.1 bt112.2)))))
def spec_DrawExRead.T6 : Bool × List (List Nat × List Nat) := (true, [([], []), ([], []), ([0, 1], [0, 1]), ([], []), ([], []), ([3, 4], [3, 4]), ([2, 5], [2, 5]), ([], []), ([], []), ([], []), ([9, 5], [9]), ([8, 10], [8, 10]), ([7, 11], [7, 11]), ([6, 12], [6, 12]), ([13, 10, 0, 1, 2, 3, 4, 5, 6, 7, 8, 9, 10, 11, 12, 13], [13])])
def spec_DrawExRead.B6 : List Nat := [0, 0, 3, 0, 0, 24, 63, 0, 0, 0, 568, 1848, 4024, 8191, 16383]
theorem spec_DrawExRead.tab6 : rtab .any (opsOf Tryd.f26 6) = spec_DrawExRead.T6 := by kernel_rfl
theorem spec_DrawExRead.bits6 : waitsOk spec_DrawExRead.T6.2 spec_DrawExRead.B6 = true := by kernel_rfl
set_option maxHeartbeats 8000000 in
set_option maxRecDepth 100000 in
theorem spec_DrawExRead.calls (k : Nat) (A0 : Option Addr) (c0 : Nat) (l0 : List Int) (r : ByteArray) (w : World) (hr0 : Kd.C (Kd.int .u8) w A0 l0.length l0) (hc0 : l0.length ≤ c0) (h : spec_DrawExRead.f k l0 = some r) :
  Calls Tryd.prog 26 #[.slice A0 l0.length c0] w fun e w' => e = .returned (.string r) ∧ Below w.heap.size w w' := by
 have HR0 := m0_ hr0
 have HC0 := m0_ hc0
 clear hr0 hc0
 have HB := m0_ (Below.refl w.heap.size w)
 have H : ((spec_l14Open.f l0).bind fun bt101 => ((spec_l2Bent.f k bt101.1 bt101.2).bind fun bt104 => ((spec_ExText.f k bt104.1 bt104.2.1 bt104.2.2.1 bt104.2.2.2.1).bind fun t111 => (if (t111.size : Int) = 0 then (spec_DrawExRead.j0 k t111 true bt101.1 bt104.2.2.2.2) else ((spec_l14Rd_pick.f k bt101.1 bt104.2.2.2.2 2).bind fun bt112 => (spec_DrawExRead.j0 k t111 (bt112.1 == 0) bt101.1 bt112.2)))))) = some r := h
 clear h
 replace H := Option.bind_eq_some_iff.mp H
 obtain ⟨⟨t101, t102⟩, A20, H⟩ := H
 replace H : ((spec_l2Bent.f k t101 t102).bind fun bt104 => ((spec_ExText.f k bt104.1 bt104.2.1 bt104.2.2.1 bt104.2.2.2.1).bind fun t111 => (if (t111.size : Int) = 0 then (spec_DrawExRead.j0 k t111 true t101 bt104.2.2.2.2) else ((spec_l14Rd_pick.f k t101 bt104.2.2.2.2 2).bind fun bt112 => (spec_DrawExRead.j0 k t111 (bt112.1 == 0) t101 bt112.2))))) = some r := H
 have A2 := m0_ A20
 clear A20
 replace H := Option.bind_eq_some_iff.mp H
 obtain ⟨⟨t104, t105, t106, t107, t110⟩, A30, H⟩ := H
 replace H : ((spec_ExText.f k t104 t105 t106 t107).bind fun t111 => (if (t111.size : Int) = 0 then (spec_DrawExRead.j0 k t111 true t101 t110) else ((spec_l14Rd_pick.f k t101 t110 2).bind fun bt112 => (spec_DrawExRead.j0 k t111 (bt112.1 == 0) t101 bt112.2)))) = some r := H
 have A3 := m0_ A30
 clear A30
 replace H := Option.bind_eq_some_iff.mp H
 obtain ⟨t111, A40, H⟩ := H
 replace H : (if (t111.size : Int) = 0 then (spec_DrawExRead.j0 k t111 true t101 t110) else ((spec_l14Rd_pick.f k t101 t110 2).bind fun bt112 => (spec_DrawExRead.j0 k t111 (bt112.1 == 0) t101 bt112.2))) = some r := H
 have A4 := m0_ A40
 clear A40
 have HC5 := m0_ H
 clear H
 go_enter Tryd.func26, Tryd.ntmps26
 go_upto_region 3 with (first | ((with_reducible refine gate_callee (f := 33) rfl ?_);refine goesL_ (some 7) rfl rfl Tryd.func33 (by kernel_rfl) rfl #[.slice A0 l0.length c0] rfl (by (try simp only [List.map_toArray, List.map_cons, List.map_nil]);first | done | rfl | (simp only [List.length_drop, List.length_take];rfl)) ?_;(with_reducible refine (spec_l14Open.calls _ _ l0 t101 t102 w _ ?side1 ?side2 ?side3 A2.out).mono ?_);(case side1 => repeat (first | (with_reducible first | exact HB.out | apply qg_ | apply qa_ | apply qf_) | exact HB.out));(case side2 => exact HR0.out);(case side3 => exact HC0.out);rintro e w6 ⟨g103, rfl, hi, hb, hb2⟩;refine ⟨_, rfl, ?_⟩;replace HB := m0_ (hb);have HI103 := m0_ (hi);(try clear hb);(try clear hb2);(try clear hk);(try clear hi)) | ((with_reducible refine gate_callee (f := 32) rfl ?_);refine goesL_ (some 9) rfl rfl Tryd.func32 (by kernel_rfl) rfl #[.pointer (some ⟨g103, 0, none⟩)] rfl (by (try simp only [List.map_toArray, List.map_cons, List.map_nil]);first | done | rfl | (simp only [List.length_drop, List.length_take];rfl)) ?_;(with_reducible refine (spec_l2Bent.calls k g103 t101 t102 t104 t105 t106 t107 t110 w _ ?side1 ?side2 A3.out).mono ?_);(case side1 => repeat (first | (with_reducible first | exact HI103.out | apply IsS79.alloc | apply IsS79.drewN | apply IsS79.drew | apply IsS79.set_1) | exact HI103.out));(case side2 => repeat (first | (with_reducible first | exact HB.out | apply qg_ | apply qa_ | apply qf_ | refine qe_ ?_ (IsS79.ge HI103.out)) | exact HB.out));rintro e w7 ⟨v108, rfl, ho0, hi, hb, hk⟩;refine ⟨_, rfl, ?_⟩;have HO109 := m0_ (Kd.N_lower (Kd.N_mono (ok' := fun k_ => k_ ≠ g103) ho0 (fun k_ hk_ => (IsS79.fresh (by repeat (first | (with_reducible first | exact HI103.out | apply IsS79.alloc | apply IsS79.drewN | apply IsS79.drew | apply IsS79.set_1) | exact HI103.out)) k_ hk_))) (qp_ (by repeat (first | (with_reducible first | exact HB.out | apply qg_ | apply qa_ | apply qf_ | refine qe_ ?_ (IsS79.ge HI103.out)) | exact HB.out))));replace HB := m0_ (hb);replace HI103 := m0_ (hi);(try clear hb);(try clear hb2);(try clear hk);(try clear hi);(try clear ho0);obtain ⟨Ao8, co8, eo8⟩ := Kd.N_slice HO109.out;subst eo8) | ((with_reducible refine gate_callee (f := 9) rfl ?_);refine goesL_ (some 10) rfl rfl Tryd.func9 (by kernel_rfl) rfl #[.agg #[.int .i64 t104, .int .i64 t105, .int .i64 t106, .slice Ao8 t107.length co8]] rfl (by (try simp only [List.map_toArray, List.map_cons, List.map_nil]);first | done | rfl | (simp only [List.length_drop, List.length_take];rfl)) ?_;(with_reducible refine (spec_ExText.calls k t104 t105 t106 _ _ t107 t111 _ ?side1 ?side2 A4.out).mono ?_);(case side1 => repeat (first | exact (Kd.N_reads' HO109.out).2.2 | (with_reducible refine Kd.C_alloc ?_ _) | (with_reducible refine Kd.C_drewN ?_ _) | (with_reducible refine Kd.C_drew ?_)));(case side2 => exact (Kd.N_reads' HO109.out).2.1);rintro e w9 ⟨rfl, hb⟩;refine ⟨_, rfl, ?_⟩;replace HO109 := m0_ (Kd.N_below (by exact HO109.out) hb);replace HB := m0_ (qj_ (by repeat (first | (with_reducible first | exact HB.out | apply qg_ | apply qa_ | apply qf_ | refine qe_ ?_ (IsS79.ge HI103.out)) | exact HB.out)) hb);replace HI103 := m0_ (IsS79.below (by repeat (first | (with_reducible first | exact HI103.out | apply IsS79.alloc | apply IsS79.drewN | apply IsS79.drew | apply IsS79.set_1) | exact HI103.out)) hb);(try clear hb);(try clear hb2);(try clear hk);(try clear hi)))
 (try simp only [Act.put, q0_, List.set_cons_zero, List.set_cons_succ])
 go_cut [18] (fun v18 wc => ∃ (kq : Nat) (x18_4 : Bool) (x104001_4 : Int), v18 = .bool x18_4 ∧ Aside0 (spec_DrawExRead.j0 kq t111 x18_4 t101 x104001_4 = some r) ∧ Aside0 (kq ≤ k) ∧ Aside0 (IsS79 w wc g103 t101 x104001_4) ∧ Aside0 (Below w.heap.size w wc))
 case first =>
  have H := HC5.out
  clear HC5
  by_cases c10 : (t111.size : Int) = 0
  ·rw [if_pos c10] at H
   have c10b0 : ((t111.size : Int) == 0) = true := beq_iff_eq.mpr c10
   have c10b1 : ((t111.size : Int) != 0) = false := bne_eq_false_iff_eq.mpr c10
   clear c10
   (first | rw [c10b0] | (simp only [i64_w, i32_w];rw [c10b0]) | skip)
   have H' := m0_ H
   clear H
   go_wp2
   go_meet
   case rel => exact ⟨_, (true), (t110), (by first | rfl | (simp;done) | (simp [*];done)), H', ⟨by first | omega | exact Nat.le_refl _⟩, ⟨by repeat (first | (with_reducible first | exact HI103.out | apply IsS79.alloc | apply IsS79.drewN | apply IsS79.drew | apply IsS79.set_1) | exact HI103.out)⟩, ⟨by repeat (first | (with_reducible first | exact HB.out | apply qg_ | apply qa_ | apply qf_ | refine qe_ ?_ (IsS79.ge HI103.out)) | exact HB.out)⟩⟩
  rw [if_neg c10] at H
  have c10b0 : ((t111.size : Int) == 0) = false := beq_eq_false_iff_ne.mpr c10
  have c10b1 : ((t111.size : Int) != 0) = true := bne_iff_ne.mpr c10
  (first | rw [c10b0] | (simp only [i64_w, i32_w];rw [c10b0]) | skip)
  replace H := Option.bind_eq_some_iff.mp H
  obtain ⟨⟨t112, t113⟩, A110, H⟩ := H
  replace H : (spec_DrawExRead.j0 k t111 (t112 == 0) t101 t113) = some r := H
  have A11 := m0_ A110
  clear A110
  have H' := m0_ H
  clear H
  go_wp2_with (first | (go_at_call 48;(with_reducible refine (spec_l14Rd_pick.calls k g103 t101 t110 2 t112 t113 w _ ?side1 ?side2 A11.out).mono ?_);(case side1 => repeat (first | (with_reducible first | exact HI103.out | apply IsS79.alloc | apply IsS79.drewN | apply IsS79.drew | apply IsS79.set_1) | exact HI103.out));(case side2 => repeat (first | (with_reducible first | exact HB.out | apply qg_ | apply qa_ | apply qf_ | refine qe_ ?_ (IsS79.ge HI103.out)) | exact HB.out));rintro e w12 ⟨rfl, hi, hb, hk⟩;replace HO109 := m0_ (Kd.N_mono (Kd.N_keep (Kd.N_mono (ok := fun k_ => k_ ≠ g103) (by exact HO109.out) (fun k_ hk_ => (⟨hk_, hk_⟩ : _ ∧ k_ ≠ g103))) hk (fun _ h => h.2)) (fun _ h => h.1));replace HB := m0_ (hb);replace HI103 := m0_ (hi);(try clear hb);(try clear hb2);(try clear hk);(try clear hi)))
  go_meet
  case rel => exact ⟨_, ((t112 == 0)), (t113), (by first | rfl | (simp;done) | (simp [*];done)), H', ⟨by first | omega | exact Nat.le_refl _⟩, ⟨by repeat (first | (with_reducible first | exact HI103.out | apply IsS79.alloc | apply IsS79.drewN | apply IsS79.drew | apply IsS79.set_1) | exact HI103.out)⟩, ⟨by repeat (first | (with_reducible first | exact HB.out | apply qg_ | apply qa_ | apply qf_ | refine qe_ ?_ (IsS79.ge HI103.out)) | exact HB.out)⟩⟩
 case rest =>
  clear HC5
  try clear c1
  try clear c2
  try clear p2
  try clear c3
  try clear c9
  try clear c10
  try clear c10b0
  try clear c10b1
  obtain ⟨kq, x18_4, x104001_4, rfl, HA, HJ4, HI103, HB⟩ := hcut
  cases kq with
  | zero => exact absurd HA.out (by simp [spec_DrawExRead.j0])
  | succ kj4 =>
   have H := HA.out
   clear HA
   simp only [spec_DrawExRead.j0] at H
   by_cases c13 : x18_4 = true
   ·subst c13
    have H1 : (some t111) = some r := by rw [if_pos rfl] at H;exact H
    clear H
    have H := H1
    clear H1
    obtain rfl := Option.some.inj H
    go_wp2
    go_ret
    exact ⟨by first | rfl | (simp [errW_none, errW_some] <;> rfl) | (simp [*, errW_none, errW_some] <;> rfl), by repeat (first | (with_reducible first | exact HB.out | apply qg_ | apply qa_ | apply qf_ | refine qe_ ?_ (IsS79.ge HI103.out)) | exact HB.out)⟩
   replace c13 := Bool.eq_false_iff.mpr c13
   subst c13
   have H1 : ((spec_l14Rd_pick.f kj4 t101 x104001_4 (t111.size : Int)).bind fun bt114 => (if 0 ≤ bt114.1 then (if bt114.1 ≤ (t111.size : Int) then ((spec_l14Rd_of.f kj4 t101 bt114.2 (([(⟨#[]⟩ : ByteArray), (⟨#[32]⟩ : ByteArray), (⟨#[97, 32]⟩ : ByteArray), (⟨#[111, 114, 32]⟩ : ByteArray), (⟨#[49]⟩ : ByteArray), (⟨#[32, 98]⟩ : ByteArray), (⟨#[112, 108, 117, 115, 32]⟩ : ByteArray)] : List ByteArray))).bind fun bt119 => (if (t111.extract 0 (bt114.1 : Int).toNat).size + bt119.1.size ≤ 9223372036854775807 then ((spec_l14Rd_pick.f kj4 t101 bt119.2 2).bind fun bt121 => (if 0 ≤ (wrap64 (bt114.1 + bt121.1)) then (if (wrap64 (bt114.1 + bt121.1)) ≤ (t111.size : Int) then (if ((t111.extract 0 (bt114.1 : Int).toNat) ++ bt119.1).size + (t111.extract ((wrap64 (bt114.1 + bt121.1)) : Int).toNat t111.size).size ≤ 9223372036854775807 then (some (((t111.extract 0 (bt114.1 : Int).toNat) ++ bt119.1) ++ (t111.extract ((wrap64 (bt114.1 + bt121.1)) : Int).toNat t111.size))) else (none)) else (none)) else (none))) else (none))) else (none)) else (none))) = some r := by rw [if_neg (show ¬ (false = true) by decide)] at H;exact H
   clear H
   have H := H1
   clear H1
   replace H := Option.bind_eq_some_iff.mp H
   obtain ⟨⟨t114, t115⟩, A140, H⟩ := H
   replace H : (if 0 ≤ t114 then (if t114 ≤ (t111.size : Int) then ((spec_l14Rd_of.f kj4 t101 t115 (([(⟨#[]⟩ : ByteArray), (⟨#[32]⟩ : ByteArray), (⟨#[97, 32]⟩ : ByteArray), (⟨#[111, 114, 32]⟩ : ByteArray), (⟨#[49]⟩ : ByteArray), (⟨#[32, 98]⟩ : ByteArray), (⟨#[112, 108, 117, 115, 32]⟩ : ByteArray)] : List ByteArray))).bind fun bt119 => (if (t111.extract 0 (t114 : Int).toNat).size + bt119.1.size ≤ 9223372036854775807 then ((spec_l14Rd_pick.f kj4 t101 bt119.2 2).bind fun bt121 => (if 0 ≤ (wrap64 (t114 + bt121.1)) then (if (wrap64 (t114 + bt121.1)) ≤ (t111.size : Int) then (if ((t111.extract 0 (t114 : Int).toNat) ++ bt119.1).size + (t111.extract ((wrap64 (t114 + bt121.1)) : Int).toNat t111.size).size ≤ 9223372036854775807 then (some (((t111.extract 0 (t114 : Int).toNat) ++ bt119.1) ++ (t111.extract ((wrap64 (t114 + bt121.1)) : Int).toNat t111.size))) else (none)) else (none)) else (none))) else (none))) else (none)) else (none)) = some r := H
   have A14 := m0_ A140
   clear A140
   by_cases c15 : 0 ≤ t114
   rotate_left
   ·rw [if_neg c15] at H
    exact absurd H (by simp)
   rw [if_pos c15] at H
   have c15b0 := eq_true c15
   have c15b1 : decide (0 ≤ t114) = true := decide_eq_true c15
   clear c15
   by_cases c16 : t114 ≤ (t111.size : Int)
   rotate_left
   ·rw [if_neg c16] at H
    exact absurd H (by simp)
   rw [if_pos c16] at H
   have c16b0 := eq_true c16
   have c16b1 : decide (t114 ≤ (t111.size : Int)) = true := decide_eq_true c16
   clear c16
   obtain ⟨y116, hy116⟩ : ∃ y_ : List ByteArray, y_ = (([(⟨#[]⟩ : ByteArray), (⟨#[32]⟩ : ByteArray), (⟨#[97, 32]⟩ : ByteArray), (⟨#[111, 114, 32]⟩ : ByteArray), (⟨#[49]⟩ : ByteArray), (⟨#[32, 98]⟩ : ByteArray), (⟨#[112, 108, 117, 115, 32]⟩ : ByteArray)] : List ByteArray)) := ⟨_, rfl⟩
   replace H : ((spec_l14Rd_of.f kj4 t101 t115 y116).bind fun bt119 => (if (t111.extract 0 (t114 : Int).toNat).size + bt119.1.size ≤ 9223372036854775807 then ((spec_l14Rd_pick.f kj4 t101 bt119.2 2).bind fun bt121 => (if 0 ≤ (wrap64 (t114 + bt121.1)) then (if (wrap64 (t114 + bt121.1)) ≤ (t111.size : Int) then (if ((t111.extract 0 (t114 : Int).toNat) ++ bt119.1).size + (t111.extract ((wrap64 (t114 + bt121.1)) : Int).toNat t111.size).size ≤ 9223372036854775807 then (some (((t111.extract 0 (t114 : Int).toNat) ++ bt119.1) ++ (t111.extract ((wrap64 (t114 + bt121.1)) : Int).toNat t111.size))) else (none)) else (none)) else (none))) else (none))) = some r := by first | (rw [hy116];with_reducible exact H) | (have H2_ := (Option.bind_some _ _).symm.trans H;rw [hy116];with_reducible exact H2_) | (have H2_ := (Option.bind_some _ _).symm.trans H;with_reducible exact H2_) | with_reducible exact H | (rw [hy116];exact H) | exact H
   have Ny116 := m0_ hy116
   clear hy116
   replace H := Option.bind_eq_some_iff.mp H
   obtain ⟨⟨t119, t120⟩, A170, H⟩ := H
   replace H : (if (t111.extract 0 (t114 : Int).toNat).size + t119.size ≤ 9223372036854775807 then ((spec_l14Rd_pick.f kj4 t101 t120 2).bind fun bt121 => (if 0 ≤ (wrap64 (t114 + bt121.1)) then (if (wrap64 (t114 + bt121.1)) ≤ (t111.size : Int) then (if ((t111.extract 0 (t114 : Int).toNat) ++ t119).size + (t111.extract ((wrap64 (t114 + bt121.1)) : Int).toNat t111.size).size ≤ 9223372036854775807 then (some (((t111.extract 0 (t114 : Int).toNat) ++ t119) ++ (t111.extract ((wrap64 (t114 + bt121.1)) : Int).toNat t111.size))) else (none)) else (none)) else (none))) else (none)) = some r := H
   have A17 := m0_ A170
   clear A170
   by_cases c18 : (t111.extract 0 (t114 : Int).toNat).size + t119.size ≤ 9223372036854775807
   rotate_left
   ·rw [if_neg c18] at H
    exact absurd H (by simp)
   rw [if_pos c18] at H
   have c18b0 := eq_true c18
   have c18b1 : decide ((t111.extract 0 (t114 : Int).toNat).size + t119.size ≤ 9223372036854775807) = true := decide_eq_true c18
   have c18y0 : (t114 : Int).toNat + t119.size ≤ 9223372036854775807 := by have q_ := c18; have p_0 : (t114 : Int) ≤ (t111.size : Int) := qu_ (by first | (with_reducible assumption) | assumption); simp only [ByteArray.size_append, ByteArray.size_extract] at q_ ⊢; omega
   have c18y0a := eq_true c18y0
   have c18y0b := decide_eq_true c18y0
   have c18y0c := eq_false (Nat.not_lt.2 c18y0)
   try have c18b2 : (9223372036854775807 < (t111.extract 0 (t114 : Int).toNat).size + t119.size) = False := eq_false (Nat.not_lt.2 c18)
   replace H := Option.bind_eq_some_iff.mp H
   obtain ⟨⟨t121, t122⟩, A190, H⟩ := H
   replace H : (if 0 ≤ (wrap64 (t114 + t121)) then (if (wrap64 (t114 + t121)) ≤ (t111.size : Int) then (if ((t111.extract 0 (t114 : Int).toNat) ++ t119).size + (t111.extract ((wrap64 (t114 + t121)) : Int).toNat t111.size).size ≤ 9223372036854775807 then (some (((t111.extract 0 (t114 : Int).toNat) ++ t119) ++ (t111.extract ((wrap64 (t114 + t121)) : Int).toNat t111.size))) else (none)) else (none)) else (none)) = some r := H
   have A19 := m0_ A190
   clear A190
   obtain ⟨ji20, hji20⟩ : ∃ j_ : Int, (wrap64 (t114 + t121)) = j_ := ⟨_, rfl⟩
   replace H : (if 0 ≤ (ji20) then (if (ji20) ≤ (t111.size : Int) then (if ((t111.extract 0 (t114 : Int).toNat) ++ t119).size + (t111.extract ((ji20) : Int).toNat t111.size).size ≤ 9223372036854775807 then (some (((t111.extract 0 (t114 : Int).toNat) ++ t119) ++ (t111.extract ((ji20) : Int).toNat t111.size))) else (none)) else (none)) else (none)) = some r := by first | (rw [hji20] at H;exact H) | (simp only [hji20] at H ⊢;exact H)
   (try rw [hji20] at A14)
   (try rw [hji20] at A17)
   (try rw [hji20] at A19)
   have hji20w : (IntKind.i64.wrap (t114 + t121)) = ji20 := (i64_w _).trans hji20
   by_cases c21 : 0 ≤ (ji20)
   rotate_left
   ·rw [if_neg c21] at H
    exact absurd H (by simp)
   rw [if_pos c21] at H
   have c21b0 := eq_true c21
   have c21b1 : decide (0 ≤ (ji20)) = true := decide_eq_true c21
   clear c21
   by_cases c22 : (ji20) ≤ (t111.size : Int)
   rotate_left
   ·rw [if_neg c22] at H
    exact absurd H (by simp)
   rw [if_pos c22] at H
   have c22b0 := eq_true c22
   have c22b1 : decide ((ji20) ≤ (t111.size : Int)) = true := decide_eq_true c22
   clear c22
   by_cases c23 : ((t111.extract 0 (t114 : Int).toNat) ++ t119).size + (t111.extract ((ji20) : Int).toNat t111.size).size ≤ 9223372036854775807
   rotate_left
   ·rw [if_neg c23] at H
    exact absurd H (by simp)
   rw [if_pos c23] at H
   have c23b0 := eq_true c23
   have c23b1 : decide (((t111.extract 0 (t114 : Int).toNat) ++ t119).size + (t111.extract ((ji20) : Int).toNat t111.size).size ≤ 9223372036854775807) = true := decide_eq_true c23
   have c23y0 : (t114 : Int).toNat + t119.size + (t111.extract ((ji20) : Int).toNat t111.size).size ≤ 9223372036854775807 := by have q_ := c23; have p_0 : (t114 : Int) ≤ (t111.size : Int) := qu_ (by first | (with_reducible assumption) | assumption); have p_1 : (ji20 : Int) ≤ (t111.size : Int) := qu_ (by first | (with_reducible assumption) | assumption); simp only [ByteArray.size_append, ByteArray.size_extract] at q_ ⊢; omega
   have c23y0a := eq_true c23y0
   have c23y0b := decide_eq_true c23y0
   have c23y0c := eq_false (Nat.not_lt.2 c23y0)
   have c23y1 : (t114 : Int).toNat + t119.size + (t111.size - (ji20 : Int).toNat) ≤ 9223372036854775807 := by have q_ := c23; have p_0 : (t114 : Int) ≤ (t111.size : Int) := qu_ (by first | (with_reducible assumption) | assumption); have p_1 : (ji20 : Int) ≤ (t111.size : Int) := qu_ (by first | (with_reducible assumption) | assumption); simp only [ByteArray.size_append, ByteArray.size_extract] at q_ ⊢; omega
   have c23y1a := eq_true c23y1
   have c23y1b := decide_eq_true c23y1
   have c23y1c := eq_false (Nat.not_lt.2 c23y1)
   have c23z : ((t111.extract 0 (t114 : Int).toNat) ++ t119).size + (t111.extract ((ji20) : Int).toNat t111.size).size ≤ 9223372036854775807 := c23
   simp only [ByteArray.size_append, show (⟨#[32]⟩ : ByteArray).size = 1 from rfl] at c23z
   have c23z0 := eq_true c23z
   have c23z1 := decide_eq_true c23z
   have c23z2 := eq_false (Nat.not_lt.2 c23z)
   try have c23b2 : (9223372036854775807 < ((t111.extract 0 (t114 : Int).toNat) ++ t119).size + (t111.extract ((ji20) : Int).toNat t111.size).size) = False := eq_false (Nat.not_lt.2 c23)
   obtain rfl := Option.some.inj H
   try go_wp2_with (first | ((with_reducible refine gate_callee (f := 48) rfl ?_);refine goesL_ (some 23) rfl rfl Tryd.func48 (by kernel_rfl) rfl #[.pointer (some ⟨g103, 0, none⟩), .int .i64 (t111.size : Int)] rfl (by (try simp only [List.map_toArray, List.map_cons, List.map_nil]);first | done | rfl | (simp only [List.length_drop, List.length_take];rfl)) ?_;(with_reducible refine (spec_l14Rd_pick.calls kj4 g103 t101 x104001_4 (t111.size : Int) t114 t115 w _ ?side1 ?side2 A14.out).mono ?_);(case side1 => repeat (first | (with_reducible first | exact HI103.out | apply IsS79.alloc | apply IsS79.drewN | apply IsS79.drew | apply IsS79.set_1) | exact HI103.out));(case side2 => repeat (first | (with_reducible first | exact HB.out | apply qg_ | apply qa_ | apply qf_ | refine qe_ ?_ (IsS79.ge HI103.out)) | exact HB.out));rintro e w24 ⟨rfl, hi, hb, hk⟩;refine ⟨_, rfl, ?_⟩;replace HB := m0_ (hb);replace HI103 := m0_ (hi);(try clear hb);(try clear hb2);(try clear hk);(try clear hi)))
   replace HI103 := m0_ (IsS79.drew HI103.out)
   replace HB := m0_ (qf_ HB.out)
   refine start_ (n := 15) (S := fun w' => True) (ds := []) #[false, false, false, false, false, false, false, false, false, false, false, false, false, false, false] (by kernel_rfl) rfl rfl trivial (fun hHeld => ?_);refine with_tabW spec_DrawExRead.tab6 spec_DrawExRead.bits6 (fun HT_ HW_ => ?_)
   generalize w24.drew = w25 at HI103 HB hHeld ⊢
   refine pv_ 0 24 #[true, false, false, false, false, false, false, false, false, false, false, false, false, false, false] (any_of HT_.out (by kernel_rfl)) ?_
   refine pv_ 1 25 #[true, true, false, false, false, false, false, false, false, false, false, false, false, false, false] (any_of HT_.out (by kernel_rfl)) ?_
   refine pv_ 2 26 #[true, true, true, false, false, false, false, false, false, false, false, false, false, false, false] (any_of HT_.out (by kernel_rfl)) ?_
   refine pv_ 3 27 #[true, true, true, true, false, false, false, false, false, false, false, false, false, false, false] (any_of HT_.out (by kernel_rfl)) ?_
   refine pv_ 7 31 #[true, true, true, true, false, false, false, true, false, false, false, false, false, false, false] (any_of HT_.out (by kernel_rfl)) ?_
   refine pv_ 8 32 #[true, true, true, true, false, false, false, true, true, false, false, false, false, false, false] (any_of HT_.out (by kernel_rfl)) ?_
   refine pv_ 9 33 #[true, true, true, true, false, false, false, true, true, true, false, false, false, false, false] (any_of HT_.out (by kernel_rfl)) ?_
   refine one_ (i := 4) (N := some 28) #[true, true, true, true, true, false, false, true, true, true, false, false, false, false, false] rfl rfl (one_of HT_.out (by kernel_rfl)) (by decide) (fun K hK => ?_)
   refine Kd.R_lit_step Kd.string _ 9 ?hg (N := 28) ?hd (xs := ([(⟨#[]⟩ : ByteArray), (⟨#[32]⟩ : ByteArray), (⟨#[97, 32]⟩ : ByteArray), (⟨#[111, 114, 32]⟩ : ByteArray), (⟨#[49]⟩ : ByteArray), (⟨#[32, 98]⟩ : ByteArray), (⟨#[112, 108, 117, 115, 32]⟩ : ByteArray)] : List ByteArray)) (inner := [.string (⟨#[]⟩ : ByteArray), .string (⟨#[32]⟩ : ByteArray), .string (⟨#[97, 32]⟩ : ByteArray), .string (⟨#[111, 114, 32]⟩ : ByteArray), .string (⟨#[49]⟩ : ByteArray), .string (⟨#[32, 98]⟩ : ByteArray), .string (⟨#[112, 108, 117, 115, 32]⟩ : ByteArray)]) (ok := fun _ => True) (okp := fun _ => True) ?hr ?hp (fun _ hk => hk) trivial (Below.refl _ _) (Nat.le_refl _) (by simp) ?_;(case hd => rfl);(case hg => rfl);(case hr => first | (go_simp;done) | (go_simp;rfl));(case hp => exact (Reps.one (show Kd.M Kd.string _ _ _ (⟨#[]⟩ : ByteArray) [.string (⟨#[]⟩ : ByteArray)] from rfl) (Reps.one (show Kd.M Kd.string _ _ _ (⟨#[32]⟩ : ByteArray) [.string (⟨#[32]⟩ : ByteArray)] from rfl) (Reps.one (show Kd.M Kd.string _ _ _ (⟨#[97, 32]⟩ : ByteArray) [.string (⟨#[97, 32]⟩ : ByteArray)] from rfl) (Reps.one (show Kd.M Kd.string _ _ _ (⟨#[111, 114, 32]⟩ : ByteArray) [.string (⟨#[111, 114, 32]⟩ : ByteArray)] from rfl) (Reps.one (show Kd.M Kd.string _ _ _ (⟨#[49]⟩ : ByteArray) [.string (⟨#[49]⟩ : ByteArray)] from rfl) (Reps.one (show Kd.M Kd.string _ _ _ (⟨#[32, 98]⟩ : ByteArray) [.string (⟨#[32, 98]⟩ : ByteArray)] from rfl) (Reps.one (show Kd.M Kd.string _ _ _ (⟨#[112, 108, 117, 115, 32]⟩ : ByteArray) [.string (⟨#[112, 108, 117, 115, 32]⟩ : ByteArray)] from rfl) (Reps.none _ _)))))))))
   intro v117 w26 ho27 hb hg_ hnew_
   clear hg_ hnew_
   (first | rw [← Ny116.out] at ho27 | (simp only [Int.reduceToNat] at ho27;rw [← Ny116.out] at ho27))
   have HO118 := m0_ (Kd.R_lower ho27 (qp_ (by repeat (first | (with_reducible first | exact HB.out | apply qg_ | apply qa_ | apply qf_ | refine qe_ ?_ (IsS79.ge HI103.out)) | exact HB.out))))
   replace HB := m0_ (qj_ (by repeat (first | (with_reducible first | exact HB.out | apply qg_ | apply qa_ | apply qf_ | refine qe_ ?_ (IsS79.ge HI103.out)) | exact HB.out)) hb)
   replace HI103 := m0_ (IsS79.below (by repeat (first | (with_reducible first | exact HI103.out | apply IsS79.alloc | apply IsS79.drewN | apply IsS79.drew | apply IsS79.set_1) | exact HI103.out)) hb)
   clear hb ho27
   obtain ⟨Ao28, co28, eo28⟩ := Kd.R_slice HO118.out
   (first | subst eo28 | (injection eo28 with f1_ f2_ f3_;have f4_ := f1_.symm;have f5_ := f3_.symm;clear f1_ f2_ f3_;subst f4_;subst f5_))
   refine hK.out _ _ trivial (fun hHeld => ?_)
   clear hK K
   refine norm_ (a' := ?_) ?_ ?_
   rotate_left
   ·show Act.put _ (some 28) _ = _
    simp only [Act.put, q0_, List.set_cons_zero, List.set_cons_succ, i64_w, i32_w]
    rfl
   refine one_ (i := 5) (N := some 29) #[true, true, true, true, true, true, false, true, true, true, false, false, false, false, false] rfl rfl (one_of HT_.out (by kernel_rfl)) (by decide) (fun K hK => ?_)
   refine goes_ Tryd.func49 (by kernel_rfl) rfl #[.pointer (some ⟨g103, 0, none⟩), .slice Ao28 y116.length co28] (by rfl) rfl rfl (by (try simp only [List.map_toArray, List.map_cons, List.map_nil]);first | done | rfl | (simp only [List.length_drop, List.length_take];rfl)) ?_
   with_reducible refine (spec_l14Rd_of.calls kj4 g103 t101 t115 _ _ y116 t119 t120 w _ ?side1 ?side2 ?side3 ?side4 ?side5 A17.out).mono ?_
   (case side1 => repeat (first | (with_reducible first | exact HI103.out | apply IsS79.alloc | apply IsS79.drewN | apply IsS79.drew | apply IsS79.set_1) | exact HI103.out))
   (case side2 => repeat (first | (with_reducible first | exact HB.out | apply qg_ | apply qa_ | apply qf_ | refine qe_ ?_ (IsS79.ge HI103.out)) | exact HB.out))
   (case side3 => repeat (first | exact (Kd.R_reads' HO118.out).2.2 | (with_reducible refine Kd.C_alloc ?_ _) | (with_reducible refine Kd.C_drewN ?_ _) | (with_reducible refine Kd.C_drew ?_)))
   (case side4 => exact (Kd.R_reads' HO118.out).2.1)
   (case side5 => exact far_slice (IsS79.own_ne HI103.out HO118.out (by decide)))
   rintro e w29 ⟨rfl, hi, hb, hk⟩
   refine ⟨_, rfl, ?_⟩
   replace HO118 := m0_ (Kd.R_mono (Kd.R_keep (IsS79.apart (show IsS79 w _ g103 t101 t115 from by repeat (first | (with_reducible first | exact HI103.out | apply IsS79.alloc | apply IsS79.drewN | apply IsS79.drew | apply IsS79.set_1) | exact HI103.out)) (by exact HO118.out) (by decide)) hk (fun _ h => h.2)) (fun _ h => h.1))
   replace HB := m0_ (hb)
   replace HI103 := m0_ (hi)
   (try clear hb)
   (try clear hb2)
   (try clear hk)
   (try clear hi)
   refine hK.out _ _ trivial (fun hHeld => ?_)
   clear hK K
   refine norm_ (a' := ?_) ?_ ?_
   rotate_left
   ·show Act.put _ (some 29) _ = _
    simp only [Act.put, q0_, List.set_cons_zero, List.set_cons_succ, i64_w, i32_w]
    rfl
   refine pv_ 6 30 #[true, true, true, true, true, true, true, true, true, true, false, false, false, false, false] (any_of HT_.out (by kernel_rfl)) ?_
   refine one_ (i := 10) (N := some 34) #[true, true, true, true, true, true, true, true, true, true, true, false, false, false, false] rfl rfl (one_of HT_.out (by kernel_rfl)) (by decide) (fun K hK => ?_)
   refine goes_ Tryd.func48 (by kernel_rfl) rfl #[.pointer (some ⟨g103, 0, none⟩), .int .i64 2] (by rfl) rfl rfl (by (try simp only [List.map_toArray, List.map_cons, List.map_nil]);first | done | rfl | (simp only [List.length_drop, List.length_take];rfl)) ?_
   with_reducible refine (spec_l14Rd_pick.calls kj4 g103 t101 t120 2 t121 t122 w _ ?side1 ?side2 A19.out).mono ?_
   (case side1 => repeat (first | (with_reducible first | exact HI103.out | apply IsS79.alloc | apply IsS79.drewN | apply IsS79.drew | apply IsS79.set_1) | exact HI103.out))
   (case side2 => repeat (first | (with_reducible first | exact HB.out | apply qg_ | apply qa_ | apply qf_ | refine qe_ ?_ (IsS79.ge HI103.out)) | exact HB.out))
   rintro e w30 ⟨rfl, hi, hb, hk⟩
   refine ⟨_, rfl, ?_⟩
   replace HO118 := m0_ (Kd.R_mono (Kd.R_keep (IsS79.apart (show IsS79 w _ g103 t101 t120 from by repeat (first | (with_reducible first | exact HI103.out | apply IsS79.alloc | apply IsS79.drewN | apply IsS79.drew | apply IsS79.set_1) | exact HI103.out)) (by exact HO118.out) (by decide)) hk (fun _ h => h.2)) (fun _ h => h.1))
   replace HB := m0_ (hb)
   replace HI103 := m0_ (hi)
   (try clear hb)
   (try clear hb2)
   (try clear hk)
   (try clear hi)
   refine hK.out _ _ trivial (fun hHeld => ?_)
   clear hK K
   refine norm_ (a' := ?_) ?_ ?_
   rotate_left
   ·show Act.put _ (some 34) _ = _
    simp only [Act.put, q0_, List.set_cons_zero, List.set_cons_succ, i64_w, i32_w]
    rfl
   refine pv_ 11 35 #[true, true, true, true, true, true, true, true, true, true, true, true, false, false, false] (any_of HT_.out (by kernel_rfl)) ?_
   refine pv_ 12 36 #[true, true, true, true, true, true, true, true, true, true, true, true, true, false, false] (any_of HT_.out (by kernel_rfl)) ?_
   refine pv_ 13 37 #[true, true, true, true, true, true, true, true, true, true, true, true, true, true, false] (any_of HT_.out (by kernel_rfl)) ?_
   refine pv_ 14 2 #[true, true, true, true, true, true, true, true, true, true, true, true, true, true, true] (any_of HT_.out (by kernel_rfl)) ?_
   refine done_ (done_of HT_.out (by kernel_rfl)) ?_
   try go_wp2
   go_ret
   exact ⟨by first | rfl | (simp [errW_none, errW_some] <;> rfl) | (simp only [← hji20];first | rfl | (simp [errW_none, errW_some] <;> rfl)) | (simp [*, errW_none, errW_some] <;> rfl), by repeat (first | (with_reducible first | exact HB.out | apply qg_ | apply qa_ | apply qf_ | refine qe_ ?_ (IsS79.ge HI103.out)) | exact HB.out)⟩

end Go.Proofs.YtbcdfbiggjfmlaaDoor.M
