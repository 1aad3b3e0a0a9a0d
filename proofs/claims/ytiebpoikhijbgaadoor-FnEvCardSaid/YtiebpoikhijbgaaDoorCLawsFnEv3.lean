/- What the claim's law leans on: the program's functions, what they compute, and the law over plain values; no condition is asked. (Part 3 of 4.) -/
import Derived.Test.YtiebpoikhijbgaaDoorCLawsFnEv2
import Derived.Lib.ItoaNum
import Derived.Lib.ItoaLen
import Derived.Lib.Join
import Derived.Lib.SplitLaws
import Derived.Lib.IndexLaws
import Derived.Lib.CutLaws
import Derived.Lib.AtoiAll
import Derived.Laws.BitsAllLaws
import Derived.Laws.BitsLemmas
namespace Go.Proofs.YtiebpoikhijbgaaDoor.M
open Go.RowKit Go.Proofs.YtiebpoikhijbgaaDoorW.PrintWords Go.Proofs.YtiebpoikhijbgaaDoorW.PrintLast Go.Proofs.YtiebpoikhijbgaaDoorW.PrintMore
attribute [local go_sem] max2_int min2_int max_two min_two max_three min_three max_four min_four
set_option linter.unusedVariables false
set_option linter.unusedSimpArgs false

def spec_DrawEvOk.f (k : Nat) (l0 : List Int) : Option (Int × Int × Int) := (spec_l14Open.f l0).bind fun bt102 => ((spec_l14Rd_num.f k bt102.1 bt102.2 (([0, 4, 5, (-1), 2] : List Int))).bind fun bt108 => ((spec_l14Rd_num.f k bt102.1 bt108.2 (([1, 0, 1000, 1001, 7] : List Int))).bind fun bt113 => ((spec_l14Rd_num.f k bt102.1 bt113.2 (([0, 100, 101, (-1), 3] : List Int))).bind fun bt118 => (some (bt108.1, bt113.1, bt118.1)))))
set_option maxHeartbeats 8000000 in
set_option maxRecDepth 100000 in
theorem spec_DrawEvOk.calls (k : Nat) (A0 : Option Addr) (c0 : Nat) (l0 : List Int) (r1 : Int) (r2 : Int) (r3 : Int) (w : World) (hr0 : Kd.C (Kd.int .u8) w A0 l0.length l0) (hc0 : l0.length ≤ c0) (h : spec_DrawEvOk.f k l0 = some (r1, r2, r3)) :
  Calls Tryd.prog 17 #[.slice A0 l0.length c0] w fun e w' => e = .returned (.agg #[.int .i64 r1, .int .i64 r2, .int .i64 r3]) ∧ Below w.heap.size w w' := by
 have hu35 := Tryd.underlying35
 have HR0 := m0_ hr0
 have HC0 := m0_ hc0
 clear hr0 hc0
 have HB := m0_ (Below.refl w.heap.size w)
 have H : ((spec_l14Open.f l0).bind fun bt102 => ((spec_l14Rd_num.f k bt102.1 bt102.2 (([0, 4, 5, (-1), 2] : List Int))).bind fun bt108 => ((spec_l14Rd_num.f k bt102.1 bt108.2 (([1, 0, 1000, 1001, 7] : List Int))).bind fun bt113 => ((spec_l14Rd_num.f k bt102.1 bt113.2 (([0, 100, 101, (-1), 3] : List Int))).bind fun bt118 => (some (bt108.1, bt113.1, bt118.1)))))) = some (r1, r2, r3) := h
 clear h
 replace H := Option.bind_eq_some_iff.mp H
 obtain ⟨⟨t102, t103⟩, A20, H⟩ := H
 replace H : ((spec_l14Rd_num.f k t102 t103 (([0, 4, 5, (-1), 2] : List Int))).bind fun bt108 => ((spec_l14Rd_num.f k t102 bt108.2 (([1, 0, 1000, 1001, 7] : List Int))).bind fun bt113 => ((spec_l14Rd_num.f k t102 bt113.2 (([0, 100, 101, (-1), 3] : List Int))).bind fun bt118 => (some (bt108.1, bt113.1, bt118.1))))) = some (r1, r2, r3) := H
 have A2 := m0_ A20
 clear A20
 obtain ⟨y105, hy105⟩ : ∃ y_ : List Int, y_ = (([0, 4, 5, (-1), 2] : List Int)) := ⟨_, rfl⟩
 replace H : ((spec_l14Rd_num.f k t102 t103 y105).bind fun bt108 => ((spec_l14Rd_num.f k t102 bt108.2 (([1, 0, 1000, 1001, 7] : List Int))).bind fun bt113 => ((spec_l14Rd_num.f k t102 bt113.2 (([0, 100, 101, (-1), 3] : List Int))).bind fun bt118 => (some (bt108.1, bt113.1, bt118.1))))) = some (r1, r2, r3) := by first | (rw [hy105];with_reducible exact H) | (have H2_ := (Option.bind_some _ _).symm.trans H;rw [hy105];with_reducible exact H2_) | (have H2_ := (Option.bind_some _ _).symm.trans H;with_reducible exact H2_) | with_reducible exact H | (rw [hy105];exact H) | exact H
 have Ny105 := m0_ hy105
 clear hy105
 replace H := Option.bind_eq_some_iff.mp H
 obtain ⟨⟨t108, t109⟩, A30, H⟩ := H
 replace H : ((spec_l14Rd_num.f k t102 t109 (([1, 0, 1000, 1001, 7] : List Int))).bind fun bt113 => ((spec_l14Rd_num.f k t102 bt113.2 (([0, 100, 101, (-1), 3] : List Int))).bind fun bt118 => (some (t108, bt113.1, bt118.1)))) = some (r1, r2, r3) := H
 have A3 := m0_ A30
 clear A30
 obtain ⟨y110, hy110⟩ : ∃ y_ : List Int, y_ = (([1, 0, 1000, 1001, 7] : List Int)) := ⟨_, rfl⟩
 replace H : ((spec_l14Rd_num.f k t102 t109 y110).bind fun bt113 => ((spec_l14Rd_num.f k t102 bt113.2 (([0, 100, 101, (-1), 3] : List Int))).bind fun bt118 => (some (t108, bt113.1, bt118.1)))) = some (r1, r2, r3) := by first | (rw [hy110];with_reducible exact H) | (have H2_ := (Option.bind_some _ _).symm.trans H;rw [hy110];with_reducible exact H2_) | (have H2_ := (Option.bind_some _ _).symm.trans H;with_reducible exact H2_) | with_reducible exact H | (rw [hy110];exact H) | exact H
 have Ny110 := m0_ hy110
 clear hy110
 replace H := Option.bind_eq_some_iff.mp H
 obtain ⟨⟨t113, t114⟩, A40, H⟩ := H
 replace H : ((spec_l14Rd_num.f k t102 t114 (([0, 100, 101, (-1), 3] : List Int))).bind fun bt118 => (some (t108, t113, bt118.1))) = some (r1, r2, r3) := H
 have A4 := m0_ A40
 clear A40
 obtain ⟨y115, hy115⟩ : ∃ y_ : List Int, y_ = (([0, 100, 101, (-1), 3] : List Int)) := ⟨_, rfl⟩
 replace H : ((spec_l14Rd_num.f k t102 t114 y115).bind fun bt118 => (some (t108, t113, bt118.1))) = some (r1, r2, r3) := by first | (rw [hy115];with_reducible exact H) | (have H2_ := (Option.bind_some _ _).symm.trans H;rw [hy115];with_reducible exact H2_) | (have H2_ := (Option.bind_some _ _).symm.trans H;with_reducible exact H2_) | with_reducible exact H | (rw [hy115];exact H) | exact H
 have Ny115 := m0_ hy115
 clear hy115
 replace H := Option.bind_eq_some_iff.mp H
 obtain ⟨⟨t118, t119⟩, A50, H⟩ := H
 replace H : (some (t108, t113, t118)) = some (r1, r2, r3) := H
 have A5 := m0_ A50
 clear A50
 simp only [Option.some.injEq, Prod.mk.injEq] at H
 obtain ⟨rfl, rfl, rfl⟩ := H
 go_enter Tryd.func17, Tryd.ntmps17
 go_wp2_with (first | ((with_reducible refine gate_dst (N := 2) rfl ?_);refine box_event ?hg (N := 2) ?hd (cs := #[.int .i64 0, .int .i64 0, .int .i64 0]) (t := 35) ?hr ?_;(case hd => rfl);(case hg => rfl);(case hr => first | (go_simp;done) | (go_simp;rfl));intro gb101 hg w6 hbox hb;have BK101 := m0_ (hbox);have GW101 := m0_ ((by rw [hg];exact (below_size (by exact HB.out)) : w.heap.size ≤ gb101));have GE101 := m0_ ((by rw [hg];exact (below_size (by exact HB.out)) : w.heap.size ≤ gb101));replace HB := m0_ (below_step (by exact HB.out) hb);clear hb hbox hg) | ((with_reducible refine gate_callee (f := 27) rfl ?_);refine goesL_ (some 5) rfl rfl Tryd.func27 (by kernel_rfl) rfl #[.slice A0 l0.length c0] rfl (by (try simp only [List.map_toArray, List.map_cons, List.map_nil]);first | done | rfl | (simp only [List.length_drop, List.length_take];rfl)) ?_;(with_reducible refine (spec_l14Open.calls _ _ l0 t102 t103 w _ ?side1 ?side2 ?side3 A2.out).mono ?_);(case side1 => repeat (first | (with_reducible first | exact HB.out | apply below_alloc | apply pw_below_drewN | apply below_drew1 | refine below_set ?_ GE101.out) | exact HB.out));(case side2 => exact HR0.out);(case side3 => exact HC0.out);rintro e w7 ⟨g104, rfl, hi, hb, hb2⟩;refine ⟨_, rfl, ?_⟩;replace HB := m0_ (hb);have HI104 := m0_ (hi);have NB104_101 := m0_ (IsS69.ne_blk hi (blk_below BK101.out hb2) (by decide));have NB101_104 := m0_ (Ne.symm (IsS69.ne_blk hi (blk_below BK101.out hb2) (by decide)));replace BK101 := m0_ (blk_below BK101.out hb2);(try clear hb);(try clear hb2);(try clear hk);(try clear hi)) | ((with_reducible refine gate_dst (N := 7) rfl ?_);refine Kd.R_lit (Kd.int .i64) _ 3 ?hg (N := 7) ?hd (xs := ([0, 4, 5, (-1), 2] : List Int)) (inner := [.int .i64 0, .int .i64 4, .int .i64 5, .int .i64 (-1), .int .i64 2]) (ok := fun _ => True) (okp := fun _ => True) ?hr ?hp (fun _ hk => hk) trivial (Below.refl _ _) (Nat.le_refl _) (by simp) ?_;(case hd => rfl);(case hg => rfl);(case hr => first | (go_simp;done) | (go_simp;rfl));(case hp => exact (Reps.one (show Kd.M (Kd.int .i64) _ _ _ 0 [.int .i64 0] from rfl) (Reps.one (show Kd.M (Kd.int .i64) _ _ _ 4 [.int .i64 4] from rfl) (Reps.one (show Kd.M (Kd.int .i64) _ _ _ 5 [.int .i64 5] from rfl) (Reps.one (show Kd.M (Kd.int .i64) _ _ _ (-1) [.int .i64 (-1)] from rfl) (Reps.one (show Kd.M (Kd.int .i64) _ _ _ 2 [.int .i64 2] from rfl) (Reps.none _ _)))))));intro v106 w8 ho9 hb hg_ hnew_;clear hg_ hnew_;(first | rw [← Ny105.out] at ho9 | (simp only [Int.reduceToNat] at ho9;rw [← Ny105.out] at ho9));have HO107 := m0_ (Kd.R_lower ho9 (below_size (by repeat (first | (with_reducible first | exact HB.out | apply below_alloc | apply pw_below_drewN | apply below_drew1 | refine below_set ?_ (IsS69.ge HI104.out) | refine below_set ?_ GE101.out) | exact HB.out))));replace BK101 := m0_ (blk_below BK101.out hb);replace HB := m0_ (below_step (by repeat (first | (with_reducible first | exact HB.out | apply below_alloc | apply pw_below_drewN | apply below_drew1 | refine below_set ?_ (IsS69.ge HI104.out) | refine below_set ?_ GE101.out) | exact HB.out)) hb);replace HI104 := m0_ (IsS69.below (by repeat (first | (with_reducible first | exact HI104.out | apply IsS69.alloc | apply IsS69.drewN | apply IsS69.drew | apply IsS69.set_1 | refine IsS69.far ?_ NB104_101.out _) | exact HI104.out)) hb);clear hb ho9;obtain ⟨Ao10, co10, eo10⟩ := Kd.R_slice HO107.out;subst eo10) | ((with_reducible refine gate_callee (f := 39) rfl ?_);refine goesL_ (some 8) rfl rfl Tryd.func39 (by kernel_rfl) rfl #[.pointer (some ⟨g104, 0, none⟩), .slice Ao10 y105.length co10] rfl (by (try simp only [List.map_toArray, List.map_cons, List.map_nil]);first | done | rfl | (simp only [List.length_drop, List.length_take];rfl)) ?_;(with_reducible refine (spec_l14Rd_num.calls k g104 t102 t103 _ _ y105 t108 t109 w _ ?side1 ?side2 ?side3 ?side4 ?side5 A3.out).mono ?_);(case side1 => repeat (first | (with_reducible first | exact HI104.out | apply IsS69.alloc | apply IsS69.drewN | apply IsS69.drew | apply IsS69.set_1 | refine IsS69.far ?_ NB104_101.out _) | exact HI104.out));(case side2 => repeat (first | (with_reducible first | exact HB.out | apply below_alloc | apply pw_below_drewN | apply below_drew1 | refine below_set ?_ (IsS69.ge HI104.out) | refine below_set ?_ GE101.out) | exact HB.out));(case side3 => repeat (first | exact (Kd.R_reads' HO107.out).2.2 | (with_reducible refine Kd.C_alloc ?_ _) | (with_reducible refine Kd.C_drewN ?_ _) | (with_reducible refine Kd.C_drew ?_)));(case side4 => exact (Kd.R_reads' HO107.out).2.1);(case side5 => exact far_slice (IsS69.own_ne HI104.out HO107.out (by decide)));rintro e w11 ⟨rfl, hi, hb, hk⟩;refine ⟨_, rfl, ?_⟩;replace BK101 := m0_ (KeepBut.blk hk (g' := gb101) (o := .cells #[.int .i64 0, .int .i64 0, .int .i64 0] 35 (0, 0)) (by (with_reducible repeat (first | refine blk_drewN ?_ _ | refine blk_drew ?_ | refine blk_alloc ?_ _));exact BK101.out) NB101_104.out (by simp));replace HO107 := m0_ (Kd.R_mono (Kd.R_keep (IsS69.apart (show IsS69 w _ g104 t102 t103 from by repeat (first | (with_reducible first | exact HI104.out | apply IsS69.alloc | apply IsS69.drewN | apply IsS69.drew | apply IsS69.set_1 | refine IsS69.far ?_ NB104_101.out _) | exact HI104.out)) (by exact HO107.out) (by decide)) hk (fun _ h => h.2)) (fun _ h => h.1));replace HB := m0_ (hb);replace HI104 := m0_ (hi);(try clear hb);(try clear hb2);(try clear hk);(try clear hi)) | ((with_reducible refine gate_dst (N := 10) rfl ?_);refine Kd.R_lit (Kd.int .i64) _ 3 ?hg (N := 10) ?hd (xs := ([1, 0, 1000, 1001, 7] : List Int)) (inner := [.int .i64 1, .int .i64 0, .int .i64 1000, .int .i64 1001, .int .i64 7]) (ok := fun _ => True) (okp := fun _ => True) ?hr ?hp (fun _ hk => hk) trivial (Below.refl _ _) (Nat.le_refl _) (by simp) ?_;(case hd => rfl);(case hg => rfl);(case hr => first | (go_simp;done) | (go_simp;rfl));(case hp => exact (Reps.one (show Kd.M (Kd.int .i64) _ _ _ 1 [.int .i64 1] from rfl) (Reps.one (show Kd.M (Kd.int .i64) _ _ _ 0 [.int .i64 0] from rfl) (Reps.one (show Kd.M (Kd.int .i64) _ _ _ 1000 [.int .i64 1000] from rfl) (Reps.one (show Kd.M (Kd.int .i64) _ _ _ 1001 [.int .i64 1001] from rfl) (Reps.one (show Kd.M (Kd.int .i64) _ _ _ 7 [.int .i64 7] from rfl) (Reps.none _ _)))))));intro v111 w12 ho13 hb hg_ hnew_;clear hg_ hnew_;(first | rw [← Ny110.out] at ho13 | (simp only [Int.reduceToNat] at ho13;rw [← Ny110.out] at ho13));have HO112 := m0_ (Kd.R_lower (Kd.R_new' ho13 (Kd.R_lt (by exact HO107.out))) (below_size (by repeat (first | (with_reducible first | exact HB.out | apply below_alloc | apply pw_below_drewN | apply below_drew1 | refine below_set ?_ (IsS69.ge HI104.out) | refine below_set ?_ GE101.out) | exact HB.out))));replace HO107 := m0_ (Kd.R_elder' (by exact HO107.out) (Kd.R_base ho13) hb);replace BK101 := m0_ (blk_below BK101.out hb);replace HB := m0_ (below_step (by repeat (first | (with_reducible first | exact HB.out | apply below_alloc | apply pw_below_drewN | apply below_drew1 | refine below_set ?_ (IsS69.ge HI104.out) | refine below_set ?_ GE101.out) | exact HB.out)) hb);replace HI104 := m0_ (IsS69.below (by repeat (first | (with_reducible first | exact HI104.out | apply IsS69.alloc | apply IsS69.drewN | apply IsS69.drew | apply IsS69.set_1 | refine IsS69.far ?_ NB104_101.out _) | exact HI104.out)) hb);clear hb ho13;obtain ⟨Ao14, co14, eo14⟩ := Kd.R_slice HO112.out;subst eo14) | ((with_reducible refine gate_callee (f := 39) rfl ?_);refine goesL_ (some 11) rfl rfl Tryd.func39 (by kernel_rfl) rfl #[.pointer (some ⟨g104, 0, none⟩), .slice Ao14 y110.length co14] rfl (by (try simp only [List.map_toArray, List.map_cons, List.map_nil]);first | done | rfl | (simp only [List.length_drop, List.length_take];rfl)) ?_;(with_reducible refine (spec_l14Rd_num.calls k g104 t102 t109 _ _ y110 t113 t114 w _ ?side1 ?side2 ?side3 ?side4 ?side5 A4.out).mono ?_);(case side1 => repeat (first | (with_reducible first | exact HI104.out | apply IsS69.alloc | apply IsS69.drewN | apply IsS69.drew | apply IsS69.set_1 | refine IsS69.far ?_ NB104_101.out _) | exact HI104.out));(case side2 => repeat (first | (with_reducible first | exact HB.out | apply below_alloc | apply pw_below_drewN | apply below_drew1 | refine below_set ?_ (IsS69.ge HI104.out) | refine below_set ?_ GE101.out) | exact HB.out));(case side3 => repeat (first | exact (Kd.R_reads' HO112.out).2.2 | (with_reducible refine Kd.C_alloc ?_ _) | (with_reducible refine Kd.C_drewN ?_ _) | (with_reducible refine Kd.C_drew ?_)));(case side4 => exact (Kd.R_reads' HO112.out).2.1);(case side5 => exact far_slice (IsS69.own_ne HI104.out HO112.out (by decide)));rintro e w15 ⟨rfl, hi, hb, hk⟩;refine ⟨_, rfl, ?_⟩;replace BK101 := m0_ (KeepBut.blk hk (g' := gb101) (o := .cells #[.int .i64 0, .int .i64 0, .int .i64 0] 35 (0, 0)) (by (with_reducible repeat (first | refine blk_drewN ?_ _ | refine blk_drew ?_ | refine blk_alloc ?_ _));exact BK101.out) NB101_104.out (by simp));replace HO107 := m0_ (Kd.R_mono (Kd.R_keep (IsS69.apart (show IsS69 w _ g104 t102 t109 from by repeat (first | (with_reducible first | exact HI104.out | apply IsS69.alloc | apply IsS69.drewN | apply IsS69.drew | apply IsS69.set_1 | refine IsS69.far ?_ NB104_101.out _) | exact HI104.out)) (by exact HO107.out) (by decide)) hk (fun _ h => h.2)) (fun _ h => h.1));replace HO112 := m0_ (Kd.R_mono (Kd.R_keep (IsS69.apart (show IsS69 w _ g104 t102 t109 from by repeat (first | (with_reducible first | exact HI104.out | apply IsS69.alloc | apply IsS69.drewN | apply IsS69.drew | apply IsS69.set_1 | refine IsS69.far ?_ NB104_101.out _) | exact HI104.out)) (by exact HO112.out) (by decide)) hk (fun _ h => h.2)) (fun _ h => h.1));replace HB := m0_ (hb);replace HI104 := m0_ (hi);(try clear hb);(try clear hb2);(try clear hk);(try clear hi)) | ((with_reducible refine gate_dst (N := 13) rfl ?_);refine Kd.R_lit (Kd.int .i64) _ 3 ?hg (N := 13) ?hd (xs := ([0, 100, 101, (-1), 3] : List Int)) (inner := [.int .i64 0, .int .i64 100, .int .i64 101, .int .i64 (-1), .int .i64 3]) (ok := fun _ => True) (okp := fun _ => True) ?hr ?hp (fun _ hk => hk) trivial (Below.refl _ _) (Nat.le_refl _) (by simp) ?_;(case hd => rfl);(case hg => rfl);(case hr => first | (go_simp;done) | (go_simp;rfl));(case hp => exact (Reps.one (show Kd.M (Kd.int .i64) _ _ _ 0 [.int .i64 0] from rfl) (Reps.one (show Kd.M (Kd.int .i64) _ _ _ 100 [.int .i64 100] from rfl) (Reps.one (show Kd.M (Kd.int .i64) _ _ _ 101 [.int .i64 101] from rfl) (Reps.one (show Kd.M (Kd.int .i64) _ _ _ (-1) [.int .i64 (-1)] from rfl) (Reps.one (show Kd.M (Kd.int .i64) _ _ _ 3 [.int .i64 3] from rfl) (Reps.none _ _)))))));intro v116 w16 ho17 hb hg_ hnew_;clear hg_ hnew_;(first | rw [← Ny115.out] at ho17 | (simp only [Int.reduceToNat] at ho17;rw [← Ny115.out] at ho17));have HO117 := m0_ (Kd.R_lower (Kd.R_new' (Kd.R_new' ho17 (Kd.R_lt (by exact HO107.out))) (Kd.R_lt (by exact HO112.out))) (below_size (by repeat (first | (with_reducible first | exact HB.out | apply below_alloc | apply pw_below_drewN | apply below_drew1 | refine below_set ?_ (IsS69.ge HI104.out) | refine below_set ?_ GE101.out) | exact HB.out))));replace HO107 := m0_ (Kd.R_elder' (by exact HO107.out) (Kd.R_base ho17) hb);replace HO112 := m0_ (Kd.R_elder' (by exact HO112.out) (Kd.R_base ho17) hb);replace BK101 := m0_ (blk_below BK101.out hb);replace HB := m0_ (below_step (by repeat (first | (with_reducible first | exact HB.out | apply below_alloc | apply pw_below_drewN | apply below_drew1 | refine below_set ?_ (IsS69.ge HI104.out) | refine below_set ?_ GE101.out) | exact HB.out)) hb);replace HI104 := m0_ (IsS69.below (by repeat (first | (with_reducible first | exact HI104.out | apply IsS69.alloc | apply IsS69.drewN | apply IsS69.drew | apply IsS69.set_1 | refine IsS69.far ?_ NB104_101.out _) | exact HI104.out)) hb);clear hb ho17;obtain ⟨Ao18, co18, eo18⟩ := Kd.R_slice HO117.out;subst eo18) | ((with_reducible refine gate_callee (f := 39) rfl ?_);refine goesL_ (some 14) rfl rfl Tryd.func39 (by kernel_rfl) rfl #[.pointer (some ⟨g104, 0, none⟩), .slice Ao18 y115.length co18] rfl (by (try simp only [List.map_toArray, List.map_cons, List.map_nil]);first | done | rfl | (simp only [List.length_drop, List.length_take];rfl)) ?_;(with_reducible refine (spec_l14Rd_num.calls k g104 t102 t114 _ _ y115 t118 t119 w _ ?side1 ?side2 ?side3 ?side4 ?side5 A5.out).mono ?_);(case side1 => repeat (first | (with_reducible first | exact HI104.out | apply IsS69.alloc | apply IsS69.drewN | apply IsS69.drew | apply IsS69.set_1 | refine IsS69.far ?_ NB104_101.out _) | exact HI104.out));(case side2 => repeat (first | (with_reducible first | exact HB.out | apply below_alloc | apply pw_below_drewN | apply below_drew1 | refine below_set ?_ (IsS69.ge HI104.out) | refine below_set ?_ GE101.out) | exact HB.out));(case side3 => repeat (first | exact (Kd.R_reads' HO117.out).2.2 | (with_reducible refine Kd.C_alloc ?_ _) | (with_reducible refine Kd.C_drewN ?_ _) | (with_reducible refine Kd.C_drew ?_)));(case side4 => exact (Kd.R_reads' HO117.out).2.1);(case side5 => exact far_slice (IsS69.own_ne HI104.out HO117.out (by decide)));rintro e w19 ⟨rfl, hi, hb, hk⟩;refine ⟨_, rfl, ?_⟩;replace BK101 := m0_ (KeepBut.blk hk (g' := gb101) (o := .cells #[.int .i64 0, .int .i64 0, .int .i64 0] 35 (0, 0)) (by (with_reducible repeat (first | refine blk_drewN ?_ _ | refine blk_drew ?_ | refine blk_alloc ?_ _));exact BK101.out) NB101_104.out (by simp));replace HO107 := m0_ (Kd.R_mono (Kd.R_keep (IsS69.apart (show IsS69 w _ g104 t102 t114 from by repeat (first | (with_reducible first | exact HI104.out | apply IsS69.alloc | apply IsS69.drewN | apply IsS69.drew | apply IsS69.set_1 | refine IsS69.far ?_ NB104_101.out _) | exact HI104.out)) (by exact HO107.out) (by decide)) hk (fun _ h => h.2)) (fun _ h => h.1));replace HO112 := m0_ (Kd.R_mono (Kd.R_keep (IsS69.apart (show IsS69 w _ g104 t102 t114 from by repeat (first | (with_reducible first | exact HI104.out | apply IsS69.alloc | apply IsS69.drewN | apply IsS69.drew | apply IsS69.set_1 | refine IsS69.far ?_ NB104_101.out _) | exact HI104.out)) (by exact HO112.out) (by decide)) hk (fun _ h => h.2)) (fun _ h => h.1));replace HO117 := m0_ (Kd.R_mono (Kd.R_keep (IsS69.apart (show IsS69 w _ g104 t102 t114 from by repeat (first | (with_reducible first | exact HI104.out | apply IsS69.alloc | apply IsS69.drewN | apply IsS69.drew | apply IsS69.set_1 | refine IsS69.far ?_ NB104_101.out _) | exact HI104.out)) (by exact HO117.out) (by decide)) hk (fun _ h => h.2)) (fun _ h => h.1));replace HB := m0_ (hb);replace HI104 := m0_ (hi);(try clear hb);(try clear hb2);(try clear hk);(try clear hi);have hnb20 := NB101_104.out;have hnc20 := NB104_101.out;obtain ⟨hcz21_0, hcz21_1, hcz21_2, hfz21_0, hfz21_1, hfz21_2⟩ := bx3 BK101.out))
 refine bodyPost_ret (results_cell_row rfl _ _ gb101 35 #[.int .i64 t108, .int .i64 t113, .int .i64 t118] (0, 0) _ rfl (by (with_reducible repeat (first | refine blk_drewN ?_ _ | refine blk_drew ?_ | refine blk_alloc ?_ _));refine blk_put (cs := #[.int .i64 t108, .int .i64 t113, .int .i64 0]) ?_ 2 _ rfl;(with_reducible repeat (first | refine blk_drewN ?_ _ | refine blk_drew ?_ | refine blk_alloc ?_ _));refine blk_put (cs := #[.int .i64 t108, .int .i64 0, .int .i64 0]) ?_ 1 _ rfl;(with_reducible repeat (first | refine blk_drewN ?_ _ | refine blk_drew ?_ | refine blk_alloc ?_ _));refine blk_put (cs := #[.int .i64 0, .int .i64 0, .int .i64 0]) ?_ 0 _ rfl;(with_reducible repeat (first | refine blk_drewN ?_ _ | refine blk_drew ?_ | refine blk_alloc ?_ _));exact BK101.out) Tryd.underlying35 rfl (by kernel_rfl)) rfl ?_
 exact ⟨by first | rfl | (simp [errW_none, errW_some] <;> rfl) | (simp [*, errW_none, errW_some] <;> rfl), by repeat (first | (with_reducible first | exact HB.out | apply below_alloc | apply pw_below_drewN | apply below_drew1 | refine below_set ?_ (IsS69.ge HI104.out) | refine below_set ?_ GE101.out) | exact HB.out)⟩

def spec_EvsTill.l0 : Nat → List (S35) → Int → List (S35) → Int → Option ((List (S35)))
 | 0, _, _, _, _ => none
 | k + 1, x0, x1, x5, x6 => if x6 < (x0.length : Int) then (if 0 ≤ x6 then (if ((rd_T35 x0 x6).f1) ≤ x1 then (if x5.length < 5864062014805 then (spec_EvsTill.l0 k x0 x1 (x5 ++ [(⟨(rd_T35 x0 x6).f0, (rd_T35 x0 x6).f1, (rd_T35 x0 x6).f2⟩ : S35)]) (wrap64 (x6 + 1))) else (none)) else (spec_EvsTill.l0 k x0 x1 x5 (wrap64 (x6 + 1)))) else (none)) else (some x5)
def spec_EvsTill.f (k : Nat) (l0 : List (S35)) (a1 : Int) : Option ((List (S35))) := spec_EvsTill.l0 k l0 a1 (([] : List (S35))) 0
set_option maxHeartbeats 8000000 in
set_option maxRecDepth 100000 in
theorem spec_EvsTill.calls (k : Nat) (A0 : Option Addr) (c0 : Nat) (l0 : List (S35)) (a1 : Int) (r : List (S35)) (w : World) (hr0 : Kd.C k35 w A0 l0.length l0) (hc0 : l0.length ≤ c0) (h : spec_EvsTill.f k l0 a1 = some r) :
  Calls Tryd.prog 18 #[.slice A0 l0.length c0, .int .i64 a1] w fun e w' => ∃ v0_ : Value, e = .returned (v0_) ∧ Kd.R k35 35 w' w.heap.size (fun _ => True) v0_ r ∧ Below w.heap.size w w' := by
 have hu35 := Tryd.underlying35
 have HR0 := m0_ hr0
 have HC0 := m0_ hc0
 clear hr0 hc0
 have HB := m0_ (Below.refl w.heap.size w)
 have H : (spec_EvsTill.l0 k l0 a1 (([] : List (S35))) 0) = some r := h
 clear h
 obtain ⟨y101, hy101⟩ : ∃ y_ : List (S35), y_ = (([] : List (S35))) := ⟨_, rfl⟩
 replace H : (spec_EvsTill.l0 k l0 a1 y101 0) = some r := by first | (rw [hy101];with_reducible exact H) | (have H2_ := (Option.bind_some _ _).symm.trans H;rw [hy101];with_reducible exact H2_) | (have H2_ := (Option.bind_some _ _).symm.trans H;with_reducible exact H2_) | with_reducible exact H | (rw [hy101];exact H) | exact H
 have Ny101 := m0_ hy101
 clear hy101
 have H' := m0_ H
 clear H
 go_enter Tryd.func18, Tryd.ntmps18
 go_wp2_with (first | ((with_reducible refine gate_dst (N := 7) rfl ?_);refine Kd.R_lit k35 _ 35 ?hg (N := 7) ?hd (xs := ([] : List (S35))) (inner := []) (ok := fun _ => True) (okp := fun _ => True) ?hr ?hp (fun _ hk => hk) trivial (Below.refl _ _) (Nat.le_refl _) (by simp) ?_;(case hd => rfl);(case hg => rfl);(case hr => first | (go_simp;done) | (go_simp;rfl));(case hp => exact (Reps.none _ _));intro v102 w3 ho4 hb hg_ hnew_;clear hg_ hnew_;(first | rw [← Ny101.out] at ho4 | (simp only [Int.reduceToNat] at ho4;rw [← Ny101.out] at ho4));have HO103 := m0_ (Kd.R_lower ho4 (below_size (by exact HB.out)));replace HB := m0_ (below_step (by exact HB.out) hb);clear hb ho4))
 go_loopg [5, 6] k (fun kq v5 v6 w' => ∃ (x5_1 : List (S35)) (x6_1 : Int), v6 = .int .i64 x6_1 ∧ Aside0 (spec_EvsTill.l0 kq l0 a1 x5_1 x6_1 = some r) ∧ Aside0 (kq ≤ k) ∧ Aside0 (Kd.R k35 35 w' w.heap.size (fun _ => True) v5 x5_1) ∧ Aside0 (Below w.heap.size w w'))
 case atStart => exact ⟨(y101), (0), (by first | rfl | (simp;done) | (simp [*];done)), H', ⟨Nat.le_refl _⟩, ⟨by (with_reducible repeat (first | apply Kd.R_alloc | apply Kd.R_drewN | apply Kd.R_drew));exact HO103.out⟩, ⟨by repeat (first | (with_reducible first | exact HB.out | apply below_alloc | apply pw_below_drewN | apply below_drew1) | exact HB.out)⟩⟩
 case round =>
  clear H'
  try clear c1
  try clear p2
  obtain ⟨x5_1, x6_1, rfl, HA, HK1, HO_5, HB⟩ := hrel
  cases gk with
  | zero => exact absurd HA.out (by simp [spec_EvsTill.l0])
  | succ k1 =>
   have H := HA.out
   clear HA
   simp only [spec_EvsTill.l0] at H
   by_cases c5 : x6_1 < (l0.length : Int)
   rotate_left
   ·rw [if_neg c5] at H
    have c5b0 : decide (x6_1 < (l0.length : Int)) = false := decide_eq_false c5
    clear c5
    obtain rfl := Option.some.inj H
    go_wp2
    go_ret
    exact ⟨_, by first | rfl | (simp [errW_none, errW_some] <;> rfl) | (simp [*, errW_none, errW_some] <;> rfl), by (with_reducible repeat (first | apply Kd.R_alloc | apply Kd.R_drewN | apply Kd.R_drew));exact HO_5.out, by repeat (first | (with_reducible first | exact HB.out | apply below_alloc | apply pw_below_drewN | apply below_drew1) | exact HB.out)⟩
   rw [if_pos c5] at H
   have c5b0 : decide (x6_1 < (l0.length : Int)) = true := decide_eq_true c5
   clear c5
   by_cases c6 : 0 ≤ x6_1
   rotate_left
   ·rw [if_neg c6] at H
    exact absurd H (by simp)
   rw [if_pos c6] at H
   have c6b0 : decide (0 ≤ x6_1) = true := decide_eq_true c6
   clear c6
   by_cases c7 : ((rd_T35 l0 x6_1).f1) ≤ a1
   rotate_left
   ·rw [if_neg c7] at H
    have c7b0 : decide (((rd_T35 l0 x6_1).f1) ≤ a1) = false := decide_eq_false c7
    clear c7
    have H' := m0_ H
    clear H
    have p104 : 0 ≤ (x6_1 : Int) := of_decide_eq_true (by first | (with_reducible assumption) | assumption)
    have q104 : x6_1 < (l0.length : Int) := of_decide_eq_true (by first | (with_reducible assumption) | assumption)
    obtain ⟨ad104, e104, hx104_0, hx104_1, hx104_2⟩ := at_T35 HR0.out x6_1 p104 q104
    cases e104
    replace hx104_0 := (HB.out.cell (World.block_lt_of_cell? w _ hx104_0)).trans hx104_0
    replace hx104_1 := (HB.out.cell (World.block_lt_of_cell? w _ hx104_1)).trans hx104_1
    replace hx104_2 := (HB.out.cell (World.block_lt_of_cell? w _ hx104_2)).trans hx104_2
    replace p104 := eq_true p104
    replace q104 := eq_true q104
    go_wp2
    go_roundg k1
    case measure => have := HK1.out;omega
    case rel => exact ⟨(x5_1), (wrap64 (x6_1 + 1)), (by first | rfl | (simp;done) | (simp [*];done)), H', ⟨by have := HK1.out;omega⟩, ⟨by (with_reducible repeat (first | apply Kd.R_alloc | apply Kd.R_drewN | apply Kd.R_drew));exact HO_5.out⟩, ⟨by repeat (first | (with_reducible first | exact HB.out | apply below_alloc | apply pw_below_drewN | apply below_drew1) | exact HB.out)⟩⟩
   rw [if_pos c7] at H
   have c7b0 : decide (((rd_T35 l0 x6_1).f1) ≤ a1) = true := decide_eq_true c7
   clear c7
   by_cases c8 : x5_1.length < 5864062014805
   rotate_left
   ·rw [if_neg c8] at H
    exact absurd H (by simp)
   rw [if_pos c8] at H
   have LMc8 := m0_ c8
   clear c8
   obtain ⟨y106, hy106⟩ : ∃ y_ : List (S35), y_ = (x5_1 ++ [(⟨(rd_T35 l0 x6_1).f0, (rd_T35 l0 x6_1).f1, (rd_T35 l0 x6_1).f2⟩ : S35)]) := ⟨_, rfl⟩
   replace H : (spec_EvsTill.l0 k1 l0 a1 y106 (wrap64 (x6_1 + 1))) = some r := by first | (rw [hy106];with_reducible exact H) | (have H2_ := (Option.bind_some _ _).symm.trans H;rw [hy106];with_reducible exact H2_) | (have H2_ := (Option.bind_some _ _).symm.trans H;with_reducible exact H2_) | with_reducible exact H | (rw [hy106];exact H) | exact H
   have Ny106 := m0_ hy106
   clear hy106
   have H' := m0_ H
   clear H
   have p104 : 0 ≤ (x6_1 : Int) := of_decide_eq_true (by first | (with_reducible assumption) | assumption)
   have q104 : x6_1 < (l0.length : Int) := of_decide_eq_true (by first | (with_reducible assumption) | assumption)
   obtain ⟨ad104, e104, hx104_0, hx104_1, hx104_2⟩ := at_T35 HR0.out x6_1 p104 q104
   cases e104
   replace hx104_0 := (HB.out.cell (World.block_lt_of_cell? w _ hx104_0)).trans hx104_0
   replace hx104_1 := (HB.out.cell (World.block_lt_of_cell? w _ hx104_1)).trans hx104_1
   replace hx104_2 := (HB.out.cell (World.block_lt_of_cell? w _ hx104_2)).trans hx104_2
   replace p104 := eq_true p104
   replace q104 := eq_true q104
   have p105 : 0 ≤ (x6_1 : Int) := of_decide_eq_true (by first | (with_reducible assumption) | assumption)
   have q105 : x6_1 < (l0.length : Int) := of_decide_eq_true (by first | (with_reducible assumption) | assumption)
   obtain ⟨ad105, e105, hx105_0, hx105_1, hx105_2⟩ := at_T35 HR0.out x6_1 p105 q105
   obtain rfl : ad104 = ad105 := (by injection e105)
   replace hx105_0 := (HB.out.cell (World.block_lt_of_cell? w _ hx105_0)).trans hx105_0
   replace hx105_1 := (HB.out.cell (World.block_lt_of_cell? w _ hx105_1)).trans hx105_1
   replace hx105_2 := (HB.out.cell (World.block_lt_of_cell? w _ hx105_2)).trans hx105_2
   replace p105 := eq_true p105
   replace q105 := eq_true q105
   go_wp2_with (first | ((with_reducible refine gate_builtin (b := .append) (xs := #[.tmp 21, .tmp 26]) rfl ?_);at_builtin;refine Kd.R_append k35 (w0 := w) w.heap.size rfl (.tmp 21) (.tmp 26) 23 35 (.agg #[(.int .i64 0), (.int .i64 0), (.int .i64 0)]) 24 rfl Tryd.underlying23 info35 rfl (by decide) (by omega) u5 x5_1 (⟨(rd_T35 l0 x6_1).f0, (rd_T35 l0 x6_1).f1, (rd_T35 l0 x6_1).f2⟩ : S35) [.int .i64 ((rd_T35 l0 x6_1).f0), .int .i64 ((rd_T35 l0 x6_1).f1), .int .i64 ((rd_T35 l0 x6_1).f2)] (fun _ => True) (fun _ => False) rfl rfl ?aP (fun _ hk => hk.elim) ?aF ?aO ?aB ?aS ?aL ?_;(case aP => exact k35_mkM _ _ _ (⟨(rd_T35 l0 x6_1).f0, (rd_T35 l0 x6_1).f1, (rd_T35 l0 x6_1).f2⟩ : S35));(case aB => exact (by exact HB.out));(case aF => exact (fun _ _ => trivial));(case aO => exact (by exact HO_5.out));(case aS => exact (below_size (by exact HB.out)));(case aL => have := LMc8.out;omega);intro v107 w9 ho hb hg hat;rw [← Ny106.out] at ho;have n0_ := m0_ (hb);have n1_ := m0_ (ho);clear HB;clear HO_5;have HB := n0_;have HO108 := n1_;clear n0_ n1_;clear ho hb hg hat))
   go_roundg k1
   case measure => have := HK1.out;omega
   case rel => exact ⟨(y106), (wrap64 (x6_1 + 1)), (by first | rfl | (simp;done) | (simp [*];done)), H', ⟨by have := HK1.out;omega⟩, ⟨by (with_reducible repeat (first | apply Kd.R_alloc | apply Kd.R_drewN | apply Kd.R_drew));exact HO108.out⟩, ⟨by repeat (first | (with_reducible first | exact HB.out | apply below_alloc | apply pw_below_drewN | apply below_drew1) | exact HB.out)⟩⟩

def spec_DrawEvsText.f (k : Nat) (l0 : List Int) : Option ((List (S35))) := (spec_l14Open.f l0).bind fun bt101 => ((spec_l1Bent.f k bt101.1 bt101.2).bind fun bt104 => (some bt104.1))
set_option maxHeartbeats 8000000 in
set_option maxRecDepth 100000 in
theorem spec_DrawEvsText.calls (k : Nat) (A0 : Option Addr) (c0 : Nat) (l0 : List Int) (r : List (S35)) (w : World) (hr0 : Kd.C (Kd.int .u8) w A0 l0.length l0) (hc0 : l0.length ≤ c0) (h : spec_DrawEvsText.f k l0 = some r) :
  Calls Tryd.prog 6 #[.slice A0 l0.length c0] w fun e w' => ∃ v0_ : Value, e = .returned (v0_) ∧ Kd.R k35 35 w' w.heap.size (fun _ => True) v0_ r ∧ Below w.heap.size w w' := by
 have HR0 := m0_ hr0
 have HC0 := m0_ hc0
 clear hr0 hc0
 have HB := m0_ (Below.refl w.heap.size w)
 have H : ((spec_l14Open.f l0).bind fun bt101 => ((spec_l1Bent.f k bt101.1 bt101.2).bind fun bt104 => (some bt104.1))) = some r := h
 clear h
 replace H := Option.bind_eq_some_iff.mp H
 obtain ⟨⟨t101, t102⟩, A20, H⟩ := H
 replace H : ((spec_l1Bent.f k t101 t102).bind fun bt104 => (some bt104.1)) = some r := H
 have A2 := m0_ A20
 clear A20
 replace H := Option.bind_eq_some_iff.mp H
 obtain ⟨⟨t104, t107⟩, A30, H⟩ := H
 replace H : (some t104) = some r := H
 have A3 := m0_ A30
 clear A30
 obtain rfl := Option.some.inj H
 go_enter Tryd.func6, Tryd.ntmps6
 go_wp2_with (first | ((with_reducible refine gate_callee (f := 27) rfl ?_);refine goesL_ (some 4) rfl rfl Tryd.func27 (by kernel_rfl) rfl #[.slice A0 l0.length c0] rfl (by (try simp only [List.map_toArray, List.map_cons, List.map_nil]);first | done | rfl | (simp only [List.length_drop, List.length_take];rfl)) ?_;(with_reducible refine (spec_l14Open.calls _ _ l0 t101 t102 w _ ?side1 ?side2 ?side3 A2.out).mono ?_);(case side1 => repeat (first | (with_reducible first | exact HB.out | apply below_alloc | apply pw_below_drewN | apply below_drew1) | exact HB.out));(case side2 => exact HR0.out);(case side3 => exact HC0.out);rintro e w4 ⟨g103, rfl, hi, hb, hb2⟩;refine ⟨_, rfl, ?_⟩;replace HB := m0_ (hb);have HI103 := m0_ (hi);(try clear hb);(try clear hb2);(try clear hk);(try clear hi)) | ((with_reducible refine gate_callee (f := 26) rfl ?_);refine goesL_ (some 5) rfl rfl Tryd.func26 (by kernel_rfl) rfl #[.pointer (some ⟨g103, 0, none⟩)] rfl (by (try simp only [List.map_toArray, List.map_cons, List.map_nil]);first | done | rfl | (simp only [List.length_drop, List.length_take];rfl)) ?_;(with_reducible refine (spec_l1Bent.calls k g103 t101 t102 t104 t107 w _ ?side1 ?side2 A3.out).mono ?_);(case side1 => repeat (first | (with_reducible first | exact HI103.out | apply IsS69.alloc | apply IsS69.drewN | apply IsS69.drew | apply IsS69.set_1) | exact HI103.out));(case side2 => repeat (first | (with_reducible first | exact HB.out | apply below_alloc | apply pw_below_drewN | apply below_drew1 | refine below_set ?_ (IsS69.ge HI103.out)) | exact HB.out));rintro e w5 ⟨v105, rfl, ho0, hi, hb, hk⟩;refine ⟨_, rfl, ?_⟩;have HO106 := m0_ (Kd.R_lower ho0 (below_size (by repeat (first | (with_reducible first | exact HB.out | apply below_alloc | apply pw_below_drewN | apply below_drew1 | refine below_set ?_ (IsS69.ge HI103.out)) | exact HB.out))));replace HB := m0_ (hb);replace HI103 := m0_ (hi);(try clear hb);(try clear hb2);(try clear hk);(try clear hi);(try clear ho0)))
 go_ret
 exact ⟨_, by first | rfl | (simp [errW_none, errW_some] <;> rfl) | (simp [*, errW_none, errW_some] <;> rfl), by (with_reducible repeat (first | apply Kd.R_alloc | apply Kd.R_drewN | apply Kd.R_drew));exact HO106.out, by repeat (first | (with_reducible first | exact HB.out | apply below_alloc | apply pw_below_drewN | apply below_drew1 | refine below_set ?_ (IsS69.ge HI103.out)) | exact HB.out)⟩

def impl_letter.f (a0 : Int) : Option (ByteArray) := (impl_isSym.f a0).bind fun t101 => (if t101 = true then (if 0 ≤ a0 then (if a0 ≤ (wrap64 (a0 + 1)) then (if (wrap64 (a0 + 1)) ≤ 5 then (some ((⟨#[97, 98, 99, 100, 101]⟩ : ByteArray).extract (a0 : Int).toNat ((wrap64 (a0 + 1)) : Int).toNat)) else (none)) else (none)) else (none)) else (some (⟨#[63]⟩ : ByteArray)))
set_option maxHeartbeats 8000000 in
set_option maxRecDepth 100000 in
theorem impl_letter.calls (a0 : Int) (r : ByteArray) (w : World) (h : impl_letter.f a0 = some r) :
  Calls Tryd.prog 45 #[.int .i64 a0] w fun e w' => e = .returned (.string r) ∧ Drawn0 w w' := by
 have H : ((impl_isSym.f a0).bind fun t101 => (if t101 = true then (if 0 ≤ a0 then (if a0 ≤ (wrap64 (a0 + 1)) then (if (wrap64 (a0 + 1)) ≤ 5 then (some ((⟨#[97, 98, 99, 100, 101]⟩ : ByteArray).extract (a0 : Int).toNat ((wrap64 (a0 + 1)) : Int).toNat)) else (none)) else (none)) else (none)) else (some (⟨#[63]⟩ : ByteArray)))) = some r := h
 clear h
 replace H := Option.bind_eq_some_iff.mp H
 obtain ⟨t101, A20, H⟩ := H
 replace H : (if t101 = true then (if 0 ≤ a0 then (if a0 ≤ (wrap64 (a0 + 1)) then (if (wrap64 (a0 + 1)) ≤ 5 then (some ((⟨#[97, 98, 99, 100, 101]⟩ : ByteArray).extract (a0 : Int).toNat ((wrap64 (a0 + 1)) : Int).toNat)) else (none)) else (none)) else (none)) else (some (⟨#[63]⟩ : ByteArray))) = some r := H
 have A2 := m0_ A20
 clear A20
 by_cases c3 : t101 = true
 rotate_left
 ·replace c3 := Bool.eq_false_iff.mpr c3
  subst c3
  have H1 : (some (⟨#[63]⟩ : ByteArray)) = some r := by rw [if_neg (show ¬ (false = true) by decide)] at H;exact H
  clear H
  have H := H1
  clear H1
  obtain rfl := Option.some.inj H
  go_enter Tryd.func45, Tryd.ntmps45
  go_wp2_with (first | ((with_reducible refine gate_callee (f := 40) rfl ?_);refine goesL_ (some 4) rfl rfl Tryd.func40 (by kernel_rfl) rfl #[.int .i64 a0] rfl (by (try simp only [List.map_toArray, List.map_cons, List.map_nil]);first | done | rfl | (simp only [List.length_drop, List.length_take];rfl)) ?_;(with_reducible refine (impl_isSym.calls a0 false _ A2.out).mono ?_);rintro e w' ⟨rfl, ⟨nd, rfl⟩⟩;refine ⟨_, rfl, ?_⟩) | (go_at_call 40;(with_reducible refine (impl_isSym.calls a0 false _ A2.out).mono ?_);rintro e w' ⟨rfl, ⟨nd, rfl⟩⟩))
  go_ret
  exact ⟨by first | rfl | (simp;done) | (simp [*];done), by repeat (first | exact Drawn0.refl _ | apply Drawn0.step)⟩
 subst c3
 have H1 : (if 0 ≤ a0 then (if a0 ≤ (wrap64 (a0 + 1)) then (if (wrap64 (a0 + 1)) ≤ 5 then (some ((⟨#[97, 98, 99, 100, 101]⟩ : ByteArray).extract (a0 : Int).toNat ((wrap64 (a0 + 1)) : Int).toNat)) else (none)) else (none)) else (none)) = some r := by rw [if_pos rfl] at H;exact H
 clear H
 have H := H1
 clear H1
 by_cases c4 : 0 ≤ a0
 rotate_left
 ·rw [if_neg c4] at H
  exact absurd H (by simp)
 rw [if_pos c4] at H
 have c4b0 := eq_true c4
 have c4b1 : decide (0 ≤ a0) = true := decide_eq_true c4
 clear c4
 by_cases c5 : a0 ≤ (wrap64 (a0 + 1))
 ·rw [if_pos c5] at H
  have c5b0 := eq_true c5
  have c5b1 : decide (a0 ≤ (wrap64 (a0 + 1))) = true := decide_eq_true c5
  by_cases c6 : (wrap64 (a0 + 1)) ≤ 5
  ·rw [if_pos c6] at H
   have c6b0 := eq_true c6
   have c6b1 : decide ((wrap64 (a0 + 1)) ≤ 5) = true := decide_eq_true c6
   obtain rfl := Option.some.inj H
   go_enter Tryd.func45, Tryd.ntmps45
   go_wp2_with (first | ((with_reducible refine gate_callee (f := 40) rfl ?_);refine goesL_ (some 4) rfl rfl Tryd.func40 (by kernel_rfl) rfl #[.int .i64 a0] rfl (by (try simp only [List.map_toArray, List.map_cons, List.map_nil]);first | done | rfl | (simp only [List.length_drop, List.length_take];rfl)) ?_;(with_reducible refine (impl_isSym.calls a0 true _ A2.out).mono ?_);rintro e w' ⟨rfl, ⟨nd, rfl⟩⟩;refine ⟨_, rfl, ?_⟩) | (go_at_call 40;(with_reducible refine (impl_isSym.calls a0 true _ A2.out).mono ?_);rintro e w' ⟨rfl, ⟨nd, rfl⟩⟩))
   go_ret
   exact ⟨by first | rfl | (simp;done) | (simp [*];done), by repeat (first | exact Drawn0.refl _ | apply Drawn0.step)⟩
  ·rw [if_neg c6] at H
   exact absurd H (by simp)
 ·rw [if_neg c5] at H
  exact absurd H (by simp)

def strconv_Itoa.f (a0 : Int) : Option ByteArray := if -9223372036854775808 ≤ a0 ∧ a0 ≤ 9223372036854775807 then some (itoaB a0) else none
theorem strconv_Itoa.calls (a0 : Int) (r : ByteArray) (w : World) (h : strconv_Itoa.f a0 = some r) (ht : TabI w) :
  Calls Tryd.prog 46 #[.int .i64 a0] w fun e w' => e = .returned (.string r) ∧ Below w.heap.size w w' := by
 unfold strconv_Itoa.f at h
 by_cases c : -9223372036854775808 ≤ a0 ∧ a0 ≤ 9223372036854775807
 ·rw [if_pos c] at h
  obtain rfl := Option.some.inj h
  exact itoa_calls a0 c.1 c.2 w ht
 ·rw [if_neg c] at h
  cases h

noncomputable def impl_tell.f (a0 : Int) (a1 : Int) (a2 : Int) : Option (ByteArray) := (impl_letter.f a0).bind fun t101 => ((strconv_Itoa.f a1).bind fun t102 => (if t101.size + t102.size ≤ 9223372036854775807 then (if a2 = 0 then (some (t101 ++ t102)) else ((strconv_Itoa.f a2).bind fun t103 => (if 1 + t103.size ≤ 9223372036854775807 then (if (t101 ++ t102).size + ((⟨#[61]⟩ : ByteArray) ++ t103).size ≤ 9223372036854775807 then (some ((t101 ++ t102) ++ ((⟨#[61]⟩ : ByteArray) ++ t103))) else (none)) else (none)))) else (none)))
set_option maxHeartbeats 8000000 in
set_option maxRecDepth 100000 in
theorem impl_tell.calls (a0 : Int) (a1 : Int) (a2 : Int) (r : ByteArray) (w : World) (h : impl_tell.f a0 a1 a2 = some r) (ht_TabI : TabI w) :
  Calls Tryd.prog 28 #[.int .i64 a0, .int .i64 a1, .int .i64 a2] w fun e w' => e = .returned (.string r) ∧ Below w.heap.size w w' := by
 have HTX_TabI := m0_ ht_TabI
 clear ht_TabI
 have HB := m0_ (Below.refl w.heap.size w)
 have H : ((impl_letter.f a0).bind fun t101 => ((strconv_Itoa.f a1).bind fun t102 => (if t101.size + t102.size ≤ 9223372036854775807 then (if a2 = 0 then (some (t101 ++ t102)) else ((strconv_Itoa.f a2).bind fun t103 => (if 1 + t103.size ≤ 9223372036854775807 then (if (t101 ++ t102).size + ((⟨#[61]⟩ : ByteArray) ++ t103).size ≤ 9223372036854775807 then (some ((t101 ++ t102) ++ ((⟨#[61]⟩ : ByteArray) ++ t103))) else (none)) else (none)))) else (none)))) = some r := h
 clear h
 replace H := Option.bind_eq_some_iff.mp H
 obtain ⟨t101, A40, H⟩ := H
 replace H : ((strconv_Itoa.f a1).bind fun t102 => (if t101.size + t102.size ≤ 9223372036854775807 then (if a2 = 0 then (some (t101 ++ t102)) else ((strconv_Itoa.f a2).bind fun t103 => (if 1 + t103.size ≤ 9223372036854775807 then (if (t101 ++ t102).size + ((⟨#[61]⟩ : ByteArray) ++ t103).size ≤ 9223372036854775807 then (some ((t101 ++ t102) ++ ((⟨#[61]⟩ : ByteArray) ++ t103))) else (none)) else (none)))) else (none))) = some r := H
 have A4 := m0_ A40
 clear A40
 replace H := Option.bind_eq_some_iff.mp H
 obtain ⟨t102, A50, H⟩ := H
 replace H : (if t101.size + t102.size ≤ 9223372036854775807 then (if a2 = 0 then (some (t101 ++ t102)) else ((strconv_Itoa.f a2).bind fun t103 => (if 1 + t103.size ≤ 9223372036854775807 then (if (t101 ++ t102).size + ((⟨#[61]⟩ : ByteArray) ++ t103).size ≤ 9223372036854775807 then (some ((t101 ++ t102) ++ ((⟨#[61]⟩ : ByteArray) ++ t103))) else (none)) else (none)))) else (none)) = some r := H
 have A5 := m0_ A50
 clear A50
 by_cases c6 : t101.size + t102.size ≤ 9223372036854775807
 rotate_left
 ·rw [if_neg c6] at H
  exact absurd H (by simp)
 rw [if_pos c6] at H
 have c6b0 := eq_true c6
 have c6b1 : decide (t101.size + t102.size ≤ 9223372036854775807) = true := decide_eq_true c6
 try have c6b2 : (9223372036854775807 < t101.size + t102.size) = False := eq_false (Nat.not_lt.2 c6)
 by_cases c7 : a2 = 0
 ·rw [if_pos c7] at H
  have c7b0 : (a2 == 0) = true := beq_iff_eq.mpr c7
  have c7b1 : (a2 != 0) = false := bne_eq_false_iff_eq.mpr c7
  clear c7
  obtain rfl := Option.some.inj H
  go_enter Tryd.func28, Tryd.ntmps28
  go_wp2_with (first | ((with_reducible refine gate_callee (f := 45) rfl ?_);refine goesL_ (some 9) rfl rfl Tryd.func45 (by kernel_rfl) rfl #[.int .i64 a0] rfl (by (try simp only [List.map_toArray, List.map_cons, List.map_nil]);first | done | rfl | (simp only [List.length_drop, List.length_take];rfl)) ?_;(with_reducible refine (impl_letter.calls a0 t101 _ A4.out).mono ?_);rintro e w' ⟨rfl, ⟨nd, rfl⟩⟩;refine ⟨_, rfl, ?_⟩) | (go_at_call 45;(with_reducible refine (impl_letter.calls a0 t101 _ A4.out).mono ?_);rintro e w' ⟨rfl, ⟨nd, rfl⟩⟩) | ((with_reducible refine gate_callee (f := 46) rfl ?_);refine goesL_ (some 11) rfl rfl Tryd.func46 (by kernel_rfl) rfl #[.int .i64 a1] rfl (by (try simp only [List.map_toArray, List.map_cons, List.map_nil]);first | done | rfl | (simp only [List.length_drop, List.length_take];rfl)) ?_;(with_reducible refine (strconv_Itoa.calls a1 t102 _ A5.out (by first | exact TabI.below HTX_TabI.out (by repeat (first | (with_reducible first | exact HB.out | apply below_alloc | apply pw_below_drewN | apply below_drew1) | exact HB.out)) | exact TabI.below (TabI.below HTX_TabI.out HB.out) Q_HB | exact TabI.below HTX_TabI.out (pw_below_drewN HB.out _) | exact TabI.below HTX_TabI.out (pw_below_drewN (pw_below_drewN HB.out _) _))).mono ?_);rintro e w8 ⟨rfl, hb⟩;refine ⟨_, rfl, ?_⟩;replace HB := m0_ (below_step (by repeat (first | (with_reducible first | exact HB.out | apply below_alloc | apply pw_below_drewN | apply below_drew1) | exact HB.out)) hb);(try clear hb);(try clear hb2);(try clear hk);(try clear hi)))
  go_ret
  exact ⟨by first | rfl | (simp [errW_none, errW_some] <;> rfl) | (simp [*, errW_none, errW_some] <;> rfl), by repeat (first | (with_reducible first | exact HB.out | apply below_alloc | apply pw_below_drewN | apply below_drew1) | exact HB.out)⟩
 rw [if_neg c7] at H
 have c7b0 : (a2 == 0) = false := beq_eq_false_iff_ne.mpr c7
 have c7b1 : (a2 != 0) = true := bne_iff_ne.mpr c7
 replace H := Option.bind_eq_some_iff.mp H
 obtain ⟨t103, A90, H⟩ := H
 replace H : (if 1 + t103.size ≤ 9223372036854775807 then (if (t101 ++ t102).size + ((⟨#[61]⟩ : ByteArray) ++ t103).size ≤ 9223372036854775807 then (some ((t101 ++ t102) ++ ((⟨#[61]⟩ : ByteArray) ++ t103))) else (none)) else (none)) = some r := H
 have A9 := m0_ A90
 clear A90
 by_cases c10 : 1 + t103.size ≤ 9223372036854775807
 rotate_left
 ·rw [if_neg c10] at H
  exact absurd H (by simp)
 rw [if_pos c10] at H
 have c10b0 := eq_true c10
 have c10b1 : decide (1 + t103.size ≤ 9223372036854775807) = true := decide_eq_true c10
 try have c10b2 : (9223372036854775807 < 1 + t103.size) = False := eq_false (Nat.not_lt.2 c10)
 by_cases c11 : (t101 ++ t102).size + ((⟨#[61]⟩ : ByteArray) ++ t103).size ≤ 9223372036854775807
 ·rw [if_pos c11] at H
  have c11b0 := eq_true c11
  have c11b1 : decide ((t101 ++ t102).size + ((⟨#[61]⟩ : ByteArray) ++ t103).size ≤ 9223372036854775807) = true := decide_eq_true c11
  have c11z : (t101 ++ t102).size + ((⟨#[61]⟩ : ByteArray) ++ t103).size ≤ 9223372036854775807 := c11
  simp only [ByteArray.size_append, show (⟨#[32]⟩ : ByteArray).size = 1 from rfl, show (⟨#[61]⟩ : ByteArray).size = 1 from rfl] at c11z
  have c11z0 := eq_true c11z
  have c11z1 := decide_eq_true c11z
  have c11z2 := eq_false (Nat.not_lt.2 c11z)
  try have c11b2 : (9223372036854775807 < (t101 ++ t102).size + ((⟨#[61]⟩ : ByteArray) ++ t103).size) = False := eq_false (Nat.not_lt.2 c11)
  obtain rfl := Option.some.inj H
  go_enter Tryd.func28, Tryd.ntmps28
  go_wp2_with (first | ((with_reducible refine gate_callee (f := 45) rfl ?_);refine goesL_ (some 9) rfl rfl Tryd.func45 (by kernel_rfl) rfl #[.int .i64 a0] rfl (by (try simp only [List.map_toArray, List.map_cons, List.map_nil]);first | done | rfl | (simp only [List.length_drop, List.length_take];rfl)) ?_;(with_reducible refine (impl_letter.calls a0 t101 _ A4.out).mono ?_);rintro e w' ⟨rfl, ⟨nd, rfl⟩⟩;refine ⟨_, rfl, ?_⟩) | (go_at_call 45;(with_reducible refine (impl_letter.calls a0 t101 _ A4.out).mono ?_);rintro e w' ⟨rfl, ⟨nd, rfl⟩⟩) | ((with_reducible refine gate_callee (f := 46) rfl ?_);refine goesL_ (some 11) rfl rfl Tryd.func46 (by kernel_rfl) rfl #[.int .i64 a1] rfl (by (try simp only [List.map_toArray, List.map_cons, List.map_nil]);first | done | rfl | (simp only [List.length_drop, List.length_take];rfl)) ?_;(with_reducible refine (strconv_Itoa.calls a1 t102 _ A5.out (by first | exact TabI.below HTX_TabI.out (by repeat (first | (with_reducible first | exact HB.out | apply below_alloc | apply pw_below_drewN | apply below_drew1) | exact HB.out)) | exact TabI.below (TabI.below HTX_TabI.out HB.out) Q_HB | exact TabI.below HTX_TabI.out (pw_below_drewN HB.out _) | exact TabI.below HTX_TabI.out (pw_below_drewN (pw_below_drewN HB.out _) _))).mono ?_);rintro e w12 ⟨rfl, hb⟩;refine ⟨_, rfl, ?_⟩;replace HB := m0_ (below_step (by repeat (first | (with_reducible first | exact HB.out | apply below_alloc | apply pw_below_drewN | apply below_drew1) | exact HB.out)) hb);(try clear hb);(try clear hb2);(try clear hk);(try clear hi)) | ((with_reducible refine gate_callee (f := 46) rfl ?_);refine goesL_ (some 17) rfl rfl Tryd.func46 (by kernel_rfl) rfl #[.int .i64 a2] rfl (by (try simp only [List.map_toArray, List.map_cons, List.map_nil]);first | done | rfl | (simp only [List.length_drop, List.length_take];rfl)) ?_;(with_reducible refine (strconv_Itoa.calls a2 t103 _ A9.out (by first | exact TabI.below HTX_TabI.out (by repeat (first | (with_reducible first | exact HB.out | apply below_alloc | apply pw_below_drewN | apply below_drew1) | exact HB.out)) | exact TabI.below (TabI.below HTX_TabI.out HB.out) Q_HB | exact TabI.below HTX_TabI.out (pw_below_drewN HB.out _) | exact TabI.below HTX_TabI.out (pw_below_drewN (pw_below_drewN HB.out _) _))).mono ?_);rintro e w13 ⟨rfl, hb⟩;refine ⟨_, rfl, ?_⟩;replace HB := m0_ (below_step (by repeat (first | (with_reducible first | exact HB.out | apply below_alloc | apply pw_below_drewN | apply below_drew1) | exact HB.out)) hb);(try clear hb);(try clear hb2);(try clear hk);(try clear hi)))
  go_ret
  exact ⟨by first | rfl | (simp [errW_none, errW_some] <;> rfl) | (simp [*, errW_none, errW_some] <;> rfl), by repeat (first | (with_reducible first | exact HB.out | apply below_alloc | apply pw_below_drewN | apply below_drew1) | exact HB.out)⟩
 ·rw [if_neg c11] at H
  exact absurd H (by simp)

def strings_Join.f (l0 : List ByteArray) (a1 : ByteArray) : Option ByteArray := if l0.length ≤ 140737488355328 ∧ (joinB l0 a1).size ≤ 140737488355328 then some (joinB l0 a1) else none
theorem strings_Join.calls (A0 : Option Addr) (c0 : Nat) (l0 : List (ByteArray)) (a1 : ByteArray) (r : ByteArray) (w : World) (hr0 : Kd.C Kd.string w A0 l0.length l0) (hc0 : l0.length ≤ c0) (h : strings_Join.f l0 a1 = some r) :
  Calls Tryd.prog 29 #[.slice A0 l0.length c0, .string a1] w fun e w' => e = .returned (.string r) ∧ Below w.heap.size w w' := by
 unfold strings_Join.f at h
 by_cases c : l0.length ≤ 140737488355328 ∧ (joinB l0 a1).size ≤ 140737488355328
 ·rw [if_pos c] at h
  obtain rfl := Option.some.inj h
  exact join_calls A0 c0 l0 a1 w hr0 hc0 c.1 c.2
 ·rw [if_neg c] at h
  cases h

noncomputable def impl_EvsText.l0 : Nat → List ByteArray → List (S35) → Int → Int → Option (ByteArray)
 | 0, _, _, _, _ => none
 | k + 1, x3, x6, x7, x8 => if x8 < x7 then (if 0 ≤ x8 then (if x8 < (x6.length : Int) then ((impl_tell.f ((rd_T35 x6 x8).f0) ((rd_T35 x6 x8).f1) ((rd_T35 x6 x8).f2)).bind fun t103 => (if x3.length < 8796093022208 then (impl_EvsText.l0 k (x3 ++ [t103]) x6 x7 (wrap64 (x8 + 1))) else (none))) else (none)) else (none)) else ((strings_Join.f x3 (⟨#[32]⟩ : ByteArray)).bind fun t107 => (some t107))
noncomputable def impl_EvsText.f (k : Nat) (l0 : List (S35)) : Option (ByteArray) := impl_EvsText.l0 k ([] : List ByteArray) l0 (l0.length : Int) 0
set_option maxHeartbeats 8000000 in
set_option maxRecDepth 100000 in
theorem impl_EvsText.calls (k : Nat) (A0 : Option Addr) (c0 : Nat) (l0 : List (S35)) (r : ByteArray) (w : World) (hr0 : Kd.C k35 w A0 l0.length l0) (hc0 : l0.length ≤ c0) (h : impl_EvsText.f k l0 = some r) (ht_TabI : TabI w) :
  Calls Tryd.prog 7 #[.slice A0 l0.length c0] w fun e w' => e = .returned (.string r) ∧ Below w.heap.size w w' := by
 have HTX_TabI := m0_ ht_TabI
 clear ht_TabI
 have hu35 := Tryd.underlying35
 have HR0 := m0_ hr0
 have HC0 := m0_ hc0
 clear hr0 hc0
 have HB := m0_ (Below.refl w.heap.size w)
 have H : (impl_EvsText.l0 k ([] : List ByteArray) l0 (l0.length : Int) 0) = some r := h
 clear h
 have H' := m0_ H
 clear H
 go_enter Tryd.func7, Tryd.ntmps7
 go_wp2
 go_loopg [3, 8] k (fun kq v3 v8 w' => ∃ (x3_1 : List ByteArray) (x8_1 : Int), v8 = .int .i64 x8_1 ∧ Aside0 (impl_EvsText.l0 kq x3_1 l0 (l0.length : Int) x8_1 = some r) ∧ Aside0 (kq ≤ k) ∧ Aside0 (Kd.R Kd.string 9 w' w.heap.size (fun _ => True) v3 x3_1) ∧ Aside0 (Below w.heap.size w w'))
 case atStart => exact ⟨(([] : List ByteArray)), (0), (by first | rfl | (simp;done) | (simp [*];done)), H', ⟨Nat.le_refl _⟩, ⟨by first | exact Kd.R_nil _ _ _ _ _ | exact Kd.N_nil _ _ _ _ _ | exact Kd.V_nil _ _ _ _ _ | exact Kd.Q_nil _ _ _ _ _ | exact Kd.S_nil _ _ _ _ _⟩, ⟨by repeat (first | (with_reducible first | exact HB.out | apply below_alloc | apply pw_below_drewN | apply below_drew1) | exact HB.out)⟩⟩
 case round =>
  clear H'
  obtain ⟨x3_1, x8_1, rfl, HA, HK1, HO_3, HB⟩ := hrel
  cases gk with
  | zero => exact absurd HA.out (by simp [impl_EvsText.l0])
  | succ k1 =>
   have H := HA.out
   clear HA
   simp only [impl_EvsText.l0] at H
   by_cases c2 : x8_1 < (l0.length : Int)
   rotate_left
   ·rw [if_neg c2] at H
    have c2b0 : decide (x8_1 < (l0.length : Int)) = false := decide_eq_false c2
    clear c2
    replace H := Option.bind_eq_some_iff.mp H
    obtain ⟨t107, A110, H⟩ := H
    replace H : (some t107) = some r := H
    have A11 := m0_ A110
    clear A110
    obtain rfl := Option.some.inj H
    obtain ⟨Ao12, co12, eo12⟩ := Kd.R_slice HO_3.out
    subst eo12
    go_wp2_with (first | ((with_reducible refine gate_callee (f := 29) rfl ?_);refine goesL_ (some 24) rfl rfl Tryd.func29 (by kernel_rfl) rfl #[.slice Ao12 x3_1.length co12, .string (⟨#[32]⟩ : ByteArray)] rfl (by (try simp only [List.map_toArray, List.map_cons, List.map_nil]);first | done | rfl | (simp only [List.length_drop, List.length_take];rfl)) ?_;(with_reducible refine (strings_Join.calls _ _ x3_1 (⟨#[32]⟩ : ByteArray) t107 _ ?side1 ?side2 A11.out).mono ?_);(case side1 => repeat (first | exact (Kd.R_reads' HO_3.out).2.2 | (with_reducible refine Kd.C_alloc ?_ _) | (with_reducible refine Kd.C_drewN ?_ _) | (with_reducible refine Kd.C_drew ?_)));(case side2 => exact (Kd.R_reads' HO_3.out).2.1);rintro e w13 ⟨rfl, hb⟩;refine ⟨_, rfl, ?_⟩;replace HO_3 := m0_ (Kd.R_below (by exact HO_3.out) hb);replace HB := m0_ (below_step (by repeat (first | (with_reducible first | exact HB.out | apply below_alloc | apply pw_below_drewN | apply below_drew1) | exact HB.out)) hb);(try clear hb);(try clear hb2);(try clear hk);(try clear hi)))
    go_ret
    exact ⟨by first | rfl | (simp [errW_none, errW_some] <;> rfl) | (simp [*, errW_none, errW_some] <;> rfl), by repeat (first | (with_reducible first | exact HB.out | apply below_alloc | apply pw_below_drewN | apply below_drew1) | exact HB.out)⟩
   rw [if_pos c2] at H
   have c2b0 : decide (x8_1 < (l0.length : Int)) = true := decide_eq_true c2
   clear c2
   by_cases c3 : 0 ≤ x8_1
   rotate_left
   ·rw [if_neg c3] at H
    exact absurd H (by simp)
   rw [if_pos c3] at H
   have c3b0 : decide (0 ≤ x8_1) = true := decide_eq_true c3
   clear c3
   by_cases c4 : x8_1 < (l0.length : Int)
   rotate_left
   ·rw [if_neg c4] at H
    exact absurd H (by simp)
   rw [if_pos c4] at H
   have c4b0 : decide (x8_1 < (l0.length : Int)) = true := decide_eq_true c4
   clear c4
   replace H := Option.bind_eq_some_iff.mp H
   obtain ⟨t103, A50, H⟩ := H
   replace H : (if x3_1.length < 8796093022208 then (impl_EvsText.l0 k1 (x3_1 ++ [t103]) l0 (l0.length : Int) (wrap64 (x8_1 + 1))) else (none)) = some r := H
   have A5 := m0_ A50
   clear A50
   by_cases c6 : x3_1.length < 8796093022208
   rotate_left
   ·rw [if_neg c6] at H
    exact absurd H (by simp)
   rw [if_pos c6] at H
   have LMc6 := m0_ c6
   clear c6
   obtain ⟨y104, hy104⟩ : ∃ y_ : List ByteArray, y_ = (x3_1 ++ [t103]) := ⟨_, rfl⟩
   replace H : (impl_EvsText.l0 k1 y104 l0 (l0.length : Int) (wrap64 (x8_1 + 1))) = some r := by first | (rw [hy104];with_reducible exact H) | (have H2_ := (Option.bind_some _ _).symm.trans H;rw [hy104];with_reducible exact H2_) | (have H2_ := (Option.bind_some _ _).symm.trans H;with_reducible exact H2_) | with_reducible exact H | (rw [hy104];exact H) | exact H
   have Ny104 := m0_ hy104
   clear hy104
   have H' := m0_ H
   clear H
   have p101 : 0 ≤ (x8_1 : Int) := of_decide_eq_true (by first | (with_reducible assumption) | assumption)
   have q101 : x8_1 < (l0.length : Int) := of_decide_eq_true (by first | (with_reducible assumption) | assumption)
   obtain ⟨ad101, e101, hx101_0, hx101_1, hx101_2⟩ := at_T35 HR0.out x8_1 p101 q101
   cases e101
   replace hx101_0 := (HB.out.cell (World.block_lt_of_cell? w _ hx101_0)).trans hx101_0
   replace hx101_1 := (HB.out.cell (World.block_lt_of_cell? w _ hx101_1)).trans hx101_1
   replace hx101_2 := (HB.out.cell (World.block_lt_of_cell? w _ hx101_2)).trans hx101_2
   replace p101 := eq_true p101
   replace q101 := eq_true q101
   go_wp2_with (first | ((with_reducible refine gate_dst (N := 5) rfl ?_);refine box_event ?hg (N := 5) ?hd (cs := #[.int .i64 0, .int .i64 0, .int .i64 0]) (t := 35) ?hr ?_;(case hd => rfl);(case hg => rfl);(case hr => first | (go_simp;done) | (go_simp;rfl));intro gb102 hg w7 hbox hb;replace HO_3 := m0_ (Kd.R_below (by exact HO_3.out) hb);have BK102 := m0_ (hbox);have GW102 := m0_ ((by rw [hg];exact (below_size (by repeat (first | (with_reducible first | exact HB.out | apply below_alloc | apply pw_below_drewN | apply below_drew1) | exact HB.out))) : w.heap.size ≤ gb102));have GE102 := m0_ ((by rw [hg];exact (below_size (by repeat (first | (with_reducible first | exact HB.out | apply below_alloc | apply pw_below_drewN | apply below_drew1) | exact HB.out))) : w.heap.size ≤ gb102));replace HB := m0_ (below_step (by repeat (first | (with_reducible first | exact HB.out | apply below_alloc | apply pw_below_drewN | apply below_drew1) | exact HB.out)) hb);clear hb hbox hg;obtain ⟨hcz8_0, hcz8_1, hcz8_2, hfz8_0, hfz8_1, hfz8_2⟩ := bx3 BK102.out) | ((with_reducible refine gate_callee (f := 28) rfl ?_);refine goesL_ (some 19) rfl rfl Tryd.func28 (by kernel_rfl) rfl #[.int .i64 ((rd_T35 l0 x8_1).f0), .int .i64 ((rd_T35 l0 x8_1).f1), .int .i64 ((rd_T35 l0 x8_1).f2)] rfl (by (try simp only [List.map_toArray, List.map_cons, List.map_nil]);first | done | rfl | (simp only [List.length_drop, List.length_take];rfl)) ?_;(with_reducible refine (impl_tell.calls ((rd_T35 l0 x8_1).f0) ((rd_T35 l0 x8_1).f1) ((rd_T35 l0 x8_1).f2) t103 _ A5.out (by first | exact TabI.below HTX_TabI.out (by repeat (first | (with_reducible first | exact HB.out | apply below_alloc | apply pw_below_drewN | apply below_drew1 | refine below_set ?_ GE102.out) | exact HB.out)) | exact TabI.below (TabI.below HTX_TabI.out HB.out) Q_HB | exact TabI.below HTX_TabI.out (pw_below_drewN HB.out _) | exact TabI.below HTX_TabI.out (pw_below_drewN (pw_below_drewN HB.out _) _))).mono ?_);rintro e w9 ⟨rfl, hb⟩;refine ⟨_, rfl, ?_⟩;replace HO_3 := m0_ (Kd.R_below (by (with_reducible repeat (first | apply Kd.R_alloc | apply Kd.R_drewN | apply Kd.R_drew));exact (Kd.R_mono (Kd.R_far (p := ⟨gb102, 2, none⟩) (Kd.R_far (p := ⟨gb102, 1, none⟩) (Kd.R_far (p := ⟨gb102, 0, none⟩) (Kd.R_types HO_3.out BK102.out (by decide)) (fun _ hk => hk.2) (.int .i64 ((rd_T35 l0 x8_1).f0))) (fun _ hk => hk.2) (.int .i64 ((rd_T35 l0 x8_1).f1))) (fun _ hk => hk.2) (.int .i64 ((rd_T35 l0 x8_1).f2))) (fun _ h_ => h_.1))) hb);replace BK102 := m0_ (blk_below (g := gb102) (o := .cells #[.int .i64 ((rd_T35 l0 x8_1).f0), .int .i64 ((rd_T35 l0 x8_1).f1), .int .i64 ((rd_T35 l0 x8_1).f2)] 35 (0, 0)) (by (with_reducible repeat (first | refine blk_drewN ?_ _ | refine blk_drew ?_ | refine blk_alloc ?_ _));refine blk_put (cs := #[.int .i64 ((rd_T35 l0 x8_1).f0), .int .i64 ((rd_T35 l0 x8_1).f1), .int .i64 0]) ?_ 2 _ rfl;(with_reducible repeat (first | refine blk_drewN ?_ _ | refine blk_drew ?_ | refine blk_alloc ?_ _));refine blk_put (cs := #[.int .i64 ((rd_T35 l0 x8_1).f0), .int .i64 0, .int .i64 0]) ?_ 1 _ rfl;(with_reducible repeat (first | refine blk_drewN ?_ _ | refine blk_drew ?_ | refine blk_alloc ?_ _));refine blk_put (cs := #[.int .i64 0, .int .i64 0, .int .i64 0]) ?_ 0 _ rfl;(with_reducible repeat (first | refine blk_drewN ?_ _ | refine blk_drew ?_ | refine blk_alloc ?_ _));exact BK102.out) hb);replace HB := m0_ (below_step (by repeat (first | (with_reducible first | exact HB.out | apply below_alloc | apply pw_below_drewN | apply below_drew1 | refine below_set ?_ GE102.out) | exact HB.out)) hb);(try clear hb);(try clear hb2);(try clear hk);(try clear hi)) | ((with_reducible refine gate_builtin (b := .append) (xs := #[.tmp 12, .tmp 20]) rfl ?_);at_builtin;refine Kd.R_append Kd.string (w0 := w) w.heap.size rfl (.tmp 12) (.tmp 20) 48 9 (.string ⟨#[]⟩) 16 rfl Tryd.underlying48 info9 rfl (by decide) (by omega) u3 x3_1 t103 [.string t103] (fun _ => True) (fun _ => False) rfl rfl ?aP (fun _ hk => hk.elim) ?aF ?aO ?aB ?aS ?aL ?_;(case aP => exact rfl);(case aB => exact (by repeat (first | (with_reducible first | exact HB.out | apply below_alloc | apply pw_below_drewN | apply below_drew1 | refine below_set ?_ GE102.out) | exact HB.out)));(case aF => exact (fun _ _ => trivial));(case aO => exact (by exact HO_3.out));(case aS => exact (below_size (by repeat (first | (with_reducible first | exact HB.out | apply below_alloc | apply pw_below_drewN | apply below_drew1 | refine below_set ?_ GE102.out) | exact HB.out))));(case aL => have := LMc6.out;omega);intro v105 w10 ho hb hg hat;rw [← Ny104.out] at ho;have n0_ := m0_ (blk_grown BK102.out hg (Kd.R_ne HO_3.out BK102.out (by decide)));have n1_ := m0_ (hb);have n2_ := m0_ (ho);clear BK102;clear HB;clear HO_3;have BK102 := n0_;have HB := n1_;have HO106 := n2_;clear n0_ n1_ n2_;clear ho hb hg hat))
   go_roundg k1
   case measure => have := HK1.out;omega
   case rel => exact ⟨(y104), (wrap64 (x8_1 + 1)), (by first | rfl | (simp;done) | (simp [*];done)), H', ⟨by have := HK1.out;omega⟩, ⟨by (with_reducible repeat (first | apply Kd.R_alloc | apply Kd.R_drewN | apply Kd.R_drew));exact HO106.out⟩, ⟨by repeat (first | (with_reducible first | exact HB.out | apply below_alloc | apply pw_below_drewN | apply below_drew1 | refine below_set ?_ GE102.out) | exact HB.out)⟩⟩

def strings_Split.f (a0 : ByteArray) (a1 : ByteArray) : Option (List ByteArray) := if a0.size < 4294967281 ∧ a1.toList = (⟨#[32]⟩ : ByteArray).toList then some (splitW a0) else none
theorem strings_Split.calls (a0 : ByteArray) (a1 : ByteArray) (r : List (ByteArray)) (w : World) (h : strings_Split.f a0 a1 = some r) (ht : TabR w) :
  Calls Tryd.prog 30 #[.string a0, .string a1] w fun e w' => ∃ v0_ : Value, e = .returned v0_ ∧ Kd.R Kd.string 9 w' w.heap.size (fun _ => True) v0_ r ∧ Below w.heap.size w w' := by
 unfold strings_Split.f at h
 by_cases c : a0.size < 4294967281 ∧ a1.toList = (⟨#[32]⟩ : ByteArray).toList
 ·rw [if_pos c] at h
  obtain rfl := Option.some.inj h
  have e1 : a1 = ⟨#[32]⟩ := by
   have q := c.2
   rw [ByteArray.toList_eq, ByteArray.toList_eq] at q
   obtain ⟨⟨l⟩⟩ := a1
   simpa using q
  exact split_calls a0 a1 c.1 e1 w ht
 ·rw [if_neg c] at h
  cases h

end Go.Proofs.YtiebpoikhijbgaaDoor.M
namespace Go.Proofs.YtiebpoikhijbgaaDoor.M
set_option linter.unusedVariables false
set_option linter.unusedSimpArgs false
open Go Go.RowKit Go.Proofs.YtiebpoikhijbgaaDoorW.PrintWords Go.Proofs.YtiebpoikhijbgaaDoorW.PrintLast Go.Proofs.YtiebpoikhijbgaaDoorW.PrintMore

def letV (s : ByteArray) : Int := Lib.indexByte (⟨#[97, 98, 99, 100, 101]⟩ : ByteArray).data.toList (s.data.toList.headD 0)
def cutP (s : ByteArray) : ByteArray × ByteArray := (⟨(Lib.cut (s.extract 1 s.size).data.toList [61]).1.toArray⟩, ⟨(Lib.cut (s.extract 1 s.size).data.toList [61]).2.1.toArray⟩)
def untellV (s : ByteArray) : Int × Int × Int := if s.toList = (⟨#[]⟩ : ByteArray).toList then (-1, 0, 0) else (letV s, atV (cutP s).1, atV (cutP s).2)
theorem cut_len (l sep : List UInt8) : (Lib.cut l sep).1.length ≤ l.length ∧ (Lib.cut l sep).2.1.length ≤ l.length := by
  unfold Lib.cut
  split
  · simp only [List.length_take, List.length_drop]
    omega
  · simp
theorem cutP_size (s : ByteArray) : (cutP s).1.size ≤ s.size ∧ (cutP s).2.size ≤ s.size := by
  have h := cut_len (s.extract 1 s.size).data.toList [61]
  have h2 : (s.extract 1 s.size).data.toList.length ≤ s.size := by
    rw [Array.length_toList]
    show (s.extract 1 s.size).size ≤ _
    rw [ByteArray.size_extract]
    omega
  have e1 : (cutP s).1.size = (Lib.cut (s.extract 1 s.size).data.toList [61]).1.length := rfl
  have e2 : (cutP s).2.size = (Lib.cut (s.extract 1 s.size).data.toList [61]).2.1.length := rfl
  omega
theorem head_is (s : ByteArray) (hp : 0 < s.size) : s.data.toList.headD 0 = ((s[0].toNat : Nat) : Int).toNat.toUInt8 := by
  obtain ⟨⟨l⟩⟩ := s
  cases l with
  | nil => exact absurd hp (Nat.lt_irrefl 0)
  | cons c l => rw [Int.toNat_natCast]; show c = c.toNat.toUInt8; simp
theorem cut_calls (s q1 q2 : ByteArray) (hq : cutP s = (q1, q2)) (hs : s.size ≤ 1000000) (w : World) (ht : TabR w) : Calls Tryd.prog 51 #[.string (s.extract 1 s.size), .string ⟨#[61]⟩] w fun e w' => ∃ b, e = .returned (.tuple #[.string q1, .string q2, .bool b]) ∧ Below w.heap.size w w' := by
  obtain ⟨m, hm⟩ := ht.2.2
  refine (Tryd.strings_Cut (s.extract 1 s.size) ⟨#[61]⟩ m _ (by rw [ByteArray.size_extract]; omega) hm).mono ?_
  rintro e w1 ⟨rfl, n1, rfl⟩
  obtain ⟨rfl, rfl⟩ := Prod.mk.inj hq
  exact ⟨_, rfl, pw_below_drewN (Below.refl _ _) n1⟩
set_option maxHeartbeats 4000000 in
set_option maxRecDepth 100000 in
theorem untell_walk (s : ByteArray) (r1 r2 r3 : Int) (hr : untellV s = (r1, r2, r3)) (hs : s.size ≤ 1000000) (w : World) (ht : TabR w) :
    Calls Tryd.prog 31 #[.string s] w fun e w' => e = .returned (.tuple #[.int .i64 r1, .int .i64 r2, .int .i64 r3]) ∧ Below w.heap.size w w' := by
  have HT := m0_ ht
  have HS := m0_ hs
  have HB := m0_ (Below.refl w.heap.size w)
  unfold untellV at hr
  clear ht hs
  go_enter Tryd.func31, Tryd.ntmps31
  by_cases c : s.toList = (⟨#[]⟩ : ByteArray).toList
  · have c1 : (s.toList == (⟨#[]⟩ : ByteArray).toList) = true := beq_iff_eq.2 c
    rw [if_pos c] at hr
    obtain ⟨rfl, h2⟩ := Prod.mk.inj hr
    obtain ⟨rfl, rfl⟩ := Prod.mk.inj h2
    go_wp2
    go_ret3
    exact ⟨rfl, HB.out⟩
  have c1 : (s.toList == (⟨#[]⟩ : ByteArray).toList) = false := beq_eq_false_iff_ne.2 c
  have c2 : (s.toList == []) = false := by rw [← c1]; rw [ByteArray.toList_eq ⟨#[]⟩]
  have c3 : ¬ s.toList = [] := beq_eq_false_iff_ne.1 c2
  rw [if_neg c] at hr
  have hp : 0 < s.size := by
    refine Nat.pos_of_ne_zero (fun q => c3 ?_)
    rw [ByteArray.toList_eq]
    exact List.eq_nil_of_length_eq_zero (by rw [Array.length_toList]; exact q)
  have p1 := eq_true (show (1 : Int) ≤ (s.size : Int) by omega)
  have p0 := eq_true (show (0 : Int) < (s.size : Int) by omega)
  clear c
  obtain ⟨q1, q2, hq⟩ : ∃ q1 q2, cutP s = (q1, q2) := ⟨_, _, rfl⟩
  have hz := cutP_size s
  rw [hq] at hz hr
  obtain ⟨hL, h2⟩ := Prod.mk.inj hr
  obtain ⟨h2, h3⟩ := Prod.mk.inj h2
  have HA1 := m0_ (atoi_calls q1 (by have := HS.out; have : q1.size ≤ s.size := hz.1; omega))
  have HA2 := m0_ (atoi_calls q2 (by have := HS.out; have : q2.size ≤ s.size := hz.2; omega))
  rw [show atV q1 = r2 from h2] at HA1
  rw [show atV q2 = r3 from h3] at HA2
  have HL := m0_ hL
  have HC := m0_ hq
  clear hz hr hL h2 h3 hq
  go_wp2_with (go_at_call 51; fail)
  refine (cut_calls s q1 q2 HC.out HS.out _ (TabR.below HT.out HB.out)).mono ?_
  rintro e w1 ⟨b1, rfl, hb⟩
  have n0_ := m0_ (below_step HB.out hb); clear HB; have HB := n0_; clear n0_ hb
  go_wp2_with (go_at_call 52; fail)
  refine (HA1.out w1 (TabR.below HT.out HB.out).1 (TabR.below HT.out HB.out).2.1).mono ?_
  rintro e w2 ⟨ev1, rfl, hb⟩
  have n0_ := m0_ (below_step HB.out hb); clear HB; have HB := n0_; clear n0_ hb
  go_wp2_with (go_at_call 52; fail)
  refine (HA2.out w2 (TabR.below HT.out HB.out).1 (TabR.below HT.out HB.out).2.1).mono ?_
  rintro e w3 ⟨ev2, rfl, hb⟩
  have n0_ := m0_ (below_step HB.out hb); clear HB; have HB := n0_; clear n0_ hb
  go_wp2_with (go_at_call 53; fail)
  refine (Tryd.strings_IndexByte _ _ _).mono ?_
  rintro e w4 ⟨rfl, rfl⟩
  have hi : Lib.indexByte (⟨#[97, 98, 99, 100, 101]⟩ : ByteArray).data.toList ((s[0].toNat : Nat) : Int).toNat.toUInt8 = r1 := by
    rw [← HL.out, letV, head_is s hp]
  rw [hi]
  go_wp2
  go_ret3
  exact ⟨rfl, HB.out⟩
end Go.Proofs.YtiebpoikhijbgaaDoor.M
namespace Go.Proofs.YtiebpoikhijbgaaDoor.M
open Go.RowKit Go.Proofs.YtiebpoikhijbgaaDoorW.PrintWords Go.Proofs.YtiebpoikhijbgaaDoorW.PrintLast Go.Proofs.YtiebpoikhijbgaaDoorW.PrintMore
attribute [local go_sem] max2_int min2_int max_two min_two max_three min_three max_four min_four
set_option linter.unusedVariables false
set_option linter.unusedSimpArgs false

def impl_untell.f (a0 : ByteArray) : Option (Int × Int × Int) := if a0.size ≤ 1000000 then some (untellV a0) else none
theorem impl_untell.calls (a0 : ByteArray) (r1 : Int) (r2 : Int) (r3 : Int) (w : World) (h : impl_untell.f a0 = some (r1, r2, r3)) (ht : TabR w) :
  Calls Tryd.prog 31 #[.string a0] w fun e w' => e = .returned (.tuple #[.int .i64 r1, .int .i64 r2, .int .i64 r3]) ∧ Below w.heap.size w w' := by
 unfold impl_untell.f at h
 by_cases c : a0.size ≤ 1000000
 ·rw [if_pos c] at h
  exact untell_walk a0 r1 r2 r3 (Option.some.inj h) c w ht
 ·rw [if_neg c] at h
  cases h

mutual
noncomputable def impl_EvsRead.j1 : Nat → ByteArray → List (S35) → Option ((List (S35)) × Bool)
 | 0, _, _ => none
 | k + 1, x0, x4 => (impl_EvsOk.f k x4).bind fun t111 => (if t111 = true then ((impl_EvsText.f k x4).bind fun t112 => (if t112.toList = x0.toList then (some (x4, true)) else (some (([] : List (S35)), false)))) else (some (([] : List (S35)), false)))
noncomputable def impl_EvsRead.l0 : Nat → ByteArray → List (S35) → List ByteArray → Int → Int → Option ((List (S35)) × Bool)
 | 0, _, _, _, _, _ => none
 | k + 1, x0, x4, x16, x17, x18 => if x18 < x17 then (if 0 ≤ x18 then (if x18 < (x16.length : Int) then ((impl_untell.f (rdOf ByteArray.empty x16 x18)).bind fun bt105 => (if x4.length < 5864062014805 then (impl_EvsRead.l0 k x0 (x4 ++ [(⟨bt105.1, bt105.2.1, bt105.2.2⟩ : S35)]) x16 x17 (wrap64 (x18 + 1))) else (none))) else (none)) else (none)) else (impl_EvsRead.j1 k x0 x4)
end
noncomputable def impl_EvsRead.f (k : Nat) (a0 : ByteArray) : Option ((List (S35)) × Bool) := if (a0.size : Int) > 300 then (some (([] : List (S35)), false)) else (if a0.toList = ([] : List UInt8) then (impl_EvsRead.j1 k a0 ([] : List (S35))) else ((strings_Split.f a0 (⟨#[32]⟩ : ByteArray)).bind fun t101 => (impl_EvsRead.l0 k a0 ([] : List (S35)) t101 (t101.length : Int) 0)))
set_option maxHeartbeats 8000000 in
set_option maxRecDepth 100000 in
theorem impl_EvsRead.calls (k : Nat) (a0 : ByteArray) (r1 : List (S35)) (r2 : Bool) (w : World) (h : impl_EvsRead.f k a0 = some (r1, r2)) (ht_TabR : TabR w) (ht_TabI : TabI w) :
  Calls Tryd.prog 8 #[.string a0] w fun e w' => ∃ v0_ : Value, e = .returned (.tuple #[v0_, .bool r2]) ∧ Kd.R k35 35 w' w.heap.size (fun _ => True) v0_ r1 ∧ Below w.heap.size w w' := by
 have HTX_TabR := m0_ ht_TabR
 clear ht_TabR
 have HTX_TabI := m0_ ht_TabI
 clear ht_TabI
 have hu35 := Tryd.underlying35
 have HB := m0_ (Below.refl w.heap.size w)
 have H : (if (a0.size : Int) > 300 then (some (([] : List (S35)), false)) else (if a0.toList = ([] : List UInt8) then (impl_EvsRead.j1 k a0 ([] : List (S35))) else ((strings_Split.f a0 (⟨#[32]⟩ : ByteArray)).bind fun t101 => (impl_EvsRead.l0 k a0 ([] : List (S35)) t101 (t101.length : Int) 0)))) = some (r1, r2) := h
 clear h
 by_cases c2 : (a0.size : Int) > 300
 ·rw [if_pos c2] at H
  have c2b0 : decide (300 < (a0.size : Int)) = true := decide_eq_true c2
  have c2b1 : decide (300 < a0.size) = true := decide_eq_true (by omega)
  clear c2
  simp only [Option.some.injEq, Prod.mk.injEq] at H
  obtain ⟨rfl, rfl⟩ := H
  go_enter Tryd.func8, Tryd.ntmps8
  go_wp2
  go_ret2
  exact ⟨_, by first | rfl | (simp [errW_none, errW_some] <;> rfl) | (simp [*, errW_none, errW_some] <;> rfl), by first | exact Kd.R_nil _ _ _ _ _ | exact Kd.N_nil _ _ _ _ _ | exact Kd.V_nil _ _ _ _ _ | exact Kd.Q_nil _ _ _ _ _ | exact Kd.S_nil _ _ _ _ _, by repeat (first | (with_reducible first | exact HB.out | apply below_alloc | apply pw_below_drewN | apply below_drew1) | exact HB.out)⟩
 rw [if_neg c2] at H
 have c2b0 : decide (300 < (a0.size : Int)) = false := decide_eq_false c2
 have c2b1 : decide (300 < a0.size) = false := decide_eq_false (by omega)
 clear c2
 have HC3 := m0_ H
 clear H
 go_enter Tryd.func8, Tryd.ntmps8
 go_upto_if 14 with (fail)
 go_cut [4] (fun v4 wc => ∃ (kq : Nat) (x4_2 : List (S35)), Aside0 (impl_EvsRead.j1 kq a0 x4_2 = some (r1, r2)) ∧ Aside0 (kq ≤ k) ∧ Aside0 (Kd.R k35 35 wc w.heap.size (fun _ => True) v4 x4_2) ∧ Aside0 (Below w.heap.size w wc))
 case first =>
  have H := HC3.out
  clear HC3
  by_cases c4 : a0.toList = ([] : List UInt8)
  ·rw [if_pos c4] at H
   have c4b0 : (a0.toList == ([] : List UInt8)) = true := beq_iff_eq.mpr c4
   have c4b0_ : (a0.toList == (⟨#[]⟩ : ByteArray).toList) = true := by rw [ByteArray.toList_eq ⟨#[]⟩]; exact c4b0
   have c4b0e : a0.toList.isEmpty = true := by rw [beq_iff_eq.1 c4b0]; rfl
   have c4b1 : (a0.toList != ([] : List UInt8)) = false := bne_eq_false_iff_eq.mpr c4
   have c4b1_ : (a0.toList != (⟨#[]⟩ : ByteArray).toList) = false := by rw [ByteArray.toList_eq ⟨#[]⟩]; exact c4b1
   clear c4
   (first | rw [c4b0] | (simp only [i64_w, i32_w];rw [c4b0]) | skip)
   (first | (simp only [c4b0e, Bool.not_true, Bool.not_false]) | skip)
   have H' := m0_ H
   clear H
   go_wp2
   go_meet
   case rel => exact ⟨_, (([] : List (S35))), H', ⟨by first | omega | exact Nat.le_refl _⟩, ⟨by first | exact Kd.R_nil _ _ _ _ _ | exact Kd.N_nil _ _ _ _ _ | exact Kd.V_nil _ _ _ _ _ | exact Kd.Q_nil _ _ _ _ _ | exact Kd.S_nil _ _ _ _ _⟩, ⟨by repeat (first | (with_reducible first | exact HB.out | apply below_alloc | apply pw_below_drewN | apply below_drew1) | exact HB.out)⟩⟩
  rw [if_neg c4] at H
  have c4b0 : (a0.toList == ([] : List UInt8)) = false := beq_eq_false_iff_ne.mpr c4
  have c4b0_ : (a0.toList == (⟨#[]⟩ : ByteArray).toList) = false := by rw [ByteArray.toList_eq ⟨#[]⟩]; exact c4b0
  have c4b0e : a0.toList.isEmpty = false := by cases hq_ : a0.toList with | nil => (rw [hq_] at c4b0; exact absurd c4b0 (by decide)) | cons _ _ => rfl
  have c4b1 : (a0.toList != ([] : List UInt8)) = true := bne_iff_ne.mpr c4
  have c4b1_ : (a0.toList != (⟨#[]⟩ : ByteArray).toList) = true := by rw [ByteArray.toList_eq ⟨#[]⟩]; exact c4b1
  (first | rw [c4b0] | (simp only [i64_w, i32_w];rw [c4b0]) | skip)
  (first | (simp only [c4b0e, Bool.not_true, Bool.not_false]) | skip)
  replace H := Option.bind_eq_some_iff.mp H
  obtain ⟨t101, A50, H⟩ := H
  replace H : (impl_EvsRead.l0 k a0 ([] : List (S35)) t101 (t101.length : Int) 0) = some (r1, r2) := H
  have A5 := m0_ A50
  clear A50
  have H' := m0_ H
  clear H
  go_wp2_with (first | ((with_reducible refine gate_callee (f := 30) rfl ?_);refine goesL_ (some 16) rfl rfl Tryd.func30 (by kernel_rfl) rfl #[.string a0, .string (⟨#[32]⟩ : ByteArray)] rfl (by (try simp only [List.map_toArray, List.map_cons, List.map_nil]);first | done | rfl | (simp only [List.length_drop, List.length_take];rfl)) ?_;(with_reducible refine (strings_Split.calls a0 (⟨#[32]⟩ : ByteArray) t101 _ A5.out (by first | exact TabR.below HTX_TabR.out (by repeat (first | (with_reducible first | exact HB.out | apply below_alloc | apply pw_below_drewN | apply below_drew1) | exact HB.out)) | exact TabR.below (TabR.below HTX_TabR.out HB.out) Q_HB | exact TabR.below HTX_TabR.out (pw_below_drewN HB.out _) | exact TabR.below HTX_TabR.out (pw_below_drewN (pw_below_drewN HB.out _) _))).mono ?_);rintro e w6 ⟨v102, rfl, ho0, hb⟩;refine ⟨_, rfl, ?_⟩;have HO103 := m0_ (Kd.R_lower ho0 (below_size (by repeat (first | (with_reducible first | exact HB.out | apply below_alloc | apply pw_below_drewN | apply below_drew1) | exact HB.out))));replace HB := m0_ (below_step (by repeat (first | (with_reducible first | exact HB.out | apply below_alloc | apply pw_below_drewN | apply below_drew1) | exact HB.out)) hb);(try clear hb);(try clear hb2);(try clear hk);(try clear hi);(try clear ho0);obtain ⟨Ao7, co7, eo7⟩ := Kd.R_slice HO103.out;subst eo7))
  go_loopg [4, 18] k (fun kq v4 v18 w' => ∃ (x4_1 : List (S35)) (x18_1 : Int), v18 = .int .i64 x18_1 ∧ Aside0 (impl_EvsRead.l0 kq a0 x4_1 t101 (t101.length : Int) x18_1 = some (r1, r2)) ∧ Aside0 (kq ≤ k) ∧ Aside0 (Kd.R k35 35 w' w.heap.size (fun _ => True) v4 x4_1) ∧ Aside0 (Kd.R Kd.string 9 w' w.heap.size (fun _ => True) (.slice Ao7 t101.length co7) t101) ∧ Aside0 (Below w.heap.size w w'))
  case atStart => exact ⟨(([] : List (S35))), (0), (by first | rfl | (simp;done) | (simp [*];done)), H', ⟨Nat.le_refl _⟩, ⟨by first | exact Kd.R_nil _ _ _ _ _ | exact Kd.N_nil _ _ _ _ _ | exact Kd.V_nil _ _ _ _ _ | exact Kd.Q_nil _ _ _ _ _ | exact Kd.S_nil _ _ _ _ _⟩, ⟨by (with_reducible repeat (first | apply Kd.R_alloc | apply Kd.R_drewN | apply Kd.R_drew));exact HO103.out⟩, ⟨by repeat (first | (with_reducible first | exact HB.out | apply below_alloc | apply pw_below_drewN | apply below_drew1) | exact HB.out)⟩⟩
  case round =>
   clear H'
   try clear c2
   try clear c2b0
   try clear c2b1
   try clear p2
   try clear c3
   try clear c4
   try clear c4b0
   try clear c4b1
   obtain ⟨x4_1, x18_1, rfl, HA, HK1, HO_4, HO_16, HB⟩ := hrel
   cases gk with
   | zero => exact absurd HA.out (by simp [impl_EvsRead.l0])
   | succ k1 =>
    have H := HA.out
    clear HA
    simp only [impl_EvsRead.l0] at H
    by_cases c8 : x18_1 < (t101.length : Int)
    rotate_left
    ·rw [if_neg c8] at H
     have c8b0 : decide (x18_1 < (t101.length : Int)) = false := decide_eq_false c8
     clear c8
     have H' := m0_ H
     clear H
     go_wp2
     go_meet
     case rel => exact ⟨_, (x4_1), H', ⟨by have := HK1.out;first | omega | exact Nat.le_refl _⟩, ⟨by (with_reducible repeat (first | apply Kd.R_alloc | apply Kd.R_drewN | apply Kd.R_drew));exact HO_4.out⟩, ⟨by repeat (first | (with_reducible first | exact HB.out | apply below_alloc | apply pw_below_drewN | apply below_drew1) | exact HB.out)⟩⟩
    rw [if_pos c8] at H
    have c8b0 : decide (x18_1 < (t101.length : Int)) = true := decide_eq_true c8
    clear c8
    by_cases c9 : 0 ≤ x18_1
    rotate_left
    ·rw [if_neg c9] at H
     exact absurd H (by simp)
    rw [if_pos c9] at H
    have c9b0 : decide (0 ≤ x18_1) = true := decide_eq_true c9
    clear c9
    by_cases c10 : x18_1 < (t101.length : Int)
    rotate_left
    ·rw [if_neg c10] at H
     exact absurd H (by simp)
    rw [if_pos c10] at H
    have c10b0 : decide (x18_1 < (t101.length : Int)) = true := decide_eq_true c10
    clear c10
    replace H := Option.bind_eq_some_iff.mp H
    obtain ⟨⟨t105, t106, t107⟩, A110, H⟩ := H
    replace H : (if x4_1.length < 5864062014805 then (impl_EvsRead.l0 k1 a0 (x4_1 ++ [(⟨t105, t106, t107⟩ : S35)]) t101 (t101.length : Int) (wrap64 (x18_1 + 1))) else (none)) = some (r1, r2) := H
    have A11 := m0_ A110
    clear A110
    by_cases c12 : x4_1.length < 5864062014805
    rotate_left
    ·rw [if_neg c12] at H
     exact absurd H (by simp)
    rw [if_pos c12] at H
    have LMc12 := m0_ c12
    clear c12
    obtain ⟨y108, hy108⟩ : ∃ y_ : List (S35), y_ = (x4_1 ++ [(⟨t105, t106, t107⟩ : S35)]) := ⟨_, rfl⟩
    replace H : (impl_EvsRead.l0 k1 a0 y108 t101 (t101.length : Int) (wrap64 (x18_1 + 1))) = some (r1, r2) := by first | (rw [hy108];with_reducible exact H) | (have H2_ := (Option.bind_some _ _).symm.trans H;rw [hy108];with_reducible exact H2_) | (have H2_ := (Option.bind_some _ _).symm.trans H;with_reducible exact H2_) | with_reducible exact H | (rw [hy108];exact H) | exact H
    have Ny108 := m0_ hy108
    clear hy108
    have H' := m0_ H
    clear H
    have p104 : 0 ≤ (x18_1 : Int) := of_decide_eq_true (by first | (with_reducible assumption) | assumption)
    have q104 : x18_1 < (t101.length : Int) := of_decide_eq_true (by first | (with_reducible assumption) | assumption)
    obtain ⟨ad104, e104, hx104_0⟩ := Kd.at_string (Kd.R_reads' HO_16.out).2.2 x18_1 p104 q104
    cases e104
    replace p104 := eq_true p104
    replace q104 := eq_true q104
    go_wp2_with (first | ((with_reducible refine gate_callee (f := 31) rfl ?_);refine goesL_ (some 24) rfl rfl Tryd.func31 (by kernel_rfl) rfl #[.string (rdOf ByteArray.empty t101 x18_1)] rfl (by (try simp only [List.map_toArray, List.map_cons, List.map_nil]);first | done | rfl | (simp only [List.length_drop, List.length_take];rfl)) ?_;(with_reducible refine (impl_untell.calls (rdOf ByteArray.empty t101 x18_1) t105 t106 t107 _ A11.out (by first | exact TabR.below HTX_TabR.out (by repeat (first | (with_reducible first | exact HB.out | apply below_alloc | apply pw_below_drewN | apply below_drew1) | exact HB.out)) | exact TabR.below (TabR.below HTX_TabR.out HB.out) Q_HB | exact TabR.below HTX_TabR.out (pw_below_drewN HB.out _) | exact TabR.below HTX_TabR.out (pw_below_drewN (pw_below_drewN HB.out _) _))).mono ?_);rintro e w13 ⟨rfl, hb⟩;refine ⟨_, rfl, ?_⟩;replace HO_4 := m0_ (Kd.R_below (by exact HO_4.out) hb);replace HO_16 := m0_ (Kd.R_below (by exact HO_16.out) hb);replace HB := m0_ (below_step (by repeat (first | (with_reducible first | exact HB.out | apply below_alloc | apply pw_below_drewN | apply below_drew1) | exact HB.out)) hb);(try clear hb);(try clear hb2);(try clear hk);(try clear hi)) | ((with_reducible refine gate_builtin (b := .append) (xs := #[.tmp 28, .tmp 33]) rfl ?_);at_builtin;refine Kd.R_append k35 (w0 := w) w.heap.size rfl (.tmp 28) (.tmp 33) 23 35 (.agg #[(.int .i64 0), (.int .i64 0), (.int .i64 0)]) 24 rfl Tryd.underlying23 info35 rfl (by decide) (by omega) u4 x4_1 (⟨t105, t106, t107⟩ : S35) [.int .i64 t105, .int .i64 t106, .int .i64 t107] (fun _ => True) (fun _ => False) rfl rfl ?aP (fun _ hk => hk.elim) ?aF ?aO ?aB ?aS ?aL ?_;(case aP => exact k35_mkM _ _ _ (⟨t105, t106, t107⟩ : S35));(case aB => exact (by repeat (first | (with_reducible first | exact HB.out | apply below_alloc | apply pw_below_drewN | apply below_drew1) | exact HB.out)));(case aF => exact (fun _ _ => trivial));(case aO => exact (by exact HO_4.out));(case aS => exact (below_size (by repeat (first | (with_reducible first | exact HB.out | apply below_alloc | apply pw_below_drewN | apply below_drew1) | exact HB.out))));(case aL => have := LMc12.out;omega);intro v109 w14 ho hb hg hat;rw [← Ny108.out] at ho;have n0_ := m0_ (Kd.R_over' (by exact HO_16.out) (Kd.R_typed (by exact HO_4.out)) (by decide) hg);have n1_ := m0_ (hb);have n2_ := m0_ (ho);clear HO_16;clear HB;clear HO_4;have HO_16 := n0_;have HB := n1_;have HO110 := n2_;clear n0_ n1_ n2_;clear ho hb hg hat))
    go_roundg k1
    case measure => have := HK1.out;omega
    case rel => exact ⟨(y108), (wrap64 (x18_1 + 1)), (by first | rfl | (simp;done) | (simp [*];done)), H', ⟨by have := HK1.out;omega⟩, ⟨by (with_reducible repeat (first | apply Kd.R_alloc | apply Kd.R_drewN | apply Kd.R_drew));exact HO110.out⟩, ⟨by (with_reducible repeat (first | apply Kd.R_alloc | apply Kd.R_drewN | apply Kd.R_drew));exact HO_16.out⟩, ⟨by repeat (first | (with_reducible first | exact HB.out | apply below_alloc | apply pw_below_drewN | apply below_drew1) | exact HB.out)⟩⟩
 case rest =>
  clear HC3
  try clear c1
  try clear p1
  try clear q1
  try clear hx1
  try clear c2
  try clear c2b0
  try clear c2b1
  try clear p2
  try clear c3
  try clear c4
  try clear c4b0
  try clear c4b1
  try clear p6
  try clear c8
  try clear c8b0
  try clear c9
  try clear c9b0
  try clear c10
  try clear c10b0
  try clear p10
  try clear q10
  try clear hx10
  try clear c12
  try clear hx104_0
  try clear p104
  try clear p2
  try clear q104
  obtain ⟨kq, x4_2, HA, HJ2, HO_4, HB⟩ := hcut
  cases kq with
  | zero => exact absurd HA.out (by simp [impl_EvsRead.j1])
  | succ kj2 =>
   have H := HA.out
   clear HA
   simp only [impl_EvsRead.j1] at H
   replace H := Option.bind_eq_some_iff.mp H
   obtain ⟨t111, A150, H⟩ := H
   replace H : (if t111 = true then ((impl_EvsText.f kj2 x4_2).bind fun t112 => (if t112.toList = a0.toList then (some (x4_2, true)) else (some (([] : List (S35)), false)))) else (some (([] : List (S35)), false))) = some (r1, r2) := H
   have A15 := m0_ A150
   clear A150
   by_cases c16 : t111 = true
   rotate_left
   ·replace c16 := Bool.eq_false_iff.mpr c16
    subst c16
    have H1 : (some (([] : List (S35)), false)) = some (r1, r2) := by rw [if_neg (show ¬ (false = true) by decide)] at H;exact H
    clear H
    have H := H1
    clear H1
    simp only [Option.some.injEq, Prod.mk.injEq] at H
    obtain ⟨rfl, rfl⟩ := H
    obtain ⟨Ao25, co25, eo25⟩ := Kd.R_slice HO_4.out
    subst eo25
    go_wp2_with (first | ((with_reducible refine gate_callee (f := 10) rfl ?_);refine goesL_ (some 37) rfl rfl Tryd.func10 (by kernel_rfl) rfl #[.slice Ao25 x4_2.length co25] rfl (by (try simp only [List.map_toArray, List.map_cons, List.map_nil]);first | done | rfl | (simp only [List.length_drop, List.length_take];rfl)) ?_;(with_reducible refine (impl_EvsOk.calls kj2 _ _ x4_2 false _ ?side1 ?side2 A15.out).mono ?_);(case side1 => repeat (first | exact (Kd.R_reads' HO_4.out).2.2 | (with_reducible refine Kd.C_alloc ?_ _) | (with_reducible refine Kd.C_drewN ?_ _) | (with_reducible refine Kd.C_drew ?_)));(case side2 => exact (Kd.R_reads' HO_4.out).2.1);rintro e w26 ⟨rfl, hb⟩;refine ⟨_, rfl, ?_⟩;replace HO_4 := m0_ (Kd.R_below (by exact HO_4.out) hb);replace HB := m0_ (below_step (by repeat (first | (with_reducible first | exact HB.out | apply below_alloc | apply pw_below_drewN | apply below_drew1) | exact HB.out)) hb);(try clear hb);(try clear hb2);(try clear hk);(try clear hi)))
    go_ret2
    exact ⟨_, by first | rfl | (simp [errW_none, errW_some] <;> rfl) | (simp [*, errW_none, errW_some] <;> rfl), by first | exact Kd.R_nil _ _ _ _ _ | exact Kd.N_nil _ _ _ _ _ | exact Kd.V_nil _ _ _ _ _ | exact Kd.Q_nil _ _ _ _ _ | exact Kd.S_nil _ _ _ _ _, by repeat (first | (with_reducible first | exact HB.out | apply below_alloc | apply pw_below_drewN | apply below_drew1) | exact HB.out)⟩
   subst c16
   have H1 : ((impl_EvsText.f kj2 x4_2).bind fun t112 => (if t112.toList = a0.toList then (some (x4_2, true)) else (some (([] : List (S35)), false)))) = some (r1, r2) := by rw [if_pos rfl] at H;exact H
   clear H
   have H := H1
   clear H1
   replace H := Option.bind_eq_some_iff.mp H
   obtain ⟨t112, A170, H⟩ := H
   replace H : (if t112.toList = a0.toList then (some (x4_2, true)) else (some (([] : List (S35)), false))) = some (r1, r2) := H
   have A17 := m0_ A170
   clear A170
   by_cases c18 : t112.toList = a0.toList
   ·rw [if_pos c18] at H
    have c18b0 : (t112.toList == a0.toList) = true := beq_iff_eq.mpr c18
    have c18b1 : (t112.toList != a0.toList) = false := bne_eq_false_iff_eq.mpr c18
    clear c18
    simp only [Option.some.injEq, Prod.mk.injEq] at H
    obtain ⟨rfl, rfl⟩ := H
    obtain ⟨Ao19, co19, eo19⟩ := Kd.R_slice HO_4.out
    subst eo19
    go_wp2_with (first | ((with_reducible refine gate_callee (f := 10) rfl ?_);refine goesL_ (some 37) rfl rfl Tryd.func10 (by kernel_rfl) rfl #[.slice Ao19 x4_2.length co19] rfl (by (try simp only [List.map_toArray, List.map_cons, List.map_nil]);first | done | rfl | (simp only [List.length_drop, List.length_take];rfl)) ?_;(with_reducible refine (impl_EvsOk.calls kj2 _ _ x4_2 true _ ?side1 ?side2 A15.out).mono ?_);(case side1 => repeat (first | exact (Kd.R_reads' HO_4.out).2.2 | (with_reducible refine Kd.C_alloc ?_ _) | (with_reducible refine Kd.C_drewN ?_ _) | (with_reducible refine Kd.C_drew ?_)));(case side2 => exact (Kd.R_reads' HO_4.out).2.1);rintro e w20 ⟨rfl, hb⟩;refine ⟨_, rfl, ?_⟩;replace HO_4 := m0_ (Kd.R_below (by exact HO_4.out) hb);replace HB := m0_ (below_step (by repeat (first | (with_reducible first | exact HB.out | apply below_alloc | apply pw_below_drewN | apply below_drew1) | exact HB.out)) hb);(try clear hb);(try clear hb2);(try clear hk);(try clear hi)) | (go_at_call 7;(with_reducible refine (impl_EvsText.calls kj2 _ _ x4_2 t112 _ ?side1 ?side2 A17.out (by first | exact TabI.below HTX_TabI.out (by repeat (first | (with_reducible first | exact HB.out | apply below_alloc | apply pw_below_drewN | apply below_drew1) | exact HB.out)) | exact TabI.below (TabI.below HTX_TabI.out HB.out) Q_HB | exact TabI.below HTX_TabI.out (pw_below_drewN HB.out _) | exact TabI.below HTX_TabI.out (pw_below_drewN (pw_below_drewN HB.out _) _))).mono ?_);(case side1 => repeat (first | exact (Kd.R_reads' HO_4.out).2.2 | (with_reducible refine Kd.C_alloc ?_ _) | (with_reducible refine Kd.C_drewN ?_ _) | (with_reducible refine Kd.C_drew ?_)));(case side2 => exact (Kd.R_reads' HO_4.out).2.1);rintro e w21 ⟨rfl, hb⟩;replace HO_4 := m0_ (Kd.R_below (by exact HO_4.out) hb);replace HB := m0_ (below_step (by repeat (first | (with_reducible first | exact HB.out | apply below_alloc | apply pw_below_drewN | apply below_drew1) | exact HB.out)) hb);(try clear hb);(try clear hb2);(try clear hk);(try clear hi)))
    go_ret2
    exact ⟨_, by first | rfl | (simp [errW_none, errW_some] <;> rfl) | (simp [*, errW_none, errW_some] <;> rfl), by (with_reducible repeat (first | apply Kd.R_alloc | apply Kd.R_drewN | apply Kd.R_drew));exact HO_4.out, by repeat (first | (with_reducible first | exact HB.out | apply below_alloc | apply pw_below_drewN | apply below_drew1) | exact HB.out)⟩
   ·rw [if_neg c18] at H
    have c18b0 : (t112.toList == a0.toList) = false := beq_eq_false_iff_ne.mpr c18
    have c18b1 : (t112.toList != a0.toList) = true := bne_iff_ne.mpr c18
    simp only [Option.some.injEq, Prod.mk.injEq] at H
    obtain ⟨rfl, rfl⟩ := H
    obtain ⟨Ao22, co22, eo22⟩ := Kd.R_slice HO_4.out
    subst eo22
    go_wp2_with (first | ((with_reducible refine gate_callee (f := 10) rfl ?_);refine goesL_ (some 37) rfl rfl Tryd.func10 (by kernel_rfl) rfl #[.slice Ao22 x4_2.length co22] rfl (by (try simp only [List.map_toArray, List.map_cons, List.map_nil]);first | done | rfl | (simp only [List.length_drop, List.length_take];rfl)) ?_;(with_reducible refine (impl_EvsOk.calls kj2 _ _ x4_2 true _ ?side1 ?side2 A15.out).mono ?_);(case side1 => repeat (first | exact (Kd.R_reads' HO_4.out).2.2 | (with_reducible refine Kd.C_alloc ?_ _) | (with_reducible refine Kd.C_drewN ?_ _) | (with_reducible refine Kd.C_drew ?_)));(case side2 => exact (Kd.R_reads' HO_4.out).2.1);rintro e w23 ⟨rfl, hb⟩;refine ⟨_, rfl, ?_⟩;replace HO_4 := m0_ (Kd.R_below (by exact HO_4.out) hb);replace HB := m0_ (below_step (by repeat (first | (with_reducible first | exact HB.out | apply below_alloc | apply pw_below_drewN | apply below_drew1) | exact HB.out)) hb);(try clear hb);(try clear hb2);(try clear hk);(try clear hi)) | (go_at_call 7;(with_reducible refine (impl_EvsText.calls kj2 _ _ x4_2 t112 _ ?side1 ?side2 A17.out (by first | exact TabI.below HTX_TabI.out (by repeat (first | (with_reducible first | exact HB.out | apply below_alloc | apply pw_below_drewN | apply below_drew1) | exact HB.out)) | exact TabI.below (TabI.below HTX_TabI.out HB.out) Q_HB | exact TabI.below HTX_TabI.out (pw_below_drewN HB.out _) | exact TabI.below HTX_TabI.out (pw_below_drewN (pw_below_drewN HB.out _) _))).mono ?_);(case side1 => repeat (first | exact (Kd.R_reads' HO_4.out).2.2 | (with_reducible refine Kd.C_alloc ?_ _) | (with_reducible refine Kd.C_drewN ?_ _) | (with_reducible refine Kd.C_drew ?_)));(case side2 => exact (Kd.R_reads' HO_4.out).2.1);rintro e w24 ⟨rfl, hb⟩;replace HO_4 := m0_ (Kd.R_below (by exact HO_4.out) hb);replace HB := m0_ (below_step (by repeat (first | (with_reducible first | exact HB.out | apply below_alloc | apply pw_below_drewN | apply below_drew1) | exact HB.out)) hb);(try clear hb);(try clear hb2);(try clear hk);(try clear hi)))
    go_ret2
    exact ⟨_, by first | rfl | (simp [errW_none, errW_some] <;> rfl) | (simp [*, errW_none, errW_some] <;> rfl), by first | exact Kd.R_nil _ _ _ _ _ | exact Kd.N_nil _ _ _ _ _ | exact Kd.V_nil _ _ _ _ _ | exact Kd.Q_nil _ _ _ _ _ | exact Kd.S_nil _ _ _ _ _, by repeat (first | (with_reducible first | exact HB.out | apply below_alloc | apply pw_below_drewN | apply below_drew1) | exact HB.out)⟩

mutual
noncomputable def laws_FnEv.j0 : Nat → List Int → List Int → Bool → Option (Bool)
 | 0, _, _, _ => none
 | k + 1, x0, x1, x25 => if x25 = true then (some true) else ((spec_DrawEvsText.f k x0).bind fun t101 => ((impl_EvsText.f k t101).bind fun t104 => ((impl_EvsRead.f k t104).bind fun bt105 => ((spec_EvsText.f k t101).bind fun t109 => (if t104.toList = t109.toList then ((impl_EvsOk.f k t101).bind fun t110 => ((spec_EvsOk.f k t101).bind fun t111 => (if (t110 != t111) = true then (laws_FnEv.j1 k x0 x1 true) else ((spec_EvsOk.f k t101).bind fun t112 => (if t112 = true then (if bt105.2 = true then ((impl_EvsSame.f k bt105.1 t101).bind fun t113 => (laws_FnEv.j1 k x0 x1 (!t113))) else (laws_FnEv.j1 k x0 x1 true)) else (laws_FnEv.j1 k x0 x1 false)))))) else (laws_FnEv.j1 k x0 x1 true))))))
noncomputable def laws_FnEv.j1 : Nat → List Int → List Int → Bool → Option (Bool)
 | 0, _, _, _ => none
 | k + 1, x0, x1, x59 => if x59 = true then (some false) else ((spec_DrawEvsRead.f k x1).bind fun t114 => ((impl_EvsRead.f k t114).bind fun bt115 => ((spec_EvsRead.f k t114).bind fun bt119 => (if (bt115.2 != bt119.2) = true then (laws_FnEv.j2 k x0 true) else (if bt115.2 = true then ((impl_EvsText.f k bt115.1).bind fun t123 => (if t123.toList = t114.toList then ((impl_EvsOk.f k bt115.1).bind fun t124 => (laws_FnEv.j2 k x0 (!t124))) else (laws_FnEv.j2 k x0 true))) else (laws_FnEv.j2 k x0 false))))))
noncomputable def laws_FnEv.j2 : Nat → List Int → Bool → Option (Bool)
 | 0, _, _ => none
 | k + 1, x0, x88 => if x88 = true then (some false) else ((spec_DrawEvsTill.f k x0).bind fun bt125 => ((impl_EvsTill.f k bt125.1 bt125.2).bind fun t129 => ((spec_DrawEvOk.f k x0).bind fun bt132 => ((spec_EvsTill.f k bt125.1 bt125.2).bind fun t136 => ((impl_EvsSame.f k t129 t136).bind fun t139 => (if t139 = true then ((impl_EvOk.f bt132.1 bt132.2.1 bt132.2.2).bind fun t140 => ((spec_EvOk.f bt132.1 bt132.2.1 bt132.2.2).bind fun t141 => (laws_FnEv.j3 k bt125.1 bt125.2 t129 (t140 != t141)))) else (laws_FnEv.j3 k bt125.1 bt125.2 t129 true)))))))
noncomputable def laws_FnEv.j3 : Nat → List (S35) → Int → List (S35) → Bool → Option (Bool)
 | 0, _, _, _, _ => none
 | k + 1, x14, x15, x16, x111 => if x111 = true then (some false) else ((spec_EvsOk.f k x14).bind fun t142 => (if t142 = true then (if 0 ≤ (x16.length : Int) then (if (x16.length : Int) ≤ (x14.length : Int) then ((impl_EvsSame.f k x16 (x14.take ((x16.length : Int) : Int).toNat)).bind fun t147 => (if t147 = true then (if (x16.length : Int) = (x14.length : Int) then (some true) else (if (x16.length : Int) < (x14.length : Int) then (some (decide (((rd_T35 x14 (x16.length : Int)).f1) > x15))) else (none))) else (some false))) else (none)) else (none)) else (some true)))
end
noncomputable def laws_FnEv.f (k : Nat) (l0 : List Int) (l1 : List Int) : Option (Bool) := if (l0.length : Int) > 1048576 then (laws_FnEv.j0 k l0 l1 true) else (laws_FnEv.j0 k l0 l1 (decide ((l1.length : Int) > 1048576)))
noncomputable def laws_FnEv.T16 : Bool × List (List Nat × List Nat) := (true, [([], []), ([], []), ([], []), ([1, 2], [1, 2]), ([0, 3, 3], [0, 3]), ([4], [4]), ([5, 4], [5]), ([6], [6]), ([7, 6, 6], [6, 7]), ([6], [6]), ([9, 8, 6], [6, 9]), ([8, 10, 6], [6, 8, 10]), ([6, 11], [6, 11])])
noncomputable def laws_FnEv.B16 : List Nat := [0, 0, 0, 6, 15, 31, 63, 127, 255, 127, 1023, 2047, 4095]
theorem laws_FnEv.tab16 : rtab .any (opsOf Tryd.f3 16) = laws_FnEv.T16 := by kernel_rfl
theorem laws_FnEv.bits16 : waitsOk laws_FnEv.T16.2 laws_FnEv.B16 = true := by kernel_rfl
set_option maxHeartbeats 8000000 in
set_option maxRecDepth 100000 in
theorem laws_FnEv.calls (k : Nat) (A0 : Option Addr) (c0 : Nat) (l0 : List Int) (A1 : Option Addr) (c1 : Nat) (l1 : List Int) (r : Bool) (hT_ : Aside0 (r = true)) (w : World) (hr0 : Kd.C (Kd.int .u8) w A0 l0.length l0) (hc0 : l0.length ≤ c0) (hr1 : Kd.C (Kd.int .u8) w A1 l1.length l1) (hc1 : l1.length ≤ c1) (h : laws_FnEv.f k l0 l1 = some r) (ht_TabR : TabR w) (ht_TabI : TabI w) :
  Calls Tryd.prog 3 #[.slice A0 l0.length c0, .slice A1 l1.length c1] w fun e w' => e = .returned (.bool r) ∧ Below w.heap.size w w' := by
 have HTX_TabR := m0_ ht_TabR
 clear ht_TabR
 have HTX_TabI := m0_ ht_TabI
 clear ht_TabI
 have hu35 := Tryd.underlying35
 have HR0 := m0_ hr0
 have HC0 := m0_ hc0
 clear hr0 hc0
 have HR1 := m0_ hr1
 have HC1 := m0_ hc1
 clear hr1 hc1
 have HB := m0_ (Below.refl w.heap.size w)
 have H : (if (l0.length : Int) > 1048576 then (laws_FnEv.j0 k l0 l1 true) else (laws_FnEv.j0 k l0 l1 (decide ((l1.length : Int) > 1048576)))) = some r := h
 clear h
 have HC3 := m0_ H
 clear H
 go_enter Tryd.func3, Tryd.ntmps3
 go_upto_region 1 with (fail)
 go_cut [25] (fun v25 wc => ∃ (kq : Nat) (x25_2 : Bool), v25 = .bool x25_2 ∧ Aside0 (laws_FnEv.j0 kq l0 l1 x25_2 = some r) ∧ Aside0 (kq ≤ k) ∧ Aside0 (Below w.heap.size w wc))
 case first =>
  have H := HC3.out
  clear HC3
  by_cases c4 : (l0.length : Int) > 1048576
  ·rw [if_pos c4] at H
   have c4b0 : decide (1048576 < (l0.length : Int)) = true := decide_eq_true c4
   have c4b1 : decide (1048576 < l0.length) = true := decide_eq_true (by omega)
   clear c4
   (first | rw [c4b0] | (simp only [i64_w, i32_w];rw [c4b0]) | skip)
   have H' := m0_ H
   clear H
   go_wp2
   go_meet
   case rel => exact ⟨_, (true), (by first | rfl | (simp;done) | (simp [*];done)), H', ⟨by first | omega | exact Nat.le_refl _⟩, ⟨by repeat (first | (with_reducible first | exact HB.out | apply below_alloc | apply pw_below_drewN | apply below_drew1) | exact HB.out)⟩⟩
  ·rw [if_neg c4] at H
   have c4b0 : decide (1048576 < (l0.length : Int)) = false := decide_eq_false c4
   have c4b1 : decide (1048576 < l0.length) = false := decide_eq_false (by omega)
   clear c4
   (first | rw [c4b0] | (simp only [i64_w, i32_w];rw [c4b0]) | skip)
   have H' := m0_ H
   clear H
   go_wp2
   go_meet
   case rel => exact ⟨_, (decide ((l1.length : Int) > 1048576)), (by first | rfl | (simp;done) | (simp [*];done)), H', ⟨by first | omega | exact Nat.le_refl _⟩, ⟨by repeat (first | (with_reducible first | exact HB.out | apply below_alloc | apply pw_below_drewN | apply below_drew1) | exact HB.out)⟩⟩
 case rest =>
  clear HC3
  try clear c1
  try clear p2
  try clear c3
  try clear c4
  try clear c4b0
  try clear c4b1
  obtain ⟨kq, x25_2, rfl, HA, HJ2, HB⟩ := hcut
  cases kq with
  | zero => exact absurd HA.out (by simp [laws_FnEv.j0])
  | succ kj2 =>
   have H := HA.out
   clear HA
   simp only [laws_FnEv.j0] at H
   by_cases c5 : x25_2 = true
   ·subst c5
    have H1 : (some true) = some r := by rw [if_pos rfl] at H;exact H
    clear H
    have H := H1
    clear H1
    obtain rfl := Option.some.inj H
    go_wp2
    go_ret
    exact ⟨by first | rfl | (simp [errW_none, errW_some] <;> rfl) | (simp [*, errW_none, errW_some] <;> rfl), by repeat (first | (with_reducible first | exact HB.out | apply below_alloc | apply pw_below_drewN | apply below_drew1) | exact HB.out)⟩
   replace c5 := Bool.eq_false_iff.mpr c5
   subst c5
   have H1 : ((spec_DrawEvsText.f kj2 l0).bind fun t101 => ((impl_EvsText.f kj2 t101).bind fun t104 => ((impl_EvsRead.f kj2 t104).bind fun bt105 => ((spec_EvsText.f kj2 t101).bind fun t109 => (if t104.toList = t109.toList then ((impl_EvsOk.f kj2 t101).bind fun t110 => ((spec_EvsOk.f kj2 t101).bind fun t111 => (if (t110 != t111) = true then (laws_FnEv.j1 kj2 l0 l1 true) else ((spec_EvsOk.f kj2 t101).bind fun t112 => (if t112 = true then (if bt105.2 = true then ((impl_EvsSame.f kj2 bt105.1 t101).bind fun t113 => (laws_FnEv.j1 kj2 l0 l1 (!t113))) else (laws_FnEv.j1 kj2 l0 l1 true)) else (laws_FnEv.j1 kj2 l0 l1 false)))))) else (laws_FnEv.j1 kj2 l0 l1 true)))))) = some r := by rw [if_neg (show ¬ (false = true) by decide)] at H;exact H
   clear H
   have H := H1
   clear H1
   replace H := Option.bind_eq_some_iff.mp H
   obtain ⟨t101, A60, H⟩ := H
   replace H : ((impl_EvsText.f kj2 t101).bind fun t104 => ((impl_EvsRead.f kj2 t104).bind fun bt105 => ((spec_EvsText.f kj2 t101).bind fun t109 => (if t104.toList = t109.toList then ((impl_EvsOk.f kj2 t101).bind fun t110 => ((spec_EvsOk.f kj2 t101).bind fun t111 => (if (t110 != t111) = true then (laws_FnEv.j1 kj2 l0 l1 true) else ((spec_EvsOk.f kj2 t101).bind fun t112 => (if t112 = true then (if bt105.2 = true then ((impl_EvsSame.f kj2 bt105.1 t101).bind fun t113 => (laws_FnEv.j1 kj2 l0 l1 (!t113))) else (laws_FnEv.j1 kj2 l0 l1 true)) else (laws_FnEv.j1 kj2 l0 l1 false)))))) else (laws_FnEv.j1 kj2 l0 l1 true))))) = some r := H
   have A6 := m0_ A60
   clear A60
   replace H := Option.bind_eq_some_iff.mp H
   obtain ⟨t104, A70, H⟩ := H
   replace H : ((impl_EvsRead.f kj2 t104).bind fun bt105 => ((spec_EvsText.f kj2 t101).bind fun t109 => (if t104.toList = t109.toList then ((impl_EvsOk.f kj2 t101).bind fun t110 => ((spec_EvsOk.f kj2 t101).bind fun t111 => (if (t110 != t111) = true then (laws_FnEv.j1 kj2 l0 l1 true) else ((spec_EvsOk.f kj2 t101).bind fun t112 => (if t112 = true then (if bt105.2 = true then ((impl_EvsSame.f kj2 bt105.1 t101).bind fun t113 => (laws_FnEv.j1 kj2 l0 l1 (!t113))) else (laws_FnEv.j1 kj2 l0 l1 true)) else (laws_FnEv.j1 kj2 l0 l1 false)))))) else (laws_FnEv.j1 kj2 l0 l1 true)))) = some r := H
   have A7 := m0_ A70
   clear A70
   replace H := Option.bind_eq_some_iff.mp H
   obtain ⟨⟨t105, t106⟩, A80, H⟩ := H
   replace H : ((spec_EvsText.f kj2 t101).bind fun t109 => (if t104.toList = t109.toList then ((impl_EvsOk.f kj2 t101).bind fun t110 => ((spec_EvsOk.f kj2 t101).bind fun t111 => (if (t110 != t111) = true then (laws_FnEv.j1 kj2 l0 l1 true) else ((spec_EvsOk.f kj2 t101).bind fun t112 => (if t112 = true then (if t106 = true then ((impl_EvsSame.f kj2 t105 t101).bind fun t113 => (laws_FnEv.j1 kj2 l0 l1 (!t113))) else (laws_FnEv.j1 kj2 l0 l1 true)) else (laws_FnEv.j1 kj2 l0 l1 false)))))) else (laws_FnEv.j1 kj2 l0 l1 true))) = some r := H
   have A8 := m0_ A80
   clear A80
   have HC9 := m0_ H
   clear H
   (try (obtain ⟨Az_, cz_, ez_⟩ := Kd.R_slice HO103.out; subst ez_))
   go_upto_region 6 with (first | ((with_reducible refine gate_callee (f := 6) rfl ?_);refine goesL_ (some 27) rfl rfl Tryd.func6 (by kernel_rfl) rfl #[.slice A0 l0.length c0] rfl (by (try simp only [List.map_toArray, List.map_cons, List.map_nil]);first | done | rfl | (simp only [List.length_drop, List.length_take];rfl)) ?_;(with_reducible refine (spec_DrawEvsText.calls kj2 _ _ l0 t101 _ ?side1 ?side2 A6.out).mono ?_);(case side1 => repeat (first | exact (Kd.C_below HR0.out HB.out) | (with_reducible refine Kd.C_alloc ?_ _) | (with_reducible refine Kd.C_drewN ?_ _) | (with_reducible refine Kd.C_drew ?_)));(case side2 => exact HC0.out);rintro e w10 ⟨v102, rfl, ho0, hb⟩;refine ⟨_, rfl, ?_⟩;have HO103 := m0_ (Kd.R_lower ho0 (below_size (by repeat (first | (with_reducible first | exact HB.out | apply below_alloc | apply pw_below_drewN | apply below_drew1) | exact HB.out))));replace HB := m0_ (below_step (by repeat (first | (with_reducible first | exact HB.out | apply below_alloc | apply pw_below_drewN | apply below_drew1) | exact HB.out)) hb);(try clear hb);(try clear hb2);(try clear hk);(try clear hi);(try clear ho0);obtain ⟨Ao11, co11, eo11⟩ := Kd.R_slice HO103.out;subst eo11) | ((with_reducible refine gate_callee (f := 7) rfl ?_);refine goesL_ (some 29) rfl rfl Tryd.func7 (by kernel_rfl) rfl #[.slice Ao11 t101.length co11] rfl (by (try simp only [List.map_toArray, List.map_cons, List.map_nil]);first | done | rfl | (simp only [List.length_drop, List.length_take];rfl)) ?_;(with_reducible refine (impl_EvsText.calls kj2 _ _ t101 t104 _ ?side1 ?side2 A7.out (by first | exact TabI.below HTX_TabI.out (by repeat (first | (with_reducible first | exact HB.out | apply below_alloc | apply pw_below_drewN | apply below_drew1 | refine below_set ?_ GE135.out) | exact HB.out)) | exact TabI.below (TabI.below HTX_TabI.out HB.out) Q_HB | exact TabI.below HTX_TabI.out (pw_below_drewN HB.out _) | exact TabI.below HTX_TabI.out (pw_below_drewN (pw_below_drewN HB.out _) _))).mono ?_);(case side1 => repeat (first | exact (Kd.R_reads' HO103.out).2.2 | (with_reducible refine Kd.C_alloc ?_ _) | (with_reducible refine Kd.C_drewN ?_ _) | (with_reducible refine Kd.C_drew ?_)));(case side2 => exact (Kd.R_reads' HO103.out).2.1);rintro e w12 ⟨rfl, hb⟩;refine ⟨_, rfl, ?_⟩;replace HO103 := m0_ (Kd.R_below (by exact HO103.out) hb);replace HB := m0_ (below_step (by repeat (first | (with_reducible first | exact HB.out | apply below_alloc | apply pw_below_drewN | apply below_drew1) | exact HB.out)) hb);(try clear hb);(try clear hb2);(try clear hk);(try clear hi)) | ((with_reducible refine gate_callee (f := 8) rfl ?_);refine goesL_ (some 32) rfl rfl Tryd.func8 (by kernel_rfl) rfl #[.string t104] rfl (by (try simp only [List.map_toArray, List.map_cons, List.map_nil]);first | done | rfl | (simp only [List.length_drop, List.length_take];rfl)) ?_;(with_reducible refine (impl_EvsRead.calls kj2 t104 t105 t106 _ A8.out (by first | exact TabR.below HTX_TabR.out (by repeat (first | (with_reducible first | exact HB.out | apply below_alloc | apply pw_below_drewN | apply below_drew1 | refine below_set ?_ GE135.out) | exact HB.out)) | exact TabR.below (TabR.below HTX_TabR.out HB.out) Q_HB | exact TabR.below HTX_TabR.out (pw_below_drewN HB.out _) | exact TabR.below HTX_TabR.out (pw_below_drewN (pw_below_drewN HB.out _) _)) (by first | exact TabI.below HTX_TabI.out (by repeat (first | (with_reducible first | exact HB.out | apply below_alloc | apply pw_below_drewN | apply below_drew1 | refine below_set ?_ GE135.out) | exact HB.out)) | exact TabI.below (TabI.below HTX_TabI.out HB.out) Q_HB | exact TabI.below HTX_TabI.out (pw_below_drewN HB.out _) | exact TabI.below HTX_TabI.out (pw_below_drewN (pw_below_drewN HB.out _) _))).mono ?_);rintro e w13 ⟨v107, rfl, ho0, hb⟩;refine ⟨_, rfl, ?_⟩;have HO108 := m0_ (Kd.R_lower (Kd.R_new' ho0 (Kd.R_lt (by exact HO103.out))) (below_size (by repeat (first | (with_reducible first | exact HB.out | apply below_alloc | apply pw_below_drewN | apply below_drew1) | exact HB.out))));replace HO103 := m0_ (Kd.R_elder' (by exact HO103.out) (Kd.R_base ho0) hb);replace HB := m0_ (below_step (by repeat (first | (with_reducible first | exact HB.out | apply below_alloc | apply pw_below_drewN | apply below_drew1) | exact HB.out)) hb);(try clear hb);(try clear hb2);(try clear hk);(try clear hi);(try clear ho0)))
   (try simp only [Act.put, List.setIfInBounds_toArray, List.set_cons_zero, List.set_cons_succ])
   go_cut [59] (fun v59 wc => ∃ (kq : Nat) (x59_8 : Bool), v59 = .bool x59_8 ∧ Aside0 (laws_FnEv.j1 kq l0 l1 x59_8 = some r) ∧ Aside0 (kq ≤ kj2) ∧ Aside0 (Below w.heap.size w wc))
   case first =>
    have H := HC9.out
    clear HC9
    replace H := Option.bind_eq_some_iff.mp H
    obtain ⟨t109, A140, H⟩ := H
    replace H : (if t104.toList = t109.toList then ((impl_EvsOk.f kj2 t101).bind fun t110 => ((spec_EvsOk.f kj2 t101).bind fun t111 => (if (t110 != t111) = true then (laws_FnEv.j1 kj2 l0 l1 true) else ((spec_EvsOk.f kj2 t101).bind fun t112 => (if t112 = true then (if t106 = true then ((impl_EvsSame.f kj2 t105 t101).bind fun t113 => (laws_FnEv.j1 kj2 l0 l1 (!t113))) else (laws_FnEv.j1 kj2 l0 l1 true)) else (laws_FnEv.j1 kj2 l0 l1 false)))))) else (laws_FnEv.j1 kj2 l0 l1 true)) = some r := H
    have A14 := m0_ A140
    clear A140
    by_cases c15 : t104.toList = t109.toList
    rotate_left
    ·rw [if_neg c15] at H
     have c15b0 : (t104.toList == t109.toList) = false := beq_eq_false_iff_ne.mpr c15
     have c15b1 : (t104.toList != t109.toList) = true := bne_iff_ne.mpr c15
     (first | rw [c15b0] | (simp only [i64_w, i32_w];rw [c15b0]) | skip)
     have H' := m0_ H
     clear H
     (try (obtain ⟨Az_, cz_, ez_⟩ := Kd.R_slice HO103.out; subst ez_))
     go_wp2_with (first | ((with_reducible refine gate_callee (f := 9) rfl ?_);refine goesL_ (some 37) rfl rfl Tryd.func9 (by kernel_rfl) rfl #[.slice Ao11 t101.length co11] rfl (by (try simp only [List.map_toArray, List.map_cons, List.map_nil]);first | done | rfl | (simp only [List.length_drop, List.length_take];rfl)) ?_;(with_reducible refine (spec_EvsText.calls kj2 _ _ t101 t109 _ ?side1 ?side2 A14.out).mono ?_);(case side1 => repeat (first | exact (Kd.R_reads' HO103.out).2.2 | (with_reducible refine Kd.C_alloc ?_ _) | (with_reducible refine Kd.C_drewN ?_ _) | (with_reducible refine Kd.C_drew ?_)));(case side2 => exact (Kd.R_reads' HO103.out).2.1);rintro e w39 ⟨rfl, hb⟩;refine ⟨_, rfl, ?_⟩;replace HO103 := m0_ (Kd.R_below (by exact HO103.out) hb);replace HO108 := m0_ (Kd.R_below (by exact HO108.out) hb);replace HB := m0_ (below_step (by repeat (first | (with_reducible first | exact HB.out | apply below_alloc | apply pw_below_drewN | apply below_drew1) | exact HB.out)) hb);(try clear hb);(try clear hb2);(try clear hk);(try clear hi)))
     go_meet
     case rel => exact ⟨_, (true), (by first | rfl | (simp;done) | (simp [*];done)), H', ⟨by have := HJ2.out;first | omega | exact Nat.le_refl _⟩, ⟨by repeat (first | (with_reducible first | exact HB.out | apply below_alloc | apply pw_below_drewN | apply below_drew1) | exact HB.out)⟩⟩
    rw [if_pos c15] at H
    have c15b0 : (t104.toList == t109.toList) = true := beq_iff_eq.mpr c15
    have c15b1 : (t104.toList != t109.toList) = false := bne_eq_false_iff_eq.mpr c15
    clear c15
    (first | rw [c15b0] | (simp only [i64_w, i32_w];rw [c15b0]) | skip)
    replace H := Option.bind_eq_some_iff.mp H
    obtain ⟨t110, A160, H⟩ := H
    replace H : ((spec_EvsOk.f kj2 t101).bind fun t111 => (if (t110 != t111) = true then (laws_FnEv.j1 kj2 l0 l1 true) else ((spec_EvsOk.f kj2 t101).bind fun t112 => (if t112 = true then (if t106 = true then ((impl_EvsSame.f kj2 t105 t101).bind fun t113 => (laws_FnEv.j1 kj2 l0 l1 (!t113))) else (laws_FnEv.j1 kj2 l0 l1 true)) else (laws_FnEv.j1 kj2 l0 l1 false))))) = some r := H
    have A16 := m0_ A160
    clear A160
    replace H := Option.bind_eq_some_iff.mp H
    obtain ⟨t111, A170, H⟩ := H
    replace H : (if (t110 != t111) = true then (laws_FnEv.j1 kj2 l0 l1 true) else ((spec_EvsOk.f kj2 t101).bind fun t112 => (if t112 = true then (if t106 = true then ((impl_EvsSame.f kj2 t105 t101).bind fun t113 => (laws_FnEv.j1 kj2 l0 l1 (!t113))) else (laws_FnEv.j1 kj2 l0 l1 true)) else (laws_FnEv.j1 kj2 l0 l1 false)))) = some r := H
    have A17 := m0_ A170
    clear A170
    by_cases c18 : (t110 != t111) = true
    ·rw [if_pos c18] at H
     have c18b0 : (t110 != t111) = true := c18
     (try (have c18b1 : decide (t110 = t111) = false := by simpa using c18))
     (try (have c18b2 : (t110 == t111) = false := by simpa using c18))
     (try (have c18b3 : ¬ (t110 = t111) := by simpa using c18))
     clear c18
     have H' := m0_ H
     clear H
     (try (obtain ⟨Az_, cz_, ez_⟩ := Kd.R_slice HO103.out; subst ez_))
     go_wp2_with (first | ((with_reducible refine gate_callee (f := 9) rfl ?_);refine goesL_ (some 37) rfl rfl Tryd.func9 (by kernel_rfl) rfl #[.slice Ao11 t101.length co11] rfl (by (try simp only [List.map_toArray, List.map_cons, List.map_nil]);first | done | rfl | (simp only [List.length_drop, List.length_take];rfl)) ?_;(with_reducible refine (spec_EvsText.calls kj2 _ _ t101 t109 _ ?side1 ?side2 A14.out).mono ?_);(case side1 => repeat (first | exact (Kd.R_reads' HO103.out).2.2 | (with_reducible refine Kd.C_alloc ?_ _) | (with_reducible refine Kd.C_drewN ?_ _) | (with_reducible refine Kd.C_drew ?_)));(case side2 => exact (Kd.R_reads' HO103.out).2.1);rintro e w19 ⟨rfl, hb⟩;refine ⟨_, rfl, ?_⟩;replace HO103 := m0_ (Kd.R_below (by exact HO103.out) hb);replace HO108 := m0_ (Kd.R_below (by exact HO108.out) hb);replace HB := m0_ (below_step (by repeat (first | (with_reducible first | exact HB.out | apply below_alloc | apply pw_below_drewN | apply below_drew1) | exact HB.out)) hb);(try clear hb);(try clear hb2);(try clear hk);(try clear hi)) | (go_at_call 10;(with_reducible refine (impl_EvsOk.calls kj2 _ _ t101 t110 _ ?side1 ?side2 A16.out).mono ?_);(case side1 => repeat (first | exact (Kd.R_reads' HO103.out).2.2 | (with_reducible refine Kd.C_alloc ?_ _) | (with_reducible refine Kd.C_drewN ?_ _) | (with_reducible refine Kd.C_drew ?_)));(case side2 => exact (Kd.R_reads' HO103.out).2.1);rintro e w20 ⟨rfl, hb⟩;replace HO103 := m0_ (Kd.R_below (by exact HO103.out) hb);replace HO108 := m0_ (Kd.R_below (by exact HO108.out) hb);replace HB := m0_ (below_step (by repeat (first | (with_reducible first | exact HB.out | apply below_alloc | apply pw_below_drewN | apply below_drew1) | exact HB.out)) hb);(try clear hb);(try clear hb2);(try clear hk);(try clear hi)) | (go_at_call 11;(with_reducible refine (spec_EvsOk.calls kj2 _ _ t101 t111 _ ?side1 ?side2 A17.out).mono ?_);(case side1 => repeat (first | exact (Kd.R_reads' HO103.out).2.2 | (with_reducible refine Kd.C_alloc ?_ _) | (with_reducible refine Kd.C_drewN ?_ _) | (with_reducible refine Kd.C_drew ?_)));(case side2 => exact (Kd.R_reads' HO103.out).2.1);rintro e w21 ⟨rfl, hb⟩;replace HO103 := m0_ (Kd.R_below (by exact HO103.out) hb);replace HO108 := m0_ (Kd.R_below (by exact HO108.out) hb);replace HB := m0_ (below_step (by repeat (first | (with_reducible first | exact HB.out | apply below_alloc | apply pw_below_drewN | apply below_drew1) | exact HB.out)) hb);(try clear hb);(try clear hb2);(try clear hk);(try clear hi)))
     go_meet
     case rel => exact ⟨_, (true), (by first | rfl | (simp;done) | (simp [*];done)), H', ⟨by have := HJ2.out;first | omega | exact Nat.le_refl _⟩, ⟨by repeat (first | (with_reducible first | exact HB.out | apply below_alloc | apply pw_below_drewN | apply below_drew1) | exact HB.out)⟩⟩
    rw [if_neg c18] at H
    have c18b0 : (t110 != t111) = false := by simpa using c18
    (try (have c18b1 : decide (t110 = t111) = true := by simpa using c18))
    (try (have c18b2 : (t110 == t111) = true := by simpa using c18))
    clear c18
    replace H := Option.bind_eq_some_iff.mp H
    obtain ⟨t112, A220, H⟩ := H
    replace H : (if t112 = true then (if t106 = true then ((impl_EvsSame.f kj2 t105 t101).bind fun t113 => (laws_FnEv.j1 kj2 l0 l1 (!t113))) else (laws_FnEv.j1 kj2 l0 l1 true)) else (laws_FnEv.j1 kj2 l0 l1 false)) = some r := H
    have A22 := m0_ A220
    clear A220
    by_cases c23 : t112 = true
    rotate_left
    ·replace c23 := Bool.eq_false_iff.mpr c23
     subst c23
     have H1 : (laws_FnEv.j1 kj2 l0 l1 false) = some r := by rw [if_neg (show ¬ (false = true) by decide)] at H;exact H
     clear H
     have H := H1
     clear H1
     have H' := m0_ H
     clear H
     (try (obtain ⟨Az_, cz_, ez_⟩ := Kd.R_slice HO103.out; subst ez_))
     (try (have e_ := Option.some.inj (A17.out.symm.trans A22.out); subst e_))
     go_wp2_with (first | ((with_reducible refine gate_callee (f := 9) rfl ?_);refine goesL_ (some 37) rfl rfl Tryd.func9 (by kernel_rfl) rfl #[.slice Ao11 t101.length co11] rfl (by (try simp only [List.map_toArray, List.map_cons, List.map_nil]);first | done | rfl | (simp only [List.length_drop, List.length_take];rfl)) ?_;(with_reducible refine (spec_EvsText.calls kj2 _ _ t101 t109 _ ?side1 ?side2 A14.out).mono ?_);(case side1 => repeat (first | exact (Kd.R_reads' HO103.out).2.2 | (with_reducible refine Kd.C_alloc ?_ _) | (with_reducible refine Kd.C_drewN ?_ _) | (with_reducible refine Kd.C_drew ?_)));(case side2 => exact (Kd.R_reads' HO103.out).2.1);rintro e w35 ⟨rfl, hb⟩;refine ⟨_, rfl, ?_⟩;replace HO103 := m0_ (Kd.R_below (by exact HO103.out) hb);replace HO108 := m0_ (Kd.R_below (by exact HO108.out) hb);replace HB := m0_ (below_step (by repeat (first | (with_reducible first | exact HB.out | apply below_alloc | apply pw_below_drewN | apply below_drew1) | exact HB.out)) hb);(try clear hb);(try clear hb2);(try clear hk);(try clear hi)) | (go_at_call 10;(with_reducible refine (impl_EvsOk.calls kj2 _ _ t101 t110 _ ?side1 ?side2 A16.out).mono ?_);(case side1 => repeat (first | exact (Kd.R_reads' HO103.out).2.2 | (with_reducible refine Kd.C_alloc ?_ _) | (with_reducible refine Kd.C_drewN ?_ _) | (with_reducible refine Kd.C_drew ?_)));(case side2 => exact (Kd.R_reads' HO103.out).2.1);rintro e w36 ⟨rfl, hb⟩;replace HO103 := m0_ (Kd.R_below (by exact HO103.out) hb);replace HO108 := m0_ (Kd.R_below (by exact HO108.out) hb);replace HB := m0_ (below_step (by repeat (first | (with_reducible first | exact HB.out | apply below_alloc | apply pw_below_drewN | apply below_drew1) | exact HB.out)) hb);(try clear hb);(try clear hb2);(try clear hk);(try clear hi)) | (go_at_call 11;(with_reducible refine (spec_EvsOk.calls kj2 _ _ t101 t111 _ ?side1 ?side2 A17.out).mono ?_);(case side1 => repeat (first | exact (Kd.R_reads' HO103.out).2.2 | (with_reducible refine Kd.C_alloc ?_ _) | (with_reducible refine Kd.C_drewN ?_ _) | (with_reducible refine Kd.C_drew ?_)));(case side2 => exact (Kd.R_reads' HO103.out).2.1);rintro e w37 ⟨rfl, hb⟩;replace HO103 := m0_ (Kd.R_below (by exact HO103.out) hb);replace HO108 := m0_ (Kd.R_below (by exact HO108.out) hb);replace HB := m0_ (below_step (by repeat (first | (with_reducible first | exact HB.out | apply below_alloc | apply pw_below_drewN | apply below_drew1) | exact HB.out)) hb);(try clear hb);(try clear hb2);(try clear hk);(try clear hi)) | (go_at_call 11;(with_reducible refine (spec_EvsOk.calls kj2 _ _ t101 false _ ?side1 ?side2 A22.out).mono ?_);(case side1 => repeat (first | exact (Kd.R_reads' HO103.out).2.2 | (with_reducible refine Kd.C_alloc ?_ _) | (with_reducible refine Kd.C_drewN ?_ _) | (with_reducible refine Kd.C_drew ?_)));(case side2 => exact (Kd.R_reads' HO103.out).2.1);rintro e w38 ⟨rfl, hb⟩;replace HO103 := m0_ (Kd.R_below (by exact HO103.out) hb);replace HO108 := m0_ (Kd.R_below (by exact HO108.out) hb);replace HB := m0_ (below_step (by repeat (first | (with_reducible first | exact HB.out | apply below_alloc | apply pw_below_drewN | apply below_drew1) | exact HB.out)) hb);(try clear hb);(try clear hb2);(try clear hk);(try clear hi)))
     go_meet
     case rel => exact ⟨_, (false), (by first | rfl | (simp;done) | (simp [*];done)), H', ⟨by have := HJ2.out;first | omega | exact Nat.le_refl _⟩, ⟨by repeat (first | (with_reducible first | exact HB.out | apply below_alloc | apply pw_below_drewN | apply below_drew1) | exact HB.out)⟩⟩
    subst c23
    have H1 : (if t106 = true then ((impl_EvsSame.f kj2 t105 t101).bind fun t113 => (laws_FnEv.j1 kj2 l0 l1 (!t113))) else (laws_FnEv.j1 kj2 l0 l1 true)) = some r := by rw [if_pos rfl] at H;exact H
    clear H
    have H := H1
    clear H1
    by_cases c24 : t106 = true
    rotate_left
    ·replace c24 := Bool.eq_false_iff.mpr c24
     subst c24
     have H1 : (laws_FnEv.j1 kj2 l0 l1 true) = some r := by rw [if_neg (show ¬ (false = true) by decide)] at H;exact H
     clear H
     have H := H1
     clear H1
     exact absurd H (fun H_ => by cases kj2 with | zero => (simp [laws_FnEv.j1] at H_) | succ k_ => (simp only [laws_FnEv.j1, if_true] at H_; exact absurd ((Option.some.inj H_).trans hT_.out) (by decide)))
    subst c24
    have H1 : ((impl_EvsSame.f kj2 t105 t101).bind fun t113 => (laws_FnEv.j1 kj2 l0 l1 (!t113))) = some r := by rw [if_pos rfl] at H;exact H
    clear H
    have H := H1
    clear H1
    replace H := Option.bind_eq_some_iff.mp H
    obtain ⟨t113, A250, H⟩ := H
    replace H : (laws_FnEv.j1 kj2 l0 l1 (!t113)) = some r := H
    have A25 := m0_ A250
    clear A250
    have H' := m0_ H
    clear H
    (try (obtain ⟨Az_, cz_, ez_⟩ := Kd.R_slice HO103.out; subst ez_))
    (try (obtain ⟨Az_, cz_, ez_⟩ := Kd.R_slice HO108.out; subst ez_))
    (try (have e_ := Option.some.inj (A17.out.symm.trans A22.out); subst e_))
    go_wp2_with (first | ((with_reducible refine gate_callee (f := 9) rfl ?_);refine goesL_ (some 37) rfl rfl Tryd.func9 (by kernel_rfl) rfl #[.slice Ao11 t101.length co11] rfl (by (try simp only [List.map_toArray, List.map_cons, List.map_nil]);first | done | rfl | (simp only [List.length_drop, List.length_take];rfl)) ?_;(with_reducible refine (spec_EvsText.calls kj2 _ _ t101 t109 _ ?side1 ?side2 A14.out).mono ?_);(case side1 => repeat (first | exact (Kd.R_reads' HO103.out).2.2 | (with_reducible refine Kd.C_alloc ?_ _) | (with_reducible refine Kd.C_drewN ?_ _) | (with_reducible refine Kd.C_drew ?_)));(case side2 => exact (Kd.R_reads' HO103.out).2.1);rintro e w26 ⟨rfl, hb⟩;refine ⟨_, rfl, ?_⟩;replace HO103 := m0_ (Kd.R_below (by exact HO103.out) hb);replace HO108 := m0_ (Kd.R_below (by exact HO108.out) hb);replace HB := m0_ (below_step (by repeat (first | (with_reducible first | exact HB.out | apply below_alloc | apply pw_below_drewN | apply below_drew1) | exact HB.out)) hb);(try clear hb);(try clear hb2);(try clear hk);(try clear hi)) | (go_at_call 10;(with_reducible refine (impl_EvsOk.calls kj2 _ _ t101 t110 _ ?side1 ?side2 A16.out).mono ?_);(case side1 => repeat (first | exact (Kd.R_reads' HO103.out).2.2 | (with_reducible refine Kd.C_alloc ?_ _) | (with_reducible refine Kd.C_drewN ?_ _) | (with_reducible refine Kd.C_drew ?_)));(case side2 => exact (Kd.R_reads' HO103.out).2.1);rintro e w27 ⟨rfl, hb⟩;replace HO103 := m0_ (Kd.R_below (by exact HO103.out) hb);replace HO108 := m0_ (Kd.R_below (by exact HO108.out) hb);replace HB := m0_ (below_step (by repeat (first | (with_reducible first | exact HB.out | apply below_alloc | apply pw_below_drewN | apply below_drew1) | exact HB.out)) hb);(try clear hb);(try clear hb2);(try clear hk);(try clear hi)) | (go_at_call 11;(with_reducible refine (spec_EvsOk.calls kj2 _ _ t101 t111 _ ?side1 ?side2 A17.out).mono ?_);(case side1 => repeat (first | exact (Kd.R_reads' HO103.out).2.2 | (with_reducible refine Kd.C_alloc ?_ _) | (with_reducible refine Kd.C_drewN ?_ _) | (with_reducible refine Kd.C_drew ?_)));(case side2 => exact (Kd.R_reads' HO103.out).2.1);rintro e w28 ⟨rfl, hb⟩;replace HO103 := m0_ (Kd.R_below (by exact HO103.out) hb);replace HO108 := m0_ (Kd.R_below (by exact HO108.out) hb);replace HB := m0_ (below_step (by repeat (first | (with_reducible first | exact HB.out | apply below_alloc | apply pw_below_drewN | apply below_drew1) | exact HB.out)) hb);(try clear hb);(try clear hb2);(try clear hk);(try clear hi)) | (go_at_call 11;(with_reducible refine (spec_EvsOk.calls kj2 _ _ t101 true _ ?side1 ?side2 A22.out).mono ?_);(case side1 => repeat (first | exact (Kd.R_reads' HO103.out).2.2 | (with_reducible refine Kd.C_alloc ?_ _) | (with_reducible refine Kd.C_drewN ?_ _) | (with_reducible refine Kd.C_drew ?_)));(case side2 => exact (Kd.R_reads' HO103.out).2.1);rintro e w29 ⟨rfl, hb⟩;replace HO103 := m0_ (Kd.R_below (by exact HO103.out) hb);replace HO108 := m0_ (Kd.R_below (by exact HO108.out) hb);replace HB := m0_ (below_step (by repeat (first | (with_reducible first | exact HB.out | apply below_alloc | apply pw_below_drewN | apply below_drew1) | exact HB.out)) hb);(try clear hb);(try clear hb2);(try clear hk);(try clear hi);(try (obtain ⟨Ao30, co30, eo30⟩ := Kd.R_slice HO108.out;subst eo30))) | (go_at_call 12;(with_reducible refine (impl_EvsSame.calls kj2 _ _ t105 _ _ t101 t113 _ ?side1 ?side2 ?side3 ?side4 A25.out).mono ?_);(case side1 => repeat (first | exact (Kd.R_reads' HO108.out).2.2 | (with_reducible refine Kd.C_alloc ?_ _) | (with_reducible refine Kd.C_drewN ?_ _) | (with_reducible refine Kd.C_drew ?_)));(case side2 => exact (Kd.R_reads' HO108.out).2.1);(case side3 => repeat (first | exact (Kd.R_reads' HO103.out).2.2 | (with_reducible refine Kd.C_alloc ?_ _) | (with_reducible refine Kd.C_drewN ?_ _) | (with_reducible refine Kd.C_drew ?_)));(case side4 => exact (Kd.R_reads' HO103.out).2.1);rintro e w' ⟨rfl, ⟨nd, rfl⟩⟩))
    go_meet
    case rel => exact ⟨_, (!t113), (by first | rfl | (simp;done) | (simp [*];done)), H', ⟨by have := HJ2.out;first | omega | exact Nat.le_refl _⟩, ⟨by repeat (first | (with_reducible first | exact HB.out | apply below_alloc | apply pw_below_drewN | apply below_drew1) | exact HB.out)⟩⟩
   case rest =>
    clear HC9
    try clear c1
    try clear c2
    try clear p2
    try clear c3
    try clear c4
    try clear c4b0
    try clear c4b1
    try clear c5
    try clear c6
    try clear c7
    try clear c8
    try clear c9
    try clear c15
    try clear c15b0
    try clear c15b1
    try clear c18
    try clear c18b0
    try clear c18b1
    try clear c18b2
    try clear c23
    try clear c24
    try clear p2
    obtain ⟨kq, x59_8, rfl, HA, HJ8, HB⟩ := hcut
    cases kq with
    | zero => exact absurd HA.out (by simp [laws_FnEv.j1])
    | succ kj8 =>
     have H := HA.out
     clear HA
     simp only [laws_FnEv.j1] at H
     by_cases c40 : x59_8 = true
     ·subst c40
      have H1 : (some false) = some r := by rw [if_pos rfl] at H;exact H
      clear H
      have H := H1
      clear H1
      exact absurd (Option.some.inj H) (by rw [hT_.out];decide)
     replace c40 := Bool.eq_false_iff.mpr c40
     subst c40
     have H1 : ((spec_DrawEvsRead.f kj8 l1).bind fun t114 => ((impl_EvsRead.f kj8 t114).bind fun bt115 => ((spec_EvsRead.f kj8 t114).bind fun bt119 => (if (bt115.2 != bt119.2) = true then (laws_FnEv.j2 kj8 l0 true) else (if bt115.2 = true then ((impl_EvsText.f kj8 bt115.1).bind fun t123 => (if t123.toList = t114.toList then ((impl_EvsOk.f kj8 bt115.1).bind fun t124 => (laws_FnEv.j2 kj8 l0 (!t124))) else (laws_FnEv.j2 kj8 l0 true))) else (laws_FnEv.j2 kj8 l0 false)))))) = some r := by rw [if_neg (show ¬ (false = true) by decide)] at H;exact H
     clear H
     have H := H1
     clear H1
     replace H := Option.bind_eq_some_iff.mp H
     obtain ⟨t114, A410, H⟩ := H
     replace H : ((impl_EvsRead.f kj8 t114).bind fun bt115 => ((spec_EvsRead.f kj8 t114).bind fun bt119 => (if (bt115.2 != bt119.2) = true then (laws_FnEv.j2 kj8 l0 true) else (if bt115.2 = true then ((impl_EvsText.f kj8 bt115.1).bind fun t123 => (if t123.toList = t114.toList then ((impl_EvsOk.f kj8 bt115.1).bind fun t124 => (laws_FnEv.j2 kj8 l0 (!t124))) else (laws_FnEv.j2 kj8 l0 true))) else (laws_FnEv.j2 kj8 l0 false))))) = some r := H
     have A41 := m0_ A410
     clear A410
     replace H := Option.bind_eq_some_iff.mp H
     obtain ⟨⟨t115, t116⟩, A420, H⟩ := H
     replace H : ((spec_EvsRead.f kj8 t114).bind fun bt119 => (if (t116 != bt119.2) = true then (laws_FnEv.j2 kj8 l0 true) else (if t116 = true then ((impl_EvsText.f kj8 t115).bind fun t123 => (if t123.toList = t114.toList then ((impl_EvsOk.f kj8 t115).bind fun t124 => (laws_FnEv.j2 kj8 l0 (!t124))) else (laws_FnEv.j2 kj8 l0 true))) else (laws_FnEv.j2 kj8 l0 false)))) = some r := H
     have A42 := m0_ A420
     clear A420
     replace H := Option.bind_eq_some_iff.mp H
     obtain ⟨⟨t119, t120⟩, A430, H⟩ := H
     replace H : (if (t116 != t120) = true then (laws_FnEv.j2 kj8 l0 true) else (if t116 = true then ((impl_EvsText.f kj8 t115).bind fun t123 => (if t123.toList = t114.toList then ((impl_EvsOk.f kj8 t115).bind fun t124 => (laws_FnEv.j2 kj8 l0 (!t124))) else (laws_FnEv.j2 kj8 l0 true))) else (laws_FnEv.j2 kj8 l0 false))) = some r := H
     have A43 := m0_ A430
     clear A430
     have HC44 := m0_ H
     clear H
     go_upto_region 11 with (first | ((with_reducible refine gate_callee (f := 13) rfl ?_);refine goesL_ (some 61) rfl rfl Tryd.func13 (by kernel_rfl) rfl #[.slice A1 l1.length c1] rfl (by (try simp only [List.map_toArray, List.map_cons, List.map_nil]);first | done | rfl | (simp only [List.length_drop, List.length_take];rfl)) ?_;(with_reducible refine (spec_DrawEvsRead.calls kj8 _ _ l1 t114 _ ?side1 ?side2 A41.out).mono ?_);(case side1 => repeat (first | exact (Kd.C_below HR1.out HB.out) | (with_reducible refine Kd.C_alloc ?_ _) | (with_reducible refine Kd.C_drewN ?_ _) | (with_reducible refine Kd.C_drew ?_)));(case side2 => exact HC1.out);rintro e w45 ⟨rfl, hb⟩;refine ⟨_, rfl, ?_⟩;replace HB := m0_ (below_step (by repeat (first | (with_reducible first | exact HB.out | apply below_alloc | apply pw_below_drewN | apply below_drew1) | exact HB.out)) hb);(try clear hb);(try clear hb2);(try clear hk);(try clear hi)) | ((with_reducible refine gate_callee (f := 8) rfl ?_);refine goesL_ (some 64) rfl rfl Tryd.func8 (by kernel_rfl) rfl #[.string t114] rfl (by (try simp only [List.map_toArray, List.map_cons, List.map_nil]);first | done | rfl | (simp only [List.length_drop, List.length_take];rfl)) ?_;(with_reducible refine (impl_EvsRead.calls kj8 t114 t115 t116 _ A42.out (by first | exact TabR.below HTX_TabR.out (by repeat (first | (with_reducible first | exact HB.out | apply below_alloc | apply pw_below_drewN | apply below_drew1 | refine below_set ?_ GE135.out) | exact HB.out)) | exact TabR.below (TabR.below HTX_TabR.out HB.out) Q_HB | exact TabR.below HTX_TabR.out (pw_below_drewN HB.out _) | exact TabR.below HTX_TabR.out (pw_below_drewN (pw_below_drewN HB.out _) _)) (by first | exact TabI.below HTX_TabI.out (by repeat (first | (with_reducible first | exact HB.out | apply below_alloc | apply pw_below_drewN | apply below_drew1 | refine below_set ?_ GE135.out) | exact HB.out)) | exact TabI.below (TabI.below HTX_TabI.out HB.out) Q_HB | exact TabI.below HTX_TabI.out (pw_below_drewN HB.out _) | exact TabI.below HTX_TabI.out (pw_below_drewN (pw_below_drewN HB.out _) _))).mono ?_);rintro e w46 ⟨v117, rfl, ho0, hb⟩;refine ⟨_, rfl, ?_⟩;have HO118 := m0_ (Kd.R_lower ho0 (below_size (by repeat (first | (with_reducible first | exact HB.out | apply below_alloc | apply pw_below_drewN | apply below_drew1) | exact HB.out))));replace HB := m0_ (below_step (by repeat (first | (with_reducible first | exact HB.out | apply below_alloc | apply pw_below_drewN | apply below_drew1) | exact HB.out)) hb);(try clear hb);(try clear hb2);(try clear hk);(try clear hi);(try clear ho0)) | ((with_reducible refine gate_callee (f := 14) rfl ?_);refine goesL_ (some 69) rfl rfl Tryd.func14 (by kernel_rfl) rfl #[.string t114] rfl (by (try simp only [List.map_toArray, List.map_cons, List.map_nil]);first | done | rfl | (simp only [List.length_drop, List.length_take];rfl)) ?_;(with_reducible refine (spec_EvsRead.calls kj8 t114 t119 t120 _ A43.out).mono ?_);rintro e w47 ⟨v121, rfl, ho0, hb⟩;refine ⟨_, rfl, ?_⟩;have HO122 := m0_ (Kd.R_lower (Kd.R_new' ho0 (Kd.R_lt (by exact HO118.out))) (below_size (by repeat (first | (with_reducible first | exact HB.out | apply below_alloc | apply pw_below_drewN | apply below_drew1) | exact HB.out))));replace HO118 := m0_ (Kd.R_elder' (by exact HO118.out) (Kd.R_base ho0) hb);replace HB := m0_ (below_step (by repeat (first | (with_reducible first | exact HB.out | apply below_alloc | apply pw_below_drewN | apply below_drew1) | exact HB.out)) hb);(try clear hb);(try clear hb2);(try clear hk);(try clear hi);(try clear ho0)))
     (try simp only [Act.put, List.setIfInBounds_toArray, List.set_cons_zero, List.set_cons_succ])
     go_cut [88] (fun v88 wc => ∃ (kq : Nat) (x88_43 : Bool), v88 = .bool x88_43 ∧ Aside0 (laws_FnEv.j2 kq l0 x88_43 = some r) ∧ Aside0 (kq ≤ kj8) ∧ Aside0 (Below w.heap.size w wc))
     case first =>
      have H := HC44.out
      clear HC44
      by_cases c48 : (t116 != t120) = true
      ·rw [if_pos c48] at H
       have c48b0 : (t116 != t120) = true := c48
       (try (have c48b1 : decide (t116 = t120) = false := by simpa using c48))
       (try (have c48b2 : (t116 == t120) = false := by simpa using c48))
       (try (have c48b3 : ¬ (t116 = t120) := by simpa using c48))
       clear c48
       (first | rw [c48b0] | (simp only [i64_w, i32_w];rw [c48b0]) | skip)
       have H' := m0_ H
       clear H
       go_wp2
       go_meet
       case rel => exact ⟨_, (true), (by first | rfl | (simp;done) | (simp [*];done)), H', ⟨by have := HJ2.out;have := HJ8.out;first | omega | exact Nat.le_refl _⟩, ⟨by repeat (first | (with_reducible first | exact HB.out | apply below_alloc | apply pw_below_drewN | apply below_drew1) | exact HB.out)⟩⟩
      rw [if_neg c48] at H
      have c48b0 : (t116 != t120) = false := by simpa using c48
      (try (have c48b1 : decide (t116 = t120) = true := by simpa using c48))
      (try (have c48b2 : (t116 == t120) = true := by simpa using c48))
      clear c48
      (first | rw [c48b0] | (simp only [i64_w, i32_w];rw [c48b0]) | skip)
      by_cases c49 : t116 = true
      rotate_left
      ·replace c49 := Bool.eq_false_iff.mpr c49
       subst c49
       have H1 : (laws_FnEv.j2 kj8 l0 false) = some r := by rw [if_neg (show ¬ (false = true) by decide)] at H;exact H
       clear H
       have H := H1
       clear H1
       have H' := m0_ H
       clear H
       go_wp2
       go_meet
       case rel => exact ⟨_, (false), (by first | rfl | (simp;done) | (simp [*];done)), H', ⟨by have := HJ2.out;have := HJ8.out;first | omega | exact Nat.le_refl _⟩, ⟨by repeat (first | (with_reducible first | exact HB.out | apply below_alloc | apply pw_below_drewN | apply below_drew1) | exact HB.out)⟩⟩
      subst c49
      have H1 : ((impl_EvsText.f kj8 t115).bind fun t123 => (if t123.toList = t114.toList then ((impl_EvsOk.f kj8 t115).bind fun t124 => (laws_FnEv.j2 kj8 l0 (!t124))) else (laws_FnEv.j2 kj8 l0 true))) = some r := by rw [if_pos rfl] at H;exact H
      clear H
      have H := H1
      clear H1
      replace H := Option.bind_eq_some_iff.mp H
      obtain ⟨t123, A500, H⟩ := H
      replace H : (if t123.toList = t114.toList then ((impl_EvsOk.f kj8 t115).bind fun t124 => (laws_FnEv.j2 kj8 l0 (!t124))) else (laws_FnEv.j2 kj8 l0 true)) = some r := H
      have A50 := m0_ A500
      clear A500
      by_cases c51 : t123.toList = t114.toList
      rotate_left
      ·rw [if_neg c51] at H
       have c51b0 : (t123.toList == t114.toList) = false := beq_eq_false_iff_ne.mpr c51
       have c51b1 : (t123.toList != t114.toList) = true := bne_iff_ne.mpr c51
       have H' := m0_ H
       clear H
       obtain ⟨Ao56, co56, eo56⟩ := Kd.R_slice HO118.out
       subst eo56
       go_wp2_with (first | (go_at_call 7;(with_reducible refine (impl_EvsText.calls kj8 _ _ t115 t123 _ ?side1 ?side2 A50.out (by first | exact TabI.below HTX_TabI.out (by repeat (first | (with_reducible first | exact HB.out | apply below_alloc | apply pw_below_drewN | apply below_drew1 | refine below_set ?_ GE135.out) | exact HB.out)) | exact TabI.below (TabI.below HTX_TabI.out HB.out) Q_HB | exact TabI.below HTX_TabI.out (pw_below_drewN HB.out _) | exact TabI.below HTX_TabI.out (pw_below_drewN (pw_below_drewN HB.out _) _))).mono ?_);(case side1 => repeat (first | exact (Kd.R_reads' HO118.out).2.2 | (with_reducible refine Kd.C_alloc ?_ _) | (with_reducible refine Kd.C_drewN ?_ _) | (with_reducible refine Kd.C_drew ?_)));(case side2 => exact (Kd.R_reads' HO118.out).2.1);rintro e w57 ⟨rfl, hb⟩;replace HO118 := m0_ (Kd.R_below (by exact HO118.out) hb);replace HO122 := m0_ (Kd.R_below (by exact HO122.out) hb);replace HB := m0_ (below_step (by repeat (first | (with_reducible first | exact HB.out | apply below_alloc | apply pw_below_drewN | apply below_drew1) | exact HB.out)) hb);(try clear hb);(try clear hb2);(try clear hk);(try clear hi)))
       go_meet
       case rel => exact ⟨_, (true), (by first | rfl | (simp;done) | (simp [*];done)), H', ⟨by have := HJ2.out;have := HJ8.out;first | omega | exact Nat.le_refl _⟩, ⟨by repeat (first | (with_reducible first | exact HB.out | apply below_alloc | apply pw_below_drewN | apply below_drew1) | exact HB.out)⟩⟩
      rw [if_pos c51] at H
      have c51b0 : (t123.toList == t114.toList) = true := beq_iff_eq.mpr c51
      have c51b1 : (t123.toList != t114.toList) = false := bne_eq_false_iff_eq.mpr c51
      clear c51
      replace H := Option.bind_eq_some_iff.mp H
      obtain ⟨t124, A520, H⟩ := H
      replace H : (laws_FnEv.j2 kj8 l0 (!t124)) = some r := H
      have A52 := m0_ A520
      clear A520
      have H' := m0_ H
      clear H
      obtain ⟨Ao53, co53, eo53⟩ := Kd.R_slice HO118.out
      subst eo53
      go_wp2_with (first | (go_at_call 7;(with_reducible refine (impl_EvsText.calls kj8 _ _ t115 t123 _ ?side1 ?side2 A50.out (by first | exact TabI.below HTX_TabI.out (by repeat (first | (with_reducible first | exact HB.out | apply below_alloc | apply pw_below_drewN | apply below_drew1 | refine below_set ?_ GE135.out) | exact HB.out)) | exact TabI.below (TabI.below HTX_TabI.out HB.out) Q_HB | exact TabI.below HTX_TabI.out (pw_below_drewN HB.out _) | exact TabI.below HTX_TabI.out (pw_below_drewN (pw_below_drewN HB.out _) _))).mono ?_);(case side1 => repeat (first | exact (Kd.R_reads' HO118.out).2.2 | (with_reducible refine Kd.C_alloc ?_ _) | (with_reducible refine Kd.C_drewN ?_ _) | (with_reducible refine Kd.C_drew ?_)));(case side2 => exact (Kd.R_reads' HO118.out).2.1);rintro e w54 ⟨rfl, hb⟩;replace HO118 := m0_ (Kd.R_below (by exact HO118.out) hb);replace HO122 := m0_ (Kd.R_below (by exact HO122.out) hb);replace HB := m0_ (below_step (by repeat (first | (with_reducible first | exact HB.out | apply below_alloc | apply pw_below_drewN | apply below_drew1) | exact HB.out)) hb);(try clear hb);(try clear hb2);(try clear hk);(try clear hi)) | (go_at_call 10;(with_reducible refine (impl_EvsOk.calls kj8 _ _ t115 t124 _ ?side1 ?side2 A52.out).mono ?_);(case side1 => repeat (first | exact (Kd.R_reads' HO118.out).2.2 | (with_reducible refine Kd.C_alloc ?_ _) | (with_reducible refine Kd.C_drewN ?_ _) | (with_reducible refine Kd.C_drew ?_)));(case side2 => exact (Kd.R_reads' HO118.out).2.1);rintro e w55 ⟨rfl, hb⟩;replace HO118 := m0_ (Kd.R_below (by exact HO118.out) hb);replace HO122 := m0_ (Kd.R_below (by exact HO122.out) hb);replace HB := m0_ (below_step (by repeat (first | (with_reducible first | exact HB.out | apply below_alloc | apply pw_below_drewN | apply below_drew1) | exact HB.out)) hb);(try clear hb);(try clear hb2);(try clear hk);(try clear hi)))
      go_meet
      case rel => exact ⟨_, (!t124), (by first | rfl | (simp;done) | (simp [*];done)), H', ⟨by have := HJ2.out;have := HJ8.out;first | omega | exact Nat.le_refl _⟩, ⟨by repeat (first | (with_reducible first | exact HB.out | apply below_alloc | apply pw_below_drewN | apply below_drew1) | exact HB.out)⟩⟩
     case rest =>
      clear HC44
      try clear c1
      try clear c2
      try clear p2
      try clear c3
      try clear c4
      try clear c4b0
      try clear c4b1
      try clear c5
      try clear c6
      try clear c7
      try clear c8
      try clear c9
      try clear c13
      try clear c14
      try clear c15
      try clear c15b0
      try clear c15b1
      try clear c18
      try clear c18b0
      try clear c18b1
      try clear c18b2
      try clear c23
      try clear c24
      try clear c40
      try clear c48
      try clear c48b0
      try clear c48b1
      try clear c48b2
      try clear c49
      try clear c51
      try clear c51b0
      try clear c51b1
      try clear p2
      obtain ⟨kq, x88_43, rfl, HA, HJ43, HB⟩ := hcut
      cases kq with
      | zero => exact absurd HA.out (by simp [laws_FnEv.j2])
      | succ kj43 =>
       have H := HA.out
       clear HA
       simp only [laws_FnEv.j2] at H
       by_cases c58 : x88_43 = true
       ·subst c58
        have H1 : (some false) = some r := by rw [if_pos rfl] at H;exact H
        clear H
        have H := H1
        clear H1
        exact absurd (Option.some.inj H) (by rw [hT_.out];decide)
       replace c58 := Bool.eq_false_iff.mpr c58
       subst c58
       have H1 : ((spec_DrawEvsTill.f kj43 l0).bind fun bt125 => ((impl_EvsTill.f kj43 bt125.1 bt125.2).bind fun t129 => ((spec_DrawEvOk.f kj43 l0).bind fun bt132 => ((spec_EvsTill.f kj43 bt125.1 bt125.2).bind fun t136 => ((impl_EvsSame.f kj43 t129 t136).bind fun t139 => (if t139 = true then ((impl_EvOk.f bt132.1 bt132.2.1 bt132.2.2).bind fun t140 => ((spec_EvOk.f bt132.1 bt132.2.1 bt132.2.2).bind fun t141 => (laws_FnEv.j3 kj43 bt125.1 bt125.2 t129 (t140 != t141)))) else (laws_FnEv.j3 kj43 bt125.1 bt125.2 t129 true))))))) = some r := by rw [if_neg (show ¬ (false = true) by decide)] at H;exact H
       clear H
       have H := H1
       clear H1
       replace H := Option.bind_eq_some_iff.mp H
       obtain ⟨⟨t125, t126⟩, A590, H⟩ := H
       replace H : ((impl_EvsTill.f kj43 t125 t126).bind fun t129 => ((spec_DrawEvOk.f kj43 l0).bind fun bt132 => ((spec_EvsTill.f kj43 t125 t126).bind fun t136 => ((impl_EvsSame.f kj43 t129 t136).bind fun t139 => (if t139 = true then ((impl_EvOk.f bt132.1 bt132.2.1 bt132.2.2).bind fun t140 => ((spec_EvOk.f bt132.1 bt132.2.1 bt132.2.2).bind fun t141 => (laws_FnEv.j3 kj43 t125 t126 t129 (t140 != t141)))) else (laws_FnEv.j3 kj43 t125 t126 t129 true)))))) = some r := H
       have A59 := m0_ A590
       clear A590
       replace H := Option.bind_eq_some_iff.mp H
       obtain ⟨t129, A600, H⟩ := H
       replace H : ((spec_DrawEvOk.f kj43 l0).bind fun bt132 => ((spec_EvsTill.f kj43 t125 t126).bind fun t136 => ((impl_EvsSame.f kj43 t129 t136).bind fun t139 => (if t139 = true then ((impl_EvOk.f bt132.1 bt132.2.1 bt132.2.2).bind fun t140 => ((spec_EvOk.f bt132.1 bt132.2.1 bt132.2.2).bind fun t141 => (laws_FnEv.j3 kj43 t125 t126 t129 (t140 != t141)))) else (laws_FnEv.j3 kj43 t125 t126 t129 true))))) = some r := H
       have A60 := m0_ A600
       clear A600
       replace H := Option.bind_eq_some_iff.mp H
       obtain ⟨⟨t132, t133, t134⟩, A610, H⟩ := H
       replace H : ((spec_EvsTill.f kj43 t125 t126).bind fun t136 => ((impl_EvsSame.f kj43 t129 t136).bind fun t139 => (if t139 = true then ((impl_EvOk.f t132 t133 t134).bind fun t140 => ((spec_EvOk.f t132 t133 t134).bind fun t141 => (laws_FnEv.j3 kj43 t125 t126 t129 (t140 != t141)))) else (laws_FnEv.j3 kj43 t125 t126 t129 true)))) = some r := H
       have A61 := m0_ A610
       clear A610
       have HC62 := m0_ H
       clear H
       (try (obtain ⟨Az_, cz_, ez_⟩ := Kd.R_slice HO128.out; subst ez_))
       go_upto_region 16 with (first | ((with_reducible refine gate_callee (f := 15) rfl ?_);refine goesL_ (some 91) rfl rfl Tryd.func15 (by kernel_rfl) rfl #[.slice A0 l0.length c0] rfl (by (try simp only [List.map_toArray, List.map_cons, List.map_nil]);first | done | rfl | (simp only [List.length_drop, List.length_take];rfl)) ?_;(with_reducible refine (spec_DrawEvsTill.calls kj43 _ _ l0 t125 t126 _ ?side1 ?side2 A59.out).mono ?_);(case side1 => repeat (first | exact (Kd.C_below HR0.out HB.out) | (with_reducible refine Kd.C_alloc ?_ _) | (with_reducible refine Kd.C_drewN ?_ _) | (with_reducible refine Kd.C_drew ?_)));(case side2 => exact HC0.out);rintro e w63 ⟨v127, rfl, ho0, hb⟩;refine ⟨_, rfl, ?_⟩;have HO128 := m0_ (Kd.R_lower ho0 (below_size (by repeat (first | (with_reducible first | exact HB.out | apply below_alloc | apply pw_below_drewN | apply below_drew1) | exact HB.out))));replace HB := m0_ (below_step (by repeat (first | (with_reducible first | exact HB.out | apply below_alloc | apply pw_below_drewN | apply below_drew1) | exact HB.out)) hb);(try clear hb);(try clear hb2);(try clear hk);(try clear hi);(try clear ho0);obtain ⟨Ao64, co64, eo64⟩ := Kd.R_slice HO128.out;subst eo64) | ((with_reducible refine gate_callee (f := 16) rfl ?_);refine goesL_ (some 96) rfl rfl Tryd.func16 (by kernel_rfl) rfl #[.slice Ao64 t125.length co64, .int .i64 t126] rfl (by (try simp only [List.map_toArray, List.map_cons, List.map_nil]);first | done | rfl | (simp only [List.length_drop, List.length_take];rfl)) ?_;(with_reducible refine (impl_EvsTill.calls kj43 _ _ t125 t126 t129 _ ?side1 ?side2 A60.out).mono ?_);(case side1 => repeat (first | exact (Kd.R_reads' HO128.out).2.2 | (with_reducible refine Kd.C_alloc ?_ _) | (with_reducible refine Kd.C_drewN ?_ _) | (with_reducible refine Kd.C_drew ?_)));(case side2 => exact (Kd.R_reads' HO128.out).2.1);rintro e w65 ⟨v130, rfl, ho0, hb⟩;refine ⟨_, rfl, ?_⟩;have HO131 := m0_ (Kd.R_lower (Kd.R_new' ho0 (Kd.R_lt (by exact HO128.out))) (below_size (by repeat (first | (with_reducible first | exact HB.out | apply below_alloc | apply pw_below_drewN | apply below_drew1) | exact HB.out))));replace HO128 := m0_ (Kd.R_elder' (by exact HO128.out) (Kd.R_base ho0) hb);replace HB := m0_ (below_step (by repeat (first | (with_reducible first | exact HB.out | apply below_alloc | apply pw_below_drewN | apply below_drew1) | exact HB.out)) hb);(try clear hb);(try clear hb2);(try clear hk);(try clear hi);(try clear ho0)) | ((with_reducible refine gate_callee (f := 17) rfl ?_);refine goesL_ (some 98) rfl rfl Tryd.func17 (by kernel_rfl) rfl #[.slice A0 l0.length c0] rfl (by (try simp only [List.map_toArray, List.map_cons, List.map_nil]);first | done | rfl | (simp only [List.length_drop, List.length_take];rfl)) ?_;(with_reducible refine (spec_DrawEvOk.calls kj43 _ _ l0 t132 t133 t134 _ ?side1 ?side2 A61.out).mono ?_);(case side1 => repeat (first | exact (Kd.C_below HR0.out HB.out) | (with_reducible refine Kd.C_alloc ?_ _) | (with_reducible refine Kd.C_drewN ?_ _) | (with_reducible refine Kd.C_drew ?_)));(case side2 => exact HC0.out);rintro e w66 ⟨rfl, hb⟩;refine ⟨_, rfl, ?_⟩;replace HO128 := m0_ (Kd.R_below (by exact HO128.out) hb);replace HO131 := m0_ (Kd.R_below (by exact HO131.out) hb);replace HB := m0_ (below_step (by repeat (first | (with_reducible first | exact HB.out | apply below_alloc | apply pw_below_drewN | apply below_drew1) | exact HB.out)) hb);(try clear hb);(try clear hb2);(try clear hk);(try clear hi)) | ((with_reducible refine gate_dst (N := 17) rfl ?_);(try (refine gate_guard (by rfl) ?_;dsimp only));refine box_event ?hg (N := 17) ?hd (cs := #[.int .i64 0, .int .i64 0, .int .i64 0]) (t := 35) ?hr ?_;(case hd => rfl);(case hg => rfl);(case hr => first | (go_simp;done) | (go_simp;rfl));intro gb135 hg w67 hbox hb;replace HO128 := m0_ (Kd.R_below (Kd.R_elderB (by exact HO128.out) gb135 (Nat.le_of_eq hg.symm)) hb);replace HO131 := m0_ (Kd.R_below (Kd.R_elderB (by exact HO131.out) gb135 (Nat.le_of_eq hg.symm)) hb);have BK135 := m0_ (hbox);have GW135 := m0_ ((by rw [hg];exact (below_size (by repeat (first | (with_reducible first | exact HB.out | apply below_alloc | apply pw_below_drewN | apply below_drew1) | exact HB.out))) : w.heap.size ≤ gb135));have GE135 := m0_ ((by rw [hg];exact (below_size (by repeat (first | (with_reducible first | exact HB.out | apply below_alloc | apply pw_below_drewN | apply below_drew1) | exact HB.out))) : w.heap.size ≤ gb135));replace HB := m0_ (below_step (by repeat (first | (with_reducible first | exact HB.out | apply below_alloc | apply pw_below_drewN | apply below_drew1) | exact HB.out)) hb);clear hb hbox hg;obtain ⟨hcz68_0, hcz68_1, hcz68_2, hfz68_0, hfz68_1, hfz68_2⟩ := bx3 BK135.out))
       (try simp only [Act.put, List.setIfInBounds_toArray, List.set_cons_zero, List.set_cons_succ])
       go_cut [111] (fun v111 wc => ∃ (kq : Nat) (x111_61 : Bool), v111 = .bool x111_61 ∧ Aside0 (laws_FnEv.j3 kq t125 t126 t129 x111_61 = some r) ∧ Aside0 (kq ≤ kj43) ∧ Aside0 (Kd.R k35 35 wc w.heap.size (fun k_ => some k_ ≠ (v130 : Value).ownBlock ∧ k_ ≠ gb135) (.slice Ao64 t125.length co64) t125) ∧ Aside0 (Kd.R k35 35 wc w.heap.size (fun k_ => some k_ ≠ ((.slice Ao64 t125.length co64) : Value).ownBlock ∧ k_ ≠ gb135) v130 t129) ∧ Aside0 (wc.heap[gb135]? = some (.cells #[.int .i64 t132, .int .i64 t133, .int .i64 t134] 35 (0, 0))) ∧ Aside0 (Below w.heap.size w wc))
       case first =>
        have H := HC62.out
        clear HC62
        replace H := Option.bind_eq_some_iff.mp H
        obtain ⟨t136, A690, H⟩ := H
        replace H : ((impl_EvsSame.f kj43 t129 t136).bind fun t139 => (if t139 = true then ((impl_EvOk.f t132 t133 t134).bind fun t140 => ((spec_EvOk.f t132 t133 t134).bind fun t141 => (laws_FnEv.j3 kj43 t125 t126 t129 (t140 != t141)))) else (laws_FnEv.j3 kj43 t125 t126 t129 true))) = some r := H
        have A69 := m0_ A690
        clear A690
        replace H := Option.bind_eq_some_iff.mp H
        obtain ⟨t139, A700, H⟩ := H
        replace H : (if t139 = true then ((impl_EvOk.f t132 t133 t134).bind fun t140 => ((spec_EvOk.f t132 t133 t134).bind fun t141 => (laws_FnEv.j3 kj43 t125 t126 t129 (t140 != t141)))) else (laws_FnEv.j3 kj43 t125 t126 t129 true)) = some r := H
        have A70 := m0_ A700
        clear A700
        by_cases c71 : t139 = true
        rotate_left
        ·replace c71 := Bool.eq_false_iff.mpr c71
         subst c71
         have H1 : (laws_FnEv.j3 kj43 t125 t126 t129 true) = some r := by rw [if_neg (show ¬ (false = true) by decide)] at H;exact H
         clear H
         have H := H1
         clear H1
         have H' := m0_ H
         clear H
         try go_wp2
         have n0_ : Aside0 (Kd.R k35 35 (((w67.setCell ⟨gb135, 0, none⟩ (.int .i64 t132)).setCell ⟨gb135, 1, none⟩ (.int .i64 t133)).setCell ⟨gb135, 2, none⟩ (.int .i64 t134)) w.heap.size (fun k_ => some k_ ≠ (v130 : Value).ownBlock ∧ k_ ≠ gb135) (.slice Ao64 t125.length co64) t125) := ⟨by (with_reducible repeat (first | apply Kd.R_alloc | apply Kd.R_drewN | apply Kd.R_drew));exact Kd.R_mono (Kd.R_far (p := ⟨gb135, 2, none⟩) (Kd.R_far (p := ⟨gb135, 1, none⟩) (Kd.R_far (p := ⟨gb135, 0, none⟩) (Kd.R_mono HO128.out (fun k_ hk => (⟨hk, hk.2⟩ : _ ∧ k_ ≠ gb135))) (fun _ hk => hk.2) (.int .i64 t132)) (fun _ hk => hk.2) (.int .i64 t133)) (fun _ hk => hk.2) (.int .i64 t134)) (fun _ hk => ⟨hk.1.1.2, hk.1.2⟩)⟩
         have n1_ : Aside0 (Kd.R k35 35 (((w67.setCell ⟨gb135, 0, none⟩ (.int .i64 t132)).setCell ⟨gb135, 1, none⟩ (.int .i64 t133)).setCell ⟨gb135, 2, none⟩ (.int .i64 t134)) w.heap.size (fun k_ => some k_ ≠ (.slice Ao64 t125.length co64 : Value).ownBlock ∧ k_ ≠ gb135) v130 t129) := ⟨by (with_reducible repeat (first | apply Kd.R_alloc | apply Kd.R_drewN | apply Kd.R_drew));exact Kd.R_mono (Kd.R_far (p := ⟨gb135, 2, none⟩) (Kd.R_far (p := ⟨gb135, 1, none⟩) (Kd.R_far (p := ⟨gb135, 0, none⟩) (Kd.R_mono HO131.out (fun k_ hk => (⟨hk, hk.2⟩ : _ ∧ k_ ≠ gb135))) (fun _ hk => hk.2) (.int .i64 t132)) (fun _ hk => hk.2) (.int .i64 t133)) (fun _ hk => hk.2) (.int .i64 t134)) (fun _ hk => ⟨hk.1.1.2, hk.1.2⟩)⟩
         have n2_ : Aside0 ((((w67.setCell ⟨gb135, 0, none⟩ (.int .i64 t132)).setCell ⟨gb135, 1, none⟩ (.int .i64 t133)).setCell ⟨gb135, 2, none⟩ (.int .i64 t134)).heap[gb135]? = some (.cells #[.int .i64 t132, .int .i64 t133, .int .i64 t134] 35 (0, 0))) := ⟨by (with_reducible repeat (first | refine blk_drewN ?_ _ | refine blk_drew ?_ | refine blk_alloc ?_ _));refine blk_put (cs := #[.int .i64 t132, .int .i64 t133, .int .i64 0]) ?_ 2 _ rfl;(with_reducible repeat (first | refine blk_drewN ?_ _ | refine blk_drew ?_ | refine blk_alloc ?_ _));refine blk_put (cs := #[.int .i64 t132, .int .i64 0, .int .i64 0]) ?_ 1 _ rfl;(with_reducible repeat (first | refine blk_drewN ?_ _ | refine blk_drew ?_ | refine blk_alloc ?_ _));refine blk_put (cs := #[.int .i64 0, .int .i64 0, .int .i64 0]) ?_ 0 _ rfl;(with_reducible repeat (first | refine blk_drewN ?_ _ | refine blk_drew ?_ | refine blk_alloc ?_ _));exact BK135.out⟩
         have n3_ : Aside0 (Below w.heap.size w (((w67.setCell ⟨gb135, 0, none⟩ (.int .i64 t132)).setCell ⟨gb135, 1, none⟩ (.int .i64 t133)).setCell ⟨gb135, 2, none⟩ (.int .i64 t134))) := ⟨by repeat (first | (with_reducible first | exact HB.out | apply below_alloc | apply pw_below_drewN | apply below_drew1 | refine below_set ?_ GE135.out) | exact HB.out)⟩
         (try clear HO128)
         (try clear HO131)
         (try clear BK135)
         (try clear HB)
         generalize (((w67.setCell ⟨gb135, 0, none⟩ (.int .i64 t132)).setCell ⟨gb135, 1, none⟩ (.int .i64 t133)).setCell ⟨gb135, 2, none⟩ (.int .i64 t134)) = w81 at n0_ n1_ n2_ n3_ ⊢
         have HO128 := n0_
         have HO131 := n1_
         have BK135 := n2_
         have HB := n3_
         clear n0_ n1_ n2_ n3_
         replace HO128 := m0_ (Kd.R_drew HO128.out)
         replace HO131 := m0_ (Kd.R_drew HO131.out)
         replace BK135 := m0_ (blk_drew BK135.out)
         replace HB := m0_ (below_drew1 HB.out)
         refine start_ (n := 13) (S := fun w' => True) (ds := []) #[false, false, false, false, false, false, false, false, false, false, false, false, false] (by kernel_rfl) rfl rfl trivial (fun hHeld => ?_);refine with_tabW laws_FnEv.tab16 laws_FnEv.bits16 (fun HT_ HW_ => ?_)
         generalize w81.drew = w82 at HO128 HO131 BK135 HB hHeld ⊢
         refine pv_ 0 99 #[true, false, false, false, false, false, false, false, false, false, false, false, false] (any_of HT_.out (by kernel_rfl)) ?_
         refine pv_ 1 100 #[true, true, false, false, false, false, false, false, false, false, false, false, false] (any_of HT_.out (by kernel_rfl)) ?_
         refine pv_ 2 101 #[true, true, true, false, false, false, false, false, false, false, false, false, false] (any_of HT_.out (by kernel_rfl)) ?_
         refine one_ (i := 3) (N := some 102) #[true, true, true, true, false, false, false, false, false, false, false, false, false] rfl rfl (one_of HT_.out (by kernel_rfl)) (by decide) (fun K hK => ?_)
         refine goes_ Tryd.func18 (by kernel_rfl) rfl #[.slice Ao64 t125.length co64, .int .i64 t126] (by rfl) rfl rfl (by (try simp only [List.map_toArray, List.map_cons, List.map_nil]);first | done | rfl | (simp only [List.length_drop, List.length_take];rfl)) ?_
         with_reducible refine (spec_EvsTill.calls kj43 _ _ t125 t126 t136 _ ?side1 ?side2 A69.out).mono ?_
         (case side1 => repeat (first | exact (Kd.R_reads' HO128.out).2.2 | (with_reducible refine Kd.C_alloc ?_ _) | (with_reducible refine Kd.C_drewN ?_ _) | (with_reducible refine Kd.C_drew ?_)))
         (case side2 => exact (Kd.R_reads' HO128.out).2.1)
         rintro e w83 ⟨v137, rfl, ho0, hb⟩
         refine ⟨_, rfl, ?_⟩
         have HO138 := m0_ (Kd.R_lower (Kd.R_newB (Kd.R_new' (Kd.R_new' ho0 (Kd.R_lt (by exact HO128.out))) (Kd.R_lt (by exact HO131.out))) BK135.out) (below_size (by repeat (first | (with_reducible first | exact HB.out | apply below_alloc | apply pw_below_drewN | apply below_drew1 | refine below_set ?_ GE135.out) | exact HB.out))))
         replace HO128 := m0_ (Kd.R_elder' (by exact HO128.out) (Kd.R_base ho0) hb)
         replace HO131 := m0_ (Kd.R_elder' (by exact HO131.out) (Kd.R_base ho0) hb)
         replace BK135 := m0_ (blk_below (by exact BK135.out) hb)
         replace HB := m0_ (below_step (by repeat (first | (with_reducible first | exact HB.out | apply below_alloc | apply pw_below_drewN | apply below_drew1 | refine below_set ?_ GE135.out) | exact HB.out)) hb)
         (try clear hb)
         (try clear hb2)
         (try clear hk)
         (try clear hi)
         (try clear ho0)
         obtain ⟨Ao84, co84, eo84⟩ := Kd.R_slice HO131.out
         (first | subst eo84 | (injection eo84 with f1_ f2_ f3_;have f4_ := f1_.symm;have f5_ := f3_.symm;clear f1_ f2_ f3_;subst f4_;subst f5_))
         obtain ⟨Ao85, co85, eo85⟩ := Kd.R_slice HO138.out
         (first | subst eo85 | (injection eo85 with f1_ f2_ f3_;have f4_ := f1_.symm;have f5_ := f3_.symm;clear f1_ f2_ f3_;subst f4_;subst f5_))
         refine hK.out _ _ trivial (fun hHeld => ?_)
         clear hK K
         refine norm_ (a' := ?_) ?_ ?_
         rotate_left
         ·show Act.put _ (some 102) _ = _
          simp only [Act.put, List.setIfInBounds_toArray, List.set_cons_zero, List.set_cons_succ, i64_w, i32_w]
          rfl
         refine one_ (i := 4) (N := some 103) #[true, true, true, true, true, false, false, false, false, false, false, false, false] rfl rfl (one_of HT_.out (by kernel_rfl)) (by decide) (fun K hK => ?_)
         refine goes_ Tryd.func12 (by kernel_rfl) rfl #[.slice Ao84 t129.length co84, .slice Ao85 t136.length co85] (by rfl) rfl rfl (by (try simp only [List.map_toArray, List.map_cons, List.map_nil]);first | done | rfl | (simp only [List.length_drop, List.length_take];rfl)) ?_
         with_reducible refine (impl_EvsSame.calls kj43 _ _ t129 _ _ t136 false _ ?side1 ?side2 ?side3 ?side4 A70.out).mono ?_
         (case side1 => repeat (first | exact (Kd.R_reads' HO131.out).2.2 | (with_reducible refine Kd.C_alloc ?_ _) | (with_reducible refine Kd.C_drewN ?_ _) | (with_reducible refine Kd.C_drew ?_)))
         (case side2 => exact (Kd.R_reads' HO131.out).2.1)
         (case side3 => repeat (first | exact (Kd.R_reads' HO138.out).2.2 | (with_reducible refine Kd.C_alloc ?_ _) | (with_reducible refine Kd.C_drewN ?_ _) | (with_reducible refine Kd.C_drew ?_)))
         (case side4 => exact (Kd.R_reads' HO138.out).2.1)
         rintro e w' ⟨rfl, ⟨nd, rfl⟩⟩
         refine ⟨_, rfl, ?_⟩
         refine hK.out _ _ trivial (fun hHeld => ?_)
         clear hK K
         refine norm_ (a' := ?_) ?_ ?_
         rotate_left
         ·show Act.put _ (some 103) _ = _
          simp only [Act.put, List.setIfInBounds_toArray, List.set_cons_zero, List.set_cons_succ, i64_w, i32_w]
          rfl
         refine pv_ 5 104 #[true, true, true, true, true, true, false, false, false, false, false, false, false] (any_of HT_.out (by kernel_rfl)) ?_
         refine pv_ 6 105 #[true, true, true, true, true, true, true, false, false, false, false, false, false] (any_of HT_.out (by kernel_rfl)) ?_
         refine pu_ 7 106 #[true, true, true, true, true, true, true, true, false, false, false, false, false] (any_of HT_.out (by kernel_rfl)) ?_
         refine pu_ 8 107 #[true, true, true, true, true, true, true, true, true, false, false, false, false] (any_of HT_.out (by kernel_rfl)) ?_
         refine pu_ 9 108 #[true, true, true, true, true, true, true, true, true, true, false, false, false] (any_of HT_.out (by kernel_rfl)) ?_
         refine pu_ 10 109 #[true, true, true, true, true, true, true, true, true, true, true, false, false] (any_of HT_.out (by kernel_rfl)) ?_
         refine pu_ 11 110 #[true, true, true, true, true, true, true, true, true, true, true, true, false] (any_of HT_.out (by kernel_rfl)) ?_
         refine pv_ 12 111 #[true, true, true, true, true, true, true, true, true, true, true, true, true] (any_of HT_.out (by kernel_rfl)) ?_
         refine done_ (done_of HT_.out (by kernel_rfl)) ?_
         try go_wp2
         go_meet
         case rel => exact ⟨_, (true), (by first | rfl | (simp;done) | (simp [*];done)), H', ⟨by have := HJ2.out;have := HJ8.out;have := HJ43.out;first | omega | exact Nat.le_refl _⟩, ⟨by (with_reducible repeat (first | apply Kd.R_alloc | apply Kd.R_drewN | apply Kd.R_drew));exact Kd.R_mono HO128.out (fun _ hk => ⟨hk.1.1, hk.1.2⟩)⟩, ⟨by (with_reducible repeat (first | apply Kd.R_alloc | apply Kd.R_drewN | apply Kd.R_drew));exact Kd.R_mono HO131.out (fun _ hk => ⟨hk.1.1, hk.1.2⟩)⟩, ⟨by (with_reducible repeat (first | refine blk_drewN ?_ _ | refine blk_drew ?_ | refine blk_alloc ?_ _));exact BK135.out⟩, ⟨by repeat (first | (with_reducible first | exact HB.out | apply below_alloc | apply pw_below_drewN | apply below_drew1 | refine below_set ?_ GE135.out) | exact HB.out)⟩⟩
        subst c71
        have H1 : ((impl_EvOk.f t132 t133 t134).bind fun t140 => ((spec_EvOk.f t132 t133 t134).bind fun t141 => (laws_FnEv.j3 kj43 t125 t126 t129 (t140 != t141)))) = some r := by rw [if_pos rfl] at H;exact H
        clear H
        have H := H1
        clear H1
        replace H := Option.bind_eq_some_iff.mp H
        obtain ⟨t140, A720, H⟩ := H
        replace H : ((spec_EvOk.f t132 t133 t134).bind fun t141 => (laws_FnEv.j3 kj43 t125 t126 t129 (t140 != t141))) = some r := H
        have A72 := m0_ A720
        clear A720
        replace H := Option.bind_eq_some_iff.mp H
        obtain ⟨t141, A730, H⟩ := H
        replace H : (laws_FnEv.j3 kj43 t125 t126 t129 (t140 != t141)) = some r := H
        have A73 := m0_ A730
        clear A730
        have H' := m0_ H
        clear H
        try go_wp2
        have n0_ : Aside0 (Kd.R k35 35 (((w67.setCell ⟨gb135, 0, none⟩ (.int .i64 t132)).setCell ⟨gb135, 1, none⟩ (.int .i64 t133)).setCell ⟨gb135, 2, none⟩ (.int .i64 t134)) w.heap.size (fun k_ => some k_ ≠ (v130 : Value).ownBlock ∧ k_ ≠ gb135) (.slice Ao64 t125.length co64) t125) := ⟨by (with_reducible repeat (first | apply Kd.R_alloc | apply Kd.R_drewN | apply Kd.R_drew));exact Kd.R_mono (Kd.R_far (p := ⟨gb135, 2, none⟩) (Kd.R_far (p := ⟨gb135, 1, none⟩) (Kd.R_far (p := ⟨gb135, 0, none⟩) (Kd.R_mono HO128.out (fun k_ hk => (⟨hk, hk.2⟩ : _ ∧ k_ ≠ gb135))) (fun _ hk => hk.2) (.int .i64 t132)) (fun _ hk => hk.2) (.int .i64 t133)) (fun _ hk => hk.2) (.int .i64 t134)) (fun _ hk => ⟨hk.1.1.2, hk.1.2⟩)⟩
        have n1_ : Aside0 (Kd.R k35 35 (((w67.setCell ⟨gb135, 0, none⟩ (.int .i64 t132)).setCell ⟨gb135, 1, none⟩ (.int .i64 t133)).setCell ⟨gb135, 2, none⟩ (.int .i64 t134)) w.heap.size (fun k_ => some k_ ≠ (.slice Ao64 t125.length co64 : Value).ownBlock ∧ k_ ≠ gb135) v130 t129) := ⟨by (with_reducible repeat (first | apply Kd.R_alloc | apply Kd.R_drewN | apply Kd.R_drew));exact Kd.R_mono (Kd.R_far (p := ⟨gb135, 2, none⟩) (Kd.R_far (p := ⟨gb135, 1, none⟩) (Kd.R_far (p := ⟨gb135, 0, none⟩) (Kd.R_mono HO131.out (fun k_ hk => (⟨hk, hk.2⟩ : _ ∧ k_ ≠ gb135))) (fun _ hk => hk.2) (.int .i64 t132)) (fun _ hk => hk.2) (.int .i64 t133)) (fun _ hk => hk.2) (.int .i64 t134)) (fun _ hk => ⟨hk.1.1.2, hk.1.2⟩)⟩
        have n2_ : Aside0 ((((w67.setCell ⟨gb135, 0, none⟩ (.int .i64 t132)).setCell ⟨gb135, 1, none⟩ (.int .i64 t133)).setCell ⟨gb135, 2, none⟩ (.int .i64 t134)).heap[gb135]? = some (.cells #[.int .i64 t132, .int .i64 t133, .int .i64 t134] 35 (0, 0))) := ⟨by (with_reducible repeat (first | refine blk_drewN ?_ _ | refine blk_drew ?_ | refine blk_alloc ?_ _));refine blk_put (cs := #[.int .i64 t132, .int .i64 t133, .int .i64 0]) ?_ 2 _ rfl;(with_reducible repeat (first | refine blk_drewN ?_ _ | refine blk_drew ?_ | refine blk_alloc ?_ _));refine blk_put (cs := #[.int .i64 t132, .int .i64 0, .int .i64 0]) ?_ 1 _ rfl;(with_reducible repeat (first | refine blk_drewN ?_ _ | refine blk_drew ?_ | refine blk_alloc ?_ _));refine blk_put (cs := #[.int .i64 0, .int .i64 0, .int .i64 0]) ?_ 0 _ rfl;(with_reducible repeat (first | refine blk_drewN ?_ _ | refine blk_drew ?_ | refine blk_alloc ?_ _));exact BK135.out⟩
        have n3_ : Aside0 (Below w.heap.size w (((w67.setCell ⟨gb135, 0, none⟩ (.int .i64 t132)).setCell ⟨gb135, 1, none⟩ (.int .i64 t133)).setCell ⟨gb135, 2, none⟩ (.int .i64 t134))) := ⟨by repeat (first | (with_reducible first | exact HB.out | apply below_alloc | apply pw_below_drewN | apply below_drew1 | refine below_set ?_ GE135.out) | exact HB.out)⟩
        (try clear HO128)
        (try clear HO131)
        (try clear BK135)
        (try clear HB)
        generalize (((w67.setCell ⟨gb135, 0, none⟩ (.int .i64 t132)).setCell ⟨gb135, 1, none⟩ (.int .i64 t133)).setCell ⟨gb135, 2, none⟩ (.int .i64 t134)) = w74 at n0_ n1_ n2_ n3_ ⊢
        have HO128 := n0_
        have HO131 := n1_
        have BK135 := n2_
        have HB := n3_
        clear n0_ n1_ n2_ n3_
        replace HO128 := m0_ (Kd.R_drew HO128.out)
        replace HO131 := m0_ (Kd.R_drew HO131.out)
        replace BK135 := m0_ (blk_drew BK135.out)
        replace HB := m0_ (below_drew1 HB.out)
        refine start_ (n := 13) (S := fun w' => w'.cell? ⟨gb135, 0, none⟩ = some (.int .i64 t132) ∧ w'.cell? ⟨gb135, 1, none⟩ = some (.int .i64 t133) ∧ w'.cell? ⟨gb135, 2, none⟩ = some (.int .i64 t134)) (ds := []) #[false, false, false, false, false, false, false, false, false, false, false, false, false] (by kernel_rfl) rfl rfl ⟨(blk_cell BK135.out 0).trans rfl, (blk_cell BK135.out 1).trans rfl, (blk_cell BK135.out 2).trans rfl⟩ (fun hHeld => ?_);refine with_tabW laws_FnEv.tab16 laws_FnEv.bits16 (fun HT_ HW_ => ?_)
        generalize w74.drew = w75 at HO128 HO131 BK135 HB hHeld ⊢
        refine pv_ 0 99 #[true, false, false, false, false, false, false, false, false, false, false, false, false] (any_of HT_.out (by kernel_rfl)) ?_
        refine pv_ 1 100 #[true, true, false, false, false, false, false, false, false, false, false, false, false] (any_of HT_.out (by kernel_rfl)) ?_
        refine pv_ 2 101 #[true, true, true, false, false, false, false, false, false, false, false, false, false] (any_of HT_.out (by kernel_rfl)) ?_
        refine one_ (i := 3) (N := some 102) #[true, true, true, true, false, false, false, false, false, false, false, false, false] rfl rfl (one_of HT_.out (by kernel_rfl)) (by decide) (fun K hK => ?_)
        refine goes_ Tryd.func18 (by kernel_rfl) rfl #[.slice Ao64 t125.length co64, .int .i64 t126] (by rfl) rfl rfl (by (try simp only [List.map_toArray, List.map_cons, List.map_nil]);first | done | rfl | (simp only [List.length_drop, List.length_take];rfl)) ?_
        with_reducible refine (spec_EvsTill.calls kj43 _ _ t125 t126 t136 _ ?side1 ?side2 A69.out).mono ?_
        (case side1 => repeat (first | exact (Kd.R_reads' HO128.out).2.2 | (with_reducible refine Kd.C_alloc ?_ _) | (with_reducible refine Kd.C_drewN ?_ _) | (with_reducible refine Kd.C_drew ?_)))
        (case side2 => exact (Kd.R_reads' HO128.out).2.1)
        rintro e w76 ⟨v137, rfl, ho0, hb⟩
        refine ⟨_, rfl, ?_⟩
        have HO138 := m0_ (Kd.R_lower (Kd.R_newB (Kd.R_new' (Kd.R_new' ho0 (Kd.R_lt (by exact HO128.out))) (Kd.R_lt (by exact HO131.out))) BK135.out) (below_size (by repeat (first | (with_reducible first | exact HB.out | apply below_alloc | apply pw_below_drewN | apply below_drew1 | refine below_set ?_ GE135.out) | exact HB.out))))
        replace HO128 := m0_ (Kd.R_elder' (by exact HO128.out) (Kd.R_base ho0) hb)
        replace HO131 := m0_ (Kd.R_elder' (by exact HO131.out) (Kd.R_base ho0) hb)
        replace BK135 := m0_ (blk_below (by exact BK135.out) hb)
        replace HB := m0_ (below_step (by repeat (first | (with_reducible first | exact HB.out | apply below_alloc | apply pw_below_drewN | apply below_drew1 | refine below_set ?_ GE135.out) | exact HB.out)) hb)
        (try clear hb)
        (try clear hb2)
        (try clear hk)
        (try clear hi)
        (try clear ho0)
        obtain ⟨Ao77, co77, eo77⟩ := Kd.R_slice HO131.out
        (first | subst eo77 | (injection eo77 with f1_ f2_ f3_;have f4_ := f1_.symm;have f5_ := f3_.symm;clear f1_ f2_ f3_;subst f4_;subst f5_))
        obtain ⟨Ao78, co78, eo78⟩ := Kd.R_slice HO138.out
        (first | subst eo78 | (injection eo78 with f1_ f2_ f3_;have f4_ := f1_.symm;have f5_ := f3_.symm;clear f1_ f2_ f3_;subst f4_;subst f5_))
        refine hK.out _ _ ⟨(blk_cell BK135.out 0).trans rfl, (blk_cell BK135.out 1).trans rfl, (blk_cell BK135.out 2).trans rfl⟩ (fun hHeld => ?_)
        clear hK K
        refine norm_ (a' := ?_) ?_ ?_
        rotate_left
        ·show Act.put _ (some 102) _ = _
         simp only [Act.put, List.setIfInBounds_toArray, List.set_cons_zero, List.set_cons_succ, i64_w, i32_w]
         rfl
        refine one_ (i := 4) (N := some 103) #[true, true, true, true, true, false, false, false, false, false, false, false, false] rfl rfl (one_of HT_.out (by kernel_rfl)) (by decide) (fun K hK => ?_)
        refine goes_ Tryd.func12 (by kernel_rfl) rfl #[.slice Ao77 t129.length co77, .slice Ao78 t136.length co78] (by rfl) rfl rfl (by (try simp only [List.map_toArray, List.map_cons, List.map_nil]);first | done | rfl | (simp only [List.length_drop, List.length_take];rfl)) ?_
        with_reducible refine (impl_EvsSame.calls kj43 _ _ t129 _ _ t136 true _ ?side1 ?side2 ?side3 ?side4 A70.out).mono ?_
        (case side1 => repeat (first | exact (Kd.R_reads' HO131.out).2.2 | (with_reducible refine Kd.C_alloc ?_ _) | (with_reducible refine Kd.C_drewN ?_ _) | (with_reducible refine Kd.C_drew ?_)))
        (case side2 => exact (Kd.R_reads' HO131.out).2.1)
        (case side3 => repeat (first | exact (Kd.R_reads' HO138.out).2.2 | (with_reducible refine Kd.C_alloc ?_ _) | (with_reducible refine Kd.C_drewN ?_ _) | (with_reducible refine Kd.C_drew ?_)))
        (case side4 => exact (Kd.R_reads' HO138.out).2.1)
        rintro e w' ⟨rfl, ⟨nd, rfl⟩⟩
        refine ⟨_, rfl, ?_⟩
        refine hK.out _ _ ⟨(blk_cell BK135.out 0).trans rfl, (blk_cell BK135.out 1).trans rfl, (blk_cell BK135.out 2).trans rfl⟩ (fun hHeld => ?_)
        clear hK K
        refine norm_ (a' := ?_) ?_ ?_
        rotate_left
        ·show Act.put _ (some 103) _ = _
         simp only [Act.put, List.setIfInBounds_toArray, List.set_cons_zero, List.set_cons_succ, i64_w, i32_w]
         rfl
        refine pv_ 5 104 #[true, true, true, true, true, true, false, false, false, false, false, false, false] (any_of HT_.out (by kernel_rfl)) ?_
        refine pv_ 6 105 #[true, true, true, true, true, true, true, false, false, false, false, false, false] (any_of HT_.out (by kernel_rfl)) ?_
        refine take_ (i := 7) (N := some 106) (v := ?_) (a' := ?_) #[true, true, true, true, true, true, true, true, false, false, false, false, false] rfl rfl (take_ofW HT_.out HW_.out (by kernel_rfl)) (fun _ _ _ h => h) (Or.inl ⟨by rfl, ?_⟩) hHeld ?_ ?_
        rotate_left
        ·rintro w' ⟨s0, s1, s2⟩
         go_simp
         with_reducible rfl
        rotate_left
        ·simp only [Act.put, List.setIfInBounds_toArray, List.set_cons_zero, List.set_cons_succ, i64_w, i32_w]
         rfl
        refine take_ (i := 9) (N := some 108) (v := ?_) (a' := ?_) #[true, true, true, true, true, true, true, true, false, true, false, false, false] rfl rfl (take_ofW HT_.out HW_.out (by kernel_rfl)) (fun _ _ _ h => h) (Or.inl ⟨by rfl, ?_⟩) hHeld ?_ ?_
        rotate_left
        ·rintro w' ⟨s0, s1, s2⟩
         go_simp
         with_reducible rfl
        rotate_left
        ·simp only [Act.put, List.setIfInBounds_toArray, List.set_cons_zero, List.set_cons_succ, i64_w, i32_w]
         rfl
        refine one_ (i := 8) (N := some 107) #[true, true, true, true, true, true, true, true, true, true, false, false, false] rfl rfl (one_of HT_.out (by kernel_rfl)) (by decide) (fun K hK => ?_)
        refine goes_ Tryd.func19 (by kernel_rfl) rfl #[.agg #[.int .i64 t132, .int .i64 t133, .int .i64 t134]] (by rfl) rfl rfl (by (try simp only [List.map_toArray, List.map_cons, List.map_nil]);first | done | rfl | (simp only [List.length_drop, List.length_take];rfl)) ?_
        with_reducible refine (impl_EvOk.calls t132 t133 t134 t140 _ A72.out).mono ?_
        rintro e w79 ⟨rfl, hb⟩
        refine ⟨_, rfl, ?_⟩
        replace HO128 := m0_ (Kd.R_below (by exact HO128.out) hb)
        replace HO131 := m0_ (Kd.R_below (by exact HO131.out) hb)
        replace HO138 := m0_ (Kd.R_below (by exact HO138.out) hb)
        replace BK135 := m0_ (blk_below (by exact BK135.out) hb)
        replace HB := m0_ (below_step (by repeat (first | (with_reducible first | exact HB.out | apply below_alloc | apply pw_below_drewN | apply below_drew1 | refine below_set ?_ GE135.out) | exact HB.out)) hb)
        (try clear hb)
        (try clear hb2)
        (try clear hk)
        (try clear hi)
        refine hK.out _ _ ⟨(blk_cell BK135.out 0).trans rfl, (blk_cell BK135.out 1).trans rfl, (blk_cell BK135.out 2).trans rfl⟩ (fun hHeld => ?_)
        clear hK K
        refine norm_ (a' := ?_) ?_ ?_
        rotate_left
        ·show Act.put _ (some 107) _ = _
         simp only [Act.put, List.setIfInBounds_toArray, List.set_cons_zero, List.set_cons_succ, i64_w, i32_w]
         rfl
        refine one_ (i := 10) (N := some 109) #[true, true, true, true, true, true, true, true, true, true, true, false, false] rfl rfl (one_of HT_.out (by kernel_rfl)) (by decide) (fun K hK => ?_)
        refine goes_ Tryd.func20 (by kernel_rfl) rfl #[.agg #[.int .i64 t132, .int .i64 t133, .int .i64 t134]] (by rfl) rfl rfl (by (try simp only [List.map_toArray, List.map_cons, List.map_nil]);first | done | rfl | (simp only [List.length_drop, List.length_take];rfl)) ?_
        with_reducible refine (spec_EvOk.calls t132 t133 t134 t141 _ A73.out).mono ?_
        rintro e w80 ⟨rfl, hb⟩
        refine ⟨_, rfl, ?_⟩
        replace HO128 := m0_ (Kd.R_below (by exact HO128.out) hb)
        replace HO131 := m0_ (Kd.R_below (by exact HO131.out) hb)
        replace HO138 := m0_ (Kd.R_below (by exact HO138.out) hb)
        replace BK135 := m0_ (blk_below (by exact BK135.out) hb)
        replace HB := m0_ (below_step (by repeat (first | (with_reducible first | exact HB.out | apply below_alloc | apply pw_below_drewN | apply below_drew1 | refine below_set ?_ GE135.out) | exact HB.out)) hb)
        (try clear hb)
        (try clear hb2)
        (try clear hk)
        (try clear hi)
        refine hK.out _ _ ⟨(blk_cell BK135.out 0).trans rfl, (blk_cell BK135.out 1).trans rfl, (blk_cell BK135.out 2).trans rfl⟩ (fun hHeld => ?_)
        clear hK K
        refine norm_ (a' := ?_) ?_ ?_
        rotate_left
        ·show Act.put _ (some 109) _ = _
         simp only [Act.put, List.setIfInBounds_toArray, List.set_cons_zero, List.set_cons_succ, i64_w, i32_w]
         rfl
        refine pv_ 11 110 #[true, true, true, true, true, true, true, true, true, true, true, true, false] (any_of HT_.out (by kernel_rfl)) ?_
        refine pv_ 12 111 #[true, true, true, true, true, true, true, true, true, true, true, true, true] (any_of HT_.out (by kernel_rfl)) ?_
        refine done_ (done_of HT_.out (by kernel_rfl)) ?_
        try go_wp2
        go_meet
        case rel => exact ⟨_, ((t140 != t141)), (by first | rfl | (simp;done) | (simp [*];done)), H', ⟨by have := HJ2.out;have := HJ8.out;have := HJ43.out;first | omega | exact Nat.le_refl _⟩, ⟨by (with_reducible repeat (first | apply Kd.R_alloc | apply Kd.R_drewN | apply Kd.R_drew));exact Kd.R_mono HO128.out (fun _ hk => ⟨hk.1.1, hk.1.2⟩)⟩, ⟨by (with_reducible repeat (first | apply Kd.R_alloc | apply Kd.R_drewN | apply Kd.R_drew));exact Kd.R_mono HO131.out (fun _ hk => ⟨hk.1.1, hk.1.2⟩)⟩, ⟨by (with_reducible repeat (first | refine blk_drewN ?_ _ | refine blk_drew ?_ | refine blk_alloc ?_ _));exact BK135.out⟩, ⟨by repeat (first | (with_reducible first | exact HB.out | apply below_alloc | apply pw_below_drewN | apply below_drew1 | refine below_set ?_ GE135.out) | exact HB.out)⟩⟩
       case rest =>
        clear HC62
        try clear c1
        try clear c2
        try clear p2
        try clear c3
        try clear c4
        try clear c4b0
        try clear c4b1
        try clear c5
        try clear c6
        try clear c7
        try clear c8
        try clear c9
        try clear c12
        try clear c13
        try clear c14
        try clear c15
        try clear c15b0
        try clear c15b1
        try clear c16
        try clear c17
        try clear c18
        try clear c18b0
        try clear c18b1
        try clear c18b2
        try clear c19
        try clear c20
        try clear c23
        try clear c24
        try clear c40
        try clear c48
        try clear c48b0
        try clear c48b1
        try clear c48b2
        try clear c49
        try clear c51
        try clear c51b0
        try clear c51b1
        try clear c58
        try clear c71
        try clear hcz68_0
        try clear hcz68_1
        try clear hcz68_2
        try clear hfz68_0
        try clear hfz68_1
        try clear hfz68_2
        try clear p2
        obtain ⟨kq, x111_61, rfl, HA, HJ61, HO_14, HO_16, BK135, HB⟩ := hcut
        cases kq with
        | zero => exact absurd HA.out (by simp [laws_FnEv.j3])
        | succ kj61 =>
         have H := HA.out
         clear HA
         simp only [laws_FnEv.j3] at H
         by_cases c86 : x111_61 = true
         ·subst c86
          have H1 : (some false) = some r := by rw [if_pos rfl] at H;exact H
          clear H
          have H := H1
          clear H1
          exact absurd (Option.some.inj H) (by rw [hT_.out];decide)
         replace c86 := Bool.eq_false_iff.mpr c86
         subst c86
         have H1 : ((spec_EvsOk.f kj61 t125).bind fun t142 => (if t142 = true then (if 0 ≤ (t129.length : Int) then (if (t129.length : Int) ≤ (t125.length : Int) then ((impl_EvsSame.f kj61 t129 (t125.take ((t129.length : Int) : Int).toNat)).bind fun t147 => (if t147 = true then (if (t129.length : Int) = (t125.length : Int) then (some true) else (if (t129.length : Int) < (t125.length : Int) then (some (decide (((rd_T35 t125 (t129.length : Int)).f1) > t126))) else (none))) else (some false))) else (none)) else (none)) else (some true))) = some r := by rw [if_neg (show ¬ (false = true) by decide)] at H;exact H
         clear H
         have H := H1
         clear H1
         replace H := Option.bind_eq_some_iff.mp H
         obtain ⟨t142, A870, H⟩ := H
         replace H : (if t142 = true then (if 0 ≤ (t129.length : Int) then (if (t129.length : Int) ≤ (t125.length : Int) then ((impl_EvsSame.f kj61 t129 (t125.take ((t129.length : Int) : Int).toNat)).bind fun t147 => (if t147 = true then (if (t129.length : Int) = (t125.length : Int) then (some true) else (if (t129.length : Int) < (t125.length : Int) then (some (decide (((rd_T35 t125 (t129.length : Int)).f1) > t126))) else (none))) else (some false))) else (none)) else (none)) else (some true)) = some r := H
         have A87 := m0_ A870
         clear A870
         by_cases c88 : t142 = true
         rotate_left
         ·replace c88 := Bool.eq_false_iff.mpr c88
          subst c88
          have H1 : (some true) = some r := by rw [if_neg (show ¬ (false = true) by decide)] at H;exact H
          clear H
          have H := H1
          clear H1
          obtain rfl := Option.some.inj H
          go_wp2_with (first | ((with_reducible refine gate_callee (f := 11) rfl ?_);refine goesL_ (some 113) rfl rfl Tryd.func11 (by kernel_rfl) rfl #[.slice Ao64 t125.length co64] rfl (by (try simp only [List.map_toArray, List.map_cons, List.map_nil]);first | done | rfl | (simp only [List.length_drop, List.length_take];rfl)) ?_;(with_reducible refine (spec_EvsOk.calls kj61 _ _ t125 false _ ?side1 ?side2 A87.out).mono ?_);(case side1 => repeat (first | exact (Kd.R_reads' HO_14.out).2.2 | (with_reducible refine Kd.C_alloc ?_ _) | (with_reducible refine Kd.C_drewN ?_ _) | (with_reducible refine Kd.C_drew ?_)));(case side2 => exact (Kd.R_reads' HO_14.out).2.1);rintro e w101 ⟨rfl, hb⟩;refine ⟨_, rfl, ?_⟩;replace HO_14 := m0_ (Kd.R_below (by exact HO_14.out) hb);replace HO_16 := m0_ (Kd.R_below (by exact HO_16.out) hb);replace BK135 := m0_ (blk_below (by exact BK135.out) hb);replace HB := m0_ (below_step (by repeat (first | (with_reducible first | exact HB.out | apply below_alloc | apply pw_below_drewN | apply below_drew1 | refine below_set ?_ GE135.out) | exact HB.out)) hb);(try clear hb);(try clear hb2);(try clear hk);(try clear hi)))
          go_ret
          exact ⟨by first | rfl | (simp [errW_none, errW_some] <;> rfl) | (simp [*, errW_none, errW_some] <;> rfl), by repeat (first | (with_reducible first | exact HB.out | apply below_alloc | apply pw_below_drewN | apply below_drew1 | refine below_set ?_ GE135.out) | exact HB.out)⟩
         subst c88
         have H1 : (if 0 ≤ (t129.length : Int) then (if (t129.length : Int) ≤ (t125.length : Int) then ((impl_EvsSame.f kj61 t129 (t125.take ((t129.length : Int) : Int).toNat)).bind fun t147 => (if t147 = true then (if (t129.length : Int) = (t125.length : Int) then (some true) else (if (t129.length : Int) < (t125.length : Int) then (some (decide (((rd_T35 t125 (t129.length : Int)).f1) > t126))) else (none))) else (some false))) else (none)) else (none)) = some r := by rw [if_pos rfl] at H;exact H
         clear H
         have H := H1
         clear H1
         by_cases c89 : 0 ≤ (t129.length : Int)
         rotate_left
         ·rw [if_neg c89] at H
          exact absurd H (by simp)
         rw [if_pos c89] at H
         have c89b0 := eq_true c89
         have c89b1 : decide (0 ≤ (t129.length : Int)) = true := decide_eq_true c89
         clear c89
         by_cases c90 : (t129.length : Int) ≤ (t125.length : Int)
         rotate_left
         ·rw [if_neg c90] at H
          exact absurd H (by simp)
         rw [if_pos c90] at H
         have c90b0 := eq_true c90
         have c90b1 : decide ((t129.length : Int) ≤ (t125.length : Int)) = true := decide_eq_true c90
         clear c90
         obtain ⟨y143, hy143⟩ : ∃ y_ : List (S35), y_ = (t125.take ((t129.length : Int) : Int).toNat) := ⟨_, rfl⟩
         replace H : ((impl_EvsSame.f kj61 t129 y143).bind fun t147 => (if t147 = true then (if (t129.length : Int) = (t125.length : Int) then (some true) else (if (t129.length : Int) < (t125.length : Int) then (some (decide (((rd_T35 t125 (t129.length : Int)).f1) > t126))) else (none))) else (some false))) = some r := by first | (rw [hy143];with_reducible exact H) | (have H2_ := (Option.bind_some _ _).symm.trans H;rw [hy143];with_reducible exact H2_) | (have H2_ := (Option.bind_some _ _).symm.trans H;with_reducible exact H2_) | with_reducible exact H | (rw [hy143];exact H) | exact H
         have Ny143 := m0_ hy143
         clear hy143
         replace H := Option.bind_eq_some_iff.mp H
         obtain ⟨t147, A910, H⟩ := H
         replace H : (if t147 = true then (if (t129.length : Int) = (t125.length : Int) then (some true) else (if (t129.length : Int) < (t125.length : Int) then (some (decide (((rd_T35 t125 (t129.length : Int)).f1) > t126))) else (none))) else (some false)) = some r := H
         have A91 := m0_ A910
         clear A910
         by_cases c92 : t147 = true
         rotate_left
         ·replace c92 := Bool.eq_false_iff.mpr c92
          subst c92
          have H1 : (some false) = some r := by rw [if_neg (show ¬ (false = true) by decide)] at H;exact H
          clear H
          have H := H1
          clear H1
          exact absurd (Option.some.inj H) (by rw [hT_.out];decide)
         subst c92
         have H1 : (if (t129.length : Int) = (t125.length : Int) then (some true) else (if (t129.length : Int) < (t125.length : Int) then (some (decide (((rd_T35 t125 (t129.length : Int)).f1) > t126))) else (none))) = some r := by rw [if_pos rfl] at H;exact H
         clear H
         have H := H1
         clear H1
         by_cases c93 : (t129.length : Int) = (t125.length : Int)
         ·rw [if_pos c93] at H
          have c93b0 : ((t129.length : Int) == (t125.length : Int)) = true := beq_iff_eq.mpr c93
          have c93b1 : ((t129.length : Int) != (t125.length : Int)) = false := bne_eq_false_iff_eq.mpr c93
          have c93b2 : (t129.length == t125.length) = true := by first | simpa using c93 | (simp at c93 ⊢;omega)
          clear c93
          obtain rfl := Option.some.inj H
          go_wp2_with (first | ((with_reducible refine gate_callee (f := 11) rfl ?_);refine goesL_ (some 113) rfl rfl Tryd.func11 (by kernel_rfl) rfl #[.slice Ao64 t125.length co64] rfl (by (try simp only [List.map_toArray, List.map_cons, List.map_nil]);first | done | rfl | (simp only [List.length_drop, List.length_take];rfl)) ?_;(with_reducible refine (spec_EvsOk.calls kj61 _ _ t125 true _ ?side1 ?side2 A87.out).mono ?_);(case side1 => repeat (first | exact (Kd.R_reads' HO_14.out).2.2 | (with_reducible refine Kd.C_alloc ?_ _) | (with_reducible refine Kd.C_drewN ?_ _) | (with_reducible refine Kd.C_drew ?_)));(case side2 => exact (Kd.R_reads' HO_14.out).2.1);rintro e w94 ⟨rfl, hb⟩;refine ⟨_, rfl, ?_⟩;replace HO_14 := m0_ (Kd.R_below (by exact HO_14.out) hb);replace HO_16 := m0_ (Kd.R_below (by exact HO_16.out) hb);replace BK135 := m0_ (blk_below (by exact BK135.out) hb);replace HB := m0_ (below_step (by repeat (first | (with_reducible first | exact HB.out | apply below_alloc | apply pw_below_drewN | apply below_drew1 | refine below_set ?_ GE135.out) | exact HB.out)) hb);(try clear hb);(try clear hb2);(try clear hk);(try clear hi);obtain ⟨Ao95, co95, eo95⟩ := Kd.R_slice HO_16.out;subst eo95;have q96 : ((t129.length : Int) : Int) ≤ ((t125.length : Int) : Int) := of_decide_eq_true (by first | (with_reducible assumption) | assumption);obtain ⟨i096, hi096, _, hsz96, _⟩ := info_parts info35;have hroom96 : t125.length ≤ co64 := (Kd.R_reads' HO_14.out).2.1;have hC96 : Kd.C k35 _ Ao64 t125.length t125 := (Kd.R_reads' HO_14.out).2.2;have hcut96 := cut_to (P := Tryd.prog) 23 35 .i64 Tryd.underlying23 hi096 Ao64 t125.length co64 (t129.length : Int) (of_decide_eq_true (by first | (with_reducible assumption) | assumption)) q96 hroom96;have hr96 := Kd.C_take (m := ((t129.length : Int) : Int).toNat) hC96 (by omega);have hy96 : y143.length = ((t129.length : Int) : Int).toNat := (by rw [Ny143.out, List.length_take];omega);rw [← Ny143.out] at hr96;rw [← hy96] at hcut96;have HR146 := m0_ hr96;have HC146 := m0_ (show y143.length ≤ co64 from by omega);clear hr96 hC96 hroom96 hi096 hsz96;have KY96 := m0_ hy96;clear hy96;have KL96 := m0_ (show ((t129.length : Int) : Int).toNat ≤ t125.length from by omega);replace q96 := eq_true q96) | (go_at_call 12;(with_reducible refine (impl_EvsSame.calls kj61 _ _ t129 _ _ y143 true _ ?side1 ?side2 ?side3 ?side4 A91.out).mono ?_);(case side1 => repeat (first | exact (Kd.R_reads' HO_16.out).2.2 | (with_reducible refine Kd.C_alloc ?_ _) | (with_reducible refine Kd.C_drewN ?_ _) | (with_reducible refine Kd.C_drew ?_)));(case side2 => exact (Kd.R_reads' HO_16.out).2.1);(case side3 => repeat (first | exact (by repeat (first | (with_reducible exact HR146.out) | (with_reducible refine Kd.C_alloc ?_ _) | (with_reducible refine Kd.C_drewN ?_ _) | (with_reducible refine Kd.C_drew ?_) | exact HR146.out)) | (with_reducible refine Kd.C_alloc ?_ _) | (with_reducible refine Kd.C_drewN ?_ _) | (with_reducible refine Kd.C_drew ?_)));(case side4 => exact HC146.out);rintro e w' ⟨rfl, ⟨nd, rfl⟩⟩))
          go_ret
          exact ⟨by first | rfl | (simp [errW_none, errW_some] <;> rfl) | (simp [*, errW_none, errW_some] <;> rfl), by repeat (first | (with_reducible first | exact HB.out | apply below_alloc | apply pw_below_drewN | apply below_drew1 | refine below_set ?_ GE135.out) | exact HB.out)⟩
         rw [if_neg c93] at H
         have c93b0 : ((t129.length : Int) == (t125.length : Int)) = false := beq_eq_false_iff_ne.mpr c93
         have c93b1 : ((t129.length : Int) != (t125.length : Int)) = true := bne_iff_ne.mpr c93
         have c93b2 : (t129.length == t125.length) = false := by first | simpa using c93 | (simp at c93 ⊢;omega)
         by_cases c97 : (t129.length : Int) < (t125.length : Int)
         ·rw [if_pos c97] at H
          have c97b0 : decide ((t129.length : Int) < (t125.length : Int)) = true := decide_eq_true c97
          (try (have c97b1 : (t129.length < t125.length) := by omega))
          have c97b2 : decide (t129.length < t125.length) = true := decide_eq_true (Int.ofNat_lt.mp c97)
          clear c97
          obtain rfl := Option.some.inj H
          go_wp2_with (first | ((with_reducible refine gate_callee (f := 11) rfl ?_);refine goesL_ (some 113) rfl rfl Tryd.func11 (by kernel_rfl) rfl #[.slice Ao64 t125.length co64] rfl (by (try simp only [List.map_toArray, List.map_cons, List.map_nil]);first | done | rfl | (simp only [List.length_drop, List.length_take];rfl)) ?_;(with_reducible refine (spec_EvsOk.calls kj61 _ _ t125 true _ ?side1 ?side2 A87.out).mono ?_);(case side1 => repeat (first | exact (Kd.R_reads' HO_14.out).2.2 | (with_reducible refine Kd.C_alloc ?_ _) | (with_reducible refine Kd.C_drewN ?_ _) | (with_reducible refine Kd.C_drew ?_)));(case side2 => exact (Kd.R_reads' HO_14.out).2.1);rintro e w98 ⟨rfl, hb⟩;refine ⟨_, rfl, ?_⟩;replace HO_14 := m0_ (Kd.R_below (by exact HO_14.out) hb);replace HO_16 := m0_ (Kd.R_below (by exact HO_16.out) hb);replace BK135 := m0_ (blk_below (by exact BK135.out) hb);replace HB := m0_ (below_step (by repeat (first | (with_reducible first | exact HB.out | apply below_alloc | apply pw_below_drewN | apply below_drew1 | refine below_set ?_ GE135.out) | exact HB.out)) hb);(try clear hb);(try clear hb2);(try clear hk);(try clear hi);obtain ⟨Ao99, co99, eo99⟩ := Kd.R_slice HO_16.out;subst eo99;have q100 : ((t129.length : Int) : Int) ≤ ((t125.length : Int) : Int) := of_decide_eq_true (by first | (with_reducible assumption) | assumption);obtain ⟨i0100, hi0100, _, hsz100, _⟩ := info_parts info35;have hroom100 : t125.length ≤ co64 := (Kd.R_reads' HO_14.out).2.1;have hC100 : Kd.C k35 _ Ao64 t125.length t125 := (Kd.R_reads' HO_14.out).2.2;have hcut100 := cut_to (P := Tryd.prog) 23 35 .i64 Tryd.underlying23 hi0100 Ao64 t125.length co64 (t129.length : Int) (of_decide_eq_true (by first | (with_reducible assumption) | assumption)) q100 hroom100;have hr100 := Kd.C_take (m := ((t129.length : Int) : Int).toNat) hC100 (by omega);have hy100 : y143.length = ((t129.length : Int) : Int).toNat := (by rw [Ny143.out, List.length_take];omega);rw [← Ny143.out] at hr100;rw [← hy100] at hcut100;have HR146 := m0_ hr100;have HC146 := m0_ (show y143.length ≤ co64 from by omega);clear hr100 hC100 hroom100 hi0100 hsz100;have KY100 := m0_ hy100;clear hy100;have KL100 := m0_ (show ((t129.length : Int) : Int).toNat ≤ t125.length from by omega);replace q100 := eq_true q100) | (go_at_call 12;(with_reducible refine (impl_EvsSame.calls kj61 _ _ t129 _ _ y143 true _ ?side1 ?side2 ?side3 ?side4 A91.out).mono ?_);(case side1 => repeat (first | exact (Kd.R_reads' HO_16.out).2.2 | (with_reducible refine Kd.C_alloc ?_ _) | (with_reducible refine Kd.C_drewN ?_ _) | (with_reducible refine Kd.C_drew ?_)));(case side2 => exact (Kd.R_reads' HO_16.out).2.1);(case side3 => repeat (first | exact (by repeat (first | (with_reducible exact HR146.out) | (with_reducible refine Kd.C_alloc ?_ _) | (with_reducible refine Kd.C_drewN ?_ _) | (with_reducible refine Kd.C_drew ?_) | exact HR146.out)) | (with_reducible refine Kd.C_alloc ?_ _) | (with_reducible refine Kd.C_drewN ?_ _) | (with_reducible refine Kd.C_drew ?_)));(case side4 => exact HC146.out);rintro e w' ⟨rfl, ⟨nd, rfl⟩⟩;have p148 : 0 ≤ ((t129.length : Int) : Int) := of_decide_eq_true (by first | (with_reducible assumption) | assumption);have q148 : (t129.length : Int) < (t125.length : Int) := of_decide_eq_true (by first | (with_reducible assumption) | assumption);obtain ⟨ad148, e148, hx148_0, hx148_1, hx148_2⟩ := at_T35 (Kd.R_reads' HO_14.out).2.2 (t129.length : Int) p148 q148;cases e148;(try simp only [Go.IntWalk.toNatUp] at hx148_0);(try simp only [Go.IntWalk.toNatUp] at hx148_1);(try simp only [Go.IntWalk.toNatUp] at hx148_2);replace p148 := eq_true p148;replace q148 := eq_true q148))
          go_ret
          exact ⟨by first | rfl | (simp [errW_none, errW_some] <;> rfl) | (simp [*, errW_none, errW_some] <;> rfl), by repeat (first | (with_reducible first | exact HB.out | apply below_alloc | apply pw_below_drewN | apply below_drew1 | refine below_set ?_ GE135.out) | exact HB.out)⟩
         ·rw [if_neg c97] at H
          exact absurd H (by simp)

end Go.Proofs.YtiebpoikhijbgaaDoor.M
namespace Go.Proofs.YtiebpoikhijbgaaDoor.M
set_option linter.unusedVariables false
set_option linter.unusedSimpArgs false
open Go.RowKit Go.Proofs.YtiebpoikhijbgaaDoorW.PrintWords Go.Proofs.YtiebpoikhijbgaaDoorW.PrintLast

def evOkB (x : S35) : Bool := decide (0 ≤ x.f0) && decide (x.f0 ≤ 4) && decide (1 ≤ x.f1) && decide (x.f1 ≤ 1000) && decide (0 ≤ x.f2) && decide (x.f2 ≤ 100)
def evsGo : Int → List S35 → Bool
  | _, [] => true
  | p, x :: xs => evOkB x && decide (p < x.f1) && evsGo x.f1 xs
def evsOkB (l : List S35) : Bool := evsGo 0 l && decide (l.length ≤ 24)

theorem spec_EvOk_is (a b c : Int) : spec_EvOk.f a b c = some (evOkB ⟨a, b, c⟩) := by
  unfold spec_EvOk.f evOkB
  by_cases h0 : a ≥ 0
  rotate_left
  · rw [if_neg h0]
    simp
    omega
  by_cases h1 : a < 5
  rotate_left
  · rw [if_pos h0, if_neg h1]
    simp
    omega
  by_cases h2 : b ≥ 1
  · by_cases h3 : b ≤ 1000
    · by_cases h4 : c ≥ 0
      · rw [if_pos h0, if_pos h1, if_pos h2, if_pos h3, if_pos h4]
        simp
        omega
      · rw [if_pos h0, if_pos h1, if_pos h2, if_pos h3, if_neg h4]
        simp
        omega
    · rw [if_pos h0, if_pos h1, if_pos h2, if_neg h3]
      simp
      omega
  · rw [if_pos h0, if_pos h1, if_neg h2]
    simp
    omega
theorem impl_in_is (a b c : Int) : impl_in.f a b c = some (decide (b ≤ a) && decide (a ≤ c)) := by
  unfold impl_in.f
  by_cases h : b ≤ a
  · rw [if_pos h]; simp [h]
  · rw [if_neg h]; simp [h]
theorem impl_isSym_is (a : Int) : impl_isSym.f a = some (decide (0 ≤ a) && decide (a ≤ 4)) := by
  unfold impl_isSym.f
  rw [impl_in_is]; rfl
theorem impl_EvOk_is (a b c : Int) : impl_EvOk.f a b c = some (evOkB ⟨a, b, c⟩) := by
  unfold impl_EvOk.f evOkB
  rw [impl_isSym_is]
  simp only [Option.bind_some, impl_in_is]
  by_cases h0 : (decide (0 ≤ a) && decide (a ≤ 4)) = true
  · rw [if_pos h0, h0]
    by_cases h1 : (decide (1 ≤ b) && decide (b ≤ 1000)) = true
    · rw [if_pos h1]
      simp only [Bool.true_and, h1]
    · rw [if_neg h1]
      simp only [Bool.not_eq_true] at h1
      simp only [Bool.true_and, h1, Bool.false_and]
  · rw [if_neg h0]
    simp only [Bool.not_eq_true] at h0
    simp only [h0, Bool.false_and]

def evPrev (l : List S35) (n : Nat) : Int := if n = 0 then 0 else (l.getD (n - 1) z35).f1
theorem evGood (x : S35) (h : evOkB x = true) : 0 < x.f1 := by
  unfold evOkB at h
  simp at h
  omega
theorem evPrev_succ (l : List S35) (n : Nat) : evPrev l (n + 1) = (l.getD n z35).f1 := by simp [evPrev]

theorem spec_EvsOk_l0_ev (l : List S35) (hl : l.length ≤ 9223372036854775807) : ∀ d n : Nat, n + d = l.length → Ev (fun k => spec_EvsOk.l0 k l (n : Int)) (evsGo (evPrev l n) (l.drop n)) := by
  intro d
  induction d with
  | zero =>
    intro n hn
    rw [List.drop_of_length_le (by omega)]
    exact Ev.last (fun k => by simp only [spec_EvsOk.l0]; rw [if_neg (by omega)]; rfl)
  | succ d ih =>
    intro n hn
    have hlt : n < l.length := by omega
    have hrd : rd_T35 l (n : Int) = l.getD n z35 := rfl
    rw [drop_at l z35 n hlt]
    have next := ih (n + 1) (by omega)
    rw [evPrev_succ] at next
    refine Ev.step (fun k => by simp only [spec_EvsOk.l0]; rw [if_pos (by omega), if_pos (by omega), spec_EvOk_is, w_succ (by omega), hrd, Option.bind_some]) ?_
    generalize l.getD n z35 = x at *
    unfold evsGo
    by_cases hx : evOkB x = true
    rotate_left
    · refine Ev.neg hx ?_
      simp only [Bool.not_eq_true] at hx
      rw [hx]
      exact Ev.now _
    have h0 := evGood x hx
    refine Ev.pos hx ?_
    rw [show evOkB ⟨x.f0, x.f1, x.f2⟩ = true from hx] at *
    rw [hx]
    rcases Nat.eq_zero_or_pos n with hz | hp
    · subst hz
      refine Ev.neg (by omega) ?_
      rw [show evPrev l 0 = 0 from rfl, decide_eq_true h0]
      exact next
    obtain ⟨m, rfl⟩ : ∃ m, n = m + 1 := ⟨n - 1, by omega⟩
    have hw : wrap64 (((m + 1 : Nat) : Int) - 1) = (m : Int) := by rw [w_small (by omega) (by omega)]; omega
    refine Ev.pos (by omega) ?_
    rw [hw]
    refine Ev.pos (by omega) (Ev.pos (by omega) ?_)
    have hr2 : rd_T35 l (m : Int) = l.getD m z35 := rfl
    rw [hr2, evPrev_succ]
    by_cases hc : x.f1 ≤ (l.getD m z35).f1
    · refine Ev.pos hc ?_
      rw [decide_eq_false (by omega)]
      exact Ev.now _
    · refine Ev.neg hc ?_
      rw [decide_eq_true (by omega)]
      exact next

theorem spec_EvsOk_ev (l : List S35) (hl : l.length ≤ 9223372036854775807) : Ev (fun k => spec_EvsOk.f k l) (evsOkB l) := by
  unfold spec_EvsOk.f evsOkB
  by_cases h : (l.length : Int) > 24
  · refine Ev.pos h ?_
    rw [decide_eq_false (by omega), Bool.and_false]
    exact Ev.now _
  · refine Ev.neg h ?_
    rw [decide_eq_true (by omega), Bool.and_true]
    exact spec_EvsOk_l0_ev l hl l.length 0 (by omega)

theorem impl_EvsOk_l0_ev (l : List S35) (hl : l.length ≤ 9223372036854775807) : ∀ d n : Nat, n + d = l.length → Ev (fun k => impl_EvsOk.l0 k l l (l.length : Int) (n : Int)) (evsGo (evPrev l n) (l.drop n) && decide (l.length ≤ 24)) := by
  intro d
  induction d with
  | zero =>
    intro n hn
    rw [List.drop_of_length_le (by omega)]
    exact Ev.last (fun k => by simp only [impl_EvsOk.l0]; rw [if_neg (by omega)]; simp [evsGo]; omega)
  | succ d ih =>
    intro n hn
    have hlt : n < l.length := by omega
    have hrd : rd_T35 l (n : Int) = l.getD n z35 := rfl
    rw [drop_at l z35 n hlt]
    have next := ih (n + 1) (by omega)
    rw [evPrev_succ] at next
    refine Ev.step (fun k => by simp only [impl_EvsOk.l0]; rw [if_pos (by omega), if_pos (by omega), if_pos (by omega), impl_EvOk_is, w_succ (by omega), hrd, Option.bind_some]) ?_
    generalize l.getD n z35 = x at *
    unfold evsGo
    by_cases hx : evOkB x = true
    rotate_left
    · refine Ev.neg hx ?_
      simp only [Bool.not_eq_true] at hx
      rw [hx]
      exact Ev.now _
    have h0 := evGood x hx
    refine Ev.pos hx ?_
    rw [hx]
    rcases Nat.eq_zero_or_pos n with hz | hp
    · subst hz
      refine Ev.neg (by omega) ?_
      rw [show evPrev l 0 = 0 from rfl, decide_eq_true h0]
      exact next
    obtain ⟨m, rfl⟩ : ∃ m, n = m + 1 := ⟨n - 1, by omega⟩
    have hw : wrap64 (((m + 1 : Nat) : Int) - 1) = (m : Int) := by rw [w_small (by omega) (by omega)]; omega
    refine Ev.pos (by omega) ?_
    rw [hw]
    refine Ev.pos (by omega) (Ev.pos (by omega) ?_)
    have hr2 : rd_T35 l (m : Int) = l.getD m z35 := rfl
    rw [hr2, evPrev_succ]
    by_cases hc : x.f1 ≤ (l.getD m z35).f1
    · refine Ev.pos hc ?_
      rw [decide_eq_false (by omega)]
      exact Ev.now _
    · refine Ev.neg hc ?_
      rw [decide_eq_true (by omega)]
      exact next

theorem impl_EvsOk_ev (l : List S35) (hl : l.length ≤ 9223372036854775807) : Ev (fun k => impl_EvsOk.f k l) (evsOkB l) := impl_EvsOk_l0_ev l hl l.length 0 (by omega)
theorem nDigits_le (n : Nat) : Lib.nDigits n ≤ n / 10 + 2 := by
  induction n using Nat.strongRecOn with
  | _ n ih =>
    by_cases h : n < 10
    · rw [Lib.nDigits_small h]; omega
    · have := ih (n / 10) (by omega)
      rw [Lib.nDigits_big h]; omega
theorem ba_cons (c : UInt8) (l : List UInt8) (x : ByteArray) : (⟨(l ++ [c]).toArray⟩ : ByteArray) ++ x = (⟨l.toArray⟩ : ByteArray) ++ ((⟨#[c]⟩ : ByteArray) ++ x) := by
  apply ByteArray.ext
  simp [ByteArray.data_append]
theorem digit_is (d : Nat) (h : d < 10) : strOfNums [wrap64 (48 + (d : Int)) % 256] = (⟨#[UInt8.ofNat (48 + d)]⟩ : ByteArray) := by
  rw [w_small (by omega) (by omega)]
  have : d = 0 ∨ d = 1 ∨ d = 2 ∨ d = 3 ∨ d = 4 ∨ d = 5 ∨ d = 6 ∨ d = 7 ∨ d = 8 ∨ d = 9 := by omega
  rcases this with rfl | rfl | rfl | rfl | rfl | rfl | rfl | rfl | rfl | rfl <;> rfl
theorem l14Dec_l0 : ∀ (n : Nat) (x : ByteArray), x.size + Lib.nDigits n ≤ 9223372036854775807 → n ≤ 9223372036854775807 → Ev (fun k => spec_l14Dec.l0 k (n : Int) x) ((⟨(Lib.decDigits n).toArray⟩ : ByteArray) ++ x) := by
  intro n
  induction n using Nat.strongRecOn with
  | _ n ih =>
    intro x hx hn
    have one : ∀ c : UInt8, (⟨#[c]⟩ : ByteArray).size = 1 := fun _ => rfl
    by_cases h : n < 10
    · rw [Lib.nDigits_small h] at hx
      rw [Lib.decDigits_one h]
      exact Ev.last (fun k => by simp only [spec_l14Dec.l0]; rw [if_neg (by omega), Option.bind_some, digit_is n h, one, if_pos (by omega)])
    rw [Lib.nDigits_big h] at hx
    have hd : Int.tmod (n : Int) 10 = ((n % 10 : Nat) : Int) := by rw [Int.tmod_eq_emod_of_nonneg (by omega)]; omega
    have hq : wrap64 (Int.tdiv (n : Int) 10) = ((n / 10 : Nat) : Int) := by rw [Int.tdiv_eq_ediv_of_nonneg (by omega), w_small (by omega) (by omega)]; omega
    rw [Lib.decDigits, dif_neg h, ba_cons]
    refine Ev.step (fun k => by simp only [spec_l14Dec.l0]; rw [if_pos (by omega), hd, Option.bind_some, digit_is _ (by omega), one, if_pos (by omega), hq]) (ih (n / 10) (by omega) _ ?_ (by omega))
    rw [ByteArray.size_append, one]
    omega
theorem l14Dec_ev (a : Int) (h0 : -9223372036854775808 ≤ a) (h1 : a ≤ 9223372036854775807) : Ev (fun k => spec_l14Dec.f k a) (itoaB a) := by
  have pos : ∀ a : Int, 0 ≤ a → a ≤ 9223372036854775807 → Ev (fun k => spec_l14Dec.f k a) (itoaB a) := by
    intro a g0 g1
    obtain ⟨n, rfl⟩ := Int.eq_ofNat_of_zero_le g0
    have hd := nDigits_le n
    have := l14Dec_l0 n ⟨#[]⟩ (by show 0 + _ ≤ _; omega) (by omega)
    refine Ev.step (fun k => by simp only [spec_l14Dec.f]; rw [if_neg (by omega), if_neg (by omega)]) (Ev.val this ?_)
    unfold itoaB Lib.itoa
    rw [if_neg (by omega)]
    apply ByteArray.ext
    simp [ByteArray.data_append]
  by_cases hp : 0 ≤ a
  · exact pos a hp h1
  by_cases hm : a < -9223372036854775807
  · have : a = -9223372036854775808 := by omega
    subst this
    refine Ev.step (f := fun _ => some _) (fun k => by simp only [spec_l14Dec.f]; rw [if_pos (by omega)]) (Ev.val (Ev.now _) ?_)
    unfold itoaB Lib.itoa
    rw [if_pos (by omega)]
    simp [Lib.decDigits]
  have hn := pos (-a) (by omega) (by omega)
  have hw : wrap64 (-a) = -a := w_small (by omega) (by omega)
  refine Ev.step (fun k => by simp only [spec_l14Dec.f]; rw [if_neg hm, if_pos (by omega), hw]) ?_
  refine Ev.bind hn ?_
  have hs : (itoaB (-a)).size = Lib.nDigits (-a).toNat := by
    unfold itoaB Lib.itoa
    rw [if_neg (by omega)]
    show ((Lib.decDigits _).toArray).size = _
    rw [List.size_toArray, Lib.decDigits_length]
  have hd := nDigits_le (-a).toNat
  refine Ev.pos (by omega) (Ev.val (Ev.now _) ?_)
  unfold itoaB Lib.itoa
  rw [if_neg (by omega), if_pos (by omega)]
  apply ByteArray.ext
  simp [ByteArray.data_append, show a.natAbs = (-a).toNat by omega]
theorem itoaB_dec (n : Int) (h : 0 ≤ n) : itoaB n = ⟨(Lib.decDigits n.toNat).toArray⟩ := by unfold itoaB Lib.itoa; rw [if_neg (by omega)]
end Go.Proofs.YtiebpoikhijbgaaDoor.M
namespace Go.Proofs.YtiebpoikhijbgaaDoor.M
set_option linter.unusedVariables false
set_option linter.unusedSimpArgs false
open Go Go.RowKit Go.Proofs.YtiebpoikhijbgaaDoorW.PrintWords Go.Proofs.YtiebpoikhijbgaaDoorW.PrintLast

def letE (a : Int) : ByteArray := if 0 ≤ a ∧ a ≤ 4 then (⟨#[97, 98, 99, 100, 101]⟩ : ByteArray).extract a.toNat (a + 1).toNat else ⟨#[63]⟩
def tellV (x : S35) : ByteArray := if x.f2 = 0 then letE x.f0 ++ itoaB x.f1 else (letE x.f0 ++ itoaB x.f1) ++ ((⟨#[61]⟩ : ByteArray) ++ itoaB x.f2)
def sufE : List ByteArray → ByteArray
  | [] => ⟨#[]⟩
  | w :: ws => ((⟨#[32]⟩ : ByteArray) ++ w) ++ sufE ws
def evsT : List S35 → ByteArray
  | [] => ⟨#[]⟩
  | x :: l => tellV x ++ sufE (l.map tellV)
def in64 (x : S35) : Prop := (-9223372036854775808 ≤ x.f1 ∧ x.f1 ≤ 9223372036854775807) ∧ (-9223372036854775808 ≤ x.f2 ∧ x.f2 ≤ 9223372036854775807)
theorem impl_letter_is (a : Int) : impl_letter.f a = some (letE a) := by
  unfold impl_letter.f letE
  rw [impl_isSym_is, Option.bind_some]
  by_cases c : 0 ≤ a ∧ a ≤ 4
  · have w1 : wrap64 (a + 1) = a + 1 := w_small (by omega) (by omega)
    rw [if_pos (by simp [c.1, c.2]), if_pos c.1, w1, if_pos (by omega), if_pos (by omega), if_pos c]
  · rw [if_neg (by simp; omega), if_neg c]
theorem l1Letter_is (a : Int) : spec_l1Letter.f a = some (letE a) := by
  unfold spec_l1Letter.f letE
  by_cases c : 0 ≤ a ∧ a ≤ 4
  · have w1 : wrap64 (a + 1) = a + 1 := w_small (by omega) (by omega)
    rw [if_neg (by omega), if_neg (by omega), if_pos c.1, w1, if_pos (by omega), if_pos (by omega), if_pos c]
  rw [if_neg c]
  by_cases c1 : a < 0
  · rw [if_pos c1]
  · rw [if_neg c1, if_pos (by omega)]
theorem letE_size (a : Int) : (letE a).size ≤ 5 := by
  unfold letE
  split
  · rw [ByteArray.size_extract]
    show min _ 5 - _ ≤ _
    omega
  · exact Nat.le_of_ble_eq_true rfl
theorem itoaB_size (a : Int) (h0 : -9223372036854775808 ≤ a) (h1 : a ≤ 9223372036854775807) : (itoaB a).size ≤ 21 := Lib.itoa_length_le a h0 h1
theorem one61 : (⟨#[61]⟩ : ByteArray).size = 1 := rfl
theorem one32 : (⟨#[32]⟩ : ByteArray).size = 1 := rfl
theorem tellV_size (x : S35) (h : in64 x) : (tellV x).size ≤ 48 := by
  have h1 := letE_size x.f0
  have h2 := itoaB_size x.f1 h.1.1 h.1.2
  have h3 := itoaB_size x.f2 h.2.1 h.2.2
  unfold tellV
  split
  · rw [ByteArray.size_append]; omega
  · rw [ByteArray.size_append, ByteArray.size_append, ByteArray.size_append, one61]; omega
theorem Itoa_is (a : Int) (h0 : -9223372036854775808 ≤ a) (h1 : a ≤ 9223372036854775807) : strconv_Itoa.f a = some (itoaB a) := by
  unfold strconv_Itoa.f
  rw [if_pos ⟨h0, h1⟩]
theorem tell_is (x : S35) (h : in64 x) : impl_tell.f x.f0 x.f1 x.f2 = some (tellV x) := by
  have h1 := letE_size x.f0
  have h2 := itoaB_size x.f1 h.1.1 h.1.2
  have h3 := itoaB_size x.f2 h.2.1 h.2.2
  unfold impl_tell.f tellV
  rw [impl_letter_is, Option.bind_some, Itoa_is x.f1 h.1.1 h.1.2, Option.bind_some, if_pos (by omega)]
  by_cases c : x.f2 = 0
  · rw [if_pos c, if_pos c]
  · rw [if_neg c, if_neg c, Itoa_is x.f2 h.2.1 h.2.2, Option.bind_some, if_pos (by omega), if_pos (by rw [ByteArray.size_append, ByteArray.size_append, one61]; omega)]
theorem join_is (ws : List ByteArray) : joinB ws ⟨#[32]⟩ = match ws with | [] => ⟨#[]⟩ | w :: r => w ++ sufE r := by
  cases ws with
  | nil => rfl
  | cons w r =>
    apply ByteArray.ext
    apply Array.ext'
    simp only [joinB, List.map_cons]
    rw [Lib.join_cons, ByteArray.data_append, Array.toList_append]
    congr 1
    induction r with
    | nil => rfl
    | cons y r ih =>
      simp only [sufE, ByteArray.data_append, Array.toList_append]
      rw [← ih]
      simp [Lib.joinTail]
theorem evsT_join (l : List S35) : joinB (l.map tellV) ⟨#[32]⟩ = evsT l := by
  rw [join_is]
  cases l <;> rfl
theorem sufE_size (l : List S35) (h : ∀ x ∈ l, in64 x) : (sufE (l.map tellV)).size ≤ 49 * l.length := by
  induction l with
  | nil => exact Nat.le_refl _
  | cons x l ih =>
    have := ih (fun y hy => h y (by simp [hy]))
    have h1 := tellV_size x (h x (by simp))
    rw [List.map_cons, sufE, ByteArray.size_append, ByteArray.size_append, one32, List.length_cons]
    omega
theorem evsT_size (l : List S35) (h : ∀ x ∈ l, in64 x) : (evsT l).size ≤ 49 * l.length := by
  cases l with
  | nil => exact Nat.le_refl _
  | cons x l =>
    have := sufE_size l (fun y hy => h y (by simp [hy]))
    have h1 := tellV_size x (h x (by simp))
    rw [evsT, ByteArray.size_append, List.length_cons]
    omega
theorem rdE (l : List S35) (n : Nat) (h : n < l.length) : rd_T35 l (n : Int) = l[n] := by
  show l.getD n z35 = _
  rw [List.getD_eq_getElem?_getD, List.getElem?_eq_getElem h]
  rfl
theorem impl_EvsText_l0_ev (l : List S35) (hl : l.length ≤ 1099511627776) (h : ∀ x ∈ l, in64 x) : ∀ (d n : Nat) (out : List ByteArray), n + d = l.length → out.length ≤ n → Ev (fun k => impl_EvsText.l0 k out l (l.length : Int) (n : Int)) (joinB (out ++ (l.drop n).map tellV) ⟨#[32]⟩) ∨ (joinB (out ++ (l.drop n).map tellV) ⟨#[32]⟩).size > 140737488355328 := by
  intro d
  induction d with
  | zero =>
    intro n out hn ho
    rw [List.drop_of_length_le (by omega), List.map_nil, List.append_nil]
    by_cases c : (joinB out ⟨#[32]⟩).size ≤ 140737488355328
    · left
      refine Ev.last (fun k => ?_)
      simp only [impl_EvsText.l0]
      rw [if_neg (by omega)]
      unfold strings_Join.f
      rw [if_pos ⟨by omega, c⟩]
      rfl
    · right; omega
  | succ d ih =>
    intro n out hn ho
    have e : l.drop n = l[n] :: l.drop (n + 1) := List.drop_eq_getElem_cons (by omega)
    rcases ih (n + 1) (out ++ [tellV l[n]]) (by omega) (by rw [List.length_append]; simp; omega) with g | g
    · left
      rw [e, List.map_cons]
      refine Ev.step (f := fun k => impl_EvsText.l0 k (out ++ [tellV l[n]]) l (l.length : Int) ((n + 1 : Nat) : Int)) (fun k => ?_) (Ev.val g (by rw [List.append_assoc]; rfl))
      simp only [impl_EvsText.l0]
      rw [if_pos (by omega), if_pos (by omega), if_pos (by omega), rdE l n (by omega), tell_is _ (h _ (List.getElem_mem _)), Option.bind_some, if_pos (by omega), w_succ (by omega)]
    · right
      rw [e, List.map_cons]
      rw [List.append_assoc] at g
      exact g
theorem impl_EvsText_ev (l : List S35) (hl : l.length ≤ 1048576) (h : ∀ x ∈ l, in64 x) : Ev (fun k => impl_EvsText.f k l) (evsT l) := by
  have hs := evsT_size l h
  rw [← evsT_join] at hs ⊢
  rcases impl_EvsText_l0_ev l (by omega) h l.length 0 [] (by omega) (by simp) with g | g
  · exact g
  · rw [List.nil_append, List.drop_zero] at g
    omega
theorem spec_EvsText_j1_ev (l : List S35) (n : Nat) (out r : ByteArray) (hn : n < l.length) (hl : l.length ≤ 1099511627776) (h : in64 l[n]) (ho : out.size ≤ 4611686018427387904) (g : Ev (fun k => spec_EvsText.l0 k l (out ++ tellV l[n]) ((n + 1 : Nat) : Int)) r) : Ev (fun k => spec_EvsText.j1 k l out (n : Int)) r := by
  have h1 := letE_size l[n].f0
  have h2 := itoaB_size l[n].f1 h.1.1 h.1.2
  have h3 := itoaB_size l[n].f2 h.2.1 h.2.2
  refine Ev.step (fun k => by simp only [spec_EvsText.j1]; rw [if_pos (by omega), if_pos (by omega), rdE l n hn, l1Letter_is, Option.bind_some, if_pos (by omega), w_succ (by omega)]) ?_
  refine Ev.bind (l14Dec_ev _ h.1.1 h.1.2) (Ev.pos (by rw [ByteArray.size_append]; omega) ?_)
  unfold tellV at g
  by_cases c : l[n].f2 = 0
  · rw [if_pos c] at g
    refine Ev.pos c ?_
    rw [ByteArray.append_assoc]
    exact g
  · rw [if_neg c] at g
    refine Ev.neg c (Ev.pos (by rw [ByteArray.size_append, ByteArray.size_append]; omega) (Ev.bind (l14Dec_ev _ h.2.1 h.2.2) (Ev.pos (by rw [ByteArray.size_append, ByteArray.size_append, ByteArray.size_append, one61]; omega) ?_)))
    simp only [ByteArray.append_assoc] at g ⊢
    exact g
theorem spec_EvsText_l0_ev (l : List S35) (hl : l.length ≤ 1099511627776) (h : ∀ x ∈ l, in64 x) : ∀ (d n : Nat) (out : ByteArray), n + d = l.length → 0 < n → out.size ≤ 49 * n → Ev (fun k => spec_EvsText.l0 k l out (n : Int)) (out ++ sufE ((l.drop n).map tellV)) := by
  intro d
  induction d with
  | zero =>
    intro n out hn hp ho
    rw [List.drop_of_length_le (by omega), List.map_nil, sufE, show out ++ (⟨#[]⟩ : ByteArray) = out from ByteArray.append_empty]
    exact Ev.last (fun k => by simp only [spec_EvsText.l0]; rw [if_neg (by omega)])
  | succ d ih =>
    intro n out hn hp ho
    have hx := h l[n] (List.getElem_mem _)
    have e : l.drop n = l[n] :: l.drop (n + 1) := List.drop_eq_getElem_cons (by omega)
    have hz := tellV_size _ hx
    have g := ih (n + 1) ((out ++ (⟨#[32]⟩ : ByteArray)) ++ tellV l[n]) (by omega) (by omega) (by rw [ByteArray.size_append, ByteArray.size_append, one32]; omega)
    refine Ev.step (fun k => by simp only [spec_EvsText.l0]; rw [if_pos (by omega), if_pos (by omega), if_pos (by omega)]) ?_
    refine spec_EvsText_j1_ev l n _ _ (by omega) hl hx (by rw [ByteArray.size_append, one32]; omega) (Ev.val g ?_)
    rw [e, List.map_cons, sufE]
    simp only [ByteArray.append_assoc]
theorem spec_EvsText_ev (l : List S35) (hl : l.length ≤ 1048576) (h : ∀ x ∈ l, in64 x) : Ev (fun k => spec_EvsText.f k l) (evsT l) := by
  unfold spec_EvsText.f
  cases hl0 : l with
  | nil => exact Ev.last (fun k => by simp only [spec_EvsText.l0]; rw [if_neg (by simp)]; rfl)
  | cons x r =>
    rw [← hl0]
    have hlen : l.length = r.length + 1 := by rw [hl0]; simp
    have hx : in64 l[0] := h _ (List.getElem_mem _)
    have e0 : l[0] = x := by simp [hl0]
    have g := spec_EvsText_l0_ev l (by omega) h r.length 1 ((⟨#[]⟩ : ByteArray) ++ tellV l[0]) (by omega) (by omega) (by rw [ByteArray.size_append]; have := tellV_size _ hx; show 0 + _ ≤ _; omega)
    refine Ev.step (fun k => by simp only [spec_EvsText.l0]; rw [if_pos (by omega), if_neg (by omega)]) ?_
    refine spec_EvsText_j1_ev l 0 _ _ (by omega) (by omega) hx (by show 0 ≤ _; omega) (Ev.val g ?_)
    rw [e0, hl0]
    show ((⟨#[]⟩ : ByteArray) ++ tellV x) ++ sufE (r.map tellV) = tellV x ++ sufE (r.map tellV)
    rw [show (⟨#[]⟩ : ByteArray) ++ tellV x = tellV x from ByteArray.empty_append]
def cutL : List UInt8 → List (List UInt8)
  | [] => [[]]
  | c :: r => if c = 32 then [] :: cutL r else match cutL r with
    | [] => [[c]]
    | h :: t => (c :: h) :: t
def joinL : List (List UInt8) → List UInt8
  | [] => []
  | w :: ws => w ++ ws.flatMap (fun x => 32 :: x)
theorem cutL_ne (l : List UInt8) : cutL l ≠ [] := by
  cases l with
  | nil => simp [cutL]
  | cons c r =>
    rw [cutL]
    split
    · simp
    · split <;> simp
theorem cutL_cons (c : UInt8) (r : List UInt8) (h : c ≠ 32) : ∃ w t, cutL r = w :: t ∧ cutL (c :: r) = (c :: w) :: t := by
  cases e : cutL r with
  | nil => exact absurd e (cutL_ne r)
  | cons w t => exact ⟨w, t, rfl, by rw [cutL, if_neg h, e]⟩
theorem join_cut : ∀ l : List UInt8, joinL (cutL l) = l
  | [] => rfl
  | c :: r => by
    have ih := join_cut r
    by_cases h : c = 32
    · subst h
      rw [cutL, if_pos rfl]
      cases e : cutL r with
      | nil => exact absurd e (cutL_ne r)
      | cons w t =>
        rw [e] at ih
        simp only [joinL] at ih ⊢
        rw [List.flatMap_cons, List.nil_append, List.cons_append, ih]
    · obtain ⟨w, t, e1, e2⟩ := cutL_cons c r h
      rw [e1] at ih
      rw [e2]
      simp only [joinL, List.cons_append] at ih ⊢
      rw [ih]
theorem cut_word : ∀ (w r : List UInt8), (∀ c ∈ w, c ≠ 32) → cutL (w ++ 32 :: r) = w :: cutL r
  | [], r, _ => by rw [List.nil_append, cutL, if_pos rfl]
  | c :: w, r, h => by
    have ih := cut_word w r (fun d hd => h d (by simp [hd]))
    rw [List.cons_append, cutL, if_neg (h c (by simp)), ih]
theorem cut_one : ∀ (w : List UInt8), (∀ c ∈ w, c ≠ 32) → cutL w = [w]
  | [], _ => rfl
  | c :: w, h => by
    have ih := cut_one w (fun d hd => h d (by simp [hd]))
    rw [cutL, if_neg (h c (by simp)), ih]
theorem cut_join : ∀ (ws : List (List UInt8)), ws ≠ [] → (∀ w ∈ ws, ∀ c ∈ w, c ≠ 32) → cutL (joinL ws) = ws
  | [], h, _ => absurd rfl h
  | [w], _, h => by
    simp only [joinL, List.flatMap_nil, List.append_nil]
    exact cut_one w (h w (by simp))
  | w :: v :: ws, _, h => by
    have ih := cut_join (v :: ws) (by simp) (fun x hx => h x (by simp [hx]))
    simp only [joinL, List.flatMap_cons, List.cons_append] at ih ⊢
    rw [cut_word w _ (h w (by simp)), ih]
theorem cutL_len : ∀ l : List UInt8, (cutL l).length ≤ l.length + 1
  | [] => Nat.le_refl _
  | c :: r => by
    have ih := cutL_len r
    by_cases h : c = 32
    · rw [cutL, if_pos h, List.length_cons, List.length_cons]; omega
    obtain ⟨w, t, e1, e2⟩ := cutL_cons c r h
    rw [e1] at ih
    rw [e2, List.length_cons, List.length_cons]
    rw [List.length_cons] at ih
    omega
def mkB (l : List UInt8) : ByteArray := ⟨l.toArray⟩
theorem mkB_data (s : ByteArray) : mkB s.data.toList = s := by
  cases s
  rfl
theorem extract_mk (s : ByteArray) (a b : Nat) : s.extract a b = mkB ((s.data.toList.drop a).take (b - a)) := Lib.extract_eq s a b
theorem size_data (s : ByteArray) : s.size = s.data.toList.length := by rw [Array.length_toList]; rfl
theorem split_is : ∀ (n : Nat) (s : ByteArray), s.size ≤ n → Lib.splitB (⟨#[32]⟩ : ByteArray) 0 (Lib.countB s ⟨#[32]⟩) s = (cutL s.data.toList).map mkB := by
  have one : (⟨#[32]⟩ : ByteArray).data.toList = [32] := rfl
  have miss : ∀ s : ByteArray, Lib.indexB s (⟨#[32]⟩ : ByteArray) = -1 → Lib.splitB (⟨#[32]⟩ : ByteArray) 0 (Lib.countB s ⟨#[32]⟩) s = (cutL s.data.toList).map mkB := by
    intro s h
    have hi : Lib.indexByte s.data.toList 32 = -1 := by rw [← Lib.index_one]; exact h
    have hn : ∀ c ∈ s.data.toList, c ≠ 32 := by
      intro c hc e
      obtain ⟨k, hk, hk2⟩ := List.getElem_of_mem hc
      exact Lib.indexByte_none hi k (by rw [List.getElem?_eq_getElem hk, hk2, e])
    rw [Lib.splitB_miss _ _ _ _ h, cut_one _ hn]
    simp [mkB_data]
  intro n
  induction n with
  | zero =>
    intro s hs
    refine miss s ?_
    rcases Lib.indexB_cases s (⟨#[32]⟩ : ByteArray) with h | ⟨i, _, h⟩
    · exact h
    · have : (⟨#[32]⟩ : ByteArray).size = 1 := rfl
      omega
  | succ n ih =>
    intro s hs
    rcases Lib.indexB_cases s (⟨#[32]⟩ : ByteArray) with h | ⟨i, h, hr⟩
    · exact miss s h
    have sz : (⟨#[32]⟩ : ByteArray).size = 1 := rfl
    have hi : Lib.indexByte s.data.toList 32 = i := by rw [← Lib.index_one]; exact h
    obtain ⟨g1, g2⟩ := Lib.indexByte_some hi
    have hl := size_data s
    have he : s.data.toList = s.data.toList.take i ++ 32 :: s.data.toList.drop (i + 1) := by
      have hlt : i < s.data.toList.length := by omega
      rw [List.getElem?_eq_getElem hlt] at g1
      rw [← Option.some.inj g1, List.getElem_cons_drop, List.take_append_drop]
    have hw : ∀ c ∈ s.data.toList.take i, c ≠ 32 := by
      intro c hc e
      obtain ⟨k, hk, hk2⟩ := List.getElem_of_mem hc
      rw [List.length_take] at hk
      refine g2 k (by omega) ?_
      rw [List.getElem?_eq_getElem (by omega), ← e, ← hk2, List.getElem_take]
    have hx : (s.extract (i + 1) s.size).data.toList = s.data.toList.drop (i + 1) := by
      rw [extract_mk]
      show List.take _ _ = _
      exact List.take_of_length_le (by rw [List.length_drop]; omega)
    have hz : (s.extract (i + 1) s.size).size ≤ n := by rw [ByteArray.size_extract]; omega
    have ih2 := ih (s.extract (i + 1) s.size) hz
    rw [Lib.countB_hit s ⟨#[32]⟩ i (by decide) h, Nat.add_comm, Lib.splitB_hit _ _ _ _ _ h, sz, ih2, hx]
    conv => rhs; rw [he, cut_word _ _ hw]
    rw [List.map_cons, Nat.add_zero, extract_mk, List.drop_zero, Nat.sub_zero]
theorem bt_is (s : ByteArray) (n : Nat) (h : n < s.data.toList.length) : bt s (n : Int) = ((s.data.toList[n]).toNat : Int) := by
  have hs : (n : Int).toNat < s.size := by rw [Int.toNat_natCast, size_data]; exact h
  unfold bt
  rw [dif_pos hs]
  rfl
theorem l14Cut_l0_ev (s : ByteArray) (hs : s.size ≤ 1000000) : ∀ (d n : Nat) (fr : Nat) (out : List ByteArray), n + d = s.size → fr ≤ n → out.length ≤ n →
    Ev (fun k => spec_l14Cut.l0 k s 32 out (fr : Int) (n : Int)) (out ++ (match cutL (s.data.toList.drop n) with | [] => [] | h :: t => mkB ((s.data.toList.drop fr).take (n - fr) ++ h) :: t.map mkB)) := by
  have hl := size_data s
  intro d
  induction d with
  | zero =>
    intro n fr out hn hf ho
    have e : n = s.size := by omega
    rw [List.drop_of_length_le (i := n) (by omega)]
    simp only [cutL, List.map_nil, List.append_nil]
    have wn : wrap64 ((n : Int) + 1) = ((n + 1 : Nat) : Int) := w_succ (by omega)
    refine Ev.step (fun k => by simp only [spec_l14Cut.l0]; rw [if_pos (by omega), if_pos (by omega), if_pos (by omega), if_pos (by omega), if_pos (by omega), wn, Int.toNat_natCast, Int.toNat_natCast, extract_mk]) ?_
    exact Ev.last (fun k => by simp only [spec_l14Cut.l0]; rw [if_neg (by omega)])
  | succ d ih =>
    intro n fr out hn hf ho
    have hlt : n < s.data.toList.length := by omega
    have wn : wrap64 ((n : Int) + 1) = ((n + 1 : Nat) : Int) := w_succ (by omega)
    rw [List.drop_eq_getElem_cons hlt]
    by_cases hc : s.data.toList[n] = 32
    · have hb : bt s (n : Int) = 32 := by rw [bt_is s n hlt, hc]; rfl
      rw [cutL, if_pos hc]
      have next := ih (n + 1) (n + 1) (out ++ [mkB ((s.data.toList.drop fr).take (n - fr))]) (by omega) (by omega) (by rw [List.length_append, List.length_singleton]; omega)
      refine Ev.step (fun k => by simp only [spec_l14Cut.l0]; rw [if_pos (by omega), if_neg (by omega), if_pos (by omega), if_pos (by omega), hb, if_pos rfl, if_pos (by omega), if_pos (by omega), if_pos (by omega), wn, Int.toNat_natCast, Int.toNat_natCast, extract_mk]) (Ev.val next ?_)
      simp only [Nat.sub_self, List.take_zero, List.nil_append, List.append_nil, List.append_assoc, List.singleton_append]
      cases e : cutL (s.data.toList.drop (n + 1)) with
      | nil => exact absurd e (cutL_ne _)
      | cons h t => rfl
    have hb : ¬ bt s (n : Int) = 32 := by
      rw [bt_is s n hlt]
      intro e
      exact hc (UInt8.toNat_inj.1 (by have : (s.data.toList[n]).toNat = 32 := by omega
                                      rw [this]; rfl))
    obtain ⟨w, t, e1, e2⟩ := cutL_cons s.data.toList[n] (s.data.toList.drop (n + 1)) hc
    rw [e2]
    have next := ih (n + 1) fr out (by omega) (by omega) (by omega)
    rw [e1] at next
    refine Ev.step (fun k => by simp only [spec_l14Cut.l0]; rw [if_pos (by omega), if_neg (by omega), if_pos (by omega), if_pos (by omega), if_neg hb, wn]) (Ev.val next ?_)
    have e3 : (s.data.toList.drop fr).take (n + 1 - fr) = (s.data.toList.drop fr).take (n - fr) ++ [s.data.toList[n]] := by
      rw [show n + 1 - fr = (n - fr) + 1 by omega, List.take_succ_eq_append_getElem (by rw [List.length_drop]; omega), List.getElem_drop]
      simp only [show fr + (n - fr) = n by omega]
    simp only [e3, List.append_assoc, List.singleton_append]
theorem l14Cut_ev (s : ByteArray) (hs : s.size ≤ 1000000) : Ev (fun k => spec_l14Cut.f k s 32) ((cutL s.data.toList).map mkB) := by
  have := l14Cut_l0_ev s hs s.size 0 0 [] (by omega) (by omega) (by simp)
  unfold spec_l14Cut.f
  refine Ev.val this ?_
  rw [List.drop_zero]
  cases e : cutL s.data.toList with
  | nil => exact absurd e (cutL_ne _)
  | cons h t => simp
def isDig (c : UInt8) : Prop := 48 ≤ c.toNat ∧ c.toNat ≤ 57
def stepV (a : Nat) (c : UInt8) : Nat := a * 10 + (c.toNat - 48)
theorem stepV_is (a x : Nat) (c : UInt8) (h : c.toNat = 48 + x) : stepV a c = a * 10 + x := by
  unfold stepV
  omega
def valL (a : Nat) (l : List UInt8) : Nat := l.foldl stepV a
theorem valL_nil (a : Nat) : valL a [] = a := by unfold valL; rw [List.foldl_nil]
theorem valL_cons (a : Nat) (c : UInt8) (r : List UInt8) : valL a (c :: r) = valL (stepV a c) r := by unfold valL; rw [List.foldl_cons]
theorem dig_is {c : UInt8} (h : isDig c) : ∃ x : Nat, c.toNat = 48 + x ∧ x ≤ 9 := ⟨c.toNat - 48, by have := h.1; have := h.2; omega, by have := h.1; have := h.2; omega⟩
theorem valL_append (l m : List UInt8) (a : Nat) : valL a (l ++ m) = valL (valL a l) m := by unfold valL; rw [List.foldl_append]
theorem dig_of (d : Nat) (h : d < 10) : (UInt8.ofNat (48 + d)).toNat = 48 + d := by
  have : d = 0 ∨ d = 1 ∨ d = 2 ∨ d = 3 ∨ d = 4 ∨ d = 5 ∨ d = 6 ∨ d = 7 ∨ d = 8 ∨ d = 9 := by omega
  rcases this with rfl | rfl | rfl | rfl | rfl | rfl | rfl | rfl | rfl | rfl <;> rfl
theorem dec_dig (n : Nat) : ∀ c ∈ Lib.decDigits n, isDig c := by
  induction n using Nat.strongRecOn with
  | _ n ih =>
    intro c hc
    by_cases h : n < 10
    · rw [Lib.decDigits_one h, List.mem_singleton] at hc
      rw [hc]
      unfold isDig
      rw [dig_of n h]
      omega
    rw [Lib.decDigits, dif_neg h] at hc
    rcases List.mem_append.1 hc with hc | hc
    · exact ih (n / 10) (by omega) c hc
    rw [List.mem_singleton.1 hc]
    unfold isDig
    rw [dig_of _ (by omega)]
    omega
theorem val_dec (n : Nat) : valL 0 (Lib.decDigits n) = n := by
  induction n using Nat.strongRecOn with
  | _ n ih =>
    by_cases h : n < 10
    · rw [Lib.decDigits_one h, valL_cons, valL_nil, stepV_is 0 n _ (dig_of n h)]
      omega
    · rw [Lib.decDigits, dif_neg h, valL_append, ih (n / 10) (by omega), valL_cons, valL_nil, stepV_is _ (n % 10) _ (dig_of _ (by omega))]
      omega
theorem dec_ne (n : Nat) : Lib.decDigits n ≠ [] := by
  intro e
  have := Lib.decDigits_length n
  have := Lib.nDigits_pos n
  rw [e] at *
  simp at *
  omega
theorem dec_head (n : Nat) (h0 : n ≠ 0) : ∃ c r, Lib.decDigits n = c :: r ∧ c.toNat ≠ 48 := by
  induction n using Nat.strongRecOn with
  | _ n ih =>
    by_cases h : n < 10
    · exact ⟨_, [], Lib.decDigits_one h, by rw [dig_of n h]; omega⟩
    · obtain ⟨c, r, e, hc⟩ := ih (n / 10) (by omega) (by omega)
      exact ⟨c, _, by rw [Lib.decDigits, dif_neg h, e, List.cons_append], hc⟩
theorem valL_pos : ∀ (l : List UInt8) (a : Nat), a ≤ valL a l
  | [], a => by rw [valL_nil]; exact Nat.le_refl _
  | c :: l, a => by
    have := valL_pos l (stepV a c)
    have h2 : a ≤ stepV a c := by unfold stepV; omega
    rw [valL_cons]
    omega
theorem dec_val : ∀ (n : Nat) (l : List UInt8), l.length = n + 1 → (∀ c ∈ l, isDig c) → (∀ c r, l = c :: r → c.toNat = 48 → r = []) → Lib.decDigits (valL 0 l) = l := by
  intro n
  induction n with
  | zero =>
    intro l hl hd _
    match l, hl with
    | [c], _ =>
      obtain ⟨x, hx, h9⟩ := dig_is (hd c (by simp))
      rw [valL_cons, valL_nil, stepV_is 0 x c hx, Lib.decDigits_one (by omega)]
      congr 1
      apply UInt8.toNat_inj.1
      rw [dig_of _ (by omega)]
      omega
  | succ n ih =>
    intro l hl hd hz
    obtain ⟨l', c, rfl⟩ : ∃ l' c, l = l' ++ [c] := by
      rcases List.eq_nil_or_concat l with rfl | ⟨l', c, e⟩
      · simp at hl
      · exact ⟨l', c, by rw [e]; simp⟩
    have hl' : l'.length = n + 1 := by simp at hl; exact hl
    obtain ⟨x, hx, h9⟩ := dig_is (hd c (by simp))
    match l', hl' with
    | b :: r, hl' =>
      obtain ⟨y, hy, hy9⟩ := dig_is (hd b (by simp))
      have hb0 : b.toNat ≠ 48 := fun e => by have := hz b (r ++ [c]) (by simp) e; simp at this
      have ih2 := ih (b :: r) hl' (fun x hx => hd x (by simp only [List.mem_append]; exact .inl hx)) (fun x z e hx => by
        injection e with e1 e2
        rw [e1] at hb0
        exact absurd hx hb0)
      have hp : 1 ≤ valL 0 (b :: r) := by
        rw [valL_cons, stepV_is 0 y b hy]
        have := valL_pos r (0 * 10 + y)
        omega
      rw [valL_append, valL_cons, valL_nil, stepV_is _ x c hx]
      generalize valL 0 (b :: r) = v at *
      rw [Lib.decDigits, dif_neg (by omega), show (v * 10 + x) / 10 = v by omega, ih2]
      congr 2
      apply UInt8.toNat_inj.1
      rw [show (v * 10 + x) % 10 = x by omega, dig_of _ (by omega)]
      omega
open Classical in
noncomputable def digR (neg : Bool) (l : List UInt8) (a : Nat) : Int × Bool := if (∀ c ∈ l, isDig c) then (if neg = true then -(valL a l : Int) else (valL a l : Int), true) else (0, false)
theorem num_l0_ev (s : ByteArray) (neg : Bool) (hs : s.size ≤ 17) : ∀ (d n a : Nat), n + d = s.size → a < 10 ^ n → Ev (fun k => spec_l14Num.l0 k s neg (a : Int) (n : Int)) (digR neg (s.data.toList.drop n) a) := by
  have hl := size_data s
  have p17 : ∀ n, n ≤ 17 → (10 : Nat) ^ n ≤ 100000000000000000 := fun n hn => Nat.pow_le_pow_right (by omega) hn
  intro d
  induction d with
  | zero =>
    intro n a hn ha
    have := p17 n (by omega)
    rw [List.drop_of_length_le (by omega)]
    unfold digR
    rw [if_pos (fun c hc => by simp at hc), valL_nil]
    cases neg with
    | true =>
      have w : wrap64 (-(a : Int)) = -(a : Int) := w_small (by omega) (by omega)
      exact Ev.last (fun k => by simp only [spec_l14Num.l0]; rw [if_neg (by omega), if_pos trivial, if_pos trivial, w])
    | false => exact Ev.last (fun k => by simp only [spec_l14Num.l0]; rw [if_neg (by omega), if_neg (by decide), if_neg (by decide)])
  | succ d ih =>
    intro n a hn ha
    have hlt : n < s.data.toList.length := by omega
    have hb := bt_is s n hlt
    have h17 := p17 (n + 1) (by omega)
    rw [Nat.pow_succ] at h17
    rw [List.drop_eq_getElem_cons hlt]
    generalize hc : s.data.toList[n] = c at *
    by_cases hd : isDig c
    rotate_left
    · have : digR neg (c :: s.data.toList.drop (n + 1)) a = (0, false) := by
        unfold digR
        rw [if_neg (fun q => hd (q c (by simp)))]
      rw [this]
      unfold isDig at hd
      by_cases h48 : c.toNat < 48
      · exact Ev.last (fun k => by simp only [spec_l14Num.l0]; rw [if_pos (by omega), if_pos (by omega), hb, if_pos (by omega)])
      · exact Ev.last (fun k => by simp only [spec_l14Num.l0]; rw [if_pos (by omega), if_pos (by omega), hb, if_neg (by omega), if_pos (by omega)])
    obtain ⟨x, hx, h9⟩ := dig_is hd
    have e1 : wrap64 ((a : Int) * 10) = ((a * 10 : Nat) : Int) := by rw [w_small (by omega) (by omega)]; omega
    have e2 : (((c.toNat : Int) - 48) % 256) = (x : Int) := by omega
    have e3 : wrap64 (((a * 10 : Nat) : Int) + (x : Int)) = ((stepV a c : Nat) : Int) := by rw [stepV_is a x c hx, w_small (by omega) (by omega)]; omega
    have q1 : (n : Int) < (s.size : Int) := by omega
    have q2 : (0 : Int) ≤ (n : Int) := by omega
    have q3 : ¬ ((c.toNat : Int) < 48) := by omega
    have q4 : ¬ ((c.toNat : Int) > 57) := by omega
    have q5 := w_succ (n := n) (by omega)
    have q6 : stepV a c < 10 ^ (n + 1) := by rw [stepV_is a x c hx, Nat.pow_succ]; omega
    have st : ∀ k, spec_l14Num.l0 (k + 1) s neg (a : Int) (n : Int) = spec_l14Num.l0 k s neg ((stepV a c : Nat) : Int) ((n + 1 : Nat) : Int) := fun k => by
      simp only [spec_l14Num.l0]
      rw [if_pos q1, if_pos q2, hb, if_neg q3, if_neg q4, e1, e2, e3, q5]
    refine Ev.step st (Ev.val (ih (n + 1) (stepV a c) (by omega) q6) ?_)
    unfold digR
    by_cases hr : ∀ x ∈ s.data.toList.drop (n + 1), isDig x
    · rw [if_pos hr, if_pos (fun x hx => by rcases List.mem_cons.1 hx with rfl | hx; exact hd; exact hr x hx), valL_cons]
    · rw [if_neg hr, if_neg (fun q => hr (fun x hx => q x (by simp [hx])))]
noncomputable def bodyR (neg : Bool) (l : List UInt8) : Int × Bool := if l = [] ∨ 17 < l.length ∨ (l.head? = some 48 ∧ (1 < l.length ∨ neg = true)) then (0, false) else digR neg l 0
theorem num_j1_ev (s : ByteArray) (neg : Bool) : Ev (fun k => spec_l14Num.j1 k s neg) (bodyR neg s.data.toList) := by
  have hl := size_data s
  have bad : Ev (fun k => spec_l14Num.j2 k s neg true) (0, false) := Ev.last (fun k => by simp only [spec_l14Num.j2]; rw [if_pos trivial])
  have good : s.size ≤ 17 → Ev (fun k => spec_l14Num.j2 k s neg false) (digR neg s.data.toList 0) := fun h => Ev.step (fun k => by simp only [spec_l14Num.j2]; rw [if_neg (by decide)]; rfl) (num_l0_ev s neg h s.size 0 0 (by omega) (by simp))
  unfold bodyR
  by_cases h0 : s.data.toList = []
  · rw [if_pos (.inl h0)]
    refine Ev.step (fun k => by simp only [spec_l14Num.j1]; rw [if_pos (by rw [hl, h0]; rfl)]) bad
  by_cases h17 : 17 < s.data.toList.length
  · rw [if_pos (.inr (.inl h17))]
    have : s.data.toList.length ≠ 0 := fun e => h0 (List.length_eq_zero_iff.1 e)
    refine Ev.step (fun k => by simp only [spec_l14Num.j1]; rw [if_neg (by omega), if_pos (by omega)]) bad
  have hp : s.data.toList.length ≠ 0 := fun e => h0 (List.length_eq_zero_iff.1 e)
  have hb : bt s 0 = ((s.data.toList[0]'(by omega)).toNat : Int) := bt_is s 0 (by omega)
  have hh : s.data.toList.head? = some (s.data.toList[0]'(by omega)) := by rw [List.head?_eq_getElem?, List.getElem?_eq_getElem (by omega)]
  by_cases h48 : (s.data.toList[0]'(by omega)).toNat = 48
  · have e48 : s.data.toList[0]'(by omega) = 48 := UInt8.toNat_inj.1 (by rw [h48]; rfl)
    by_cases h1 : 1 < s.data.toList.length
    · rw [if_pos (.inr (.inr ⟨by rw [hh, e48], .inl h1⟩))]
      refine Ev.step (fun k => by simp only [spec_l14Num.j1]; rw [if_neg (by omega), if_neg (by omega), if_pos (by omega), hb, if_pos (by omega), if_pos (by omega)]) bad
    cases neg with
    | true =>
      rw [if_pos (.inr (.inr ⟨by rw [hh, e48], .inr rfl⟩))]
      refine Ev.step (fun k => by simp only [spec_l14Num.j1]; rw [if_neg (by omega), if_neg (by omega), if_pos (by omega), hb, if_pos (by omega), if_neg (by omega)]) bad
    | false =>
      rw [if_neg (by rintro (q | q | ⟨_, q | q⟩); exact h0 q; omega; exact h1 q; cases q)]
      refine Ev.step (fun k => by simp only [spec_l14Num.j1]; rw [if_neg (by omega), if_neg (by omega), if_pos (by omega), hb, if_pos (by omega), if_neg (by omega)]) (good (by omega))
  · rw [if_neg (by rintro (q | q | ⟨q, _⟩); exact h0 q; omega; rw [hh] at q; exact h48 (by rw [Option.some.inj q]; rfl))]
    refine Ev.step (fun k => by simp only [spec_l14Num.j1]; rw [if_neg (by omega), if_neg (by omega), if_pos (by omega), hb, if_neg (by omega)]) (good (by omega))
noncomputable def numS (l : List UInt8) : Int × Bool := match l with
  | [] => (0, false)
  | c :: r => if c = 45 then bodyR true r else bodyR false (c :: r)
theorem l14Num_ev (s : ByteArray) (hs : s.size ≤ 9223372036854775806) : Ev (fun k => spec_l14Num.f k s) (numS s.data.toList) := by
  have hl := size_data s
  unfold spec_l14Num.f
  cases e : s.data.toList with
  | nil =>
    have h0 : s.size = 0 := by rw [hl, e]; rfl
    refine Ev.neg (by omega) (Ev.step (fun k => by simp only [spec_l14Num.j0]; rw [if_neg (by decide)]) (Ev.val (num_j1_ev s false) ?_))
    rw [e]
    unfold bodyR
    rw [if_pos (.inl rfl)]
    rfl
  | cons c r =>
    have h0 : s.size = r.length + 1 := by rw [hl, e]; rfl
    have hb : bt s 0 = (c.toNat : Int) := by
      rw [show (0 : Int) = ((0 : Nat) : Int) from rfl, bt_is s 0 (by rw [e]; simp)]
      simp only [e, List.getElem_cons_zero]
    refine Ev.pos (by omega) (Ev.pos (by omega) ?_)
    rw [hb]
    simp only [numS]
    by_cases hc : c = 45
    · have : (((c.toNat : Int)) == 45) = true := by rw [hc]; rfl
      rw [this, if_pos hc]
      refine Ev.step (fun k => by simp only [spec_l14Num.j0]; rw [if_pos trivial, if_pos (by omega)]) (Ev.val (num_j1_ev (s.extract 1 s.size) true) ?_)
      congr 1
      rw [extract_mk]
      show List.take _ (List.drop 1 s.data.toList) = r
      rw [e, List.drop_succ_cons, List.drop_zero, List.take_of_length_le (by omega)]
    have : (((c.toNat : Int)) == 45) = false := by
      refine beq_eq_false_iff_ne.2 (fun q => hc (UInt8.toNat_inj.1 ?_))
      have : c.toNat = 45 := by omega
      rw [this]
      rfl
    rw [this, if_neg hc]
    refine Ev.step (fun k => by simp only [spec_l14Num.j0]; rw [if_neg (by decide)]) (Ev.val (num_j1_ev s false) ?_)
    rw [e]
theorem num_dec (n : Nat) (h : n < 100000000000000000) : numS (Lib.decDigits n) = ((n : Int), true) := by
  have hd := dec_dig n
  have hlen : (Lib.decDigits n).length ≤ 17 := by
    rw [Lib.decDigits_length]
    by_cases h0 : n < 10
    · rw [Lib.nDigits_small h0]; omega
    refine Decidable.byContradiction (fun q => ?_)
    have key : ∀ k u : Nat, k + 1 ≤ Lib.nDigits u → 1 ≤ u → 10 ^ k ≤ u := by
      intro k
      induction k with
      | zero => intro u _ hu; simpa using hu
      | succ k ih =>
        intro u hk hu
        have hu10 : ¬ u < 10 := fun hq => by rw [Lib.nDigits_small hq] at hk; omega
        rw [Lib.nDigits_big hu10] at hk
        have := ih (u / 10) (by omega) (by omega)
        rw [Nat.pow_succ]
        omega
    have := key 17 n (by omega) (by omega)
    have e : (10 : Nat) ^ 17 = 100000000000000000 := by decide
    omega
  have key : bodyR false (Lib.decDigits n) = ((n : Int), true) := by
    unfold bodyR
    rw [if_neg]
    · unfold digR
      rw [if_pos hd, val_dec]
      rfl
    rintro (q | q | ⟨q, q2 | q2⟩)
    · exact dec_ne n q
    · omega
    · by_cases h0 : n = 0
      · subst h0
        rw [Lib.decDigits_one (by omega)] at q2
        simp at q2
      obtain ⟨c, r, e, hc⟩ := dec_head n h0
      rw [e] at q
      simp only [List.head?_cons, Option.some.injEq] at q
      rw [q] at hc
      exact hc rfl
    · cases q2
  cases e : Lib.decDigits n with
  | nil => exact absurd e (dec_ne n)
  | cons c r =>
    have hc := hd c (by rw [e]; simp)
    unfold isDig at hc
    simp only [numS]
    rw [if_neg (fun q => by rw [q] at hc; have : (45 : UInt8).toNat = 45 := rfl; omega), ← e]
    exact key
theorem num_sound {l : List UInt8} {n : Int} (h : numS l = (n, true)) (h0 : 0 ≤ n) : l = Lib.decDigits n.toNat := by
  have body : ∀ (neg : Bool) (m : List UInt8), bodyR neg m = (n, true) → neg = false ∧ m = Lib.decDigits n.toNat := by
    intro neg m hm
    unfold bodyR at hm
    by_cases c : m = [] ∨ 17 < m.length ∨ (m.head? = some 48 ∧ (1 < m.length ∨ neg = true))
    · rw [if_pos c] at hm
      cases (Prod.mk.inj hm).2
    rw [if_neg c] at hm
    unfold digR at hm
    by_cases hd : ∀ x ∈ m, isDig x
    rotate_left
    · rw [if_neg hd] at hm
      cases (Prod.mk.inj hm).2
    rw [if_pos hd] at hm
    have hv := (Prod.mk.inj hm).1
    have hne : m ≠ [] := fun e => c (.inl e)
    have hz : ∀ x r, m = x :: r → x.toNat = 48 → r = [] := by
      intro x r e hx
      refine Decidable.byContradiction (fun hr => c (.inr (.inr ⟨?_, .inl ?_⟩)))
      · rw [e]
        simp only [List.head?_cons, Option.some.injEq]
        exact UInt8.toNat_inj.1 (by rw [hx]; rfl)
      · rw [e, List.length_cons]
        have : r.length ≠ 0 := fun q => hr (List.length_eq_zero_iff.1 q)
        omega
    have hl : m.length ≠ 0 := fun q => hne (List.length_eq_zero_iff.1 q)
    have hdv := dec_val (m.length - 1) m (by omega) hd hz
    cases neg with
    | false =>
      rw [if_neg (by decide)] at hv
      refine ⟨rfl, ?_⟩
      rw [← hv, Int.toNat_natCast, hdv]
    | true =>
      exfalso
      rw [if_pos rfl] at hv
      have hv0 : valL 0 m = 0 := by omega
      rw [hv0, Lib.decDigits_one (by omega)] at hdv
      refine c (.inr (.inr ⟨?_, .inr rfl⟩))
      rw [← hdv]
      rfl
  cases l with
  | nil => cases (Prod.mk.inj h).2
  | cons c r =>
    simp only [numS] at h
    by_cases hc : c = 45
    · rw [if_pos hc] at h
      cases (body true r h).1
    · rw [if_neg hc] at h
      exact (body false _ h).2
theorem parse_dec : ∀ (l : List UInt8) (a : Nat), (∀ c ∈ l, isDig c) → valL a l < 1844674407370955162 → Lib.parseUint10 a l = .ok (valL a l)
  | [], a, _, _ => by rw [Lib.parseUint10, valL_nil]
  | c :: l, a, h, hv => by
    obtain ⟨x, hx, h9⟩ := dig_is (h c (by simp))
    have hp := valL_pos l (stepV a c)
    rw [valL_cons] at hv
    have hs := stepV_is a x c hx
    have hc := h c (by simp)
    unfold isDig at hc
    rw [Lib.parseUint10, if_pos hc, if_neg (by omega), if_neg (by omega), valL_cons]
    exact parse_dec l _ (fun d hd => h d (by simp [hd])) hv
theorem atoi_dec (n : Nat) (h : n < 1000000000000000) : Lib.atoiAll (Lib.decDigits n) = .ok (n : Int) := by
  have hd := dec_dig n
  have hp := parse_dec (Lib.decDigits n) 0 hd (by rw [val_dec]; omega)
  rw [val_dec] at hp
  cases e : Lib.decDigits n with
  | nil => exact absurd e (dec_ne n)
  | cons c r =>
    have hc := hd c (by rw [e]; simp)
    unfold isDig at hc
    rw [e] at hp
    unfold Lib.atoiAll
    simp only
    rw [if_neg (by omega)]
    unfold Lib.parseMag
    rw [if_neg (by simp), hp]
    simp only
    rw [if_neg (by omega), if_neg (by omega), if_neg (by omega)]
theorem index61 (r : List UInt8) : ∀ l : List UInt8, (∀ c ∈ l, c ≠ 61) → Lib.index (l ++ 61 :: r) [61] = (l.length : Int)
  | [], _ => by simp [Lib.index]
  | c :: l, h => by
    have ih := index61 r l (fun d hd => h d (by simp [hd]))
    have hc : ¬ (61 : UInt8) = c := fun e => h c (by simp) e.symm
    simp only [List.cons_append, Lib.index, List.isPrefixOf, ih]
    rw [if_neg (by simp [hc]), if_neg (by simp)]
    simp
theorem index61_none : ∀ l : List UInt8, (∀ c ∈ l, c ≠ 61) → Lib.index l [61] = -1
  | [], _ => by simp [Lib.index]
  | c :: l, h => by
    have ih := index61_none l (fun d hd => h d (by simp [hd]))
    have hc : ¬ (61 : UInt8) = c := fun e => h c (by simp) e.symm
    simp only [Lib.index, List.isPrefixOf, ih]
    rw [if_neg (by simp [hc]), if_pos (by simp)]
theorem cut61 (l r : List UInt8) (h : ∀ c ∈ l, c ≠ 61) : Lib.cut (l ++ 61 :: r) [61] = (l, r, true) := by
  unfold Lib.cut
  rw [index61 r l h, if_pos (by omega), Int.toNat_natCast]
  simp
theorem cut61_none (l : List UInt8) (h : ∀ c ∈ l, c ≠ 61) : Lib.cut l [61] = (l, [], false) := by
  unfold Lib.cut
  rw [index61_none l h, if_neg (by omega)]
theorem dig_ne61 (n : Nat) : ∀ c ∈ Lib.decDigits n, c ≠ 61 := by
  intro c hc e
  have := (dec_dig n c hc).2
  rw [e] at this
  exact absurd this (by decide)
theorem evOk_parts {x : S35} (h : evOkB x = true) : 0 ≤ x.f0 ∧ x.f0 ≤ 4 ∧ 1 ≤ x.f1 ∧ x.f1 ≤ 1000 ∧ 0 ≤ x.f2 ∧ x.f2 ≤ 100 := by
  simp only [evOkB, Bool.and_eq_true, decide_eq_true_eq] at h
  omega
def ltrB (a : Int) : UInt8 := UInt8.ofNat (97 + a.toNat)
def tellL (x : S35) : List UInt8 := ltrB x.f0 :: (Lib.decDigits x.f1.toNat ++ if x.f2 = 0 then [] else 61 :: Lib.decDigits x.f2.toNat)
theorem letE_data (a : Int) (h0 : 0 ≤ a) (h1 : a ≤ 4) : (letE a).data.toList = [ltrB a] := by
  have : a = 0 ∨ a = 1 ∨ a = 2 ∨ a = 3 ∨ a = 4 := by omega
  rcases this with rfl | rfl | rfl | rfl | rfl <;> decide +kernel
theorem itoaB_data (n : Int) (h : 0 ≤ n) : (itoaB n).data.toList = Lib.decDigits n.toNat := by rw [itoaB_dec n h]
theorem tellV_data {x : S35} (h : evOkB x = true) : (tellV x).data.toList = tellL x := by
  obtain ⟨h0, h1, h2, h3, h4, h5⟩ := evOk_parts h
  unfold tellV tellL
  by_cases c : x.f2 = 0
  · rw [if_pos c, if_pos c, ByteArray.data_append, Array.toList_append, letE_data _ h0 h1, itoaB_data _ (by omega), List.append_nil]
    rfl
  rw [if_neg c, if_neg c]
  simp only [ByteArray.data_append, Array.toList_append]
  rw [letE_data _ h0 h1, itoaB_data _ (by omega), itoaB_data _ (by omega)]
  rfl
theorem atV_dec (n : Nat) (h : n < 1000000000000000) : atV ⟨(Lib.decDigits n).toArray⟩ = (n : Int) := by
  unfold atV
  rw [show (⟨(Lib.decDigits n).toArray⟩ : ByteArray).data.toList = Lib.decDigits n from rfl, atoi_dec n h]
theorem untell_tell {x : S35} (h : evOkB x = true) : untellV (tellV x) = (x.f0, x.f1, x.f2) := by
  obtain ⟨h0, h1, h2, h3, h4, h5⟩ := evOk_parts h
  have hd := tellV_data h
  have hne : ¬ (tellV x).toList = (⟨#[]⟩ : ByteArray).toList := by
    intro e
    rw [ByteArray.toList_eq, ByteArray.toList_eq, hd] at e
    cases e
  have hrest : ((tellV x).extract 1 (tellV x).size).data.toList = Lib.decDigits x.f1.toNat ++ if x.f2 = 0 then [] else 61 :: Lib.decDigits x.f2.toNat := by
    rw [extract_mk, hd, size_data, hd]
    show ((tellL x).drop 1).take ((tellL x).length - 1) = _
    unfold tellL
    rw [List.drop_succ_cons, List.drop_zero, List.length_cons, Nat.add_sub_cancel, List.take_length]
  have hl : letV (tellV x) = x.f0 := by
    unfold letV
    rw [hd]
    show Lib.indexByte _ (ltrB x.f0) = x.f0
    generalize x.f0 = a at *
    have : a = 0 ∨ a = 1 ∨ a = 2 ∨ a = 3 ∨ a = 4 := by omega
    rcases this with rfl | rfl | rfl | rfl | rfl <;> decide +kernel
  unfold untellV
  rw [if_neg hne, hl]
  unfold cutP
  rw [hrest]
  by_cases c : x.f2 = 0
  · rw [if_pos c, List.append_nil, cut61_none _ (dig_ne61 _)]
    show (x.f0, atV ⟨(Lib.decDigits x.f1.toNat).toArray⟩, atV ⟨#[]⟩) = _
    rw [atV_dec _ (by omega), c, Int.toNat_of_nonneg (by omega)]
    rfl
  · rw [if_neg c, cut61 _ _ (dig_ne61 _)]
    show (x.f0, atV ⟨(Lib.decDigits x.f1.toNat).toArray⟩, atV ⟨(Lib.decDigits x.f2.toNat).toArray⟩) = _
    rw [atV_dec _ (by omega), atV_dec _ (by omega), Int.toNat_of_nonneg (by omega), Int.toNat_of_nonneg (by omega)]
theorem indexByte_ge (c : UInt8) : ∀ l : List UInt8, Lib.indexByte l c = -1 ∨ (0 ≤ Lib.indexByte l c ∧ Lib.indexByte l c < l.length)
  | [] => .inl rfl
  | b :: l => by
    have ih := indexByte_ge c l
    unfold Lib.indexByte
    by_cases h : (b == c) = true
    · rw [if_pos h]; right; simp
    rw [if_neg h]
    rcases ih with e | e
    · left; rw [e]; rfl
    right
    have : ¬ (Lib.indexByte l c == -1) = true := by simp; omega
    rw [if_neg this, List.length_cons]
    omega
theorem l14Find_l0_ev (s : ByteArray) (hs : s.size ≤ 1000000) (c : UInt8) : ∀ (d n : Nat), n + d = s.size → Ev (fun k => spec_l14Find.l0 k s (c.toNat : Int) (n : Int)) (if Lib.indexByte (s.data.toList.drop n) c = -1 then -1 else Lib.indexByte (s.data.toList.drop n) c + n) := by
  have hsz := size_data s
  intro d
  induction d with
  | zero =>
    intro n hn
    rw [List.drop_of_length_le (by omega)]
    exact Ev.last (fun k => by simp only [spec_l14Find.l0]; rw [if_neg (by omega)]; rfl)
  | succ d ih =>
    intro n hn
    have hlt : n < s.data.toList.length := by omega
    have hb := bt_is s n hlt
    have e : s.data.toList.drop n = s.data.toList[n] :: s.data.toList.drop (n + 1) := List.drop_eq_getElem_cons hlt
    rw [e]
    generalize s.data.toList[n] = b at *
    have g := ih (n + 1) (by omega)
    generalize s.data.toList.drop (n + 1) = r at *
    by_cases hc : b = c
    · subst hc
      refine Ev.last (fun k => ?_)
      simp only [spec_l14Find.l0]
      rw [if_pos (by omega), if_pos (by omega), hb, if_pos rfl]
      unfold Lib.indexByte
      simp
    have hne : ¬ (b.toNat : Int) = (c.toNat : Int) := fun q => hc (UInt8.toNat_inj.1 (by omega))
    refine Ev.step (f := fun k => spec_l14Find.l0 k s (c.toNat : Int) ((n + 1 : Nat) : Int)) (fun k => by simp only [spec_l14Find.l0]; rw [if_pos (by omega), if_pos (by omega), hb, if_neg hne, w_succ (by omega)]) (Ev.val g ?_)
    have hi := indexByte_ge c r
    have hbc : ¬ (b == c) = true := by simpa using hc
    rw [show Lib.indexByte (b :: r) c = if (b == c) = true then 0 else if (Lib.indexByte r c == -1) = true then -1 else Lib.indexByte r c + 1 from by rw [Lib.indexByte], if_neg hbc]
    by_cases h1 : Lib.indexByte r c = -1
    · simp [h1]
    have e1 : ¬ (Lib.indexByte r c == -1) = true := by simp [h1]
    have e2 : ¬ Lib.indexByte r c + 1 = -1 := by rcases hi with q | q <;> omega
    simp only [if_neg h1, if_neg e1, if_neg e2]
    omega
theorem l14Find_ev (s : ByteArray) (hs : s.size ≤ 1000000) : Ev (fun k => spec_l14Find.f k s 61) (Lib.indexByte s.data.toList 61) := by
  have h := l14Find_l0_ev s hs 61 s.size 0 (by omega)
  rw [List.drop_zero] at h
  refine Ev.val h ?_
  by_cases c : Lib.indexByte s.data.toList 61 = -1
  · rw [if_pos c, c]
  · rw [if_neg c]; omega
noncomputable def oneL : List UInt8 → Int × Int × Int × Bool
  | [] => (0, 0, 0, false)
  | c :: r => if r = [] ∨ c.toNat < 97 ∨ 101 < c.toNat then (0, 0, 0, false) else
    if Lib.indexByte r 61 = -1 then ((c.toNat : Int) - 97, (numS r).1, 0, (numS r).2)
    else ((c.toNat : Int) - 97, (numS (r.take (Lib.indexByte r 61).toNat)).1, (numS (r.drop ((Lib.indexByte r 61).toNat + 1))).1, (numS (r.drop ((Lib.indexByte r 61).toNat + 1))).2 && (numS (r.drop ((Lib.indexByte r 61).toNat + 1))).1 != 0 && (numS (r.take (Lib.indexByte r 61).toNat)).2)
theorem oneL_bad (c : UInt8) (r : List UInt8) (h : r = [] ∨ c.toNat < 97 ∨ 101 < c.toNat) : oneL (c :: r) = (0, 0, 0, false) := by
  show (if _ then _ else _) = _
  rw [if_pos h]
theorem oneL_no (c : UInt8) (r : List UInt8) (h : ¬ (r = [] ∨ c.toNat < 97 ∨ 101 < c.toNat)) (q : Lib.indexByte r 61 = -1) : oneL (c :: r) = ((c.toNat : Int) - 97, (numS r).1, 0, (numS r).2) := by
  show (if _ then _ else _) = _
  rw [if_neg h, if_pos q]
theorem oneL_yes (c : UInt8) (r : List UInt8) (h : ¬ (r = [] ∨ c.toNat < 97 ∨ 101 < c.toNat)) (p : Nat) (q : Lib.indexByte r 61 = (p : Int)) : oneL (c :: r) = ((c.toNat : Int) - 97, (numS (r.take p)).1, (numS (r.drop (p + 1))).1, (numS (r.drop (p + 1))).2 && (numS (r.drop (p + 1))).1 != 0 && (numS (r.take p)).2) := by
  show (if _ then _ else _) = _
  rw [if_neg h, if_neg (by omega), q, Int.toNat_natCast]
theorem tail_ev (s : ByteArray) (c : UInt8) (r : List UInt8) (a v : Int) (ok : Bool) (hs : s.size ≤ 1000000) (hl : s.data.toList = c :: r) : Ev (fun k => spec_l1One.tail k s a v ok) (a, (numS r).1, v, ok && (numS r).2) := by
  have hsz := size_data s
  rw [hl, List.length_cons] at hsz
  have hx1 : (s.extract 1 s.size).data.toList = r := by
    rw [extract_mk, hl]
    show (((c :: r).drop 1).take (s.size - 1)) = r
    rw [List.drop_succ_cons, List.drop_zero, List.take_of_length_le (by omega)]
  have hn := l14Num_ev (s.extract 1 s.size) (by rw [ByteArray.size_extract]; omega)
  rw [hx1] at hn
  unfold spec_l1One.tail
  exact Ev.pos (by omega) (Ev.bind hn (Ev.now _))
theorem one_ev (s : ByteArray) (hs : s.size ≤ 1000000) : Ev (fun k => spec_l1One.f k s) (oneL s.data.toList) := by
  have hsz := size_data s
  unfold spec_l1One.f
  cases hl : s.data.toList with
  | nil =>
    rw [hl] at hsz
    exact Ev.pos (.inl (by rw [List.length_nil] at hsz; omega)) (Ev.now _)
  | cons c r =>
    rw [hl, List.length_cons] at hsz
    have hb : bt s 0 = (c.toNat : Int) := by
      have := bt_is s 0 (by rw [hl]; simp)
      simp only [hl] at this
      exact this
    by_cases h2 : r = [] ∨ c.toNat < 97 ∨ 101 < c.toNat
    · rw [oneL_bad c r h2]
      refine Ev.pos ?_ (Ev.now _)
      rcases h2 with rfl | h2 | h2
      · left; rw [List.length_nil] at hsz; omega
      · right; left; omega
      · right; right; omega
    have hr : r ≠ [] := fun e => h2 (.inl e)
    have hr1 : 1 ≤ r.length := Nat.pos_of_ne_zero (fun e => hr (List.length_eq_zero_iff.1 e))
    have h97 : 97 ≤ c.toNat ∧ c.toNat ≤ 101 := by omega
    refine Ev.neg (by omega) ?_
    have hne : ¬ (c == 61) = true := by
      intro q
      rw [beq_iff_eq] at q
      rw [q] at h97
      exact absurd h97 (by decide)
    have hi : Lib.indexByte (c :: r) 61 = if (Lib.indexByte r 61 == -1) = true then -1 else Lib.indexByte r 61 + 1 := by rw [Lib.indexByte, if_neg hne]
    have hf := l14Find_ev s hs
    rw [hl, hi] at hf
    by_cases h61 : Lib.indexByte r 61 = -1
    · rw [oneL_no c r h2 h61, ← hb]
      rw [if_pos (by simp [h61])] at hf
      refine Ev.bind hf (Ev.pos (by omega) (Ev.val (tail_ev s c r (bt s 0 - 97) 0 true hs hl) ?_))
      rw [Bool.true_and]
    rw [if_neg (by simp [h61])] at hf
    obtain ⟨q, hq, hql⟩ : ∃ q : Nat, Lib.indexByte r 61 = (q : Int) ∧ q < r.length := by
      rcases indexByte_ge 61 r with e | ⟨e1, e2⟩
      · exact absurd e h61
      · exact ⟨(Lib.indexByte r 61).toNat, by omega, by omega⟩
    rw [hq] at hf
    rw [oneL_yes c r h2 q hq, ← hb]
    have w1 : wrap64 ((q : Int) + 1 + 1) = ((q + 2 : Nat) : Int) := by rw [w_small (by omega) (by omega)]; omega
    have hx2 : (s.extract (wrap64 ((q : Int) + 1 + 1)).toNat s.size).data.toList = r.drop (q + 1) := by
      rw [w1, Int.toNat_natCast, extract_mk, hl]
      show (((c :: r).drop (q + 2)).take (s.size - (q + 2))) = _
      rw [List.drop_succ_cons, List.take_of_length_le (by rw [List.length_drop]; omega)]
    have hx3 : (s.extract 0 ((q : Int) + 1).toNat).data.toList = c :: r.take q := by
      rw [show ((q : Int) + 1).toNat = q + 1 by omega, extract_mk, hl]
      show (((c :: r).drop 0).take (q + 1 - 0)) = _
      rw [List.drop_zero, Nat.sub_zero, List.take_succ_cons]
    have hz2 : (s.extract (wrap64 ((q : Int) + 1 + 1)).toNat s.size).size ≤ 9223372036854775806 := by
      rw [size_data, hx2, List.length_drop]
      omega
    have hn := l14Num_ev (s.extract (wrap64 ((q : Int) + 1 + 1)).toNat s.size) hz2
    rw [hx2] at hn
    refine Ev.bind hf (Ev.neg (by omega) (Ev.pos ⟨by rw [w1]; omega, by rw [w1]; omega⟩ (Ev.bind hn (Ev.pos (by omega) ?_))))
    generalize numS (r.drop (q + 1)) = u
    exact tail_ev (s.extract 0 ((q : Int) + 1).toNat) c (r.take q) (bt s 0 - 97) u.1 (u.2 && u.1 != 0) (by rw [size_data, hx3, List.length_cons, List.length_take]; omega) hx3
theorem ltrB_nat (a : Int) (h0 : 0 ≤ a) (h1 : a ≤ 4) : ((ltrB a).toNat : Int) = 97 + a := by
  have : a = 0 ∨ a = 1 ∨ a = 2 ∨ a = 3 ∨ a = 4 := by omega
  rcases this with rfl | rfl | rfl | rfl | rfl <;> decide
theorem indexByte_none61 (l : List UInt8) (h : ∀ c ∈ l, c ≠ 61) : Lib.indexByte l 61 = -1 := by
  rw [← Lib.index_one]
  exact index61_none l h
theorem indexByte_at61 (l r : List UInt8) (h : ∀ c ∈ l, c ≠ 61) : Lib.indexByte (l ++ 61 :: r) 61 = (l.length : Int) := by
  rw [← Lib.index_one]
  exact index61 r l h
theorem oneL_tell {x : S35} (h : evOkB x = true) : oneL (tellL x) = (x.f0, x.f1, x.f2, true) := by
  obtain ⟨h0, h1, h2, h3, h4, h5⟩ := evOk_parts h
  have hl := ltrB_nat x.f0 h0 h1
  have hd := dec_ne x.f1.toNat
  unfold tellL
  by_cases c : x.f2 = 0
  · rw [if_pos c, List.append_nil, oneL_no _ _ (by rintro (q | q | q); exact hd q; omega; omega) (indexByte_none61 _ (dig_ne61 _)), num_dec _ (by omega), c]
    simp only [Prod.mk.injEq, and_true]
    omega
  have n2 := num_dec x.f2.toNat (by omega)
  have n1 := num_dec x.f1.toNat (by omega)
  rw [if_neg c, oneL_yes _ _ (by rintro (q | q | q); simp at q; omega; omega) _ (indexByte_at61 _ _ (dig_ne61 _)), List.take_left, show ((Lib.decDigits x.f1.toNat ++ 61 :: Lib.decDigits x.f2.toNat).drop ((Lib.decDigits x.f1.toNat).length + 1)) = Lib.decDigits x.f2.toNat from by rw [List.drop_length_add_append]; rfl, n1, n2]
  have e : (((x.f2.toNat : Nat) : Int) != 0) = true := by rw [bne_iff_ne]; omega
  rw [e]
  simp only [Bool.and_self, Prod.mk.injEq, and_true]
  omega
theorem oneL_sound {w : List UInt8} {x : S35} (h : oneL w = (x.f0, x.f1, x.f2, true)) (hx : evOkB x = true) : w = tellL x := by
  obtain ⟨h0, h1, h2, h3, h4, h5⟩ := evOk_parts hx
  cases w with
  | nil => simp [oneL] at h
  | cons c r =>
    by_cases b : r = [] ∨ c.toNat < 97 ∨ 101 < c.toNat
    · rw [oneL_bad c r b] at h
      simp at h
    have hl := ltrB_nat x.f0 h0 h1
    unfold tellL
    by_cases q : Lib.indexByte r 61 = -1
    · rw [oneL_no c r b q] at h
      simp only [Prod.mk.injEq] at h
      obtain ⟨e0, e1, e2, e3⟩ := h
      have hc : c = ltrB x.f0 := UInt8.toNat_inj.1 (by omega)
      have hn : numS r = (x.f1, true) := Prod.ext e1 e3
      rw [if_pos e2.symm, List.append_nil, hc]
      congr 1
      exact num_sound hn (by omega)
    obtain ⟨p, hp, hpl⟩ : ∃ p : Nat, Lib.indexByte r 61 = (p : Int) ∧ p < r.length := by
      rcases indexByte_ge 61 r with e | ⟨e1, e2⟩
      · exact absurd e q
      · exact ⟨(Lib.indexByte r 61).toNat, by omega, by omega⟩
    rw [oneL_yes c r b p hp] at h
    simp only [Prod.mk.injEq, Bool.and_eq_true, bne_iff_ne, ne_eq] at h
    obtain ⟨e0, e1, e2, ⟨e3, e4⟩, e5⟩ := h
    have hc : c = ltrB x.f0 := UInt8.toNat_inj.1 (by omega)
    have n1 : numS (r.take p) = (x.f1, true) := Prod.ext e1 e5
    have n2 : numS (r.drop (p + 1)) = (x.f2, true) := Prod.ext e2 e3
    have m1 := num_sound n1 (by omega)
    have m2 := num_sound n2 (by omega)
    rw [if_neg (by rw [e2] at e4; exact e4), ← m1, ← m2, hc]
    congr 1
    obtain ⟨g1, _⟩ := Lib.indexByte_some hp
    rw [List.getElem?_eq_getElem hpl] at g1
    rw [← Option.some.inj g1, List.getElem_cons_drop, List.take_append_drop]
theorem ba_inj {a b : ByteArray} (h : a.toList = b.toList) : a = b := by
  rw [ByteArray.toList_eq, ByteArray.toList_eq] at h
  cases a
  cases b
  simp only [Array.toList_inj] at h
  rw [h]
theorem ba_data {a b : ByteArray} (h : a.data.toList = b.data.toList) : a = b := ba_inj (by rw [ByteArray.toList_eq, ByteArray.toList_eq, h])
theorem rdW (ws : List ByteArray) (n : Nat) (h : n < ws.length) : rdOf ByteArray.empty ws (n : Int) = ws[n] := by
  unfold rdOf
  rw [Int.toNat_natCast, List.getD_eq_getElem?_getD, List.getElem?_eq_getElem h]
  rfl
def untE (w : ByteArray) : S35 := ⟨(untellV w).1, (untellV w).2.1, (untellV w).2.2⟩
theorem evsGo_all : ∀ (l : List S35) (p : Int), evsGo p l = true → ∀ x ∈ l, evOkB x = true
  | [], _, _, x, hx => by simp at hx
  | y :: l, p, h, x, hx => by
    simp only [evsGo, Bool.and_eq_true] at h
    rcases List.mem_cons.1 hx with rfl | hx
    · exact h.1.1
    · exact evsGo_all l _ h.2 x hx
theorem evsOk_all {l : List S35} (h : evsOkB l = true) : ∀ x ∈ l, evOkB x = true := by
  simp only [evsOkB, Bool.and_eq_true] at h
  exact evsGo_all l 0 h.1
theorem evsOk_len {l : List S35} (h : evsOkB l = true) : l.length ≤ 24 := by
  simp only [evsOkB, Bool.and_eq_true, decide_eq_true_eq] at h
  exact h.2
theorem ok_in64 {x : S35} (h : evOkB x = true) : in64 x := by
  have := evOk_parts h
  unfold in64
  omega
theorem sufE_data : ∀ ws : List ByteArray, (sufE ws).data.toList = (ws.map (fun w => w.data.toList)).flatMap (fun x => 32 :: x)
  | [] => rfl
  | w :: ws => by
    rw [sufE, ByteArray.data_append, Array.toList_append, ByteArray.data_append, Array.toList_append, sufE_data ws, List.map_cons, List.flatMap_cons]
    rfl
theorem tell_map {l : List S35} (h : ∀ x ∈ l, evOkB x = true) : (l.map tellV).map (fun w => w.data.toList) = l.map tellL := by
  rw [List.map_map]
  exact List.map_congr_left (fun x hx => tellV_data (h x hx))
theorem evsT_data {l : List S35} (h : ∀ x ∈ l, evOkB x = true) : (evsT l).data.toList = joinL (l.map tellL) := by
  cases l with
  | nil => rfl
  | cons x l =>
    rw [evsT, ByteArray.data_append, Array.toList_append, sufE_data, tell_map (fun y hy => h y (by simp [hy])), tellV_data (h x (by simp)), List.map_cons]
    rfl
theorem tellL_ne32 {x : S35} (h : evOkB x = true) : ∀ c ∈ tellL x, c ≠ 32 := by
  obtain ⟨h0, h1, _⟩ := evOk_parts h
  have hl := ltrB_nat x.f0 h0 h1
  have hd : ∀ n, ∀ c ∈ Lib.decDigits n, c ≠ 32 := by
    intro n c hc e
    have := (dec_dig n c hc).1
    rw [e] at this
    exact absurd this (by decide)
  intro c hc
  unfold tellL at hc
  rcases List.mem_cons.1 hc with rfl | hc
  · intro e
    rw [e] at hl
    have : ((32 : UInt8).toNat : Int) = 32 := rfl
    omega
  rcases List.mem_append.1 hc with hc | hc
  · exact hd _ c hc
  by_cases q : x.f2 = 0
  · rw [if_pos q] at hc; simp at hc
  rw [if_neg q] at hc
  rcases List.mem_cons.1 hc with rfl | hc
  · decide
  · exact hd _ c hc
theorem cut_evs {l : List S35} (hne : l ≠ []) (h : ∀ x ∈ l, evOkB x = true) : (cutL (evsT l).data.toList).map mkB = l.map tellV := by
  rw [evsT_data h, cut_join _ (by simpa using hne) (by
    intro w hw
    obtain ⟨x, hx, rfl⟩ := List.mem_map.1 hw
    exact tellL_ne32 (h x hx)), List.map_map]
  refine List.map_congr_left (fun x hx => ?_)
  show mkB (tellL x) = tellV x
  rw [← tellV_data (h x hx), mkB_data]
theorem untell_is (w : ByteArray) (h : w.size ≤ 1000000) : impl_untell.f w = some (untellV w) := by
  unfold impl_untell.f
  rw [if_pos h]
theorem impl_l0_ev (s : ByteArray) (ws : List ByteArray) (hl : ws.length ≤ 1000) (hz : ∀ w ∈ ws, w.size ≤ 1000000) : ∀ (d n : Nat) (out : List S35) (r : List S35 × Bool), n + d = ws.length → out.length ≤ n → Ev (fun k => impl_EvsRead.j1 k s (out ++ (ws.drop n).map untE)) r → Ev (fun k => impl_EvsRead.l0 k s out ws (ws.length : Int) (n : Int)) r := by
  intro d
  induction d with
  | zero =>
    intro n out r hn ho h
    rw [List.drop_of_length_le (by omega), List.map_nil, List.append_nil] at h
    exact Ev.step (fun k => by simp only [impl_EvsRead.l0]; rw [if_neg (by omega)]) h
  | succ d ih =>
    intro n out r hn ho h
    have hlt : n < ws.length := by omega
    have hw := untell_is ws[n] (hz _ (List.getElem_mem hlt))
    have st : ∀ k, impl_EvsRead.l0 (k + 1) s out ws (ws.length : Int) (n : Int) = impl_EvsRead.l0 k s (out ++ [untE ws[n]]) ws (ws.length : Int) ((n + 1 : Nat) : Int) := fun k => by
      simp only [impl_EvsRead.l0]
      rw [if_pos (by omega), if_pos (by omega), if_pos (by omega), rdW ws n hlt, hw, Option.bind_some, w_succ (by omega)]
      simp only [if_pos (show out.length < 5864062014805 by omega)]
      rfl
    refine Ev.step st (ih (n + 1) _ r (by omega) (by rw [List.length_append, List.length_singleton]; omega) ?_)
    rw [List.drop_eq_getElem_cons hlt, List.map_cons] at h
    rw [List.append_assoc]
    exact h
noncomputable def readW : List ByteArray → List S35 → List S35 × Bool
  | [], out => if evsOkB out = true then (out, true) else ([], false)
  | w :: ws, out => if (oneL w.data.toList).2.2.2 = true then readW ws (out ++ [⟨(oneL w.data.toList).1, (oneL w.data.toList).2.1, (oneL w.data.toList).2.2.1⟩]) else ([], false)
theorem spec_l0_ev (ws : List ByteArray) (hl : ws.length ≤ 1000) (hz : ∀ w ∈ ws, w.size ≤ 1000000) : ∀ (d n : Nat) (out : List S35), n + d = ws.length → out.length ≤ n → Ev (fun k => spec_EvsRead.l0 k out ws (n : Int)) (readW (ws.drop n) out) := by
  intro d
  induction d with
  | zero =>
    intro n out hn ho
    rw [List.drop_of_length_le (by omega)]
    refine Ev.step (f := fun k => (spec_EvsOk.f k out).bind fun t116 => (if t116 = true then (some (out, true)) else (some (([] : List S35), false)))) (fun k => by simp only [spec_EvsRead.l0]; rw [if_neg (by omega)]) (Ev.bind (spec_EvsOk_ev out (by omega)) ?_)
    unfold readW
    by_cases q : evsOkB out = true
    · exact Ev.val (Ev.pos q (Ev.now _)) (if_pos q).symm
    · exact Ev.val (Ev.neg q (Ev.now _)) (if_neg q).symm
  | succ d ih =>
    intro n out hn ho
    have hlt : n < ws.length := by omega
    have h1 := one_ev ws[n] (hz _ (List.getElem_mem hlt))
    rw [List.drop_eq_getElem_cons hlt, readW]
    have st : ∀ k, spec_EvsRead.l0 (k + 1) out ws (n : Int) = (spec_l1One.f k ws[n]).bind fun bt108 => (if bt108.2.2.2 = true then spec_EvsRead.l0 k (out ++ [(⟨bt108.1, bt108.2.1, bt108.2.2.1⟩ : S35)]) ws ((n + 1 : Nat) : Int) else (some (([] : List S35), false))) := fun k => by
      simp only [spec_EvsRead.l0]
      rw [if_pos (by omega), if_pos (by omega), rdW ws n hlt, w_succ (by omega)]
      simp only [if_pos (show out.length < 5864062014805 by omega)]
    refine Ev.step st (Ev.bind h1 ?_)
    generalize oneL ws[n].data.toList = u
    by_cases q : u.2.2.2 = true
    · rw [if_pos q]
      exact Ev.pos q (ih (n + 1) _ (by omega) (by rw [List.length_append, List.length_singleton]; omega))
    · rw [if_neg q]
      exact Ev.neg q (Ev.now _)
theorem readW_tell : ∀ (l out : List S35), (∀ x ∈ l, evOkB x = true) → readW (l.map tellV) out = if evsOkB (out ++ l) = true then (out ++ l, true) else ([], false)
  | [], out, _ => by rw [List.map_nil, readW, List.append_nil]
  | x :: l, out, h => by
    have hx := h x (by simp)
    have e := oneL_tell hx
    rw [List.map_cons, readW, tellV_data hx, e, if_pos rfl, readW_tell l _ (fun y hy => h y (by simp [hy])), List.append_assoc]
    rfl
theorem readW_sound : ∀ (ws : List ByteArray) (out l : List S35), readW ws out = (l, true) → evsOkB l = true ∧ ∃ es, l = out ++ es ∧ ws = es.map tellV
  | [], out, l, h => by
    rw [readW] at h
    by_cases q : evsOkB out = true
    · rw [if_pos q] at h
      obtain rfl := (Prod.mk.inj h).1
      exact ⟨q, [], by simp, rfl⟩
    · rw [if_neg q] at h
      cases (Prod.mk.inj h).2
  | w :: ws, out, l, h => by
    rw [readW] at h
    by_cases q : (oneL w.data.toList).2.2.2 = true
    · rw [if_pos q] at h
      obtain ⟨h1, es, h2, h3⟩ := readW_sound ws _ l h
      refine ⟨h1, _ :: es, by rw [h2, List.append_assoc]; rfl, ?_⟩
      have hok := evsOk_all h1 ⟨(oneL w.data.toList).1, (oneL w.data.toList).2.1, (oneL w.data.toList).2.2.1⟩ (by rw [h2]; simp)
      have e : oneL w.data.toList = ((oneL w.data.toList).1, (oneL w.data.toList).2.1, (oneL w.data.toList).2.2.1, true) := by rw [← q]
      have hs := oneL_sound (x := ⟨(oneL w.data.toList).1, (oneL w.data.toList).2.1, (oneL w.data.toList).2.2.1⟩) e hok
      rw [List.map_cons, ← h3]
      congr 1
      exact ba_data (by rw [tellV_data hok, ← hs])
    · rw [if_neg q] at h
      cases (Prod.mk.inj h).2
theorem readW_no : ∀ (ws : List ByteArray) (out : List S35), (readW ws out).2 = false → readW ws out = ([], false)
  | [], out, h => by
    rw [readW] at h ⊢
    by_cases q : evsOkB out = true
    · rw [if_pos q] at h; cases h
    · rw [if_neg q]
  | w :: ws, out, h => by
    rw [readW] at h ⊢
    by_cases q : (oneL w.data.toList).2.2.2 = true
    · rw [if_pos q] at h ⊢; exact readW_no ws _ h
    · rw [if_neg q]
theorem untE_tell {x : S35} (h : evOkB x = true) : untE (tellV x) = x := by
  unfold untE
  rw [untell_tell h]
theorem j1_ev (s : ByteArray) (l : List S35) (hl : l.length ≤ 1000) : Ev (fun k => impl_EvsRead.j1 k s l) (if evsOkB l = true ∧ evsT l = s then (l, true) else ([], false)) := by
  refine Ev.step (f := fun k => (impl_EvsOk.f k l).bind fun t111 => (if t111 = true then ((impl_EvsText.f k l).bind fun t112 => (if t112.toList = s.toList then (some (l, true)) else (some (([] : List S35), false)))) else (some (([] : List S35), false)))) (fun k => by simp only [impl_EvsRead.j1]) (Ev.bind (impl_EvsOk_ev l (by omega)) ?_)
  by_cases q : evsOkB l = true
  · have ht := impl_EvsText_ev l (by omega) (fun x hx => ok_in64 (evsOk_all q x hx))
    by_cases e : evsT l = s
    · rw [if_pos ⟨q, e⟩]
      exact Ev.pos q (Ev.bind ht (Ev.pos (by rw [e]) (Ev.now _)))
    · rw [if_neg (fun c => e c.2)]
      exact Ev.pos q (Ev.bind ht (Ev.neg (fun c => e (ba_inj c)) (Ev.now _)))
  · rw [if_neg (fun c => q c.1)]
    exact Ev.neg q (Ev.now _)
theorem evs_read (s : ByteArray) (hs : s.size ≤ 1048576) : ∃ (l : List S35) (b : Bool), Ev (fun k => spec_EvsRead.f k s) (l, b) ∧ Ev (fun k => impl_EvsRead.f k s) (l, b) ∧ (b = true → evsOkB l = true ∧ evsT l = s) ∧ l.length ≤ 24 ∧ (∀ y, evsOkB y = true → evsT y = s → s.size ≤ 300 → b = true ∧ l = y) := by
  unfold spec_EvsRead.f impl_EvsRead.f
  by_cases h0 : s.toList = ([] : List UInt8)
  · have he : s = ⟨#[]⟩ := ba_inj (by rw [h0, ByteArray.toList_eq])
    subst he
    have j := j1_ev ⟨#[]⟩ [] (by simp)
    rw [if_pos ⟨rfl, rfl⟩] at j
    refine ⟨[], true, Ev.bind (Ev.now _) (Ev.pos h0 (Ev.now _)), Ev.neg (by decide) (Ev.pos h0 j), fun _ => ⟨rfl, rfl⟩, by simp, ?_⟩
    intro y hy he _
    refine ⟨rfl, ?_⟩
    cases y with
    | nil => rfl
    | cons x y =>
      have h2 := evsT_data (evsOk_all hy)
      rw [he] at h2
      simp only [List.map_cons, joinL, tellL, List.cons_append] at h2
      cases h2
  by_cases c300 : (s.size : Int) > 300
  · exact ⟨[], false, Ev.bind (Ev.now _) (Ev.neg h0 (Ev.pos c300 (Ev.now _))), Ev.pos c300 (Ev.now _), fun h => (by cases h), by simp, fun y _ _ h => by omega⟩
  have hlen : ((cutL s.data.toList).map mkB).length ≤ 301 := by
    have := cutL_len s.data.toList
    rw [← size_data] at this
    rw [List.length_map]
    omega
  have hz : ∀ w ∈ (cutL s.data.toList).map mkB, w.size ≤ 1000000 := by
    intro w hw
    rw [← split_is _ s (Nat.le_refl _)] at hw
    have := splitW_size s w hw
    omega
  have hcut := l14Cut_ev s (by omega)
  have hsplit : Ev (fun _ => strings_Split.f s (⟨#[32]⟩ : ByteArray)) ((cutL s.data.toList).map mkB) := by
    refine Ev.one (fun _ => ?_)
    unfold strings_Split.f
    rw [if_pos ⟨by omega, rfl⟩]
    unfold splitW
    rw [split_is _ s (Nat.le_refl _)]
  have hsp := spec_l0_ev _ (by omega) hz ((cutL s.data.toList).map mkB).length 0 [] (by omega) (by simp)
  rw [List.drop_zero] at hsp
  have him := impl_l0_ev s _ (by omega) hz ((cutL s.data.toList).map mkB).length 0 [] _ (by omega) (by simp) (j1_ev s ([] ++ (((cutL s.data.toList).map mkB).drop 0).map untE) (by rw [List.nil_append, List.drop_zero, List.length_map]; omega))
  rw [List.drop_zero, List.nil_append] at him
  have hne : (cutL s.data.toList).map mkB ≠ [] := by simpa using cutL_ne s.data.toList
  generalize hW : (cutL s.data.toList).map mkB = ws at *
  have hSp : ∀ r, readW ws [] = r → Ev (fun k => (some ([] : List S35)).bind fun y101 => (if s.toList = ([] : List UInt8) then (some (y101, true)) else (if (s.size : Int) > 300 then (some (([] : List S35), false)) else ((spec_l14Cut.f k s 32).bind fun t104 => (spec_EvsRead.l0 k y101 t104 0))))) r := fun r hr => Ev.bind (Ev.now _) (Ev.neg h0 (Ev.neg c300 (Ev.bind hcut (Ev.val hsp hr))))
  have hIm : ∀ r, (if evsOkB (ws.map untE) = true ∧ evsT (ws.map untE) = s then (ws.map untE, true) else (([] : List S35), false)) = r → Ev (fun k => if (s.size : Int) > 300 then (some (([] : List S35), false)) else (if s.toList = ([] : List UInt8) then (impl_EvsRead.j1 k s ([] : List S35)) else ((strings_Split.f s (⟨#[32]⟩ : ByteArray)).bind fun t101 => (impl_EvsRead.l0 k s ([] : List S35) t101 (t101.length : Int) 0)))) r := fun r hr => Ev.neg c300 (Ev.neg h0 (Ev.bind hsplit (Ev.val him hr)))
  by_cases E : ∃ y, evsOkB y = true ∧ evsT y = s
  rotate_left
  · refine ⟨[], false, hSp _ ?_, hIm _ ?_, fun h => (by cases h), by simp, fun y h1 h2 _ => absurd ⟨y, h1, h2⟩ E⟩
    · refine readW_no ws [] ?_
      cases hb : (readW ws []).2 with
      | false => rfl
      | true =>
        exfalso
        obtain ⟨g1, es, g2, g3⟩ := readW_sound ws [] (readW ws []).1 (by rw [← hb])
        rw [List.nil_append] at g2
        rw [g2] at g1
        have hall := evsOk_all g1
        refine E ⟨es, g1, ba_data ?_⟩
        rw [evsT_data hall]
        have h3 : (cutL s.data.toList).map mkB = (es.map tellL).map mkB := by
          rw [hW, g3, List.map_map]
          refine List.map_congr_left (fun x hx => ?_)
          show tellV x = mkB (tellL x)
          rw [← tellV_data (hall x hx), mkB_data]
        have h4 : cutL s.data.toList = es.map tellL := by
          have := congrArg (List.map (fun w : ByteArray => w.data.toList)) h3
          rw [List.map_map, List.map_map] at this
          have id_ : ((fun w : ByteArray => w.data.toList) ∘ mkB) = id := by funext l; simp [mkB]
          rw [id_, List.map_id, List.map_id] at this
          exact this
        rw [← h4, join_cut]
    · rw [if_neg (fun c => E ⟨_, c.1, c.2⟩)]
  obtain ⟨y, hy, hyt⟩ := E
  have hall := evsOk_all hy
  have hyn : y ≠ [] := by
    rintro rfl
    refine h0 ?_
    rw [← hyt, ByteArray.toList_eq]
    rfl
  have hw : ws = y.map tellV := by rw [← hW, ← hyt]; exact cut_evs hyn hall
  have hu : ws.map untE = y := by
    rw [hw, List.map_map]
    conv => rhs; rw [← List.map_id y]
    exact List.map_congr_left (fun x hx => untE_tell (hall x hx))
  refine ⟨y, true, hSp _ ?_, hIm _ ?_, fun _ => ⟨hy, hyt⟩, evsOk_len hy, ?_⟩
  · rw [hw, readW_tell y [] hall, List.nil_append, if_pos hy]
  · rw [hu, if_pos ⟨hy, hyt⟩]
  intro z hz1 hz2 _
  refine ⟨rfl, ?_⟩
  have hzn : z ≠ [] := by
    rintro rfl
    refine h0 ?_
    rw [← hz2, ByteArray.toList_eq]
    rfl
  have hw2 : ws = z.map tellV := by rw [← hW, ← hz2]; exact cut_evs hzn (evsOk_all hz1)
  have : ws.map untE = z := by
    rw [hw2, List.map_map]
    conv => rhs; rw [← List.map_id z]
    exact List.map_congr_left (fun x hx => untE_tell (evsOk_all hz1 x hx))
  rw [← hu, this]
end Go.Proofs.YtiebpoikhijbgaaDoor.M
namespace Go.Proofs.YtiebpoikhijbgaaDoor.M
set_option linter.unusedVariables false
set_option linter.unusedSimpArgs false
open Go.RowKit Go.Proofs.YtiebpoikhijbgaaDoorW.PrintWords Go.Proofs.YtiebpoikhijbgaaDoorW.PrintLast

theorem ofInt_small (a : Nat) (ha : a < 9223372036854775808) : (BitVec.ofInt 64 (a : Int)).toNat = a := by
  rw [BitVec.ofInt_natCast, BitVec.toNat_ofNat]; exact Nat.mod_eq_of_lt (by omega)
theorem xor_small (a b : Nat) (ha : a < 9223372036854775808) (hb : b < 9223372036854775808) : bits .xor .i64 (a : Int) (b : Int) = ((a ^^^ b : Nat) : Int) := by
  have hx : a ^^^ b < 2 ^ 63 := Nat.xor_lt_two_pow (by omega) (by omega)
  show IntKind.i64.wrap ((BitVec.ofInt 64 (a : Int) ^^^ BitVec.ofInt 64 (b : Int)).toNat : Int) = _
  rw [BitVec.toNat_xor, ofInt_small a ha, ofInt_small b hb, IntKind.wrap_i64]
  omega
theorem mix_small (x : Int) (h0 : 0 ≤ x) (h1 : x ≤ 1099511627776) : 0 ≤ bits .xor .i64 x (wrap64 (Int.tdiv x 64)) := by
  obtain ⟨n, rfl⟩ := Int.eq_ofNat_of_zero_le h0
  have : Int.tdiv (n : Int) 64 = ((n / 64 : Nat) : Int) := rfl
  rw [this, w_small (by omega) (by omega), xor_small n (n / 64) (by omega) (by omega)]
  exact Int.natCast_nonneg _

def Bytes (bs : List Int) : Prop := bs.length ≤ 2000 ∧ ∀ x ∈ bs, 0 ≤ x ∧ x ≤ 255
theorem bytes_of {l : List Int} (h : ∀ x ∈ l, (Lit.int .u8 x).wf = true) : ∀ x ∈ l, 0 ≤ x ∧ x ≤ 255 := by
  intro x hx
  have := h x hx
  simp only [Lit.wf, Bool.and_eq_true, decide_eq_true_eq] at this
  exact this
theorem Bytes.rdLe {bs : List Int} (h : Bytes bs) (i : Int) : 0 ≤ rd bs i ∧ rd bs i ≤ 255 := by
  unfold rd
  rw [List.getD_eq_getElem?_getD]
  rcases Nat.lt_or_ge i.toNat bs.length with hi | hi
  · rw [List.getElem?_eq_getElem hi]
    exact h.2 _ (List.getElem_mem hi)
  · rw [List.getElem?_eq_none hi]
    simp

theorem l14Open_is (l : List Int) (hl : l.length ≤ 9223372036854775807) : spec_l14Open.f l = some (l.take 2000, 0) := by
  unfold spec_l14Open.f
  by_cases h : (l.length : Int) > 2000
  · rw [if_pos h, if_pos (by omega)]
  · rw [if_neg h, List.take_of_length_le (by omega)]
theorem open_bytes {l : List Int} (h : ∀ x ∈ l, (Lit.int .u8 x).wf = true) : Bytes (l.take 2000) :=
  ⟨by rw [List.length_take]; omega, fun x hx => bytes_of h x (List.mem_of_mem_take hx)⟩

theorem tmod_lt (a n : Int) (h0 : 0 ≤ a) (h1 : 1 ≤ n) : 0 ≤ Int.tmod a n ∧ Int.tmod a n < n := by
  rw [Int.tmod_eq_emod_of_nonneg h0]
  exact ⟨Int.emod_nonneg _ (by omega), Int.emod_lt_of_pos _ (by omega)⟩

theorem pick_ev (bs : List Int) (hb : Bytes bs) (p n : Int) (h0 : 0 ≤ p) (h1 : p ≤ 1000000) : ∃ r, Ev (fun k => spec_l14Rd_pick.f k bs p n) (r, p + 1) ∧ 0 ≤ r ∧ (r < n ∨ n < 1 ∧ r = 0) := by
  have w1 : wrap64 (p + 1) = p + 1 := w_small (by omega) (by omega)
  by_cases hn : n < 1
  · refine ⟨0, ?_, by omega, .inr ⟨hn, rfl⟩⟩
    unfold spec_l14Rd_pick.f
    refine Ev.pos hn (Ev.last (fun k => ?_))
    simp only [spec_l14Rd_pick.j0]
    rw [if_pos trivial, w1]
  by_cases he : (bs.length : Int) = 0
  · refine ⟨0, ?_, by omega, .inl (by omega)⟩
    unfold spec_l14Rd_pick.f
    refine Ev.neg hn (Ev.last (fun k => ?_))
    simp only [spec_l14Rd_pick.j0]
    rw [beq_iff_eq.2 he, if_pos rfl, w1]
  have w2 : wrap64 (p + 1 - 1) = p := by rw [show p + 1 - 1 = p by omega]; exact w_small (by omega) (by omega)
  have hne : ((bs.length : Int) == 0) = false := beq_eq_false_iff_ne.2 he
  have hlen := hb.1
  by_cases hk : p < (bs.length : Int)
  · have hr := hb.rdLe p
    have hm := tmod_lt (rd bs p) n hr.1 (by omega)
    refine ⟨Int.tmod (rd bs p) n, ?_, hm.1, .inl hm.2⟩
    unfold spec_l14Rd_pick.f
    refine Ev.neg hn (Ev.last (fun k => ?_))
    simp only [spec_l14Rd_pick.j0]
    rw [hne, if_neg (by decide), w1, w2, if_pos hk, if_pos h0, if_neg (by omega), w_small (by omega) (by omega)]
  have t1 := tmod_lt p (bs.length : Int) h0 (by omega)
  have w3 : wrap64 (p * 7) = p * 7 := w_small (by omega) (by omega)
  have w4 : wrap64 (p * 7 + 3) = p * 7 + 3 := w_small (by omega) (by omega)
  have t2 := tmod_lt (p * 7 + 3) (bs.length : Int) (by omega) (by omega)
  have r1 := hb.rdLe (Int.tmod p (bs.length : Int))
  have r2 := hb.rdLe (Int.tmod (p * 7 + 3) (bs.length : Int))
  have hd : 0 ≤ Int.tdiv p (bs.length : Int) ∧ Int.tdiv p (bs.length : Int) ≤ p := by
    rw [Int.tdiv_eq_ediv_of_nonneg h0]
    exact ⟨Int.ediv_nonneg h0 (by omega), Int.ediv_le_self _ h0⟩
  have w5 : wrap64 (Int.tdiv p (bs.length : Int)) = Int.tdiv p (bs.length : Int) := w_small (by omega) (by omega)
  generalize hq : Int.tdiv p (bs.length : Int) = q at *
  generalize ha : rd bs (Int.tmod p (bs.length : Int)) = a at *
  generalize hb' : rd bs (Int.tmod (p * 7 + 3) (bs.length : Int)) = b at *
  have x1 : wrap64 a = a := w_small (by omega) (by omega)
  have x2 : wrap64 b = b := w_small (by omega) (by omega)
  have x3 : wrap64 (a * 131) = a * 131 := w_small (by omega) (by omega)
  have x4 : wrap64 (b * 1117) = b * 1117 := w_small (by omega) (by omega)
  have x5 : wrap64 (a * 131 + b * 1117) = a * 131 + b * 1117 := w_small (by omega) (by omega)
  have x6 : wrap64 (p * 29) = p * 29 := w_small (by omega) (by omega)
  have x7 : wrap64 (a * 131 + b * 1117 + p * 29) = a * 131 + b * 1117 + p * 29 := w_small (by omega) (by omega)
  have x8 : wrap64 (q * 53) = q * 53 := w_small (by omega) (by omega)
  have x9 : wrap64 (a * 131 + b * 1117 + p * 29 + q * 53) = a * 131 + b * 1117 + p * 29 + q * 53 := w_small (by omega) (by omega)
  have hx := mix_small (a * 131 + b * 1117 + p * 29 + q * 53) (by omega) (by omega)
  generalize hX : bits .xor .i64 (a * 131 + b * 1117 + p * 29 + q * 53) (wrap64 (Int.tdiv (a * 131 + b * 1117 + p * 29 + q * 53) 64)) = X at *
  have hm := tmod_lt X n hx (by omega)
  refine ⟨Int.tmod X n, ?_, hm.1, .inl hm.2⟩
  unfold spec_l14Rd_pick.f
  refine Ev.neg hn (Ev.last (fun k => ?_))
  simp only [spec_l14Rd_pick.j0]
  rw [hne, if_neg (by decide), w1, w2, if_neg hk, if_neg he, if_pos t1.1, if_pos t1.2, w3, w4, if_pos t2.1, if_pos t2.2, if_neg (by omega), hq, ha, hb', w5, x1, x2, x3, x4, x5, x6, x7, x8, x9, hX]

theorem num_ev (bs : List Int) (hb : Bytes bs) (p : Int) (l : List Int) (hl : l ≠ []) (hm : l.length ≤ 1000000) (h0 : 0 ≤ p) (h1 : p ≤ 1000000) : ∃ r, Ev (fun k => spec_l14Rd_num.f k bs p l) (r, p + 1) ∧ r ∈ l := by
  obtain ⟨r, hr, h2, h3⟩ := pick_ev bs hb p (l.length : Int) h0 h1
  have hpos : 0 < l.length := List.length_pos_iff.2 hl
  have hlt : r < (l.length : Int) := by omega
  refine ⟨rd l r, ?_, ?_⟩
  · unfold spec_l14Rd_num.f
    exact Ev.bind hr (Ev.pos h2 (Ev.pos hlt (Ev.now _)))
  · unfold rd
    rw [List.getD_eq_getElem?_getD, List.getElem?_eq_getElem (show r.toNat < l.length by omega)]
    exact List.getElem_mem _
end Go.Proofs.YtiebpoikhijbgaaDoor.M
