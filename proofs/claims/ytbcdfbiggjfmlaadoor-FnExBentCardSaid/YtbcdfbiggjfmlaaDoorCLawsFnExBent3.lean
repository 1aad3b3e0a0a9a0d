/- What the claim's law leans on: the program's functions, what they compute, and the law over plain values; no condition is asked. (Part 3 of 3.) -/
import Derived.Test.YtbcdfbiggjfmlaaDoorCLawsFnExBent2
import Derived.Laws.BitsAllLaws
import Derived.Laws.BitsLemmas
namespace Go.Proofs.YtbcdfbiggjfmlaaDoor.M
open Go.RowKit Go.Proofs.YtbcdfbiggjfmlaaDoorW.PrintWords Go.Proofs.YtbcdfbiggjfmlaaDoorW.PrintLast Go.Proofs.YtbcdfbiggjfmlaaDoorW.PrintMore
attribute [local go_sem] max2_int min2_int max_two min_two max_three min_three max_four min_four
set_option linter.unusedVariables false
set_option linter.unusedSimpArgs false

def spec_l14Open.f (l0 : List Int) : Option (List Int × Int) := if (l0.length : Int) > 2000 then (if 2000 ≤ (l0.length : Int) then (some (l0.take 2000, 0)) else (none)) else (some (l0, 0))
set_option maxHeartbeats 8000000 in
set_option maxRecDepth 100000 in
theorem spec_l14Open.calls (A0 : Option Addr) (c0 : Nat) (l0 : List Int) (r1 : List Int) (r2 : Int) (w0 w : World) (hB : Below w0.heap.size w0 w) (hr0 : Kd.C (Kd.int .u8) w0 A0 l0.length l0) (hc0 : l0.length ≤ c0) (h : spec_l14Open.f l0 = some (r1, r2)) :
  Calls Tryd.prog 33 #[.slice A0 l0.length c0] w fun e w' => ∃ g_ : Nat, e = .returned (.pointer (some ⟨g_, 0, none⟩)) ∧ IsS79 w0 w' g_ r1 r2 ∧ Below w0.heap.size w0 w' ∧ Below w.heap.size w w' := by
 have hu79 := Tryd.underlying79
 have HR0 := m0_ hr0
 have HC0 := m0_ hc0
 clear hr0 hc0
 have HBW := m0_ (Below.refl w.heap.size w)
 have HW0 := m0_ hB.size
 have HB := m0_ hB
 clear hB
 have H : (if (l0.length : Int) > 2000 then (if 2000 ≤ (l0.length : Int) then (some (l0.take 2000, 0)) else (none)) else (some (l0, 0))) = some (r1, r2) := h
 clear h
 by_cases c2 : (l0.length : Int) > 2000
 rotate_left
 ·rw [if_neg c2] at H
  have c2b0 : decide (2000 < (l0.length : Int)) = false := decide_eq_false c2
  have c2b1 : decide (2000 < l0.length) = false := decide_eq_false (by omega)
  clear c2
  simp only [Option.some.injEq, Prod.mk.injEq] at H
  obtain ⟨rfl, rfl⟩ := H
  go_enter Tryd.func33, Tryd.ntmps33
  go_wp2_with (first | ((with_reducible refine gate_dst (N := 10) rfl ?_);refine box_event ?hg (N := 10) ?hd (cs := #[.slice A0 l0.length c0, .int .i64 0]) (t := 79) ?hr ?_;(case hd => rfl);(case hg => rfl);(case hr => first | (go_simp;done) | (go_simp;rfl));intro gb103 hg w6 hbox hb;replace HB := m0_ (below_step (by exact HB.out) hb);have BK103 := m0_ (hbox);have GW103 := m0_ ((by rw [hg];exact (below_size (by repeat (first | (with_reducible first | exact HBW.out | apply below_alloc | apply pw_below_drewN | apply below_drew1) | exact HBW.out))) : w.heap.size ≤ gb103));have GE103 := m0_ ((Nat.le_trans HW0.out (by rw [hg];exact (below_size (by repeat (first | (with_reducible first | exact HBW.out | apply below_alloc | apply pw_below_drewN | apply below_drew1) | exact HBW.out))) : w.heap.size ≤ gb103) : w0.heap.size ≤ gb103));replace HBW := m0_ (below_step HBW.out hb);clear hb hbox hg))
  go_ret
  exact ⟨_, rfl, (show IsS79 w0 _ gb103 l0 0 from ⟨_, _, by (with_reducible repeat (first | refine blk_drewN ?_ _ | refine blk_drew ?_ | refine blk_alloc ?_ _));exact BK103.out, GE103.out, HR0.out⟩), by repeat (first | (with_reducible first | exact HB.out | apply below_alloc | apply pw_below_drewN | apply below_drew1 | refine below_set ?_ GE103.out) | exact HB.out), by repeat (first | (with_reducible first | exact HBW.out | apply below_alloc | apply pw_below_drewN | apply below_drew1 | refine below_set ?_ GW103.out) | exact HBW.out)⟩
 rw [if_pos c2] at H
 have c2b0 : decide (2000 < (l0.length : Int)) = true := decide_eq_true c2
 have c2b1 : decide (2000 < l0.length) = true := decide_eq_true (by omega)
 clear c2
 by_cases c3 : 2000 ≤ (l0.length : Int)
 rotate_left
 ·rw [if_neg c3] at H
  exact absurd H (by simp)
 rw [if_pos c3] at H
 have c3b0 := eq_true c3
 have c3b1 : decide (2000 ≤ (l0.length : Int)) = true := decide_eq_true c3
 clear c3
 simp only [Option.some.injEq, Prod.mk.injEq] at H
 obtain ⟨rfl, rfl⟩ := H
 obtain ⟨i04, hi04, _, hsz4, _⟩ := info_parts info5
 obtain ⟨hcut4, hA4, hC4⟩ := print_take_of (P := Tryd.prog) (Value.int .u8) 0 33 5 .i64 Tryd.underlying33 hi04 hsz4 A0 c0 l0 2000 (by omega) (of_decide_eq_true (by first | (with_reducible assumption) | assumption)) HC0.out
 have HR101 := m0_ (Kd.C_of_reads (h1 := fun _ => rfl) (hA4 _ (Kd.reads_of_C HR0.out)))
 have HC101 := m0_ hC4
 clear hA4 hC4 hi04 hsz4
 go_enter Tryd.func33, Tryd.ntmps33
 go_wp2_with (first | ((with_reducible refine gate_dst (N := 10) rfl ?_);refine box_event ?hg (N := 10) ?hd (cs := #[.slice A0 (l0.take 2000).length c0, .int .i64 0]) (t := 79) ?hr ?_;(case hd => rfl);(case hg => rfl);(case hr => first | (go_simp;done) | (go_simp;rfl));intro gb102 hg w5 hbox hb;replace HB := m0_ (below_step (by exact HB.out) hb);have BK102 := m0_ (hbox);have GW102 := m0_ ((by rw [hg];exact (below_size (by repeat (first | (with_reducible first | exact HBW.out | apply below_alloc | apply pw_below_drewN | apply below_drew1) | exact HBW.out))) : w.heap.size ≤ gb102));have GE102 := m0_ ((Nat.le_trans HW0.out (by rw [hg];exact (below_size (by repeat (first | (with_reducible first | exact HBW.out | apply below_alloc | apply pw_below_drewN | apply below_drew1) | exact HBW.out))) : w.heap.size ≤ gb102) : w0.heap.size ≤ gb102));replace HBW := m0_ (below_step HBW.out hb);clear hb hbox hg))
 go_ret
 exact ⟨_, rfl, (show IsS79 w0 _ gb102 (l0.take 2000) 0 from ⟨_, _, by (with_reducible repeat (first | refine blk_drewN ?_ _ | refine blk_drew ?_ | refine blk_alloc ?_ _));exact BK102.out, GE102.out, HR101.out⟩), by repeat (first | (with_reducible first | exact HB.out | apply below_alloc | apply pw_below_drewN | apply below_drew1 | refine below_set ?_ GE102.out) | exact HB.out), by repeat (first | (with_reducible first | exact HBW.out | apply below_alloc | apply pw_below_drewN | apply below_drew1 | refine below_set ?_ GW102.out) | exact HBW.out)⟩

def spec_DrawExOk.f (k : Nat) (l0 : List Int) : Option (Int × Int × Int × (List (S29))) := (spec_l14Open.f l0).bind fun bt102 => ((spec_l2Bent.f k bt102.1 bt102.2).bind fun bt105 => (some (bt105.1, bt105.2.1, bt105.2.2.1, bt105.2.2.2.1)))
set_option maxHeartbeats 8000000 in
set_option maxRecDepth 100000 in
theorem spec_DrawExOk.calls (k : Nat) (A0 : Option Addr) (c0 : Nat) (l0 : List Int) (r1 : Int) (r2 : Int) (r3 : Int) (r4 : List (S29)) (w : World) (hr0 : Kd.C (Kd.int .u8) w A0 l0.length l0) (hc0 : l0.length ≤ c0) (h : spec_DrawExOk.f k l0 = some (r1, r2, r3, r4)) :
  Calls Tryd.prog 18 #[.slice A0 l0.length c0] w fun e w' => ∃ v3_ : Value, e = .returned (.agg #[.int .i64 r1, .int .i64 r2, .int .i64 r3, v3_]) ∧ Kd.N k29 29 w' w.heap.size (fun k_ => (w.heap.size ≤ k_)) v3_ r4 ∧ Below w.heap.size w w' := by
 have hu29 := Tryd.underlying29
 have HR0 := m0_ hr0
 have HC0 := m0_ hc0
 clear hr0 hc0
 have HB := m0_ (Below.refl w.heap.size w)
 have H : ((spec_l14Open.f l0).bind fun bt102 => ((spec_l2Bent.f k bt102.1 bt102.2).bind fun bt105 => (some (bt105.1, bt105.2.1, bt105.2.2.1, bt105.2.2.2.1)))) = some (r1, r2, r3, r4) := h
 clear h
 replace H := Option.bind_eq_some_iff.mp H
 obtain ⟨⟨t102, t103⟩, A20, H⟩ := H
 replace H : ((spec_l2Bent.f k t102 t103).bind fun bt105 => (some (bt105.1, bt105.2.1, bt105.2.2.1, bt105.2.2.2.1))) = some (r1, r2, r3, r4) := H
 have A2 := m0_ A20
 clear A20
 replace H := Option.bind_eq_some_iff.mp H
 obtain ⟨⟨t105, t106, t107, t108, t111⟩, A30, H⟩ := H
 replace H : (some (t105, t106, t107, t108)) = some (r1, r2, r3, r4) := H
 have A3 := m0_ A30
 clear A30
 simp only [Option.some.injEq, Prod.mk.injEq] at H
 obtain ⟨rfl, rfl, rfl, rfl⟩ := H
 go_enter Tryd.func18, Tryd.ntmps18
 go_wp2_with (first | ((with_reducible refine gate_dst (N := 2) rfl ?_);refine box_event ?hg (N := 2) ?hd (cs := #[.int .i64 0, .int .i64 0, .int .i64 0, .slice none 0 0]) (t := 29) ?hr ?_;(case hd => rfl);(case hg => rfl);(case hr => first | (go_simp;done) | (go_simp;rfl));intro gb101 hg w4 hbox hb;have BK101 := m0_ (hbox);have GW101 := m0_ ((by rw [hg];exact (below_size (by exact HB.out)) : w.heap.size ≤ gb101));have GE101 := m0_ ((by rw [hg];exact (below_size (by exact HB.out)) : w.heap.size ≤ gb101));replace HB := m0_ (below_step (by exact HB.out) hb);clear hb hbox hg) | ((with_reducible refine gate_callee (f := 33) rfl ?_);refine goesL_ (some 4) rfl rfl Tryd.func33 (by kernel_rfl) rfl #[.slice A0 l0.length c0] rfl (by (try simp only [List.map_toArray, List.map_cons, List.map_nil]);first | done | rfl | (simp only [List.length_drop, List.length_take];rfl)) ?_;(with_reducible refine (spec_l14Open.calls _ _ l0 t102 t103 w _ ?side1 ?side2 ?side3 A2.out).mono ?_);(case side1 => repeat (first | (with_reducible first | exact HB.out | apply below_alloc | apply pw_below_drewN | apply below_drew1 | refine below_set ?_ GE101.out) | exact HB.out));(case side2 => exact HR0.out);(case side3 => exact HC0.out);rintro e w5 ⟨g104, rfl, hi, hb, hb2⟩;refine ⟨_, rfl, ?_⟩;replace HB := m0_ (hb);have HI104 := m0_ (hi);have NB104_101 := m0_ (IsS79.ne_blk hi (blk_below BK101.out hb2) (by decide));have NB101_104 := m0_ (Ne.symm (IsS79.ne_blk hi (blk_below BK101.out hb2) (by decide)));replace BK101 := m0_ (blk_below BK101.out hb2);(try clear hb);(try clear hb2);(try clear hk);(try clear hi)) | ((with_reducible refine gate_callee (f := 32) rfl ?_);refine goesL_ (some 5) rfl rfl Tryd.func32 (by kernel_rfl) rfl #[.pointer (some ⟨g104, 0, none⟩)] rfl (by (try simp only [List.map_toArray, List.map_cons, List.map_nil]);first | done | rfl | (simp only [List.length_drop, List.length_take];rfl)) ?_;(with_reducible refine (spec_l2Bent.calls k g104 t102 t103 t105 t106 t107 t108 t111 w _ ?side1 ?side2 A3.out).mono ?_);(case side1 => repeat (first | (with_reducible first | exact HI104.out | apply IsS79.alloc | apply IsS79.drewN | apply IsS79.drew | apply IsS79.set_1 | refine IsS79.far ?_ NB104_101.out _) | exact HI104.out));(case side2 => repeat (first | (with_reducible first | exact HB.out | apply below_alloc | apply pw_below_drewN | apply below_drew1 | refine below_set ?_ (IsS79.ge HI104.out) | refine below_set ?_ GE101.out) | exact HB.out));rintro e w6 ⟨v109, rfl, ho0, hi, hb, hk⟩;refine ⟨_, rfl, ?_⟩;have HO110 := m0_ (Kd.N_lower (Kd.N_mono (ok' := fun k_ => (w.heap.size ≤ k_) ∧ k_ ≠ gb101 ∧ k_ ≠ g104) ho0 (fun k_ hk_ => ⟨(Nat.le_trans (below_size (by repeat (first | (with_reducible first | exact HB.out | apply below_alloc | apply pw_below_drewN | apply below_drew1 | refine below_set ?_ (IsS79.ge HI104.out) | refine below_set ?_ GE101.out) | exact HB.out))) hk_), (Kd.freshB BK101.out k_ hk_), (IsS79.fresh (by repeat (first | (with_reducible first | exact HI104.out | apply IsS79.alloc | apply IsS79.drewN | apply IsS79.drew | apply IsS79.set_1 | refine IsS79.far ?_ NB104_101.out _) | exact HI104.out)) k_ hk_)⟩)) (below_size (by repeat (first | (with_reducible first | exact HB.out | apply below_alloc | apply pw_below_drewN | apply below_drew1 | refine below_set ?_ (IsS79.ge HI104.out) | refine below_set ?_ GE101.out) | exact HB.out))));replace BK101 := m0_ (KeepBut.blk hk (g' := gb101) (o := .cells #[.int .i64 0, .int .i64 0, .int .i64 0, .slice none 0 0] 29 (0, 0)) (by (with_reducible repeat (first | refine blk_drewN ?_ _ | refine blk_drew ?_ | refine blk_alloc ?_ _));exact BK101.out) NB101_104.out (by simp));replace HB := m0_ (hb);replace HI104 := m0_ (hi);(try clear hb);(try clear hb2);(try clear hk);(try clear hi);(try clear ho0);have hnb7 := NB101_104.out;have hnc7 := NB104_101.out;obtain ⟨hcz8_0, hcz8_1, hcz8_2, hcz8_3, hfz8_0, hfz8_1, hfz8_2, hfz8_3⟩ := bx4 BK101.out;obtain ⟨Ao9, co9, eo9⟩ := Kd.N_slice HO110.out;subst eo9))
 refine bodyPost_ret (results_cell_row rfl _ _ gb101 29 #[.int .i64 t105, .int .i64 t106, .int .i64 t107, .slice Ao9 t108.length co9] (0, 0) _ rfl (by (with_reducible repeat (first | refine blk_drewN ?_ _ | refine blk_drew ?_ | refine blk_alloc ?_ _));refine blk_put (cs := #[.int .i64 t105, .int .i64 t106, .int .i64 t107, .slice none 0 0]) ?_ 3 _ rfl;(with_reducible repeat (first | refine blk_drewN ?_ _ | refine blk_drew ?_ | refine blk_alloc ?_ _));refine blk_put (cs := #[.int .i64 t105, .int .i64 t106, .int .i64 0, .slice none 0 0]) ?_ 2 _ rfl;(with_reducible repeat (first | refine blk_drewN ?_ _ | refine blk_drew ?_ | refine blk_alloc ?_ _));refine blk_put (cs := #[.int .i64 t105, .int .i64 0, .int .i64 0, .slice none 0 0]) ?_ 1 _ rfl;(with_reducible repeat (first | refine blk_drewN ?_ _ | refine blk_drew ?_ | refine blk_alloc ?_ _));refine blk_put (cs := #[.int .i64 0, .int .i64 0, .int .i64 0, .slice none 0 0]) ?_ 0 _ rfl;(with_reducible repeat (first | refine blk_drewN ?_ _ | refine blk_drew ?_ | refine blk_alloc ?_ _));exact BK101.out) Tryd.underlying29 rfl (by kernel_rfl)) rfl ?_
 exact ⟨_, by first | rfl | (simp [errW_none, errW_some] <;> rfl) | (simp [*, errW_none, errW_some] <;> rfl), by (with_reducible repeat (first | apply Kd.N_alloc | apply Kd.N_drewN | apply Kd.N_drew));exact Kd.N_mono (Kd.N_far (p := ⟨gb101, 3, none⟩) (Kd.N_far (p := ⟨gb101, 2, none⟩) (Kd.N_far (p := ⟨gb101, 1, none⟩) (Kd.N_far (p := ⟨gb101, 0, none⟩) (Kd.N_mono HO110.out (fun k_ hk => (⟨hk, hk.2.1⟩ : _ ∧ k_ ≠ gb101))) (fun _ hk => hk.2) (.int .i64 t105)) (fun _ hk => hk.2) (.int .i64 t106)) (fun _ hk => hk.2) (.int .i64 t107)) (fun _ hk => hk.2) (.slice Ao9 t108.length co9)) (fun _ hk => hk.1.1), by repeat (first | (with_reducible first | exact HB.out | apply below_alloc | apply pw_below_drewN | apply below_drew1 | refine below_set ?_ (IsS79.ge HI104.out) | refine below_set ?_ GE101.out) | exact HB.out)⟩

def impl_ExSyms.f (k : Nat) (a0 a1 a2 : Int) (l : List S29) : Option (List Int) := (impl_ExOk.f k a0 a1 a2 l).bind fun ok => if ok = true then none else some []
set_option maxHeartbeats 4000000 in
set_option maxRecDepth 100000 in
theorem impl_ExSyms.calls (k : Nat) (a0 : Int) (a1 : Int) (a2 : Int) (A : Option Addr) (c : Nat) (l : List (S29)) (r : List Int) (w : World) (hr0 : Kd.C k29 w A l.length l) (hc0 : l.length ≤ c) (h : impl_ExSyms.f k a0 a1 a2 l = some r) :
  Calls Tryd.prog 20 #[.agg #[.int .i64 a0, .int .i64 a1, .int .i64 a2, .slice A l.length c]] w fun e w' => ∃ v0_ : Value, e = .returned (v0_) ∧ Kd.R (Kd.int .i64) 3 w' w.heap.size (fun _ => True) v0_ r ∧ Below w.heap.size w w' := by
 unfold impl_ExSyms.f at h
 obtain ⟨ok, hk, h_⟩ := Option.bind_eq_some_iff.1 h
 have TK := m0_ hk
 have HK := m0_ hr0
 have HC := m0_ hc0
 have HH := m0_ h_
 have HB := m0_ (Below.refl w.heap.size w)
 have hu1_ := Tryd.underlying29
 clear h hk h_ hr0 hc0
 go_enter Tryd.func20, Tryd.ntmps20
 go_wp2_with (first | ((with_reducible refine gate_dst (N := 1) rfl ?_);refine box_event ?hg (N := 1) ?hd (cs := #[.int .i64 a0, .int .i64 a1, .int .i64 a2, .slice A l.length c]) (t := 29) ?hr ?_;(case hd => rfl);(case hg => rfl);(case hr => first | (go_simp;done) | (go_simp;rfl));intro g1 hg wg1 hbox hb;have Gg1 := m0_ (show w.heap.size ≤ g1 from by rw [hg];exact below_size HB.out);replace HB := m0_ (below_step HB.out hb);have BKg1 := m0_ (hbox);clear hb hbox hg;have hz0_ := (blk_cell BKg1.out 0).trans (show _ = some (Value.int .i64 a0) from rfl);have hz1_ := (blk_cell BKg1.out 1).trans (show _ = some (Value.int .i64 a1) from rfl);have hz2_ := (blk_cell BKg1.out 2).trans (show _ = some (Value.int .i64 a2) from rfl);have hz3_ := (blk_cell BKg1.out 3).trans (show _ = some (Value.slice A l.length c) from rfl)) | (go_at_call 19;fail))
 clear hz0_ hz1_ hz2_ hz3_
 refine (impl_ExOk.calls k a0 a1 a2 _ _ l ok _ (Kd.C_below HK.out HB.out) HC.out TK.out).mono ?_
 rintro e w1 ⟨rfl, hb⟩
 have n0_ := m0_ (blk_below BKg1.out hb);have n1_ := m0_ (below_step HB.out hb);clear BKg1 HB;have BKg1 := n0_;have HB := n1_;clear n0_ n1_
 clear hb
 cases ok with
 | false =>
  have h : some ([] : List Int) = some r := HH.out
  obtain rfl := Option.some.inj h
  go_wp2
  go_ret
  exact ⟨_, rfl, Kd.R_nil _ _ _ _ _, HB.out⟩
 | true =>
  have h : (none : Option (List Int)) = some r := HH.out
  cases h

mutual
def laws_FnExBent.j0 : Nat → Bool → Int → Int → Int → List (S29) → Option (Bool)
 | 0, _, _, _, _, _ => none
 | k + 1, x23, x108000, x108001, x108002, x108003 => if x23 = true then ((impl_ExOk.f k x108000 x108001 x108002 x108003).bind fun t111 => ((spec_ExOk.f k x108000 x108001 x108002 x108003).bind fun t112 => (some (t111 == t112)))) else ((some (([] : List (S29)) : List (S29))).bind fun y114 => (if y114.length + x108003.length < 2932031007402 then ((some (y114 ++ x108003 : List (S29))).bind fun y117 => (if y117.length < 2932031007402 then (laws_FnExBent.l0 k 0 x108000 x108001 x108002 x108003 x108000 x108001 x108002 (y117 ++ [(⟨1, 0, 0, ([] : List (S29))⟩ : S29)]) x108000 x108001 (wrap64 ((wrap64 (x108002 + 20)) + 1)) x108003 8 x108001 x108002 x108003 x108000 5 x108002 x108003) else (none))) else (none)))
def laws_FnExBent.l0 : Nat → Int → Int → Int → Int → List (S29) → Int → Int → Int → List (S29) → Int → Int → Int → List (S29) → Int → Int → Int → List (S29) → Int → Int → Int → List (S29) → Option (Bool)
 | 0, _, _, _, _, _, _, _, _, _, _, _, _, _, _, _, _, _, _, _, _, _ => none
 | k + 1, x8, x108000, x108001, x108002, x108003, x114000, x114001, x114002, x114003, x124000, x124001, x124002, x124003, x125000, x125001, x125002, x125003, x126000, x126001, x126002, x126003 => if x8 < (x108003.length : Int) then (if 0 ≤ x8 then ((impl_ExOk.f k ((rd_T29 x108003 x8).f0) ((rd_T29 x108003 x8).f1) ((rd_T29 x108003 x8).f2) ((rd_T29 x108003 x8).f3)).bind fun t127 => (if t127 = true then (laws_FnExBent.l0 k (wrap64 (x8 + 1)) x108000 x108001 x108002 x108003 x114000 x114001 x114002 x114003 x124000 x124001 x124002 x124003 x125000 x125001 x125002 x125003 x126000 x126001 x126002 x126003) else (some false))) else (none)) else ((impl_ExOk.f k x114000 x114001 x114002 x114003).bind fun t128 => (if t128 = true then (some false) else ((impl_ExOk.f k x124000 x124001 x124002 x124003).bind fun t129 => (if t129 = true then (some false) else ((impl_ExOk.f k x125000 x125001 x125002 x125003).bind fun t130 => (if t130 = true then (some false) else ((impl_ExOk.f k x126000 x126001 x126002 x126003).bind fun t131 => (if t131 = true then (some false) else ((impl_ExText.f k x114000 x114001 x114002 x114003).bind fun t132 => (if t132.toList = ([] : List UInt8) then ((impl_ExSyms.f k x125000 x125001 x125002 x125003).bind fun t133 => (some ((t133.length : Int) == 0))) else (some false)))))))))))
end
def laws_FnExBent.f (k : Nat) (l0 : List Int) : Option (Bool) := if (l0.length : Int) > 1048576 then (some true) else ((spec_DrawExOk.f k l0).bind fun bt101 => ((impl_ExOk.f k bt101.1 bt101.2.1 bt101.2.2.1 bt101.2.2.2).bind fun t108 => ((spec_ExOk.f k bt101.1 bt101.2.1 bt101.2.2.1 bt101.2.2.2).bind fun t109 => (if (t108 != t109) = true then (laws_FnExBent.j0 k true bt101.1 bt101.2.1 bt101.2.2.1 bt101.2.2.2) else ((spec_ExOk.f k bt101.1 bt101.2.1 bt101.2.2.1 bt101.2.2.2).bind fun t110 => (laws_FnExBent.j0 k (!t110) bt101.1 bt101.2.1 bt101.2.2.1 bt101.2.2.2))))))
def laws_FnExBent.T4 : Bool × List (List Nat × List Nat) := (true, [([], []), ([0], [0]), ([], []), ([2, 1], [2]), ([1, 3], [1, 3]), ([4, 3], [4]), ([5], [5]), ([6, 5, 5], [5, 6]), ([7, 5], [5, 7]), ([5, 8], [5, 8])])
def laws_FnExBent.B4 : List Nat := [0, 1, 0, 7, 15, 31, 63, 127, 255, 511]
theorem laws_FnExBent.tab4 : rtab .any (opsOf Tryd.f5 4) = laws_FnExBent.T4 := by kernel_rfl
theorem laws_FnExBent.bits4 : waitsOk laws_FnExBent.T4.2 laws_FnExBent.B4 = true := by kernel_rfl
set_option maxHeartbeats 8000000 in
set_option maxRecDepth 100000 in
theorem laws_FnExBent.calls (k : Nat) (A0 : Option Addr) (c0 : Nat) (l0 : List Int) (r : Bool) (hT_ : Aside0 (r = true)) (w : World) (hr0 : Kd.C (Kd.int .u8) w A0 l0.length l0) (hc0 : l0.length ≤ c0) (h : laws_FnExBent.f k l0 = some r) :
  Calls Tryd.prog 5 #[.slice A0 l0.length c0] w fun e w' => e = .returned (.bool r) ∧ Below w.heap.size w w' := by
 have hu29 := Tryd.underlying29
 have HR0 := m0_ hr0
 have HC0 := m0_ hc0
 clear hr0 hc0
 have HB := m0_ (Below.refl w.heap.size w)
 have H : (if (l0.length : Int) > 1048576 then (some true) else ((spec_DrawExOk.f k l0).bind fun bt101 => ((impl_ExOk.f k bt101.1 bt101.2.1 bt101.2.2.1 bt101.2.2.2).bind fun t108 => ((spec_ExOk.f k bt101.1 bt101.2.1 bt101.2.2.1 bt101.2.2.2).bind fun t109 => (if (t108 != t109) = true then (laws_FnExBent.j0 k true bt101.1 bt101.2.1 bt101.2.2.1 bt101.2.2.2) else ((spec_ExOk.f k bt101.1 bt101.2.1 bt101.2.2.1 bt101.2.2.2).bind fun t110 => (laws_FnExBent.j0 k (!t110) bt101.1 bt101.2.1 bt101.2.2.1 bt101.2.2.2))))))) = some r := h
 clear h
 by_cases c2 : (l0.length : Int) > 1048576
 ·rw [if_pos c2] at H
  have c2b0 : decide (1048576 < (l0.length : Int)) = true := decide_eq_true c2
  have c2b1 : decide (1048576 < l0.length) = true := decide_eq_true (by omega)
  clear c2
  obtain rfl := Option.some.inj H
  go_enter Tryd.func5, Tryd.ntmps5
  go_wp2
  go_ret
  exact ⟨by first | rfl | (simp [errW_none, errW_some] <;> rfl) | (simp [*, errW_none, errW_some] <;> rfl), by repeat (first | (with_reducible first | exact HB.out | apply below_alloc | apply pw_below_drewN | apply below_drew1) | exact HB.out)⟩
 rw [if_neg c2] at H
 have c2b0 : decide (1048576 < (l0.length : Int)) = false := decide_eq_false c2
 have c2b1 : decide (1048576 < l0.length) = false := decide_eq_false (by omega)
 clear c2
 replace H := Option.bind_eq_some_iff.mp H
 obtain ⟨⟨t101, t102, t103, t104⟩, A30, H⟩ := H
 replace H : ((impl_ExOk.f k t101 t102 t103 t104).bind fun t108 => ((spec_ExOk.f k t101 t102 t103 t104).bind fun t109 => (if (t108 != t109) = true then (laws_FnExBent.j0 k true t101 t102 t103 t104) else ((spec_ExOk.f k t101 t102 t103 t104).bind fun t110 => (laws_FnExBent.j0 k (!t110) t101 t102 t103 t104))))) = some r := H
 have A3 := m0_ A30
 clear A30
 have HC4 := m0_ H
 clear H
 go_enter Tryd.func5, Tryd.ntmps5
 go_upto_region 4 with (first | ((with_reducible refine gate_callee (f := 18) rfl ?_);refine goesL_ (some 13) rfl rfl Tryd.func18 (by kernel_rfl) rfl #[.slice A0 l0.length c0] rfl (by (try simp only [List.map_toArray, List.map_cons, List.map_nil]);first | done | rfl | (simp only [List.length_drop, List.length_take];rfl)) ?_;(with_reducible refine (spec_DrawExOk.calls k _ _ l0 t101 t102 t103 t104 _ ?side1 ?side2 A3.out).mono ?_);(case side1 => repeat (first | exact HR0.out | (with_reducible refine Kd.C_alloc ?_ _) | (with_reducible refine Kd.C_drewN ?_ _) | (with_reducible refine Kd.C_drew ?_)));(case side2 => exact HC0.out);rintro e w5 ⟨v105, rfl, ho0, hb⟩;refine ⟨_, rfl, ?_⟩;have n0_ := m0_ (Kd.N_lower (Kd.N_mono (ok' := fun k_ => True) ho0 (fun k_ hk_ => trivial)) (below_size (by repeat (first | (with_reducible first | exact HB.out | apply below_alloc | apply pw_below_drewN | apply below_drew1) | exact HB.out))));have n1_ := m0_ (below_step (by repeat (first | (with_reducible first | exact HB.out | apply below_alloc | apply pw_below_drewN | apply below_drew1) | exact HB.out)) hb);clear HB;have HO106 := n0_;have HB := n1_;clear n0_ n1_;(try clear hb);(try clear hb2);(try clear hk);(try clear hi);(try clear ho0)) | ((with_reducible refine gate_dst (N := 3) rfl ?_);(try (refine gate_guard (by rfl) ?_;dsimp only));refine box_event ?hg (N := 3) ?hd (cs := #[.int .i64 0, .int .i64 0, .int .i64 0, .slice none 0 0]) (t := 29) ?hr ?_;(case hd => rfl);(case hg => rfl);(case hr => first | (go_simp;done) | (go_simp;rfl));intro gb107 hg w6 hbox hb;have n0_ := m0_ (Kd.N_below (Kd.N_elderB (by (with_reducible repeat (first | apply Kd.N_alloc | apply Kd.N_drewN | apply Kd.N_drew));exact HO106.out) gb107 (Nat.le_of_eq hg.symm)) hb);have n1_ := m0_ (below_step (by repeat (first | (with_reducible first | exact HB.out | apply below_alloc | apply pw_below_drewN | apply below_drew1) | exact HB.out)) hb);have n2_ := m0_ (hbox);have n3_ := m0_ ((by rw [hg];exact (below_size (by repeat (first | (with_reducible first | exact HB.out | apply below_alloc | apply pw_below_drewN | apply below_drew1) | exact HB.out))) : w.heap.size ≤ gb107));have n4_ := m0_ ((by rw [hg];exact (below_size (by repeat (first | (with_reducible first | exact HB.out | apply below_alloc | apply pw_below_drewN | apply below_drew1) | exact HB.out))) : w.heap.size ≤ gb107));clear HO106;clear HB;have HO106 := n0_;have HB := n1_;have BK107 := n2_;have GW107 := n3_;have GE107 := n4_;clear n0_ n1_ n2_ n3_ n4_;clear hb hbox hg;obtain ⟨hcz7_0, hcz7_1, hcz7_2, hcz7_3, hfz7_0, hfz7_1, hfz7_2, hfz7_3⟩ := bx4 BK107.out;obtain ⟨Ao8, co8, eo8⟩ := Kd.N_slice HO106.out;subst eo8))
 (try simp only [Act.put, List.setIfInBounds_toArray, List.set_cons_zero, List.set_cons_succ])
 go_cut [23] (fun v23 wc => ∃ (kq : Nat) (x23_3 : Bool), v23 = .bool x23_3 ∧ Aside0 (laws_FnExBent.j0 kq x23_3 t101 t102 t103 t104 = some r) ∧ Aside0 (kq ≤ k) ∧ Aside0 (Kd.N k29 29 wc w.heap.size (fun k_ => k_ ≠ gb107) (.slice Ao8 t104.length co8) t104) ∧ Aside0 (wc.heap[gb107]? = some (.cells #[.int .i64 t101, .int .i64 t102, .int .i64 t103, (.slice Ao8 t104.length co8)] 29 (0, 0))) ∧ Aside0 (Below w.heap.size w wc))
 case first =>
  have H := HC4.out
  clear HC4
  replace H := Option.bind_eq_some_iff.mp H
  obtain ⟨t108, A90, H⟩ := H
  replace H : ((spec_ExOk.f k t101 t102 t103 t104).bind fun t109 => (if (t108 != t109) = true then (laws_FnExBent.j0 k true t101 t102 t103 t104) else ((spec_ExOk.f k t101 t102 t103 t104).bind fun t110 => (laws_FnExBent.j0 k (!t110) t101 t102 t103 t104)))) = some r := H
  have A9 := m0_ A90
  clear A90
  replace H := Option.bind_eq_some_iff.mp H
  obtain ⟨t109, A100, H⟩ := H
  replace H : (if (t108 != t109) = true then (laws_FnExBent.j0 k true t101 t102 t103 t104) else ((spec_ExOk.f k t101 t102 t103 t104).bind fun t110 => (laws_FnExBent.j0 k (!t110) t101 t102 t103 t104))) = some r := H
  have A10 := m0_ A100
  clear A100
  by_cases c11 : (t108 != t109) = true
  ·rw [if_pos c11] at H
   have c11b0 : (t108 != t109) = true := c11
   (try (have c11b1 : decide (t108 = t109) = false := by simpa using c11))
   (try (have c11b2 : (t108 == t109) = false := by simpa using c11))
   (try (have c11b3 : ¬ (t108 = t109) := by simpa using c11))
   clear c11
   (first | rw [c11b0] | (simp only [i64_w, i32_w];rw [c11b0]) | skip)
   have H' := m0_ H
   clear H
   try go_wp2
   have n0_ : Aside0 (Kd.N k29 29 ((((w6.setCell ⟨gb107, 0, none⟩ (.int .i64 t101)).setCell ⟨gb107, 1, none⟩ (.int .i64 t102)).setCell ⟨gb107, 2, none⟩ (.int .i64 t103)).setCell ⟨gb107, 3, none⟩ (.slice Ao8 t104.length co8)) w.heap.size (fun k_ => k_ ≠ gb107) (.slice Ao8 t104.length co8) t104) := ⟨by (with_reducible repeat (first | apply Kd.N_alloc | apply Kd.N_drewN | apply Kd.N_drew));exact Kd.N_mono (Kd.N_far (p := ⟨gb107, 3, none⟩) (Kd.N_far (p := ⟨gb107, 2, none⟩) (Kd.N_far (p := ⟨gb107, 1, none⟩) (Kd.N_far (p := ⟨gb107, 0, none⟩) (Kd.N_mono HO106.out (fun k_ hk => (⟨hk, hk.2⟩ : _ ∧ k_ ≠ gb107))) (fun _ hk => hk.2) (.int .i64 t101)) (fun _ hk => hk.2) (.int .i64 t102)) (fun _ hk => hk.2) (.int .i64 t103)) (fun _ hk => hk.2) (.slice Ao8 t104.length co8)) (fun _ hk => hk.1.2)⟩
   have n1_ : Aside0 (((((w6.setCell ⟨gb107, 0, none⟩ (.int .i64 t101)).setCell ⟨gb107, 1, none⟩ (.int .i64 t102)).setCell ⟨gb107, 2, none⟩ (.int .i64 t103)).setCell ⟨gb107, 3, none⟩ (.slice Ao8 t104.length co8)).heap[gb107]? = some (.cells #[.int .i64 t101, .int .i64 t102, .int .i64 t103, .slice Ao8 t104.length co8] 29 (0, 0))) := ⟨by (with_reducible repeat (first | refine blk_drewN ?_ _ | refine blk_drew ?_ | refine blk_alloc ?_ _));refine blk_put (cs := #[.int .i64 t101, .int .i64 t102, .int .i64 t103, .slice none 0 0]) ?_ 3 _ rfl;(with_reducible repeat (first | refine blk_drewN ?_ _ | refine blk_drew ?_ | refine blk_alloc ?_ _));refine blk_put (cs := #[.int .i64 t101, .int .i64 t102, .int .i64 0, .slice none 0 0]) ?_ 2 _ rfl;(with_reducible repeat (first | refine blk_drewN ?_ _ | refine blk_drew ?_ | refine blk_alloc ?_ _));refine blk_put (cs := #[.int .i64 t101, .int .i64 0, .int .i64 0, .slice none 0 0]) ?_ 1 _ rfl;(with_reducible repeat (first | refine blk_drewN ?_ _ | refine blk_drew ?_ | refine blk_alloc ?_ _));refine blk_put (cs := #[.int .i64 0, .int .i64 0, .int .i64 0, .slice none 0 0]) ?_ 0 _ rfl;(with_reducible repeat (first | refine blk_drewN ?_ _ | refine blk_drew ?_ | refine blk_alloc ?_ _));exact BK107.out⟩
   have n2_ : Aside0 (Below w.heap.size w ((((w6.setCell ⟨gb107, 0, none⟩ (.int .i64 t101)).setCell ⟨gb107, 1, none⟩ (.int .i64 t102)).setCell ⟨gb107, 2, none⟩ (.int .i64 t103)).setCell ⟨gb107, 3, none⟩ (.slice Ao8 t104.length co8))) := ⟨by repeat (first | (with_reducible first | exact HB.out | apply below_alloc | apply pw_below_drewN | apply below_drew1 | refine below_set ?_ GE107.out) | exact HB.out)⟩
   (try clear HO106)
   (try clear BK107)
   (try clear HB)
   generalize ((((w6.setCell ⟨gb107, 0, none⟩ (.int .i64 t101)).setCell ⟨gb107, 1, none⟩ (.int .i64 t102)).setCell ⟨gb107, 2, none⟩ (.int .i64 t103)).setCell ⟨gb107, 3, none⟩ (.slice Ao8 t104.length co8)) = w12 at n0_ n1_ n2_ ⊢
   have HO106 := n0_
   have BK107 := n1_
   have HB := n2_
   clear n0_ n1_ n2_
   have n0_ := m0_ (Kd.N_drew HO106.out)
   have n1_ := m0_ (blk_drew BK107.out)
   have n2_ := m0_ (below_drew1 HB.out)
   clear HO106
   clear BK107
   clear HB
   have HO106 := n0_
   have BK107 := n1_
   have HB := n2_
   clear n0_ n1_ n2_
   refine start_ (n := 10) (S := fun w' => w'.cell? ⟨gb107, 0, none⟩ = some (.int .i64 t101) ∧ w'.cell? ⟨gb107, 1, none⟩ = some (.int .i64 t102) ∧ w'.cell? ⟨gb107, 2, none⟩ = some (.int .i64 t103) ∧ w'.cell? ⟨gb107, 3, none⟩ = some (.slice Ao8 t104.length co8)) (ds := []) #[false, false, false, false, false, false, false, false, false, false] (by kernel_rfl) rfl rfl ⟨(blk_cell BK107.out 0).trans rfl, (blk_cell BK107.out 1).trans rfl, (blk_cell BK107.out 2).trans rfl, (blk_cell BK107.out 3).trans rfl⟩ (fun hHeld => ?_);refine with_tabW laws_FnExBent.tab4 laws_FnExBent.bits4 (fun HT_ HW_ => ?_)
   generalize w12.drew = w13 at HO106 BK107 HB hHeld ⊢
   refine take_ (i := 0) (N := some 14) (v := ?_) (a' := ?_) #[true, false, false, false, false, false, false, false, false, false] rfl rfl (take_ofW HT_.out HW_.out (by kernel_rfl)) (fun _ _ _ h => h) (Or.inl ⟨by rfl, ?_⟩) hHeld ?_ ?_
   rotate_left
   ·rintro w' ⟨s0, s1, s2, s3⟩
    go_simp
    with_reducible rfl
   rotate_left
   ·simp only [Act.put, List.setIfInBounds_toArray, List.set_cons_zero, List.set_cons_succ, i64_w, i32_w]
    rfl
   refine take_ (i := 2) (N := some 16) (v := ?_) (a' := ?_) #[true, false, true, false, false, false, false, false, false, false] rfl rfl (take_ofW HT_.out HW_.out (by kernel_rfl)) (fun _ _ _ h => h) (Or.inl ⟨by rfl, ?_⟩) hHeld ?_ ?_
   rotate_left
   ·rintro w' ⟨s0, s1, s2, s3⟩
    go_simp
    with_reducible rfl
   rotate_left
   ·simp only [Act.put, List.setIfInBounds_toArray, List.set_cons_zero, List.set_cons_succ, i64_w, i32_w]
    rfl
   refine one_ (i := 1) (N := some 15) #[true, true, true, false, false, false, false, false, false, false] rfl rfl (one_of HT_.out (by kernel_rfl)) (by decide) (fun K hK => ?_)
   refine goes_ Tryd.func19 (by kernel_rfl) rfl #[.agg #[.int .i64 t101, .int .i64 t102, .int .i64 t103, .slice Ao8 t104.length co8]] (by rfl) rfl rfl (by (try simp only [List.map_toArray, List.map_cons, List.map_nil]);first | done | rfl | (simp only [List.length_drop, List.length_take];rfl)) ?_
   with_reducible refine (impl_ExOk.calls k t101 t102 t103 _ _ t104 t108 _ ?side1 ?side2 A9.out).mono ?_
   (case side1 => repeat (first | exact (Kd.N_reads' HO106.out).2.2 | (with_reducible refine Kd.C_alloc ?_ _) | (with_reducible refine Kd.C_drewN ?_ _) | (with_reducible refine Kd.C_drew ?_)))
   (case side2 => exact (Kd.N_reads' HO106.out).2.1)
   rintro e w14 ⟨rfl, hb⟩
   refine ⟨_, rfl, ?_⟩
   have n0_ := m0_ (Kd.N_below (by (with_reducible repeat (first | apply Kd.N_alloc | apply Kd.N_drewN | apply Kd.N_drew));exact HO106.out) hb)
   have n1_ := m0_ (blk_below BK107.out hb)
   have n2_ := m0_ (below_step (by repeat (first | (with_reducible first | exact HB.out | apply below_alloc | apply pw_below_drewN | apply below_drew1 | refine below_set ?_ GE107.out) | exact HB.out)) hb)
   clear HO106
   clear BK107
   clear HB
   have HO106 := n0_
   have BK107 := n1_
   have HB := n2_
   clear n0_ n1_ n2_
   (try clear hb)
   (try clear hb2)
   (try clear hk)
   (try clear hi)
   refine hK.out _ _ ⟨(blk_cell BK107.out 0).trans rfl, (blk_cell BK107.out 1).trans rfl, (blk_cell BK107.out 2).trans rfl, (blk_cell BK107.out 3).trans rfl⟩ (fun hHeld => ?_)
   clear hK K
   refine norm_ (a' := ?_) ?_ ?_
   rotate_left
   ·show Act.put _ (some 15) _ = _
    simp only [Act.put, List.setIfInBounds_toArray, List.set_cons_zero, List.set_cons_succ, i64_w, i32_w]
    rfl
   refine one_ (i := 3) (N := some 17) #[true, true, true, true, false, false, false, false, false, false] rfl rfl (one_of HT_.out (by kernel_rfl)) (by decide) (fun K hK => ?_)
   refine goes_ Tryd.func17 (by kernel_rfl) rfl #[.agg #[.int .i64 t101, .int .i64 t102, .int .i64 t103, .slice Ao8 t104.length co8]] (by rfl) rfl rfl (by (try simp only [List.map_toArray, List.map_cons, List.map_nil]);first | done | rfl | (simp only [List.length_drop, List.length_take];rfl)) ?_
   with_reducible refine (spec_ExOk.calls k t101 t102 t103 _ _ t104 t109 _ ?side1 ?side2 A10.out).mono ?_
   (case side1 => repeat (first | exact (Kd.N_reads' HO106.out).2.2 | (with_reducible refine Kd.C_alloc ?_ _) | (with_reducible refine Kd.C_drewN ?_ _) | (with_reducible refine Kd.C_drew ?_)))
   (case side2 => exact (Kd.N_reads' HO106.out).2.1)
   rintro e w15 ⟨rfl, hb⟩
   refine ⟨_, rfl, ?_⟩
   have n0_ := m0_ (Kd.N_below (by (with_reducible repeat (first | apply Kd.N_alloc | apply Kd.N_drewN | apply Kd.N_drew));exact HO106.out) hb)
   have n1_ := m0_ (blk_below BK107.out hb)
   have n2_ := m0_ (below_step (by repeat (first | (with_reducible first | exact HB.out | apply below_alloc | apply pw_below_drewN | apply below_drew1 | refine below_set ?_ GE107.out) | exact HB.out)) hb)
   clear HO106
   clear BK107
   clear HB
   have HO106 := n0_
   have BK107 := n1_
   have HB := n2_
   clear n0_ n1_ n2_
   (try clear hb)
   (try clear hb2)
   (try clear hk)
   (try clear hi)
   refine hK.out _ _ ⟨(blk_cell BK107.out 0).trans rfl, (blk_cell BK107.out 1).trans rfl, (blk_cell BK107.out 2).trans rfl, (blk_cell BK107.out 3).trans rfl⟩ (fun hHeld => ?_)
   clear hK K
   refine norm_ (a' := ?_) ?_ ?_
   rotate_left
   ·show Act.put _ (some 17) _ = _
    simp only [Act.put, List.setIfInBounds_toArray, List.set_cons_zero, List.set_cons_succ, i64_w, i32_w]
    rfl
   refine pv_ 4 18 #[true, true, true, true, true, false, false, false, false, false] (any_of HT_.out (by kernel_rfl)) ?_
   refine pv_ 5 19 #[true, true, true, true, true, true, false, false, false, false] (any_of HT_.out (by kernel_rfl)) ?_
   refine pu_ 6 20 #[true, true, true, true, true, true, true, false, false, false] (any_of HT_.out (by kernel_rfl)) ?_
   refine pu_ 7 21 #[true, true, true, true, true, true, true, true, false, false] (any_of HT_.out (by kernel_rfl)) ?_
   refine pu_ 8 22 #[true, true, true, true, true, true, true, true, true, false] (any_of HT_.out (by kernel_rfl)) ?_
   refine pv_ 9 23 #[true, true, true, true, true, true, true, true, true, true] (any_of HT_.out (by kernel_rfl)) ?_
   refine done_ (done_of HT_.out (by kernel_rfl)) ?_
   try go_wp2
   go_meet
   case rel => exact ⟨_, (true), (by first | rfl | (simp;done) | (simp [*];done)), H', ⟨by first | omega | exact Nat.le_refl _⟩, ⟨by (with_reducible repeat (first | apply Kd.N_alloc | apply Kd.N_drewN | apply Kd.N_drew));exact HO106.out⟩, ⟨by (with_reducible repeat (first | refine blk_drewN ?_ _ | refine blk_drew ?_ | refine blk_alloc ?_ _));exact BK107.out⟩, ⟨by repeat (first | (with_reducible first | exact HB.out | apply below_alloc | apply pw_below_drewN | apply below_drew1 | refine below_set ?_ GE107.out) | exact HB.out)⟩⟩
  rw [if_neg c11] at H
  have c11b0 : (t108 != t109) = false := by simpa using c11
  (try (have c11b1 : decide (t108 = t109) = true := by simpa using c11))
  (try (have c11b2 : (t108 == t109) = true := by simpa using c11))
  clear c11
  (first | rw [c11b0] | (simp only [i64_w, i32_w];rw [c11b0]) | skip)
  replace H := Option.bind_eq_some_iff.mp H
  obtain ⟨t110, A160, H⟩ := H
  replace H : (laws_FnExBent.j0 k (!t110) t101 t102 t103 t104) = some r := H
  have A16 := m0_ A160
  clear A160
  have H' := m0_ H
  clear H
  try go_wp2
  have n0_ : Aside0 (Kd.N k29 29 ((((w6.setCell ⟨gb107, 0, none⟩ (.int .i64 t101)).setCell ⟨gb107, 1, none⟩ (.int .i64 t102)).setCell ⟨gb107, 2, none⟩ (.int .i64 t103)).setCell ⟨gb107, 3, none⟩ (.slice Ao8 t104.length co8)) w.heap.size (fun k_ => k_ ≠ gb107) (.slice Ao8 t104.length co8) t104) := ⟨by (with_reducible repeat (first | apply Kd.N_alloc | apply Kd.N_drewN | apply Kd.N_drew));exact Kd.N_mono (Kd.N_far (p := ⟨gb107, 3, none⟩) (Kd.N_far (p := ⟨gb107, 2, none⟩) (Kd.N_far (p := ⟨gb107, 1, none⟩) (Kd.N_far (p := ⟨gb107, 0, none⟩) (Kd.N_mono HO106.out (fun k_ hk => (⟨hk, hk.2⟩ : _ ∧ k_ ≠ gb107))) (fun _ hk => hk.2) (.int .i64 t101)) (fun _ hk => hk.2) (.int .i64 t102)) (fun _ hk => hk.2) (.int .i64 t103)) (fun _ hk => hk.2) (.slice Ao8 t104.length co8)) (fun _ hk => hk.1.2)⟩
  have n1_ : Aside0 (((((w6.setCell ⟨gb107, 0, none⟩ (.int .i64 t101)).setCell ⟨gb107, 1, none⟩ (.int .i64 t102)).setCell ⟨gb107, 2, none⟩ (.int .i64 t103)).setCell ⟨gb107, 3, none⟩ (.slice Ao8 t104.length co8)).heap[gb107]? = some (.cells #[.int .i64 t101, .int .i64 t102, .int .i64 t103, .slice Ao8 t104.length co8] 29 (0, 0))) := ⟨by (with_reducible repeat (first | refine blk_drewN ?_ _ | refine blk_drew ?_ | refine blk_alloc ?_ _));refine blk_put (cs := #[.int .i64 t101, .int .i64 t102, .int .i64 t103, .slice none 0 0]) ?_ 3 _ rfl;(with_reducible repeat (first | refine blk_drewN ?_ _ | refine blk_drew ?_ | refine blk_alloc ?_ _));refine blk_put (cs := #[.int .i64 t101, .int .i64 t102, .int .i64 0, .slice none 0 0]) ?_ 2 _ rfl;(with_reducible repeat (first | refine blk_drewN ?_ _ | refine blk_drew ?_ | refine blk_alloc ?_ _));refine blk_put (cs := #[.int .i64 t101, .int .i64 0, .int .i64 0, .slice none 0 0]) ?_ 1 _ rfl;(with_reducible repeat (first | refine blk_drewN ?_ _ | refine blk_drew ?_ | refine blk_alloc ?_ _));refine blk_put (cs := #[.int .i64 0, .int .i64 0, .int .i64 0, .slice none 0 0]) ?_ 0 _ rfl;(with_reducible repeat (first | refine blk_drewN ?_ _ | refine blk_drew ?_ | refine blk_alloc ?_ _));exact BK107.out⟩
  have n2_ : Aside0 (Below w.heap.size w ((((w6.setCell ⟨gb107, 0, none⟩ (.int .i64 t101)).setCell ⟨gb107, 1, none⟩ (.int .i64 t102)).setCell ⟨gb107, 2, none⟩ (.int .i64 t103)).setCell ⟨gb107, 3, none⟩ (.slice Ao8 t104.length co8))) := ⟨by repeat (first | (with_reducible first | exact HB.out | apply below_alloc | apply pw_below_drewN | apply below_drew1 | refine below_set ?_ GE107.out) | exact HB.out)⟩
  (try clear HO106)
  (try clear BK107)
  (try clear HB)
  generalize ((((w6.setCell ⟨gb107, 0, none⟩ (.int .i64 t101)).setCell ⟨gb107, 1, none⟩ (.int .i64 t102)).setCell ⟨gb107, 2, none⟩ (.int .i64 t103)).setCell ⟨gb107, 3, none⟩ (.slice Ao8 t104.length co8)) = w17 at n0_ n1_ n2_ ⊢
  have HO106 := n0_
  have BK107 := n1_
  have HB := n2_
  clear n0_ n1_ n2_
  have n0_ := m0_ (Kd.N_drew HO106.out)
  have n1_ := m0_ (blk_drew BK107.out)
  have n2_ := m0_ (below_drew1 HB.out)
  clear HO106
  clear BK107
  clear HB
  have HO106 := n0_
  have BK107 := n1_
  have HB := n2_
  clear n0_ n1_ n2_
  refine start_ (n := 10) (S := fun w' => w'.cell? ⟨gb107, 0, none⟩ = some (.int .i64 t101) ∧ w'.cell? ⟨gb107, 1, none⟩ = some (.int .i64 t102) ∧ w'.cell? ⟨gb107, 2, none⟩ = some (.int .i64 t103) ∧ w'.cell? ⟨gb107, 3, none⟩ = some (.slice Ao8 t104.length co8)) (ds := []) #[false, false, false, false, false, false, false, false, false, false] (by kernel_rfl) rfl rfl ⟨(blk_cell BK107.out 0).trans rfl, (blk_cell BK107.out 1).trans rfl, (blk_cell BK107.out 2).trans rfl, (blk_cell BK107.out 3).trans rfl⟩ (fun hHeld => ?_);refine with_tabW laws_FnExBent.tab4 laws_FnExBent.bits4 (fun HT_ HW_ => ?_)
  generalize w17.drew = w18 at HO106 BK107 HB hHeld ⊢
  refine take_ (i := 0) (N := some 14) (v := ?_) (a' := ?_) #[true, false, false, false, false, false, false, false, false, false] rfl rfl (take_ofW HT_.out HW_.out (by kernel_rfl)) (fun _ _ _ h => h) (Or.inl ⟨by rfl, ?_⟩) hHeld ?_ ?_
  rotate_left
  ·rintro w' ⟨s0, s1, s2, s3⟩
   go_simp
   with_reducible rfl
  rotate_left
  ·simp only [Act.put, List.setIfInBounds_toArray, List.set_cons_zero, List.set_cons_succ, i64_w, i32_w]
   rfl
  refine take_ (i := 2) (N := some 16) (v := ?_) (a' := ?_) #[true, false, true, false, false, false, false, false, false, false] rfl rfl (take_ofW HT_.out HW_.out (by kernel_rfl)) (fun _ _ _ h => h) (Or.inl ⟨by rfl, ?_⟩) hHeld ?_ ?_
  rotate_left
  ·rintro w' ⟨s0, s1, s2, s3⟩
   go_simp
   with_reducible rfl
  rotate_left
  ·simp only [Act.put, List.setIfInBounds_toArray, List.set_cons_zero, List.set_cons_succ, i64_w, i32_w]
   rfl
  refine one_ (i := 1) (N := some 15) #[true, true, true, false, false, false, false, false, false, false] rfl rfl (one_of HT_.out (by kernel_rfl)) (by decide) (fun K hK => ?_)
  refine goes_ Tryd.func19 (by kernel_rfl) rfl #[.agg #[.int .i64 t101, .int .i64 t102, .int .i64 t103, .slice Ao8 t104.length co8]] (by rfl) rfl rfl (by (try simp only [List.map_toArray, List.map_cons, List.map_nil]);first | done | rfl | (simp only [List.length_drop, List.length_take];rfl)) ?_
  with_reducible refine (impl_ExOk.calls k t101 t102 t103 _ _ t104 t108 _ ?side1 ?side2 A9.out).mono ?_
  (case side1 => repeat (first | exact (Kd.N_reads' HO106.out).2.2 | (with_reducible refine Kd.C_alloc ?_ _) | (with_reducible refine Kd.C_drewN ?_ _) | (with_reducible refine Kd.C_drew ?_)))
  (case side2 => exact (Kd.N_reads' HO106.out).2.1)
  rintro e w19 ⟨rfl, hb⟩
  refine ⟨_, rfl, ?_⟩
  have n0_ := m0_ (Kd.N_below (by (with_reducible repeat (first | apply Kd.N_alloc | apply Kd.N_drewN | apply Kd.N_drew));exact HO106.out) hb)
  have n1_ := m0_ (blk_below BK107.out hb)
  have n2_ := m0_ (below_step (by repeat (first | (with_reducible first | exact HB.out | apply below_alloc | apply pw_below_drewN | apply below_drew1 | refine below_set ?_ GE107.out) | exact HB.out)) hb)
  clear HO106
  clear BK107
  clear HB
  have HO106 := n0_
  have BK107 := n1_
  have HB := n2_
  clear n0_ n1_ n2_
  (try clear hb)
  (try clear hb2)
  (try clear hk)
  (try clear hi)
  refine hK.out _ _ ⟨(blk_cell BK107.out 0).trans rfl, (blk_cell BK107.out 1).trans rfl, (blk_cell BK107.out 2).trans rfl, (blk_cell BK107.out 3).trans rfl⟩ (fun hHeld => ?_)
  clear hK K
  refine norm_ (a' := ?_) ?_ ?_
  rotate_left
  ·show Act.put _ (some 15) _ = _
   simp only [Act.put, List.setIfInBounds_toArray, List.set_cons_zero, List.set_cons_succ, i64_w, i32_w]
   rfl
  refine one_ (i := 3) (N := some 17) #[true, true, true, true, false, false, false, false, false, false] rfl rfl (one_of HT_.out (by kernel_rfl)) (by decide) (fun K hK => ?_)
  refine goes_ Tryd.func17 (by kernel_rfl) rfl #[.agg #[.int .i64 t101, .int .i64 t102, .int .i64 t103, .slice Ao8 t104.length co8]] (by rfl) rfl rfl (by (try simp only [List.map_toArray, List.map_cons, List.map_nil]);first | done | rfl | (simp only [List.length_drop, List.length_take];rfl)) ?_
  with_reducible refine (spec_ExOk.calls k t101 t102 t103 _ _ t104 t109 _ ?side1 ?side2 A10.out).mono ?_
  (case side1 => repeat (first | exact (Kd.N_reads' HO106.out).2.2 | (with_reducible refine Kd.C_alloc ?_ _) | (with_reducible refine Kd.C_drewN ?_ _) | (with_reducible refine Kd.C_drew ?_)))
  (case side2 => exact (Kd.N_reads' HO106.out).2.1)
  rintro e w20 ⟨rfl, hb⟩
  refine ⟨_, rfl, ?_⟩
  have n0_ := m0_ (Kd.N_below (by (with_reducible repeat (first | apply Kd.N_alloc | apply Kd.N_drewN | apply Kd.N_drew));exact HO106.out) hb)
  have n1_ := m0_ (blk_below BK107.out hb)
  have n2_ := m0_ (below_step (by repeat (first | (with_reducible first | exact HB.out | apply below_alloc | apply pw_below_drewN | apply below_drew1 | refine below_set ?_ GE107.out) | exact HB.out)) hb)
  clear HO106
  clear BK107
  clear HB
  have HO106 := n0_
  have BK107 := n1_
  have HB := n2_
  clear n0_ n1_ n2_
  (try clear hb)
  (try clear hb2)
  (try clear hk)
  (try clear hi)
  refine hK.out _ _ ⟨(blk_cell BK107.out 0).trans rfl, (blk_cell BK107.out 1).trans rfl, (blk_cell BK107.out 2).trans rfl, (blk_cell BK107.out 3).trans rfl⟩ (fun hHeld => ?_)
  clear hK K
  refine norm_ (a' := ?_) ?_ ?_
  rotate_left
  ·show Act.put _ (some 17) _ = _
   simp only [Act.put, List.setIfInBounds_toArray, List.set_cons_zero, List.set_cons_succ, i64_w, i32_w]
   rfl
  refine pv_ 4 18 #[true, true, true, true, true, false, false, false, false, false] (any_of HT_.out (by kernel_rfl)) ?_
  refine pv_ 5 19 #[true, true, true, true, true, true, false, false, false, false] (any_of HT_.out (by kernel_rfl)) ?_
  refine take_ (i := 6) (N := some 20) (v := ?_) (a' := ?_) #[true, true, true, true, true, true, true, false, false, false] rfl rfl (take_ofW HT_.out HW_.out (by kernel_rfl)) (fun _ _ _ h => h) (Or.inl ⟨by rfl, ?_⟩) hHeld ?_ ?_
  rotate_left
  ·rintro w' ⟨s0, s1, s2, s3⟩
   go_simp
   with_reducible rfl
  rotate_left
  ·simp only [Act.put, List.setIfInBounds_toArray, List.set_cons_zero, List.set_cons_succ, i64_w, i32_w]
   rfl
  refine one_ (i := 7) (N := some 21) #[true, true, true, true, true, true, true, true, false, false] rfl rfl (one_of HT_.out (by kernel_rfl)) (by decide) (fun K hK => ?_)
  refine goes_ Tryd.func17 (by kernel_rfl) rfl #[.agg #[.int .i64 t101, .int .i64 t102, .int .i64 t103, .slice Ao8 t104.length co8]] (by rfl) rfl rfl (by (try simp only [List.map_toArray, List.map_cons, List.map_nil]);first | done | rfl | (simp only [List.length_drop, List.length_take];rfl)) ?_
  with_reducible refine (spec_ExOk.calls k t101 t102 t103 _ _ t104 t110 _ ?side1 ?side2 A16.out).mono ?_
  (case side1 => repeat (first | exact (Kd.N_reads' HO106.out).2.2 | (with_reducible refine Kd.C_alloc ?_ _) | (with_reducible refine Kd.C_drewN ?_ _) | (with_reducible refine Kd.C_drew ?_)))
  (case side2 => exact (Kd.N_reads' HO106.out).2.1)
  rintro e w21 ⟨rfl, hb⟩
  refine ⟨_, rfl, ?_⟩
  have n0_ := m0_ (Kd.N_below (by (with_reducible repeat (first | apply Kd.N_alloc | apply Kd.N_drewN | apply Kd.N_drew));exact HO106.out) hb)
  have n1_ := m0_ (blk_below BK107.out hb)
  have n2_ := m0_ (below_step (by repeat (first | (with_reducible first | exact HB.out | apply below_alloc | apply pw_below_drewN | apply below_drew1 | refine below_set ?_ GE107.out) | exact HB.out)) hb)
  clear HO106
  clear BK107
  clear HB
  have HO106 := n0_
  have BK107 := n1_
  have HB := n2_
  clear n0_ n1_ n2_
  (try clear hb)
  (try clear hb2)
  (try clear hk)
  (try clear hi)
  refine hK.out _ _ ⟨(blk_cell BK107.out 0).trans rfl, (blk_cell BK107.out 1).trans rfl, (blk_cell BK107.out 2).trans rfl, (blk_cell BK107.out 3).trans rfl⟩ (fun hHeld => ?_)
  clear hK K
  refine norm_ (a' := ?_) ?_ ?_
  rotate_left
  ·show Act.put _ (some 21) _ = _
   simp only [Act.put, List.setIfInBounds_toArray, List.set_cons_zero, List.set_cons_succ, i64_w, i32_w]
   rfl
  refine pv_ 8 22 #[true, true, true, true, true, true, true, true, true, false] (any_of HT_.out (by kernel_rfl)) ?_
  refine pv_ 9 23 #[true, true, true, true, true, true, true, true, true, true] (any_of HT_.out (by kernel_rfl)) ?_
  refine done_ (done_of HT_.out (by kernel_rfl)) ?_
  try go_wp2
  go_meet
  case rel => exact ⟨_, (!t110), (by first | rfl | (simp;done) | (simp [*];done)), H', ⟨by first | omega | exact Nat.le_refl _⟩, ⟨by (with_reducible repeat (first | apply Kd.N_alloc | apply Kd.N_drewN | apply Kd.N_drew));exact HO106.out⟩, ⟨by (with_reducible repeat (first | refine blk_drewN ?_ _ | refine blk_drew ?_ | refine blk_alloc ?_ _));exact BK107.out⟩, ⟨by repeat (first | (with_reducible first | exact HB.out | apply below_alloc | apply pw_below_drewN | apply below_drew1 | refine below_set ?_ GE107.out) | exact HB.out)⟩⟩
 case rest =>
  clear HC4
  try clear c1
  try clear c2
  try clear c2b0
  try clear c2b1
  try clear p2
  try clear c5
  try clear c11
  try clear c11b0
  try clear c11b1
  try clear c11b2
  try clear c17
  try clear c18
  try clear c19
  try clear hcz7_0
  try clear hcz7_1
  try clear hcz7_2
  try clear hcz7_3
  try clear hfz7_0
  try clear hfz7_1
  try clear hfz7_2
  try clear hfz7_3
  obtain ⟨kq, x23_3, rfl, HA, HJ3, HO_108003, BK107, HB⟩ := hcut
  cases kq with
  | zero => exact absurd HA.out (by simp [laws_FnExBent.j0])
  | succ kj3 =>
   have H := HA.out
   clear HA
   simp only [laws_FnExBent.j0] at H
   by_cases c22 : x23_3 = true
   ·subst c22
    have H1 : ((impl_ExOk.f kj3 t101 t102 t103 t104).bind fun t111 => ((spec_ExOk.f kj3 t101 t102 t103 t104).bind fun t112 => (some (t111 == t112)))) = some r := by rw [if_pos rfl] at H;exact H
    clear H
    have H := H1
    clear H1
    replace H := Option.bind_eq_some_iff.mp H
    obtain ⟨t111, A230, H⟩ := H
    replace H : ((spec_ExOk.f kj3 t101 t102 t103 t104).bind fun t112 => (some (t111 == t112))) = some r := H
    have A23 := m0_ A230
    clear A230
    replace H := Option.bind_eq_some_iff.mp H
    obtain ⟨t112, A240, H⟩ := H
    replace H : (some (t111 == t112)) = some r := H
    have A24 := m0_ A240
    clear A240
    obtain rfl := Option.some.inj H
    try go_wp2
    have n0_ := m0_ (Kd.N_drew HO_108003.out)
    have n1_ := m0_ (blk_drew BK107.out)
    have n2_ := m0_ (below_drew1 HB.out)
    clear HO_108003
    clear BK107
    clear HB
    have HO_108003 := n0_
    have BK107 := n1_
    have HB := n2_
    clear n0_ n1_ n2_
    refine start_ (n := 6) (S := fun w' => w'.cell? ⟨gb107, 0, none⟩ = some (.int .i64 t101) ∧ w'.cell? ⟨gb107, 1, none⟩ = some (.int .i64 t102) ∧ w'.cell? ⟨gb107, 2, none⟩ = some (.int .i64 t103) ∧ w'.cell? ⟨gb107, 3, none⟩ = some (.slice Ao8 t104.length co8)) (ds := []) #[false, false, false, false, false, false] (by kernel_rfl) rfl rfl ⟨(blk_cell BK107.out 0).trans rfl, (blk_cell BK107.out 1).trans rfl, (blk_cell BK107.out 2).trans rfl, (blk_cell BK107.out 3).trans rfl⟩ (fun hHeld => ?_)
    generalize wc.drew = w25 at HO_108003 BK107 HB hHeld ⊢
    refine take_ (i := 0) (N := some 24) (v := ?_) (a' := ?_) #[true, false, false, false, false, false] rfl rfl (by kernel_rfl) (fun _ _ _ h => h) (Or.inl ⟨by rfl, ?_⟩) hHeld ?_ ?_
    rotate_left
    ·rintro w' ⟨s0, s1, s2, s3⟩
     go_simp
     with_reducible rfl
    rotate_left
    ·simp only [Act.put, List.setIfInBounds_toArray, List.set_cons_zero, List.set_cons_succ, i64_w, i32_w]
     rfl
    refine take_ (i := 2) (N := some 26) (v := ?_) (a' := ?_) #[true, false, true, false, false, false] rfl rfl (by kernel_rfl) (fun _ _ _ h => h) (Or.inl ⟨by rfl, ?_⟩) hHeld ?_ ?_
    rotate_left
    ·rintro w' ⟨s0, s1, s2, s3⟩
     go_simp
     with_reducible rfl
    rotate_left
    ·simp only [Act.put, List.setIfInBounds_toArray, List.set_cons_zero, List.set_cons_succ, i64_w, i32_w]
     rfl
    refine one_ (i := 1) (N := some 25) #[true, true, true, false, false, false] rfl rfl (by kernel_rfl) (by decide) (fun K hK => ?_)
    refine goes_ Tryd.func19 (by kernel_rfl) rfl #[.agg #[.int .i64 t101, .int .i64 t102, .int .i64 t103, .slice Ao8 t104.length co8]] (by rfl) rfl rfl (by (try simp only [List.map_toArray, List.map_cons, List.map_nil]);first | done | rfl | (simp only [List.length_drop, List.length_take];rfl)) ?_
    with_reducible refine (impl_ExOk.calls kj3 t101 t102 t103 _ _ t104 t111 _ ?side1 ?side2 A23.out).mono ?_
    (case side1 => repeat (first | exact (Kd.N_reads' HO_108003.out).2.2 | (with_reducible refine Kd.C_alloc ?_ _) | (with_reducible refine Kd.C_drewN ?_ _) | (with_reducible refine Kd.C_drew ?_)))
    (case side2 => exact (Kd.N_reads' HO_108003.out).2.1)
    rintro e w26 ⟨rfl, hb⟩
    refine ⟨_, rfl, ?_⟩
    have n0_ := m0_ (Kd.N_below (by (with_reducible repeat (first | apply Kd.N_alloc | apply Kd.N_drewN | apply Kd.N_drew));exact HO_108003.out) hb)
    have n1_ := m0_ (blk_below BK107.out hb)
    have n2_ := m0_ (below_step (by repeat (first | (with_reducible first | exact HB.out | apply below_alloc | apply pw_below_drewN | apply below_drew1 | refine below_set ?_ GE107.out) | exact HB.out)) hb)
    clear HO_108003
    clear BK107
    clear HB
    have HO_108003 := n0_
    have BK107 := n1_
    have HB := n2_
    clear n0_ n1_ n2_
    (try clear hb)
    (try clear hb2)
    (try clear hk)
    (try clear hi)
    refine hK.out _ _ ⟨(blk_cell BK107.out 0).trans rfl, (blk_cell BK107.out 1).trans rfl, (blk_cell BK107.out 2).trans rfl, (blk_cell BK107.out 3).trans rfl⟩ (fun hHeld => ?_)
    clear hK K
    refine norm_ (a' := ?_) ?_ ?_
    rotate_left
    ·show Act.put _ (some 25) _ = _
     simp only [Act.put, List.setIfInBounds_toArray, List.set_cons_zero, List.set_cons_succ, i64_w, i32_w]
     rfl
    refine one_ (i := 3) (N := some 27) #[true, true, true, true, false, false] rfl rfl (by kernel_rfl) (by decide) (fun K hK => ?_)
    refine goes_ Tryd.func17 (by kernel_rfl) rfl #[.agg #[.int .i64 t101, .int .i64 t102, .int .i64 t103, .slice Ao8 t104.length co8]] (by rfl) rfl rfl (by (try simp only [List.map_toArray, List.map_cons, List.map_nil]);first | done | rfl | (simp only [List.length_drop, List.length_take];rfl)) ?_
    with_reducible refine (spec_ExOk.calls kj3 t101 t102 t103 _ _ t104 t112 _ ?side1 ?side2 A24.out).mono ?_
    (case side1 => repeat (first | exact (Kd.N_reads' HO_108003.out).2.2 | (with_reducible refine Kd.C_alloc ?_ _) | (with_reducible refine Kd.C_drewN ?_ _) | (with_reducible refine Kd.C_drew ?_)))
    (case side2 => exact (Kd.N_reads' HO_108003.out).2.1)
    rintro e w27 ⟨rfl, hb⟩
    refine ⟨_, rfl, ?_⟩
    have n0_ := m0_ (Kd.N_below (by (with_reducible repeat (first | apply Kd.N_alloc | apply Kd.N_drewN | apply Kd.N_drew));exact HO_108003.out) hb)
    have n1_ := m0_ (blk_below BK107.out hb)
    have n2_ := m0_ (below_step (by repeat (first | (with_reducible first | exact HB.out | apply below_alloc | apply pw_below_drewN | apply below_drew1 | refine below_set ?_ GE107.out) | exact HB.out)) hb)
    clear HO_108003
    clear BK107
    clear HB
    have HO_108003 := n0_
    have BK107 := n1_
    have HB := n2_
    clear n0_ n1_ n2_
    (try clear hb)
    (try clear hb2)
    (try clear hk)
    (try clear hi)
    refine hK.out _ _ ⟨(blk_cell BK107.out 0).trans rfl, (blk_cell BK107.out 1).trans rfl, (blk_cell BK107.out 2).trans rfl, (blk_cell BK107.out 3).trans rfl⟩ (fun hHeld => ?_)
    clear hK K
    refine norm_ (a' := ?_) ?_ ?_
    rotate_left
    ·show Act.put _ (some 27) _ = _
     simp only [Act.put, List.setIfInBounds_toArray, List.set_cons_zero, List.set_cons_succ, i64_w, i32_w]
     rfl
    refine pv_ 4 28 #[true, true, true, true, true, false] (by kernel_rfl) ?_
    refine pv_ 5 2 #[true, true, true, true, true, true] (by kernel_rfl) ?_
    refine done_ (by kernel_rfl) ?_
    try go_wp2
    go_ret
    exact ⟨by first | rfl | (simp [errW_none, errW_some] <;> rfl) | (simp [*, errW_none, errW_some] <;> rfl), by repeat (first | (with_reducible first | exact HB.out | apply below_alloc | apply pw_below_drewN | apply below_drew1 | refine below_set ?_ GE107.out) | exact HB.out)⟩
   replace c22 := Bool.eq_false_iff.mpr c22
   subst c22
   have H1 : ((some (([] : List (S29)) : List (S29))).bind fun y114 => (if y114.length + t104.length < 2932031007402 then ((some (y114 ++ t104 : List (S29))).bind fun y117 => (if y117.length < 2932031007402 then (laws_FnExBent.l0 kj3 0 t101 t102 t103 t104 t101 t102 t103 (y117 ++ [(⟨1, 0, 0, ([] : List (S29))⟩ : S29)]) t101 t102 (wrap64 ((wrap64 (t103 + 20)) + 1)) t104 8 t102 t103 t104 t101 5 t103 t104) else (none))) else (none))) = some r := by rw [if_neg (show ¬ (false = true) by decide)] at H;exact H
   clear H
   have H := H1
   clear H1
   obtain ⟨y114, hy114⟩ : ∃ y_ : List (S29), y_ = (([] : List (S29))) := ⟨_, rfl⟩
   replace H : (if y114.length + t104.length < 2932031007402 then ((some (y114 ++ t104 : List (S29))).bind fun y117 => (if y117.length < 2932031007402 then (laws_FnExBent.l0 kj3 0 t101 t102 t103 t104 t101 t102 t103 (y117 ++ [(⟨1, 0, 0, ([] : List (S29))⟩ : S29)]) t101 t102 (wrap64 ((wrap64 (t103 + 20)) + 1)) t104 8 t102 t103 t104 t101 5 t103 t104) else (none))) else (none)) = some r := by first | (rw [hy114];with_reducible exact H) | (have H2_ := (Option.bind_some _ _).symm.trans H;rw [hy114];with_reducible exact H2_) | (have H2_ := (Option.bind_some _ _).symm.trans H;with_reducible exact H2_) | with_reducible exact H | (rw [hy114];exact H) | exact H
   have Ny114 := m0_ hy114
   clear hy114
   by_cases c28 : y114.length + t104.length < 2932031007402
   rotate_left
   ·rw [if_neg c28] at H
    exact absurd H (by simp)
   rw [if_pos c28] at H
   have LMc28 := m0_ c28
   clear c28
   obtain ⟨y117, hy117⟩ : ∃ y_ : List (S29), y_ = (y114 ++ t104) := ⟨_, rfl⟩
   replace H : (if y117.length < 2932031007402 then (laws_FnExBent.l0 kj3 0 t101 t102 t103 t104 t101 t102 t103 (y117 ++ [(⟨1, 0, 0, ([] : List (S29))⟩ : S29)]) t101 t102 (wrap64 ((wrap64 (t103 + 20)) + 1)) t104 8 t102 t103 t104 t101 5 t103 t104) else (none)) = some r := by first | (rw [hy117];with_reducible exact H) | (have H2_ := (Option.bind_some _ _).symm.trans H;rw [hy117];with_reducible exact H2_) | (have H2_ := (Option.bind_some _ _).symm.trans H;with_reducible exact H2_) | with_reducible exact H | (rw [hy117];exact H) | exact H
   have Ny117 := m0_ hy117
   clear hy117
   by_cases c29 : y117.length < 2932031007402
   rotate_left
   ·rw [if_neg c29] at H
    exact absurd H (by simp)
   rw [if_pos c29] at H
   have LMc29 := m0_ c29
   clear c29
   obtain ⟨y120, hy120⟩ : ∃ y_ : List (S29), y_ = (y117 ++ [(⟨1, 0, 0, ([] : List (S29))⟩ : S29)]) := ⟨_, rfl⟩
   replace H : (laws_FnExBent.l0 kj3 0 t101 t102 t103 t104 t101 t102 t103 y120 t101 t102 (wrap64 ((wrap64 (t103 + 20)) + 1)) t104 8 t102 t103 t104 t101 5 t103 t104) = some r := by first | (rw [hy120];with_reducible exact H) | (have H2_ := (Option.bind_some _ _).symm.trans H;rw [hy120];with_reducible exact H2_) | (have H2_ := (Option.bind_some _ _).symm.trans H;with_reducible exact H2_) | with_reducible exact H | (rw [hy120];exact H) | exact H
   have Ny120 := m0_ hy120
   clear hy120
   have H' := m0_ H
   clear H
   obtain ⟨hcz30_0, hcz30_1, hcz30_2, hcz30_3, hfz30_0, hfz30_1, hfz30_2, hfz30_3⟩ := bx4 BK107.out
   go_wp2_with (first | ((with_reducible refine gate_dst (N := 4) rfl ?_);(try (refine gate_guard (by rfl) ?_;dsimp only));refine box_event ?hg (N := 4) ?hd (cs := #[.int .i64 0, .int .i64 0, .int .i64 0, .slice none 0 0]) (t := 29) ?hr ?_;(case hd => rfl);(case hg => rfl);(case hr => first | (go_simp;done) | (go_simp;rfl));intro gb113 hg w31 hbox hb;have n0_ := m0_ (Kd.N_below (Kd.N_elderB (by (with_reducible repeat (first | apply Kd.N_alloc | apply Kd.N_drewN | apply Kd.N_drew));exact HO_108003.out) gb113 (Nat.le_of_eq hg.symm)) hb);have n1_ := m0_ (blk_below BK107.out hb);have n2_ := m0_ (below_step (by repeat (first | (with_reducible first | exact HB.out | apply below_alloc | apply pw_below_drewN | apply below_drew1 | refine below_set ?_ GE107.out) | exact HB.out)) hb);have n3_ := m0_ (hbox);have n4_ := m0_ ((by rw [hg];exact (below_size (by repeat (first | (with_reducible first | exact HB.out | apply below_alloc | apply pw_below_drewN | apply below_drew1 | refine below_set ?_ GE107.out) | exact HB.out))) : w.heap.size ≤ gb113));have n5_ := m0_ ((by rw [hg];exact (below_size (by repeat (first | (with_reducible first | exact HB.out | apply below_alloc | apply pw_below_drewN | apply below_drew1 | refine below_set ?_ GE107.out) | exact HB.out))) : w.heap.size ≤ gb113));have n6_ := m0_ ((by rw [hg];exact Nat.ne_of_lt (blk_lt BK107.out) : gb107 ≠ gb113));have n7_ := m0_ ((by rw [hg];exact Nat.ne_of_gt (blk_lt BK107.out) : gb113 ≠ gb107));clear HO_108003;clear BK107;clear HB;have HO_108003 := n0_;have BK107 := n1_;have HB := n2_;have BK113 := n3_;have GW113 := n4_;have GE113 := n5_;have NB107_113 := n6_;have NB113_107 := n7_;clear n0_ n1_ n2_ n3_ n4_ n5_ n6_ n7_;clear hb hbox hg;have hnb32 := NB113_107.out;have hnc32 := NB107_113.out;obtain ⟨hcz33_0, hcz33_1, hcz33_2, hcz33_3, hfz33_0, hfz33_1, hfz33_2, hfz33_3⟩ := bx4 BK113.out) | ((with_reducible refine gate_dst (N := 30) rfl ?_);(try (refine gate_guard (by rfl) ?_;dsimp only));refine Kd.N_lit k29 _ 29 ?hg (N' := 30) ?hd (xs := ([] : List (S29))) (inner := []) (ok := (fun k_ => some k_ ≠ (.slice Ao8 t104.length co8 : Value).ownBlock ∧ k_ ≠ gb107 ∧ k_ ≠ gb113)) (okp := (fun k_ => some k_ ≠ (.slice Ao8 t104.length co8 : Value).ownBlock ∧ k_ ≠ gb107 ∧ k_ ≠ gb113)) ?hr ?hp (fun _ hk => hk) ((show ∀ k_, ((((w31.setCell ⟨gb113, 0, none⟩ (.int .i64 t101)).setCell ⟨gb113, 1, none⟩ (.int .i64 t102)).setCell ⟨gb113, 2, none⟩ (.int .i64 t103)).setCell ⟨gb113, 3, none⟩ (.slice Ao8 t104.length co8)).heap.size ≤ k_ → (fun k_ => some k_ ≠ (.slice Ao8 t104.length co8 : Value).ownBlock ∧ k_ ≠ gb107 ∧ k_ ≠ gb113) k_ from fun k_ hk => ⟨Kd.fresh' (Kd.N_lt (by (with_reducible repeat (first | apply Kd.N_alloc | apply Kd.N_drewN | apply Kd.N_drew));exact (Kd.N_mono (Kd.N_far (p := ⟨gb113, 3, none⟩) (Kd.N_far (p := ⟨gb113, 2, none⟩) (Kd.N_far (p := ⟨gb113, 1, none⟩) (Kd.N_far (p := ⟨gb113, 0, none⟩) (Kd.N_mono HO_108003.out (fun k_ hk => (⟨hk, hk.2⟩ : _ ∧ k_ ≠ gb113))) (fun _ hk => hk.2) (.int .i64 t101)) (fun _ hk => hk.2) (.int .i64 t102)) (fun _ hk => hk.2) (.int .i64 t103)) (fun _ hk => hk.2) (.slice Ao8 t104.length co8)) (fun _ h_ => h_.1)))) k_ hk, Kd.freshB (g := gb107) (o := .cells #[.int .i64 t101, .int .i64 t102, .int .i64 t103, .slice Ao8 t104.length co8] 29 (0, 0)) (by (with_reducible repeat (first | refine blk_drewN ?_ _ | refine blk_drew ?_ | refine blk_alloc ?_ _));refine blk_far ?_ NB107_113.out _;(with_reducible repeat (first | refine blk_drewN ?_ _ | refine blk_drew ?_ | refine blk_alloc ?_ _));refine blk_far ?_ NB107_113.out _;(with_reducible repeat (first | refine blk_drewN ?_ _ | refine blk_drew ?_ | refine blk_alloc ?_ _));refine blk_far ?_ NB107_113.out _;(with_reducible repeat (first | refine blk_drewN ?_ _ | refine blk_drew ?_ | refine blk_alloc ?_ _));refine blk_far ?_ NB107_113.out _;(with_reducible repeat (first | refine blk_drewN ?_ _ | refine blk_drew ?_ | refine blk_alloc ?_ _));exact BK107.out) k_ hk, Kd.freshB (g := gb113) (o := .cells #[.int .i64 t101, .int .i64 t102, .int .i64 t103, .slice Ao8 t104.length co8] 29 (0, 0)) (by (with_reducible repeat (first | refine blk_drewN ?_ _ | refine blk_drew ?_ | refine blk_alloc ?_ _));refine blk_put (cs := #[.int .i64 t101, .int .i64 t102, .int .i64 t103, .slice none 0 0]) ?_ 3 _ rfl;(with_reducible repeat (first | refine blk_drewN ?_ _ | refine blk_drew ?_ | refine blk_alloc ?_ _));refine blk_put (cs := #[.int .i64 t101, .int .i64 t102, .int .i64 0, .slice none 0 0]) ?_ 2 _ rfl;(with_reducible repeat (first | refine blk_drewN ?_ _ | refine blk_drew ?_ | refine blk_alloc ?_ _));refine blk_put (cs := #[.int .i64 t101, .int .i64 0, .int .i64 0, .slice none 0 0]) ?_ 1 _ rfl;(with_reducible repeat (first | refine blk_drewN ?_ _ | refine blk_drew ?_ | refine blk_alloc ?_ _));refine blk_put (cs := #[.int .i64 0, .int .i64 0, .int .i64 0, .slice none 0 0]) ?_ 0 _ rfl;(with_reducible repeat (first | refine blk_drewN ?_ _ | refine blk_drew ?_ | refine blk_alloc ?_ _));exact BK113.out) k_ hk⟩) _ (Nat.le_refl _)) (Below.refl _ _) (Nat.le_refl _) (by simp) ?_;(case hd => rfl);(case hg => rfl);(case hr => first | (go_simp;done) | (go_simp;rfl));(case hp => exact (Reps.none _ _));intro v115 w34 ho35 hb hg_ hnew_;clear hg_ hnew_;(first | rw [← Ny114.out] at ho35 | (simp only [Int.reduceToNat] at ho35;rw [← Ny114.out] at ho35));have n0_ := m0_ (Kd.N_elder' (by (with_reducible repeat (first | apply Kd.N_alloc | apply Kd.N_drewN | apply Kd.N_drew));exact (Kd.N_mono (Kd.N_far (p := ⟨gb113, 3, none⟩) (Kd.N_far (p := ⟨gb113, 2, none⟩) (Kd.N_far (p := ⟨gb113, 1, none⟩) (Kd.N_far (p := ⟨gb113, 0, none⟩) (Kd.N_mono HO_108003.out (fun k_ hk => (⟨hk, hk.2⟩ : _ ∧ k_ ≠ gb113))) (fun _ hk => hk.2) (.int .i64 t101)) (fun _ hk => hk.2) (.int .i64 t102)) (fun _ hk => hk.2) (.int .i64 t103)) (fun _ hk => hk.2) (.slice Ao8 t104.length co8)) (fun _ h_ => h_.1))) (by first | exact Kd.N_base ho35 | exact Kd.S_base ho35 | exact Kd.R_base ho35) hb);have n1_ := m0_ (Kd.N_lower ho35 (below_size (by repeat (first | (with_reducible first | exact HB.out | apply below_alloc | apply pw_below_drewN | apply below_drew1 | refine below_set ?_ GE107.out | refine below_set ?_ GE113.out) | exact HB.out))));have n2_ := m0_ (blk_below (g := gb107) (o := .cells #[.int .i64 t101, .int .i64 t102, .int .i64 t103, .slice Ao8 t104.length co8] 29 (0, 0)) (by (with_reducible repeat (first | refine blk_drewN ?_ _ | refine blk_drew ?_ | refine blk_alloc ?_ _));refine blk_far ?_ NB107_113.out _;(with_reducible repeat (first | refine blk_drewN ?_ _ | refine blk_drew ?_ | refine blk_alloc ?_ _));refine blk_far ?_ NB107_113.out _;(with_reducible repeat (first | refine blk_drewN ?_ _ | refine blk_drew ?_ | refine blk_alloc ?_ _));refine blk_far ?_ NB107_113.out _;(with_reducible repeat (first | refine blk_drewN ?_ _ | refine blk_drew ?_ | refine blk_alloc ?_ _));refine blk_far ?_ NB107_113.out _;(with_reducible repeat (first | refine blk_drewN ?_ _ | refine blk_drew ?_ | refine blk_alloc ?_ _));exact BK107.out) hb);have n3_ := m0_ (blk_below (g := gb113) (o := .cells #[.int .i64 t101, .int .i64 t102, .int .i64 t103, .slice Ao8 t104.length co8] 29 (0, 0)) (by (with_reducible repeat (first | refine blk_drewN ?_ _ | refine blk_drew ?_ | refine blk_alloc ?_ _));refine blk_put (cs := #[.int .i64 t101, .int .i64 t102, .int .i64 t103, .slice none 0 0]) ?_ 3 _ rfl;(with_reducible repeat (first | refine blk_drewN ?_ _ | refine blk_drew ?_ | refine blk_alloc ?_ _));refine blk_put (cs := #[.int .i64 t101, .int .i64 t102, .int .i64 0, .slice none 0 0]) ?_ 2 _ rfl;(with_reducible repeat (first | refine blk_drewN ?_ _ | refine blk_drew ?_ | refine blk_alloc ?_ _));refine blk_put (cs := #[.int .i64 t101, .int .i64 0, .int .i64 0, .slice none 0 0]) ?_ 1 _ rfl;(with_reducible repeat (first | refine blk_drewN ?_ _ | refine blk_drew ?_ | refine blk_alloc ?_ _));refine blk_put (cs := #[.int .i64 0, .int .i64 0, .int .i64 0, .slice none 0 0]) ?_ 0 _ rfl;(with_reducible repeat (first | refine blk_drewN ?_ _ | refine blk_drew ?_ | refine blk_alloc ?_ _));exact BK113.out) hb);have n4_ := m0_ (below_step (by repeat (first | (with_reducible first | exact HB.out | apply below_alloc | apply pw_below_drewN | apply below_drew1 | refine below_set ?_ GE107.out | refine below_set ?_ GE113.out) | exact HB.out)) hb);clear HO_108003;clear BK107;clear BK113;clear HB;have HO_108003 := n0_;have HO116 := n1_;have BK107 := n2_;have BK113 := n3_;have HB := n4_;clear n0_ n1_ n2_ n3_ n4_;clear hb ho35;obtain ⟨hcz36_0, hcz36_1, hcz36_2, hcz36_3, hfz36_0, hfz36_1, hfz36_2, hfz36_3⟩ := bx4 BK107.out) | ((with_reducible refine gate_builtin (b := .append) (xs := #[.tmp 30, .tmp 32]) rfl ?_);(try (refine gate_guard (by rfl) ?_;dsimp only));at_builtin;refine Kd.N_append_rows k29 (w0 := w) w.heap.size rfl (.tmp 30) (.tmp 32) 27 29 (.agg #[(.int .i64 0), (.int .i64 0), (.int .i64 0), (.slice none 0 0)]) 48 rfl Tryd.underlying27 info29 rfl (by decide) (by omega) v115 y114 t104 _ _ _ (fun k_ => k_ ≠ gb107 ∧ k_ ≠ gb113) (fun k_ => ((fun k_ => k_ ≠ gb107 ∧ k_ ≠ gb113)) k_ ∧ some k_ ≠ (v115 : Value).ownBlock) rfl rfl ?aO ?aR (fun _ hk => hk) ?aF ?aB ?aS ?aL ?_;(case aR => exact (by skip;exact Kd.N_F (Kd.N_mono (ok' := (fun k_ => ((fun k_ => k_ ≠ gb107 ∧ k_ ≠ gb113)) k_ ∧ some k_ ≠ (v115 : Value).ownBlock)) (HO_108003.out) (fun k_ hk => ⟨⟨hk.1.1, hk.1.2⟩, hk.2⟩))));(case aB => exact (by repeat (first | (with_reducible first | exact HB.out | apply below_alloc | apply pw_below_drewN | apply below_drew1 | refine below_set ?_ GE107.out | refine below_set ?_ GE113.out) | exact HB.out)));(case aF => exact (fun k_ hk => ⟨Kd.freshB BK107.out k_ hk, Kd.freshB BK113.out k_ hk⟩));(case aO => exact (by (with_reducible repeat (first | apply Kd.N_alloc | apply Kd.N_drewN | apply Kd.N_drew));exact Kd.N_mono HO116.out (fun _ hk => ⟨hk.2.1, hk.2.2⟩)));(case aS => exact (below_size (by repeat (first | (with_reducible first | exact HB.out | apply below_alloc | apply pw_below_drewN | apply below_drew1 | refine below_set ?_ GE107.out | refine below_set ?_ GE113.out) | exact HB.out))));(case aL => have := LMc28.out;omega);intro v118 w37 ho hb hg hat;rw [← Ny117.out] at ho;have n0_ := m0_ (Kd.N_afterv (ok := (fun k_ => k_ ≠ gb107 ∧ k_ ≠ gb113)) (by (with_reducible repeat (first | apply Kd.N_alloc | apply Kd.N_drewN | apply Kd.N_drew));exact HO_108003.out) hg hat);have n1_ := m0_ (blk_grown BK107.out hg (Kd.N_away HO116.out (fun _ hk => hk.2.1)));have n2_ := m0_ (blk_grown BK113.out hg (Kd.N_away HO116.out (fun _ hk => hk.2.2)));have n3_ := m0_ (hb);have n4_ := m0_ (ho);clear HO_108003;clear BK107;clear BK113;clear HB;clear HO116;have HO_108003 := n0_;have BK107 := n1_;have BK113 := n2_;have HB := n3_;have HO119 := n4_;clear n0_ n1_ n2_ n3_ n4_;clear ho hb hg hat) | ((with_reducible refine gate_builtin (b := .append) (xs := #[.tmp 33, .tmp 35]) rfl ?_);(try (refine gate_guard (by rfl) ?_;dsimp only));at_builtin;refine Kd.N_append k29 (w0 := w) w.heap.size rfl (.tmp 33) (.tmp 35) 27 29 (.agg #[(.int .i64 0), (.int .i64 0), (.int .i64 0), (.slice none 0 0)]) 48 rfl Tryd.underlying27 info29 rfl (by decide) (by omega) v118 y117 (⟨1, 0, 0, ([] : List (S29))⟩ : S29) [.int .i64 1, .int .i64 0, .int .i64 0, .slice none 0 0] (fun k_ => k_ ≠ gb107 ∧ k_ ≠ gb113) (fun k_ => ((fun k_ => k_ ≠ gb107 ∧ k_ ≠ gb113)) k_ ∧ some k_ ≠ (v118 : Value).ownBlock) rfl rfl ?aP (fun _ hk => hk) ?aF ?aO ?aB ?aS ?aL ?_;(case aP => exact (k29_mkF _ _ (⟨1, 0, 0, ([] : List (S29))⟩ : S29) (Nat.le_refl _) (Kd.F_nil _ _ _)));(case aB => exact (by repeat (first | (with_reducible first | exact HB.out | apply below_alloc | apply pw_below_drewN | apply below_drew1 | refine below_set ?_ GE107.out | refine below_set ?_ GE113.out) | exact HB.out)));(case aF => exact (fun k_ hk => ⟨Kd.freshB BK107.out k_ hk, Kd.freshB BK113.out k_ hk⟩));(case aO => exact (by (with_reducible repeat (first | apply Kd.N_alloc | apply Kd.N_drewN | apply Kd.N_drew));exact HO119.out));(case aS => exact (below_size (by repeat (first | (with_reducible first | exact HB.out | apply below_alloc | apply pw_below_drewN | apply below_drew1 | refine below_set ?_ GE107.out | refine below_set ?_ GE113.out) | exact HB.out))));(case aL => have := LMc29.out;omega);intro v121 w38 ho hb hg hat;rw [← Ny120.out] at ho;have n0_ := m0_ (Kd.N_afterv (ok := (fun k_ => k_ ≠ gb107 ∧ k_ ≠ gb113)) (by (with_reducible repeat (first | apply Kd.N_alloc | apply Kd.N_drewN | apply Kd.N_drew));exact HO_108003.out) hg hat);have n1_ := m0_ (blk_grown BK107.out hg (Kd.N_away HO119.out (fun _ hk => hk.1)));have n2_ := m0_ (blk_grown BK113.out hg (Kd.N_away HO119.out (fun _ hk => hk.2)));have n3_ := m0_ (hb);have n4_ := m0_ (ho);clear HO_108003;clear BK107;clear BK113;clear HB;clear HO119;have HO_108003 := n0_;have BK107 := n1_;have BK113 := n2_;have HB := n3_;have HO122 := n4_;clear n0_ n1_ n2_ n3_ n4_;clear ho hb hg hat;obtain ⟨Ao39, co39, eo39⟩ := Kd.N_slice HO122.out;subst eo39;obtain ⟨hcz40_0, hcz40_1, hcz40_2, hcz40_3, hfz40_0, hfz40_1, hfz40_2, hfz40_3⟩ := bx4 BK113.out;obtain ⟨hcz41_0, hcz41_1, hcz41_2, hcz41_3, hfz41_0, hfz41_1, hfz41_2, hfz41_3⟩ := bx4 BK107.out) | ((with_reducible refine gate_dst (N := 5) rfl ?_);(try (refine gate_guard (by rfl) ?_;dsimp only));refine box_event ?hg (N := 5) ?hd (cs := #[.int .i64 0, .int .i64 0, .int .i64 0, .slice none 0 0]) (t := 29) ?hr ?_;(case hd => rfl);(case hg => rfl);(case hr => first | (go_simp;done) | (go_simp;rfl));intro gb123 hg w42 hbox hb;have n0_ := m0_ (Kd.N_below (Kd.N_elderB (by (with_reducible repeat (first | apply Kd.N_alloc | apply Kd.N_drewN | apply Kd.N_drew));exact (Kd.N_mono (Kd.N_far (p := ⟨gb113, 3, none⟩) (Kd.N_mono HO_108003.out (fun k_ hk => (⟨hk, hk.1.2⟩ : _ ∧ k_ ≠ gb113))) (fun _ hk => hk.2) (.slice Ao39 y120.length co39)) (fun _ h_ => h_.1))) gb123 (Nat.le_of_eq hg.symm)) hb);have n1_ := m0_ (Kd.N_below (Kd.N_elderB (by (with_reducible repeat (first | apply Kd.N_alloc | apply Kd.N_drewN | apply Kd.N_drew));exact (Kd.N_mono (Kd.N_far (p := ⟨gb113, 3, none⟩) (Kd.N_mono HO122.out (fun k_ hk => (⟨hk, hk.2⟩ : _ ∧ k_ ≠ gb113))) (fun _ hk => hk.2) (.slice Ao39 y120.length co39)) (fun _ h_ => h_.1))) gb123 (Nat.le_of_eq hg.symm)) hb);have n2_ := m0_ (blk_below (g := gb107) (o := .cells #[.int .i64 t101, .int .i64 t102, .int .i64 t103, .slice Ao8 t104.length co8] 29 (0, 0)) (by (with_reducible repeat (first | refine blk_drewN ?_ _ | refine blk_drew ?_ | refine blk_alloc ?_ _));refine blk_far ?_ NB107_113.out _;(with_reducible repeat (first | refine blk_drewN ?_ _ | refine blk_drew ?_ | refine blk_alloc ?_ _));exact BK107.out) hb);have n3_ := m0_ (blk_below (g := gb113) (o := .cells #[.int .i64 t101, .int .i64 t102, .int .i64 t103, .slice Ao39 y120.length co39] 29 (0, 0)) (by (with_reducible repeat (first | refine blk_drewN ?_ _ | refine blk_drew ?_ | refine blk_alloc ?_ _));refine blk_put (cs := #[.int .i64 t101, .int .i64 t102, .int .i64 t103, .slice Ao8 t104.length co8]) ?_ 3 _ rfl;(with_reducible repeat (first | refine blk_drewN ?_ _ | refine blk_drew ?_ | refine blk_alloc ?_ _));exact BK113.out) hb);have n4_ := m0_ (below_step (by repeat (first | (with_reducible first | exact HB.out | apply below_alloc | apply pw_below_drewN | apply below_drew1 | refine below_set ?_ GE107.out | refine below_set ?_ GE113.out) | exact HB.out)) hb);have n5_ := m0_ (hbox);have n6_ := m0_ ((by rw [hg];exact (below_size (by repeat (first | (with_reducible first | exact HB.out | apply below_alloc | apply pw_below_drewN | apply below_drew1 | refine below_set ?_ GE107.out | refine below_set ?_ GE113.out) | exact HB.out))) : w.heap.size ≤ gb123));have n7_ := m0_ ((by rw [hg];exact (below_size (by repeat (first | (with_reducible first | exact HB.out | apply below_alloc | apply pw_below_drewN | apply below_drew1 | refine below_set ?_ GE107.out | refine below_set ?_ GE113.out) | exact HB.out))) : w.heap.size ≤ gb123));have n8_ := m0_ ((by rw [hg];exact Nat.ne_of_lt (blk_lt (g := gb107) (o := .cells #[.int .i64 t101, .int .i64 t102, .int .i64 t103, .slice Ao8 t104.length co8] 29 (0, 0)) (by (with_reducible repeat (first | refine blk_drewN ?_ _ | refine blk_drew ?_ | refine blk_alloc ?_ _));refine blk_far ?_ NB107_113.out _;(with_reducible repeat (first | refine blk_drewN ?_ _ | refine blk_drew ?_ | refine blk_alloc ?_ _));exact BK107.out)) : gb107 ≠ gb123));have n9_ := m0_ ((by rw [hg];exact Nat.ne_of_gt (blk_lt (g := gb107) (o := .cells #[.int .i64 t101, .int .i64 t102, .int .i64 t103, .slice Ao8 t104.length co8] 29 (0, 0)) (by (with_reducible repeat (first | refine blk_drewN ?_ _ | refine blk_drew ?_ | refine blk_alloc ?_ _));refine blk_far ?_ NB107_113.out _;(with_reducible repeat (first | refine blk_drewN ?_ _ | refine blk_drew ?_ | refine blk_alloc ?_ _));exact BK107.out)) : gb123 ≠ gb107));have n10_ := m0_ ((by rw [hg];exact Nat.ne_of_lt (blk_lt (g := gb113) (o := .cells #[.int .i64 t101, .int .i64 t102, .int .i64 t103, .slice Ao39 y120.length co39] 29 (0, 0)) (by (with_reducible repeat (first | refine blk_drewN ?_ _ | refine blk_drew ?_ | refine blk_alloc ?_ _));refine blk_put (cs := #[.int .i64 t101, .int .i64 t102, .int .i64 t103, .slice Ao8 t104.length co8]) ?_ 3 _ rfl;(with_reducible repeat (first | refine blk_drewN ?_ _ | refine blk_drew ?_ | refine blk_alloc ?_ _));exact BK113.out)) : gb113 ≠ gb123));have n11_ := m0_ ((by rw [hg];exact Nat.ne_of_gt (blk_lt (g := gb113) (o := .cells #[.int .i64 t101, .int .i64 t102, .int .i64 t103, .slice Ao39 y120.length co39] 29 (0, 0)) (by (with_reducible repeat (first | refine blk_drewN ?_ _ | refine blk_drew ?_ | refine blk_alloc ?_ _));refine blk_put (cs := #[.int .i64 t101, .int .i64 t102, .int .i64 t103, .slice Ao8 t104.length co8]) ?_ 3 _ rfl;(with_reducible repeat (first | refine blk_drewN ?_ _ | refine blk_drew ?_ | refine blk_alloc ?_ _));exact BK113.out)) : gb123 ≠ gb113));clear HO_108003;clear HO122;clear BK107;clear BK113;clear HB;have HO_108003 := n0_;have HO122 := n1_;have BK107 := n2_;have BK113 := n3_;have HB := n4_;have BK123 := n5_;have GW123 := n6_;have GE123 := n7_;have NB107_123 := n8_;have NB123_107 := n9_;have NB113_123 := n10_;have NB123_113 := n11_;clear n0_ n1_ n2_ n3_ n4_ n5_ n6_ n7_ n8_ n9_ n10_ n11_;clear hb hbox hg;have hnb43 := NB123_107.out;have hnc43 := NB107_123.out;have hnb44 := NB123_113.out;have hnc44 := NB113_123.out;obtain ⟨hcz45_0, hcz45_1, hcz45_2, hcz45_3, hfz45_0, hfz45_1, hfz45_2, hfz45_3⟩ := bx4 BK123.out;obtain ⟨hcz46_0, hcz46_1, hcz46_2, hcz46_3, hfz46_0, hfz46_1, hfz46_2, hfz46_3⟩ := bx4 BK107.out) | ((with_reducible refine gate_dst (N := 6) rfl ?_);(try (refine gate_guard (by rfl) ?_;dsimp only));refine box_event ?hg (N := 6) ?hd (cs := #[.int .i64 0, .int .i64 0, .int .i64 0, .slice none 0 0]) (t := 29) ?hr ?_;(case hd => rfl);(case hg => rfl);(case hr => first | (go_simp;done) | (go_simp;rfl));intro gb124 hg w47 hbox hb;have n0_ := m0_ (Kd.N_below (Kd.N_elderB (by (with_reducible repeat (first | apply Kd.N_alloc | apply Kd.N_drewN | apply Kd.N_drew));exact (Kd.N_mono (Kd.N_far (p := ⟨gb123, 2, none⟩) (Kd.N_far (p := ⟨gb123, 3, none⟩) (Kd.N_far (p := ⟨gb123, 2, none⟩) (Kd.N_far (p := ⟨gb123, 1, none⟩) (Kd.N_far (p := ⟨gb123, 0, none⟩) (Kd.N_mono HO_108003.out (fun k_ hk => (⟨hk, hk.2⟩ : _ ∧ k_ ≠ gb123))) (fun _ hk => hk.2) (.int .i64 t101)) (fun _ hk => hk.2) (.int .i64 t102)) (fun _ hk => hk.2) (.int .i64 t103)) (fun _ hk => hk.2) (.slice Ao8 t104.length co8)) (fun _ hk => hk.2) (.int .i64 (wrap64 ((wrap64 (t103 + 20)) + 1)))) (fun _ h_ => h_.1))) gb124 (Nat.le_of_eq hg.symm)) hb);have n1_ := m0_ (Kd.N_below (Kd.N_elderB (by (with_reducible repeat (first | apply Kd.N_alloc | apply Kd.N_drewN | apply Kd.N_drew));exact (Kd.N_mono (Kd.N_far (p := ⟨gb123, 2, none⟩) (Kd.N_far (p := ⟨gb123, 3, none⟩) (Kd.N_far (p := ⟨gb123, 2, none⟩) (Kd.N_far (p := ⟨gb123, 1, none⟩) (Kd.N_far (p := ⟨gb123, 0, none⟩) (Kd.N_mono HO122.out (fun k_ hk => (⟨hk, hk.2⟩ : _ ∧ k_ ≠ gb123))) (fun _ hk => hk.2) (.int .i64 t101)) (fun _ hk => hk.2) (.int .i64 t102)) (fun _ hk => hk.2) (.int .i64 t103)) (fun _ hk => hk.2) (.slice Ao8 t104.length co8)) (fun _ hk => hk.2) (.int .i64 (wrap64 ((wrap64 (t103 + 20)) + 1)))) (fun _ h_ => h_.1))) gb124 (Nat.le_of_eq hg.symm)) hb);have n2_ := m0_ (blk_below (g := gb107) (o := .cells #[.int .i64 t101, .int .i64 t102, .int .i64 t103, .slice Ao8 t104.length co8] 29 (0, 0)) (by (with_reducible repeat (first | refine blk_drewN ?_ _ | refine blk_drew ?_ | refine blk_alloc ?_ _));refine blk_far ?_ NB107_123.out _;(with_reducible repeat (first | refine blk_drewN ?_ _ | refine blk_drew ?_ | refine blk_alloc ?_ _));refine blk_far ?_ NB107_123.out _;(with_reducible repeat (first | refine blk_drewN ?_ _ | refine blk_drew ?_ | refine blk_alloc ?_ _));refine blk_far ?_ NB107_123.out _;(with_reducible repeat (first | refine blk_drewN ?_ _ | refine blk_drew ?_ | refine blk_alloc ?_ _));refine blk_far ?_ NB107_123.out _;(with_reducible repeat (first | refine blk_drewN ?_ _ | refine blk_drew ?_ | refine blk_alloc ?_ _));refine blk_far ?_ NB107_123.out _;(with_reducible repeat (first | refine blk_drewN ?_ _ | refine blk_drew ?_ | refine blk_alloc ?_ _));exact BK107.out) hb);have n3_ := m0_ (blk_below (g := gb113) (o := .cells #[.int .i64 t101, .int .i64 t102, .int .i64 t103, .slice Ao39 y120.length co39] 29 (0, 0)) (by (with_reducible repeat (first | refine blk_drewN ?_ _ | refine blk_drew ?_ | refine blk_alloc ?_ _));refine blk_far ?_ NB113_123.out _;(with_reducible repeat (first | refine blk_drewN ?_ _ | refine blk_drew ?_ | refine blk_alloc ?_ _));refine blk_far ?_ NB113_123.out _;(with_reducible repeat (first | refine blk_drewN ?_ _ | refine blk_drew ?_ | refine blk_alloc ?_ _));refine blk_far ?_ NB113_123.out _;(with_reducible repeat (first | refine blk_drewN ?_ _ | refine blk_drew ?_ | refine blk_alloc ?_ _));refine blk_far ?_ NB113_123.out _;(with_reducible repeat (first | refine blk_drewN ?_ _ | refine blk_drew ?_ | refine blk_alloc ?_ _));refine blk_far ?_ NB113_123.out _;(with_reducible repeat (first | refine blk_drewN ?_ _ | refine blk_drew ?_ | refine blk_alloc ?_ _));exact BK113.out) hb);have n4_ := m0_ (blk_below (g := gb123) (o := .cells #[.int .i64 t101, .int .i64 t102, .int .i64 (wrap64 ((wrap64 (t103 + 20)) + 1)), .slice Ao8 t104.length co8] 29 (0, 0)) (by (with_reducible repeat (first | refine blk_drewN ?_ _ | refine blk_drew ?_ | refine blk_alloc ?_ _));refine blk_put (cs := #[.int .i64 t101, .int .i64 t102, .int .i64 t103, .slice Ao8 t104.length co8]) ?_ 2 _ rfl;(with_reducible repeat (first | refine blk_drewN ?_ _ | refine blk_drew ?_ | refine blk_alloc ?_ _));refine blk_put (cs := #[.int .i64 t101, .int .i64 t102, .int .i64 t103, .slice none 0 0]) ?_ 3 _ rfl;(with_reducible repeat (first | refine blk_drewN ?_ _ | refine blk_drew ?_ | refine blk_alloc ?_ _));refine blk_put (cs := #[.int .i64 t101, .int .i64 t102, .int .i64 0, .slice none 0 0]) ?_ 2 _ rfl;(with_reducible repeat (first | refine blk_drewN ?_ _ | refine blk_drew ?_ | refine blk_alloc ?_ _));refine blk_put (cs := #[.int .i64 t101, .int .i64 0, .int .i64 0, .slice none 0 0]) ?_ 1 _ rfl;(with_reducible repeat (first | refine blk_drewN ?_ _ | refine blk_drew ?_ | refine blk_alloc ?_ _));refine blk_put (cs := #[.int .i64 0, .int .i64 0, .int .i64 0, .slice none 0 0]) ?_ 0 _ rfl;(with_reducible repeat (first | refine blk_drewN ?_ _ | refine blk_drew ?_ | refine blk_alloc ?_ _));exact BK123.out) hb);have n5_ := m0_ (below_step (by repeat (first | (with_reducible first | exact HB.out | apply below_alloc | apply pw_below_drewN | apply below_drew1 | refine below_set ?_ GE107.out | refine below_set ?_ GE113.out | refine below_set ?_ GE123.out) | exact HB.out)) hb);have n6_ := m0_ (hbox);have n7_ := m0_ ((by rw [hg];exact (below_size (by repeat (first | (with_reducible first | exact HB.out | apply below_alloc | apply pw_below_drewN | apply below_drew1 | refine below_set ?_ GE107.out | refine below_set ?_ GE113.out | refine below_set ?_ GE123.out) | exact HB.out))) : w.heap.size ≤ gb124));have n8_ := m0_ ((by rw [hg];exact (below_size (by repeat (first | (with_reducible first | exact HB.out | apply below_alloc | apply pw_below_drewN | apply below_drew1 | refine below_set ?_ GE107.out | refine below_set ?_ GE113.out | refine below_set ?_ GE123.out) | exact HB.out))) : w.heap.size ≤ gb124));have n9_ := m0_ ((by rw [hg];exact Nat.ne_of_lt (blk_lt (g := gb107) (o := .cells #[.int .i64 t101, .int .i64 t102, .int .i64 t103, .slice Ao8 t104.length co8] 29 (0, 0)) (by (with_reducible repeat (first | refine blk_drewN ?_ _ | refine blk_drew ?_ | refine blk_alloc ?_ _));refine blk_far ?_ NB107_123.out _;(with_reducible repeat (first | refine blk_drewN ?_ _ | refine blk_drew ?_ | refine blk_alloc ?_ _));refine blk_far ?_ NB107_123.out _;(with_reducible repeat (first | refine blk_drewN ?_ _ | refine blk_drew ?_ | refine blk_alloc ?_ _));refine blk_far ?_ NB107_123.out _;(with_reducible repeat (first | refine blk_drewN ?_ _ | refine blk_drew ?_ | refine blk_alloc ?_ _));refine blk_far ?_ NB107_123.out _;(with_reducible repeat (first | refine blk_drewN ?_ _ | refine blk_drew ?_ | refine blk_alloc ?_ _));refine blk_far ?_ NB107_123.out _;(with_reducible repeat (first | refine blk_drewN ?_ _ | refine blk_drew ?_ | refine blk_alloc ?_ _));exact BK107.out)) : gb107 ≠ gb124));have n10_ := m0_ ((by rw [hg];exact Nat.ne_of_gt (blk_lt (g := gb107) (o := .cells #[.int .i64 t101, .int .i64 t102, .int .i64 t103, .slice Ao8 t104.length co8] 29 (0, 0)) (by (with_reducible repeat (first | refine blk_drewN ?_ _ | refine blk_drew ?_ | refine blk_alloc ?_ _));refine blk_far ?_ NB107_123.out _;(with_reducible repeat (first | refine blk_drewN ?_ _ | refine blk_drew ?_ | refine blk_alloc ?_ _));refine blk_far ?_ NB107_123.out _;(with_reducible repeat (first | refine blk_drewN ?_ _ | refine blk_drew ?_ | refine blk_alloc ?_ _));refine blk_far ?_ NB107_123.out _;(with_reducible repeat (first | refine blk_drewN ?_ _ | refine blk_drew ?_ | refine blk_alloc ?_ _));refine blk_far ?_ NB107_123.out _;(with_reducible repeat (first | refine blk_drewN ?_ _ | refine blk_drew ?_ | refine blk_alloc ?_ _));refine blk_far ?_ NB107_123.out _;(with_reducible repeat (first | refine blk_drewN ?_ _ | refine blk_drew ?_ | refine blk_alloc ?_ _));exact BK107.out)) : gb124 ≠ gb107));have n11_ := m0_ ((by rw [hg];exact Nat.ne_of_lt (blk_lt (g := gb113) (o := .cells #[.int .i64 t101, .int .i64 t102, .int .i64 t103, .slice Ao39 y120.length co39] 29 (0, 0)) (by (with_reducible repeat (first | refine blk_drewN ?_ _ | refine blk_drew ?_ | refine blk_alloc ?_ _));refine blk_far ?_ NB113_123.out _;(with_reducible repeat (first | refine blk_drewN ?_ _ | refine blk_drew ?_ | refine blk_alloc ?_ _));refine blk_far ?_ NB113_123.out _;(with_reducible repeat (first | refine blk_drewN ?_ _ | refine blk_drew ?_ | refine blk_alloc ?_ _));refine blk_far ?_ NB113_123.out _;(with_reducible repeat (first | refine blk_drewN ?_ _ | refine blk_drew ?_ | refine blk_alloc ?_ _));refine blk_far ?_ NB113_123.out _;(with_reducible repeat (first | refine blk_drewN ?_ _ | refine blk_drew ?_ | refine blk_alloc ?_ _));refine blk_far ?_ NB113_123.out _;(with_reducible repeat (first | refine blk_drewN ?_ _ | refine blk_drew ?_ | refine blk_alloc ?_ _));exact BK113.out)) : gb113 ≠ gb124));have n12_ := m0_ ((by rw [hg];exact Nat.ne_of_gt (blk_lt (g := gb113) (o := .cells #[.int .i64 t101, .int .i64 t102, .int .i64 t103, .slice Ao39 y120.length co39] 29 (0, 0)) (by (with_reducible repeat (first | refine blk_drewN ?_ _ | refine blk_drew ?_ | refine blk_alloc ?_ _));refine blk_far ?_ NB113_123.out _;(with_reducible repeat (first | refine blk_drewN ?_ _ | refine blk_drew ?_ | refine blk_alloc ?_ _));refine blk_far ?_ NB113_123.out _;(with_reducible repeat (first | refine blk_drewN ?_ _ | refine blk_drew ?_ | refine blk_alloc ?_ _));refine blk_far ?_ NB113_123.out _;(with_reducible repeat (first | refine blk_drewN ?_ _ | refine blk_drew ?_ | refine blk_alloc ?_ _));refine blk_far ?_ NB113_123.out _;(with_reducible repeat (first | refine blk_drewN ?_ _ | refine blk_drew ?_ | refine blk_alloc ?_ _));refine blk_far ?_ NB113_123.out _;(with_reducible repeat (first | refine blk_drewN ?_ _ | refine blk_drew ?_ | refine blk_alloc ?_ _));exact BK113.out)) : gb124 ≠ gb113));have n13_ := m0_ ((by rw [hg];exact Nat.ne_of_lt (blk_lt (g := gb123) (o := .cells #[.int .i64 t101, .int .i64 t102, .int .i64 (wrap64 ((wrap64 (t103 + 20)) + 1)), .slice Ao8 t104.length co8] 29 (0, 0)) (by (with_reducible repeat (first | refine blk_drewN ?_ _ | refine blk_drew ?_ | refine blk_alloc ?_ _));refine blk_put (cs := #[.int .i64 t101, .int .i64 t102, .int .i64 t103, .slice Ao8 t104.length co8]) ?_ 2 _ rfl;(with_reducible repeat (first | refine blk_drewN ?_ _ | refine blk_drew ?_ | refine blk_alloc ?_ _));refine blk_put (cs := #[.int .i64 t101, .int .i64 t102, .int .i64 t103, .slice none 0 0]) ?_ 3 _ rfl;(with_reducible repeat (first | refine blk_drewN ?_ _ | refine blk_drew ?_ | refine blk_alloc ?_ _));refine blk_put (cs := #[.int .i64 t101, .int .i64 t102, .int .i64 0, .slice none 0 0]) ?_ 2 _ rfl;(with_reducible repeat (first | refine blk_drewN ?_ _ | refine blk_drew ?_ | refine blk_alloc ?_ _));refine blk_put (cs := #[.int .i64 t101, .int .i64 0, .int .i64 0, .slice none 0 0]) ?_ 1 _ rfl;(with_reducible repeat (first | refine blk_drewN ?_ _ | refine blk_drew ?_ | refine blk_alloc ?_ _));refine blk_put (cs := #[.int .i64 0, .int .i64 0, .int .i64 0, .slice none 0 0]) ?_ 0 _ rfl;(with_reducible repeat (first | refine blk_drewN ?_ _ | refine blk_drew ?_ | refine blk_alloc ?_ _));exact BK123.out)) : gb123 ≠ gb124));have n14_ := m0_ ((by rw [hg];exact Nat.ne_of_gt (blk_lt (g := gb123) (o := .cells #[.int .i64 t101, .int .i64 t102, .int .i64 (wrap64 ((wrap64 (t103 + 20)) + 1)), .slice Ao8 t104.length co8] 29 (0, 0)) (by (with_reducible repeat (first | refine blk_drewN ?_ _ | refine blk_drew ?_ | refine blk_alloc ?_ _));refine blk_put (cs := #[.int .i64 t101, .int .i64 t102, .int .i64 t103, .slice Ao8 t104.length co8]) ?_ 2 _ rfl;(with_reducible repeat (first | refine blk_drewN ?_ _ | refine blk_drew ?_ | refine blk_alloc ?_ _));refine blk_put (cs := #[.int .i64 t101, .int .i64 t102, .int .i64 t103, .slice none 0 0]) ?_ 3 _ rfl;(with_reducible repeat (first | refine blk_drewN ?_ _ | refine blk_drew ?_ | refine blk_alloc ?_ _));refine blk_put (cs := #[.int .i64 t101, .int .i64 t102, .int .i64 0, .slice none 0 0]) ?_ 2 _ rfl;(with_reducible repeat (first | refine blk_drewN ?_ _ | refine blk_drew ?_ | refine blk_alloc ?_ _));refine blk_put (cs := #[.int .i64 t101, .int .i64 0, .int .i64 0, .slice none 0 0]) ?_ 1 _ rfl;(with_reducible repeat (first | refine blk_drewN ?_ _ | refine blk_drew ?_ | refine blk_alloc ?_ _));refine blk_put (cs := #[.int .i64 0, .int .i64 0, .int .i64 0, .slice none 0 0]) ?_ 0 _ rfl;(with_reducible repeat (first | refine blk_drewN ?_ _ | refine blk_drew ?_ | refine blk_alloc ?_ _));exact BK123.out)) : gb124 ≠ gb123));clear HO_108003;clear HO122;clear BK107;clear BK113;clear BK123;clear HB;have HO_108003 := n0_;have HO122 := n1_;have BK107 := n2_;have BK113 := n3_;have BK123 := n4_;have HB := n5_;have BK124 := n6_;have GW124 := n7_;have GE124 := n8_;have NB107_124 := n9_;have NB124_107 := n10_;have NB113_124 := n11_;have NB124_113 := n12_;have NB123_124 := n13_;have NB124_123 := n14_;clear n0_ n1_ n2_ n3_ n4_ n5_ n6_ n7_ n8_ n9_ n10_ n11_ n12_ n13_ n14_;clear hb hbox hg;have hnb48 := NB124_107.out;have hnc48 := NB107_124.out;have hnb49 := NB124_113.out;have hnc49 := NB113_124.out;have hnb50 := NB124_123.out;have hnc50 := NB123_124.out;obtain ⟨hcz51_0, hcz51_1, hcz51_2, hcz51_3, hfz51_0, hfz51_1, hfz51_2, hfz51_3⟩ := bx4 BK124.out;obtain ⟨hcz52_0, hcz52_1, hcz52_2, hcz52_3, hfz52_0, hfz52_1, hfz52_2, hfz52_3⟩ := bx4 BK107.out) | ((with_reducible refine gate_dst (N := 7) rfl ?_);(try (refine gate_guard (by rfl) ?_;dsimp only));refine box_event ?hg (N := 7) ?hd (cs := #[.int .i64 0, .int .i64 0, .int .i64 0, .slice none 0 0]) (t := 29) ?hr ?_;(case hd => rfl);(case hg => rfl);(case hr => first | (go_simp;done) | (go_simp;rfl));intro gb125 hg w53 hbox hb;have n0_ := m0_ (Kd.N_below (Kd.N_elderB (by (with_reducible repeat (first | apply Kd.N_alloc | apply Kd.N_drewN | apply Kd.N_drew));exact (Kd.N_mono (Kd.N_far (p := ⟨gb124, 0, none⟩) (Kd.N_far (p := ⟨gb124, 3, none⟩) (Kd.N_far (p := ⟨gb124, 2, none⟩) (Kd.N_far (p := ⟨gb124, 1, none⟩) (Kd.N_far (p := ⟨gb124, 0, none⟩) (Kd.N_mono HO_108003.out (fun k_ hk => (⟨hk, hk.2⟩ : _ ∧ k_ ≠ gb124))) (fun _ hk => hk.2) (.int .i64 t101)) (fun _ hk => hk.2) (.int .i64 t102)) (fun _ hk => hk.2) (.int .i64 t103)) (fun _ hk => hk.2) (.slice Ao8 t104.length co8)) (fun _ hk => hk.2) (.int .i64 8)) (fun _ h_ => h_.1))) gb125 (Nat.le_of_eq hg.symm)) hb);have n1_ := m0_ (Kd.N_below (Kd.N_elderB (by (with_reducible repeat (first | apply Kd.N_alloc | apply Kd.N_drewN | apply Kd.N_drew));exact (Kd.N_mono (Kd.N_far (p := ⟨gb124, 0, none⟩) (Kd.N_far (p := ⟨gb124, 3, none⟩) (Kd.N_far (p := ⟨gb124, 2, none⟩) (Kd.N_far (p := ⟨gb124, 1, none⟩) (Kd.N_far (p := ⟨gb124, 0, none⟩) (Kd.N_mono HO122.out (fun k_ hk => (⟨hk, hk.2⟩ : _ ∧ k_ ≠ gb124))) (fun _ hk => hk.2) (.int .i64 t101)) (fun _ hk => hk.2) (.int .i64 t102)) (fun _ hk => hk.2) (.int .i64 t103)) (fun _ hk => hk.2) (.slice Ao8 t104.length co8)) (fun _ hk => hk.2) (.int .i64 8)) (fun _ h_ => h_.1))) gb125 (Nat.le_of_eq hg.symm)) hb);have n2_ := m0_ (blk_below (g := gb107) (o := .cells #[.int .i64 t101, .int .i64 t102, .int .i64 t103, .slice Ao8 t104.length co8] 29 (0, 0)) (by (with_reducible repeat (first | refine blk_drewN ?_ _ | refine blk_drew ?_ | refine blk_alloc ?_ _));refine blk_far ?_ NB107_124.out _;(with_reducible repeat (first | refine blk_drewN ?_ _ | refine blk_drew ?_ | refine blk_alloc ?_ _));refine blk_far ?_ NB107_124.out _;(with_reducible repeat (first | refine blk_drewN ?_ _ | refine blk_drew ?_ | refine blk_alloc ?_ _));refine blk_far ?_ NB107_124.out _;(with_reducible repeat (first | refine blk_drewN ?_ _ | refine blk_drew ?_ | refine blk_alloc ?_ _));refine blk_far ?_ NB107_124.out _;(with_reducible repeat (first | refine blk_drewN ?_ _ | refine blk_drew ?_ | refine blk_alloc ?_ _));refine blk_far ?_ NB107_124.out _;(with_reducible repeat (first | refine blk_drewN ?_ _ | refine blk_drew ?_ | refine blk_alloc ?_ _));exact BK107.out) hb);have n3_ := m0_ (blk_below (g := gb113) (o := .cells #[.int .i64 t101, .int .i64 t102, .int .i64 t103, .slice Ao39 y120.length co39] 29 (0, 0)) (by (with_reducible repeat (first | refine blk_drewN ?_ _ | refine blk_drew ?_ | refine blk_alloc ?_ _));refine blk_far ?_ NB113_124.out _;(with_reducible repeat (first | refine blk_drewN ?_ _ | refine blk_drew ?_ | refine blk_alloc ?_ _));refine blk_far ?_ NB113_124.out _;(with_reducible repeat (first | refine blk_drewN ?_ _ | refine blk_drew ?_ | refine blk_alloc ?_ _));refine blk_far ?_ NB113_124.out _;(with_reducible repeat (first | refine blk_drewN ?_ _ | refine blk_drew ?_ | refine blk_alloc ?_ _));refine blk_far ?_ NB113_124.out _;(with_reducible repeat (first | refine blk_drewN ?_ _ | refine blk_drew ?_ | refine blk_alloc ?_ _));refine blk_far ?_ NB113_124.out _;(with_reducible repeat (first | refine blk_drewN ?_ _ | refine blk_drew ?_ | refine blk_alloc ?_ _));exact BK113.out) hb);have n4_ := m0_ (blk_below (g := gb123) (o := .cells #[.int .i64 t101, .int .i64 t102, .int .i64 (wrap64 ((wrap64 (t103 + 20)) + 1)), .slice Ao8 t104.length co8] 29 (0, 0)) (by (with_reducible repeat (first | refine blk_drewN ?_ _ | refine blk_drew ?_ | refine blk_alloc ?_ _));refine blk_far ?_ NB123_124.out _;(with_reducible repeat (first | refine blk_drewN ?_ _ | refine blk_drew ?_ | refine blk_alloc ?_ _));refine blk_far ?_ NB123_124.out _;(with_reducible repeat (first | refine blk_drewN ?_ _ | refine blk_drew ?_ | refine blk_alloc ?_ _));refine blk_far ?_ NB123_124.out _;(with_reducible repeat (first | refine blk_drewN ?_ _ | refine blk_drew ?_ | refine blk_alloc ?_ _));refine blk_far ?_ NB123_124.out _;(with_reducible repeat (first | refine blk_drewN ?_ _ | refine blk_drew ?_ | refine blk_alloc ?_ _));refine blk_far ?_ NB123_124.out _;(with_reducible repeat (first | refine blk_drewN ?_ _ | refine blk_drew ?_ | refine blk_alloc ?_ _));exact BK123.out) hb);have n5_ := m0_ (blk_below (g := gb124) (o := .cells #[.int .i64 8, .int .i64 t102, .int .i64 t103, .slice Ao8 t104.length co8] 29 (0, 0)) (by (with_reducible repeat (first | refine blk_drewN ?_ _ | refine blk_drew ?_ | refine blk_alloc ?_ _));refine blk_put (cs := #[.int .i64 t101, .int .i64 t102, .int .i64 t103, .slice Ao8 t104.length co8]) ?_ 0 _ rfl;(with_reducible repeat (first | refine blk_drewN ?_ _ | refine blk_drew ?_ | refine blk_alloc ?_ _));refine blk_put (cs := #[.int .i64 t101, .int .i64 t102, .int .i64 t103, .slice none 0 0]) ?_ 3 _ rfl;(with_reducible repeat (first | refine blk_drewN ?_ _ | refine blk_drew ?_ | refine blk_alloc ?_ _));refine blk_put (cs := #[.int .i64 t101, .int .i64 t102, .int .i64 0, .slice none 0 0]) ?_ 2 _ rfl;(with_reducible repeat (first | refine blk_drewN ?_ _ | refine blk_drew ?_ | refine blk_alloc ?_ _));refine blk_put (cs := #[.int .i64 t101, .int .i64 0, .int .i64 0, .slice none 0 0]) ?_ 1 _ rfl;(with_reducible repeat (first | refine blk_drewN ?_ _ | refine blk_drew ?_ | refine blk_alloc ?_ _));refine blk_put (cs := #[.int .i64 0, .int .i64 0, .int .i64 0, .slice none 0 0]) ?_ 0 _ rfl;(with_reducible repeat (first | refine blk_drewN ?_ _ | refine blk_drew ?_ | refine blk_alloc ?_ _));exact BK124.out) hb);have n6_ := m0_ (below_step (by repeat (first | (with_reducible first | exact HB.out | apply below_alloc | apply pw_below_drewN | apply below_drew1 | refine below_set ?_ GE107.out | refine below_set ?_ GE113.out | refine below_set ?_ GE123.out | refine below_set ?_ GE124.out) | exact HB.out)) hb);have n7_ := m0_ (hbox);have n8_ := m0_ ((by rw [hg];exact (below_size (by repeat (first | (with_reducible first | exact HB.out | apply below_alloc | apply pw_below_drewN | apply below_drew1 | refine below_set ?_ GE107.out | refine below_set ?_ GE113.out | refine below_set ?_ GE123.out | refine below_set ?_ GE124.out) | exact HB.out))) : w.heap.size ≤ gb125));have n9_ := m0_ ((by rw [hg];exact (below_size (by repeat (first | (with_reducible first | exact HB.out | apply below_alloc | apply pw_below_drewN | apply below_drew1 | refine below_set ?_ GE107.out | refine below_set ?_ GE113.out | refine below_set ?_ GE123.out | refine below_set ?_ GE124.out) | exact HB.out))) : w.heap.size ≤ gb125));have n10_ := m0_ ((by rw [hg];exact Nat.ne_of_lt (blk_lt (g := gb107) (o := .cells #[.int .i64 t101, .int .i64 t102, .int .i64 t103, .slice Ao8 t104.length co8] 29 (0, 0)) (by (with_reducible repeat (first | refine blk_drewN ?_ _ | refine blk_drew ?_ | refine blk_alloc ?_ _));refine blk_far ?_ NB107_124.out _;(with_reducible repeat (first | refine blk_drewN ?_ _ | refine blk_drew ?_ | refine blk_alloc ?_ _));refine blk_far ?_ NB107_124.out _;(with_reducible repeat (first | refine blk_drewN ?_ _ | refine blk_drew ?_ | refine blk_alloc ?_ _));refine blk_far ?_ NB107_124.out _;(with_reducible repeat (first | refine blk_drewN ?_ _ | refine blk_drew ?_ | refine blk_alloc ?_ _));refine blk_far ?_ NB107_124.out _;(with_reducible repeat (first | refine blk_drewN ?_ _ | refine blk_drew ?_ | refine blk_alloc ?_ _));refine blk_far ?_ NB107_124.out _;(with_reducible repeat (first | refine blk_drewN ?_ _ | refine blk_drew ?_ | refine blk_alloc ?_ _));exact BK107.out)) : gb107 ≠ gb125));have n11_ := m0_ ((by rw [hg];exact Nat.ne_of_gt (blk_lt (g := gb107) (o := .cells #[.int .i64 t101, .int .i64 t102, .int .i64 t103, .slice Ao8 t104.length co8] 29 (0, 0)) (by (with_reducible repeat (first | refine blk_drewN ?_ _ | refine blk_drew ?_ | refine blk_alloc ?_ _));refine blk_far ?_ NB107_124.out _;(with_reducible repeat (first | refine blk_drewN ?_ _ | refine blk_drew ?_ | refine blk_alloc ?_ _));refine blk_far ?_ NB107_124.out _;(with_reducible repeat (first | refine blk_drewN ?_ _ | refine blk_drew ?_ | refine blk_alloc ?_ _));refine blk_far ?_ NB107_124.out _;(with_reducible repeat (first | refine blk_drewN ?_ _ | refine blk_drew ?_ | refine blk_alloc ?_ _));refine blk_far ?_ NB107_124.out _;(with_reducible repeat (first | refine blk_drewN ?_ _ | refine blk_drew ?_ | refine blk_alloc ?_ _));refine blk_far ?_ NB107_124.out _;(with_reducible repeat (first | refine blk_drewN ?_ _ | refine blk_drew ?_ | refine blk_alloc ?_ _));exact BK107.out)) : gb125 ≠ gb107));have n12_ := m0_ ((by rw [hg];exact Nat.ne_of_lt (blk_lt (g := gb113) (o := .cells #[.int .i64 t101, .int .i64 t102, .int .i64 t103, .slice Ao39 y120.length co39] 29 (0, 0)) (by (with_reducible repeat (first | refine blk_drewN ?_ _ | refine blk_drew ?_ | refine blk_alloc ?_ _));refine blk_far ?_ NB113_124.out _;(with_reducible repeat (first | refine blk_drewN ?_ _ | refine blk_drew ?_ | refine blk_alloc ?_ _));refine blk_far ?_ NB113_124.out _;(with_reducible repeat (first | refine blk_drewN ?_ _ | refine blk_drew ?_ | refine blk_alloc ?_ _));refine blk_far ?_ NB113_124.out _;(with_reducible repeat (first | refine blk_drewN ?_ _ | refine blk_drew ?_ | refine blk_alloc ?_ _));refine blk_far ?_ NB113_124.out _;(with_reducible repeat (first | refine blk_drewN ?_ _ | refine blk_drew ?_ | refine blk_alloc ?_ _));refine blk_far ?_ NB113_124.out _;(with_reducible repeat (first | refine blk_drewN ?_ _ | refine blk_drew ?_ | refine blk_alloc ?_ _));exact BK113.out)) : gb113 ≠ gb125));have n13_ := m0_ ((by rw [hg];exact Nat.ne_of_gt (blk_lt (g := gb113) (o := .cells #[.int .i64 t101, .int .i64 t102, .int .i64 t103, .slice Ao39 y120.length co39] 29 (0, 0)) (by (with_reducible repeat (first | refine blk_drewN ?_ _ | refine blk_drew ?_ | refine blk_alloc ?_ _));refine blk_far ?_ NB113_124.out _;(with_reducible repeat (first | refine blk_drewN ?_ _ | refine blk_drew ?_ | refine blk_alloc ?_ _));refine blk_far ?_ NB113_124.out _;(with_reducible repeat (first | refine blk_drewN ?_ _ | refine blk_drew ?_ | refine blk_alloc ?_ _));refine blk_far ?_ NB113_124.out _;(with_reducible repeat (first | refine blk_drewN ?_ _ | refine blk_drew ?_ | refine blk_alloc ?_ _));refine blk_far ?_ NB113_124.out _;(with_reducible repeat (first | refine blk_drewN ?_ _ | refine blk_drew ?_ | refine blk_alloc ?_ _));refine blk_far ?_ NB113_124.out _;(with_reducible repeat (first | refine blk_drewN ?_ _ | refine blk_drew ?_ | refine blk_alloc ?_ _));exact BK113.out)) : gb125 ≠ gb113));have n14_ := m0_ ((by rw [hg];exact Nat.ne_of_lt (blk_lt (g := gb123) (o := .cells #[.int .i64 t101, .int .i64 t102, .int .i64 (wrap64 ((wrap64 (t103 + 20)) + 1)), .slice Ao8 t104.length co8] 29 (0, 0)) (by (with_reducible repeat (first | refine blk_drewN ?_ _ | refine blk_drew ?_ | refine blk_alloc ?_ _));refine blk_far ?_ NB123_124.out _;(with_reducible repeat (first | refine blk_drewN ?_ _ | refine blk_drew ?_ | refine blk_alloc ?_ _));refine blk_far ?_ NB123_124.out _;(with_reducible repeat (first | refine blk_drewN ?_ _ | refine blk_drew ?_ | refine blk_alloc ?_ _));refine blk_far ?_ NB123_124.out _;(with_reducible repeat (first | refine blk_drewN ?_ _ | refine blk_drew ?_ | refine blk_alloc ?_ _));refine blk_far ?_ NB123_124.out _;(with_reducible repeat (first | refine blk_drewN ?_ _ | refine blk_drew ?_ | refine blk_alloc ?_ _));refine blk_far ?_ NB123_124.out _;(with_reducible repeat (first | refine blk_drewN ?_ _ | refine blk_drew ?_ | refine blk_alloc ?_ _));exact BK123.out)) : gb123 ≠ gb125));have n15_ := m0_ ((by rw [hg];exact Nat.ne_of_gt (blk_lt (g := gb123) (o := .cells #[.int .i64 t101, .int .i64 t102, .int .i64 (wrap64 ((wrap64 (t103 + 20)) + 1)), .slice Ao8 t104.length co8] 29 (0, 0)) (by (with_reducible repeat (first | refine blk_drewN ?_ _ | refine blk_drew ?_ | refine blk_alloc ?_ _));refine blk_far ?_ NB123_124.out _;(with_reducible repeat (first | refine blk_drewN ?_ _ | refine blk_drew ?_ | refine blk_alloc ?_ _));refine blk_far ?_ NB123_124.out _;(with_reducible repeat (first | refine blk_drewN ?_ _ | refine blk_drew ?_ | refine blk_alloc ?_ _));refine blk_far ?_ NB123_124.out _;(with_reducible repeat (first | refine blk_drewN ?_ _ | refine blk_drew ?_ | refine blk_alloc ?_ _));refine blk_far ?_ NB123_124.out _;(with_reducible repeat (first | refine blk_drewN ?_ _ | refine blk_drew ?_ | refine blk_alloc ?_ _));refine blk_far ?_ NB123_124.out _;(with_reducible repeat (first | refine blk_drewN ?_ _ | refine blk_drew ?_ | refine blk_alloc ?_ _));exact BK123.out)) : gb125 ≠ gb123));have n16_ := m0_ ((by rw [hg];exact Nat.ne_of_lt (blk_lt (g := gb124) (o := .cells #[.int .i64 8, .int .i64 t102, .int .i64 t103, .slice Ao8 t104.length co8] 29 (0, 0)) (by (with_reducible repeat (first | refine blk_drewN ?_ _ | refine blk_drew ?_ | refine blk_alloc ?_ _));refine blk_put (cs := #[.int .i64 t101, .int .i64 t102, .int .i64 t103, .slice Ao8 t104.length co8]) ?_ 0 _ rfl;(with_reducible repeat (first | refine blk_drewN ?_ _ | refine blk_drew ?_ | refine blk_alloc ?_ _));refine blk_put (cs := #[.int .i64 t101, .int .i64 t102, .int .i64 t103, .slice none 0 0]) ?_ 3 _ rfl;(with_reducible repeat (first | refine blk_drewN ?_ _ | refine blk_drew ?_ | refine blk_alloc ?_ _));refine blk_put (cs := #[.int .i64 t101, .int .i64 t102, .int .i64 0, .slice none 0 0]) ?_ 2 _ rfl;(with_reducible repeat (first | refine blk_drewN ?_ _ | refine blk_drew ?_ | refine blk_alloc ?_ _));refine blk_put (cs := #[.int .i64 t101, .int .i64 0, .int .i64 0, .slice none 0 0]) ?_ 1 _ rfl;(with_reducible repeat (first | refine blk_drewN ?_ _ | refine blk_drew ?_ | refine blk_alloc ?_ _));refine blk_put (cs := #[.int .i64 0, .int .i64 0, .int .i64 0, .slice none 0 0]) ?_ 0 _ rfl;(with_reducible repeat (first | refine blk_drewN ?_ _ | refine blk_drew ?_ | refine blk_alloc ?_ _));exact BK124.out)) : gb124 ≠ gb125));have n17_ := m0_ ((by rw [hg];exact Nat.ne_of_gt (blk_lt (g := gb124) (o := .cells #[.int .i64 8, .int .i64 t102, .int .i64 t103, .slice Ao8 t104.length co8] 29 (0, 0)) (by (with_reducible repeat (first | refine blk_drewN ?_ _ | refine blk_drew ?_ | refine blk_alloc ?_ _));refine blk_put (cs := #[.int .i64 t101, .int .i64 t102, .int .i64 t103, .slice Ao8 t104.length co8]) ?_ 0 _ rfl;(with_reducible repeat (first | refine blk_drewN ?_ _ | refine blk_drew ?_ | refine blk_alloc ?_ _));refine blk_put (cs := #[.int .i64 t101, .int .i64 t102, .int .i64 t103, .slice none 0 0]) ?_ 3 _ rfl;(with_reducible repeat (first | refine blk_drewN ?_ _ | refine blk_drew ?_ | refine blk_alloc ?_ _));refine blk_put (cs := #[.int .i64 t101, .int .i64 t102, .int .i64 0, .slice none 0 0]) ?_ 2 _ rfl;(with_reducible repeat (first | refine blk_drewN ?_ _ | refine blk_drew ?_ | refine blk_alloc ?_ _));refine blk_put (cs := #[.int .i64 t101, .int .i64 0, .int .i64 0, .slice none 0 0]) ?_ 1 _ rfl;(with_reducible repeat (first | refine blk_drewN ?_ _ | refine blk_drew ?_ | refine blk_alloc ?_ _));refine blk_put (cs := #[.int .i64 0, .int .i64 0, .int .i64 0, .slice none 0 0]) ?_ 0 _ rfl;(with_reducible repeat (first | refine blk_drewN ?_ _ | refine blk_drew ?_ | refine blk_alloc ?_ _));exact BK124.out)) : gb125 ≠ gb124));clear HO_108003;clear HO122;clear BK107;clear BK113;clear BK123;clear BK124;clear HB;have HO_108003 := n0_;have HO122 := n1_;have BK107 := n2_;have BK113 := n3_;have BK123 := n4_;have BK124 := n5_;have HB := n6_;have BK125 := n7_;have GW125 := n8_;have GE125 := n9_;have NB107_125 := n10_;have NB125_107 := n11_;have NB113_125 := n12_;have NB125_113 := n13_;have NB123_125 := n14_;have NB125_123 := n15_;have NB124_125 := n16_;have NB125_124 := n17_;clear n0_ n1_ n2_ n3_ n4_ n5_ n6_ n7_ n8_ n9_ n10_ n11_ n12_ n13_ n14_ n15_ n16_ n17_;clear hb hbox hg;have hnb54 := NB125_107.out;have hnc54 := NB107_125.out;have hnb55 := NB125_113.out;have hnc55 := NB113_125.out;have hnb56 := NB125_123.out;have hnc56 := NB123_125.out;have hnb57 := NB125_124.out;have hnc57 := NB124_125.out;obtain ⟨hcz58_0, hcz58_1, hcz58_2, hcz58_3, hfz58_0, hfz58_1, hfz58_2, hfz58_3⟩ := bx4 BK125.out))
   go_loopg [8] kj3 (fun kq v8 w' => ∃ (x8_2 : Int), v8 = .int .i64 x8_2 ∧ Aside0 (laws_FnExBent.l0 kq x8_2 t101 t102 t103 t104 t101 t102 t103 y120 t101 t102 (wrap64 ((wrap64 (t103 + 20)) + 1)) t104 8 t102 t103 t104 t101 5 t103 t104 = some r) ∧ Aside0 (kq ≤ kj3) ∧ Aside0 (Kd.N k29 29 w' w.heap.size (fun k_ => some k_ ≠ ((.slice Ao39 y120.length co39) : Value).ownBlock ∧ k_ ≠ gb107 ∧ k_ ≠ gb113 ∧ k_ ≠ gb123 ∧ k_ ≠ gb124 ∧ k_ ≠ gb125) (.slice Ao8 t104.length co8) t104) ∧ Aside0 (Kd.N k29 29 w' w.heap.size (fun k_ => k_ ≠ gb107 ∧ k_ ≠ gb113 ∧ k_ ≠ gb123 ∧ k_ ≠ gb124 ∧ k_ ≠ gb125) (.slice Ao39 y120.length co39) y120) ∧ Aside0 (Kd.N k29 29 w' w.heap.size (fun k_ => some k_ ≠ ((.slice Ao39 y120.length co39) : Value).ownBlock ∧ k_ ≠ gb107 ∧ k_ ≠ gb113 ∧ k_ ≠ gb123 ∧ k_ ≠ gb124 ∧ k_ ≠ gb125) (.slice Ao8 t104.length co8) t104) ∧ Aside0 (Kd.N k29 29 w' w.heap.size (fun k_ => some k_ ≠ ((.slice Ao39 y120.length co39) : Value).ownBlock ∧ k_ ≠ gb107 ∧ k_ ≠ gb113 ∧ k_ ≠ gb123 ∧ k_ ≠ gb124 ∧ k_ ≠ gb125) (.slice Ao8 t104.length co8) t104) ∧ Aside0 (Kd.N k29 29 w' w.heap.size (fun k_ => some k_ ≠ ((.slice Ao39 y120.length co39) : Value).ownBlock ∧ k_ ≠ gb107 ∧ k_ ≠ gb113 ∧ k_ ≠ gb123 ∧ k_ ≠ gb124 ∧ k_ ≠ gb125) (.slice Ao8 t104.length co8) t104) ∧ Aside0 (w'.heap[gb107]? = some (.cells #[.int .i64 t101, .int .i64 t102, .int .i64 t103, (.slice Ao8 t104.length co8)] 29 (0, 0))) ∧ Aside0 (w'.heap[gb113]? = some (.cells #[.int .i64 t101, .int .i64 t102, .int .i64 t103, (.slice Ao39 y120.length co39)] 29 (0, 0))) ∧ Aside0 (w'.heap[gb123]? = some (.cells #[.int .i64 t101, .int .i64 t102, .int .i64 (wrap64 ((wrap64 (t103 + 20)) + 1)), (.slice Ao8 t104.length co8)] 29 (0, 0))) ∧ Aside0 (w'.heap[gb124]? = some (.cells #[.int .i64 8, .int .i64 t102, .int .i64 t103, (.slice Ao8 t104.length co8)] 29 (0, 0))) ∧ Aside0 (w'.heap[gb125]? = some (.cells #[.int .i64 t101, .int .i64 5, .int .i64 t103, (.slice Ao8 t104.length co8)] 29 (0, 0))) ∧ Aside0 (Below w.heap.size w w'))
   case atStart => exact ⟨(0), (by first | rfl | (simp;done) | (simp [*];done)), H', ⟨Nat.le_refl _⟩, ⟨by (with_reducible repeat (first | apply Kd.N_alloc | apply Kd.N_drewN | apply Kd.N_drew));exact Kd.N_mono (Kd.N_far (p := ⟨gb125, 1, none⟩) (Kd.N_far (p := ⟨gb125, 3, none⟩) (Kd.N_far (p := ⟨gb125, 2, none⟩) (Kd.N_far (p := ⟨gb125, 1, none⟩) (Kd.N_far (p := ⟨gb125, 0, none⟩) (Kd.N_mono HO_108003.out (fun k_ hk => (⟨hk, hk.2⟩ : _ ∧ k_ ≠ gb125))) (fun _ hk => hk.2) (.int .i64 t101)) (fun _ hk => hk.2) (.int .i64 t102)) (fun _ hk => hk.2) (.int .i64 t103)) (fun _ hk => hk.2) (.slice Ao8 t104.length co8)) (fun _ hk => hk.2) (.int .i64 5)) (fun _ hk => ⟨hk.1.1.1.1.2, ⟨hk.1.1.1.1.1.1, ⟨hk.1.1.1.1.1.2, ⟨hk.1.1.1.2, ⟨hk.1.1.2, hk.1.2⟩⟩⟩⟩⟩)⟩, ⟨by (with_reducible repeat (first | apply Kd.N_alloc | apply Kd.N_drewN | apply Kd.N_drew));exact Kd.N_mono (Kd.N_far (p := ⟨gb125, 1, none⟩) (Kd.N_far (p := ⟨gb125, 3, none⟩) (Kd.N_far (p := ⟨gb125, 2, none⟩) (Kd.N_far (p := ⟨gb125, 1, none⟩) (Kd.N_far (p := ⟨gb125, 0, none⟩) (Kd.N_mono HO122.out (fun k_ hk => (⟨hk, hk.2⟩ : _ ∧ k_ ≠ gb125))) (fun _ hk => hk.2) (.int .i64 t101)) (fun _ hk => hk.2) (.int .i64 t102)) (fun _ hk => hk.2) (.int .i64 t103)) (fun _ hk => hk.2) (.slice Ao8 t104.length co8)) (fun _ hk => hk.2) (.int .i64 5)) (fun _ hk => ⟨hk.1.1.1.1.1, ⟨hk.1.1.1.1.2, ⟨hk.1.1.1.2, ⟨hk.1.1.2, hk.1.2⟩⟩⟩⟩)⟩, ⟨by (with_reducible repeat (first | apply Kd.N_alloc | apply Kd.N_drewN | apply Kd.N_drew));exact Kd.N_mono (Kd.N_far (p := ⟨gb125, 1, none⟩) (Kd.N_far (p := ⟨gb125, 3, none⟩) (Kd.N_far (p := ⟨gb125, 2, none⟩) (Kd.N_far (p := ⟨gb125, 1, none⟩) (Kd.N_far (p := ⟨gb125, 0, none⟩) (Kd.N_mono HO_108003.out (fun k_ hk => (⟨hk, hk.2⟩ : _ ∧ k_ ≠ gb125))) (fun _ hk => hk.2) (.int .i64 t101)) (fun _ hk => hk.2) (.int .i64 t102)) (fun _ hk => hk.2) (.int .i64 t103)) (fun _ hk => hk.2) (.slice Ao8 t104.length co8)) (fun _ hk => hk.2) (.int .i64 5)) (fun _ hk => ⟨hk.1.1.1.1.2, ⟨hk.1.1.1.1.1.1, ⟨hk.1.1.1.1.1.2, ⟨hk.1.1.1.2, ⟨hk.1.1.2, hk.1.2⟩⟩⟩⟩⟩)⟩, ⟨by (with_reducible repeat (first | apply Kd.N_alloc | apply Kd.N_drewN | apply Kd.N_drew));exact Kd.N_mono (Kd.N_far (p := ⟨gb125, 1, none⟩) (Kd.N_far (p := ⟨gb125, 3, none⟩) (Kd.N_far (p := ⟨gb125, 2, none⟩) (Kd.N_far (p := ⟨gb125, 1, none⟩) (Kd.N_far (p := ⟨gb125, 0, none⟩) (Kd.N_mono HO_108003.out (fun k_ hk => (⟨hk, hk.2⟩ : _ ∧ k_ ≠ gb125))) (fun _ hk => hk.2) (.int .i64 t101)) (fun _ hk => hk.2) (.int .i64 t102)) (fun _ hk => hk.2) (.int .i64 t103)) (fun _ hk => hk.2) (.slice Ao8 t104.length co8)) (fun _ hk => hk.2) (.int .i64 5)) (fun _ hk => ⟨hk.1.1.1.1.2, ⟨hk.1.1.1.1.1.1, ⟨hk.1.1.1.1.1.2, ⟨hk.1.1.1.2, ⟨hk.1.1.2, hk.1.2⟩⟩⟩⟩⟩)⟩, ⟨by (with_reducible repeat (first | apply Kd.N_alloc | apply Kd.N_drewN | apply Kd.N_drew));exact Kd.N_mono (Kd.N_far (p := ⟨gb125, 1, none⟩) (Kd.N_far (p := ⟨gb125, 3, none⟩) (Kd.N_far (p := ⟨gb125, 2, none⟩) (Kd.N_far (p := ⟨gb125, 1, none⟩) (Kd.N_far (p := ⟨gb125, 0, none⟩) (Kd.N_mono HO_108003.out (fun k_ hk => (⟨hk, hk.2⟩ : _ ∧ k_ ≠ gb125))) (fun _ hk => hk.2) (.int .i64 t101)) (fun _ hk => hk.2) (.int .i64 t102)) (fun _ hk => hk.2) (.int .i64 t103)) (fun _ hk => hk.2) (.slice Ao8 t104.length co8)) (fun _ hk => hk.2) (.int .i64 5)) (fun _ hk => ⟨hk.1.1.1.1.2, ⟨hk.1.1.1.1.1.1, ⟨hk.1.1.1.1.1.2, ⟨hk.1.1.1.2, ⟨hk.1.1.2, hk.1.2⟩⟩⟩⟩⟩)⟩, ⟨by (with_reducible repeat (first | refine blk_drewN ?_ _ | refine blk_drew ?_ | refine blk_alloc ?_ _));refine blk_far ?_ NB107_125.out _;(with_reducible repeat (first | refine blk_drewN ?_ _ | refine blk_drew ?_ | refine blk_alloc ?_ _));refine blk_far ?_ NB107_125.out _;(with_reducible repeat (first | refine blk_drewN ?_ _ | refine blk_drew ?_ | refine blk_alloc ?_ _));refine blk_far ?_ NB107_125.out _;(with_reducible repeat (first | refine blk_drewN ?_ _ | refine blk_drew ?_ | refine blk_alloc ?_ _));refine blk_far ?_ NB107_125.out _;(with_reducible repeat (first | refine blk_drewN ?_ _ | refine blk_drew ?_ | refine blk_alloc ?_ _));refine blk_far ?_ NB107_125.out _;(with_reducible repeat (first | refine blk_drewN ?_ _ | refine blk_drew ?_ | refine blk_alloc ?_ _));exact BK107.out⟩, ⟨by (with_reducible repeat (first | refine blk_drewN ?_ _ | refine blk_drew ?_ | refine blk_alloc ?_ _));refine blk_far ?_ NB113_125.out _;(with_reducible repeat (first | refine blk_drewN ?_ _ | refine blk_drew ?_ | refine blk_alloc ?_ _));refine blk_far ?_ NB113_125.out _;(with_reducible repeat (first | refine blk_drewN ?_ _ | refine blk_drew ?_ | refine blk_alloc ?_ _));refine blk_far ?_ NB113_125.out _;(with_reducible repeat (first | refine blk_drewN ?_ _ | refine blk_drew ?_ | refine blk_alloc ?_ _));refine blk_far ?_ NB113_125.out _;(with_reducible repeat (first | refine blk_drewN ?_ _ | refine blk_drew ?_ | refine blk_alloc ?_ _));refine blk_far ?_ NB113_125.out _;(with_reducible repeat (first | refine blk_drewN ?_ _ | refine blk_drew ?_ | refine blk_alloc ?_ _));exact BK113.out⟩, ⟨by (with_reducible repeat (first | refine blk_drewN ?_ _ | refine blk_drew ?_ | refine blk_alloc ?_ _));refine blk_far ?_ NB123_125.out _;(with_reducible repeat (first | refine blk_drewN ?_ _ | refine blk_drew ?_ | refine blk_alloc ?_ _));refine blk_far ?_ NB123_125.out _;(with_reducible repeat (first | refine blk_drewN ?_ _ | refine blk_drew ?_ | refine blk_alloc ?_ _));refine blk_far ?_ NB123_125.out _;(with_reducible repeat (first | refine blk_drewN ?_ _ | refine blk_drew ?_ | refine blk_alloc ?_ _));refine blk_far ?_ NB123_125.out _;(with_reducible repeat (first | refine blk_drewN ?_ _ | refine blk_drew ?_ | refine blk_alloc ?_ _));refine blk_far ?_ NB123_125.out _;(with_reducible repeat (first | refine blk_drewN ?_ _ | refine blk_drew ?_ | refine blk_alloc ?_ _));exact BK123.out⟩, ⟨by (with_reducible repeat (first | refine blk_drewN ?_ _ | refine blk_drew ?_ | refine blk_alloc ?_ _));refine blk_far ?_ NB124_125.out _;(with_reducible repeat (first | refine blk_drewN ?_ _ | refine blk_drew ?_ | refine blk_alloc ?_ _));refine blk_far ?_ NB124_125.out _;(with_reducible repeat (first | refine blk_drewN ?_ _ | refine blk_drew ?_ | refine blk_alloc ?_ _));refine blk_far ?_ NB124_125.out _;(with_reducible repeat (first | refine blk_drewN ?_ _ | refine blk_drew ?_ | refine blk_alloc ?_ _));refine blk_far ?_ NB124_125.out _;(with_reducible repeat (first | refine blk_drewN ?_ _ | refine blk_drew ?_ | refine blk_alloc ?_ _));refine blk_far ?_ NB124_125.out _;(with_reducible repeat (first | refine blk_drewN ?_ _ | refine blk_drew ?_ | refine blk_alloc ?_ _));exact BK124.out⟩, ⟨by (with_reducible repeat (first | refine blk_drewN ?_ _ | refine blk_drew ?_ | refine blk_alloc ?_ _));refine blk_put (cs := #[.int .i64 t101, .int .i64 t102, .int .i64 t103, .slice Ao8 t104.length co8]) ?_ 1 _ rfl;(with_reducible repeat (first | refine blk_drewN ?_ _ | refine blk_drew ?_ | refine blk_alloc ?_ _));refine blk_put (cs := #[.int .i64 t101, .int .i64 t102, .int .i64 t103, .slice none 0 0]) ?_ 3 _ rfl;(with_reducible repeat (first | refine blk_drewN ?_ _ | refine blk_drew ?_ | refine blk_alloc ?_ _));refine blk_put (cs := #[.int .i64 t101, .int .i64 t102, .int .i64 0, .slice none 0 0]) ?_ 2 _ rfl;(with_reducible repeat (first | refine blk_drewN ?_ _ | refine blk_drew ?_ | refine blk_alloc ?_ _));refine blk_put (cs := #[.int .i64 t101, .int .i64 0, .int .i64 0, .slice none 0 0]) ?_ 1 _ rfl;(with_reducible repeat (first | refine blk_drewN ?_ _ | refine blk_drew ?_ | refine blk_alloc ?_ _));refine blk_put (cs := #[.int .i64 0, .int .i64 0, .int .i64 0, .slice none 0 0]) ?_ 0 _ rfl;(with_reducible repeat (first | refine blk_drewN ?_ _ | refine blk_drew ?_ | refine blk_alloc ?_ _));exact BK125.out⟩, ⟨by repeat (first | (with_reducible first | exact HB.out | apply below_alloc | apply pw_below_drewN | apply below_drew1 | refine below_set ?_ GE107.out | refine below_set ?_ GE113.out | refine below_set ?_ GE123.out | refine below_set ?_ GE124.out | refine below_set ?_ GE125.out) | exact HB.out)⟩⟩
   case round =>
    clear H'
    try clear c1
    try clear c2
    try clear c2b0
    try clear c2b1
    try clear p2
    try clear c3
    try clear c4
    try clear c5
    try clear p6
    try clear c11
    try clear c11b0
    try clear c11b1
    try clear c11b2
    try clear c17
    try clear c18
    try clear c19
    try clear c22
    try clear c28
    try clear c29
    try clear c32
    try clear c43
    try clear c44
    try clear c48
    try clear c49
    try clear c50
    try clear c54
    try clear c55
    try clear c56
    try clear c57
    try clear hcz30_0
    try clear hcz30_1
    try clear hcz30_2
    try clear hcz30_3
    try clear hcz33_0
    try clear hcz33_1
    try clear hcz33_2
    try clear hcz33_3
    try clear hcz36_0
    try clear hcz36_1
    try clear hcz36_2
    try clear hcz36_3
    try clear hcz40_0
    try clear hcz40_1
    try clear hcz40_2
    try clear hcz40_3
    try clear hcz41_0
    try clear hcz41_1
    try clear hcz41_2
    try clear hcz41_3
    try clear hcz45_0
    try clear hcz45_1
    try clear hcz45_2
    try clear hcz45_3
    try clear hcz46_0
    try clear hcz46_1
    try clear hcz46_2
    try clear hcz46_3
    try clear hcz51_0
    try clear hcz51_1
    try clear hcz51_2
    try clear hcz51_3
    try clear hcz52_0
    try clear hcz52_1
    try clear hcz52_2
    try clear hcz52_3
    try clear hcz58_0
    try clear hcz58_1
    try clear hcz58_2
    try clear hcz58_3
    try clear hcz7_0
    try clear hcz7_1
    try clear hcz7_2
    try clear hcz7_3
    try clear hfz30_0
    try clear hfz30_1
    try clear hfz30_2
    try clear hfz30_3
    try clear hfz33_0
    try clear hfz33_1
    try clear hfz33_2
    try clear hfz33_3
    try clear hfz36_0
    try clear hfz36_1
    try clear hfz36_2
    try clear hfz36_3
    try clear hfz40_0
    try clear hfz40_1
    try clear hfz40_2
    try clear hfz40_3
    try clear hfz41_0
    try clear hfz41_1
    try clear hfz41_2
    try clear hfz41_3
    try clear hfz45_0
    try clear hfz45_1
    try clear hfz45_2
    try clear hfz45_3
    try clear hfz46_0
    try clear hfz46_1
    try clear hfz46_2
    try clear hfz46_3
    try clear hfz51_0
    try clear hfz51_1
    try clear hfz51_2
    try clear hfz51_3
    try clear hfz52_0
    try clear hfz52_1
    try clear hfz52_2
    try clear hfz52_3
    try clear hfz58_0
    try clear hfz58_1
    try clear hfz58_2
    try clear hfz58_3
    try clear hfz7_0
    try clear hfz7_1
    try clear hfz7_2
    try clear hfz7_3
    try clear p2
    obtain ⟨x8_2, rfl, HA, HK2, HO_108003, HO_114003, HO_124003, HO_125003, HO_126003, BK107, BK113, BK123, BK124, BK125, HB⟩ := hrel
    cases gk with
    | zero => exact absurd HA.out (by simp [laws_FnExBent.l0])
    | succ k2 =>
     have H := HA.out
     clear HA
     simp only [laws_FnExBent.l0] at H
     by_cases c59 : x8_2 < (t104.length : Int)
     ·rw [if_pos c59] at H
      have c59b0 : decide (x8_2 < (t104.length : Int)) = true := decide_eq_true c59
      clear c59
      by_cases c60 : 0 ≤ x8_2
      rotate_left
      ·rw [if_neg c60] at H
       exact absurd H (by simp)
      rw [if_pos c60] at H
      have c60b0 : decide (0 ≤ x8_2) = true := decide_eq_true c60
      clear c60
      replace H := Option.bind_eq_some_iff.mp H
      obtain ⟨t127, A610, H⟩ := H
      replace H : (if t127 = true then (laws_FnExBent.l0 k2 (wrap64 (x8_2 + 1)) t101 t102 t103 t104 t101 t102 t103 y120 t101 t102 (wrap64 ((wrap64 (t103 + 20)) + 1)) t104 8 t102 t103 t104 t101 5 t103 t104) else (some false)) = some r := H
      have A61 := m0_ A610
      clear A610
      by_cases c62 : t127 = true
      rotate_left
      ·replace c62 := Bool.eq_false_iff.mpr c62
       subst c62
       have H1 : (some false) = some r := by rw [if_neg (show ¬ (false = true) by decide)] at H;exact H
       clear H
       have H := H1
       clear H1
       exact absurd (Option.some.inj H) (by rw [hT_.out];decide)
      subst c62
      have H1 : (laws_FnExBent.l0 k2 (wrap64 (x8_2 + 1)) t101 t102 t103 t104 t101 t102 t103 y120 t101 t102 (wrap64 ((wrap64 (t103 + 20)) + 1)) t104 8 t102 t103 t104 t101 5 t103 t104) = some r := by rw [if_pos rfl] at H;exact H
      clear H
      have H := H1
      clear H1
      have H' := m0_ H
      clear H
      have hnb63 := NB107_113.out
      have hnc63 := NB113_107.out
      have hnb64 := NB107_123.out
      have hnc64 := NB123_107.out
      have hnb65 := NB107_124.out
      have hnc65 := NB124_107.out
      have hnb66 := NB107_125.out
      have hnc66 := NB125_107.out
      obtain ⟨hcz67_0, hcz67_1, hcz67_2, hcz67_3, hfz67_0, hfz67_1, hfz67_2, hfz67_3⟩ := bx4 BK107.out
      have p126 : 0 ≤ (x8_2 : Int) := of_decide_eq_true (by first | (with_reducible assumption) | assumption)
      have q126 : x8_2 < (t104.length : Int) := of_decide_eq_true (by first | (with_reducible assumption) | assumption)
      obtain ⟨ad126, A126_3, c126_3, e126, hx126_0, hx126_1, hx126_2, hx126_3, hl126_3, hi126_3⟩ := at_T29 (Kd.N_reads' HO_108003.out).2.2 x8_2 p126 q126
      cases e126
      obtain ⟨ce126, hce126, hMe126, hcc126⟩ := Kd.N_get HO_108003.out z29 x8_2 p126 (by first | exact q126 | exact of_decide_eq_true (by first | (with_reducible assumption) | assumption) | (have e_ := (Kd.N_reads' HO_108003.out).1;omega))
      obtain ⟨ua126_3, uc126_3, rfl, ul126_3, ge126_3⟩ := k29_openF hMe126
      have hv126_3 := hcc126 3 _ rfl
      rw [add_field _ _ 3 (by omega)] at hv126_3
      replace hv126_3 := Option.some.inj (hv126_3.symm.trans hx126_3)
      injection hv126_3 with hva_ hvn_ hvc_
      rw [hva_] at ge126_3
      rw [hvc_] at ul126_3
      have HL126_3 := m0_ (show Kd.V k29 29 _ w.heap.size _ _ ((rd_T29 t104 x8_2).f3) from Kd.V_mk ul126_3 ge126_3)
      clear hva_ hvn_ hvc_ ge126_3 ul126_3
      clear hcc126 hce126
      have HR126_3 := m0_ hi126_3
      have HC126_3 := m0_ hl126_3
      clear hi126_3 hl126_3
      replace p126 := eq_true p126
      replace q126 := eq_true q126
      go_wp2_with (first | ((with_reducible refine gate_callee (f := 19) rfl ?_);refine goesL_ (some 60) rfl rfl Tryd.func19 (by kernel_rfl) rfl #[.agg #[.int .i64 ((rd_T29 t104 x8_2).f0), .int .i64 ((rd_T29 t104 x8_2).f1), .int .i64 ((rd_T29 t104 x8_2).f2), .slice A126_3 ((rd_T29 t104 x8_2).f3).length c126_3]] rfl (by (try simp only [List.map_toArray, List.map_cons, List.map_nil]);first | done | rfl | (simp only [List.length_drop, List.length_take];rfl)) ?_;(with_reducible refine (impl_ExOk.calls k2 ((rd_T29 t104 x8_2).f0) ((rd_T29 t104 x8_2).f1) ((rd_T29 t104 x8_2).f2) _ _ ((rd_T29 t104 x8_2).f3) true _ ?side1 ?side2 A61.out).mono ?_);(case side1 => repeat (first | exact (by repeat (first | (with_reducible exact HR126_3.out) | (with_reducible refine Kd.C_alloc ?_ _) | (with_reducible refine Kd.C_drewN ?_ _) | (with_reducible refine Kd.C_drew ?_) | exact HR126_3.out)) | (with_reducible refine Kd.C_alloc ?_ _) | (with_reducible refine Kd.C_drewN ?_ _) | (with_reducible refine Kd.C_drew ?_)));(case side2 => exact HC126_3.out);rintro e w68 ⟨rfl, hb⟩;refine ⟨_, rfl, ?_⟩;have n0_ := m0_ (Kd.N_below (by (with_reducible repeat (first | apply Kd.N_alloc | apply Kd.N_drewN | apply Kd.N_drew));exact HO_108003.out) hb);have n1_ := m0_ (Kd.N_below (by (with_reducible repeat (first | apply Kd.N_alloc | apply Kd.N_drewN | apply Kd.N_drew));exact HO_114003.out) hb);have n2_ := m0_ (Kd.N_below (by (with_reducible repeat (first | apply Kd.N_alloc | apply Kd.N_drewN | apply Kd.N_drew));exact HO_124003.out) hb);have n3_ := m0_ (Kd.N_below (by (with_reducible repeat (first | apply Kd.N_alloc | apply Kd.N_drewN | apply Kd.N_drew));exact HO_125003.out) hb);have n4_ := m0_ (Kd.N_below (by (with_reducible repeat (first | apply Kd.N_alloc | apply Kd.N_drewN | apply Kd.N_drew));exact HO_126003.out) hb);have n5_ := m0_ (Kd.V_below (by (with_reducible repeat (first | apply Kd.V_alloc | apply Kd.V_drewN | apply Kd.V_drew));exact HL126_3.out) hb);have n6_ := m0_ (blk_below BK107.out hb);have n7_ := m0_ (blk_below BK113.out hb);have n8_ := m0_ (blk_below BK123.out hb);have n9_ := m0_ (blk_below BK124.out hb);have n10_ := m0_ (blk_below BK125.out hb);have n11_ := m0_ (Kd.C_below (by repeat (first | (with_reducible exact HR126_3.out) | (with_reducible refine Kd.C_alloc ?_ _) | (with_reducible refine Kd.C_drewN ?_ _) | (with_reducible refine Kd.C_drew ?_) | exact HR126_3.out)) hb);have n12_ := m0_ (below_step (by repeat (first | (with_reducible first | exact HB.out | apply below_alloc | apply pw_below_drewN | apply below_drew1 | refine below_set ?_ GE107.out | refine below_set ?_ GE113.out | refine below_set ?_ GE123.out | refine below_set ?_ GE124.out | refine below_set ?_ GE125.out) | exact HB.out)) hb);clear HO_108003;clear HO_114003;clear HO_124003;clear HO_125003;clear HO_126003;clear HL126_3;clear BK107;clear BK113;clear BK123;clear BK124;clear BK125;clear HR126_3;clear HB;have HO_108003 := n0_;have HO_114003 := n1_;have HO_124003 := n2_;have HO_125003 := n3_;have HO_126003 := n4_;have HL126_3 := n5_;have BK107 := n6_;have BK113 := n7_;have BK123 := n8_;have BK124 := n9_;have BK125 := n10_;have HR126_3 := n11_;have HB := n12_;clear n0_ n1_ n2_ n3_ n4_ n5_ n6_ n7_ n8_ n9_ n10_ n11_ n12_;(try clear hb);(try clear hb2);(try clear hk);(try clear hi)))
      go_roundg k2
      case measure => have := HJ3.out;have := HK2.out;omega
      case rel => exact ⟨(wrap64 (x8_2 + 1)), (by first | rfl | (simp;done) | (simp [*];done)), H', ⟨by have := HJ3.out;have := HK2.out;omega⟩, ⟨by (with_reducible repeat (first | apply Kd.N_alloc | apply Kd.N_drewN | apply Kd.N_drew));exact HO_108003.out⟩, ⟨by (with_reducible repeat (first | apply Kd.N_alloc | apply Kd.N_drewN | apply Kd.N_drew));exact HO_114003.out⟩, ⟨by (with_reducible repeat (first | apply Kd.N_alloc | apply Kd.N_drewN | apply Kd.N_drew));exact HO_124003.out⟩, ⟨by (with_reducible repeat (first | apply Kd.N_alloc | apply Kd.N_drewN | apply Kd.N_drew));exact HO_125003.out⟩, ⟨by (with_reducible repeat (first | apply Kd.N_alloc | apply Kd.N_drewN | apply Kd.N_drew));exact HO_126003.out⟩, ⟨by (with_reducible repeat (first | refine blk_drewN ?_ _ | refine blk_drew ?_ | refine blk_alloc ?_ _));exact BK107.out⟩, ⟨by (with_reducible repeat (first | refine blk_drewN ?_ _ | refine blk_drew ?_ | refine blk_alloc ?_ _));exact BK113.out⟩, ⟨by (with_reducible repeat (first | refine blk_drewN ?_ _ | refine blk_drew ?_ | refine blk_alloc ?_ _));exact BK123.out⟩, ⟨by (with_reducible repeat (first | refine blk_drewN ?_ _ | refine blk_drew ?_ | refine blk_alloc ?_ _));exact BK124.out⟩, ⟨by (with_reducible repeat (first | refine blk_drewN ?_ _ | refine blk_drew ?_ | refine blk_alloc ?_ _));exact BK125.out⟩, ⟨by repeat (first | (with_reducible first | exact HB.out | apply below_alloc | apply pw_below_drewN | apply below_drew1 | refine below_set ?_ GE107.out | refine below_set ?_ GE113.out | refine below_set ?_ GE123.out | refine below_set ?_ GE124.out | refine below_set ?_ GE125.out) | exact HB.out)⟩⟩
     rw [if_neg c59] at H
     have c59b0 : decide (x8_2 < (t104.length : Int)) = false := decide_eq_false c59
     clear c59
     replace H := Option.bind_eq_some_iff.mp H
     obtain ⟨t128, A690, H⟩ := H
     replace H : (if t128 = true then (some false) else ((impl_ExOk.f k2 t101 t102 (wrap64 ((wrap64 (t103 + 20)) + 1)) t104).bind fun t129 => (if t129 = true then (some false) else ((impl_ExOk.f k2 8 t102 t103 t104).bind fun t130 => (if t130 = true then (some false) else ((impl_ExOk.f k2 t101 5 t103 t104).bind fun t131 => (if t131 = true then (some false) else ((impl_ExText.f k2 t101 t102 t103 y120).bind fun t132 => (if t132.toList = ([] : List UInt8) then ((impl_ExSyms.f k2 8 t102 t103 t104).bind fun t133 => (some ((t133.length : Int) == 0))) else (some false)))))))))) = some r := H
     have A69 := m0_ A690
     clear A690
     by_cases c70 : t128 = true
     ·subst c70
      have H1 : (some false) = some r := by rw [if_pos rfl] at H;exact H
      clear H
      have H := H1
      clear H1
      exact absurd (Option.some.inj H) (by rw [hT_.out];decide)
     replace c70 := Bool.eq_false_iff.mpr c70
     subst c70
     have H1 : ((impl_ExOk.f k2 t101 t102 (wrap64 ((wrap64 (t103 + 20)) + 1)) t104).bind fun t129 => (if t129 = true then (some false) else ((impl_ExOk.f k2 8 t102 t103 t104).bind fun t130 => (if t130 = true then (some false) else ((impl_ExOk.f k2 t101 5 t103 t104).bind fun t131 => (if t131 = true then (some false) else ((impl_ExText.f k2 t101 t102 t103 y120).bind fun t132 => (if t132.toList = ([] : List UInt8) then ((impl_ExSyms.f k2 8 t102 t103 t104).bind fun t133 => (some ((t133.length : Int) == 0))) else (some false))))))))) = some r := by rw [if_neg (show ¬ (false = true) by decide)] at H;exact H
     clear H
     have H := H1
     clear H1
     replace H := Option.bind_eq_some_iff.mp H
     obtain ⟨t129, A710, H⟩ := H
     replace H : (if t129 = true then (some false) else ((impl_ExOk.f k2 8 t102 t103 t104).bind fun t130 => (if t130 = true then (some false) else ((impl_ExOk.f k2 t101 5 t103 t104).bind fun t131 => (if t131 = true then (some false) else ((impl_ExText.f k2 t101 t102 t103 y120).bind fun t132 => (if t132.toList = ([] : List UInt8) then ((impl_ExSyms.f k2 8 t102 t103 t104).bind fun t133 => (some ((t133.length : Int) == 0))) else (some false)))))))) = some r := H
     have A71 := m0_ A710
     clear A710
     by_cases c72 : t129 = true
     ·subst c72
      have H1 : (some false) = some r := by rw [if_pos rfl] at H;exact H
      clear H
      have H := H1
      clear H1
      exact absurd (Option.some.inj H) (by rw [hT_.out];decide)
     replace c72 := Bool.eq_false_iff.mpr c72
     subst c72
     have H1 : ((impl_ExOk.f k2 8 t102 t103 t104).bind fun t130 => (if t130 = true then (some false) else ((impl_ExOk.f k2 t101 5 t103 t104).bind fun t131 => (if t131 = true then (some false) else ((impl_ExText.f k2 t101 t102 t103 y120).bind fun t132 => (if t132.toList = ([] : List UInt8) then ((impl_ExSyms.f k2 8 t102 t103 t104).bind fun t133 => (some ((t133.length : Int) == 0))) else (some false))))))) = some r := by rw [if_neg (show ¬ (false = true) by decide)] at H;exact H
     clear H
     have H := H1
     clear H1
     replace H := Option.bind_eq_some_iff.mp H
     obtain ⟨t130, A730, H⟩ := H
     replace H : (if t130 = true then (some false) else ((impl_ExOk.f k2 t101 5 t103 t104).bind fun t131 => (if t131 = true then (some false) else ((impl_ExText.f k2 t101 t102 t103 y120).bind fun t132 => (if t132.toList = ([] : List UInt8) then ((impl_ExSyms.f k2 8 t102 t103 t104).bind fun t133 => (some ((t133.length : Int) == 0))) else (some false)))))) = some r := H
     have A73 := m0_ A730
     clear A730
     by_cases c74 : t130 = true
     ·subst c74
      have H1 : (some false) = some r := by rw [if_pos rfl] at H;exact H
      clear H
      have H := H1
      clear H1
      exact absurd (Option.some.inj H) (by rw [hT_.out];decide)
     replace c74 := Bool.eq_false_iff.mpr c74
     subst c74
     have H1 : ((impl_ExOk.f k2 t101 5 t103 t104).bind fun t131 => (if t131 = true then (some false) else ((impl_ExText.f k2 t101 t102 t103 y120).bind fun t132 => (if t132.toList = ([] : List UInt8) then ((impl_ExSyms.f k2 8 t102 t103 t104).bind fun t133 => (some ((t133.length : Int) == 0))) else (some false))))) = some r := by rw [if_neg (show ¬ (false = true) by decide)] at H;exact H
     clear H
     have H := H1
     clear H1
     replace H := Option.bind_eq_some_iff.mp H
     obtain ⟨t131, A750, H⟩ := H
     replace H : (if t131 = true then (some false) else ((impl_ExText.f k2 t101 t102 t103 y120).bind fun t132 => (if t132.toList = ([] : List UInt8) then ((impl_ExSyms.f k2 8 t102 t103 t104).bind fun t133 => (some ((t133.length : Int) == 0))) else (some false)))) = some r := H
     have A75 := m0_ A750
     clear A750
     by_cases c76 : t131 = true
     ·subst c76
      have H1 : (some false) = some r := by rw [if_pos rfl] at H;exact H
      clear H
      have H := H1
      clear H1
      exact absurd (Option.some.inj H) (by rw [hT_.out];decide)
     replace c76 := Bool.eq_false_iff.mpr c76
     subst c76
     have H1 : ((impl_ExText.f k2 t101 t102 t103 y120).bind fun t132 => (if t132.toList = ([] : List UInt8) then ((impl_ExSyms.f k2 8 t102 t103 t104).bind fun t133 => (some ((t133.length : Int) == 0))) else (some false))) = some r := by rw [if_neg (show ¬ (false = true) by decide)] at H;exact H
     clear H
     have H := H1
     clear H1
     replace H := Option.bind_eq_some_iff.mp H
     obtain ⟨t132, A770, H⟩ := H
     replace H : (if t132.toList = ([] : List UInt8) then ((impl_ExSyms.f k2 8 t102 t103 t104).bind fun t133 => (some ((t133.length : Int) == 0))) else (some false)) = some r := H
     have A77 := m0_ A770
     clear A770
     by_cases c78 : t132.toList = ([] : List UInt8)
     rotate_left
     ·rw [if_neg c78] at H
      have c78b0 : (t132.toList == ([] : List UInt8)) = false := beq_eq_false_iff_ne.mpr c78
      have c78b1 : (t132.toList != ([] : List UInt8)) = true := bne_iff_ne.mpr c78
      exact absurd (Option.some.inj H) (by rw [hT_.out];decide)
     rw [if_pos c78] at H
     have c78b0 : (t132.toList == ([] : List UInt8)) = true := beq_iff_eq.mpr c78
     have c78b1 : (t132.toList != ([] : List UInt8)) = false := bne_eq_false_iff_eq.mpr c78
     clear c78
     replace H := Option.bind_eq_some_iff.mp H
     obtain ⟨t133, A790, H⟩ := H
     replace H : (some ((t133.length : Int) == 0)) = some r := H
     have A79 := m0_ A790
     clear A790
     obtain rfl := Option.some.inj H
     have hnb80 := NB107_113.out
     have hnc80 := NB113_107.out
     have hnb81 := NB107_123.out
     have hnc81 := NB123_107.out
     have hnb82 := NB107_124.out
     have hnc82 := NB124_107.out
     have hnb83 := NB107_125.out
     have hnc83 := NB125_107.out
     obtain ⟨hcz84_0, hcz84_1, hcz84_2, hcz84_3, hfz84_0, hfz84_1, hfz84_2, hfz84_3⟩ := bx4 BK107.out
     have hnb85 := NB113_123.out
     have hnc85 := NB123_113.out
     have hnb86 := NB113_124.out
     have hnc86 := NB124_113.out
     have hnb87 := NB113_125.out
     have hnc87 := NB125_113.out
     obtain ⟨hcz88_0, hcz88_1, hcz88_2, hcz88_3, hfz88_0, hfz88_1, hfz88_2, hfz88_3⟩ := bx4 BK113.out
     go_wp2_with (first | ((with_reducible refine gate_callee (f := 19) rfl ?_);refine goesL_ (some 63) rfl rfl Tryd.func19 (by kernel_rfl) rfl #[.agg #[.int .i64 t101, .int .i64 t102, .int .i64 t103, .slice Ao39 y120.length co39]] rfl (by (try simp only [List.map_toArray, List.map_cons, List.map_nil]);first | done | rfl | (simp only [List.length_drop, List.length_take];rfl)) ?_;(with_reducible refine (impl_ExOk.calls k2 t101 t102 t103 _ _ y120 false _ ?side1 ?side2 A69.out).mono ?_);(case side1 => repeat (first | exact (Kd.N_reads' HO_114003.out).2.2 | (with_reducible refine Kd.C_alloc ?_ _) | (with_reducible refine Kd.C_drewN ?_ _) | (with_reducible refine Kd.C_drew ?_)));(case side2 => exact (Kd.N_reads' HO_114003.out).2.1);rintro e w89 ⟨rfl, hb⟩;refine ⟨_, rfl, ?_⟩;have n0_ := m0_ (Kd.N_below (by (with_reducible repeat (first | apply Kd.N_alloc | apply Kd.N_drewN | apply Kd.N_drew));exact HO_108003.out) hb);have n1_ := m0_ (Kd.N_below (by (with_reducible repeat (first | apply Kd.N_alloc | apply Kd.N_drewN | apply Kd.N_drew));exact HO_114003.out) hb);have n2_ := m0_ (Kd.N_below (by (with_reducible repeat (first | apply Kd.N_alloc | apply Kd.N_drewN | apply Kd.N_drew));exact HO_124003.out) hb);have n3_ := m0_ (Kd.N_below (by (with_reducible repeat (first | apply Kd.N_alloc | apply Kd.N_drewN | apply Kd.N_drew));exact HO_125003.out) hb);have n4_ := m0_ (Kd.N_below (by (with_reducible repeat (first | apply Kd.N_alloc | apply Kd.N_drewN | apply Kd.N_drew));exact HO_126003.out) hb);have n5_ := m0_ (blk_below BK107.out hb);have n6_ := m0_ (blk_below BK113.out hb);have n7_ := m0_ (blk_below BK123.out hb);have n8_ := m0_ (blk_below BK124.out hb);have n9_ := m0_ (blk_below BK125.out hb);have n10_ := m0_ (below_step (by repeat (first | (with_reducible first | exact HB.out | apply below_alloc | apply pw_below_drewN | apply below_drew1 | refine below_set ?_ GE107.out | refine below_set ?_ GE113.out | refine below_set ?_ GE123.out | refine below_set ?_ GE124.out | refine below_set ?_ GE125.out) | exact HB.out)) hb);clear HO_108003;clear HO_114003;clear HO_124003;clear HO_125003;clear HO_126003;clear BK107;clear BK113;clear BK123;clear BK124;clear BK125;clear HB;have HO_108003 := n0_;have HO_114003 := n1_;have HO_124003 := n2_;have HO_125003 := n3_;have HO_126003 := n4_;have BK107 := n5_;have BK113 := n6_;have BK123 := n7_;have BK124 := n8_;have BK125 := n9_;have HB := n10_;clear n0_ n1_ n2_ n3_ n4_ n5_ n6_ n7_ n8_ n9_ n10_;(try clear hb);(try clear hb2);(try clear hk);(try clear hi);have hnb90 := NB123_124.out;have hnc90 := NB124_123.out;have hnb91 := NB123_125.out;have hnc91 := NB125_123.out;obtain ⟨hcz92_0, hcz92_1, hcz92_2, hcz92_3, hfz92_0, hfz92_1, hfz92_2, hfz92_3⟩ := bx4 BK123.out) | (go_at_call 19;(with_reducible refine (impl_ExOk.calls k2 t101 t102 (wrap64 ((wrap64 (t103 + 20)) + 1)) _ _ t104 false _ ?side1 ?side2 A71.out).mono ?_);(case side1 => repeat (first | exact (Kd.N_reads' HO_124003.out).2.2 | (with_reducible refine Kd.C_alloc ?_ _) | (with_reducible refine Kd.C_drewN ?_ _) | (with_reducible refine Kd.C_drew ?_)));(case side2 => exact (Kd.N_reads' HO_124003.out).2.1);rintro e w93 ⟨rfl, hb⟩;have n0_ := m0_ (Kd.N_below (by (with_reducible repeat (first | apply Kd.N_alloc | apply Kd.N_drewN | apply Kd.N_drew));exact HO_108003.out) hb);have n1_ := m0_ (Kd.N_below (by (with_reducible repeat (first | apply Kd.N_alloc | apply Kd.N_drewN | apply Kd.N_drew));exact HO_114003.out) hb);have n2_ := m0_ (Kd.N_below (by (with_reducible repeat (first | apply Kd.N_alloc | apply Kd.N_drewN | apply Kd.N_drew));exact HO_124003.out) hb);have n3_ := m0_ (Kd.N_below (by (with_reducible repeat (first | apply Kd.N_alloc | apply Kd.N_drewN | apply Kd.N_drew));exact HO_125003.out) hb);have n4_ := m0_ (Kd.N_below (by (with_reducible repeat (first | apply Kd.N_alloc | apply Kd.N_drewN | apply Kd.N_drew));exact HO_126003.out) hb);have n5_ := m0_ (blk_below BK107.out hb);have n6_ := m0_ (blk_below BK113.out hb);have n7_ := m0_ (blk_below BK123.out hb);have n8_ := m0_ (blk_below BK124.out hb);have n9_ := m0_ (blk_below BK125.out hb);have n10_ := m0_ (below_step (by repeat (first | (with_reducible first | exact HB.out | apply below_alloc | apply pw_below_drewN | apply below_drew1 | refine below_set ?_ GE107.out | refine below_set ?_ GE113.out | refine below_set ?_ GE123.out | refine below_set ?_ GE124.out | refine below_set ?_ GE125.out) | exact HB.out)) hb);clear HO_108003;clear HO_114003;clear HO_124003;clear HO_125003;clear HO_126003;clear BK107;clear BK113;clear BK123;clear BK124;clear BK125;clear HB;have HO_108003 := n0_;have HO_114003 := n1_;have HO_124003 := n2_;have HO_125003 := n3_;have HO_126003 := n4_;have BK107 := n5_;have BK113 := n6_;have BK123 := n7_;have BK124 := n8_;have BK125 := n9_;have HB := n10_;clear n0_ n1_ n2_ n3_ n4_ n5_ n6_ n7_ n8_ n9_ n10_;(try clear hb);(try clear hb2);(try clear hk);(try clear hi);have hnb94 := NB124_125.out;have hnc94 := NB125_124.out;obtain ⟨hcz95_0, hcz95_1, hcz95_2, hcz95_3, hfz95_0, hfz95_1, hfz95_2, hfz95_3⟩ := bx4 BK124.out) | (go_at_call 19;(with_reducible refine (impl_ExOk.calls k2 8 t102 t103 _ _ t104 false _ ?side1 ?side2 A73.out).mono ?_);(case side1 => repeat (first | exact (Kd.N_reads' HO_125003.out).2.2 | (with_reducible refine Kd.C_alloc ?_ _) | (with_reducible refine Kd.C_drewN ?_ _) | (with_reducible refine Kd.C_drew ?_)));(case side2 => exact (Kd.N_reads' HO_125003.out).2.1);rintro e w96 ⟨rfl, hb⟩;have n0_ := m0_ (Kd.N_below (by (with_reducible repeat (first | apply Kd.N_alloc | apply Kd.N_drewN | apply Kd.N_drew));exact HO_108003.out) hb);have n1_ := m0_ (Kd.N_below (by (with_reducible repeat (first | apply Kd.N_alloc | apply Kd.N_drewN | apply Kd.N_drew));exact HO_114003.out) hb);have n2_ := m0_ (Kd.N_below (by (with_reducible repeat (first | apply Kd.N_alloc | apply Kd.N_drewN | apply Kd.N_drew));exact HO_124003.out) hb);have n3_ := m0_ (Kd.N_below (by (with_reducible repeat (first | apply Kd.N_alloc | apply Kd.N_drewN | apply Kd.N_drew));exact HO_125003.out) hb);have n4_ := m0_ (Kd.N_below (by (with_reducible repeat (first | apply Kd.N_alloc | apply Kd.N_drewN | apply Kd.N_drew));exact HO_126003.out) hb);have n5_ := m0_ (blk_below BK107.out hb);have n6_ := m0_ (blk_below BK113.out hb);have n7_ := m0_ (blk_below BK123.out hb);have n8_ := m0_ (blk_below BK124.out hb);have n9_ := m0_ (blk_below BK125.out hb);have n10_ := m0_ (below_step (by repeat (first | (with_reducible first | exact HB.out | apply below_alloc | apply pw_below_drewN | apply below_drew1 | refine below_set ?_ GE107.out | refine below_set ?_ GE113.out | refine below_set ?_ GE123.out | refine below_set ?_ GE124.out | refine below_set ?_ GE125.out) | exact HB.out)) hb);clear HO_108003;clear HO_114003;clear HO_124003;clear HO_125003;clear HO_126003;clear BK107;clear BK113;clear BK123;clear BK124;clear BK125;clear HB;have HO_108003 := n0_;have HO_114003 := n1_;have HO_124003 := n2_;have HO_125003 := n3_;have HO_126003 := n4_;have BK107 := n5_;have BK113 := n6_;have BK123 := n7_;have BK124 := n8_;have BK125 := n9_;have HB := n10_;clear n0_ n1_ n2_ n3_ n4_ n5_ n6_ n7_ n8_ n9_ n10_;(try clear hb);(try clear hb2);(try clear hk);(try clear hi);obtain ⟨hcz97_0, hcz97_1, hcz97_2, hcz97_3, hfz97_0, hfz97_1, hfz97_2, hfz97_3⟩ := bx4 BK125.out) | (go_at_call 19;(with_reducible refine (impl_ExOk.calls k2 t101 5 t103 _ _ t104 false _ ?side1 ?side2 A75.out).mono ?_);(case side1 => repeat (first | exact (Kd.N_reads' HO_126003.out).2.2 | (with_reducible refine Kd.C_alloc ?_ _) | (with_reducible refine Kd.C_drewN ?_ _) | (with_reducible refine Kd.C_drew ?_)));(case side2 => exact (Kd.N_reads' HO_126003.out).2.1);rintro e w98 ⟨rfl, hb⟩;have n0_ := m0_ (Kd.N_below (by (with_reducible repeat (first | apply Kd.N_alloc | apply Kd.N_drewN | apply Kd.N_drew));exact HO_108003.out) hb);have n1_ := m0_ (Kd.N_below (by (with_reducible repeat (first | apply Kd.N_alloc | apply Kd.N_drewN | apply Kd.N_drew));exact HO_114003.out) hb);have n2_ := m0_ (Kd.N_below (by (with_reducible repeat (first | apply Kd.N_alloc | apply Kd.N_drewN | apply Kd.N_drew));exact HO_124003.out) hb);have n3_ := m0_ (Kd.N_below (by (with_reducible repeat (first | apply Kd.N_alloc | apply Kd.N_drewN | apply Kd.N_drew));exact HO_125003.out) hb);have n4_ := m0_ (Kd.N_below (by (with_reducible repeat (first | apply Kd.N_alloc | apply Kd.N_drewN | apply Kd.N_drew));exact HO_126003.out) hb);have n5_ := m0_ (blk_below BK107.out hb);have n6_ := m0_ (blk_below BK113.out hb);have n7_ := m0_ (blk_below BK123.out hb);have n8_ := m0_ (blk_below BK124.out hb);have n9_ := m0_ (blk_below BK125.out hb);have n10_ := m0_ (below_step (by repeat (first | (with_reducible first | exact HB.out | apply below_alloc | apply pw_below_drewN | apply below_drew1 | refine below_set ?_ GE107.out | refine below_set ?_ GE113.out | refine below_set ?_ GE123.out | refine below_set ?_ GE124.out | refine below_set ?_ GE125.out) | exact HB.out)) hb);clear HO_108003;clear HO_114003;clear HO_124003;clear HO_125003;clear HO_126003;clear BK107;clear BK113;clear BK123;clear BK124;clear BK125;clear HB;have HO_108003 := n0_;have HO_114003 := n1_;have HO_124003 := n2_;have HO_125003 := n3_;have HO_126003 := n4_;have BK107 := n5_;have BK113 := n6_;have BK123 := n7_;have BK124 := n8_;have BK125 := n9_;have HB := n10_;clear n0_ n1_ n2_ n3_ n4_ n5_ n6_ n7_ n8_ n9_ n10_;(try clear hb);(try clear hb2);(try clear hk);(try clear hi);obtain ⟨hcz99_0, hcz99_1, hcz99_2, hcz99_3, hfz99_0, hfz99_1, hfz99_2, hfz99_3⟩ := bx4 BK113.out) | (go_at_call 11;(with_reducible refine (impl_ExText.calls k2 t101 t102 t103 _ _ y120 t132 _ ?side1 ?side2 A77.out).mono ?_);(case side1 => repeat (first | exact (Kd.N_reads' HO_114003.out).2.2 | (with_reducible refine Kd.C_alloc ?_ _) | (with_reducible refine Kd.C_drewN ?_ _) | (with_reducible refine Kd.C_drew ?_)));(case side2 => exact (Kd.N_reads' HO_114003.out).2.1);rintro e w100 ⟨rfl, hb⟩;have n0_ := m0_ (Kd.N_below (by (with_reducible repeat (first | apply Kd.N_alloc | apply Kd.N_drewN | apply Kd.N_drew));exact HO_108003.out) hb);have n1_ := m0_ (Kd.N_below (by (with_reducible repeat (first | apply Kd.N_alloc | apply Kd.N_drewN | apply Kd.N_drew));exact HO_114003.out) hb);have n2_ := m0_ (Kd.N_below (by (with_reducible repeat (first | apply Kd.N_alloc | apply Kd.N_drewN | apply Kd.N_drew));exact HO_124003.out) hb);have n3_ := m0_ (Kd.N_below (by (with_reducible repeat (first | apply Kd.N_alloc | apply Kd.N_drewN | apply Kd.N_drew));exact HO_125003.out) hb);have n4_ := m0_ (Kd.N_below (by (with_reducible repeat (first | apply Kd.N_alloc | apply Kd.N_drewN | apply Kd.N_drew));exact HO_126003.out) hb);have n5_ := m0_ (blk_below BK107.out hb);have n6_ := m0_ (blk_below BK113.out hb);have n7_ := m0_ (blk_below BK123.out hb);have n8_ := m0_ (blk_below BK124.out hb);have n9_ := m0_ (blk_below BK125.out hb);have n10_ := m0_ (below_step (by repeat (first | (with_reducible first | exact HB.out | apply below_alloc | apply pw_below_drewN | apply below_drew1 | refine below_set ?_ GE107.out | refine below_set ?_ GE113.out | refine below_set ?_ GE123.out | refine below_set ?_ GE124.out | refine below_set ?_ GE125.out) | exact HB.out)) hb);clear HO_108003;clear HO_114003;clear HO_124003;clear HO_125003;clear HO_126003;clear BK107;clear BK113;clear BK123;clear BK124;clear BK125;clear HB;have HO_108003 := n0_;have HO_114003 := n1_;have HO_124003 := n2_;have HO_125003 := n3_;have HO_126003 := n4_;have BK107 := n5_;have BK113 := n6_;have BK123 := n7_;have BK124 := n8_;have BK125 := n9_;have HB := n10_;clear n0_ n1_ n2_ n3_ n4_ n5_ n6_ n7_ n8_ n9_ n10_;(try clear hb);(try clear hb2);(try clear hk);(try clear hi);obtain ⟨hcz101_0, hcz101_1, hcz101_2, hcz101_3, hfz101_0, hfz101_1, hfz101_2, hfz101_3⟩ := bx4 BK124.out) | (go_at_call 20;(with_reducible refine (impl_ExSyms.calls k2 8 t102 t103 _ _ t104 t133 _ ?side1 ?side2 A79.out).mono ?_);(case side1 => repeat (first | exact (Kd.N_reads' HO_125003.out).2.2 | (with_reducible refine Kd.C_alloc ?_ _) | (with_reducible refine Kd.C_drewN ?_ _) | (with_reducible refine Kd.C_drew ?_)));(case side2 => exact (Kd.N_reads' HO_125003.out).2.1);rintro e w102 ⟨v134, rfl, ho0, hb⟩;have n0_ := m0_ (Kd.N_elder' (by (with_reducible repeat (first | apply Kd.N_alloc | apply Kd.N_drewN | apply Kd.N_drew));exact HO_108003.out) (Kd.R_base ho0) hb);have n1_ := m0_ (Kd.N_elder' (by (with_reducible repeat (first | apply Kd.N_alloc | apply Kd.N_drewN | apply Kd.N_drew));exact HO_114003.out) (Kd.R_base ho0) hb);have n2_ := m0_ (Kd.N_elder' (by (with_reducible repeat (first | apply Kd.N_alloc | apply Kd.N_drewN | apply Kd.N_drew));exact HO_124003.out) (Kd.R_base ho0) hb);have n3_ := m0_ (Kd.N_elder' (by (with_reducible repeat (first | apply Kd.N_alloc | apply Kd.N_drewN | apply Kd.N_drew));exact HO_125003.out) (Kd.R_base ho0) hb);have n4_ := m0_ (Kd.N_elder' (by (with_reducible repeat (first | apply Kd.N_alloc | apply Kd.N_drewN | apply Kd.N_drew));exact HO_126003.out) (Kd.R_base ho0) hb);have n5_ := m0_ (Kd.R_lower ho0 (below_size (by repeat (first | (with_reducible first | exact HB.out | apply below_alloc | apply pw_below_drewN | apply below_drew1 | refine below_set ?_ GE107.out | refine below_set ?_ GE113.out | refine below_set ?_ GE123.out | refine below_set ?_ GE124.out | refine below_set ?_ GE125.out) | exact HB.out))));have n6_ := m0_ (blk_below BK107.out hb);have n7_ := m0_ (blk_below BK113.out hb);have n8_ := m0_ (blk_below BK123.out hb);have n9_ := m0_ (blk_below BK124.out hb);have n10_ := m0_ (blk_below BK125.out hb);have n11_ := m0_ (below_step (by repeat (first | (with_reducible first | exact HB.out | apply below_alloc | apply pw_below_drewN | apply below_drew1 | refine below_set ?_ GE107.out | refine below_set ?_ GE113.out | refine below_set ?_ GE123.out | refine below_set ?_ GE124.out | refine below_set ?_ GE125.out) | exact HB.out)) hb);clear HO_108003;clear HO_114003;clear HO_124003;clear HO_125003;clear HO_126003;clear BK107;clear BK113;clear BK123;clear BK124;clear BK125;clear HB;have HO_108003 := n0_;have HO_114003 := n1_;have HO_124003 := n2_;have HO_125003 := n3_;have HO_126003 := n4_;have HO135 := n5_;have BK107 := n6_;have BK113 := n7_;have BK123 := n8_;have BK124 := n9_;have BK125 := n10_;have HB := n11_;clear n0_ n1_ n2_ n3_ n4_ n5_ n6_ n7_ n8_ n9_ n10_ n11_;(try clear hb);(try clear hb2);(try clear hk);(try clear hi);(try clear ho0);obtain ⟨Ao103, co103, eo103⟩ := Kd.R_slice HO135.out;subst eo103))
     go_ret
     exact ⟨by first | rfl | (simp [errW_none, errW_some] <;> rfl) | (simp [*, errW_none, errW_some] <;> rfl), by repeat (first | (with_reducible first | exact HB.out | apply below_alloc | apply pw_below_drewN | apply below_drew1 | refine below_set ?_ GE107.out | refine below_set ?_ GE113.out | refine below_set ?_ GE123.out | refine below_set ?_ GE124.out | refine below_set ?_ GE125.out) | exact HB.out)⟩

end Go.Proofs.YtbcdfbiggjfmlaaDoor.M
namespace Go.Proofs.YtbcdfbiggjfmlaaDoor.M
set_option linter.unusedVariables false
set_option linter.unusedSimpArgs false
open Go.RowKit Go.Proofs.YtbcdfbiggjfmlaaDoorW.PrintWords Go.Proofs.YtbcdfbiggjfmlaaDoorW.PrintLast

theorem ofInt_small (a : Nat) (ha : a < 9223372036854775808) : (BitVec.ofInt 64 (a : Int)).toNat = a := by
  rw [BitVec.ofInt_natCast, BitVec.toNat_ofNat]; exact Nat.mod_eq_of_lt (by omega)
theorem xor_small (a b : Nat) (ha : a < 9223372036854775808) (hb : b < 9223372036854775808) : bits .xor .i64 (a : Int) (b : Int) = ((a ^^^ b : Nat) : Int) := by
  have hx : a ^^^ b < 2 ^ 63 := Nat.xor_lt_two_pow (by omega) (by omega)
  show IntKind.i64.wrap ((BitVec.ofInt 64 (a : Int) ^^^ BitVec.ofInt 64 (b : Int)).toNat : Int) = _
  rw [BitVec.toNat_xor, ofInt_small a ha, ofInt_small b hb, IntKind.wrap_i64]
  omega
theorem mix_small (x : Int) (h0 : 0 ≤ x) (h1 : x ≤ 1099511627776) : 0 ≤ bits .xor .i64 x (wrap64 (Int.tdiv x 64)) := by
  obtain ⟨n, rfl⟩ := Int.eq_ofNat_of_zero_le h0
  have : Int.tdiv (n : Int) 64 = ((n / 64 : Nat) : Int) := rfl
  rw [this, w_small (by omega) (by omega), xor_small n (n / 64) (by omega) (by omega)]
  exact Int.natCast_nonneg _

def Bytes (bs : List Int) : Prop := bs.length ≤ 2000 ∧ ∀ x ∈ bs, 0 ≤ x ∧ x ≤ 255
theorem bytes_of {l : List Int} (h : ∀ x ∈ l, (Lit.int .u8 x).wf = true) : ∀ x ∈ l, 0 ≤ x ∧ x ≤ 255 := by
  intro x hx
  have := h x hx
  simp only [Lit.wf, Bool.and_eq_true, decide_eq_true_eq] at this
  exact this
theorem Bytes.rdLe {bs : List Int} (h : Bytes bs) (i : Int) : 0 ≤ rd bs i ∧ rd bs i ≤ 255 := by
  unfold rd
  rw [List.getD_eq_getElem?_getD]
  rcases Nat.lt_or_ge i.toNat bs.length with hi | hi
  · rw [List.getElem?_eq_getElem hi]
    exact h.2 _ (List.getElem_mem hi)
  · rw [List.getElem?_eq_none hi]
    simp

theorem l14Open_is (l : List Int) (hl : l.length ≤ 9223372036854775807) : spec_l14Open.f l = some (l.take 2000, 0) := by
  unfold spec_l14Open.f
  by_cases h : (l.length : Int) > 2000
  · rw [if_pos h, if_pos (by omega)]
  · rw [if_neg h, List.take_of_length_le (by omega)]
theorem open_bytes {l : List Int} (h : ∀ x ∈ l, (Lit.int .u8 x).wf = true) : Bytes (l.take 2000) :=
  ⟨by rw [List.length_take]; omega, fun x hx => bytes_of h x (List.mem_of_mem_take hx)⟩

theorem tmod_lt (a n : Int) (h0 : 0 ≤ a) (h1 : 1 ≤ n) : 0 ≤ Int.tmod a n ∧ Int.tmod a n < n := by
  rw [Int.tmod_eq_emod_of_nonneg h0]
  exact ⟨Int.emod_nonneg _ (by omega), Int.emod_lt_of_pos _ (by omega)⟩

theorem pick_ev (bs : List Int) (hb : Bytes bs) (p n : Int) (h0 : 0 ≤ p) (h1 : p ≤ 1000000) : ∃ r, Ev (fun k => spec_l14Rd_pick.f k bs p n) (r, p + 1) ∧ 0 ≤ r ∧ (r < n ∨ n < 1 ∧ r = 0) := by
  have w1 : wrap64 (p + 1) = p + 1 := w_small (by omega) (by omega)
  by_cases hn : n < 1
  · refine ⟨0, ?_, by omega, .inr ⟨hn, rfl⟩⟩
    unfold spec_l14Rd_pick.f
    refine Ev.pos hn (Ev.last (fun k => ?_))
    simp only [spec_l14Rd_pick.j0]
    rw [if_pos trivial, w1]
  by_cases he : (bs.length : Int) = 0
  · refine ⟨0, ?_, by omega, .inl (by omega)⟩
    unfold spec_l14Rd_pick.f
    refine Ev.neg hn (Ev.last (fun k => ?_))
    simp only [spec_l14Rd_pick.j0]
    rw [beq_iff_eq.2 he, if_pos rfl, w1]
  have w2 : wrap64 (p + 1 - 1) = p := by rw [show p + 1 - 1 = p by omega]; exact w_small (by omega) (by omega)
  have hne : ((bs.length : Int) == 0) = false := beq_eq_false_iff_ne.2 he
  have hlen := hb.1
  by_cases hk : p < (bs.length : Int)
  · have hr := hb.rdLe p
    have hm := tmod_lt (rd bs p) n hr.1 (by omega)
    refine ⟨Int.tmod (rd bs p) n, ?_, hm.1, .inl hm.2⟩
    unfold spec_l14Rd_pick.f
    refine Ev.neg hn (Ev.last (fun k => ?_))
    simp only [spec_l14Rd_pick.j0]
    rw [hne, if_neg (by decide), w1, w2, if_pos hk, if_pos h0, if_neg (by omega), w_small (by omega) (by omega)]
  have t1 := tmod_lt p (bs.length : Int) h0 (by omega)
  have w3 : wrap64 (p * 7) = p * 7 := w_small (by omega) (by omega)
  have w4 : wrap64 (p * 7 + 3) = p * 7 + 3 := w_small (by omega) (by omega)
  have t2 := tmod_lt (p * 7 + 3) (bs.length : Int) (by omega) (by omega)
  have r1 := hb.rdLe (Int.tmod p (bs.length : Int))
  have r2 := hb.rdLe (Int.tmod (p * 7 + 3) (bs.length : Int))
  have hd : 0 ≤ Int.tdiv p (bs.length : Int) ∧ Int.tdiv p (bs.length : Int) ≤ p := by
    rw [Int.tdiv_eq_ediv_of_nonneg h0]
    exact ⟨Int.ediv_nonneg h0 (by omega), Int.ediv_le_self _ h0⟩
  have w5 : wrap64 (Int.tdiv p (bs.length : Int)) = Int.tdiv p (bs.length : Int) := w_small (by omega) (by omega)
  generalize hq : Int.tdiv p (bs.length : Int) = q at *
  generalize ha : rd bs (Int.tmod p (bs.length : Int)) = a at *
  generalize hb' : rd bs (Int.tmod (p * 7 + 3) (bs.length : Int)) = b at *
  have x1 : wrap64 a = a := w_small (by omega) (by omega)
  have x2 : wrap64 b = b := w_small (by omega) (by omega)
  have x3 : wrap64 (a * 131) = a * 131 := w_small (by omega) (by omega)
  have x4 : wrap64 (b * 1117) = b * 1117 := w_small (by omega) (by omega)
  have x5 : wrap64 (a * 131 + b * 1117) = a * 131 + b * 1117 := w_small (by omega) (by omega)
  have x6 : wrap64 (p * 29) = p * 29 := w_small (by omega) (by omega)
  have x7 : wrap64 (a * 131 + b * 1117 + p * 29) = a * 131 + b * 1117 + p * 29 := w_small (by omega) (by omega)
  have x8 : wrap64 (q * 53) = q * 53 := w_small (by omega) (by omega)
  have x9 : wrap64 (a * 131 + b * 1117 + p * 29 + q * 53) = a * 131 + b * 1117 + p * 29 + q * 53 := w_small (by omega) (by omega)
  have hx := mix_small (a * 131 + b * 1117 + p * 29 + q * 53) (by omega) (by omega)
  generalize hX : bits .xor .i64 (a * 131 + b * 1117 + p * 29 + q * 53) (wrap64 (Int.tdiv (a * 131 + b * 1117 + p * 29 + q * 53) 64)) = X at *
  have hm := tmod_lt X n hx (by omega)
  refine ⟨Int.tmod X n, ?_, hm.1, .inl hm.2⟩
  unfold spec_l14Rd_pick.f
  refine Ev.neg hn (Ev.last (fun k => ?_))
  simp only [spec_l14Rd_pick.j0]
  rw [hne, if_neg (by decide), w1, w2, if_neg hk, if_neg he, if_pos t1.1, if_pos t1.2, w3, w4, if_pos t2.1, if_pos t2.2, if_neg (by omega), hq, ha, hb', w5, x1, x2, x3, x4, x5, x6, x7, x8, x9, hX]

theorem num_ev (bs : List Int) (hb : Bytes bs) (p : Int) (l : List Int) (hl : l ≠ []) (hm : l.length ≤ 1000000) (h0 : 0 ≤ p) (h1 : p ≤ 1000000) : ∃ r, Ev (fun k => spec_l14Rd_num.f k bs p l) (r, p + 1) ∧ r ∈ l := by
  obtain ⟨r, hr, h2, h3⟩ := pick_ev bs hb p (l.length : Int) h0 h1
  have hpos : 0 < l.length := List.length_pos_iff.2 hl
  have hlt : r < (l.length : Int) := by omega
  refine ⟨rd l r, ?_, ?_⟩
  · unfold spec_l14Rd_num.f
    exact Ev.bind hr (Ev.pos h2 (Ev.pos hlt (Ev.now _)))
  · unfold rd
    rw [List.getD_eq_getElem?_getD, List.getElem?_eq_getElem (show r.toNat < l.length by omega)]
    exact List.getElem_mem _
theorem maxLen_le {n : Nat} (h : n ≤ maxLen) : n ≤ 9223372036854775807 := by unfold maxLen at h; omega
theorem indI {P : S29 → Prop} (h : ∀ x, (∀ y ∈ x.f3, P y) → P x) : ∀ x, P x := by
  have key : ∀ n, ∀ x : S29, SizeOf.sizeOf x ≤ n → P x := by
    intro n
    induction n with
    | zero => intro x hx; cases x; simp at hx
    | succ n ih =>
      intro x hx
      refine h x (fun y hy => ih y ?_)
      have := List.sizeOf_lt_of_mem hy
      cases x
      simp at *
      omega
  exact fun x => key _ x (Nat.le_refl _)

mutual
def allY : S29 → Nat
  | ⟨_, _, _, l⟩ => l.length + kidsY l
def kidsY : List S29 → Nat
  | [] => 0
  | x :: xs => allY x + kidsY xs
end
theorem allY_is (x : S29) : allY x = x.f3.length + kidsY x.f3 := by cases x; simp [allY]
theorem kidsY_cons (x : S29) (l : List S29) : kidsY (x :: l) = allY x + kidsY l := by simp [kidsY]
theorem kidsY_nil : kidsY [] = 0 := by simp [kidsY]
theorem kidsY_mem {l : List S29} {x : S29} (h : x ∈ l) : allY x ≤ kidsY l := by
  induction l with
  | nil => simp at h
  | cons y l ih =>
    rw [kidsY_cons]
    rcases List.mem_cons.1 h with rfl | h
    · omega
    · have := ih h
      omega
theorem allY_mem {x y : S29} (h : y ∈ x.f3) : allY y + 1 ≤ allY x := by
  have := kidsY_mem h
  have h2 := List.length_pos_of_mem h
  rw [allY_is x]
  omega
theorem allY_len {x : S29} : x.f3.length ≤ allY x := by rw [allY_is]; omega
theorem rdI (l : List S29) (n : Nat) (h : n < l.length) : rd_T29 l (n : Int) = l[n] := by
  show l.getD n z29 = _
  rw [List.getD_eq_getElem?_getD, List.getElem?_eq_getElem h]
  rfl

mutual
def manyY : S29 → Nat
  | ⟨_, _, _, l⟩ => 1 + manysY l
def manysY : List S29 → Nat
  | [] => 0
  | x :: xs => manyY x + manysY xs
end
mutual
def deepY : S29 → Nat
  | ⟨_, _, _, l⟩ => 1 + deepsY l
def deepsY : List S29 → Nat
  | [] => 0
  | x :: xs => max (deepY x) (deepsY xs)
end
def kidsOf (a : Int) : Int := if a = 1 then 0 else if a = 7 then 1 else if a = 2 ∨ a = 3 ∨ a = 4 then 2 else if a = 5 ∨ a = 6 then 3 else -1
def okN (a b c : Int) (n : Nat) : Bool := decide (kidsOf a = n) && (if a = 1 then decide (0 ≤ b ∧ b ≤ 4) else decide (b = 0)) && (if a = 7 then decide (1 ≤ c ∧ c ≤ 20) else decide (c = 0))
mutual
def fmY : S29 → Bool
  | ⟨a, b, c, l⟩ => okN a b c l.length && fmsY l
def fmsY : List S29 → Bool
  | [] => true
  | x :: xs => fmY x && fmsY xs
end
theorem manyY_is (x : S29) : manyY x = 1 + manysY x.f3 := by cases x; simp [manyY]
theorem manysY_nil : manysY [] = 0 := by simp [manysY]
theorem manysY_cons (x : S29) (l : List S29) : manysY (x :: l) = manyY x + manysY l := by simp [manysY]
theorem deepY_is (x : S29) : deepY x = 1 + deepsY x.f3 := by cases x; simp [deepY]
theorem deepsY_nil : deepsY [] = 0 := by simp [deepsY]
theorem deepsY_cons (x : S29) (l : List S29) : deepsY (x :: l) = max (deepY x) (deepsY l) := by simp [deepsY]
theorem fmY_is (x : S29) : fmY x = (okN x.f0 x.f1 x.f2 x.f3.length && fmsY x.f3) := by cases x; simp [fmY]
theorem fmsY_nil : fmsY [] = true := by simp [fmsY]
theorem fmsY_cons (x : S29) (l : List S29) : fmsY (x :: l) = (fmY x && fmsY l) := by simp [fmsY]
theorem manysY_all (l : List S29) (h : ∀ x ∈ l, manyY x = 1 + allY x) : manysY l = l.length + kidsY l := by
  induction l with
  | nil => simp [manysY_nil, kidsY_nil]
  | cons x l ih => rw [manysY_cons, kidsY_cons, h x (by simp), ih (fun y hy => h y (by simp [hy]))]; simp; omega
theorem manyY_all : ∀ x : S29, manyY x = 1 + allY x := by
  refine indI (fun x ih => ?_)
  rw [manyY_is, allY_is, manysY_all _ ih]
theorem deepsY_le (l : List S29) (h : ∀ x ∈ l, deepY x ≤ manyY x) : deepsY l ≤ manysY l := by
  induction l with
  | nil => simp [deepsY_nil, manysY_nil]
  | cons x l ih =>
    have h1 := h x (by simp)
    have h2 := ih (fun y hy => h y (by simp [hy]))
    rw [manysY_cons, deepsY_cons]
    omega
theorem deepY_le : ∀ x : S29, deepY x ≤ manyY x := by
  refine indI (fun x ih => ?_)
  have := deepsY_le _ ih
  rw [manyY_is, deepY_is]
  omega
def SizeOk (x : S29) : Prop := Ev (fun k => impl_Ex_size.f k x.f0 x.f1 x.f2 x.f3) ((manyY x : Int), (deepY x : Int))
theorem size_l0_ev (l : List S29) (hl : l.length ≤ 1048576) (hm : manysY l ≤ 1048577) (hs : ∀ x ∈ l, SizeOk x) : ∀ (d n m p : Nat), n + d = l.length → 1 ≤ m → 1 ≤ p → p ≤ 1048579 → m + manysY (l.drop n) ≤ 1048579 → Ev (fun k => impl_Ex_size.l0 k (m : Int) (p : Int) l (l.length : Int) (n : Int)) (((m + manysY (l.drop n) : Nat) : Int), ((max p (1 + deepsY (l.drop n)) : Nat) : Int)) := by
  intro d
  induction d with
  | zero =>
    intro n m p hn h0 h1 h2 h3
    rw [List.drop_of_length_le (by omega), manysY_nil, deepsY_nil]
    refine Ev.last (fun k => by simp only [impl_Ex_size.l0]; rw [if_neg (by omega)]; rw [Nat.max_eq_left (by omega)]; rfl)
  | succ d ih =>
    intro n m p hn h0 h1 h2 h3
    have hx : SizeOk l[n] := hs _ (List.getElem_mem _)
    have hd := List.drop_eq_getElem_cons (l := l) (i := n) (by omega)
    rw [hd, manysY_cons] at h3
    rw [hd, manysY_cons, deepsY_cons]
    have hp := deepY_le l[n]
    have e1 : wrap64 ((m : Int) + (manyY l[n] : Int)) = ((m + manyY l[n] : Nat) : Int) := by rw [w_small (by omega) (by omega)]; omega
    have e2 : mx (p : Int) (wrap64 ((deepY l[n] : Int) + 1)) = ((max p (1 + deepY l[n]) : Nat) : Int) := by rw [w_small (by omega) (by omega)]; unfold mx; omega
    refine Ev.step (fun k => by simp only [impl_Ex_size.l0]; rw [if_pos (by omega), if_pos (by omega), if_pos (by omega), rdI l n (by omega), w_succ (by omega)]) ?_
    refine Ev.bind hx ?_
    simp only [e1, e2]
    refine Ev.val (ih (n + 1) (m + manyY l[n]) (max p (1 + deepY l[n])) (by omega) (by omega) (by omega) (by omega) (by omega)) ?_
    refine Prod.ext ?_ ?_
    · show ((_ : Nat) : Int) = ((_ : Nat) : Int)
      congr 1
      omega
    · show ((_ : Nat) : Int) = ((_ : Nat) : Int)
      congr 1
      omega
theorem size_ev : ∀ x : S29, allY x ≤ 1048576 → SizeOk x := by
  refine indI (fun x ih g => ?_)
  have hk : ∀ y ∈ x.f3, SizeOk y := fun y hy => ih y hy (by have := allY_mem hy; omega)
  have hl : x.f3.length ≤ 1048576 := by have := allY_len (x := x); omega
  have hm : manysY x.f3 ≤ 1048577 := by have h1 := manyY_all x; have h2 := manyY_is x; omega
  unfold SizeOk
  refine Ev.step (fun k => by simp only [impl_Ex_size.f]; rfl) ?_
  refine Ev.val (size_l0_ev x.f3 hl hm hk x.f3.length 0 1 1 (by omega) (by omega) (by omega) (by omega) (by rw [List.drop_zero]; omega)) ?_
  rw [List.drop_zero, manyY_is, deepY_is]
  refine Prod.ext rfl ?_
  show ((_ : Nat) : Int) = ((_ : Nat) : Int)
  congr 1
  omega

def ManyOk (x : S29) : Prop := ∀ d : Nat, d ≤ 100 → deepY x ≤ d + 1 → Ev (fun k => spec_l2Many.f k x.f0 x.f1 x.f2 x.f3 (d : Int)) (manyY x : Int)
theorem many_l0_ev (l : List S29) (hl : l.length ≤ 1048576) (hs : ∀ x ∈ l, ManyOk x) (a b c : Int) (e : Nat) (he : e ≤ 100) : ∀ (d n m : Nat), n + d = l.length → deepsY (l.drop n) ≤ e → m + manysY (l.drop n) ≤ 1048579 → Ev (fun k => spec_l2Many.l0 k (e : Int) (m : Int) (n : Int) a b c l) ((m + manysY (l.drop n) : Nat) : Int) := by
  intro d
  induction d with
  | zero =>
    intro n m hn h1 h3
    rw [List.drop_of_length_le (by omega), manysY_nil]
    refine Ev.last (fun k => by simp only [spec_l2Many.l0]; rw [if_neg (by omega)]; rfl)
  | succ d ih =>
    intro n m hn h1 h3
    have hx : ManyOk l[n] := hs _ (List.getElem_mem _)
    have hd := List.drop_eq_getElem_cons (l := l) (i := n) (by omega)
    rw [hd, manysY_cons] at h3
    rw [hd, deepsY_cons] at h1
    rw [hd, manysY_cons]
    have hp : 1 ≤ deepY l[n] := by rw [deepY_is]; omega
    have e0 : wrap64 ((e : Int) - 1) = ((e - 1 : Nat) : Int) := by rw [w_small (by omega) (by omega)]; omega
    have e1 : wrap64 ((m : Int) + (manyY l[n] : Int)) = ((m + manyY l[n] : Nat) : Int) := by rw [w_small (by omega) (by omega)]; omega
    refine Ev.step (fun k => by simp only [spec_l2Many.l0]; rw [if_pos (by omega), if_pos (by omega), if_pos (by omega), rdI l n (by omega), w_succ (by omega), e0]) ?_
    refine Ev.bind (hx (e - 1) (by omega) (by omega)) ?_
    simp only [e1]
    have h5 : deepsY (l.drop (n + 1)) ≤ e := by omega
    have h6 : m + manyY l[n] + manysY (l.drop (n + 1)) ≤ 1048579 := by rw [Nat.add_assoc]; exact h3
    have h4 := ih (n + 1) (m + manyY l[n]) (by omega) h5 h6
    rw [Nat.add_assoc] at h4
    exact h4
theorem many_ev : ∀ x : S29, allY x ≤ 1048576 → ManyOk x := by
  refine indI (fun x ih g e he hd => ?_)
  have hk : ∀ y ∈ x.f3, ManyOk y := fun y hy => ih y hy (by have := allY_mem hy; omega)
  have hl : x.f3.length ≤ 1048576 := by have := allY_len (x := x); omega
  have hm : manysY x.f3 ≤ 1048577 := by have h1 := manyY_all x; have h2 := manyY_is x; omega
  rw [deepY_is] at hd
  refine Ev.step (fun k => by simp only [spec_l2Many.f]; rfl) ?_
  refine Ev.val (many_l0_ev x.f3 hl hk x.f0 x.f1 x.f2 e he x.f3.length 0 1 (by omega) (by rw [List.drop_zero]; omega) (by rw [List.drop_zero]; omega)) ?_
  rw [List.drop_zero, manyY_is]

theorem l2Kids_ev (a : Int) : Ev (fun k => spec_l2Kids.f k a) (kidsOf a) := by
  unfold spec_l2Kids.f kidsOf
  by_cases h1 : a = 1
  · exact Ev.pos h1 (Ev.val (Ev.now _) (by rw [if_pos h1]))
  refine Ev.neg h1 ?_
  rw [if_neg h1]
  by_cases h7 : a = 7
  · exact Ev.pos h7 (Ev.val (Ev.now _) (by rw [if_pos h7]))
  refine Ev.neg h7 ?_
  rw [if_neg h7]
  have yes : a = 2 ∨ a = 3 ∨ a = 4 → Ev (fun k => spec_l2Kids.j0 k a true) (if a = 2 ∨ a = 3 ∨ a = 4 then 2 else if a = 5 ∨ a = 6 then 3 else -1) := fun h => Ev.last (fun k => by simp only [spec_l2Kids.j0]; rw [if_pos trivial, if_pos h])
  by_cases h2 : a = 2
  · refine Ev.pos h2 ?_
    rw [show (a == 2) = true by simp [h2]]
    exact yes (by omega)
  refine Ev.neg h2 ?_
  by_cases h3 : a = 3
  · refine Ev.pos h3 ?_
    rw [show (a == 3) = true by simp [h3]]
    exact yes (by omega)
  refine Ev.neg h3 ?_
  by_cases h4 : a = 4
  · rw [show (a == 4) = true by simp [h4]]
    exact yes (by omega)
  rw [show (a == 4) = false by simp [h4]]
  rw [if_neg (by omega)]
  by_cases h5 : a = 5
  · exact Ev.last (fun k => by simp only [spec_l2Kids.j0]; rw [if_neg (by decide), if_pos h5, if_pos (by omega)])
  by_cases h6 : a = 6
  · exact Ev.last (fun k => by simp only [spec_l2Kids.j0]; rw [if_neg (by decide), if_neg h5, if_pos h6, if_pos (by omega)])
  · exact Ev.last (fun k => by simp only [spec_l2Kids.j0]; rw [if_neg (by decide), if_neg h5, if_neg h6, if_neg (by omega)])

def FormOk (x : S29) : Prop := ∀ d : Nat, d ≤ 100 → Ev (fun k => spec_l2Form.f k x.f0 x.f1 x.f2 x.f3 (d : Int)) (fmY x && decide (deepY x ≤ d))
theorem form_l0_ev (l : List S29) (hl : l.length ≤ 1048576) (hs : ∀ x ∈ l, FormOk x) (a b c : Int) (e : Nat) (he : e < 100) : ∀ (d n : Nat), n + d = l.length → Ev (fun k => spec_l2Form.l0 k ((e + 1 : Nat) : Int) (n : Int) a b c l) (fmsY (l.drop n) && decide (deepsY (l.drop n) ≤ e)) := by
  intro d
  induction d with
  | zero =>
    intro n hn
    rw [List.drop_of_length_le (by omega), fmsY_nil, deepsY_nil]
    exact Ev.last (fun k => by simp only [spec_l2Form.l0]; rw [if_neg (by omega)]; simp)
  | succ d ih =>
    intro n hn
    have hx : FormOk l[n] := hs _ (List.getElem_mem _)
    have hd := List.drop_eq_getElem_cons (l := l) (i := n) (by omega)
    rw [hd, fmsY_cons, deepsY_cons]
    have e0 : wrap64 (((e + 1 : Nat) : Int) - 1) = (e : Int) := by rw [w_small (by omega) (by omega)]; omega
    refine Ev.step (fun k => by simp only [spec_l2Form.l0]; rw [if_pos (by omega), if_pos (by omega), rdI l n (by omega), w_succ (by omega), e0]) ?_
    refine Ev.bind (hx e (by omega)) ?_
    by_cases h : (fmY l[n] && decide (deepY l[n] ≤ e)) = true
    · refine Ev.pos h (Ev.val (ih (n + 1) (by omega)) ?_)
      simp only [Bool.and_eq_true, decide_eq_true_eq] at h
      rw [h.1, Bool.true_and]
      have : (deepsY (l.drop (n + 1)) ≤ e) ↔ (max (deepY l[n]) (deepsY (l.drop (n + 1))) ≤ e) := by omega
      simp only [this]
    refine Ev.neg h (Ev.val (Ev.now false) ?_)
    by_cases hf : fmY l[n] = true
    · have : ¬ (max (deepY l[n]) (deepsY (l.drop (n + 1))) ≤ e) := by
        simp [hf] at h
        omega
      simp [this]
    · simp [hf]
theorem form_ev : ∀ x : S29, allY x ≤ 1048576 → FormOk x := by
  refine indI (fun x ih g d hd => ?_)
  have hk : ∀ y ∈ x.f3, FormOk y := fun y hy => ih y hy (by have := allY_mem hy; omega)
  have hl : x.f3.length ≤ 1048576 := by have := allY_len (x := x); omega
  rw [fmY_is, deepY_is]
  have bad : ∀ v : Bool, v = false → Ev (fun k => spec_l2Form.j0 k (d : Int) true x.f0 x.f1 x.f2 x.f3) v := fun v hv => Ev.last (fun k => by simp only [spec_l2Form.j0]; rw [if_pos trivial, hv])
  have bad1 : ∀ v : Bool, v = false → Ev (fun k => spec_l2Form.j1 k (d : Int) true x.f0 x.f1 x.f2 x.f3) v := fun v hv => Ev.last (fun k => by simp only [spec_l2Form.j1]; rw [if_pos trivial, hv])
  by_cases hd1 : (d : Int) < 1
  · refine Ev.step (fun k => by simp only [spec_l2Form.f]; rw [if_pos hd1]) (bad _ ?_)
    have : ¬ (1 + deepsY x.f3 ≤ d) := by omega
    simp [this]
  obtain ⟨e, rfl⟩ : ∃ e, d = e + 1 := ⟨d - 1, by omega⟩
  refine Ev.step (fun k => by simp only [spec_l2Form.f]; rw [if_neg hd1]) ?_
  refine Ev.bind (l2Kids_ev x.f0) ?_
  by_cases hn : kidsOf x.f0 = (x.f3.length : Int)
  rotate_left
  · refine Ev.neg hn (bad _ ?_)
    simp [okN, hn]
  refine Ev.pos hn ?_
  have rest : Ev (fun k => spec_l2Form.j0 k ((e + 1 : Nat) : Int) false x.f0 x.f1 x.f2 x.f3) ((if x.f0 = 7 then decide (1 ≤ x.f2 ∧ x.f2 ≤ 20) else decide (x.f2 = 0)) && (fmsY x.f3 && decide (deepsY x.f3 ≤ e))) := by
    have loop : Ev (fun k => spec_l2Form.j1 k ((e + 1 : Nat) : Int) false x.f0 x.f1 x.f2 x.f3) (fmsY x.f3 && decide (deepsY x.f3 ≤ e)) := by
      refine Ev.step (fun k => by simp only [spec_l2Form.j1]; rw [if_neg (by decide)]) ?_
      exact form_l0_ev x.f3 hl hk x.f0 x.f1 x.f2 e (by omega) x.f3.length 0 (by omega)
    by_cases h7 : x.f0 = 7
    · rw [if_pos h7]
      by_cases c1 : x.f2 < 1
      · refine Ev.step (fun k => by simp only [spec_l2Form.j0]; rw [if_neg (by decide), if_pos h7, if_pos c1]) (bad1 _ ?_)
        have : ¬ (1 ≤ x.f2 ∧ x.f2 ≤ 20) := by omega
        simp [this]
      by_cases c2 : x.f2 > 20
      · refine Ev.step (fun k => by simp only [spec_l2Form.j0]; rw [if_neg (by decide), if_pos h7, if_neg c1, if_pos c2]) (bad1 _ ?_)
        have : ¬ (1 ≤ x.f2 ∧ x.f2 ≤ 20) := by omega
        simp [this]
      · refine Ev.step (fun k => by simp only [spec_l2Form.j0]; rw [if_neg (by decide), if_pos h7, if_neg c1, if_neg c2]) (Ev.val loop ?_)
        have : (1 ≤ x.f2 ∧ x.f2 ≤ 20) := by omega
        simp [this]
    · rw [if_neg h7]
      by_cases c0 : x.f2 = 0
      · refine Ev.step (fun k => by simp only [spec_l2Form.j0]; rw [if_neg (by decide), if_neg h7, show (x.f2 != 0) = false by simp [c0]]) (Ev.val loop ?_)
        simp [c0]
      · refine Ev.step (fun k => by simp only [spec_l2Form.j0]; rw [if_neg (by decide), if_neg h7, show (x.f2 != 0) = true by simp [c0]]) (bad1 _ ?_)
        simp [c0]
  have hdd : (1 + deepsY x.f3 ≤ e + 1) ↔ (deepsY x.f3 ≤ e) := by omega
  simp only [hdd, okN, hn, decide_true, Bool.true_and]
  by_cases b0 : x.f1 < 0
  · refine Ev.pos b0 (bad _ ?_)
    have h1 : ¬ (0 ≤ x.f1 ∧ x.f1 ≤ 4) := by omega
    have h2 : ¬ (x.f1 = 0) := by omega
    simp [h1, h2]
  refine Ev.neg b0 ?_
  by_cases b5 : x.f1 ≥ 5
  · refine Ev.pos b5 (bad _ ?_)
    have h1 : ¬ (0 ≤ x.f1 ∧ x.f1 ≤ 4) := by omega
    have h2 : ¬ (x.f1 = 0) := by omega
    simp [h1, h2]
  refine Ev.neg b5 ?_
  by_cases a1 : x.f0 = 1
  · refine Ev.pos a1 (Ev.val rest ?_)
    rw [if_pos a1]
    have h1 : (0 ≤ x.f1 ∧ x.f1 ≤ 4) := by omega
    simp [h1, Bool.and_assoc]
  refine Ev.neg a1 ?_
  rw [if_neg a1]
  by_cases hb : x.f1 = 0
  · rw [show (x.f1 != 0) = false by simp [hb]]
    refine Ev.val rest ?_
    simp [hb, Bool.and_assoc]
  · rw [show (x.f1 != 0) = true by simp [hb]]
    exact bad _ (by simp [hb])

theorem in_is (a b c : Int) : impl_in.f a b c = some (decide (b ≤ a ∧ a ≤ c)) := by
  unfold impl_in.f
  by_cases h : b ≤ a
  · rw [if_pos h]; simp [h]
  · rw [if_neg h]; simp [h]
theorem kids_is (a : Int) (h1 : 1 ≤ a) (h7 : a ≤ 7) : impl_kids.f a = some (kidsOf a) := by
  have : a = 1 ∨ a = 2 ∨ a = 3 ∨ a = 4 ∨ a = 5 ∨ a = 6 ∨ a = 7 := by omega
  rcases this with rfl | rfl | rfl | rfl | rfl | rfl | rfl <;> rfl
theorem kidsOf_out {a : Int} (h : ¬ (1 ≤ a ∧ a ≤ 7)) : kidsOf a = -1 := by
  unfold kidsOf
  rw [if_neg (by omega), if_neg (by omega), if_neg (by omega), if_neg (by omega)]
def FmOk (x : S29) : Prop := Ev (fun k => impl_Ex_formed.f k x.f0 x.f1 x.f2 x.f3) (fmY x)
theorem fm_l0_ev (l : List S29) (hl : l.length ≤ 1048576) (hs : ∀ x ∈ l, FmOk x) : ∀ (d n : Nat), n + d = l.length → ∃ r : Int, Ev (fun k => impl_Ex_75.l0 k l (l.length : Int) (n : Int)) r ∧ (decide (r ≥ 0) = !fmsY (l.drop n)) := by
  intro d
  induction d with
  | zero =>
    intro n hn
    rw [List.drop_of_length_le (by omega), fmsY_nil]
    exact ⟨-1, Ev.last (fun k => by simp only [impl_Ex_75.l0]; rw [if_neg (by omega)]), by decide⟩
  | succ d ih =>
    intro n hn
    have hx : FmOk l[n] := hs _ (List.getElem_mem _)
    have hd := List.drop_eq_getElem_cons (l := l) (i := n) (by omega)
    rw [hd, fmsY_cons]
    have h1 : Ev (fun k => impl_Ex_formed_1.f k l[n].f0 l[n].f1 l[n].f2 l[n].f3) (!fmY l[n]) := Ev.step (fun k => by simp only [impl_Ex_formed_1.f]; rfl) (Ev.bindS hx rfl)
    cases hf : fmY l[n] with
    | true =>
      obtain ⟨r, hr, hv⟩ := ih (n + 1) (by omega)
      refine ⟨r, ?_, by rw [hv, Bool.true_and]⟩
      refine Ev.step (fun k => by simp only [impl_Ex_75.l0]; rw [if_pos (by omega), if_pos (by omega), if_pos (by omega), rdI l n (by omega), w_succ (by omega)]) ?_
      exact Ev.bind h1 (Ev.neg (by rw [hf]; decide) hr)
    | false =>
      refine ⟨(n : Int), ?_, by simp⟩
      refine Ev.step (fun k => by simp only [impl_Ex_75.l0]; rw [if_pos (by omega), if_pos (by omega), if_pos (by omega), rdI l n (by omega), w_succ (by omega)]) ?_
      exact Ev.bind h1 (Ev.pos (by rw [hf]; decide) (Ev.now _))
theorem formed_ev : ∀ x : S29, allY x ≤ 1048576 → FmOk x := by
  refine indI (fun x ih g => ?_)
  have hk : ∀ y ∈ x.f3, FmOk y := fun y hy => ih y hy (by have := allY_mem hy; omega)
  have hl : x.f3.length ≤ 1048576 := by have := allY_len (x := x); omega
  have hc : Ev (fun k => impl_Ex_63.f k x.f3) (!fmsY x.f3) := by
    obtain ⟨r, hr, hv⟩ := fm_l0_ev x.f3 hl hk x.f3.length 0 (by omega)
    rw [List.drop_zero] at hv
    refine Ev.step (fun k => by simp only [impl_Ex_63.f]; rfl) ?_
    refine Ev.bindS (Ev.step (fun k => by simp only [impl_Ex_75.f]; rfl) hr) ?_
    rw [hv]
  have bad : ∀ v : Bool, v = false → Ev (fun k => impl_Ex_formed.j0 k true x.f0 x.f1 x.f2 x.f3) v := fun v hv => Ev.last (fun k => by simp only [impl_Ex_formed.j0]; rw [if_pos trivial, hv])
  have bad1 : ∀ v : Bool, v = false → Ev (fun k => impl_Ex_formed.j1 k true x.f0 x.f1 x.f2 x.f3) v := fun v hv => Ev.last (fun k => by simp only [impl_Ex_formed.j1]; rw [if_pos trivial, hv])
  have last : Ev (fun k => impl_Ex_formed.j1 k false x.f0 x.f1 x.f2 x.f3) ((if x.f0 = 7 then decide (1 ≤ x.f2 ∧ x.f2 ≤ 20) else decide (x.f2 = 0)) && fmsY x.f3) := by
    by_cases h7 : x.f0 = 7
    · rw [if_pos h7]
      refine Ev.step (fun k => by simp only [impl_Ex_formed.j1]; rw [if_neg (by decide), if_pos h7, in_is, Option.bind_some]) ?_
      by_cases hc7 : 1 ≤ x.f2 ∧ x.f2 ≤ 20
      · refine Ev.pos (by simp [hc7]) (Ev.bindS hc ?_)
        simp [hc7]
      · refine Ev.neg (by simp; omega) (Ev.val (Ev.now false) ?_)
        simp [hc7]
    · rw [if_neg h7]
      by_cases hc0 : x.f2 = 0
      · refine Ev.step (fun k => by simp only [impl_Ex_formed.j1]; rw [if_neg (by decide), if_neg h7, if_pos hc0]) (Ev.bindS hc ?_)
        simp [hc0]
      · refine Ev.last (fun k => by simp only [impl_Ex_formed.j1]; rw [if_neg (by decide), if_neg h7, if_neg hc0]; simp [hc0])
  unfold FmOk
  rw [fmY_is]
  refine Ev.step (fun k => by simp only [impl_Ex_formed.f, impl_isKind.f]; rw [in_is, Option.bind_some, Option.bind_some]) ?_
  by_cases hkd : 1 ≤ x.f0 ∧ x.f0 ≤ 7
  rotate_left
  · refine Ev.neg (by simp; omega) (bad _ ?_)
    have hn : ¬ (kidsOf x.f0 = (x.f3.length : Int)) := by rw [kidsOf_out hkd]; omega
    simp [okN, hn]
  refine Ev.pos (by simp [hkd]) ?_
  refine Ev.bind (Ev.one (fun _ => kids_is x.f0 hkd.1 hkd.2)) ?_
  by_cases hn : kidsOf x.f0 = (x.f3.length : Int)
  rotate_left
  · rw [show ((x.f3.length : Int) != kidsOf x.f0) = true by simp; omega]
    exact bad _ (by simp [okN, hn])
  rw [show ((x.f3.length : Int) != kidsOf x.f0) = false by simp [hn]]
  by_cases a1 : x.f0 = 1
  · refine Ev.step (fun k => by simp only [impl_Ex_formed.j0, impl_isSym.f]; rw [if_neg (by decide), if_pos a1, in_is, Option.bind_some, Option.bind_some]) ?_
    by_cases hb : 0 ≤ x.f1 ∧ x.f1 ≤ 4
    · refine Ev.pos (by simp [hb]) (Ev.val last ?_)
      simp only [okN, hn, decide_true, Bool.true_and]
      rw [if_pos a1]
      simp [hb]
    · refine Ev.neg (by simp; omega) (bad1 _ ?_)
      simp only [okN, hn, decide_true, Bool.true_and]
      rw [if_pos a1]
      simp [hb]
  · by_cases hb : x.f1 = 0
    · refine Ev.step (fun k => by simp only [impl_Ex_formed.j0]; rw [if_neg (by decide), if_neg a1, show (x.f1 != 0) = false by simp [hb]]) (Ev.val last ?_)
      simp only [okN, hn, decide_true, Bool.true_and]
      rw [if_neg a1]
      simp [hb]
    · refine Ev.step (fun k => by simp only [impl_Ex_formed.j0]; rw [if_neg (by decide), if_neg a1, show (x.f1 != 0) = true by simp [hb]]) (bad1 _ ?_)
      simp only [okN, hn, decide_true, Bool.true_and]
      rw [if_neg a1]
      simp [hb]
def okX (x : S29) : Bool := fmY x && decide (deepY x ≤ 5) && decide (manyY x ≤ 12)
theorem form5 (x : S29) (h : allY x ≤ 1048576) : Ev (fun k => spec_l2Form.f k x.f0 x.f1 x.f2 x.f3 5) (fmY x && decide (deepY x ≤ 5)) := form_ev x h 5 (by omega)
theorem many5 (x : S29) (h : allY x ≤ 1048576) (hd : deepY x ≤ 5) : Ev (fun k => spec_l2Many.f k x.f0 x.f1 x.f2 x.f3 5) (manyY x : Int) := many_ev x h 5 (by omega) (by omega)
theorem spec_ExOk_ev (x : S29) (h : allY x ≤ 1048576) : Ev (fun k => spec_ExOk.f k x.f0 x.f1 x.f2 x.f3) (okX x) := by
  unfold spec_ExOk.f okX
  refine Ev.bind (form5 x h) ?_
  by_cases hf : (fmY x && decide (deepY x ≤ 5)) = true
  · have hd : deepY x ≤ 5 := by simp at hf; exact hf.2
    refine Ev.pos hf (Ev.bindS (many5 x h hd) ?_)
    rw [hf, Bool.true_and]
    have : ((manyY x : Int) ≤ 12) ↔ (manyY x ≤ 12) := by omega
    simp only [this]
  · refine Ev.neg hf (Ev.val (Ev.now _) ?_)
    simp only [Bool.not_eq_true] at hf
    rw [hf]
    rfl
theorem impl_ExOk_ev (x : S29) (h : allY x ≤ 1048576) : Ev (fun k => impl_ExOk.f k x.f0 x.f1 x.f2 x.f3) (okX x) := by
  unfold impl_ExOk.f okX
  refine Ev.bind (size_ev x h) ?_
  by_cases hm : manyY x ≤ 12
  · refine Ev.pos (show ((manyY x : Nat) : Int) ≤ 12 by omega) ?_
    by_cases hd : deepY x ≤ 5
    · refine Ev.pos (show ((deepY x : Nat) : Int) ≤ 5 by omega) (Ev.bindS (formed_ev x h) ?_)
      simp [hm, hd]
    · refine Ev.neg (show ¬ (((deepY x : Nat) : Int) ≤ 5) by omega) (Ev.val (Ev.now _) ?_)
      simp [hd]
  · refine Ev.neg (show ¬ (((manyY x : Nat) : Int) ≤ 12) by omega) (Ev.val (Ev.now _) ?_)
    simp [hm]
theorem kidsY_append (l m : List S29) : kidsY (l ++ m) = kidsY l + kidsY m := by
  induction l with
  | nil => simp [kidsY_nil]
  | cons x l ih => rw [List.cons_append, kidsY_cons, kidsY_cons, ih]; omega
theorem kidsOf_le (a : Int) : kidsOf a ≤ 3 := by
  unfold kidsOf
  (repeat' split) <;> omega
def bX : Nat → Nat
  | 0 => 0
  | d + 1 => 3 + 3 * bX d
def cX : Nat → Nat
  | 0 => 1
  | d + 1 => 3 + 3 * cX d
def DrawX (bs : List Int) (d : Nat) : Prop := ∀ p : Int, 0 ≤ p → p + (cX d : Int) ≤ 990000 → ∃ (x : S29) (q : Int), Ev (fun k => spec_l2Ex.f k bs p ((d + 1 : Nat) : Int)) (x.f0, x.f1, x.f2, x.f3, q) ∧ allY x ≤ bX d ∧ p ≤ q ∧ q ≤ p + (cX d : Int)
theorem eta_X (x : S29) : (⟨x.f0, x.f1, x.f2, x.f3⟩ : S29) = x := by cases x; rfl
theorem allY_mk (a b c : Int) (l : List S29) : allY (⟨a, b, c, l⟩ : S29) = l.length + kidsY l := by rw [allY_is]
theorem l2leaf_ev (bs : List Int) (hb : Bytes bs) (a p : Int) (h0 : 0 ≤ p) (h1 : p ≤ 1000000) : ∃ r : Int, Ev (fun k => spec_l2Ex.j0 k a true bs p) (1, r, 0, [], p + 1) := by
  obtain ⟨r, hr, _⟩ := num_ev bs hb p [0, 0, 1, 1, 2, 2, 3, 4] (by simp) (by simp) h0 h1
  exact ⟨r, (by refine Ev.step (fun k => by simp only [spec_l2Ex.j0]; rw [if_pos trivial]) ?_; exact (Ev.bindS hr rfl))⟩
theorem l2kids_ev (bs : List Int) (hb : Bytes bs) (d : Nat) (hd3 : d ≤ 3) (hd : DrawX bs d) : ∀ (e : Nat) (n p A B C : Int) (xs : List S29), n ≤ (e : Int) → e ≤ 3 → 0 ≤ p → p + ((e * cX d : Nat) : Int) ≤ 990000 → xs.length + e ≤ 1000 →
    ∃ (ys : List S29) (q : Int), Ev (fun k => spec_l2Ex.l0 k ((d + 2 : Nat) : Int) n bs p A B C xs) (A, B, C, ys, q) ∧ ys.length ≤ xs.length + e ∧ kidsY ys ≤ kidsY xs + e * bX d ∧ p ≤ q ∧ q ≤ p + ((e * cX d : Nat) : Int)
  | 0, n, p, A, B, C, xs, hn, _, h0, h1, hx => by
    refine ⟨xs, p, (by refine Ev.step (fun k => by simp only [spec_l2Ex.l0]; rw [if_neg (by omega)]) ?_; exact (Ev.now _)), by omega, by omega, by omega, by omega⟩
  | e + 1, n, p, A, B, C, xs, hn, he, h0, h1, hx => by
    have m1 : (e + 1) * cX d = e * cX d + cX d := Nat.succ_mul _ _
    have m2 : (e + 1) * bX d = e * bX d + bX d := Nat.succ_mul _ _
    by_cases hp : n > 0
    · have w1 : wrap64 (((d + 2 : Nat) : Int) - 1) = wrap64 ((d + 1 : Nat) : Int) := by congr 1; omega
      obtain ⟨x, q, hq, h2, h3, h4⟩ := hd p h0 (by omega)
      obtain ⟨ys, q', g1, g2, g3, g4, g5⟩ := l2kids_ev bs hb d hd3 hd e (n - 1) q A B C (xs ++ [x]) (by omega) (by omega) (by omega) (by omega) (by rw [List.length_append, List.length_singleton]; omega)
      rw [List.length_append, List.length_singleton] at g2
      rw [kidsY_append, kidsY_cons, kidsY_nil] at g3
      rw [w_small (i := ((d + 1 : Nat) : Int)) (by omega) (by omega)] at w1
      have w2 : wrap64 (n - 1) = n - 1 := w_small (by omega) (by omega)
      refine ⟨ys, q', (by refine Ev.step (fun k => by simp only [spec_l2Ex.l0]; rw [if_pos hp, w1, w2]) ?_; refine Ev.bind hq (Ev.pos (by omega) ?_); show Ev (fun k => spec_l2Ex.l0 k ((d + 2 : Nat) : Int) (n - 1) bs q A B C (xs ++ [(⟨x.f0, x.f1, x.f2, x.f3⟩ : S29)])) _; rw [eta_X]; exact g1), by omega, by omega, by omega, by omega⟩
    · refine ⟨xs, p, (by refine Ev.step (fun k => by simp only [spec_l2Ex.l0]; rw [if_neg hp]) ?_; exact (Ev.now _)), by omega, by omega, by omega, by omega⟩
theorem l2Ex_ev (bs : List Int) (hb : Bytes bs) : ∀ d : Nat, d ≤ 3 → DrawX bs d
  | 0, _ => fun p h0 h1 => by
    obtain ⟨r, hr⟩ := l2leaf_ev bs hb ((0 + 1 : Nat) : Int) p h0 (by omega)
    refine ⟨⟨1, r, 0, []⟩, p + 1, Ev.step (fun k => by simp only [spec_l2Ex.f]; rw [if_pos (by omega)]) hr, ?_, by omega, ?_⟩
    · rw [allY_mk, kidsY_nil]; exact Nat.le_refl _
    · show p + 1 ≤ p + ((1 : Nat) : Int); omega
  | d + 1, hd => fun p h0 h1 => by
    have ih := l2Ex_ev bs hb d (by omega)
    have hc : cX d ≤ 66 := by
      match d, hd with
      | 0, _ => decide
      | 1, _ => decide
      | 2, _ => decide
    obtain ⟨r, hr, _⟩ := pick_ev bs hb p 4 h0 (by omega)
    have e1 : cX (d + 1) = 3 + 3 * cX d := rfl
    have e2 : bX (d + 1) = 3 + 3 * bX d := rfl
    by_cases hz : r = 0
    · obtain ⟨s, hs⟩ := l2leaf_ev bs hb ((d + 1 + 1 : Nat) : Int) (p + 1) (by omega) (by omega)
      refine ⟨⟨1, s, 0, []⟩, p + 1 + 1, ?_, ?_, by omega, by omega⟩
      · refine Ev.step (fun k => by simp only [spec_l2Ex.f]; rw [if_neg (by omega)]) (Ev.bind hr ?_)
        simp only [hz]; exact hs
      · rw [allY_mk, kidsY_nil]; simp
    have hzf : (r == 0) = false := beq_eq_false_iff_ne.2 hz
    obtain ⟨K, hK, _⟩ := num_ev bs hb (p + 1) [2, 3, 3, 4, 4, 4, 5, 6, 7] (by simp) (by simp) (by omega) (by omega)
    have fin : ∀ (q N : Int), 0 ≤ q → q ≤ p + 3 → p ≤ q → ∃ (x : S29) (q' : Int), Ev (fun k => spec_l2Ex.j1 k ((d + 2 : Nat) : Int) bs q K 0 N) (x.f0, x.f1, x.f2, x.f3, q') ∧ allY x ≤ 3 + 3 * bX d ∧ p ≤ q' ∧ q' ≤ p + ((3 + 3 * cX d : Nat) : Int) := fun q N g0 g1 g2 => by
      obtain ⟨ys, q', f1, f2, f3, f4, f5⟩ := l2kids_ev bs hb d (by omega) ih 3 (kidsOf K) q K 0 N [] (kidsOf_le K) (by omega) g0 (by omega) (by simp)
      rw [kidsY_nil] at f3
      rw [List.length_nil] at f2
      refine ⟨⟨K, 0, N, ys⟩, q', (by refine Ev.step (fun k => by rw [spec_l2Ex.j1]) ?_; exact (Ev.bind (l2Kids_ev K) f1)), ?_, by omega, by omega⟩
      rw [allY_mk]; omega
    by_cases h7 : K = 7
    · obtain ⟨N, hN, _⟩ := num_ev bs hb (p + 1 + 1) [1, 2, 3, 5, 20] (by simp) (by simp) (by omega) (by omega)
      obtain ⟨x, q', f1, f2, f3, f4⟩ := fin (p + 1 + 1 + 1) N (by omega) (by omega) (by omega)
      refine ⟨x, q', ?_, by omega, f3, by omega⟩
      refine Ev.step (fun k => by simp only [spec_l2Ex.f]; rw [if_neg (by omega)]) (Ev.bind hr ?_)
      simp only [hzf]
      refine (by refine Ev.step (fun k => by simp only [spec_l2Ex.j0]; rw [if_neg (by decide)]) ?_; exact (Ev.bind hK (Ev.pos h7 (Ev.bind hN f1))))
    · obtain ⟨x, q', f1, f2, f3, f4⟩ := fin (p + 1 + 1) 0 (by omega) (by omega) (by omega)
      refine ⟨x, q', ?_, by omega, f3, by omega⟩
      refine Ev.step (fun k => by simp only [spec_l2Ex.f]; rw [if_neg (by omega)]) (Ev.bind hr ?_)
      simp only [hzf]
      refine (by refine Ev.step (fun k => by simp only [spec_l2Ex.j0]; rw [if_neg (by decide)]) ?_; exact (Ev.bind hK (Ev.neg h7 f1)))
theorem l2Ex2_ev (bs : List Int) (hb : Bytes bs) (p : Int) (h0 : 0 ≤ p) (h1 : p ≤ 900000) : ∃ (x : S29) (q : Int), Ev (fun k => spec_l2Ex.f k bs p 2) (x.f0, x.f1, x.f2, x.f3, q) ∧ allY x ≤ 39 ∧ p ≤ q ∧ q ≤ p + 6 := by
  have e : cX 1 = 6 := rfl
  obtain ⟨x, q, h2, h3, h4, h5⟩ := l2Ex_ev bs hb 1 (by omega) p h0 (by omega)
  exact ⟨x, q, h2, Nat.le_trans h3 (by decide), h4, h5⟩
theorem l2Some_ev (bs : List Int) (hb : Bytes bs) (p : Int) (h0 : 0 ≤ p) (h1 : p ≤ 800000) : ∃ (x : S29) (q : Int), Ev (fun k => spec_l2Some.f k bs p) (x.f0, x.f1, x.f2, x.f3, q) ∧ allY x ≤ 39 ∧ p ≤ q ∧ q ≤ p + 73 := by
  obtain ⟨r, hr, r0, r1⟩ := pick_ev bs hb p 4 h0 (by omega)
  obtain ⟨d, rfl⟩ := Int.eq_ofNat_of_zero_le r0
  have hd : d ≤ 3 := by omega
  have w1 : wrap64 (1 + (d : Int)) = ((d + 1 : Nat) : Int) := by rw [w_small (by omega) (by omega)]; omega
  have hc : cX d ≤ 66 ∧ bX d ≤ 39 := by
    match d, hd with
    | 0, _ => decide
    | 1, _ => decide
    | 2, _ => decide
    | 3, _ => decide
  obtain ⟨x, q, h2, h3, h4, h5⟩ := l2Ex_ev bs hb d hd (p + 1) (by omega) (by omega)
  have hk := spec_ExOk_ev x (by omega)
  by_cases ho : okX x = true
  · refine ⟨x, q, ?_, by omega, by omega, by omega⟩
    unfold spec_l2Some.f
    refine Ev.bind hr ?_
    simp only [w1]
    exact Ev.bind h2 (Ev.bind hk (Ev.pos ho (Ev.now _)))
  obtain ⟨y, q', g2, g3, g4, g5⟩ := l2Ex2_ev bs hb q (by omega) (by omega)
  refine ⟨y, q', ?_, g3, by omega, by omega⟩
  unfold spec_l2Some.f
  refine Ev.bind hr ?_
  simp only [w1]
  exact Ev.bind h2 (Ev.bind hk (Ev.neg ho (Ev.bindS g2 rfl)))
def CopyOk (x : S29) : Prop := Ev (fun k => spec_l2Copy.f k x.f0 x.f1 x.f2 x.f3) (x.f0, x.f1, x.f2, x.f3)
theorem l2Copy_l0_ev (l : List S29) (hl : l.length ≤ 1000000) (hs : ∀ x ∈ l, CopyOk x) (a b c A B C : Int) : ∀ d n : Nat, n + d = l.length → Ev (fun k => spec_l2Copy.l0 k (n : Int) a b c l A B C (l.take n)) (A, B, C, l)
  | 0, n, h => by
    have : l.take n = l := List.take_of_length_le (by omega)
    rw [this]
    exact (by refine Ev.step (fun k => by simp only [spec_l2Copy.l0]; rw [if_neg (by omega)]) ?_; exact (Ev.now _))
  | d + 1, n, h => by
    have hn : n < l.length := by omega
    have hw : wrap64 ((n : Int) + 1) = ((n + 1 : Nat) : Int) := by rw [w_small (by omega) (by omega)]; omega
    have hx := hs l[n] (List.getElem_mem hn)
    have ih := l2Copy_l0_ev l hl hs a b c A B C d (n + 1) (by omega)
    refine Ev.step (fun k => by simp only [spec_l2Copy.l0]; rw [if_pos (by omega), if_pos (by omega), rdI l n hn]) ?_
    refine Ev.bind hx (Ev.pos (by rw [List.length_take]; omega) ?_)
    have e : l.take n ++ [(⟨l[n].f0, l[n].f1, l[n].f2, l[n].f3⟩ : S29)] = l.take (n + 1) := by
      rw [eta_X, List.take_succ_eq_append_getElem hn]
    simp only [e, hw]
    exact ih
theorem l2Copy_ev : ∀ x : S29, allY x ≤ 1000000 → CopyOk x := by
  refine indI (fun x ih h => ?_)
  have hlen := allY_len (x := x)
  refine Ev.step (fun k => by rw [spec_l2Copy.f]) ?_
  exact l2Copy_l0_ev x.f3 (by omega) (fun y hy => ih y hy (by have := allY_mem hy; omega)) _ _ _ _ _ _ x.f3.length 0 (by omega)
theorem l2Bent_l0_ev (bs : List Int) (p : Int) : ∀ (e n : Nat) (x : S29), n + e = 5 → ∃ y : S29, Ev (fun k => spec_l2Bent.l0 k (n : Int) bs p x.f0 x.f1 x.f2 x.f3) (y.f0, y.f1, y.f2, y.f3, p) ∧ allY y ≤ allY x + e
  | 0, n, x, h => ⟨x, (by refine Ev.step (fun k => by simp only [spec_l2Bent.l0]; rw [if_neg (by omega)]) ?_; exact (Ev.now _)), by omega⟩
  | e + 1, n, x, h => by
    have hw : wrap64 ((n : Int) + 1) = ((n + 1 : Nat) : Int) := by rw [w_small (by omega) (by omega)]; omega
    obtain ⟨y, h1, h2⟩ := l2Bent_l0_ev bs p e (n + 1) ⟨7, 0, 1, [x]⟩ (by omega)
    refine ⟨y, Ev.step (fun k => by simp only [spec_l2Bent.l0]; rw [if_pos (by omega), hw, eta_X]) h1, ?_⟩
    rw [allY_mk, kidsY_cons, kidsY_nil, List.length_singleton] at h2
    omega
def dblX : Nat → Nat → Nat
  | 0, a => a
  | e + 1, a => dblX e (2 * a + 2)
theorem l2Bent_l1_ev (bs : List Int) (p : Int) : ∀ (e n : Nat) (x : S29) (m : Nat), n + e = 4 → allY x ≤ m → dblX e m ≤ 1000 → m ≤ 1000 → ∃ y : S29, Ev (fun k => spec_l2Bent.l1 k (n : Int) bs p x.f0 x.f1 x.f2 x.f3) (y.f0, y.f1, y.f2, y.f3, p) ∧ allY y ≤ dblX e m
  | 0, n, x, m, h, hm, _, _ => ⟨x, (by refine Ev.step (fun k => by simp only [spec_l2Bent.l1]; rw [if_neg (by omega)]) ?_; exact (Ev.now _)), hm⟩
  | e + 1, n, x, m, h, hm, hd, hm1 => by
    have hw : wrap64 ((n : Int) + 1) = ((n + 1 : Nat) : Int) := by rw [w_small (by omega) (by omega)]; omega
    have hc := l2Copy_ev x (by omega)
    have mono : ∀ (e a : Nat), a ≤ dblX e a := by
      intro e
      induction e with
      | zero => intro a; exact Nat.le_refl _
      | succ e ih => intro a; have := ih (2 * a + 2); simp only [dblX]; omega
    have hd' : dblX e (2 * m + 2) ≤ 1000 := hd
    have hm2 := mono e (2 * m + 2)
    obtain ⟨y, h1, h2⟩ := l2Bent_l1_ev bs p e (n + 1) ⟨2, 0, 0, [x, x]⟩ (2 * m + 2) (by omega) (by rw [allY_mk, kidsY_cons, kidsY_cons, kidsY_nil]; simp only [List.length_cons, List.length_nil]; omega) hd' (by omega)
    refine ⟨y, ?_, h2⟩
    refine Ev.step (fun k => by simp only [spec_l2Bent.l1]; rw [if_pos (by omega)]) ?_
    refine Ev.bind hc ?_
    simp only [hw, eta_X]
    exact h1
theorem l2Bent_ev (bs : List Int) (hb : Bytes bs) (p : Int) (h0 : 0 ≤ p) (h1 : p ≤ 700000) : ∃ (x : S29) (q : Int), Ev (fun k => spec_l2Bent.f k bs p) (x.f0, x.f1, x.f2, x.f3, q) ∧ allY x ≤ 1000 ∧ p ≤ q ∧ q ≤ p + 75 := by
  obtain ⟨x, q, h2, h3, h4, h5⟩ := l2Some_ev bs hb p h0 (by omega)
  obtain ⟨r, hr, _, _⟩ := pick_ev bs hb q 60 (by omega) (by omega)
  have hx := allY_is x
  by_cases c0 : r = 0
  · obtain ⟨s, hs, _⟩ := num_ev bs hb (q + 1) [0, 8, 2, 5] (by simp) (by simp) (by omega) (by omega)
    refine ⟨⟨s, x.f1, x.f2, x.f3⟩, q + 1 + 1, ?_, by rw [allY_mk]; omega, by omega, by omega⟩
    unfold spec_l2Bent.f
    exact Ev.bind h2 (Ev.bind hr (Ev.pos c0 (Ev.bindS hs rfl)))
  by_cases c1 : r = 1
  · obtain ⟨s, hs, _⟩ := num_ev bs hb (q + 1) [(-1), 5, 1] (by simp) (by simp) (by omega) (by omega)
    refine ⟨⟨x.f0, s, x.f2, x.f3⟩, q + 1 + 1, ?_, by rw [allY_mk]; omega, by omega, by omega⟩
    unfold spec_l2Bent.f
    exact Ev.bind h2 (Ev.bind hr (Ev.neg c0 (Ev.pos c1 (Ev.bindS hs rfl))))
  by_cases c2 : r = 2
  · obtain ⟨s, hs, _⟩ := num_ev bs hb (q + 1) [(-1), 21, 1, 0] (by simp) (by simp) (by omega) (by omega)
    refine ⟨⟨x.f0, x.f1, s, x.f3⟩, q + 1 + 1, ?_, by rw [allY_mk]; omega, by omega, by omega⟩
    unfold spec_l2Bent.f
    exact Ev.bind h2 (Ev.bind hr (Ev.neg c0 (Ev.neg c1 (Ev.pos c2 (Ev.bindS hs rfl)))))
  by_cases c3 : r = 3
  · obtain ⟨y, g1, g2⟩ := l2Bent_l0_ev bs (q + 1) 5 0 x rfl
    refine ⟨y, q + 1, ?_, by omega, by omega, by omega⟩
    unfold spec_l2Bent.f
    exact Ev.bind h2 (Ev.bind hr (Ev.neg c0 (Ev.neg c1 (Ev.neg c2 (Ev.pos c3 g1)))))
  by_cases c4 : r = 4
  · obtain ⟨y, g1, g2⟩ := l2Bent_l1_ev bs (q + 1) 4 0 x 39 rfl h3 (by decide) (by decide)
    refine ⟨y, q + 1, ?_, Nat.le_trans g2 (by decide), by omega, by omega⟩
    unfold spec_l2Bent.f
    exact Ev.bind h2 (Ev.bind hr (Ev.neg c0 (Ev.neg c1 (Ev.neg c2 (Ev.neg c3 (Ev.pos c4 g1))))))
  · refine ⟨x, q + 1, ?_, by omega, by omega, by omega⟩
    unfold spec_l2Bent.f
    exact Ev.bind h2 (Ev.bind hr (Ev.neg c0 (Ev.neg c1 (Ev.neg c2 (Ev.neg c3 (Ev.neg c4 (Ev.now _)))))))
theorem okX_iff (x : S29) : okX x = true ↔ fmY x = true ∧ deepY x ≤ 5 ∧ manyY x ≤ 12 := by
  unfold okX
  simp only [Bool.and_eq_true, decide_eq_true_eq, and_assoc]
theorem okN_iff {a b c : Int} {n : Nat} : okN a b c n = true ↔ kidsOf a = n ∧ (if a = 1 then 0 ≤ b ∧ b ≤ 4 else b = 0) ∧ (if a = 7 then 1 ≤ c ∧ c ≤ 20 else c = 0) := by
  unfold okN
  by_cases h1 : a = 1 <;> by_cases h7 : a = 7 <;> simp [h1, h7, and_assoc]
theorem ok_top {x : S29} (h : okX x = true) : okN x.f0 x.f1 x.f2 x.f3.length = true := by
  have := ((okX_iff x).1 h).1
  rw [fmY_is, Bool.and_eq_true] at this
  exact this.1
theorem bad_top {x : S29} (h : ¬ okN x.f0 x.f1 x.f2 x.f3.length = true) : okX x = false := by
  cases ho : okX x with
  | false => rfl
  | true => exact absurd (ok_top ho) h
theorem fmsY_mem : ∀ (l : List S29), fmsY l = true → ∀ y ∈ l, fmY y = true
  | [], _, y, hy => by simp at hy
  | x :: l, h, y, hy => by
    rw [fmsY_cons, Bool.and_eq_true] at h
    rcases List.mem_cons.1 hy with rfl | hy
    · exact h.1
    · exact fmsY_mem l h.2 y hy
theorem deepsY_mem : ∀ (l : List S29), ∀ y ∈ l, deepY y ≤ deepsY l
  | [], y, hy => by simp at hy
  | x :: l, y, hy => by
    rw [deepsY_cons]
    rcases List.mem_cons.1 hy with rfl | hy
    · omega
    · have := deepsY_mem l y hy; omega
theorem manysY_mem : ∀ (l : List S29), ∀ y ∈ l, manyY y ≤ manysY l
  | [], y, hy => by simp at hy
  | x :: l, y, hy => by
    rw [manysY_cons]
    rcases List.mem_cons.1 hy with rfl | hy
    · omega
    · have := manysY_mem l y hy; omega
theorem kid_ok {x y : S29} (h : okX x = true) (hy : y ∈ x.f3) : okX y = true := by
  rw [okX_iff] at h ⊢
  obtain ⟨h1, h2, h3⟩ := h
  rw [fmY_is, Bool.and_eq_true] at h1
  rw [deepY_is] at h2
  rw [manyY_is] at h3
  have := deepsY_mem _ y hy
  have := manysY_mem _ y hy
  exact ⟨fmsY_mem _ h1.2 y hy, by omega, by omega⟩
theorem bent_l0_ev (x : S29) (h : allY x ≤ 1000) (ho : okX x = true) (a b c d : S29) (ha : allY a ≤ 1048576) (hb : allY b ≤ 1048576) (hc : allY c ≤ 1048576) (hd : allY d ≤ 1048576)
    (na : okX a = false) (nb : okX b = false) (nc : okX c = false) (nd : okX d = false) : ∀ (e n : Nat), n + e = x.f3.length → Ev (fun k => laws_FnExBent.l0 k (n : Int) x.f0 x.f1 x.f2 x.f3 a.f0 a.f1 a.f2 a.f3 b.f0 b.f1 b.f2 b.f3 c.f0 c.f1 c.f2 c.f3 d.f0 d.f1 d.f2 d.f3) true := by
  have hl := allY_is x
  intro e
  induction e with
  | zero =>
    intro n hn
    refine Ev.step (fun k => by simp only [laws_FnExBent.l0]; rw [if_neg (by omega)]) ?_
    refine Ev.bind (na ▸ impl_ExOk_ev a ha) (Ev.neg (by decide) (Ev.bind (nb ▸ impl_ExOk_ev b hb) (Ev.neg (by decide) (Ev.bind (nc ▸ impl_ExOk_ev c hc) (Ev.neg (by decide) (Ev.bind (nd ▸ impl_ExOk_ev d hd) (Ev.neg (by decide) ?_)))))))
    have ht : Ev (fun k => impl_ExText.f k a.f0 a.f1 a.f2 a.f3) (⟨#[]⟩ : ByteArray) := by
      unfold impl_ExText.f
      exact Ev.bind (na ▸ impl_ExOk_ev a ha) (Ev.neg (by decide) (Ev.now _))
    have hs : Ev (fun k => impl_ExSyms.f k c.f0 c.f1 c.f2 c.f3) [] := by
      unfold impl_ExSyms.f
      exact Ev.bind (nc ▸ impl_ExOk_ev c hc) (Ev.neg (by decide) (Ev.now _))
    exact Ev.bind ht (Ev.pos (by unfold ByteArray.toList ByteArray.toList.loop; simp [ByteArray.size]) (Ev.bind hs (Ev.now _)))
  | succ e ih =>
    intro n hn
    have hx : x.f3[n] ∈ x.f3 := List.getElem_mem _
    have hk := allY_mem hx
    refine Ev.step (fun k => by simp only [laws_FnExBent.l0]; rw [if_pos (by omega), if_pos (by omega), rdI x.f3 n (by omega), w_succ (by omega)]) ?_
    exact Ev.bind (kid_ok ho hx ▸ impl_ExOk_ev _ (by omega)) (Ev.pos rfl (ih (n + 1) (by omega)))
theorem kidsOf_8 : kidsOf 8 = -1 := by decide
theorem bentG_ev (x : S29) (h : allY x ≤ 1000) (bt : Bool) (hb : bt = true → okX x = false) (hb2 : bt = false → okX x = true) : Ev (fun k => laws_FnExBent.j0 k bt x.f0 x.f1 x.f2 x.f3) true := by
  have hl := allY_is x
  refine Ev.step (fun k => by simp only [laws_FnExBent.j0]; rfl) ?_
  cases bt with
  | true =>
    refine Ev.pos rfl (Ev.bind (impl_ExOk_ev x (by omega)) (Ev.bind (spec_ExOk_ev x (by omega)) (Ev.val (Ev.now _) ?_)))
    cases okX x <;> rfl
  | false =>
    have ho := hb2 rfl
    obtain ⟨k1, k2, k3⟩ := okN_iff.1 (ok_top ho)
    have hf2 : 0 ≤ x.f2 ∧ x.f2 ≤ 20 := by
      split at k3
      · omega
      · omega
    have ew : wrap64 (wrap64 (x.f2 + 20) + 1) = x.f2 + 21 := by rw [w_small (i := x.f2 + 20) (by omega) (by omega), w_small (by omega) (by omega)]; omega
    refine Ev.neg (by decide) (Ev.bind (Ev.now ([] : List S29)) ?_)
    refine Ev.pos (by rw [List.length_nil]; omega) ?_
    rw [List.nil_append]
    refine Ev.bind (Ev.now x.f3) (Ev.pos (by omega) ?_)
    rw [ew]
    refine bent_l0_ev x h ho ⟨x.f0, x.f1, x.f2, x.f3 ++ [⟨1, 0, 0, []⟩]⟩ ⟨x.f0, x.f1, x.f2 + 21, x.f3⟩ ⟨8, x.f1, x.f2, x.f3⟩ ⟨x.f0, 5, x.f2, x.f3⟩ ?_ ?_ ?_ ?_ ?_ ?_ ?_ ?_ x.f3.length 0 (by omega)
    · rw [allY_mk, kidsY_append, kidsY_cons, kidsY_nil, allY_mk, kidsY_nil, List.length_append]; simp only [List.length_cons, List.length_nil]; omega
    · rw [allY_mk]; omega
    · rw [allY_mk]; omega
    · rw [allY_mk]; omega
    · refine bad_top (fun g => ?_)
      obtain ⟨g1, _, _⟩ := okN_iff.1 g
      simp only [List.length_append, List.length_cons, List.length_nil] at g1
      omega
    · refine bad_top (fun g => ?_)
      obtain ⟨_, _, g3⟩ := okN_iff.1 g
      simp only at g3
      split at g3
      · omega
      · omega
    · refine bad_top (fun g => ?_)
      obtain ⟨g1, _, _⟩ := okN_iff.1 g
      simp only [kidsOf_8] at g1
      omega
    refine bad_top (fun g => ?_)
    obtain ⟨_, g2, _⟩ := okN_iff.1 g
    simp only at g2
    split at g2
    · omega
    · omega
theorem FnExBent_pure (l0 : List Int) (h0 : l0.length ≤ maxLen ∧ ∀ y ∈ l0, (Lit.int .u8 y).wf = true) (_ : l0.length * 1 ≤ 140737488351232) : ∃ k, laws_FnExBent.f k l0 = some true := by
  refine Ev.rounds (g := fun k => laws_FnExBent.f k l0) ?_
  unfold laws_FnExBent.f
  by_cases c : (l0.length : Int) > 1048576
  · exact Ev.pos c (Ev.now _)
  have hb := open_bytes h0.2
  obtain ⟨x, q, h1, h2, _, _⟩ := l2Bent_ev _ hb 0 (by omega) (by omega)
  have hd : Ev (fun k => spec_DrawExOk.f k l0) (x.f0, x.f1, x.f2, x.f3) := by
    unfold spec_DrawExOk.f
    exact Ev.bind (Ev.one (fun _ => l14Open_is l0 (maxLen_le h0.1))) (Ev.bind h1 (Ev.now _))
  refine Ev.neg c (Ev.bind hd (Ev.bind (impl_ExOk_ev x (by omega)) (Ev.bind (spec_ExOk_ev x (by omega)) ?_)))
  refine Ev.neg (by cases okX x <;> decide) (Ev.bind (spec_ExOk_ev x (by omega)) (bentG_ev x h2 _ ?_ ?_))
  · intro g; cases ho : okX x with
    | false => rfl
    | true => rw [ho] at g; cases g
  · intro g; cases ho : okX x with
    | true => rfl
    | false => rw [ho] at g; cases g
end Go.Proofs.YtbcdfbiggjfmlaaDoor.M
