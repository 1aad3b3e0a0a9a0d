/- What the claim's law leans on: the program's functions, what they compute, and the law over plain values; no condition is asked. (Part 3 of 5.) -/
import Derived.Test.YtiplpckgmikmeaaCLawsFnExactOccJoin2
namespace Go.Proofs.Ytiplpckgmikmeaa.M
open Go.RowKit Go.Proofs.YtiplpckgmikmeaaW.PrintWords Go.Proofs.YtiplpckgmikmeaaW.PrintLast Go.Proofs.YtiplpckgmikmeaaW.PrintMore
attribute [local go_sem] max2_int min2_int max_two min_two max_three min_three max_four min_four
set_option linter.unusedVariables false
set_option linter.unusedSimpArgs false

def laws_FnExactOccJoin.j0 : Nat → Bool → Int → Int → List Int → Int → Int → List Int → Int → Int → List Int → Int → Int → List Int → Option (Bool)
 | 0, _, _, _, _, _, _, _, _, _, _, _, _, _ => none
 | k + 1, x63, x102000, x102001, x102002, x103000, x103001, x103002, x121000, x121001, x121002, x139000, x139001, x139002 => if x63 = true then (some false) else ((laws_markOcc.f k x139000 x139001 x139002 1).bind fun bt157 => ((laws_heldOcc.f k x139000 x139001 bt157.2 1).bind fun t159 => (if t159 < 0 then (some false) else (if t159 = bt157.1 then ((laws_toOcc.f k x102000 x102001 x102002).bind fun bt160 => ((laws_toOcc.f k x103000 x103001 x103002).bind fun bt165 => ((impl_OccJoin.f k bt160.1 bt160.2.1 bt160.2.2 bt165.1 bt165.2.1 bt165.2.2).bind fun bt170 => ((laws_eqOcc.f k bt170.1 bt170.2.1 bt170.2.2 x121000 x121001 x121002).bind fun t176 => (if t176 = true then ((laws_heldOcc.f k x139000 x139001 bt157.2 1).bind fun t177 => (if t177 < 0 then (some false) else (if t177 = bt157.1 then (some true) else (some false)))) else (some false)))))) else (some false)))))
def laws_FnExactOccJoin.f (k : Nat) (a0_0 : Int) (a0_1 : Int) (l0_2 : List Int) (a1_0 : Int) (a1_1 : Int) (l1_2 : List Int) : Option (Bool) := (laws_szOcc.f a0_0 a0_1 l0_2 1048576).bind fun t103 => (if t103 < 0 then (some true) else ((laws_szOcc.f a1_0 a1_1 l1_2 t103).bind fun t104 => (if t104 < 0 then (some true) else ((laws_toOcc.f k a0_0 a0_1 l0_2).bind fun bt105 => ((laws_toOcc.f k a1_0 a1_1 l1_2).bind fun bt110 => ((spec_OccJoin.f k bt105.1 bt105.2.1 bt105.2.2 bt110.1 bt110.2.1 bt110.2.2).bind fun bt115 => ((laws_toOcc.f k a0_0 a0_1 l0_2).bind fun bt121 => ((laws_toOcc.f k a1_0 a1_1 l1_2).bind fun bt127 => ((impl_OccJoin.f k bt121.1 bt121.2.1 bt121.2.2 bt127.1 bt127.2.1 bt127.2.2).bind fun bt133 => ((laws_eqOcc.f k bt133.1 bt133.2.1 bt133.2.2 bt115.1 bt115.2.1 bt115.2.2).bind fun t139 => (if t139 = true then ((laws_toOcc.f k a0_0 a0_1 l0_2).bind fun bt140 => ((laws_eqOcc.f k bt121.1 bt121.2.1 bt121.2.2 bt140.1 bt140.2.1 bt140.2.2).bind fun t145 => (if t145 = true then ((laws_toOcc.f k a1_0 a1_1 l1_2).bind fun bt146 => ((laws_eqOcc.f k bt127.1 bt127.2.1 bt127.2.2 bt146.1 bt146.2.1 bt146.2.2).bind fun t151 => (if t151 = true then ((laws_markOcc.f k bt121.1 bt121.2.1 bt121.2.2 1).bind fun bt152 => ((laws_markOcc.f k bt127.1 bt127.2.1 bt127.2.2 bt152.1).bind fun bt154 => (if bt154.1 < 0 then (laws_FnExactOccJoin.j0 k true a0_0 a0_1 l0_2 a1_0 a1_1 l1_2 bt115.1 bt115.2.1 bt115.2.2 bt133.1 bt133.2.1 bt133.2.2) else ((laws_eqOcc.f k bt133.1 bt133.2.1 bt133.2.2 bt115.1 bt115.2.1 bt115.2.2).bind fun t156 => (laws_FnExactOccJoin.j0 k (!t156) a0_0 a0_1 l0_2 a1_0 a1_1 l1_2 bt115.1 bt115.2.1 bt115.2.2 bt133.1 bt133.2.1 bt133.2.2))))) else (some false)))) else (some false)))) else (some false))))))))))))
theorem laws_FnExactOccJoin.mono_l : ∀ k, (∀ y0 y1 y2 y3 y4 y5 y6 y7 y8 y9 y10 y11 y12, LeO (laws_FnExactOccJoin.j0 k y0 y1 y2 y3 y4 y5 y6 y7 y8 y9 y10 y11 y12) (laws_FnExactOccJoin.j0 (k + 1) y0 y1 y2 y3 y4 y5 y6 y7 y8 y9 y10 y11 y12))
 | 0 => fun _ _ _ _ _ _ _ _ _ _ _ _ _ r h => by simp [laws_FnExactOccJoin.j0] at h
 | k + 1 => by
  have ih0 := laws_FnExactOccJoin.mono_l k
  ·intro y0 y1 y2 y3 y4 y5 y6 y7 y8 y9 y10 y11 y12
   unfold laws_FnExactOccJoin.j0
   repeat' first
   | (with_reducible exact ih0 _ _ _ _ _ _ _ _ _ _ _ _ _)
   | (with_reducible exact impl_OccJoin.mono _ _ _ _ _ _ _)
   | (with_reducible exact laws_eqOcc.mono _ _ _ _ _ _ _)
   | (with_reducible exact laws_heldOcc.mono _ _ _ _ _)
   | (with_reducible exact laws_markOcc.mono _ _ _ _ _)
   | (with_reducible exact laws_toOcc.mono _ _ _ _)
   | (with_reducible exact spec_OccJoin.mono _ _ _ _ _ _ _)
   | (with_reducible exact LeO.refl _)
   | (with_reducible exact LeO.none _)
   | (with_reducible refine LeO.ite ?_ ?_)
   | (with_reducible refine LeO.bind ?_ (fun _ => ?_))
   | exact ih0 _ _ _ _ _ _ _ _ _ _ _ _ _
   | exact impl_OccJoin.mono _ _ _ _ _ _ _
   | exact laws_eqOcc.mono _ _ _ _ _ _ _
   | exact laws_heldOcc.mono _ _ _ _ _
   | exact laws_markOcc.mono _ _ _ _ _
   | exact laws_toOcc.mono _ _ _ _
   | exact spec_OccJoin.mono _ _ _ _ _ _ _
   | exact LeO.none _
   | refine LeO.ite ?_ ?_
   | refine LeO.bind ?_ (fun _ => ?_)
theorem laws_FnExactOccJoin.mono : ∀ a0 a1 a2 a3 a4 a5 k, LeO (laws_FnExactOccJoin.f k a0 a1 a2 a3 a4 a5) (laws_FnExactOccJoin.f (k + 1) a0 a1 a2 a3 a4 a5) := by
 intro a0 a1 a2 a3 a4 a5 k
 have ih0 := laws_FnExactOccJoin.mono_l k
 unfold laws_FnExactOccJoin.f
 repeat' first
   | (with_reducible exact ih0 _ _ _ _ _ _ _ _ _ _ _ _ _)
   | (with_reducible exact impl_OccJoin.mono _ _ _ _ _ _ _)
   | (with_reducible exact laws_eqOcc.mono _ _ _ _ _ _ _)
   | (with_reducible exact laws_heldOcc.mono _ _ _ _ _)
   | (with_reducible exact laws_markOcc.mono _ _ _ _ _)
   | (with_reducible exact laws_toOcc.mono _ _ _ _)
   | (with_reducible exact spec_OccJoin.mono _ _ _ _ _ _ _)
   | (with_reducible exact LeO.refl _)
   | (with_reducible exact LeO.none _)
   | (with_reducible refine LeO.ite ?_ ?_)
   | (with_reducible refine LeO.bind ?_ (fun _ => ?_))
   | exact ih0 _ _ _ _ _ _ _ _ _ _ _ _ _
   | exact impl_OccJoin.mono _ _ _ _ _ _ _
   | exact laws_eqOcc.mono _ _ _ _ _ _ _
   | exact laws_heldOcc.mono _ _ _ _ _
   | exact laws_markOcc.mono _ _ _ _ _
   | exact laws_toOcc.mono _ _ _ _
   | exact spec_OccJoin.mono _ _ _ _ _ _ _
   | exact LeO.none _
   | refine LeO.ite ?_ ?_
   | refine LeO.bind ?_ (fun _ => ?_)
set_option maxHeartbeats 8000000 in
set_option maxRecDepth 100000 in
theorem laws_FnExactOccJoin.calls (k : Nat) (a0_0 : Int) (a0_1 : Int) (A0_2 : Option Addr) (c0_2 : Nat) (l0_2 : List Int) (a1_0 : Int) (a1_1 : Int) (A1_2 : Option Addr) (c1_2 : Nat) (l1_2 : List Int) (r : Bool) (hT_ : Aside0 (r = true)) (w : World) (hr0_2 : Kd.C (Kd.int .i64) w A0_2 l0_2.length l0_2) (hc0_2 : l0_2.length ≤ c0_2) (hr1_2 : Kd.C (Kd.int .i64) w A1_2 l1_2.length l1_2) (hc1_2 : l1_2.length ≤ c1_2) (h : laws_FnExactOccJoin.f k a0_0 a0_1 l0_2 a1_0 a1_1 l1_2 = some r) :
  Calls Try.prog 11 #[.agg #[.int .i64 a0_0, .int .i64 a0_1, .slice A0_2 l0_2.length c0_2], .agg #[.int .i64 a1_0, .int .i64 a1_1, .slice A1_2 l1_2.length c1_2]] w fun e w' => e = .returned (.bool r) ∧ Below w.heap.size w w' := by
 have hu24 := Try.underlying24
 have hu27 := Try.underlying27
 have HR0_2 := Aside0.mk hr0_2
 have HC0_2 := Aside0.mk hc0_2
 clear hr0_2 hc0_2
 have HR1_2 := Aside0.mk hr1_2
 have HC1_2 := Aside0.mk hc1_2
 clear hr1_2 hc1_2
 have HB := Aside0.mk (Below.refl w.heap.size w)
 have H : ((laws_szOcc.f a0_0 a0_1 l0_2 1048576).bind fun t103 => (if t103 < 0 then (some true) else ((laws_szOcc.f a1_0 a1_1 l1_2 t103).bind fun t104 => (if t104 < 0 then (some true) else ((laws_toOcc.f k a0_0 a0_1 l0_2).bind fun bt105 => ((laws_toOcc.f k a1_0 a1_1 l1_2).bind fun bt110 => ((spec_OccJoin.f k bt105.1 bt105.2.1 bt105.2.2 bt110.1 bt110.2.1 bt110.2.2).bind fun bt115 => ((laws_toOcc.f k a0_0 a0_1 l0_2).bind fun bt121 => ((laws_toOcc.f k a1_0 a1_1 l1_2).bind fun bt127 => ((impl_OccJoin.f k bt121.1 bt121.2.1 bt121.2.2 bt127.1 bt127.2.1 bt127.2.2).bind fun bt133 => ((laws_eqOcc.f k bt133.1 bt133.2.1 bt133.2.2 bt115.1 bt115.2.1 bt115.2.2).bind fun t139 => (if t139 = true then ((laws_toOcc.f k a0_0 a0_1 l0_2).bind fun bt140 => ((laws_eqOcc.f k bt121.1 bt121.2.1 bt121.2.2 bt140.1 bt140.2.1 bt140.2.2).bind fun t145 => (if t145 = true then ((laws_toOcc.f k a1_0 a1_1 l1_2).bind fun bt146 => ((laws_eqOcc.f k bt127.1 bt127.2.1 bt127.2.2 bt146.1 bt146.2.1 bt146.2.2).bind fun t151 => (if t151 = true then ((laws_markOcc.f k bt121.1 bt121.2.1 bt121.2.2 1).bind fun bt152 => ((laws_markOcc.f k bt127.1 bt127.2.1 bt127.2.2 bt152.1).bind fun bt154 => (if bt154.1 < 0 then (laws_FnExactOccJoin.j0 k true a0_0 a0_1 l0_2 a1_0 a1_1 l1_2 bt115.1 bt115.2.1 bt115.2.2 bt133.1 bt133.2.1 bt133.2.2) else ((laws_eqOcc.f k bt133.1 bt133.2.1 bt133.2.2 bt115.1 bt115.2.1 bt115.2.2).bind fun t156 => (laws_FnExactOccJoin.j0 k (!t156) a0_0 a0_1 l0_2 a1_0 a1_1 l1_2 bt115.1 bt115.2.1 bt115.2.2 bt133.1 bt133.2.1 bt133.2.2))))) else (some false)))) else (some false)))) else (some false))))))))))))) = some r := h
 clear h
 replace H := Option.bind_eq_some_iff.mp H
 obtain ⟨t103, A30, H⟩ := H
 replace H : (if t103 < 0 then (some true) else ((laws_szOcc.f a1_0 a1_1 l1_2 t103).bind fun t104 => (if t104 < 0 then (some true) else ((laws_toOcc.f k a0_0 a0_1 l0_2).bind fun bt105 => ((laws_toOcc.f k a1_0 a1_1 l1_2).bind fun bt110 => ((spec_OccJoin.f k bt105.1 bt105.2.1 bt105.2.2 bt110.1 bt110.2.1 bt110.2.2).bind fun bt115 => ((laws_toOcc.f k a0_0 a0_1 l0_2).bind fun bt121 => ((laws_toOcc.f k a1_0 a1_1 l1_2).bind fun bt127 => ((impl_OccJoin.f k bt121.1 bt121.2.1 bt121.2.2 bt127.1 bt127.2.1 bt127.2.2).bind fun bt133 => ((laws_eqOcc.f k bt133.1 bt133.2.1 bt133.2.2 bt115.1 bt115.2.1 bt115.2.2).bind fun t139 => (if t139 = true then ((laws_toOcc.f k a0_0 a0_1 l0_2).bind fun bt140 => ((laws_eqOcc.f k bt121.1 bt121.2.1 bt121.2.2 bt140.1 bt140.2.1 bt140.2.2).bind fun t145 => (if t145 = true then ((laws_toOcc.f k a1_0 a1_1 l1_2).bind fun bt146 => ((laws_eqOcc.f k bt127.1 bt127.2.1 bt127.2.2 bt146.1 bt146.2.1 bt146.2.2).bind fun t151 => (if t151 = true then ((laws_markOcc.f k bt121.1 bt121.2.1 bt121.2.2 1).bind fun bt152 => ((laws_markOcc.f k bt127.1 bt127.2.1 bt127.2.2 bt152.1).bind fun bt154 => (if bt154.1 < 0 then (laws_FnExactOccJoin.j0 k true a0_0 a0_1 l0_2 a1_0 a1_1 l1_2 bt115.1 bt115.2.1 bt115.2.2 bt133.1 bt133.2.1 bt133.2.2) else ((laws_eqOcc.f k bt133.1 bt133.2.1 bt133.2.2 bt115.1 bt115.2.1 bt115.2.2).bind fun t156 => (laws_FnExactOccJoin.j0 k (!t156) a0_0 a0_1 l0_2 a1_0 a1_1 l1_2 bt115.1 bt115.2.1 bt115.2.2 bt133.1 bt133.2.1 bt133.2.2))))) else (some false)))) else (some false)))) else (some false)))))))))))) = some r := H
 have A3 := Aside0.mk A30
 clear A30
 by_cases c4 : t103 < 0
 ·rw [if_pos c4] at H
  have c4b0 : decide (t103 < 0) = true := decide_eq_true c4
  clear c4
  obtain rfl := Option.some.inj H
  go_enter Try.func11, Try.ntmps11
  go_wp2_with (first | ((with_reducible refine gate_dst (N := 2) rfl ?_);refine box_event ?hg (N := 2) ?hd (cs := #[.int .i64 a0_0, .int .i64 a0_1, .slice A0_2 l0_2.length c0_2]) (t := 24) ?hr ?_;(case hd => rfl);(case hg => rfl);(case hr => first | (go_simp;done) | (go_simp;rfl));intro gb101 hg w5 hbox hb;have BK101 := Aside0.mk (hbox);have GW101 := Aside0.mk ((by rw [hg];exact (below_size (by repeat (first | (with_reducible first | exact HB.out | apply below_alloc | apply pw_below_drewN | apply below_drew1) | exact HB.out))) : w.heap.size ≤ gb101));have GE101 := Aside0.mk ((by rw [hg];exact (below_size (by repeat (first | (with_reducible first | exact HB.out | apply below_alloc | apply pw_below_drewN | apply below_drew1) | exact HB.out))) : w.heap.size ≤ gb101));replace HB := Aside0.mk (below_step (by repeat (first | (with_reducible first | exact HB.out | apply below_alloc | apply pw_below_drewN | apply below_drew1) | exact HB.out)) hb);clear hb hbox hg) | ((with_reducible refine gate_dst (N := 3) rfl ?_);refine box_event ?hg (N := 3) ?hd (cs := #[.int .i64 a1_0, .int .i64 a1_1, .slice A1_2 l1_2.length c1_2]) (t := 24) ?hr ?_;(case hd => rfl);(case hg => rfl);(case hr => first | (go_simp;done) | (go_simp;rfl));intro gb102 hg w6 hbox hb;have BK102 := Aside0.mk (hbox);have GW102 := Aside0.mk ((by rw [hg];exact (below_size (by repeat (first | (with_reducible first | exact HB.out | apply below_alloc | apply pw_below_drewN | apply below_drew1 | refine below_set ?_ GE101.out) | exact HB.out))) : w.heap.size ≤ gb102));have GE102 := Aside0.mk ((by rw [hg];exact (below_size (by repeat (first | (with_reducible first | exact HB.out | apply below_alloc | apply pw_below_drewN | apply below_drew1 | refine below_set ?_ GE101.out) | exact HB.out))) : w.heap.size ≤ gb102));replace HB := Aside0.mk (below_step (by repeat (first | (with_reducible first | exact HB.out | apply below_alloc | apply pw_below_drewN | apply below_drew1 | refine below_set ?_ GE101.out) | exact HB.out)) hb);have NB101_102 := Aside0.mk ((by rw [hg];exact Nat.ne_of_lt (blk_lt BK101.out) : gb101 ≠ gb102));have NB102_101 := Aside0.mk ((by rw [hg];exact Nat.ne_of_gt (blk_lt BK101.out) : gb102 ≠ gb101));replace BK101 := Aside0.mk (blk_below BK101.out hb);clear hb hbox hg;have hnb7 := NB101_102.out;have hnc7 := NB102_101.out;obtain ⟨hcz8_0, hcz8_1, hcz8_2, hfz8_0, hfz8_1, hfz8_2⟩ := bx3 BK101.out) | ((with_reducible refine gate_callee (f := 18) rfl ?_);refine goesL_ (some 16) rfl rfl Try.func18 (by kernel_rfl) rfl #[.agg #[.int .i64 a0_0, .int .i64 a0_1, .slice A0_2 l0_2.length c0_2], .int .i64 1048576] rfl (by (try simp only [List.map_toArray, List.map_cons, List.map_nil]);first | done | rfl | (simp only [List.length_drop, List.length_take];rfl)) ?_;(with_reducible refine (laws_szOcc.calls a0_0 a0_1 _ _ l0_2 1048576 t103 _ ?side1 ?side2 A3.out).mono ?_);(case side1 => repeat (first | exact (Kd.C_below HR0_2.out HB.out) | (with_reducible refine Kd.C_alloc ?_ _) | (with_reducible refine Kd.C_drewN ?_ _) | (with_reducible refine Kd.C_drew ?_)));(case side2 => exact HC0_2.out);rintro e w9 ⟨rfl, hb⟩;refine ⟨_, rfl, ?_⟩;replace BK101 := Aside0.mk (blk_below BK101.out hb);replace BK102 := Aside0.mk (blk_below BK102.out hb);replace HB := Aside0.mk (below_step (by repeat (first | (with_reducible first | exact HB.out | apply below_alloc | apply pw_below_drewN | apply below_drew1 | refine below_set ?_ GE101.out | refine below_set ?_ GE102.out) | exact HB.out)) hb);(try clear hb);(try clear hb2);(try clear hk);(try clear hi)))
  go_ret
  exact ⟨by first | rfl | (simp [errW_none, errW_some] <;> rfl) | (simp [*, errW_none, errW_some] <;> rfl), by repeat (first | (with_reducible first | exact HB.out | apply below_alloc | apply pw_below_drewN | apply below_drew1 | refine below_set ?_ GE101.out | refine below_set ?_ GE102.out) | exact HB.out)⟩
 ·rw [if_neg c4] at H
  have c4b0 : decide (t103 < 0) = false := decide_eq_false c4
  clear c4
  replace H := Option.bind_eq_some_iff.mp H
  obtain ⟨t104, A100, H⟩ := H
  replace H : (if t104 < 0 then (some true) else ((laws_toOcc.f k a0_0 a0_1 l0_2).bind fun bt105 => ((laws_toOcc.f k a1_0 a1_1 l1_2).bind fun bt110 => ((spec_OccJoin.f k bt105.1 bt105.2.1 bt105.2.2 bt110.1 bt110.2.1 bt110.2.2).bind fun bt115 => ((laws_toOcc.f k a0_0 a0_1 l0_2).bind fun bt121 => ((laws_toOcc.f k a1_0 a1_1 l1_2).bind fun bt127 => ((impl_OccJoin.f k bt121.1 bt121.2.1 bt121.2.2 bt127.1 bt127.2.1 bt127.2.2).bind fun bt133 => ((laws_eqOcc.f k bt133.1 bt133.2.1 bt133.2.2 bt115.1 bt115.2.1 bt115.2.2).bind fun t139 => (if t139 = true then ((laws_toOcc.f k a0_0 a0_1 l0_2).bind fun bt140 => ((laws_eqOcc.f k bt121.1 bt121.2.1 bt121.2.2 bt140.1 bt140.2.1 bt140.2.2).bind fun t145 => (if t145 = true then ((laws_toOcc.f k a1_0 a1_1 l1_2).bind fun bt146 => ((laws_eqOcc.f k bt127.1 bt127.2.1 bt127.2.2 bt146.1 bt146.2.1 bt146.2.2).bind fun t151 => (if t151 = true then ((laws_markOcc.f k bt121.1 bt121.2.1 bt121.2.2 1).bind fun bt152 => ((laws_markOcc.f k bt127.1 bt127.2.1 bt127.2.2 bt152.1).bind fun bt154 => (if bt154.1 < 0 then (laws_FnExactOccJoin.j0 k true a0_0 a0_1 l0_2 a1_0 a1_1 l1_2 bt115.1 bt115.2.1 bt115.2.2 bt133.1 bt133.2.1 bt133.2.2) else ((laws_eqOcc.f k bt133.1 bt133.2.1 bt133.2.2 bt115.1 bt115.2.1 bt115.2.2).bind fun t156 => (laws_FnExactOccJoin.j0 k (!t156) a0_0 a0_1 l0_2 a1_0 a1_1 l1_2 bt115.1 bt115.2.1 bt115.2.2 bt133.1 bt133.2.1 bt133.2.2))))) else (some false)))) else (some false)))) else (some false)))))))))) = some r := H
  have A10 := Aside0.mk A100
  clear A100
  by_cases c11 : t104 < 0
  ·rw [if_pos c11] at H
   have c11b0 : decide (t104 < 0) = true := decide_eq_true c11
   clear c11
   obtain rfl := Option.some.inj H
   go_enter Try.func11, Try.ntmps11
   go_wp2_with (first | ((with_reducible refine gate_dst (N := 2) rfl ?_);refine box_event ?hg (N := 2) ?hd (cs := #[.int .i64 a0_0, .int .i64 a0_1, .slice A0_2 l0_2.length c0_2]) (t := 24) ?hr ?_;(case hd => rfl);(case hg => rfl);(case hr => first | (go_simp;done) | (go_simp;rfl));intro gb101 hg w12 hbox hb;have BK101 := Aside0.mk (hbox);have GW101 := Aside0.mk ((by rw [hg];exact (below_size (by repeat (first | (with_reducible first | exact HB.out | apply below_alloc | apply pw_below_drewN | apply below_drew1) | exact HB.out))) : w.heap.size ≤ gb101));have GE101 := Aside0.mk ((by rw [hg];exact (below_size (by repeat (first | (with_reducible first | exact HB.out | apply below_alloc | apply pw_below_drewN | apply below_drew1) | exact HB.out))) : w.heap.size ≤ gb101));replace HB := Aside0.mk (below_step (by repeat (first | (with_reducible first | exact HB.out | apply below_alloc | apply pw_below_drewN | apply below_drew1) | exact HB.out)) hb);clear hb hbox hg) | ((with_reducible refine gate_dst (N := 3) rfl ?_);refine box_event ?hg (N := 3) ?hd (cs := #[.int .i64 a1_0, .int .i64 a1_1, .slice A1_2 l1_2.length c1_2]) (t := 24) ?hr ?_;(case hd => rfl);(case hg => rfl);(case hr => first | (go_simp;done) | (go_simp;rfl));intro gb102 hg w13 hbox hb;have BK102 := Aside0.mk (hbox);have GW102 := Aside0.mk ((by rw [hg];exact (below_size (by repeat (first | (with_reducible first | exact HB.out | apply below_alloc | apply pw_below_drewN | apply below_drew1 | refine below_set ?_ GE101.out) | exact HB.out))) : w.heap.size ≤ gb102));have GE102 := Aside0.mk ((by rw [hg];exact (below_size (by repeat (first | (with_reducible first | exact HB.out | apply below_alloc | apply pw_below_drewN | apply below_drew1 | refine below_set ?_ GE101.out) | exact HB.out))) : w.heap.size ≤ gb102));replace HB := Aside0.mk (below_step (by repeat (first | (with_reducible first | exact HB.out | apply below_alloc | apply pw_below_drewN | apply below_drew1 | refine below_set ?_ GE101.out) | exact HB.out)) hb);have NB101_102 := Aside0.mk ((by rw [hg];exact Nat.ne_of_lt (blk_lt BK101.out) : gb101 ≠ gb102));have NB102_101 := Aside0.mk ((by rw [hg];exact Nat.ne_of_gt (blk_lt BK101.out) : gb102 ≠ gb101));replace BK101 := Aside0.mk (blk_below BK101.out hb);clear hb hbox hg;have hnb14 := NB101_102.out;have hnc14 := NB102_101.out;obtain ⟨hcz15_0, hcz15_1, hcz15_2, hfz15_0, hfz15_1, hfz15_2⟩ := bx3 BK101.out) | ((with_reducible refine gate_callee (f := 18) rfl ?_);refine goesL_ (some 16) rfl rfl Try.func18 (by kernel_rfl) rfl #[.agg #[.int .i64 a0_0, .int .i64 a0_1, .slice A0_2 l0_2.length c0_2], .int .i64 1048576] rfl (by (try simp only [List.map_toArray, List.map_cons, List.map_nil]);first | done | rfl | (simp only [List.length_drop, List.length_take];rfl)) ?_;(with_reducible refine (laws_szOcc.calls a0_0 a0_1 _ _ l0_2 1048576 t103 _ ?side1 ?side2 A3.out).mono ?_);(case side1 => repeat (first | exact (Kd.C_below HR0_2.out HB.out) | (with_reducible refine Kd.C_alloc ?_ _) | (with_reducible refine Kd.C_drewN ?_ _) | (with_reducible refine Kd.C_drew ?_)));(case side2 => exact HC0_2.out);rintro e w16 ⟨rfl, hb⟩;refine ⟨_, rfl, ?_⟩;replace BK101 := Aside0.mk (blk_below BK101.out hb);replace BK102 := Aside0.mk (blk_below BK102.out hb);replace HB := Aside0.mk (below_step (by repeat (first | (with_reducible first | exact HB.out | apply below_alloc | apply pw_below_drewN | apply below_drew1 | refine below_set ?_ GE101.out | refine below_set ?_ GE102.out) | exact HB.out)) hb);(try clear hb);(try clear hb2);(try clear hk);(try clear hi);obtain ⟨hcz17_0, hcz17_1, hcz17_2, hfz17_0, hfz17_1, hfz17_2⟩ := bx3 BK102.out) | ((with_reducible refine gate_callee (f := 18) rfl ?_);refine goesL_ (some 21) rfl rfl Try.func18 (by kernel_rfl) rfl #[.agg #[.int .i64 a1_0, .int .i64 a1_1, .slice A1_2 l1_2.length c1_2], .int .i64 t103] rfl (by (try simp only [List.map_toArray, List.map_cons, List.map_nil]);first | done | rfl | (simp only [List.length_drop, List.length_take];rfl)) ?_;(with_reducible refine (laws_szOcc.calls a1_0 a1_1 _ _ l1_2 t103 t104 _ ?side1 ?side2 A10.out).mono ?_);(case side1 => repeat (first | exact (Kd.C_below HR1_2.out HB.out) | (with_reducible refine Kd.C_alloc ?_ _) | (with_reducible refine Kd.C_drewN ?_ _) | (with_reducible refine Kd.C_drew ?_)));(case side2 => exact HC1_2.out);rintro e w18 ⟨rfl, hb⟩;refine ⟨_, rfl, ?_⟩;replace BK101 := Aside0.mk (blk_below BK101.out hb);replace BK102 := Aside0.mk (blk_below BK102.out hb);replace HB := Aside0.mk (below_step (by repeat (first | (with_reducible first | exact HB.out | apply below_alloc | apply pw_below_drewN | apply below_drew1 | refine below_set ?_ GE101.out | refine below_set ?_ GE102.out) | exact HB.out)) hb);(try clear hb);(try clear hb2);(try clear hk);(try clear hi)))
   go_ret
   exact ⟨by first | rfl | (simp [errW_none, errW_some] <;> rfl) | (simp [*, errW_none, errW_some] <;> rfl), by repeat (first | (with_reducible first | exact HB.out | apply below_alloc | apply pw_below_drewN | apply below_drew1 | refine below_set ?_ GE101.out | refine below_set ?_ GE102.out) | exact HB.out)⟩
  ·rw [if_neg c11] at H
   have c11b0 : decide (t104 < 0) = false := decide_eq_false c11
   clear c11
   replace H := Option.bind_eq_some_iff.mp H
   obtain ⟨⟨t105, t106, t107⟩, A190, H⟩ := H
   replace H : ((laws_toOcc.f k a1_0 a1_1 l1_2).bind fun bt110 => ((spec_OccJoin.f k t105 t106 t107 bt110.1 bt110.2.1 bt110.2.2).bind fun bt115 => ((laws_toOcc.f k a0_0 a0_1 l0_2).bind fun bt121 => ((laws_toOcc.f k a1_0 a1_1 l1_2).bind fun bt127 => ((impl_OccJoin.f k bt121.1 bt121.2.1 bt121.2.2 bt127.1 bt127.2.1 bt127.2.2).bind fun bt133 => ((laws_eqOcc.f k bt133.1 bt133.2.1 bt133.2.2 bt115.1 bt115.2.1 bt115.2.2).bind fun t139 => (if t139 = true then ((laws_toOcc.f k a0_0 a0_1 l0_2).bind fun bt140 => ((laws_eqOcc.f k bt121.1 bt121.2.1 bt121.2.2 bt140.1 bt140.2.1 bt140.2.2).bind fun t145 => (if t145 = true then ((laws_toOcc.f k a1_0 a1_1 l1_2).bind fun bt146 => ((laws_eqOcc.f k bt127.1 bt127.2.1 bt127.2.2 bt146.1 bt146.2.1 bt146.2.2).bind fun t151 => (if t151 = true then ((laws_markOcc.f k bt121.1 bt121.2.1 bt121.2.2 1).bind fun bt152 => ((laws_markOcc.f k bt127.1 bt127.2.1 bt127.2.2 bt152.1).bind fun bt154 => (if bt154.1 < 0 then (laws_FnExactOccJoin.j0 k true a0_0 a0_1 l0_2 a1_0 a1_1 l1_2 bt115.1 bt115.2.1 bt115.2.2 bt133.1 bt133.2.1 bt133.2.2) else ((laws_eqOcc.f k bt133.1 bt133.2.1 bt133.2.2 bt115.1 bt115.2.1 bt115.2.2).bind fun t156 => (laws_FnExactOccJoin.j0 k (!t156) a0_0 a0_1 l0_2 a1_0 a1_1 l1_2 bt115.1 bt115.2.1 bt115.2.2 bt133.1 bt133.2.1 bt133.2.2))))) else (some false)))) else (some false)))) else (some false)))))))) = some r := H
   have A19 := Aside0.mk A190
   clear A190
   replace H := Option.bind_eq_some_iff.mp H
   obtain ⟨⟨t110, t111, t112⟩, A200, H⟩ := H
   replace H : ((spec_OccJoin.f k t105 t106 t107 t110 t111 t112).bind fun bt115 => ((laws_toOcc.f k a0_0 a0_1 l0_2).bind fun bt121 => ((laws_toOcc.f k a1_0 a1_1 l1_2).bind fun bt127 => ((impl_OccJoin.f k bt121.1 bt121.2.1 bt121.2.2 bt127.1 bt127.2.1 bt127.2.2).bind fun bt133 => ((laws_eqOcc.f k bt133.1 bt133.2.1 bt133.2.2 bt115.1 bt115.2.1 bt115.2.2).bind fun t139 => (if t139 = true then ((laws_toOcc.f k a0_0 a0_1 l0_2).bind fun bt140 => ((laws_eqOcc.f k bt121.1 bt121.2.1 bt121.2.2 bt140.1 bt140.2.1 bt140.2.2).bind fun t145 => (if t145 = true then ((laws_toOcc.f k a1_0 a1_1 l1_2).bind fun bt146 => ((laws_eqOcc.f k bt127.1 bt127.2.1 bt127.2.2 bt146.1 bt146.2.1 bt146.2.2).bind fun t151 => (if t151 = true then ((laws_markOcc.f k bt121.1 bt121.2.1 bt121.2.2 1).bind fun bt152 => ((laws_markOcc.f k bt127.1 bt127.2.1 bt127.2.2 bt152.1).bind fun bt154 => (if bt154.1 < 0 then (laws_FnExactOccJoin.j0 k true a0_0 a0_1 l0_2 a1_0 a1_1 l1_2 bt115.1 bt115.2.1 bt115.2.2 bt133.1 bt133.2.1 bt133.2.2) else ((laws_eqOcc.f k bt133.1 bt133.2.1 bt133.2.2 bt115.1 bt115.2.1 bt115.2.2).bind fun t156 => (laws_FnExactOccJoin.j0 k (!t156) a0_0 a0_1 l0_2 a1_0 a1_1 l1_2 bt115.1 bt115.2.1 bt115.2.2 bt133.1 bt133.2.1 bt133.2.2))))) else (some false)))) else (some false)))) else (some false))))))) = some r := H
   have A20 := Aside0.mk A200
   clear A200
   replace H := Option.bind_eq_some_iff.mp H
   obtain ⟨⟨t115, t116, t117⟩, A210, H⟩ := H
   replace H : ((laws_toOcc.f k a0_0 a0_1 l0_2).bind fun bt121 => ((laws_toOcc.f k a1_0 a1_1 l1_2).bind fun bt127 => ((impl_OccJoin.f k bt121.1 bt121.2.1 bt121.2.2 bt127.1 bt127.2.1 bt127.2.2).bind fun bt133 => ((laws_eqOcc.f k bt133.1 bt133.2.1 bt133.2.2 t115 t116 t117).bind fun t139 => (if t139 = true then ((laws_toOcc.f k a0_0 a0_1 l0_2).bind fun bt140 => ((laws_eqOcc.f k bt121.1 bt121.2.1 bt121.2.2 bt140.1 bt140.2.1 bt140.2.2).bind fun t145 => (if t145 = true then ((laws_toOcc.f k a1_0 a1_1 l1_2).bind fun bt146 => ((laws_eqOcc.f k bt127.1 bt127.2.1 bt127.2.2 bt146.1 bt146.2.1 bt146.2.2).bind fun t151 => (if t151 = true then ((laws_markOcc.f k bt121.1 bt121.2.1 bt121.2.2 1).bind fun bt152 => ((laws_markOcc.f k bt127.1 bt127.2.1 bt127.2.2 bt152.1).bind fun bt154 => (if bt154.1 < 0 then (laws_FnExactOccJoin.j0 k true a0_0 a0_1 l0_2 a1_0 a1_1 l1_2 t115 t116 t117 bt133.1 bt133.2.1 bt133.2.2) else ((laws_eqOcc.f k bt133.1 bt133.2.1 bt133.2.2 t115 t116 t117).bind fun t156 => (laws_FnExactOccJoin.j0 k (!t156) a0_0 a0_1 l0_2 a1_0 a1_1 l1_2 t115 t116 t117 bt133.1 bt133.2.1 bt133.2.2))))) else (some false)))) else (some false)))) else (some false)))))) = some r := H
   have A21 := Aside0.mk A210
   clear A210
   replace H := Option.bind_eq_some_iff.mp H
   obtain ⟨⟨t121, t122, t123⟩, A220, H⟩ := H
   replace H : ((laws_toOcc.f k a1_0 a1_1 l1_2).bind fun bt127 => ((impl_OccJoin.f k t121 t122 t123 bt127.1 bt127.2.1 bt127.2.2).bind fun bt133 => ((laws_eqOcc.f k bt133.1 bt133.2.1 bt133.2.2 t115 t116 t117).bind fun t139 => (if t139 = true then ((laws_toOcc.f k a0_0 a0_1 l0_2).bind fun bt140 => ((laws_eqOcc.f k t121 t122 t123 bt140.1 bt140.2.1 bt140.2.2).bind fun t145 => (if t145 = true then ((laws_toOcc.f k a1_0 a1_1 l1_2).bind fun bt146 => ((laws_eqOcc.f k bt127.1 bt127.2.1 bt127.2.2 bt146.1 bt146.2.1 bt146.2.2).bind fun t151 => (if t151 = true then ((laws_markOcc.f k t121 t122 t123 1).bind fun bt152 => ((laws_markOcc.f k bt127.1 bt127.2.1 bt127.2.2 bt152.1).bind fun bt154 => (if bt154.1 < 0 then (laws_FnExactOccJoin.j0 k true a0_0 a0_1 l0_2 a1_0 a1_1 l1_2 t115 t116 t117 bt133.1 bt133.2.1 bt133.2.2) else ((laws_eqOcc.f k bt133.1 bt133.2.1 bt133.2.2 t115 t116 t117).bind fun t156 => (laws_FnExactOccJoin.j0 k (!t156) a0_0 a0_1 l0_2 a1_0 a1_1 l1_2 t115 t116 t117 bt133.1 bt133.2.1 bt133.2.2))))) else (some false)))) else (some false)))) else (some false))))) = some r := H
   have A22 := Aside0.mk A220
   clear A220
   replace H := Option.bind_eq_some_iff.mp H
   obtain ⟨⟨t127, t128, t129⟩, A230, H⟩ := H
   replace H : ((impl_OccJoin.f k t121 t122 t123 t127 t128 t129).bind fun bt133 => ((laws_eqOcc.f k bt133.1 bt133.2.1 bt133.2.2 t115 t116 t117).bind fun t139 => (if t139 = true then ((laws_toOcc.f k a0_0 a0_1 l0_2).bind fun bt140 => ((laws_eqOcc.f k t121 t122 t123 bt140.1 bt140.2.1 bt140.2.2).bind fun t145 => (if t145 = true then ((laws_toOcc.f k a1_0 a1_1 l1_2).bind fun bt146 => ((laws_eqOcc.f k t127 t128 t129 bt146.1 bt146.2.1 bt146.2.2).bind fun t151 => (if t151 = true then ((laws_markOcc.f k t121 t122 t123 1).bind fun bt152 => ((laws_markOcc.f k t127 t128 t129 bt152.1).bind fun bt154 => (if bt154.1 < 0 then (laws_FnExactOccJoin.j0 k true a0_0 a0_1 l0_2 a1_0 a1_1 l1_2 t115 t116 t117 bt133.1 bt133.2.1 bt133.2.2) else ((laws_eqOcc.f k bt133.1 bt133.2.1 bt133.2.2 t115 t116 t117).bind fun t156 => (laws_FnExactOccJoin.j0 k (!t156) a0_0 a0_1 l0_2 a1_0 a1_1 l1_2 t115 t116 t117 bt133.1 bt133.2.1 bt133.2.2))))) else (some false)))) else (some false)))) else (some false)))) = some r := H
   have A23 := Aside0.mk A230
   clear A230
   replace H := Option.bind_eq_some_iff.mp H
   obtain ⟨⟨t133, t134, t135⟩, A240, H⟩ := H
   replace H : ((laws_eqOcc.f k t133 t134 t135 t115 t116 t117).bind fun t139 => (if t139 = true then ((laws_toOcc.f k a0_0 a0_1 l0_2).bind fun bt140 => ((laws_eqOcc.f k t121 t122 t123 bt140.1 bt140.2.1 bt140.2.2).bind fun t145 => (if t145 = true then ((laws_toOcc.f k a1_0 a1_1 l1_2).bind fun bt146 => ((laws_eqOcc.f k t127 t128 t129 bt146.1 bt146.2.1 bt146.2.2).bind fun t151 => (if t151 = true then ((laws_markOcc.f k t121 t122 t123 1).bind fun bt152 => ((laws_markOcc.f k t127 t128 t129 bt152.1).bind fun bt154 => (if bt154.1 < 0 then (laws_FnExactOccJoin.j0 k true a0_0 a0_1 l0_2 a1_0 a1_1 l1_2 t115 t116 t117 t133 t134 t135) else ((laws_eqOcc.f k t133 t134 t135 t115 t116 t117).bind fun t156 => (laws_FnExactOccJoin.j0 k (!t156) a0_0 a0_1 l0_2 a1_0 a1_1 l1_2 t115 t116 t117 t133 t134 t135))))) else (some false)))) else (some false)))) else (some false))) = some r := H
   have A24 := Aside0.mk A240
   clear A240
   replace H := Option.bind_eq_some_iff.mp H
   obtain ⟨t139, A250, H⟩ := H
   replace H : (if t139 = true then ((laws_toOcc.f k a0_0 a0_1 l0_2).bind fun bt140 => ((laws_eqOcc.f k t121 t122 t123 bt140.1 bt140.2.1 bt140.2.2).bind fun t145 => (if t145 = true then ((laws_toOcc.f k a1_0 a1_1 l1_2).bind fun bt146 => ((laws_eqOcc.f k t127 t128 t129 bt146.1 bt146.2.1 bt146.2.2).bind fun t151 => (if t151 = true then ((laws_markOcc.f k t121 t122 t123 1).bind fun bt152 => ((laws_markOcc.f k t127 t128 t129 bt152.1).bind fun bt154 => (if bt154.1 < 0 then (laws_FnExactOccJoin.j0 k true a0_0 a0_1 l0_2 a1_0 a1_1 l1_2 t115 t116 t117 t133 t134 t135) else ((laws_eqOcc.f k t133 t134 t135 t115 t116 t117).bind fun t156 => (laws_FnExactOccJoin.j0 k (!t156) a0_0 a0_1 l0_2 a1_0 a1_1 l1_2 t115 t116 t117 t133 t134 t135))))) else (some false)))) else (some false)))) else (some false)) = some r := H
   have A25 := Aside0.mk A250
   clear A250
   by_cases c26 : t139 = true
   ·subst c26
    have H1 : ((laws_toOcc.f k a0_0 a0_1 l0_2).bind fun bt140 => ((laws_eqOcc.f k t121 t122 t123 bt140.1 bt140.2.1 bt140.2.2).bind fun t145 => (if t145 = true then ((laws_toOcc.f k a1_0 a1_1 l1_2).bind fun bt146 => ((laws_eqOcc.f k t127 t128 t129 bt146.1 bt146.2.1 bt146.2.2).bind fun t151 => (if t151 = true then ((laws_markOcc.f k t121 t122 t123 1).bind fun bt152 => ((laws_markOcc.f k t127 t128 t129 bt152.1).bind fun bt154 => (if bt154.1 < 0 then (laws_FnExactOccJoin.j0 k true a0_0 a0_1 l0_2 a1_0 a1_1 l1_2 t115 t116 t117 t133 t134 t135) else ((laws_eqOcc.f k t133 t134 t135 t115 t116 t117).bind fun t156 => (laws_FnExactOccJoin.j0 k (!t156) a0_0 a0_1 l0_2 a1_0 a1_1 l1_2 t115 t116 t117 t133 t134 t135))))) else (some false)))) else (some false)))) = some r := by rw [if_pos rfl] at H;exact H
    clear H
    have H := H1
    clear H1
    replace H := Option.bind_eq_some_iff.mp H
    obtain ⟨⟨t140, t141, t142⟩, A270, H⟩ := H
    replace H : ((laws_eqOcc.f k t121 t122 t123 t140 t141 t142).bind fun t145 => (if t145 = true then ((laws_toOcc.f k a1_0 a1_1 l1_2).bind fun bt146 => ((laws_eqOcc.f k t127 t128 t129 bt146.1 bt146.2.1 bt146.2.2).bind fun t151 => (if t151 = true then ((laws_markOcc.f k t121 t122 t123 1).bind fun bt152 => ((laws_markOcc.f k t127 t128 t129 bt152.1).bind fun bt154 => (if bt154.1 < 0 then (laws_FnExactOccJoin.j0 k true a0_0 a0_1 l0_2 a1_0 a1_1 l1_2 t115 t116 t117 t133 t134 t135) else ((laws_eqOcc.f k t133 t134 t135 t115 t116 t117).bind fun t156 => (laws_FnExactOccJoin.j0 k (!t156) a0_0 a0_1 l0_2 a1_0 a1_1 l1_2 t115 t116 t117 t133 t134 t135))))) else (some false)))) else (some false))) = some r := H
    have A27 := Aside0.mk A270
    clear A270
    replace H := Option.bind_eq_some_iff.mp H
    obtain ⟨t145, A280, H⟩ := H
    replace H : (if t145 = true then ((laws_toOcc.f k a1_0 a1_1 l1_2).bind fun bt146 => ((laws_eqOcc.f k t127 t128 t129 bt146.1 bt146.2.1 bt146.2.2).bind fun t151 => (if t151 = true then ((laws_markOcc.f k t121 t122 t123 1).bind fun bt152 => ((laws_markOcc.f k t127 t128 t129 bt152.1).bind fun bt154 => (if bt154.1 < 0 then (laws_FnExactOccJoin.j0 k true a0_0 a0_1 l0_2 a1_0 a1_1 l1_2 t115 t116 t117 t133 t134 t135) else ((laws_eqOcc.f k t133 t134 t135 t115 t116 t117).bind fun t156 => (laws_FnExactOccJoin.j0 k (!t156) a0_0 a0_1 l0_2 a1_0 a1_1 l1_2 t115 t116 t117 t133 t134 t135))))) else (some false)))) else (some false)) = some r := H
    have A28 := Aside0.mk A280
    clear A280
    by_cases c29 : t145 = true
    ·subst c29
     have H1 : ((laws_toOcc.f k a1_0 a1_1 l1_2).bind fun bt146 => ((laws_eqOcc.f k t127 t128 t129 bt146.1 bt146.2.1 bt146.2.2).bind fun t151 => (if t151 = true then ((laws_markOcc.f k t121 t122 t123 1).bind fun bt152 => ((laws_markOcc.f k t127 t128 t129 bt152.1).bind fun bt154 => (if bt154.1 < 0 then (laws_FnExactOccJoin.j0 k true a0_0 a0_1 l0_2 a1_0 a1_1 l1_2 t115 t116 t117 t133 t134 t135) else ((laws_eqOcc.f k t133 t134 t135 t115 t116 t117).bind fun t156 => (laws_FnExactOccJoin.j0 k (!t156) a0_0 a0_1 l0_2 a1_0 a1_1 l1_2 t115 t116 t117 t133 t134 t135))))) else (some false)))) = some r := by rw [if_pos rfl] at H;exact H
     clear H
     have H := H1
     clear H1
     replace H := Option.bind_eq_some_iff.mp H
     obtain ⟨⟨t146, t147, t148⟩, A300, H⟩ := H
     replace H : ((laws_eqOcc.f k t127 t128 t129 t146 t147 t148).bind fun t151 => (if t151 = true then ((laws_markOcc.f k t121 t122 t123 1).bind fun bt152 => ((laws_markOcc.f k t127 t128 t129 bt152.1).bind fun bt154 => (if bt154.1 < 0 then (laws_FnExactOccJoin.j0 k true a0_0 a0_1 l0_2 a1_0 a1_1 l1_2 t115 t116 t117 t133 t134 t135) else ((laws_eqOcc.f k t133 t134 t135 t115 t116 t117).bind fun t156 => (laws_FnExactOccJoin.j0 k (!t156) a0_0 a0_1 l0_2 a1_0 a1_1 l1_2 t115 t116 t117 t133 t134 t135))))) else (some false))) = some r := H
     have A30 := Aside0.mk A300
     clear A300
     replace H := Option.bind_eq_some_iff.mp H
     obtain ⟨t151, A310, H⟩ := H
     replace H : (if t151 = true then ((laws_markOcc.f k t121 t122 t123 1).bind fun bt152 => ((laws_markOcc.f k t127 t128 t129 bt152.1).bind fun bt154 => (if bt154.1 < 0 then (laws_FnExactOccJoin.j0 k true a0_0 a0_1 l0_2 a1_0 a1_1 l1_2 t115 t116 t117 t133 t134 t135) else ((laws_eqOcc.f k t133 t134 t135 t115 t116 t117).bind fun t156 => (laws_FnExactOccJoin.j0 k (!t156) a0_0 a0_1 l0_2 a1_0 a1_1 l1_2 t115 t116 t117 t133 t134 t135))))) else (some false)) = some r := H
     have A31 := Aside0.mk A310
     clear A310
     by_cases c32 : t151 = true
     ·subst c32
      have H1 : ((laws_markOcc.f k t121 t122 t123 1).bind fun bt152 => ((laws_markOcc.f k t127 t128 t129 bt152.1).bind fun bt154 => (if bt154.1 < 0 then (laws_FnExactOccJoin.j0 k true a0_0 a0_1 l0_2 a1_0 a1_1 l1_2 t115 t116 t117 t133 t134 t135) else ((laws_eqOcc.f k t133 t134 t135 t115 t116 t117).bind fun t156 => (laws_FnExactOccJoin.j0 k (!t156) a0_0 a0_1 l0_2 a1_0 a1_1 l1_2 t115 t116 t117 t133 t134 t135))))) = some r := by rw [if_pos rfl] at H;exact H
      clear H
      have H := H1
      clear H1
      replace H := Option.bind_eq_some_iff.mp H
      obtain ⟨⟨t152, t153⟩, A330, H⟩ := H
      replace H : ((laws_markOcc.f k t127 t128 t129 t152).bind fun bt154 => (if bt154.1 < 0 then (laws_FnExactOccJoin.j0 k true a0_0 a0_1 l0_2 a1_0 a1_1 l1_2 t115 t116 t117 t133 t134 t135) else ((laws_eqOcc.f k t133 t134 t135 t115 t116 t117).bind fun t156 => (laws_FnExactOccJoin.j0 k (!t156) a0_0 a0_1 l0_2 a1_0 a1_1 l1_2 t115 t116 t117 t133 t134 t135)))) = some r := H
      have A33 := Aside0.mk A330
      clear A330
      replace H := Option.bind_eq_some_iff.mp H
      obtain ⟨⟨t154, t155⟩, A340, H⟩ := H
      replace H : (if t154 < 0 then (laws_FnExactOccJoin.j0 k true a0_0 a0_1 l0_2 a1_0 a1_1 l1_2 t115 t116 t117 t133 t134 t135) else ((laws_eqOcc.f k t133 t134 t135 t115 t116 t117).bind fun t156 => (laws_FnExactOccJoin.j0 k (!t156) a0_0 a0_1 l0_2 a1_0 a1_1 l1_2 t115 t116 t117 t133 t134 t135))) = some r := H
      have A34 := Aside0.mk A340
      clear A340
      have HC35 := Aside0.mk H
      clear H
      go_enter Try.func11, Try.ntmps11
      try go_wp2_with (first | ((with_reducible refine gate_dst (N := 2) rfl ?_);refine box_event ?hg (N := 2) ?hd (cs := #[.int .i64 a0_0, .int .i64 a0_1, .slice A0_2 l0_2.length c0_2]) (t := 24) ?hr ?_;(case hd => rfl);(case hg => rfl);(case hr => first | (go_simp;done) | (go_simp;rfl));intro gb101 hg w36 hbox hb;have BK101 := Aside0.mk (hbox);have GW101 := Aside0.mk ((by rw [hg];exact (below_size (by repeat (first | (with_reducible first | exact HB.out | apply below_alloc | apply pw_below_drewN | apply below_drew1) | exact HB.out))) : w.heap.size ≤ gb101));have GE101 := Aside0.mk ((by rw [hg];exact (below_size (by repeat (first | (with_reducible first | exact HB.out | apply below_alloc | apply pw_below_drewN | apply below_drew1) | exact HB.out))) : w.heap.size ≤ gb101));replace HB := Aside0.mk (below_step (by repeat (first | (with_reducible first | exact HB.out | apply below_alloc | apply pw_below_drewN | apply below_drew1) | exact HB.out)) hb);clear hb hbox hg) | ((with_reducible refine gate_dst (N := 3) rfl ?_);refine box_event ?hg (N := 3) ?hd (cs := #[.int .i64 a1_0, .int .i64 a1_1, .slice A1_2 l1_2.length c1_2]) (t := 24) ?hr ?_;(case hd => rfl);(case hg => rfl);(case hr => first | (go_simp;done) | (go_simp;rfl));intro gb102 hg w37 hbox hb;have BK102 := Aside0.mk (hbox);have GW102 := Aside0.mk ((by rw [hg];exact (below_size (by repeat (first | (with_reducible first | exact HB.out | apply below_alloc | apply pw_below_drewN | apply below_drew1 | refine below_set ?_ GE101.out) | exact HB.out))) : w.heap.size ≤ gb102));have GE102 := Aside0.mk ((by rw [hg];exact (below_size (by repeat (first | (with_reducible first | exact HB.out | apply below_alloc | apply pw_below_drewN | apply below_drew1 | refine below_set ?_ GE101.out) | exact HB.out))) : w.heap.size ≤ gb102));replace HB := Aside0.mk (below_step (by repeat (first | (with_reducible first | exact HB.out | apply below_alloc | apply pw_below_drewN | apply below_drew1 | refine below_set ?_ GE101.out) | exact HB.out)) hb);have NB101_102 := Aside0.mk ((by rw [hg];exact Nat.ne_of_lt (blk_lt BK101.out) : gb101 ≠ gb102));have NB102_101 := Aside0.mk ((by rw [hg];exact Nat.ne_of_gt (blk_lt BK101.out) : gb102 ≠ gb101));replace BK101 := Aside0.mk (blk_below BK101.out hb);clear hb hbox hg;have hnb38 := NB101_102.out;have hnc38 := NB102_101.out;obtain ⟨hcz39_0, hcz39_1, hcz39_2, hfz39_0, hfz39_1, hfz39_2⟩ := bx3 BK101.out) | ((with_reducible refine gate_callee (f := 18) rfl ?_);refine goesL_ (some 16) rfl rfl Try.func18 (by kernel_rfl) rfl #[.agg #[.int .i64 a0_0, .int .i64 a0_1, .slice A0_2 l0_2.length c0_2], .int .i64 1048576] rfl (by (try simp only [List.map_toArray, List.map_cons, List.map_nil]);first | done | rfl | (simp only [List.length_drop, List.length_take];rfl)) ?_;(with_reducible refine (laws_szOcc.calls a0_0 a0_1 _ _ l0_2 1048576 t103 _ ?side1 ?side2 A3.out).mono ?_);(case side1 => repeat (first | exact (Kd.C_below HR0_2.out HB.out) | (with_reducible refine Kd.C_alloc ?_ _) | (with_reducible refine Kd.C_drewN ?_ _) | (with_reducible refine Kd.C_drew ?_)));(case side2 => exact HC0_2.out);rintro e w40 ⟨rfl, hb⟩;refine ⟨_, rfl, ?_⟩;replace BK101 := Aside0.mk (blk_below BK101.out hb);replace BK102 := Aside0.mk (blk_below BK102.out hb);replace HB := Aside0.mk (below_step (by repeat (first | (with_reducible first | exact HB.out | apply below_alloc | apply pw_below_drewN | apply below_drew1 | refine below_set ?_ GE101.out | refine below_set ?_ GE102.out) | exact HB.out)) hb);(try clear hb);(try clear hb2);(try clear hk);(try clear hi);obtain ⟨hcz41_0, hcz41_1, hcz41_2, hfz41_0, hfz41_1, hfz41_2⟩ := bx3 BK102.out) | ((with_reducible refine gate_callee (f := 18) rfl ?_);refine goesL_ (some 21) rfl rfl Try.func18 (by kernel_rfl) rfl #[.agg #[.int .i64 a1_0, .int .i64 a1_1, .slice A1_2 l1_2.length c1_2], .int .i64 t103] rfl (by (try simp only [List.map_toArray, List.map_cons, List.map_nil]);first | done | rfl | (simp only [List.length_drop, List.length_take];rfl)) ?_;(with_reducible refine (laws_szOcc.calls a1_0 a1_1 _ _ l1_2 t103 t104 _ ?side1 ?side2 A10.out).mono ?_);(case side1 => repeat (first | exact (Kd.C_below HR1_2.out HB.out) | (with_reducible refine Kd.C_alloc ?_ _) | (with_reducible refine Kd.C_drewN ?_ _) | (with_reducible refine Kd.C_drew ?_)));(case side2 => exact HC1_2.out);rintro e w42 ⟨rfl, hb⟩;refine ⟨_, rfl, ?_⟩;replace BK101 := Aside0.mk (blk_below BK101.out hb);replace BK102 := Aside0.mk (blk_below BK102.out hb);replace HB := Aside0.mk (below_step (by repeat (first | (with_reducible first | exact HB.out | apply below_alloc | apply pw_below_drewN | apply below_drew1 | refine below_set ?_ GE101.out | refine below_set ?_ GE102.out) | exact HB.out)) hb);(try clear hb);(try clear hb2);(try clear hk);(try clear hi)))
      replace BK101 := Aside0.mk (blk_drew BK101.out)
      replace BK102 := Aside0.mk (blk_drew BK102.out)
      replace HB := Aside0.mk (below_drew1 HB.out)
      refine start_ (n := 7) (S := fun w' => w'.cell? ⟨gb101, 0, none⟩ = some (.int .i64 a0_0) ∧ w'.cell? ⟨gb101, 1, none⟩ = some (.int .i64 a0_1) ∧ w'.cell? ⟨gb101, 2, none⟩ = some (.slice A0_2 l0_2.length c0_2) ∧ w'.cell? ⟨gb102, 0, none⟩ = some (.int .i64 a1_0) ∧ w'.cell? ⟨gb102, 1, none⟩ = some (.int .i64 a1_1) ∧ w'.cell? ⟨gb102, 2, none⟩ = some (.slice A1_2 l1_2.length c1_2)) (ds := []) #[false, false, false, false, false, false, false] (by kernel_rfl) rfl rfl ⟨(blk_cell BK101.out 0).trans rfl, (blk_cell BK101.out 1).trans rfl, (blk_cell BK101.out 2).trans rfl, (blk_cell BK102.out 0).trans rfl, (blk_cell BK102.out 1).trans rfl, (blk_cell BK102.out 2).trans rfl⟩ (fun hHeld => ?_)
      generalize w42.drew = w43 at BK101 BK102 HB hHeld ⊢
      refine take_ (i := 0) (N := some 24) (v := ?_) (a' := ?_) #[true, false, false, false, false, false, false] rfl rfl (by kernel_rfl) (fun _ _ _ h => h) (Or.inl ⟨by rfl, ?_⟩) hHeld ?_ ?_
      rotate_left
      ·rintro w' ⟨s0, s1, s2, s3, s4, s5⟩
       go_simp
       with_reducible rfl
      rotate_left
      ·simp only [Act.put, List.setIfInBounds_toArray, List.set_cons_zero, List.set_cons_succ, i64_w, i32_w]
       rfl
      refine take_ (i := 2) (N := some 26) (v := ?_) (a' := ?_) #[true, false, true, false, false, false, false] rfl rfl (by kernel_rfl) (fun _ _ _ h => h) (Or.inl ⟨by rfl, ?_⟩) hHeld ?_ ?_
      rotate_left
      ·rintro w' ⟨s0, s1, s2, s3, s4, s5⟩
       go_simp
       with_reducible rfl
      rotate_left
      ·simp only [Act.put, List.setIfInBounds_toArray, List.set_cons_zero, List.set_cons_succ, i64_w, i32_w]
       rfl
      refine join_ (σ := Value × Value × Value × Nat) 1 #[true, true, true, true, true, true, false] (fun s_ => [(25, .agg #[.int .i64 t105, .int .i64 t106, s_.1]), (27, .agg #[.int .i64 t110, .int .i64 t111, s_.2.1]), (28, .agg #[.int .i64 t115, .int .i64 t116, s_.2.2.1]), (6, .pointer (some ⟨s_.2.2.2, 0, none⟩))]) (fun s_ w' => (w'.cell? ⟨gb101, 0, none⟩ = some (.int .i64 a0_0) ∧ w'.cell? ⟨gb101, 1, none⟩ = some (.int .i64 a0_1) ∧ w'.cell? ⟨gb101, 2, none⟩ = some (.slice A0_2 l0_2.length c0_2) ∧ w'.cell? ⟨gb102, 0, none⟩ = some (.int .i64 a1_0) ∧ w'.cell? ⟨gb102, 1, none⟩ = some (.int .i64 a1_1) ∧ w'.cell? ⟨gb102, 2, none⟩ = some (.slice A1_2 l1_2.length c1_2)) ∧ (Kd.R (Kd.int .i64) 3 w' w.heap.size (fun k_ => some k_ ≠ (s_.2.1 : Value).ownBlock ∧ some k_ ≠ (s_.2.2.1 : Value).ownBlock) s_.1 t107) ∧ (Kd.R (Kd.int .i64) 3 w' w.heap.size (fun k_ => some k_ ≠ (s_.1 : Value).ownBlock ∧ some k_ ≠ (s_.2.2.1 : Value).ownBlock) s_.2.1 t112) ∧ (Kd.R (Kd.int .i64) 3 w' w.heap.size (fun k_ => some k_ ≠ (s_.1 : Value).ownBlock ∧ some k_ ≠ (s_.2.1 : Value).ownBlock) s_.2.2.1 t117) ∧ (w'.heap[gb101]? = some (.cells #[.int .i64 a0_0, .int .i64 a0_1, .slice A0_2 l0_2.length c0_2] 24 (0, 0))) ∧ (w'.heap[gb102]? = some (.cells #[.int .i64 a1_0, .int .i64 a1_1, .slice A1_2 l1_2.length c1_2] 24 (0, 0))) ∧ (w'.heap[s_.2.2.2]? = some (.cells #[.int .i64 0, .int .i64 0, .slice none 0 0] 27 (0, 0))) ∧ (w.heap.size ≤ s_.2.2.2) ∧ (w.heap.size ≤ s_.2.2.2) ∧ (gb101 ≠ s_.2.2.2) ∧ (s_.2.2.2 ≠ gb101) ∧ (gb102 ≠ s_.2.2.2) ∧ (s_.2.2.2 ≠ gb102) ∧ (Below w.heap.size w w')) ?_ ?_
      rotate_left
      ·intro hCont
       refine two_ (i := 1) (j := 5) (Ni := some 25) (Nj := some 6) #[true, true, true, false, false, false, false] #[true, false, true, false, false, true, false] rfl rfl rfl rfl (by kernel_rfl) (by decide) (by decide) (fun K hK => ?_) (fun K hK => ?_)
       ·skip
        refine goes_ Try.func20 (by kernel_rfl) rfl #[.agg #[.int .i64 a0_0, .int .i64 a0_1, .slice A0_2 l0_2.length c0_2]] (by rfl) rfl rfl (by (try simp only [List.map_toArray, List.map_cons, List.map_nil]);first | done | rfl | (simp only [List.length_drop, List.length_take];rfl)) ?_
        with_reducible refine (laws_toOcc.calls k a0_0 a0_1 _ _ l0_2 t105 t106 t107 _ ?side1 ?side2 A19.out).mono ?_
        (case side1 => repeat (first | exact (Kd.C_below HR0_2.out HB.out) | (with_reducible refine Kd.C_alloc ?_ _) | (with_reducible refine Kd.C_drewN ?_ _) | (with_reducible refine Kd.C_drew ?_)))
        (case side2 => exact HC0_2.out)
        rintro e w44 ⟨v108, rfl, ho0, hb⟩
        refine ⟨_, rfl, ?_⟩
        have HO109 := Aside0.mk (Kd.R_lower ho0 (below_size (by repeat (first | (with_reducible first | exact HB.out | apply below_alloc | apply pw_below_drewN | apply below_drew1 | refine below_set ?_ GE101.out | refine below_set ?_ GE102.out) | exact HB.out))))
        replace BK101 := Aside0.mk (blk_below BK101.out hb)
        replace BK102 := Aside0.mk (blk_below BK102.out hb)
        replace HB := Aside0.mk (below_step (by repeat (first | (with_reducible first | exact HB.out | apply below_alloc | apply pw_below_drewN | apply below_drew1 | refine below_set ?_ GE101.out | refine below_set ?_ GE102.out) | exact HB.out)) hb)
        (try clear hb)
        (try clear hb2)
        (try clear hk)
        (try clear hi)
        (try clear ho0)
        refine hK.out _ _ ⟨(blk_cell BK101.out 0).trans rfl, (blk_cell BK101.out 1).trans rfl, (blk_cell BK101.out 2).trans rfl, (blk_cell BK102.out 0).trans rfl, (blk_cell BK102.out 1).trans rfl, (blk_cell BK102.out 2).trans rfl⟩ (fun hHeld => ?_)
        clear hK K
        refine norm_ (a' := ?_) ?_ ?_
        rotate_left
        ·show Act.put _ (some 25) _ = _
         simp only [Act.put, List.setIfInBounds_toArray, List.set_cons_zero, List.set_cons_succ, i64_w, i32_w]
         rfl
        refine two_ (i := 3) (j := 5) (Ni := some 27) (Nj := some 6) #[true, true, true, true, false, false, false] #[true, true, true, false, false, true, false] rfl rfl rfl rfl (by kernel_rfl) (by decide) (by decide) (fun K hK => ?_) (fun K hK => ?_)
        ·skip
         refine goes_ Try.func20 (by kernel_rfl) rfl #[.agg #[.int .i64 a1_0, .int .i64 a1_1, .slice A1_2 l1_2.length c1_2]] (by rfl) rfl rfl (by (try simp only [List.map_toArray, List.map_cons, List.map_nil]);first | done | rfl | (simp only [List.length_drop, List.length_take];rfl)) ?_
         with_reducible refine (laws_toOcc.calls k a1_0 a1_1 _ _ l1_2 t110 t111 t112 _ ?side1 ?side2 A20.out).mono ?_
         (case side1 => repeat (first | exact (Kd.C_below HR1_2.out HB.out) | (with_reducible refine Kd.C_alloc ?_ _) | (with_reducible refine Kd.C_drewN ?_ _) | (with_reducible refine Kd.C_drew ?_)))
         (case side2 => exact HC1_2.out)
         rintro e w45 ⟨v113, rfl, ho0, hb⟩
         refine ⟨_, rfl, ?_⟩
         have HO114 := Aside0.mk (Kd.R_lower (Kd.R_new' ho0 (Kd.R_lt (by exact HO109.out))) (below_size (by repeat (first | (with_reducible first | exact HB.out | apply below_alloc | apply pw_below_drewN | apply below_drew1 | refine below_set ?_ GE101.out | refine below_set ?_ GE102.out) | exact HB.out))))
         replace HO109 := Aside0.mk (Kd.R_elder' (by exact HO109.out) (Kd.R_base ho0) hb)
         replace BK101 := Aside0.mk (blk_below BK101.out hb)
         replace BK102 := Aside0.mk (blk_below BK102.out hb)
         replace HB := Aside0.mk (below_step (by repeat (first | (with_reducible first | exact HB.out | apply below_alloc | apply pw_below_drewN | apply below_drew1 | refine below_set ?_ GE101.out | refine below_set ?_ GE102.out) | exact HB.out)) hb)
         (try clear hb)
         (try clear hb2)
         (try clear hk)
         (try clear hi)
         (try clear ho0)
         obtain ⟨Ao46, co46, eo46⟩ := Kd.R_slice HO109.out
         (first | subst eo46 | (injection eo46 with f1_ f2_ f3_;have f4_ := f1_.symm;have f5_ := f3_.symm;clear f1_ f2_ f3_;subst f4_;subst f5_))
         obtain ⟨Ao47, co47, eo47⟩ := Kd.R_slice HO114.out
         (first | subst eo47 | (injection eo47 with f1_ f2_ f3_;have f4_ := f1_.symm;have f5_ := f3_.symm;clear f1_ f2_ f3_;subst f4_;subst f5_))
         refine hK.out _ _ ⟨(blk_cell BK101.out 0).trans rfl, (blk_cell BK101.out 1).trans rfl, (blk_cell BK101.out 2).trans rfl, (blk_cell BK102.out 0).trans rfl, (blk_cell BK102.out 1).trans rfl, (blk_cell BK102.out 2).trans rfl⟩ (fun hHeld => ?_)
         clear hK K
         refine norm_ (a' := ?_) ?_ ?_
         rotate_left
         ·show Act.put _ (some 27) _ = _
          simp only [Act.put, List.setIfInBounds_toArray, List.set_cons_zero, List.set_cons_succ, i64_w, i32_w]
          rfl
         refine two_ (i := 4) (j := 5) (Ni := some 28) (Nj := some 6) #[true, true, true, true, true, false, false] #[true, true, true, true, false, true, false] rfl rfl rfl rfl (by kernel_rfl) (by decide) (by decide) (fun K hK => ?_) (fun K hK => ?_)
         ·skip
          refine goes_ Try.func48 (by kernel_rfl) rfl #[.agg #[.int .i64 t105, .int .i64 t106, .slice Ao46 t107.length co46], .agg #[.int .i64 t110, .int .i64 t111, .slice Ao47 t112.length co47]] (by rfl) rfl rfl (by (try simp only [List.map_toArray, List.map_cons, List.map_nil]);first | done | rfl | (simp only [List.length_drop, List.length_take];rfl)) ?_
          with_reducible refine (spec_OccJoin.calls k t105 t106 _ _ t107 t110 t111 _ _ t112 t115 t116 t117 _ ?side1 ?side2 ?side3 ?side4 A21.out).mono ?_
          (case side1 => repeat (first | exact (Kd.R_reads' HO109.out).2.2 | (with_reducible refine Kd.C_alloc ?_ _) | (with_reducible refine Kd.C_drewN ?_ _) | (with_reducible refine Kd.C_drew ?_)))
          (case side2 => exact (Kd.R_reads' HO109.out).2.1)
          (case side3 => repeat (first | exact (Kd.R_reads' HO114.out).2.2 | (with_reducible refine Kd.C_alloc ?_ _) | (with_reducible refine Kd.C_drewN ?_ _) | (with_reducible refine Kd.C_drew ?_)))
          (case side4 => exact (Kd.R_reads' HO114.out).2.1)
          rintro e w48 ⟨v118, rfl, ho0, hb⟩
          refine ⟨_, rfl, ?_⟩
          have HO119 := Aside0.mk (Kd.R_lower (Kd.R_new' (Kd.R_new' ho0 (Kd.R_lt (by exact HO109.out))) (Kd.R_lt (by exact HO114.out))) (below_size (by repeat (first | (with_reducible first | exact HB.out | apply below_alloc | apply pw_below_drewN | apply below_drew1 | refine below_set ?_ GE101.out | refine below_set ?_ GE102.out) | exact HB.out))))
          replace HO109 := Aside0.mk (Kd.R_elder' (by exact HO109.out) (Kd.R_base ho0) hb)
          replace HO114 := Aside0.mk (Kd.R_elder' (by exact HO114.out) (Kd.R_base ho0) hb)
          replace BK101 := Aside0.mk (blk_below BK101.out hb)
          replace BK102 := Aside0.mk (blk_below BK102.out hb)
          replace HB := Aside0.mk (below_step (by repeat (first | (with_reducible first | exact HB.out | apply below_alloc | apply pw_below_drewN | apply below_drew1 | refine below_set ?_ GE101.out | refine below_set ?_ GE102.out) | exact HB.out)) hb)
          (try clear hb)
          (try clear hb2)
          (try clear hk)
          (try clear hi)
          (try clear ho0)
          refine hK.out _ _ ⟨(blk_cell BK101.out 0).trans rfl, (blk_cell BK101.out 1).trans rfl, (blk_cell BK101.out 2).trans rfl, (blk_cell BK102.out 0).trans rfl, (blk_cell BK102.out 1).trans rfl, (blk_cell BK102.out 2).trans rfl⟩ (fun hHeld => ?_)
          clear hK K
          refine norm_ (a' := ?_) ?_ ?_
          rotate_left
          ·show Act.put _ (some 28) _ = _
           simp only [Act.put, List.setIfInBounds_toArray, List.set_cons_zero, List.set_cons_succ, i64_w, i32_w]
           rfl
          refine one_ (i := 5) (N := some 6) #[true, true, true, true, true, true, false] rfl rfl (by kernel_rfl) (by decide) (fun K hK => ?_)
          refine box_step ?hg (N := 6) ?hd (cs := #[.int .i64 0, .int .i64 0, .slice none 0 0]) (t := 27) ?hr ?_;(case hd => rfl);(case hg => rfl);(case hr => first | (go_simp;done) | (go_simp;rfl))
          intro gb120 hg w49 hbox hb
          replace HO109 := Aside0.mk (Kd.R_below (by exact HO109.out) hb)
          replace HO114 := Aside0.mk (Kd.R_below (by exact HO114.out) hb)
          replace HO119 := Aside0.mk (Kd.R_below (by exact HO119.out) hb)
          have BK120 := Aside0.mk (hbox)
          have GW120 := Aside0.mk ((by rw [hg];exact (below_size (by repeat (first | (with_reducible first | exact HB.out | apply below_alloc | apply pw_below_drewN | apply below_drew1 | refine below_set ?_ GE101.out | refine below_set ?_ GE102.out) | exact HB.out))) : w.heap.size ≤ gb120))
          have GE120 := Aside0.mk ((by rw [hg];exact (below_size (by repeat (first | (with_reducible first | exact HB.out | apply below_alloc | apply pw_below_drewN | apply below_drew1 | refine below_set ?_ GE101.out | refine below_set ?_ GE102.out) | exact HB.out))) : w.heap.size ≤ gb120))
          replace HB := Aside0.mk (below_step (by repeat (first | (with_reducible first | exact HB.out | apply below_alloc | apply pw_below_drewN | apply below_drew1 | refine below_set ?_ GE101.out | refine below_set ?_ GE102.out) | exact HB.out)) hb)
          have NB101_120 := Aside0.mk ((by rw [hg];exact Nat.ne_of_lt (blk_lt BK101.out) : gb101 ≠ gb120))
          have NB120_101 := Aside0.mk ((by rw [hg];exact Nat.ne_of_gt (blk_lt BK101.out) : gb120 ≠ gb101))
          replace BK101 := Aside0.mk (blk_below BK101.out hb)
          have NB102_120 := Aside0.mk ((by rw [hg];exact Nat.ne_of_lt (blk_lt BK102.out) : gb102 ≠ gb120))
          have NB120_102 := Aside0.mk ((by rw [hg];exact Nat.ne_of_gt (blk_lt BK102.out) : gb120 ≠ gb102))
          replace BK102 := Aside0.mk (blk_below BK102.out hb)
          clear hb hbox hg
          refine hK.out _ _ ⟨(blk_cell BK101.out 0).trans rfl, (blk_cell BK101.out 1).trans rfl, (blk_cell BK101.out 2).trans rfl, (blk_cell BK102.out 0).trans rfl, (blk_cell BK102.out 1).trans rfl, (blk_cell BK102.out 2).trans rfl⟩ (fun hHeld => ?_)
          clear hK K
          refine norm_ (a' := ?_) ?_ ?_
          rotate_left
          ·show Act.put _ (some 6) _ = _
           simp only [Act.put, List.setIfInBounds_toArray, List.set_cons_zero, List.set_cons_succ, i64_w, i32_w]
           rfl
          exact norm_ (by simp only [putAll, Act.put, List.setIfInBounds_toArray, List.set_cons_zero, List.set_cons_succ]) (hCont (.slice Ao46 t107.length co46, .slice Ao47 t112.length co47, v118, gb120) _ ⟨hHeld, (by (with_reducible repeat (first | apply Kd.R_alloc | apply Kd.R_drewN | apply Kd.R_drew));exact Kd.R_mono HO109.out (fun _ hk => ⟨hk.1.2, hk.2⟩)), (by (with_reducible repeat (first | apply Kd.R_alloc | apply Kd.R_drewN | apply Kd.R_drew));exact Kd.R_mono HO114.out (fun _ hk => ⟨hk.1.2, hk.2⟩)), (by (with_reducible repeat (first | apply Kd.R_alloc | apply Kd.R_drewN | apply Kd.R_drew));exact Kd.R_mono HO119.out (fun _ hk => ⟨hk.1.2, hk.2⟩)), (by (with_reducible repeat (first | refine blk_drewN ?_ _ | refine blk_drew ?_ | refine blk_alloc ?_ _));exact BK101.out), (by (with_reducible repeat (first | refine blk_drewN ?_ _ | refine blk_drew ?_ | refine blk_alloc ?_ _));exact BK102.out), (by (with_reducible repeat (first | refine blk_drewN ?_ _ | refine blk_drew ?_ | refine blk_alloc ?_ _));exact BK120.out), GW120.out, GE120.out, NB101_120.out, NB120_101.out, NB102_120.out, NB120_102.out, (by repeat (first | (with_reducible first | exact HB.out | apply below_alloc | apply pw_below_drewN | apply below_drew1 | refine below_set ?_ GE101.out | refine below_set ?_ GE102.out | refine below_set ?_ GE120.out) | exact HB.out))⟩)
         ·skip
          refine box_step ?hg (N := 6) ?hd (cs := #[.int .i64 0, .int .i64 0, .slice none 0 0]) (t := 27) ?hr ?_;(case hd => rfl);(case hg => rfl);(case hr => first | (go_simp;done) | (go_simp;rfl))
          intro gb120 hg w46 hbox hb
          replace HO109 := Aside0.mk (Kd.R_below (by exact HO109.out) hb)
          replace HO114 := Aside0.mk (Kd.R_below (by exact HO114.out) hb)
          have BK120 := Aside0.mk (hbox)
          have GW120 := Aside0.mk ((by rw [hg];exact (below_size (by repeat (first | (with_reducible first | exact HB.out | apply below_alloc | apply pw_below_drewN | apply below_drew1 | refine below_set ?_ GE101.out | refine below_set ?_ GE102.out) | exact HB.out))) : w.heap.size ≤ gb120))
          have GE120 := Aside0.mk ((by rw [hg];exact (below_size (by repeat (first | (with_reducible first | exact HB.out | apply below_alloc | apply pw_below_drewN | apply below_drew1 | refine below_set ?_ GE101.out | refine below_set ?_ GE102.out) | exact HB.out))) : w.heap.size ≤ gb120))
          replace HB := Aside0.mk (below_step (by repeat (first | (with_reducible first | exact HB.out | apply below_alloc | apply pw_below_drewN | apply below_drew1 | refine below_set ?_ GE101.out | refine below_set ?_ GE102.out) | exact HB.out)) hb)
          have NB101_120 := Aside0.mk ((by rw [hg];exact Nat.ne_of_lt (blk_lt BK101.out) : gb101 ≠ gb120))
          have NB120_101 := Aside0.mk ((by rw [hg];exact Nat.ne_of_gt (blk_lt BK101.out) : gb120 ≠ gb101))
          replace BK101 := Aside0.mk (blk_below BK101.out hb)
          have NB102_120 := Aside0.mk ((by rw [hg];exact Nat.ne_of_lt (blk_lt BK102.out) : gb102 ≠ gb120))
          have NB120_102 := Aside0.mk ((by rw [hg];exact Nat.ne_of_gt (blk_lt BK102.out) : gb120 ≠ gb102))
          replace BK102 := Aside0.mk (blk_below BK102.out hb)
          clear hb hbox hg
          obtain ⟨Ao47, co47, eo47⟩ := Kd.R_slice HO109.out
          (first | subst eo47 | (injection eo47 with f1_ f2_ f3_;have f4_ := f1_.symm;have f5_ := f3_.symm;clear f1_ f2_ f3_;subst f4_;subst f5_))
          obtain ⟨Ao48, co48, eo48⟩ := Kd.R_slice HO114.out
          (first | subst eo48 | (injection eo48 with f1_ f2_ f3_;have f4_ := f1_.symm;have f5_ := f3_.symm;clear f1_ f2_ f3_;subst f4_;subst f5_))
          refine hK.out _ _ ⟨(blk_cell BK101.out 0).trans rfl, (blk_cell BK101.out 1).trans rfl, (blk_cell BK101.out 2).trans rfl, (blk_cell BK102.out 0).trans rfl, (blk_cell BK102.out 1).trans rfl, (blk_cell BK102.out 2).trans rfl⟩ (fun hHeld => ?_)
          clear hK K
          refine norm_ (a' := ?_) ?_ ?_
          rotate_left
          ·show Act.put _ (some 6) _ = _
           simp only [Act.put, List.setIfInBounds_toArray, List.set_cons_zero, List.set_cons_succ, i64_w, i32_w]
           rfl
          refine one_ (i := 4) (N := some 28) #[true, true, true, true, true, true, false] rfl rfl (by kernel_rfl) (by decide) (fun K hK => ?_)
          refine goes_ Try.func48 (by kernel_rfl) rfl #[.agg #[.int .i64 t105, .int .i64 t106, .slice Ao47 t107.length co47], .agg #[.int .i64 t110, .int .i64 t111, .slice Ao48 t112.length co48]] (by rfl) rfl rfl (by (try simp only [List.map_toArray, List.map_cons, List.map_nil]);first | done | rfl | (simp only [List.length_drop, List.length_take];rfl)) ?_
          with_reducible refine (spec_OccJoin.calls k t105 t106 _ _ t107 t110 t111 _ _ t112 t115 t116 t117 _ ?side1 ?side2 ?side3 ?side4 A21.out).mono ?_
          (case side1 => repeat (first | exact (Kd.R_reads' HO109.out).2.2 | (with_reducible refine Kd.C_alloc ?_ _) | (with_reducible refine Kd.C_drewN ?_ _) | (with_reducible refine Kd.C_drew ?_)))
          (case side2 => exact (Kd.R_reads' HO109.out).2.1)
          (case side3 => repeat (first | exact (Kd.R_reads' HO114.out).2.2 | (with_reducible refine Kd.C_alloc ?_ _) | (with_reducible refine Kd.C_drewN ?_ _) | (with_reducible refine Kd.C_drew ?_)))
          (case side4 => exact (Kd.R_reads' HO114.out).2.1)
          rintro e w49 ⟨v118, rfl, ho0, hb⟩
          refine ⟨_, rfl, ?_⟩
          have HO119 := Aside0.mk (Kd.R_lower (Kd.R_new' (Kd.R_new' ho0 (Kd.R_lt (by exact HO109.out))) (Kd.R_lt (by exact HO114.out))) (below_size (by repeat (first | (with_reducible first | exact HB.out | apply below_alloc | apply pw_below_drewN | apply below_drew1 | refine below_set ?_ GE101.out | refine below_set ?_ GE102.out | refine below_set ?_ GE120.out) | exact HB.out))))
          replace HO109 := Aside0.mk (Kd.R_elder' (by exact HO109.out) (Kd.R_base ho0) hb)
          replace HO114 := Aside0.mk (Kd.R_elder' (by exact HO114.out) (Kd.R_base ho0) hb)
          replace BK101 := Aside0.mk (blk_below BK101.out hb)
          replace BK102 := Aside0.mk (blk_below BK102.out hb)
          replace BK120 := Aside0.mk (blk_below BK120.out hb)
          replace HB := Aside0.mk (below_step (by repeat (first | (with_reducible first | exact HB.out | apply below_alloc | apply pw_below_drewN | apply below_drew1 | refine below_set ?_ GE101.out | refine below_set ?_ GE102.out | refine below_set ?_ GE120.out) | exact HB.out)) hb)
          (try clear hb)
          (try clear hb2)
          (try clear hk)
          (try clear hi)
          (try clear ho0)
          refine hK.out _ _ ⟨(blk_cell BK101.out 0).trans rfl, (blk_cell BK101.out 1).trans rfl, (blk_cell BK101.out 2).trans rfl, (blk_cell BK102.out 0).trans rfl, (blk_cell BK102.out 1).trans rfl, (blk_cell BK102.out 2).trans rfl⟩ (fun hHeld => ?_)
          clear hK K
          refine norm_ (a' := ?_) ?_ ?_
          rotate_left
          ·show Act.put _ (some 28) _ = _
           simp only [Act.put, List.setIfInBounds_toArray, List.set_cons_zero, List.set_cons_succ, i64_w, i32_w]
           rfl
          exact norm_ (by simp only [putAll, Act.put, List.setIfInBounds_toArray, List.set_cons_zero, List.set_cons_succ]) (hCont (.slice Ao47 t107.length co47, .slice Ao48 t112.length co48, v118, gb120) _ ⟨hHeld, (by (with_reducible repeat (first | apply Kd.R_alloc | apply Kd.R_drewN | apply Kd.R_drew));exact Kd.R_mono HO109.out (fun _ hk => ⟨hk.1.2, hk.2⟩)), (by (with_reducible repeat (first | apply Kd.R_alloc | apply Kd.R_drewN | apply Kd.R_drew));exact Kd.R_mono HO114.out (fun _ hk => ⟨hk.1.2, hk.2⟩)), (by (with_reducible repeat (first | apply Kd.R_alloc | apply Kd.R_drewN | apply Kd.R_drew));exact Kd.R_mono HO119.out (fun _ hk => ⟨hk.1.2, hk.2⟩)), (by (with_reducible repeat (first | refine blk_drewN ?_ _ | refine blk_drew ?_ | refine blk_alloc ?_ _));exact BK101.out), (by (with_reducible repeat (first | refine blk_drewN ?_ _ | refine blk_drew ?_ | refine blk_alloc ?_ _));exact BK102.out), (by (with_reducible repeat (first | refine blk_drewN ?_ _ | refine blk_drew ?_ | refine blk_alloc ?_ _));exact BK120.out), GW120.out, GE120.out, NB101_120.out, NB120_101.out, NB102_120.out, NB120_102.out, (by repeat (first | (with_reducible first | exact HB.out | apply below_alloc | apply pw_below_drewN | apply below_drew1 | refine below_set ?_ GE101.out | refine below_set ?_ GE102.out | refine below_set ?_ GE120.out) | exact HB.out))⟩)
        ·skip
         refine box_step ?hg (N := 6) ?hd (cs := #[.int .i64 0, .int .i64 0, .slice none 0 0]) (t := 27) ?hr ?_;(case hd => rfl);(case hg => rfl);(case hr => first | (go_simp;done) | (go_simp;rfl))
         intro gb120 hg w45 hbox hb
         replace HO109 := Aside0.mk (Kd.R_below (by exact HO109.out) hb)
         have BK120 := Aside0.mk (hbox)
         have GW120 := Aside0.mk ((by rw [hg];exact (below_size (by repeat (first | (with_reducible first | exact HB.out | apply below_alloc | apply pw_below_drewN | apply below_drew1 | refine below_set ?_ GE101.out | refine below_set ?_ GE102.out) | exact HB.out))) : w.heap.size ≤ gb120))
         have GE120 := Aside0.mk ((by rw [hg];exact (below_size (by repeat (first | (with_reducible first | exact HB.out | apply below_alloc | apply pw_below_drewN | apply below_drew1 | refine below_set ?_ GE101.out | refine below_set ?_ GE102.out) | exact HB.out))) : w.heap.size ≤ gb120))
         replace HB := Aside0.mk (below_step (by repeat (first | (with_reducible first | exact HB.out | apply below_alloc | apply pw_below_drewN | apply below_drew1 | refine below_set ?_ GE101.out | refine below_set ?_ GE102.out) | exact HB.out)) hb)
         have NB101_120 := Aside0.mk ((by rw [hg];exact Nat.ne_of_lt (blk_lt BK101.out) : gb101 ≠ gb120))
         have NB120_101 := Aside0.mk ((by rw [hg];exact Nat.ne_of_gt (blk_lt BK101.out) : gb120 ≠ gb101))
         replace BK101 := Aside0.mk (blk_below BK101.out hb)
         have NB102_120 := Aside0.mk ((by rw [hg];exact Nat.ne_of_lt (blk_lt BK102.out) : gb102 ≠ gb120))
         have NB120_102 := Aside0.mk ((by rw [hg];exact Nat.ne_of_gt (blk_lt BK102.out) : gb120 ≠ gb102))
         replace BK102 := Aside0.mk (blk_below BK102.out hb)
         clear hb hbox hg
         refine hK.out _ _ ⟨(blk_cell BK101.out 0).trans rfl, (blk_cell BK101.out 1).trans rfl, (blk_cell BK101.out 2).trans rfl, (blk_cell BK102.out 0).trans rfl, (blk_cell BK102.out 1).trans rfl, (blk_cell BK102.out 2).trans rfl⟩ (fun hHeld => ?_)
         clear hK K
         refine norm_ (a' := ?_) ?_ ?_
         rotate_left
         ·show Act.put _ (some 6) _ = _
          simp only [Act.put, List.setIfInBounds_toArray, List.set_cons_zero, List.set_cons_succ, i64_w, i32_w]
          rfl
         refine one_ (i := 3) (N := some 27) #[true, true, true, true, false, true, false] rfl rfl (by kernel_rfl) (by decide) (fun K hK => ?_)
         refine goes_ Try.func20 (by kernel_rfl) rfl #[.agg #[.int .i64 a1_0, .int .i64 a1_1, .slice A1_2 l1_2.length c1_2]] (by rfl) rfl rfl (by (try simp only [List.map_toArray, List.map_cons, List.map_nil]);first | done | rfl | (simp only [List.length_drop, List.length_take];rfl)) ?_
         with_reducible refine (laws_toOcc.calls k a1_0 a1_1 _ _ l1_2 t110 t111 t112 _ ?side1 ?side2 A20.out).mono ?_
         (case side1 => repeat (first | exact (Kd.C_below HR1_2.out HB.out) | (with_reducible refine Kd.C_alloc ?_ _) | (with_reducible refine Kd.C_drewN ?_ _) | (with_reducible refine Kd.C_drew ?_)))
         (case side2 => exact HC1_2.out)
         rintro e w46 ⟨v113, rfl, ho0, hb⟩
         refine ⟨_, rfl, ?_⟩
         have HO114 := Aside0.mk (Kd.R_lower (Kd.R_new' ho0 (Kd.R_lt (by exact HO109.out))) (below_size (by repeat (first | (with_reducible first | exact HB.out | apply below_alloc | apply pw_below_drewN | apply below_drew1 | refine below_set ?_ GE101.out | refine below_set ?_ GE102.out | refine below_set ?_ GE120.out) | exact HB.out))))
         replace HO109 := Aside0.mk (Kd.R_elder' (by exact HO109.out) (Kd.R_base ho0) hb)
         replace BK101 := Aside0.mk (blk_below BK101.out hb)
         replace BK102 := Aside0.mk (blk_below BK102.out hb)
         replace BK120 := Aside0.mk (blk_below BK120.out hb)
         replace HB := Aside0.mk (below_step (by repeat (first | (with_reducible first | exact HB.out | apply below_alloc | apply pw_below_drewN | apply below_drew1 | refine below_set ?_ GE101.out | refine below_set ?_ GE102.out | refine below_set ?_ GE120.out) | exact HB.out)) hb)
         (try clear hb)
         (try clear hb2)
         (try clear hk)
         (try clear hi)
         (try clear ho0)
         obtain ⟨Ao47, co47, eo47⟩ := Kd.R_slice HO109.out
         (first | subst eo47 | (injection eo47 with f1_ f2_ f3_;have f4_ := f1_.symm;have f5_ := f3_.symm;clear f1_ f2_ f3_;subst f4_;subst f5_))
         obtain ⟨Ao48, co48, eo48⟩ := Kd.R_slice HO114.out
         (first | subst eo48 | (injection eo48 with f1_ f2_ f3_;have f4_ := f1_.symm;have f5_ := f3_.symm;clear f1_ f2_ f3_;subst f4_;subst f5_))
         refine hK.out _ _ ⟨(blk_cell BK101.out 0).trans rfl, (blk_cell BK101.out 1).trans rfl, (blk_cell BK101.out 2).trans rfl, (blk_cell BK102.out 0).trans rfl, (blk_cell BK102.out 1).trans rfl, (blk_cell BK102.out 2).trans rfl⟩ (fun hHeld => ?_)
         clear hK K
         refine norm_ (a' := ?_) ?_ ?_
         rotate_left
         ·show Act.put _ (some 27) _ = _
          simp only [Act.put, List.setIfInBounds_toArray, List.set_cons_zero, List.set_cons_succ, i64_w, i32_w]
          rfl
         refine one_ (i := 4) (N := some 28) #[true, true, true, true, true, true, false] rfl rfl (by kernel_rfl) (by decide) (fun K hK => ?_)
         refine goes_ Try.func48 (by kernel_rfl) rfl #[.agg #[.int .i64 t105, .int .i64 t106, .slice Ao47 t107.length co47], .agg #[.int .i64 t110, .int .i64 t111, .slice Ao48 t112.length co48]] (by rfl) rfl rfl (by (try simp only [List.map_toArray, List.map_cons, List.map_nil]);first | done | rfl | (simp only [List.length_drop, List.length_take];rfl)) ?_
         with_reducible refine (spec_OccJoin.calls k t105 t106 _ _ t107 t110 t111 _ _ t112 t115 t116 t117 _ ?side1 ?side2 ?side3 ?side4 A21.out).mono ?_
         (case side1 => repeat (first | exact (Kd.R_reads' HO109.out).2.2 | (with_reducible refine Kd.C_alloc ?_ _) | (with_reducible refine Kd.C_drewN ?_ _) | (with_reducible refine Kd.C_drew ?_)))
         (case side2 => exact (Kd.R_reads' HO109.out).2.1)
         (case side3 => repeat (first | exact (Kd.R_reads' HO114.out).2.2 | (with_reducible refine Kd.C_alloc ?_ _) | (with_reducible refine Kd.C_drewN ?_ _) | (with_reducible refine Kd.C_drew ?_)))
         (case side4 => exact (Kd.R_reads' HO114.out).2.1)
         rintro e w49 ⟨v118, rfl, ho0, hb⟩
         refine ⟨_, rfl, ?_⟩
         have HO119 := Aside0.mk (Kd.R_lower (Kd.R_new' (Kd.R_new' ho0 (Kd.R_lt (by exact HO109.out))) (Kd.R_lt (by exact HO114.out))) (below_size (by repeat (first | (with_reducible first | exact HB.out | apply below_alloc | apply pw_below_drewN | apply below_drew1 | refine below_set ?_ GE101.out | refine below_set ?_ GE102.out | refine below_set ?_ GE120.out) | exact HB.out))))
         replace HO109 := Aside0.mk (Kd.R_elder' (by exact HO109.out) (Kd.R_base ho0) hb)
         replace HO114 := Aside0.mk (Kd.R_elder' (by exact HO114.out) (Kd.R_base ho0) hb)
         replace BK101 := Aside0.mk (blk_below BK101.out hb)
         replace BK102 := Aside0.mk (blk_below BK102.out hb)
         replace BK120 := Aside0.mk (blk_below BK120.out hb)
         replace HB := Aside0.mk (below_step (by repeat (first | (with_reducible first | exact HB.out | apply below_alloc | apply pw_below_drewN | apply below_drew1 | refine below_set ?_ GE101.out | refine below_set ?_ GE102.out | refine below_set ?_ GE120.out) | exact HB.out)) hb)
         (try clear hb)
         (try clear hb2)
         (try clear hk)
         (try clear hi)
         (try clear ho0)
         refine hK.out _ _ ⟨(blk_cell BK101.out 0).trans rfl, (blk_cell BK101.out 1).trans rfl, (blk_cell BK101.out 2).trans rfl, (blk_cell BK102.out 0).trans rfl, (blk_cell BK102.out 1).trans rfl, (blk_cell BK102.out 2).trans rfl⟩ (fun hHeld => ?_)
         clear hK K
         refine norm_ (a' := ?_) ?_ ?_
         rotate_left
         ·show Act.put _ (some 28) _ = _
          simp only [Act.put, List.setIfInBounds_toArray, List.set_cons_zero, List.set_cons_succ, i64_w, i32_w]
          rfl
         exact norm_ (by simp only [putAll, Act.put, List.setIfInBounds_toArray, List.set_cons_zero, List.set_cons_succ]) (hCont (.slice Ao47 t107.length co47, .slice Ao48 t112.length co48, v118, gb120) _ ⟨hHeld, (by (with_reducible repeat (first | apply Kd.R_alloc | apply Kd.R_drewN | apply Kd.R_drew));exact Kd.R_mono HO109.out (fun _ hk => ⟨hk.1.2, hk.2⟩)), (by (with_reducible repeat (first | apply Kd.R_alloc | apply Kd.R_drewN | apply Kd.R_drew));exact Kd.R_mono HO114.out (fun _ hk => ⟨hk.1.2, hk.2⟩)), (by (with_reducible repeat (first | apply Kd.R_alloc | apply Kd.R_drewN | apply Kd.R_drew));exact Kd.R_mono HO119.out (fun _ hk => ⟨hk.1.2, hk.2⟩)), (by (with_reducible repeat (first | refine blk_drewN ?_ _ | refine blk_drew ?_ | refine blk_alloc ?_ _));exact BK101.out), (by (with_reducible repeat (first | refine blk_drewN ?_ _ | refine blk_drew ?_ | refine blk_alloc ?_ _));exact BK102.out), (by (with_reducible repeat (first | refine blk_drewN ?_ _ | refine blk_drew ?_ | refine blk_alloc ?_ _));exact BK120.out), GW120.out, GE120.out, NB101_120.out, NB120_101.out, NB102_120.out, NB120_102.out, (by repeat (first | (with_reducible first | exact HB.out | apply below_alloc | apply pw_below_drewN | apply below_drew1 | refine below_set ?_ GE101.out | refine below_set ?_ GE102.out | refine below_set ?_ GE120.out) | exact HB.out))⟩)
       ·skip
        refine box_step ?hg (N := 6) ?hd (cs := #[.int .i64 0, .int .i64 0, .slice none 0 0]) (t := 27) ?hr ?_;(case hd => rfl);(case hg => rfl);(case hr => first | (go_simp;done) | (go_simp;rfl))
        intro gb120 hg w44 hbox hb
        have BK120 := Aside0.mk (hbox)
        have GW120 := Aside0.mk ((by rw [hg];exact (below_size (by repeat (first | (with_reducible first | exact HB.out | apply below_alloc | apply pw_below_drewN | apply below_drew1 | refine below_set ?_ GE101.out | refine below_set ?_ GE102.out) | exact HB.out))) : w.heap.size ≤ gb120))
        have GE120 := Aside0.mk ((by rw [hg];exact (below_size (by repeat (first | (with_reducible first | exact HB.out | apply below_alloc | apply pw_below_drewN | apply below_drew1 | refine below_set ?_ GE101.out | refine below_set ?_ GE102.out) | exact HB.out))) : w.heap.size ≤ gb120))
        replace HB := Aside0.mk (below_step (by repeat (first | (with_reducible first | exact HB.out | apply below_alloc | apply pw_below_drewN | apply below_drew1 | refine below_set ?_ GE101.out | refine below_set ?_ GE102.out) | exact HB.out)) hb)
        have NB101_120 := Aside0.mk ((by rw [hg];exact Nat.ne_of_lt (blk_lt BK101.out) : gb101 ≠ gb120))
        have NB120_101 := Aside0.mk ((by rw [hg];exact Nat.ne_of_gt (blk_lt BK101.out) : gb120 ≠ gb101))
        replace BK101 := Aside0.mk (blk_below BK101.out hb)
        have NB102_120 := Aside0.mk ((by rw [hg];exact Nat.ne_of_lt (blk_lt BK102.out) : gb102 ≠ gb120))
        have NB120_102 := Aside0.mk ((by rw [hg];exact Nat.ne_of_gt (blk_lt BK102.out) : gb120 ≠ gb102))
        replace BK102 := Aside0.mk (blk_below BK102.out hb)
        clear hb hbox hg
        refine hK.out _ _ ⟨(blk_cell BK101.out 0).trans rfl, (blk_cell BK101.out 1).trans rfl, (blk_cell BK101.out 2).trans rfl, (blk_cell BK102.out 0).trans rfl, (blk_cell BK102.out 1).trans rfl, (blk_cell BK102.out 2).trans rfl⟩ (fun hHeld => ?_)
        clear hK K
        refine norm_ (a' := ?_) ?_ ?_
        rotate_left
        ·show Act.put _ (some 6) _ = _
         simp only [Act.put, List.setIfInBounds_toArray, List.set_cons_zero, List.set_cons_succ, i64_w, i32_w]
         rfl
        refine one_ (i := 1) (N := some 25) #[true, true, true, false, false, true, false] rfl rfl (by kernel_rfl) (by decide) (fun K hK => ?_)
        refine goes_ Try.func20 (by kernel_rfl) rfl #[.agg #[.int .i64 a0_0, .int .i64 a0_1, .slice A0_2 l0_2.length c0_2]] (by rfl) rfl rfl (by (try simp only [List.map_toArray, List.map_cons, List.map_nil]);first | done | rfl | (simp only [List.length_drop, List.length_take];rfl)) ?_
        with_reducible refine (laws_toOcc.calls k a0_0 a0_1 _ _ l0_2 t105 t106 t107 _ ?side1 ?side2 A19.out).mono ?_
        (case side1 => repeat (first | exact (Kd.C_below HR0_2.out HB.out) | (with_reducible refine Kd.C_alloc ?_ _) | (with_reducible refine Kd.C_drewN ?_ _) | (with_reducible refine Kd.C_drew ?_)))
        (case side2 => exact HC0_2.out)
        rintro e w45 ⟨v108, rfl, ho0, hb⟩
        refine ⟨_, rfl, ?_⟩
        have HO109 := Aside0.mk (Kd.R_lower ho0 (below_size (by repeat (first | (with_reducible first | exact HB.out | apply below_alloc | apply pw_below_drewN | apply below_drew1 | refine below_set ?_ GE101.out | refine below_set ?_ GE102.out | refine below_set ?_ GE120.out) | exact HB.out))))
        replace BK101 := Aside0.mk (blk_below BK101.out hb)
        replace BK102 := Aside0.mk (blk_below BK102.out hb)
        replace BK120 := Aside0.mk (blk_below BK120.out hb)
        replace HB := Aside0.mk (below_step (by repeat (first | (with_reducible first | exact HB.out | apply below_alloc | apply pw_below_drewN | apply below_drew1 | refine below_set ?_ GE101.out | refine below_set ?_ GE102.out | refine below_set ?_ GE120.out) | exact HB.out)) hb)
        (try clear hb)
        (try clear hb2)
        (try clear hk)
        (try clear hi)
        (try clear ho0)
        refine hK.out _ _ ⟨(blk_cell BK101.out 0).trans rfl, (blk_cell BK101.out 1).trans rfl, (blk_cell BK101.out 2).trans rfl, (blk_cell BK102.out 0).trans rfl, (blk_cell BK102.out 1).trans rfl, (blk_cell BK102.out 2).trans rfl⟩ (fun hHeld => ?_)
        clear hK K
        refine norm_ (a' := ?_) ?_ ?_
        rotate_left
        ·show Act.put _ (some 25) _ = _
         simp only [Act.put, List.setIfInBounds_toArray, List.set_cons_zero, List.set_cons_succ, i64_w, i32_w]
         rfl
        refine one_ (i := 3) (N := some 27) #[true, true, true, true, false, true, false] rfl rfl (by kernel_rfl) (by decide) (fun K hK => ?_)
        refine goes_ Try.func20 (by kernel_rfl) rfl #[.agg #[.int .i64 a1_0, .int .i64 a1_1, .slice A1_2 l1_2.length c1_2]] (by rfl) rfl rfl (by (try simp only [List.map_toArray, List.map_cons, List.map_nil]);first | done | rfl | (simp only [List.length_drop, List.length_take];rfl)) ?_
        with_reducible refine (laws_toOcc.calls k a1_0 a1_1 _ _ l1_2 t110 t111 t112 _ ?side1 ?side2 A20.out).mono ?_
        (case side1 => repeat (first | exact (Kd.C_below HR1_2.out HB.out) | (with_reducible refine Kd.C_alloc ?_ _) | (with_reducible refine Kd.C_drewN ?_ _) | (with_reducible refine Kd.C_drew ?_)))
        (case side2 => exact HC1_2.out)
        rintro e w46 ⟨v113, rfl, ho0, hb⟩
        refine ⟨_, rfl, ?_⟩
        have HO114 := Aside0.mk (Kd.R_lower (Kd.R_new' ho0 (Kd.R_lt (by exact HO109.out))) (below_size (by repeat (first | (with_reducible first | exact HB.out | apply below_alloc | apply pw_below_drewN | apply below_drew1 | refine below_set ?_ GE101.out | refine below_set ?_ GE102.out | refine below_set ?_ GE120.out) | exact HB.out))))
        replace HO109 := Aside0.mk (Kd.R_elder' (by exact HO109.out) (Kd.R_base ho0) hb)
        replace BK101 := Aside0.mk (blk_below BK101.out hb)
        replace BK102 := Aside0.mk (blk_below BK102.out hb)
        replace BK120 := Aside0.mk (blk_below BK120.out hb)
        replace HB := Aside0.mk (below_step (by repeat (first | (with_reducible first | exact HB.out | apply below_alloc | apply pw_below_drewN | apply below_drew1 | refine below_set ?_ GE101.out | refine below_set ?_ GE102.out | refine below_set ?_ GE120.out) | exact HB.out)) hb)
        (try clear hb)
        (try clear hb2)
        (try clear hk)
        (try clear hi)
        (try clear ho0)
        obtain ⟨Ao47, co47, eo47⟩ := Kd.R_slice HO109.out
        (first | subst eo47 | (injection eo47 with f1_ f2_ f3_;have f4_ := f1_.symm;have f5_ := f3_.symm;clear f1_ f2_ f3_;subst f4_;subst f5_))
        obtain ⟨Ao48, co48, eo48⟩ := Kd.R_slice HO114.out
        (first | subst eo48 | (injection eo48 with f1_ f2_ f3_;have f4_ := f1_.symm;have f5_ := f3_.symm;clear f1_ f2_ f3_;subst f4_;subst f5_))
        refine hK.out _ _ ⟨(blk_cell BK101.out 0).trans rfl, (blk_cell BK101.out 1).trans rfl, (blk_cell BK101.out 2).trans rfl, (blk_cell BK102.out 0).trans rfl, (blk_cell BK102.out 1).trans rfl, (blk_cell BK102.out 2).trans rfl⟩ (fun hHeld => ?_)
        clear hK K
        refine norm_ (a' := ?_) ?_ ?_
        rotate_left
        ·show Act.put _ (some 27) _ = _
         simp only [Act.put, List.setIfInBounds_toArray, List.set_cons_zero, List.set_cons_succ, i64_w, i32_w]
         rfl
        refine one_ (i := 4) (N := some 28) #[true, true, true, true, true, true, false] rfl rfl (by kernel_rfl) (by decide) (fun K hK => ?_)
        refine goes_ Try.func48 (by kernel_rfl) rfl #[.agg #[.int .i64 t105, .int .i64 t106, .slice Ao47 t107.length co47], .agg #[.int .i64 t110, .int .i64 t111, .slice Ao48 t112.length co48]] (by rfl) rfl rfl (by (try simp only [List.map_toArray, List.map_cons, List.map_nil]);first | done | rfl | (simp only [List.length_drop, List.length_take];rfl)) ?_
        with_reducible refine (spec_OccJoin.calls k t105 t106 _ _ t107 t110 t111 _ _ t112 t115 t116 t117 _ ?side1 ?side2 ?side3 ?side4 A21.out).mono ?_
        (case side1 => repeat (first | exact (Kd.R_reads' HO109.out).2.2 | (with_reducible refine Kd.C_alloc ?_ _) | (with_reducible refine Kd.C_drewN ?_ _) | (with_reducible refine Kd.C_drew ?_)))
        (case side2 => exact (Kd.R_reads' HO109.out).2.1)
        (case side3 => repeat (first | exact (Kd.R_reads' HO114.out).2.2 | (with_reducible refine Kd.C_alloc ?_ _) | (with_reducible refine Kd.C_drewN ?_ _) | (with_reducible refine Kd.C_drew ?_)))
        (case side4 => exact (Kd.R_reads' HO114.out).2.1)
        rintro e w49 ⟨v118, rfl, ho0, hb⟩
        refine ⟨_, rfl, ?_⟩
        have HO119 := Aside0.mk (Kd.R_lower (Kd.R_new' (Kd.R_new' ho0 (Kd.R_lt (by exact HO109.out))) (Kd.R_lt (by exact HO114.out))) (below_size (by repeat (first | (with_reducible first | exact HB.out | apply below_alloc | apply pw_below_drewN | apply below_drew1 | refine below_set ?_ GE101.out | refine below_set ?_ GE102.out | refine below_set ?_ GE120.out) | exact HB.out))))
        replace HO109 := Aside0.mk (Kd.R_elder' (by exact HO109.out) (Kd.R_base ho0) hb)
        replace HO114 := Aside0.mk (Kd.R_elder' (by exact HO114.out) (Kd.R_base ho0) hb)
        replace BK101 := Aside0.mk (blk_below BK101.out hb)
        replace BK102 := Aside0.mk (blk_below BK102.out hb)
        replace BK120 := Aside0.mk (blk_below BK120.out hb)
        replace HB := Aside0.mk (below_step (by repeat (first | (with_reducible first | exact HB.out | apply below_alloc | apply pw_below_drewN | apply below_drew1 | refine below_set ?_ GE101.out | refine below_set ?_ GE102.out | refine below_set ?_ GE120.out) | exact HB.out)) hb)
        (try clear hb)
        (try clear hb2)
        (try clear hk)
        (try clear hi)
        (try clear ho0)
        refine hK.out _ _ ⟨(blk_cell BK101.out 0).trans rfl, (blk_cell BK101.out 1).trans rfl, (blk_cell BK101.out 2).trans rfl, (blk_cell BK102.out 0).trans rfl, (blk_cell BK102.out 1).trans rfl, (blk_cell BK102.out 2).trans rfl⟩ (fun hHeld => ?_)
        clear hK K
        refine norm_ (a' := ?_) ?_ ?_
        rotate_left
        ·show Act.put _ (some 28) _ = _
         simp only [Act.put, List.setIfInBounds_toArray, List.set_cons_zero, List.set_cons_succ, i64_w, i32_w]
         rfl
        exact norm_ (by simp only [putAll, Act.put, List.setIfInBounds_toArray, List.set_cons_zero, List.set_cons_succ]) (hCont (.slice Ao47 t107.length co47, .slice Ao48 t112.length co48, v118, gb120) _ ⟨hHeld, (by (with_reducible repeat (first | apply Kd.R_alloc | apply Kd.R_drewN | apply Kd.R_drew));exact Kd.R_mono HO109.out (fun _ hk => ⟨hk.1.2, hk.2⟩)), (by (with_reducible repeat (first | apply Kd.R_alloc | apply Kd.R_drewN | apply Kd.R_drew));exact Kd.R_mono HO114.out (fun _ hk => ⟨hk.1.2, hk.2⟩)), (by (with_reducible repeat (first | apply Kd.R_alloc | apply Kd.R_drewN | apply Kd.R_drew));exact Kd.R_mono HO119.out (fun _ hk => ⟨hk.1.2, hk.2⟩)), (by (with_reducible repeat (first | refine blk_drewN ?_ _ | refine blk_drew ?_ | refine blk_alloc ?_ _));exact BK101.out), (by (with_reducible repeat (first | refine blk_drewN ?_ _ | refine blk_drew ?_ | refine blk_alloc ?_ _));exact BK102.out), (by (with_reducible repeat (first | refine blk_drewN ?_ _ | refine blk_drew ?_ | refine blk_alloc ?_ _));exact BK120.out), GW120.out, GE120.out, NB101_120.out, NB120_101.out, NB102_120.out, NB120_102.out, (by repeat (first | (with_reducible first | exact HB.out | apply below_alloc | apply pw_below_drewN | apply below_drew1 | refine below_set ?_ GE101.out | refine below_set ?_ GE102.out | refine below_set ?_ GE120.out) | exact HB.out))⟩)
      rintro ⟨v108, v113, v118, gb120⟩ w50 ⟨hS_, h0_, h1_, h2_, h3_, h4_, h5_, h6_, h7_, h8_, h9_, h10_, h11_, h12_⟩
      have n0_ : Aside0 (Kd.R (Kd.int .i64) 3 w50 w.heap.size (fun k_ => some k_ ≠ (v113 : Value).ownBlock ∧ some k_ ≠ (v118 : Value).ownBlock) v108 t107) := ⟨h0_⟩
      have n1_ : Aside0 (Kd.R (Kd.int .i64) 3 w50 w.heap.size (fun k_ => some k_ ≠ (v108 : Value).ownBlock ∧ some k_ ≠ (v118 : Value).ownBlock) v113 t112) := ⟨h1_⟩
      have n2_ : Aside0 (Kd.R (Kd.int .i64) 3 w50 w.heap.size (fun k_ => some k_ ≠ (v108 : Value).ownBlock ∧ some k_ ≠ (v113 : Value).ownBlock) v118 t117) := ⟨h2_⟩
      have n3_ : Aside0 (w50.heap[gb101]? = some (.cells #[.int .i64 a0_0, .int .i64 a0_1, .slice A0_2 l0_2.length c0_2] 24 (0, 0))) := ⟨h3_⟩
      have n4_ : Aside0 (w50.heap[gb102]? = some (.cells #[.int .i64 a1_0, .int .i64 a1_1, .slice A1_2 l1_2.length c1_2] 24 (0, 0))) := ⟨h4_⟩
      have n5_ : Aside0 (w50.heap[gb120]? = some (.cells #[.int .i64 0, .int .i64 0, .slice none 0 0] 27 (0, 0))) := ⟨h5_⟩
      have n6_ : Aside0 (w.heap.size ≤ gb120) := ⟨h6_⟩
      have n7_ : Aside0 (w.heap.size ≤ gb120) := ⟨h7_⟩
      have n8_ : Aside0 (gb101 ≠ gb120) := ⟨h8_⟩
      have n9_ : Aside0 (gb120 ≠ gb101) := ⟨h9_⟩
      have n10_ : Aside0 (gb102 ≠ gb120) := ⟨h10_⟩
      have n11_ : Aside0 (gb120 ≠ gb102) := ⟨h11_⟩
      have n12_ : Aside0 (Below w.heap.size w w50) := ⟨h12_⟩
      clear BK101
      clear BK102
      clear HB
      clear h0_ h1_ h2_ h3_ h4_ h5_ h6_ h7_ h8_ h9_ h10_ h11_ h12_
      have HO109 := n0_
      have HO114 := n1_
      have HO119 := n2_
      have BK101 := n3_
      have BK102 := n4_
      have BK120 := n5_
      have GW120 := n6_
      have GE120 := n7_
      have NB101_120 := n8_
      have NB120_101 := n9_
      have NB102_120 := n10_
      have NB120_102 := n11_
      have HB := n12_
      clear n0_ n1_ n2_ n3_ n4_ n5_ n6_ n7_ n8_ n9_ n10_ n11_ n12_
      have hHeld : w50.cell? ⟨gb101, 0, none⟩ = some (.int .i64 a0_0) ∧ w50.cell? ⟨gb101, 1, none⟩ = some (.int .i64 a0_1) ∧ w50.cell? ⟨gb101, 2, none⟩ = some (.slice A0_2 l0_2.length c0_2) ∧ w50.cell? ⟨gb102, 0, none⟩ = some (.int .i64 a1_0) ∧ w50.cell? ⟨gb102, 1, none⟩ = some (.int .i64 a1_1) ∧ w50.cell? ⟨gb102, 2, none⟩ = some (.slice A1_2 l1_2.length c1_2) := hS_
      obtain ⟨Ao53, co53, eo53⟩ := Kd.R_slice HO119.out
      (first | subst eo53 | (injection eo53 with f1_ f2_ f3_;have f4_ := f1_.symm;have f5_ := f3_.symm;clear f1_ f2_ f3_;subst f4_;subst f5_))
      refine norm_ (a' := ?_) ?_ ?_
      rotate_left
      ·simp only [putAll, Act.put, List.setIfInBounds_toArray, List.set_cons_zero, List.set_cons_succ]
       rfl
      refine one_ (i := 6) (N := none) #[true, true, true, true, true, true, true] rfl rfl (by kernel_rfl) (by decide) (fun K hK => ?_)
      have hs51 : w50.cell? ⟨gb120, 0, none⟩ = some (.int .i64 0) := (blk_cell BK120.out 0).trans rfl
      have hfs51 := blk_frozen BK120.out 0
      have hns51_0 := NB101_120.out
      have hns51_1 := NB102_120.out
      have hms51_0 := NB120_101.out
      have hms51_1 := NB120_102.out
      have hs52 : w50.cell? ⟨gb120, 1, none⟩ = some (.int .i64 0) := (blk_cell BK120.out 1).trans rfl
      have hfs52 := blk_frozen BK120.out 1
      have hns52_0 := NB101_120.out
      have hns52_1 := NB102_120.out
      have hms52_0 := NB120_101.out
      have hms52_1 := NB120_102.out
      have hs54 : w50.cell? ⟨gb120, 2, none⟩ = some (.slice none 0 0) := (blk_cell BK120.out 2).trans rfl
      have hfs54 := blk_frozen BK120.out 2
      have hns54_0 := NB101_120.out
      have hns54_1 := NB102_120.out
      have hms54_0 := NB120_101.out
      have hms54_1 := NB120_102.out
      refine skip_ (w1 := ?_) (by rfl) rfl ?_ ?_
      rotate_left
      ·go_simp
       rfl
      refine hK.out _ _ ⟨((cell_far (p := ⟨gb120, _, none⟩) NB101_120.out _).trans (((cell_far (p := ⟨gb120, _, none⟩) NB101_120.out _).trans (((cell_far (p := ⟨gb120, _, none⟩) NB101_120.out _).trans (hHeld.1)))))), ((cell_far (p := ⟨gb120, _, none⟩) NB101_120.out _).trans (((cell_far (p := ⟨gb120, _, none⟩) NB101_120.out _).trans (((cell_far (p := ⟨gb120, _, none⟩) NB101_120.out _).trans (hHeld.2.1)))))), ((cell_far (p := ⟨gb120, _, none⟩) NB101_120.out _).trans (((cell_far (p := ⟨gb120, _, none⟩) NB101_120.out _).trans (((cell_far (p := ⟨gb120, _, none⟩) NB101_120.out _).trans (hHeld.2.2.1)))))), ((cell_far (p := ⟨gb120, _, none⟩) NB102_120.out _).trans (((cell_far (p := ⟨gb120, _, none⟩) NB102_120.out _).trans (((cell_far (p := ⟨gb120, _, none⟩) NB102_120.out _).trans (hHeld.2.2.2.1)))))), ((cell_far (p := ⟨gb120, _, none⟩) NB102_120.out _).trans (((cell_far (p := ⟨gb120, _, none⟩) NB102_120.out _).trans (((cell_far (p := ⟨gb120, _, none⟩) NB102_120.out _).trans (hHeld.2.2.2.2.1)))))), ((cell_far (p := ⟨gb120, _, none⟩) NB102_120.out _).trans (((cell_far (p := ⟨gb120, _, none⟩) NB102_120.out _).trans (((cell_far (p := ⟨gb120, _, none⟩) NB102_120.out _).trans (hHeld.2.2.2.2.2))))))⟩ (fun hHeld => ?_)
      clear hK K
      refine done_ (by kernel_rfl) ?_
      have hnb55 := NB101_120.out
      have hnc55 := NB120_101.out
      obtain ⟨hcz56_0, hcz56_1, hcz56_2, hfz56_0, hfz56_1, hfz56_2⟩ := bx3 BK101.out
      try go_wp2_with (first | ((with_reducible refine gate_callee (f := 20) rfl ?_);refine goesL_ (some 30) rfl rfl Try.func20 (by kernel_rfl) rfl #[.agg #[.int .i64 a0_0, .int .i64 a0_1, .slice A0_2 l0_2.length c0_2]] rfl (by (try simp only [List.map_toArray, List.map_cons, List.map_nil]);first | done | rfl | (simp only [List.length_drop, List.length_take];rfl)) ?_;(with_reducible refine (laws_toOcc.calls k a0_0 a0_1 _ _ l0_2 t121 t122 t123 _ ?side1 ?side2 A22.out).mono ?_);(case side1 => exact Kd.C_below HR0_2.out (by repeat (first | (with_reducible first | exact HB.out | apply below_alloc | apply pw_below_drewN | apply below_drew1 | refine below_set ?_ GE101.out | refine below_set ?_ GE102.out | refine below_set ?_ GE120.out) | exact HB.out)));(case side2 => exact HC0_2.out);rintro e w57 ⟨v124, rfl, ho0, hb⟩;refine ⟨_, rfl, ?_⟩;have HO125 := Aside0.mk (Kd.R_lower (Kd.R_new' (Kd.R_new' (Kd.R_new' ho0 (Kd.R_lt (by (with_reducible repeat (first | apply Kd.R_alloc | apply Kd.R_drewN | apply Kd.R_drew));exact (Kd.R_mono (Kd.R_far (p := ⟨gb120, 2, none⟩) (Kd.R_far (p := ⟨gb120, 1, none⟩) (Kd.R_far (p := ⟨gb120, 0, none⟩) (Kd.R_types HO109.out BK120.out (by decide)) (fun _ hk => hk.2) (.int .i64 t115)) (fun _ hk => hk.2) (.int .i64 t116)) (fun _ hk => hk.2) (.slice Ao53 t117.length co53)) (fun _ h_ => h_.1))))) (Kd.R_lt (by (with_reducible repeat (first | apply Kd.R_alloc | apply Kd.R_drewN | apply Kd.R_drew));exact (Kd.R_mono (Kd.R_far (p := ⟨gb120, 2, none⟩) (Kd.R_far (p := ⟨gb120, 1, none⟩) (Kd.R_far (p := ⟨gb120, 0, none⟩) (Kd.R_types HO114.out BK120.out (by decide)) (fun _ hk => hk.2) (.int .i64 t115)) (fun _ hk => hk.2) (.int .i64 t116)) (fun _ hk => hk.2) (.slice Ao53 t117.length co53)) (fun _ h_ => h_.1))))) (Kd.R_lt (by (with_reducible repeat (first | apply Kd.R_alloc | apply Kd.R_drewN | apply Kd.R_drew));exact (Kd.R_mono (Kd.R_far (p := ⟨gb120, 2, none⟩) (Kd.R_far (p := ⟨gb120, 1, none⟩) (Kd.R_far (p := ⟨gb120, 0, none⟩) (Kd.R_types HO119.out BK120.out (by decide)) (fun _ hk => hk.2) (.int .i64 t115)) (fun _ hk => hk.2) (.int .i64 t116)) (fun _ hk => hk.2) (.slice Ao53 t117.length co53)) (fun _ h_ => h_.1))))) (below_size (by repeat (first | (with_reducible first | exact HB.out | apply below_alloc | apply pw_below_drewN | apply below_drew1 | refine below_set ?_ GE101.out | refine below_set ?_ GE102.out | refine below_set ?_ GE120.out) | exact HB.out))));replace HO109 := Aside0.mk (Kd.R_elder' (by (with_reducible repeat (first | apply Kd.R_alloc | apply Kd.R_drewN | apply Kd.R_drew));exact (Kd.R_mono (Kd.R_far (p := ⟨gb120, 2, none⟩) (Kd.R_far (p := ⟨gb120, 1, none⟩) (Kd.R_far (p := ⟨gb120, 0, none⟩) (Kd.R_types HO109.out BK120.out (by decide)) (fun _ hk => hk.2) (.int .i64 t115)) (fun _ hk => hk.2) (.int .i64 t116)) (fun _ hk => hk.2) (.slice Ao53 t117.length co53)) (fun _ h_ => h_.1))) (Kd.R_base ho0) hb);replace HO114 := Aside0.mk (Kd.R_elder' (by (with_reducible repeat (first | apply Kd.R_alloc | apply Kd.R_drewN | apply Kd.R_drew));exact (Kd.R_mono (Kd.R_far (p := ⟨gb120, 2, none⟩) (Kd.R_far (p := ⟨gb120, 1, none⟩) (Kd.R_far (p := ⟨gb120, 0, none⟩) (Kd.R_types HO114.out BK120.out (by decide)) (fun _ hk => hk.2) (.int .i64 t115)) (fun _ hk => hk.2) (.int .i64 t116)) (fun _ hk => hk.2) (.slice Ao53 t117.length co53)) (fun _ h_ => h_.1))) (Kd.R_base ho0) hb);replace HO119 := Aside0.mk (Kd.R_elder' (by (with_reducible repeat (first | apply Kd.R_alloc | apply Kd.R_drewN | apply Kd.R_drew));exact (Kd.R_mono (Kd.R_far (p := ⟨gb120, 2, none⟩) (Kd.R_far (p := ⟨gb120, 1, none⟩) (Kd.R_far (p := ⟨gb120, 0, none⟩) (Kd.R_types HO119.out BK120.out (by decide)) (fun _ hk => hk.2) (.int .i64 t115)) (fun _ hk => hk.2) (.int .i64 t116)) (fun _ hk => hk.2) (.slice Ao53 t117.length co53)) (fun _ h_ => h_.1))) (Kd.R_base ho0) hb);replace BK101 := Aside0.mk (blk_below (g := gb101) (o := .cells #[.int .i64 a0_0, .int .i64 a0_1, .slice A0_2 l0_2.length c0_2] 24 (0, 0)) (by (with_reducible repeat (first | refine blk_drewN ?_ _ | refine blk_drew ?_ | refine blk_alloc ?_ _));refine blk_far ?_ NB101_120.out _;(with_reducible repeat (first | refine blk_drewN ?_ _ | refine blk_drew ?_ | refine blk_alloc ?_ _));refine blk_far ?_ NB101_120.out _;(with_reducible repeat (first | refine blk_drewN ?_ _ | refine blk_drew ?_ | refine blk_alloc ?_ _));refine blk_far ?_ NB101_120.out _;(with_reducible repeat (first | refine blk_drewN ?_ _ | refine blk_drew ?_ | refine blk_alloc ?_ _));exact BK101.out) hb);replace BK102 := Aside0.mk (blk_below (g := gb102) (o := .cells #[.int .i64 a1_0, .int .i64 a1_1, .slice A1_2 l1_2.length c1_2] 24 (0, 0)) (by (with_reducible repeat (first | refine blk_drewN ?_ _ | refine blk_drew ?_ | refine blk_alloc ?_ _));refine blk_far ?_ NB102_120.out _;(with_reducible repeat (first | refine blk_drewN ?_ _ | refine blk_drew ?_ | refine blk_alloc ?_ _));refine blk_far ?_ NB102_120.out _;(with_reducible repeat (first | refine blk_drewN ?_ _ | refine blk_drew ?_ | refine blk_alloc ?_ _));refine blk_far ?_ NB102_120.out _;(with_reducible repeat (first | refine blk_drewN ?_ _ | refine blk_drew ?_ | refine blk_alloc ?_ _));exact BK102.out) hb);replace BK120 := Aside0.mk (blk_below (g := gb120) (o := .cells #[.int .i64 t115, .int .i64 t116, .slice Ao53 t117.length co53] 27 (0, 0)) (by (with_reducible repeat (first | refine blk_drewN ?_ _ | refine blk_drew ?_ | refine blk_alloc ?_ _));refine blk_put (cs := #[.int .i64 t115, .int .i64 t116, .slice none 0 0]) ?_ 2 _ rfl;(with_reducible repeat (first | refine blk_drewN ?_ _ | refine blk_drew ?_ | refine blk_alloc ?_ _));refine blk_put (cs := #[.int .i64 t115, .int .i64 0, .slice none 0 0]) ?_ 1 _ rfl;(with_reducible repeat (first | refine blk_drewN ?_ _ | refine blk_drew ?_ | refine blk_alloc ?_ _));refine blk_put (cs := #[.int .i64 0, .int .i64 0, .slice none 0 0]) ?_ 0 _ rfl;(with_reducible repeat (first | refine blk_drewN ?_ _ | refine blk_drew ?_ | refine blk_alloc ?_ _));exact BK120.out) hb);replace HB := Aside0.mk (below_step (by repeat (first | (with_reducible first | exact HB.out | apply below_alloc | apply pw_below_drewN | apply below_drew1 | refine below_set ?_ GE101.out | refine below_set ?_ GE102.out | refine below_set ?_ GE120.out) | exact HB.out)) hb);(try clear hb);(try clear hb2);(try clear hk);(try clear hi);(try clear ho0)) | ((with_reducible refine gate_dst (N := 7) rfl ?_);refine box_event ?hg (N := 7) ?hd (cs := #[.int .i64 0, .int .i64 0, .slice none 0 0]) (t := 27) ?hr ?_;(case hd => rfl);(case hg => rfl);(case hr => first | (go_simp;done) | (go_simp;rfl));intro gb126 hg w58 hbox hb;replace HO109 := Aside0.mk (Kd.R_below (by exact HO109.out) hb);replace HO114 := Aside0.mk (Kd.R_below (by exact HO114.out) hb);replace HO119 := Aside0.mk (Kd.R_below (by exact HO119.out) hb);replace HO125 := Aside0.mk (Kd.R_below (by exact HO125.out) hb);have BK126 := Aside0.mk (hbox);have GW126 := Aside0.mk ((by rw [hg];exact (below_size (by repeat (first | (with_reducible first | exact HB.out | apply below_alloc | apply pw_below_drewN | apply below_drew1 | refine below_set ?_ GE101.out | refine below_set ?_ GE102.out | refine below_set ?_ GE120.out) | exact HB.out))) : w.heap.size ≤ gb126));have GE126 := Aside0.mk ((by rw [hg];exact (below_size (by repeat (first | (with_reducible first | exact HB.out | apply below_alloc | apply pw_below_drewN | apply below_drew1 | refine below_set ?_ GE101.out | refine below_set ?_ GE102.out | refine below_set ?_ GE120.out) | exact HB.out))) : w.heap.size ≤ gb126));replace HB := Aside0.mk (below_step (by repeat (first | (with_reducible first | exact HB.out | apply below_alloc | apply pw_below_drewN | apply below_drew1 | refine below_set ?_ GE101.out | refine below_set ?_ GE102.out | refine below_set ?_ GE120.out) | exact HB.out)) hb);have NB101_126 := Aside0.mk ((by rw [hg];exact Nat.ne_of_lt (blk_lt BK101.out) : gb101 ≠ gb126));have NB126_101 := Aside0.mk ((by rw [hg];exact Nat.ne_of_gt (blk_lt BK101.out) : gb126 ≠ gb101));replace BK101 := Aside0.mk (blk_below BK101.out hb);have NB102_126 := Aside0.mk ((by rw [hg];exact Nat.ne_of_lt (blk_lt BK102.out) : gb102 ≠ gb126));have NB126_102 := Aside0.mk ((by rw [hg];exact Nat.ne_of_gt (blk_lt BK102.out) : gb126 ≠ gb102));replace BK102 := Aside0.mk (blk_below BK102.out hb);have NB120_126 := Aside0.mk ((by rw [hg];exact Nat.ne_of_lt (blk_lt BK120.out) : gb120 ≠ gb126));have NB126_120 := Aside0.mk ((by rw [hg];exact Nat.ne_of_gt (blk_lt BK120.out) : gb126 ≠ gb120));replace BK120 := Aside0.mk (blk_below BK120.out hb);clear hb hbox hg;have hnb59 := NB126_101.out;have hnc59 := NB101_126.out;have hnb60 := NB126_102.out;have hnc60 := NB102_126.out;have hnb61 := NB126_120.out;have hnc61 := NB120_126.out;obtain ⟨hcz62_0, hcz62_1, hcz62_2, hfz62_0, hfz62_1, hfz62_2⟩ := bx3 BK126.out;obtain ⟨Ao63, co63, eo63⟩ := Kd.R_slice HO125.out;subst eo63;have hnb64 := NB102_120.out;have hnc64 := NB120_102.out;obtain ⟨hcz65_0, hcz65_1, hcz65_2, hfz65_0, hfz65_1, hfz65_2⟩ := bx3 BK102.out) | ((with_reducible refine gate_callee (f := 20) rfl ?_);refine goesL_ (some 32) rfl rfl Try.func20 (by kernel_rfl) rfl #[.agg #[.int .i64 a1_0, .int .i64 a1_1, .slice A1_2 l1_2.length c1_2]] rfl (by (try simp only [List.map_toArray, List.map_cons, List.map_nil]);first | done | rfl | (simp only [List.length_drop, List.length_take];rfl)) ?_;(with_reducible refine (laws_toOcc.calls k a1_0 a1_1 _ _ l1_2 t127 t128 t129 _ ?side1 ?side2 A23.out).mono ?_);(case side1 => exact Kd.C_below HR1_2.out (by repeat (first | (with_reducible first | exact HB.out | apply below_alloc | apply pw_below_drewN | apply below_drew1 | refine below_set ?_ GE101.out | refine below_set ?_ GE102.out | refine below_set ?_ GE120.out | refine below_set ?_ GE126.out) | exact HB.out)));(case side2 => exact HC1_2.out);rintro e w66 ⟨v130, rfl, ho0, hb⟩;refine ⟨_, rfl, ?_⟩;have HO131 := Aside0.mk (Kd.R_lower (Kd.R_new' (Kd.R_new' (Kd.R_new' (Kd.R_new' ho0 (Kd.R_lt (by (with_reducible repeat (first | apply Kd.R_alloc | apply Kd.R_drewN | apply Kd.R_drew));exact (Kd.R_mono (Kd.R_far (p := ⟨gb126, 2, none⟩) (Kd.R_far (p := ⟨gb126, 1, none⟩) (Kd.R_far (p := ⟨gb126, 0, none⟩) (Kd.R_types HO109.out BK126.out (by decide)) (fun _ hk => hk.2) (.int .i64 t121)) (fun _ hk => hk.2) (.int .i64 t122)) (fun _ hk => hk.2) (.slice Ao63 t123.length co63)) (fun _ h_ => h_.1))))) (Kd.R_lt (by (with_reducible repeat (first | apply Kd.R_alloc | apply Kd.R_drewN | apply Kd.R_drew));exact (Kd.R_mono (Kd.R_far (p := ⟨gb126, 2, none⟩) (Kd.R_far (p := ⟨gb126, 1, none⟩) (Kd.R_far (p := ⟨gb126, 0, none⟩) (Kd.R_types HO114.out BK126.out (by decide)) (fun _ hk => hk.2) (.int .i64 t121)) (fun _ hk => hk.2) (.int .i64 t122)) (fun _ hk => hk.2) (.slice Ao63 t123.length co63)) (fun _ h_ => h_.1))))) (Kd.R_lt (by (with_reducible repeat (first | apply Kd.R_alloc | apply Kd.R_drewN | apply Kd.R_drew));exact (Kd.R_mono (Kd.R_far (p := ⟨gb126, 2, none⟩) (Kd.R_far (p := ⟨gb126, 1, none⟩) (Kd.R_far (p := ⟨gb126, 0, none⟩) (Kd.R_types HO119.out BK126.out (by decide)) (fun _ hk => hk.2) (.int .i64 t121)) (fun _ hk => hk.2) (.int .i64 t122)) (fun _ hk => hk.2) (.slice Ao63 t123.length co63)) (fun _ h_ => h_.1))))) (Kd.R_lt (by (with_reducible repeat (first | apply Kd.R_alloc | apply Kd.R_drewN | apply Kd.R_drew));exact (Kd.R_mono (Kd.R_far (p := ⟨gb126, 2, none⟩) (Kd.R_far (p := ⟨gb126, 1, none⟩) (Kd.R_far (p := ⟨gb126, 0, none⟩) (Kd.R_types HO125.out BK126.out (by decide)) (fun _ hk => hk.2) (.int .i64 t121)) (fun _ hk => hk.2) (.int .i64 t122)) (fun _ hk => hk.2) (.slice Ao63 t123.length co63)) (fun _ h_ => h_.1))))) (below_size (by repeat (first | (with_reducible first | exact HB.out | apply below_alloc | apply pw_below_drewN | apply below_drew1 | refine below_set ?_ GE101.out | refine below_set ?_ GE102.out | refine below_set ?_ GE120.out | refine below_set ?_ GE126.out) | exact HB.out))));replace HO109 := Aside0.mk (Kd.R_elder' (by (with_reducible repeat (first | apply Kd.R_alloc | apply Kd.R_drewN | apply Kd.R_drew));exact (Kd.R_mono (Kd.R_far (p := ⟨gb126, 2, none⟩) (Kd.R_far (p := ⟨gb126, 1, none⟩) (Kd.R_far (p := ⟨gb126, 0, none⟩) (Kd.R_types HO109.out BK126.out (by decide)) (fun _ hk => hk.2) (.int .i64 t121)) (fun _ hk => hk.2) (.int .i64 t122)) (fun _ hk => hk.2) (.slice Ao63 t123.length co63)) (fun _ h_ => h_.1))) (Kd.R_base ho0) hb);replace HO114 := Aside0.mk (Kd.R_elder' (by (with_reducible repeat (first | apply Kd.R_alloc | apply Kd.R_drewN | apply Kd.R_drew));exact (Kd.R_mono (Kd.R_far (p := ⟨gb126, 2, none⟩) (Kd.R_far (p := ⟨gb126, 1, none⟩) (Kd.R_far (p := ⟨gb126, 0, none⟩) (Kd.R_types HO114.out BK126.out (by decide)) (fun _ hk => hk.2) (.int .i64 t121)) (fun _ hk => hk.2) (.int .i64 t122)) (fun _ hk => hk.2) (.slice Ao63 t123.length co63)) (fun _ h_ => h_.1))) (Kd.R_base ho0) hb);replace HO119 := Aside0.mk (Kd.R_elder' (by (with_reducible repeat (first | apply Kd.R_alloc | apply Kd.R_drewN | apply Kd.R_drew));exact (Kd.R_mono (Kd.R_far (p := ⟨gb126, 2, none⟩) (Kd.R_far (p := ⟨gb126, 1, none⟩) (Kd.R_far (p := ⟨gb126, 0, none⟩) (Kd.R_types HO119.out BK126.out (by decide)) (fun _ hk => hk.2) (.int .i64 t121)) (fun _ hk => hk.2) (.int .i64 t122)) (fun _ hk => hk.2) (.slice Ao63 t123.length co63)) (fun _ h_ => h_.1))) (Kd.R_base ho0) hb);replace HO125 := Aside0.mk (Kd.R_elder' (by (with_reducible repeat (first | apply Kd.R_alloc | apply Kd.R_drewN | apply Kd.R_drew));exact (Kd.R_mono (Kd.R_far (p := ⟨gb126, 2, none⟩) (Kd.R_far (p := ⟨gb126, 1, none⟩) (Kd.R_far (p := ⟨gb126, 0, none⟩) (Kd.R_types HO125.out BK126.out (by decide)) (fun _ hk => hk.2) (.int .i64 t121)) (fun _ hk => hk.2) (.int .i64 t122)) (fun _ hk => hk.2) (.slice Ao63 t123.length co63)) (fun _ h_ => h_.1))) (Kd.R_base ho0) hb);replace BK101 := Aside0.mk (blk_below (g := gb101) (o := .cells #[.int .i64 a0_0, .int .i64 a0_1, .slice A0_2 l0_2.length c0_2] 24 (0, 0)) (by (with_reducible repeat (first | refine blk_drewN ?_ _ | refine blk_drew ?_ | refine blk_alloc ?_ _));refine blk_far ?_ NB101_126.out _;(with_reducible repeat (first | refine blk_drewN ?_ _ | refine blk_drew ?_ | refine blk_alloc ?_ _));refine blk_far ?_ NB101_126.out _;(with_reducible repeat (first | refine blk_drewN ?_ _ | refine blk_drew ?_ | refine blk_alloc ?_ _));refine blk_far ?_ NB101_126.out _;(with_reducible repeat (first | refine blk_drewN ?_ _ | refine blk_drew ?_ | refine blk_alloc ?_ _));exact BK101.out) hb);replace BK102 := Aside0.mk (blk_below (g := gb102) (o := .cells #[.int .i64 a1_0, .int .i64 a1_1, .slice A1_2 l1_2.length c1_2] 24 (0, 0)) (by (with_reducible repeat (first | refine blk_drewN ?_ _ | refine blk_drew ?_ | refine blk_alloc ?_ _));refine blk_far ?_ NB102_126.out _;(with_reducible repeat (first | refine blk_drewN ?_ _ | refine blk_drew ?_ | refine blk_alloc ?_ _));refine blk_far ?_ NB102_126.out _;(with_reducible repeat (first | refine blk_drewN ?_ _ | refine blk_drew ?_ | refine blk_alloc ?_ _));refine blk_far ?_ NB102_126.out _;(with_reducible repeat (first | refine blk_drewN ?_ _ | refine blk_drew ?_ | refine blk_alloc ?_ _));exact BK102.out) hb);replace BK120 := Aside0.mk (blk_below (g := gb120) (o := .cells #[.int .i64 t115, .int .i64 t116, .slice Ao53 t117.length co53] 27 (0, 0)) (by (with_reducible repeat (first | refine blk_drewN ?_ _ | refine blk_drew ?_ | refine blk_alloc ?_ _));refine blk_far ?_ NB120_126.out _;(with_reducible repeat (first | refine blk_drewN ?_ _ | refine blk_drew ?_ | refine blk_alloc ?_ _));refine blk_far ?_ NB120_126.out _;(with_reducible repeat (first | refine blk_drewN ?_ _ | refine blk_drew ?_ | refine blk_alloc ?_ _));refine blk_far ?_ NB120_126.out _;(with_reducible repeat (first | refine blk_drewN ?_ _ | refine blk_drew ?_ | refine blk_alloc ?_ _));exact BK120.out) hb);replace BK126 := Aside0.mk (blk_below (g := gb126) (o := .cells #[.int .i64 t121, .int .i64 t122, .slice Ao63 t123.length co63] 27 (0, 0)) (by (with_reducible repeat (first | refine blk_drewN ?_ _ | refine blk_drew ?_ | refine blk_alloc ?_ _));refine blk_put (cs := #[.int .i64 t121, .int .i64 t122, .slice none 0 0]) ?_ 2 _ rfl;(with_reducible repeat (first | refine blk_drewN ?_ _ | refine blk_drew ?_ | refine blk_alloc ?_ _));refine blk_put (cs := #[.int .i64 t121, .int .i64 0, .slice none 0 0]) ?_ 1 _ rfl;(with_reducible repeat (first | refine blk_drewN ?_ _ | refine blk_drew ?_ | refine blk_alloc ?_ _));refine blk_put (cs := #[.int .i64 0, .int .i64 0, .slice none 0 0]) ?_ 0 _ rfl;(with_reducible repeat (first | refine blk_drewN ?_ _ | refine blk_drew ?_ | refine blk_alloc ?_ _));exact BK126.out) hb);replace HB := Aside0.mk (below_step (by repeat (first | (with_reducible first | exact HB.out | apply below_alloc | apply pw_below_drewN | apply below_drew1 | refine below_set ?_ GE101.out | refine below_set ?_ GE102.out | refine below_set ?_ GE120.out | refine below_set ?_ GE126.out) | exact HB.out)) hb);(try clear hb);(try clear hb2);(try clear hk);(try clear hi);(try clear ho0)) | ((with_reducible refine gate_dst (N := 8) rfl ?_);refine box_event ?hg (N := 8) ?hd (cs := #[.int .i64 0, .int .i64 0, .slice none 0 0]) (t := 27) ?hr ?_;(case hd => rfl);(case hg => rfl);(case hr => first | (go_simp;done) | (go_simp;rfl));intro gb132 hg w67 hbox hb;replace HO109 := Aside0.mk (Kd.R_below (by exact HO109.out) hb);replace HO114 := Aside0.mk (Kd.R_below (by exact HO114.out) hb);replace HO119 := Aside0.mk (Kd.R_below (by exact HO119.out) hb);replace HO125 := Aside0.mk (Kd.R_below (by exact HO125.out) hb);replace HO131 := Aside0.mk (Kd.R_below (by exact HO131.out) hb);have BK132 := Aside0.mk (hbox);have GW132 := Aside0.mk ((by rw [hg];exact (below_size (by repeat (first | (with_reducible first | exact HB.out | apply below_alloc | apply pw_below_drewN | apply below_drew1 | refine below_set ?_ GE101.out | refine below_set ?_ GE102.out | refine below_set ?_ GE120.out | refine below_set ?_ GE126.out) | exact HB.out))) : w.heap.size ≤ gb132));have GE132 := Aside0.mk ((by rw [hg];exact (below_size (by repeat (first | (with_reducible first | exact HB.out | apply below_alloc | apply pw_below_drewN | apply below_drew1 | refine below_set ?_ GE101.out | refine below_set ?_ GE102.out | refine below_set ?_ GE120.out | refine below_set ?_ GE126.out) | exact HB.out))) : w.heap.size ≤ gb132));replace HB := Aside0.mk (below_step (by repeat (first | (with_reducible first | exact HB.out | apply below_alloc | apply pw_below_drewN | apply below_drew1 | refine below_set ?_ GE101.out | refine below_set ?_ GE102.out | refine below_set ?_ GE120.out | refine below_set ?_ GE126.out) | exact HB.out)) hb);have NB101_132 := Aside0.mk ((by rw [hg];exact Nat.ne_of_lt (blk_lt BK101.out) : gb101 ≠ gb132));have NB132_101 := Aside0.mk ((by rw [hg];exact Nat.ne_of_gt (blk_lt BK101.out) : gb132 ≠ gb101));replace BK101 := Aside0.mk (blk_below BK101.out hb);have NB102_132 := Aside0.mk ((by rw [hg];exact Nat.ne_of_lt (blk_lt BK102.out) : gb102 ≠ gb132));have NB132_102 := Aside0.mk ((by rw [hg];exact Nat.ne_of_gt (blk_lt BK102.out) : gb132 ≠ gb102));replace BK102 := Aside0.mk (blk_below BK102.out hb);have NB120_132 := Aside0.mk ((by rw [hg];exact Nat.ne_of_lt (blk_lt BK120.out) : gb120 ≠ gb132));have NB132_120 := Aside0.mk ((by rw [hg];exact Nat.ne_of_gt (blk_lt BK120.out) : gb132 ≠ gb120));replace BK120 := Aside0.mk (blk_below BK120.out hb);have NB126_132 := Aside0.mk ((by rw [hg];exact Nat.ne_of_lt (blk_lt BK126.out) : gb126 ≠ gb132));have NB132_126 := Aside0.mk ((by rw [hg];exact Nat.ne_of_gt (blk_lt BK126.out) : gb132 ≠ gb126));replace BK126 := Aside0.mk (blk_below BK126.out hb);clear hb hbox hg;have hnb68 := NB132_101.out;have hnc68 := NB101_132.out;have hnb69 := NB132_102.out;have hnc69 := NB102_132.out;have hnb70 := NB132_120.out;have hnc70 := NB120_132.out;have hnb71 := NB132_126.out;have hnc71 := NB126_132.out;obtain ⟨hcz72_0, hcz72_1, hcz72_2, hfz72_0, hfz72_1, hfz72_2⟩ := bx3 BK132.out;obtain ⟨Ao73, co73, eo73⟩ := Kd.R_slice HO131.out;subst eo73;obtain ⟨hcz74_0, hcz74_1, hcz74_2, hfz74_0, hfz74_1, hfz74_2⟩ := bx3 BK126.out) | ((with_reducible refine gate_callee (f := 49) rfl ?_);refine goesL_ (some 35) rfl rfl Try.func49 (by kernel_rfl) rfl #[.agg #[.int .i64 t121, .int .i64 t122, .slice Ao63 t123.length co63], .agg #[.int .i64 t127, .int .i64 t128, .slice Ao73 t129.length co73]] rfl (by (try simp only [List.map_toArray, List.map_cons, List.map_nil]);first | done | rfl | (simp only [List.length_drop, List.length_take];rfl)) ?_;(with_reducible refine (impl_OccJoin.calls k t121 t122 _ _ t123 t127 t128 _ _ t129 t133 t134 t135 _ ?side1 ?side2 ?side3 ?side4 A24.out).mono ?_);(case side1 => refine (Kd.R_reads' (e := 3) (base := w.heap.size) (ok := fun k_ => ((((True ∧ some k_ ≠ (v108 : Value).ownBlock) ∧ some k_ ≠ (v113 : Value).ownBlock) ∧ some k_ ≠ (.slice Ao53 t117.length co53 : Value).ownBlock) ∧ some k_ ≠ (.slice Ao73 t129.length co73 : Value).ownBlock)) (n := t123.length) (c := co63) ?_).2.2;exact (by (with_reducible repeat (first | apply Kd.R_alloc | apply Kd.R_drewN | apply Kd.R_drew));exact (Kd.R_mono (Kd.R_far (p := ⟨gb132, 2, none⟩) (Kd.R_far (p := ⟨gb132, 1, none⟩) (Kd.R_far (p := ⟨gb132, 0, none⟩) (Kd.R_types HO125.out BK132.out (by decide)) (fun _ hk => hk.2) (.int .i64 t127)) (fun _ hk => hk.2) (.int .i64 t128)) (fun _ hk => hk.2) (.slice Ao73 t129.length co73)) (fun _ h_ => h_.1))));(case side2 => exact (Kd.R_reads' HO125.out).2.1);(case side3 => refine (Kd.R_reads' (e := 3) (base := w.heap.size) (ok := fun k_ => ((((True ∧ some k_ ≠ (v108 : Value).ownBlock) ∧ some k_ ≠ (v113 : Value).ownBlock) ∧ some k_ ≠ (.slice Ao53 t117.length co53 : Value).ownBlock) ∧ some k_ ≠ (.slice Ao63 t123.length co63 : Value).ownBlock)) (n := t129.length) (c := co73) ?_).2.2;exact (by (with_reducible repeat (first | apply Kd.R_alloc | apply Kd.R_drewN | apply Kd.R_drew));exact (Kd.R_mono (Kd.R_far (p := ⟨gb132, 2, none⟩) (Kd.R_far (p := ⟨gb132, 1, none⟩) (Kd.R_far (p := ⟨gb132, 0, none⟩) (Kd.R_types HO131.out BK132.out (by decide)) (fun _ hk => hk.2) (.int .i64 t127)) (fun _ hk => hk.2) (.int .i64 t128)) (fun _ hk => hk.2) (.slice Ao73 t129.length co73)) (fun _ h_ => h_.1))));(case side4 => exact (Kd.R_reads' HO131.out).2.1);rintro e w75 ⟨v136, rfl, ho0, hb⟩;refine ⟨_, rfl, ?_⟩;have HO137 := Aside0.mk (Kd.R_lower (Kd.R_new' (Kd.R_new' (Kd.R_new' (Kd.R_new' (Kd.R_new' ho0 (Kd.R_lt (by (with_reducible repeat (first | apply Kd.R_alloc | apply Kd.R_drewN | apply Kd.R_drew));exact (Kd.R_mono (Kd.R_far (p := ⟨gb132, 2, none⟩) (Kd.R_far (p := ⟨gb132, 1, none⟩) (Kd.R_far (p := ⟨gb132, 0, none⟩) (Kd.R_types HO109.out BK132.out (by decide)) (fun _ hk => hk.2) (.int .i64 t127)) (fun _ hk => hk.2) (.int .i64 t128)) (fun _ hk => hk.2) (.slice Ao73 t129.length co73)) (fun _ h_ => h_.1))))) (Kd.R_lt (by (with_reducible repeat (first | apply Kd.R_alloc | apply Kd.R_drewN | apply Kd.R_drew));exact (Kd.R_mono (Kd.R_far (p := ⟨gb132, 2, none⟩) (Kd.R_far (p := ⟨gb132, 1, none⟩) (Kd.R_far (p := ⟨gb132, 0, none⟩) (Kd.R_types HO114.out BK132.out (by decide)) (fun _ hk => hk.2) (.int .i64 t127)) (fun _ hk => hk.2) (.int .i64 t128)) (fun _ hk => hk.2) (.slice Ao73 t129.length co73)) (fun _ h_ => h_.1))))) (Kd.R_lt (by (with_reducible repeat (first | apply Kd.R_alloc | apply Kd.R_drewN | apply Kd.R_drew));exact (Kd.R_mono (Kd.R_far (p := ⟨gb132, 2, none⟩) (Kd.R_far (p := ⟨gb132, 1, none⟩) (Kd.R_far (p := ⟨gb132, 0, none⟩) (Kd.R_types HO119.out BK132.out (by decide)) (fun _ hk => hk.2) (.int .i64 t127)) (fun _ hk => hk.2) (.int .i64 t128)) (fun _ hk => hk.2) (.slice Ao73 t129.length co73)) (fun _ h_ => h_.1))))) (Kd.R_lt (by (with_reducible repeat (first | apply Kd.R_alloc | apply Kd.R_drewN | apply Kd.R_drew));exact (Kd.R_mono (Kd.R_far (p := ⟨gb132, 2, none⟩) (Kd.R_far (p := ⟨gb132, 1, none⟩) (Kd.R_far (p := ⟨gb132, 0, none⟩) (Kd.R_types HO125.out BK132.out (by decide)) (fun _ hk => hk.2) (.int .i64 t127)) (fun _ hk => hk.2) (.int .i64 t128)) (fun _ hk => hk.2) (.slice Ao73 t129.length co73)) (fun _ h_ => h_.1))))) (Kd.R_lt (by (with_reducible repeat (first | apply Kd.R_alloc | apply Kd.R_drewN | apply Kd.R_drew));exact (Kd.R_mono (Kd.R_far (p := ⟨gb132, 2, none⟩) (Kd.R_far (p := ⟨gb132, 1, none⟩) (Kd.R_far (p := ⟨gb132, 0, none⟩) (Kd.R_types HO131.out BK132.out (by decide)) (fun _ hk => hk.2) (.int .i64 t127)) (fun _ hk => hk.2) (.int .i64 t128)) (fun _ hk => hk.2) (.slice Ao73 t129.length co73)) (fun _ h_ => h_.1))))) (below_size (by repeat (first | (with_reducible first | exact HB.out | apply below_alloc | apply pw_below_drewN | apply below_drew1 | refine below_set ?_ GE101.out | refine below_set ?_ GE102.out | refine below_set ?_ GE120.out | refine below_set ?_ GE126.out | refine below_set ?_ GE132.out) | exact HB.out))));replace HO109 := Aside0.mk (Kd.R_elder' (by (with_reducible repeat (first | apply Kd.R_alloc | apply Kd.R_drewN | apply Kd.R_drew));exact (Kd.R_mono (Kd.R_far (p := ⟨gb132, 2, none⟩) (Kd.R_far (p := ⟨gb132, 1, none⟩) (Kd.R_far (p := ⟨gb132, 0, none⟩) (Kd.R_types HO109.out BK132.out (by decide)) (fun _ hk => hk.2) (.int .i64 t127)) (fun _ hk => hk.2) (.int .i64 t128)) (fun _ hk => hk.2) (.slice Ao73 t129.length co73)) (fun _ h_ => h_.1))) (Kd.R_base ho0) hb);replace HO114 := Aside0.mk (Kd.R_elder' (by (with_reducible repeat (first | apply Kd.R_alloc | apply Kd.R_drewN | apply Kd.R_drew));exact (Kd.R_mono (Kd.R_far (p := ⟨gb132, 2, none⟩) (Kd.R_far (p := ⟨gb132, 1, none⟩) (Kd.R_far (p := ⟨gb132, 0, none⟩) (Kd.R_types HO114.out BK132.out (by decide)) (fun _ hk => hk.2) (.int .i64 t127)) (fun _ hk => hk.2) (.int .i64 t128)) (fun _ hk => hk.2) (.slice Ao73 t129.length co73)) (fun _ h_ => h_.1))) (Kd.R_base ho0) hb);replace HO119 := Aside0.mk (Kd.R_elder' (by (with_reducible repeat (first | apply Kd.R_alloc | apply Kd.R_drewN | apply Kd.R_drew));exact (Kd.R_mono (Kd.R_far (p := ⟨gb132, 2, none⟩) (Kd.R_far (p := ⟨gb132, 1, none⟩) (Kd.R_far (p := ⟨gb132, 0, none⟩) (Kd.R_types HO119.out BK132.out (by decide)) (fun _ hk => hk.2) (.int .i64 t127)) (fun _ hk => hk.2) (.int .i64 t128)) (fun _ hk => hk.2) (.slice Ao73 t129.length co73)) (fun _ h_ => h_.1))) (Kd.R_base ho0) hb);replace HO125 := Aside0.mk (Kd.R_elder' (by (with_reducible repeat (first | apply Kd.R_alloc | apply Kd.R_drewN | apply Kd.R_drew));exact (Kd.R_mono (Kd.R_far (p := ⟨gb132, 2, none⟩) (Kd.R_far (p := ⟨gb132, 1, none⟩) (Kd.R_far (p := ⟨gb132, 0, none⟩) (Kd.R_types HO125.out BK132.out (by decide)) (fun _ hk => hk.2) (.int .i64 t127)) (fun _ hk => hk.2) (.int .i64 t128)) (fun _ hk => hk.2) (.slice Ao73 t129.length co73)) (fun _ h_ => h_.1))) (Kd.R_base ho0) hb);replace HO131 := Aside0.mk (Kd.R_elder' (by (with_reducible repeat (first | apply Kd.R_alloc | apply Kd.R_drewN | apply Kd.R_drew));exact (Kd.R_mono (Kd.R_far (p := ⟨gb132, 2, none⟩) (Kd.R_far (p := ⟨gb132, 1, none⟩) (Kd.R_far (p := ⟨gb132, 0, none⟩) (Kd.R_types HO131.out BK132.out (by decide)) (fun _ hk => hk.2) (.int .i64 t127)) (fun _ hk => hk.2) (.int .i64 t128)) (fun _ hk => hk.2) (.slice Ao73 t129.length co73)) (fun _ h_ => h_.1))) (Kd.R_base ho0) hb);replace BK101 := Aside0.mk (blk_below (g := gb101) (o := .cells #[.int .i64 a0_0, .int .i64 a0_1, .slice A0_2 l0_2.length c0_2] 24 (0, 0)) (by (with_reducible repeat (first | refine blk_drewN ?_ _ | refine blk_drew ?_ | refine blk_alloc ?_ _));refine blk_far ?_ NB101_132.out _;(with_reducible repeat (first | refine blk_drewN ?_ _ | refine blk_drew ?_ | refine blk_alloc ?_ _));refine blk_far ?_ NB101_132.out _;(with_reducible repeat (first | refine blk_drewN ?_ _ | refine blk_drew ?_ | refine blk_alloc ?_ _));refine blk_far ?_ NB101_132.out _;(with_reducible repeat (first | refine blk_drewN ?_ _ | refine blk_drew ?_ | refine blk_alloc ?_ _));exact BK101.out) hb);replace BK102 := Aside0.mk (blk_below (g := gb102) (o := .cells #[.int .i64 a1_0, .int .i64 a1_1, .slice A1_2 l1_2.length c1_2] 24 (0, 0)) (by (with_reducible repeat (first | refine blk_drewN ?_ _ | refine blk_drew ?_ | refine blk_alloc ?_ _));refine blk_far ?_ NB102_132.out _;(with_reducible repeat (first | refine blk_drewN ?_ _ | refine blk_drew ?_ | refine blk_alloc ?_ _));refine blk_far ?_ NB102_132.out _;(with_reducible repeat (first | refine blk_drewN ?_ _ | refine blk_drew ?_ | refine blk_alloc ?_ _));refine blk_far ?_ NB102_132.out _;(with_reducible repeat (first | refine blk_drewN ?_ _ | refine blk_drew ?_ | refine blk_alloc ?_ _));exact BK102.out) hb);replace BK120 := Aside0.mk (blk_below (g := gb120) (o := .cells #[.int .i64 t115, .int .i64 t116, .slice Ao53 t117.length co53] 27 (0, 0)) (by (with_reducible repeat (first | refine blk_drewN ?_ _ | refine blk_drew ?_ | refine blk_alloc ?_ _));refine blk_far ?_ NB120_132.out _;(with_reducible repeat (first | refine blk_drewN ?_ _ | refine blk_drew ?_ | refine blk_alloc ?_ _));refine blk_far ?_ NB120_132.out _;(with_reducible repeat (first | refine blk_drewN ?_ _ | refine blk_drew ?_ | refine blk_alloc ?_ _));refine blk_far ?_ NB120_132.out _;(with_reducible repeat (first | refine blk_drewN ?_ _ | refine blk_drew ?_ | refine blk_alloc ?_ _));exact BK120.out) hb);replace BK126 := Aside0.mk (blk_below (g := gb126) (o := .cells #[.int .i64 t121, .int .i64 t122, .slice Ao63 t123.length co63] 27 (0, 0)) (by (with_reducible repeat (first | refine blk_drewN ?_ _ | refine blk_drew ?_ | refine blk_alloc ?_ _));refine blk_far ?_ NB126_132.out _;(with_reducible repeat (first | refine blk_drewN ?_ _ | refine blk_drew ?_ | refine blk_alloc ?_ _));refine blk_far ?_ NB126_132.out _;(with_reducible repeat (first | refine blk_drewN ?_ _ | refine blk_drew ?_ | refine blk_alloc ?_ _));refine blk_far ?_ NB126_132.out _;(with_reducible repeat (first | refine blk_drewN ?_ _ | refine blk_drew ?_ | refine blk_alloc ?_ _));exact BK126.out) hb);replace BK132 := Aside0.mk (blk_below (g := gb132) (o := .cells #[.int .i64 t127, .int .i64 t128, .slice Ao73 t129.length co73] 27 (0, 0)) (by (with_reducible repeat (first | refine blk_drewN ?_ _ | refine blk_drew ?_ | refine blk_alloc ?_ _));refine blk_put (cs := #[.int .i64 t127, .int .i64 t128, .slice none 0 0]) ?_ 2 _ rfl;(with_reducible repeat (first | refine blk_drewN ?_ _ | refine blk_drew ?_ | refine blk_alloc ?_ _));refine blk_put (cs := #[.int .i64 t127, .int .i64 0, .slice none 0 0]) ?_ 1 _ rfl;(with_reducible repeat (first | refine blk_drewN ?_ _ | refine blk_drew ?_ | refine blk_alloc ?_ _));refine blk_put (cs := #[.int .i64 0, .int .i64 0, .slice none 0 0]) ?_ 0 _ rfl;(with_reducible repeat (first | refine blk_drewN ?_ _ | refine blk_drew ?_ | refine blk_alloc ?_ _));exact BK132.out) hb);replace HB := Aside0.mk (below_step (by repeat (first | (with_reducible first | exact HB.out | apply below_alloc | apply pw_below_drewN | apply below_drew1 | refine below_set ?_ GE101.out | refine below_set ?_ GE102.out | refine below_set ?_ GE120.out | refine below_set ?_ GE126.out | refine below_set ?_ GE132.out) | exact HB.out)) hb);(try clear hb);(try clear hb2);(try clear hk);(try clear hi);(try clear ho0)) | ((with_reducible refine gate_dst (N := 9) rfl ?_);refine box_event ?hg (N := 9) ?hd (cs := #[.int .i64 0, .int .i64 0, .slice none 0 0]) (t := 27) ?hr ?_;(case hd => rfl);(case hg => rfl);(case hr => first | (go_simp;done) | (go_simp;rfl));intro gb138 hg w76 hbox hb;replace HO109 := Aside0.mk (Kd.R_below (by exact HO109.out) hb);replace HO114 := Aside0.mk (Kd.R_below (by exact HO114.out) hb);replace HO119 := Aside0.mk (Kd.R_below (by exact HO119.out) hb);replace HO125 := Aside0.mk (Kd.R_below (by exact HO125.out) hb);replace HO131 := Aside0.mk (Kd.R_below (by exact HO131.out) hb);replace HO137 := Aside0.mk (Kd.R_below (by exact HO137.out) hb);have BK138 := Aside0.mk (hbox);have GW138 := Aside0.mk ((by rw [hg];exact (below_size (by repeat (first | (with_reducible first | exact HB.out | apply below_alloc | apply pw_below_drewN | apply below_drew1 | refine below_set ?_ GE101.out | refine below_set ?_ GE102.out | refine below_set ?_ GE120.out | refine below_set ?_ GE126.out | refine below_set ?_ GE132.out) | exact HB.out))) : w.heap.size ≤ gb138));have GE138 := Aside0.mk ((by rw [hg];exact (below_size (by repeat (first | (with_reducible first | exact HB.out | apply below_alloc | apply pw_below_drewN | apply below_drew1 | refine below_set ?_ GE101.out | refine below_set ?_ GE102.out | refine below_set ?_ GE120.out | refine below_set ?_ GE126.out | refine below_set ?_ GE132.out) | exact HB.out))) : w.heap.size ≤ gb138));replace HB := Aside0.mk (below_step (by repeat (first | (with_reducible first | exact HB.out | apply below_alloc | apply pw_below_drewN | apply below_drew1 | refine below_set ?_ GE101.out | refine below_set ?_ GE102.out | refine below_set ?_ GE120.out | refine below_set ?_ GE126.out | refine below_set ?_ GE132.out) | exact HB.out)) hb);have NB101_138 := Aside0.mk ((by rw [hg];exact Nat.ne_of_lt (blk_lt BK101.out) : gb101 ≠ gb138));have NB138_101 := Aside0.mk ((by rw [hg];exact Nat.ne_of_gt (blk_lt BK101.out) : gb138 ≠ gb101));replace BK101 := Aside0.mk (blk_below BK101.out hb);have NB102_138 := Aside0.mk ((by rw [hg];exact Nat.ne_of_lt (blk_lt BK102.out) : gb102 ≠ gb138));have NB138_102 := Aside0.mk ((by rw [hg];exact Nat.ne_of_gt (blk_lt BK102.out) : gb138 ≠ gb102));replace BK102 := Aside0.mk (blk_below BK102.out hb);have NB120_138 := Aside0.mk ((by rw [hg];exact Nat.ne_of_lt (blk_lt BK120.out) : gb120 ≠ gb138));have NB138_120 := Aside0.mk ((by rw [hg];exact Nat.ne_of_gt (blk_lt BK120.out) : gb138 ≠ gb120));replace BK120 := Aside0.mk (blk_below BK120.out hb);have NB126_138 := Aside0.mk ((by rw [hg];exact Nat.ne_of_lt (blk_lt BK126.out) : gb126 ≠ gb138));have NB138_126 := Aside0.mk ((by rw [hg];exact Nat.ne_of_gt (blk_lt BK126.out) : gb138 ≠ gb126));replace BK126 := Aside0.mk (blk_below BK126.out hb);have NB132_138 := Aside0.mk ((by rw [hg];exact Nat.ne_of_lt (blk_lt BK132.out) : gb132 ≠ gb138));have NB138_132 := Aside0.mk ((by rw [hg];exact Nat.ne_of_gt (blk_lt BK132.out) : gb138 ≠ gb132));replace BK132 := Aside0.mk (blk_below BK132.out hb);clear hb hbox hg;have hnb77 := NB138_101.out;have hnc77 := NB101_138.out;have hnb78 := NB138_102.out;have hnc78 := NB102_138.out;have hnb79 := NB138_120.out;have hnc79 := NB120_138.out;have hnb80 := NB138_126.out;have hnc80 := NB126_138.out;have hnb81 := NB138_132.out;have hnc81 := NB132_138.out;obtain ⟨hcz82_0, hcz82_1, hcz82_2, hfz82_0, hfz82_1, hfz82_2⟩ := bx3 BK138.out;obtain ⟨Ao83, co83, eo83⟩ := Kd.R_slice HO137.out;subst eo83;obtain ⟨hcz84_0, hcz84_1, hcz84_2, hfz84_0, hfz84_1, hfz84_2⟩ := bx3 BK120.out) | ((with_reducible refine gate_callee (f := 22) rfl ?_);refine goesL_ (some 38) rfl rfl Try.func22 (by kernel_rfl) rfl #[.agg #[.int .i64 t133, .int .i64 t134, .slice Ao83 t135.length co83], .agg #[.int .i64 t115, .int .i64 t116, .slice Ao53 t117.length co53]] rfl (by (try simp only [List.map_toArray, List.map_cons, List.map_nil]);first | done | rfl | (simp only [List.length_drop, List.length_take];rfl)) ?_;(with_reducible refine (laws_eqOcc.calls k t133 t134 _ _ t135 t115 t116 _ _ t117 true _ ?side1 ?side2 ?side3 ?side4 A25.out).mono ?_);(case side1 => refine (Kd.R_reads' (e := 3) (base := w.heap.size) (ok := fun k_ => (((((True ∧ some k_ ≠ (v108 : Value).ownBlock) ∧ some k_ ≠ (v113 : Value).ownBlock) ∧ some k_ ≠ (.slice Ao53 t117.length co53 : Value).ownBlock) ∧ some k_ ≠ (.slice Ao63 t123.length co63 : Value).ownBlock) ∧ some k_ ≠ (.slice Ao73 t129.length co73 : Value).ownBlock)) (n := t135.length) (c := co83) ?_).2.2;exact (by (with_reducible repeat (first | apply Kd.R_alloc | apply Kd.R_drewN | apply Kd.R_drew));exact (Kd.R_mono (Kd.R_far (p := ⟨gb138, 2, none⟩) (Kd.R_far (p := ⟨gb138, 1, none⟩) (Kd.R_far (p := ⟨gb138, 0, none⟩) (Kd.R_types HO137.out BK138.out (by decide)) (fun _ hk => hk.2) (.int .i64 t133)) (fun _ hk => hk.2) (.int .i64 t134)) (fun _ hk => hk.2) (.slice Ao83 t135.length co83)) (fun _ h_ => h_.1))));(case side2 => exact (Kd.R_reads' HO137.out).2.1);(case side3 => refine (Kd.R_reads' (e := 3) (base := w.heap.size) (ok := fun k_ => ((((some k_ ≠ (v108 : Value).ownBlock ∧ some k_ ≠ (v113 : Value).ownBlock) ∧ some k_ ≠ (.slice Ao63 t123.length co63 : Value).ownBlock) ∧ some k_ ≠ (.slice Ao73 t129.length co73 : Value).ownBlock) ∧ some k_ ≠ (.slice Ao83 t135.length co83 : Value).ownBlock)) (n := t117.length) (c := co53) ?_).2.2;exact (by (with_reducible repeat (first | apply Kd.R_alloc | apply Kd.R_drewN | apply Kd.R_drew));exact (Kd.R_mono (Kd.R_far (p := ⟨gb138, 2, none⟩) (Kd.R_far (p := ⟨gb138, 1, none⟩) (Kd.R_far (p := ⟨gb138, 0, none⟩) (Kd.R_types HO119.out BK138.out (by decide)) (fun _ hk => hk.2) (.int .i64 t133)) (fun _ hk => hk.2) (.int .i64 t134)) (fun _ hk => hk.2) (.slice Ao83 t135.length co83)) (fun _ h_ => h_.1))));(case side4 => exact (Kd.R_reads' HO119.out).2.1);rintro e w85 ⟨rfl, hb⟩;refine ⟨_, rfl, ?_⟩;replace HO109 := Aside0.mk (Kd.R_below (by (with_reducible repeat (first | apply Kd.R_alloc | apply Kd.R_drewN | apply Kd.R_drew));exact (Kd.R_mono (Kd.R_far (p := ⟨gb138, 2, none⟩) (Kd.R_far (p := ⟨gb138, 1, none⟩) (Kd.R_far (p := ⟨gb138, 0, none⟩) (Kd.R_types HO109.out BK138.out (by decide)) (fun _ hk => hk.2) (.int .i64 t133)) (fun _ hk => hk.2) (.int .i64 t134)) (fun _ hk => hk.2) (.slice Ao83 t135.length co83)) (fun _ h_ => h_.1))) hb);replace HO114 := Aside0.mk (Kd.R_below (by (with_reducible repeat (first | apply Kd.R_alloc | apply Kd.R_drewN | apply Kd.R_drew));exact (Kd.R_mono (Kd.R_far (p := ⟨gb138, 2, none⟩) (Kd.R_far (p := ⟨gb138, 1, none⟩) (Kd.R_far (p := ⟨gb138, 0, none⟩) (Kd.R_types HO114.out BK138.out (by decide)) (fun _ hk => hk.2) (.int .i64 t133)) (fun _ hk => hk.2) (.int .i64 t134)) (fun _ hk => hk.2) (.slice Ao83 t135.length co83)) (fun _ h_ => h_.1))) hb);replace HO119 := Aside0.mk (Kd.R_below (by (with_reducible repeat (first | apply Kd.R_alloc | apply Kd.R_drewN | apply Kd.R_drew));exact (Kd.R_mono (Kd.R_far (p := ⟨gb138, 2, none⟩) (Kd.R_far (p := ⟨gb138, 1, none⟩) (Kd.R_far (p := ⟨gb138, 0, none⟩) (Kd.R_types HO119.out BK138.out (by decide)) (fun _ hk => hk.2) (.int .i64 t133)) (fun _ hk => hk.2) (.int .i64 t134)) (fun _ hk => hk.2) (.slice Ao83 t135.length co83)) (fun _ h_ => h_.1))) hb);replace HO125 := Aside0.mk (Kd.R_below (by (with_reducible repeat (first | apply Kd.R_alloc | apply Kd.R_drewN | apply Kd.R_drew));exact (Kd.R_mono (Kd.R_far (p := ⟨gb138, 2, none⟩) (Kd.R_far (p := ⟨gb138, 1, none⟩) (Kd.R_far (p := ⟨gb138, 0, none⟩) (Kd.R_types HO125.out BK138.out (by decide)) (fun _ hk => hk.2) (.int .i64 t133)) (fun _ hk => hk.2) (.int .i64 t134)) (fun _ hk => hk.2) (.slice Ao83 t135.length co83)) (fun _ h_ => h_.1))) hb);replace HO131 := Aside0.mk (Kd.R_below (by (with_reducible repeat (first | apply Kd.R_alloc | apply Kd.R_drewN | apply Kd.R_drew));exact (Kd.R_mono (Kd.R_far (p := ⟨gb138, 2, none⟩) (Kd.R_far (p := ⟨gb138, 1, none⟩) (Kd.R_far (p := ⟨gb138, 0, none⟩) (Kd.R_types HO131.out BK138.out (by decide)) (fun _ hk => hk.2) (.int .i64 t133)) (fun _ hk => hk.2) (.int .i64 t134)) (fun _ hk => hk.2) (.slice Ao83 t135.length co83)) (fun _ h_ => h_.1))) hb);replace HO137 := Aside0.mk (Kd.R_below (by (with_reducible repeat (first | apply Kd.R_alloc | apply Kd.R_drewN | apply Kd.R_drew));exact (Kd.R_mono (Kd.R_far (p := ⟨gb138, 2, none⟩) (Kd.R_far (p := ⟨gb138, 1, none⟩) (Kd.R_far (p := ⟨gb138, 0, none⟩) (Kd.R_types HO137.out BK138.out (by decide)) (fun _ hk => hk.2) (.int .i64 t133)) (fun _ hk => hk.2) (.int .i64 t134)) (fun _ hk => hk.2) (.slice Ao83 t135.length co83)) (fun _ h_ => h_.1))) hb);replace BK101 := Aside0.mk (blk_below (g := gb101) (o := .cells #[.int .i64 a0_0, .int .i64 a0_1, .slice A0_2 l0_2.length c0_2] 24 (0, 0)) (by (with_reducible repeat (first | refine blk_drewN ?_ _ | refine blk_drew ?_ | refine blk_alloc ?_ _));refine blk_far ?_ NB101_138.out _;(with_reducible repeat (first | refine blk_drewN ?_ _ | refine blk_drew ?_ | refine blk_alloc ?_ _));refine blk_far ?_ NB101_138.out _;(with_reducible repeat (first | refine blk_drewN ?_ _ | refine blk_drew ?_ | refine blk_alloc ?_ _));refine blk_far ?_ NB101_138.out _;(with_reducible repeat (first | refine blk_drewN ?_ _ | refine blk_drew ?_ | refine blk_alloc ?_ _));exact BK101.out) hb);replace BK102 := Aside0.mk (blk_below (g := gb102) (o := .cells #[.int .i64 a1_0, .int .i64 a1_1, .slice A1_2 l1_2.length c1_2] 24 (0, 0)) (by (with_reducible repeat (first | refine blk_drewN ?_ _ | refine blk_drew ?_ | refine blk_alloc ?_ _));refine blk_far ?_ NB102_138.out _;(with_reducible repeat (first | refine blk_drewN ?_ _ | refine blk_drew ?_ | refine blk_alloc ?_ _));refine blk_far ?_ NB102_138.out _;(with_reducible repeat (first | refine blk_drewN ?_ _ | refine blk_drew ?_ | refine blk_alloc ?_ _));refine blk_far ?_ NB102_138.out _;(with_reducible repeat (first | refine blk_drewN ?_ _ | refine blk_drew ?_ | refine blk_alloc ?_ _));exact BK102.out) hb);replace BK120 := Aside0.mk (blk_below (g := gb120) (o := .cells #[.int .i64 t115, .int .i64 t116, .slice Ao53 t117.length co53] 27 (0, 0)) (by (with_reducible repeat (first | refine blk_drewN ?_ _ | refine blk_drew ?_ | refine blk_alloc ?_ _));refine blk_far ?_ NB120_138.out _;(with_reducible repeat (first | refine blk_drewN ?_ _ | refine blk_drew ?_ | refine blk_alloc ?_ _));refine blk_far ?_ NB120_138.out _;(with_reducible repeat (first | refine blk_drewN ?_ _ | refine blk_drew ?_ | refine blk_alloc ?_ _));refine blk_far ?_ NB120_138.out _;(with_reducible repeat (first | refine blk_drewN ?_ _ | refine blk_drew ?_ | refine blk_alloc ?_ _));exact BK120.out) hb);replace BK126 := Aside0.mk (blk_below (g := gb126) (o := .cells #[.int .i64 t121, .int .i64 t122, .slice Ao63 t123.length co63] 27 (0, 0)) (by (with_reducible repeat (first | refine blk_drewN ?_ _ | refine blk_drew ?_ | refine blk_alloc ?_ _));refine blk_far ?_ NB126_138.out _;(with_reducible repeat (first | refine blk_drewN ?_ _ | refine blk_drew ?_ | refine blk_alloc ?_ _));refine blk_far ?_ NB126_138.out _;(with_reducible repeat (first | refine blk_drewN ?_ _ | refine blk_drew ?_ | refine blk_alloc ?_ _));refine blk_far ?_ NB126_138.out _;(with_reducible repeat (first | refine blk_drewN ?_ _ | refine blk_drew ?_ | refine blk_alloc ?_ _));exact BK126.out) hb);replace BK132 := Aside0.mk (blk_below (g := gb132) (o := .cells #[.int .i64 t127, .int .i64 t128, .slice Ao73 t129.length co73] 27 (0, 0)) (by (with_reducible repeat (first | refine blk_drewN ?_ _ | refine blk_drew ?_ | refine blk_alloc ?_ _));refine blk_far ?_ NB132_138.out _;(with_reducible repeat (first | refine blk_drewN ?_ _ | refine blk_drew ?_ | refine blk_alloc ?_ _));refine blk_far ?_ NB132_138.out _;(with_reducible repeat (first | refine blk_drewN ?_ _ | refine blk_drew ?_ | refine blk_alloc ?_ _));refine blk_far ?_ NB132_138.out _;(with_reducible repeat (first | refine blk_drewN ?_ _ | refine blk_drew ?_ | refine blk_alloc ?_ _));exact BK132.out) hb);replace BK138 := Aside0.mk (blk_below (g := gb138) (o := .cells #[.int .i64 t133, .int .i64 t134, .slice Ao83 t135.length co83] 27 (0, 0)) (by (with_reducible repeat (first | refine blk_drewN ?_ _ | refine blk_drew ?_ | refine blk_alloc ?_ _));refine blk_put (cs := #[.int .i64 t133, .int .i64 t134, .slice none 0 0]) ?_ 2 _ rfl;(with_reducible repeat (first | refine blk_drewN ?_ _ | refine blk_drew ?_ | refine blk_alloc ?_ _));refine blk_put (cs := #[.int .i64 t133, .int .i64 0, .slice none 0 0]) ?_ 1 _ rfl;(with_reducible repeat (first | refine blk_drewN ?_ _ | refine blk_drew ?_ | refine blk_alloc ?_ _));refine blk_put (cs := #[.int .i64 0, .int .i64 0, .slice none 0 0]) ?_ 0 _ rfl;(with_reducible repeat (first | refine blk_drewN ?_ _ | refine blk_drew ?_ | refine blk_alloc ?_ _));exact BK138.out) hb);replace HB := Aside0.mk (below_step (by repeat (first | (with_reducible first | exact HB.out | apply below_alloc | apply pw_below_drewN | apply below_drew1 | refine below_set ?_ GE101.out | refine below_set ?_ GE102.out | refine below_set ?_ GE120.out | refine below_set ?_ GE126.out | refine below_set ?_ GE132.out | refine below_set ?_ GE138.out) | exact HB.out)) hb);(try clear hb);(try clear hb2);(try clear hk);(try clear hi)))
      replace HO109 := Aside0.mk (Kd.R_drew HO109.out)
      replace HO114 := Aside0.mk (Kd.R_drew HO114.out)
      replace HO119 := Aside0.mk (Kd.R_drew HO119.out)
      replace HO125 := Aside0.mk (Kd.R_drew HO125.out)
      replace HO131 := Aside0.mk (Kd.R_drew HO131.out)
      replace HO137 := Aside0.mk (Kd.R_drew HO137.out)
      replace BK101 := Aside0.mk (blk_drew BK101.out)
      replace BK102 := Aside0.mk (blk_drew BK102.out)
      replace BK120 := Aside0.mk (blk_drew BK120.out)
      replace BK126 := Aside0.mk (blk_drew BK126.out)
      replace BK132 := Aside0.mk (blk_drew BK132.out)
      replace BK138 := Aside0.mk (blk_drew BK138.out)
      replace HB := Aside0.mk (below_drew1 HB.out)
      refine start_ (n := 5) (S := fun w' => w'.cell? ⟨gb126, 0, none⟩ = some (.int .i64 t121) ∧ w'.cell? ⟨gb126, 1, none⟩ = some (.int .i64 t122) ∧ w'.cell? ⟨gb126, 2, none⟩ = some (.slice Ao63 t123.length co63) ∧ w'.cell? ⟨gb101, 0, none⟩ = some (.int .i64 a0_0) ∧ w'.cell? ⟨gb101, 1, none⟩ = some (.int .i64 a0_1) ∧ w'.cell? ⟨gb101, 2, none⟩ = some (.slice A0_2 l0_2.length c0_2)) (ds := []) #[false, false, false, false, false] (by kernel_rfl) rfl rfl ⟨(blk_cell BK126.out 0).trans rfl, (blk_cell BK126.out 1).trans rfl, (blk_cell BK126.out 2).trans rfl, (blk_cell BK101.out 0).trans rfl, (blk_cell BK101.out 1).trans rfl, (blk_cell BK101.out 2).trans rfl⟩ (fun hHeld => ?_)
      generalize w85.drew = w86 at HO109 HO114 HO119 HO125 HO131 HO137 BK101 BK102 BK120 BK126 BK132 BK138 HB hHeld ⊢
      refine take_ (i := 0) (N := some 40) (v := ?_) (a' := ?_) #[true, false, false, false, false] rfl rfl (by kernel_rfl) (fun _ _ _ h => h) (Or.inl ⟨by rfl, ?_⟩) hHeld ?_ ?_
      rotate_left
      ·rintro w' ⟨s0, s1, s2, s3, s4, s5⟩
       go_simp
       with_reducible rfl
      rotate_left
      ·simp only [Act.put, List.setIfInBounds_toArray, List.set_cons_zero, List.set_cons_succ, i64_w, i32_w]
       rfl
      refine take_ (i := 1) (N := some 41) (v := ?_) (a' := ?_) #[true, true, false, false, false] rfl rfl (by kernel_rfl) (fun _ _ _ h => h) (Or.inl ⟨by rfl, ?_⟩) hHeld ?_ ?_
      rotate_left
      ·rintro w' ⟨s0, s1, s2, s3, s4, s5⟩
       go_simp
       with_reducible rfl
      rotate_left
      ·simp only [Act.put, List.setIfInBounds_toArray, List.set_cons_zero, List.set_cons_succ, i64_w, i32_w]
       rfl
      refine one_ (i := 2) (N := some 42) #[true, true, true, false, false] rfl rfl (by kernel_rfl) (by decide) (fun K hK => ?_)
      refine goes_ Try.func20 (by kernel_rfl) rfl #[.agg #[.int .i64 a0_0, .int .i64 a0_1, .slice A0_2 l0_2.length c0_2]] (by rfl) rfl rfl (by (try simp only [List.map_toArray, List.map_cons, List.map_nil]);first | done | rfl | (simp only [List.length_drop, List.length_take];rfl)) ?_
      with_reducible refine (laws_toOcc.calls k a0_0 a0_1 _ _ l0_2 t140 t141 t142 _ ?side1 ?side2 A27.out).mono ?_
      (case side1 => repeat (first | exact (Kd.C_below HR0_2.out HB.out) | (with_reducible refine Kd.C_alloc ?_ _) | (with_reducible refine Kd.C_drewN ?_ _) | (with_reducible refine Kd.C_drew ?_)))
      (case side2 => exact HC0_2.out)
      rintro e w87 ⟨v143, rfl, ho0, hb⟩
      refine ⟨_, rfl, ?_⟩
      have HO144 := Aside0.mk (Kd.R_lower (Kd.R_new' (Kd.R_new' (Kd.R_new' (Kd.R_new' (Kd.R_new' (Kd.R_new' ho0 (Kd.R_lt (by exact HO109.out))) (Kd.R_lt (by exact HO114.out))) (Kd.R_lt (by exact HO119.out))) (Kd.R_lt (by exact HO125.out))) (Kd.R_lt (by exact HO131.out))) (Kd.R_lt (by exact HO137.out))) (below_size (by repeat (first | (with_reducible first | exact HB.out | apply below_alloc | apply pw_below_drewN | apply below_drew1 | refine below_set ?_ GE101.out | refine below_set ?_ GE102.out | refine below_set ?_ GE120.out | refine below_set ?_ GE126.out | refine below_set ?_ GE132.out | refine below_set ?_ GE138.out) | exact HB.out))))
      replace HO109 := Aside0.mk (Kd.R_elder' (by exact HO109.out) (Kd.R_base ho0) hb)
      replace HO114 := Aside0.mk (Kd.R_elder' (by exact HO114.out) (Kd.R_base ho0) hb)
      replace HO119 := Aside0.mk (Kd.R_elder' (by exact HO119.out) (Kd.R_base ho0) hb)
      replace HO125 := Aside0.mk (Kd.R_elder' (by exact HO125.out) (Kd.R_base ho0) hb)
      replace HO131 := Aside0.mk (Kd.R_elder' (by exact HO131.out) (Kd.R_base ho0) hb)
      replace HO137 := Aside0.mk (Kd.R_elder' (by exact HO137.out) (Kd.R_base ho0) hb)
      replace BK101 := Aside0.mk (blk_below BK101.out hb)
      replace BK102 := Aside0.mk (blk_below BK102.out hb)
      replace BK120 := Aside0.mk (blk_below BK120.out hb)
      replace BK126 := Aside0.mk (blk_below BK126.out hb)
      replace BK132 := Aside0.mk (blk_below BK132.out hb)
      replace BK138 := Aside0.mk (blk_below BK138.out hb)
      replace HB := Aside0.mk (below_step (by repeat (first | (with_reducible first | exact HB.out | apply below_alloc | apply pw_below_drewN | apply below_drew1 | refine below_set ?_ GE101.out | refine below_set ?_ GE102.out | refine below_set ?_ GE120.out | refine below_set ?_ GE126.out | refine below_set ?_ GE132.out | refine below_set ?_ GE138.out) | exact HB.out)) hb)
      (try clear hb)
      (try clear hb2)
      (try clear hk)
      (try clear hi)
      (try clear ho0)
      obtain ⟨Ao88, co88, eo88⟩ := Kd.R_slice HO144.out
      (first | subst eo88 | (injection eo88 with f1_ f2_ f3_;have f4_ := f1_.symm;have f5_ := f3_.symm;clear f1_ f2_ f3_;subst f4_;subst f5_))
      refine hK.out _ _ ⟨(blk_cell BK126.out 0).trans rfl, (blk_cell BK126.out 1).trans rfl, (blk_cell BK126.out 2).trans rfl, (blk_cell BK101.out 0).trans rfl, (blk_cell BK101.out 1).trans rfl, (blk_cell BK101.out 2).trans rfl⟩ (fun hHeld => ?_)
      clear hK K
      refine norm_ (a' := ?_) ?_ ?_
      rotate_left
      ·show Act.put _ (some 42) _ = _
       simp only [Act.put, List.setIfInBounds_toArray, List.set_cons_zero, List.set_cons_succ, i64_w, i32_w]
       rfl
      refine one_ (i := 3) (N := some 43) #[true, true, true, true, false] rfl rfl (by kernel_rfl) (by decide) (fun K hK => ?_)
      refine goes_ Try.func22 (by kernel_rfl) rfl #[.agg #[.int .i64 t121, .int .i64 t122, .slice Ao63 t123.length co63], .agg #[.int .i64 t140, .int .i64 t141, .slice Ao88 t142.length co88]] (by rfl) rfl rfl (by (try simp only [List.map_toArray, List.map_cons, List.map_nil]);first | done | rfl | (simp only [List.length_drop, List.length_take];rfl)) ?_
      with_reducible refine (laws_eqOcc.calls k t121 t122 _ _ t123 t140 t141 _ _ t142 true _ ?side1 ?side2 ?side3 ?side4 A28.out).mono ?_
      (case side1 => repeat (first | exact (Kd.R_reads' HO125.out).2.2 | (with_reducible refine Kd.C_alloc ?_ _) | (with_reducible refine Kd.C_drewN ?_ _) | (with_reducible refine Kd.C_drew ?_)))
      (case side2 => exact (Kd.R_reads' HO125.out).2.1)
      (case side3 => repeat (first | exact (Kd.R_reads' HO144.out).2.2 | (with_reducible refine Kd.C_alloc ?_ _) | (with_reducible refine Kd.C_drewN ?_ _) | (with_reducible refine Kd.C_drew ?_)))
      (case side4 => exact (Kd.R_reads' HO144.out).2.1)
      rintro e w89 ⟨rfl, hb⟩
      refine ⟨_, rfl, ?_⟩
      replace HO109 := Aside0.mk (Kd.R_below (by exact HO109.out) hb)
      replace HO114 := Aside0.mk (Kd.R_below (by exact HO114.out) hb)
      replace HO119 := Aside0.mk (Kd.R_below (by exact HO119.out) hb)
      replace HO125 := Aside0.mk (Kd.R_below (by exact HO125.out) hb)
      replace HO131 := Aside0.mk (Kd.R_below (by exact HO131.out) hb)
      replace HO137 := Aside0.mk (Kd.R_below (by exact HO137.out) hb)
      replace HO144 := Aside0.mk (Kd.R_below (by exact HO144.out) hb)
      replace BK101 := Aside0.mk (blk_below BK101.out hb)
      replace BK102 := Aside0.mk (blk_below BK102.out hb)
      replace BK120 := Aside0.mk (blk_below BK120.out hb)
      replace BK126 := Aside0.mk (blk_below BK126.out hb)
      replace BK132 := Aside0.mk (blk_below BK132.out hb)
      replace BK138 := Aside0.mk (blk_below BK138.out hb)
      replace HB := Aside0.mk (below_step (by repeat (first | (with_reducible first | exact HB.out | apply below_alloc | apply pw_below_drewN | apply below_drew1 | refine below_set ?_ GE101.out | refine below_set ?_ GE102.out | refine below_set ?_ GE120.out | refine below_set ?_ GE126.out | refine below_set ?_ GE132.out | refine below_set ?_ GE138.out) | exact HB.out)) hb)
      (try clear hb)
      (try clear hb2)
      (try clear hk)
      (try clear hi)
      refine hK.out _ _ ⟨(blk_cell BK126.out 0).trans rfl, (blk_cell BK126.out 1).trans rfl, (blk_cell BK126.out 2).trans rfl, (blk_cell BK101.out 0).trans rfl, (blk_cell BK101.out 1).trans rfl, (blk_cell BK101.out 2).trans rfl⟩ (fun hHeld => ?_)
      clear hK K
      refine norm_ (a' := ?_) ?_ ?_
      rotate_left
      ·show Act.put _ (some 43) _ = _
       simp only [Act.put, List.setIfInBounds_toArray, List.set_cons_zero, List.set_cons_succ, i64_w, i32_w]
       rfl
      refine pure_ (i := 4) (N := some 44) (v := ?_) (a' := ?_) #[true, true, true, true, true] rfl rfl (by kernel_rfl) (fun _ _ _ h => h) (Or.inl ⟨by rfl, ?_⟩) ?_ ?_
      rotate_left
      ·intro w'
       go_simp
       with_reducible rfl
      rotate_left
      ·simp only [Act.put, List.setIfInBounds_toArray, List.set_cons_zero, List.set_cons_succ, i64_w, i32_w]
       rfl
      refine done_ (by kernel_rfl) ?_
      try go_wp2
      replace HO109 := Aside0.mk (Kd.R_drew HO109.out)
      replace HO114 := Aside0.mk (Kd.R_drew HO114.out)
      replace HO119 := Aside0.mk (Kd.R_drew HO119.out)
      replace HO125 := Aside0.mk (Kd.R_drew HO125.out)
      replace HO131 := Aside0.mk (Kd.R_drew HO131.out)
      replace HO137 := Aside0.mk (Kd.R_drew HO137.out)
      replace HO144 := Aside0.mk (Kd.R_drew HO144.out)
      replace BK101 := Aside0.mk (blk_drew BK101.out)
      replace BK102 := Aside0.mk (blk_drew BK102.out)
      replace BK120 := Aside0.mk (blk_drew BK120.out)
      replace BK126 := Aside0.mk (blk_drew BK126.out)
      replace BK132 := Aside0.mk (blk_drew BK132.out)
      replace BK138 := Aside0.mk (blk_drew BK138.out)
      replace HB := Aside0.mk (below_drew1 HB.out)
      refine start_ (n := 5) (S := fun w' => w'.cell? ⟨gb132, 0, none⟩ = some (.int .i64 t127) ∧ w'.cell? ⟨gb132, 1, none⟩ = some (.int .i64 t128) ∧ w'.cell? ⟨gb132, 2, none⟩ = some (.slice Ao73 t129.length co73) ∧ w'.cell? ⟨gb102, 0, none⟩ = some (.int .i64 a1_0) ∧ w'.cell? ⟨gb102, 1, none⟩ = some (.int .i64 a1_1) ∧ w'.cell? ⟨gb102, 2, none⟩ = some (.slice A1_2 l1_2.length c1_2)) (ds := []) #[false, false, false, false, false] (by kernel_rfl) rfl rfl ⟨(blk_cell BK132.out 0).trans rfl, (blk_cell BK132.out 1).trans rfl, (blk_cell BK132.out 2).trans rfl, (blk_cell BK102.out 0).trans rfl, (blk_cell BK102.out 1).trans rfl, (blk_cell BK102.out 2).trans rfl⟩ (fun hHeld => ?_)
      generalize w89.drew = w90 at HO109 HO114 HO119 HO125 HO131 HO137 HO144 BK101 BK102 BK120 BK126 BK132 BK138 HB hHeld ⊢
      refine take_ (i := 0) (N := some 45) (v := ?_) (a' := ?_) #[true, false, false, false, false] rfl rfl (by kernel_rfl) (fun _ _ _ h => h) (Or.inl ⟨by rfl, ?_⟩) hHeld ?_ ?_
      rotate_left
      ·rintro w' ⟨s0, s1, s2, s3, s4, s5⟩
       go_simp
       with_reducible rfl
      rotate_left
      ·simp only [Act.put, List.setIfInBounds_toArray, List.set_cons_zero, List.set_cons_succ, i64_w, i32_w]
       rfl
      refine take_ (i := 1) (N := some 46) (v := ?_) (a' := ?_) #[true, true, false, false, false] rfl rfl (by kernel_rfl) (fun _ _ _ h => h) (Or.inl ⟨by rfl, ?_⟩) hHeld ?_ ?_
      rotate_left
      ·rintro w' ⟨s0, s1, s2, s3, s4, s5⟩
       go_simp
       with_reducible rfl
      rotate_left
      ·simp only [Act.put, List.setIfInBounds_toArray, List.set_cons_zero, List.set_cons_succ, i64_w, i32_w]
       rfl
      refine one_ (i := 2) (N := some 47) #[true, true, true, false, false] rfl rfl (by kernel_rfl) (by decide) (fun K hK => ?_)
      refine goes_ Try.func20 (by kernel_rfl) rfl #[.agg #[.int .i64 a1_0, .int .i64 a1_1, .slice A1_2 l1_2.length c1_2]] (by rfl) rfl rfl (by (try simp only [List.map_toArray, List.map_cons, List.map_nil]);first | done | rfl | (simp only [List.length_drop, List.length_take];rfl)) ?_
      with_reducible refine (laws_toOcc.calls k a1_0 a1_1 _ _ l1_2 t146 t147 t148 _ ?side1 ?side2 A30.out).mono ?_
      (case side1 => repeat (first | exact (Kd.C_below HR1_2.out HB.out) | (with_reducible refine Kd.C_alloc ?_ _) | (with_reducible refine Kd.C_drewN ?_ _) | (with_reducible refine Kd.C_drew ?_)))
      (case side2 => exact HC1_2.out)
      rintro e w91 ⟨v149, rfl, ho0, hb⟩
      refine ⟨_, rfl, ?_⟩
      have HO150 := Aside0.mk (Kd.R_lower (Kd.R_new' (Kd.R_new' (Kd.R_new' (Kd.R_new' (Kd.R_new' (Kd.R_new' (Kd.R_new' ho0 (Kd.R_lt (by exact HO109.out))) (Kd.R_lt (by exact HO114.out))) (Kd.R_lt (by exact HO119.out))) (Kd.R_lt (by exact HO125.out))) (Kd.R_lt (by exact HO131.out))) (Kd.R_lt (by exact HO137.out))) (Kd.R_lt (by exact HO144.out))) (below_size (by repeat (first | (with_reducible first | exact HB.out | apply below_alloc | apply pw_below_drewN | apply below_drew1 | refine below_set ?_ GE101.out | refine below_set ?_ GE102.out | refine below_set ?_ GE120.out | refine below_set ?_ GE126.out | refine below_set ?_ GE132.out | refine below_set ?_ GE138.out) | exact HB.out))))
      replace HO109 := Aside0.mk (Kd.R_elder' (by exact HO109.out) (Kd.R_base ho0) hb)
      replace HO114 := Aside0.mk (Kd.R_elder' (by exact HO114.out) (Kd.R_base ho0) hb)
      replace HO119 := Aside0.mk (Kd.R_elder' (by exact HO119.out) (Kd.R_base ho0) hb)
      replace HO125 := Aside0.mk (Kd.R_elder' (by exact HO125.out) (Kd.R_base ho0) hb)
      replace HO131 := Aside0.mk (Kd.R_elder' (by exact HO131.out) (Kd.R_base ho0) hb)
      replace HO137 := Aside0.mk (Kd.R_elder' (by exact HO137.out) (Kd.R_base ho0) hb)
      replace HO144 := Aside0.mk (Kd.R_elder' (by exact HO144.out) (Kd.R_base ho0) hb)
      replace BK101 := Aside0.mk (blk_below BK101.out hb)
      replace BK102 := Aside0.mk (blk_below BK102.out hb)
      replace BK120 := Aside0.mk (blk_below BK120.out hb)
      replace BK126 := Aside0.mk (blk_below BK126.out hb)
      replace BK132 := Aside0.mk (blk_below BK132.out hb)
      replace BK138 := Aside0.mk (blk_below BK138.out hb)
      replace HB := Aside0.mk (below_step (by repeat (first | (with_reducible first | exact HB.out | apply below_alloc | apply pw_below_drewN | apply below_drew1 | refine below_set ?_ GE101.out | refine below_set ?_ GE102.out | refine below_set ?_ GE120.out | refine below_set ?_ GE126.out | refine below_set ?_ GE132.out | refine below_set ?_ GE138.out) | exact HB.out)) hb)
      (try clear hb)
      (try clear hb2)
      (try clear hk)
      (try clear hi)
      (try clear ho0)
      obtain ⟨Ao92, co92, eo92⟩ := Kd.R_slice HO150.out
      (first | subst eo92 | (injection eo92 with f1_ f2_ f3_;have f4_ := f1_.symm;have f5_ := f3_.symm;clear f1_ f2_ f3_;subst f4_;subst f5_))
      refine hK.out _ _ ⟨(blk_cell BK132.out 0).trans rfl, (blk_cell BK132.out 1).trans rfl, (blk_cell BK132.out 2).trans rfl, (blk_cell BK102.out 0).trans rfl, (blk_cell BK102.out 1).trans rfl, (blk_cell BK102.out 2).trans rfl⟩ (fun hHeld => ?_)
      clear hK K
      refine norm_ (a' := ?_) ?_ ?_
      rotate_left
      ·show Act.put _ (some 47) _ = _
       simp only [Act.put, List.setIfInBounds_toArray, List.set_cons_zero, List.set_cons_succ, i64_w, i32_w]
       rfl
      refine one_ (i := 3) (N := some 48) #[true, true, true, true, false] rfl rfl (by kernel_rfl) (by decide) (fun K hK => ?_)
      refine goes_ Try.func22 (by kernel_rfl) rfl #[.agg #[.int .i64 t127, .int .i64 t128, .slice Ao73 t129.length co73], .agg #[.int .i64 t146, .int .i64 t147, .slice Ao92 t148.length co92]] (by rfl) rfl rfl (by (try simp only [List.map_toArray, List.map_cons, List.map_nil]);first | done | rfl | (simp only [List.length_drop, List.length_take];rfl)) ?_
      with_reducible refine (laws_eqOcc.calls k t127 t128 _ _ t129 t146 t147 _ _ t148 true _ ?side1 ?side2 ?side3 ?side4 A31.out).mono ?_
      (case side1 => repeat (first | exact (Kd.R_reads' HO131.out).2.2 | (with_reducible refine Kd.C_alloc ?_ _) | (with_reducible refine Kd.C_drewN ?_ _) | (with_reducible refine Kd.C_drew ?_)))
      (case side2 => exact (Kd.R_reads' HO131.out).2.1)
      (case side3 => repeat (first | exact (Kd.R_reads' HO150.out).2.2 | (with_reducible refine Kd.C_alloc ?_ _) | (with_reducible refine Kd.C_drewN ?_ _) | (with_reducible refine Kd.C_drew ?_)))
      (case side4 => exact (Kd.R_reads' HO150.out).2.1)
      rintro e w93 ⟨rfl, hb⟩
      refine ⟨_, rfl, ?_⟩
      replace HO109 := Aside0.mk (Kd.R_below (by exact HO109.out) hb)
      replace HO114 := Aside0.mk (Kd.R_below (by exact HO114.out) hb)
      replace HO119 := Aside0.mk (Kd.R_below (by exact HO119.out) hb)
      replace HO125 := Aside0.mk (Kd.R_below (by exact HO125.out) hb)
      replace HO131 := Aside0.mk (Kd.R_below (by exact HO131.out) hb)
      replace HO137 := Aside0.mk (Kd.R_below (by exact HO137.out) hb)
      replace HO144 := Aside0.mk (Kd.R_below (by exact HO144.out) hb)
      replace HO150 := Aside0.mk (Kd.R_below (by exact HO150.out) hb)
      replace BK101 := Aside0.mk (blk_below BK101.out hb)
      replace BK102 := Aside0.mk (blk_below BK102.out hb)
      replace BK120 := Aside0.mk (blk_below BK120.out hb)
      replace BK126 := Aside0.mk (blk_below BK126.out hb)
      replace BK132 := Aside0.mk (blk_below BK132.out hb)
      replace BK138 := Aside0.mk (blk_below BK138.out hb)
      replace HB := Aside0.mk (below_step (by repeat (first | (with_reducible first | exact HB.out | apply below_alloc | apply pw_below_drewN | apply below_drew1 | refine below_set ?_ GE101.out | refine below_set ?_ GE102.out | refine below_set ?_ GE120.out | refine below_set ?_ GE126.out | refine below_set ?_ GE132.out | refine below_set ?_ GE138.out) | exact HB.out)) hb)
      (try clear hb)
      (try clear hb2)
      (try clear hk)
      (try clear hi)
      refine hK.out _ _ ⟨(blk_cell BK132.out 0).trans rfl, (blk_cell BK132.out 1).trans rfl, (blk_cell BK132.out 2).trans rfl, (blk_cell BK102.out 0).trans rfl, (blk_cell BK102.out 1).trans rfl, (blk_cell BK102.out 2).trans rfl⟩ (fun hHeld => ?_)
      clear hK K
      refine norm_ (a' := ?_) ?_ ?_
      rotate_left
      ·show Act.put _ (some 48) _ = _
       simp only [Act.put, List.setIfInBounds_toArray, List.set_cons_zero, List.set_cons_succ, i64_w, i32_w]
       rfl
      refine pure_ (i := 4) (N := some 49) (v := ?_) (a' := ?_) #[true, true, true, true, true] rfl rfl (by kernel_rfl) (fun _ _ _ h => h) (Or.inl ⟨by rfl, ?_⟩) ?_ ?_
      rotate_left
      ·intro w'
       go_simp
       with_reducible rfl
      rotate_left
      ·simp only [Act.put, List.setIfInBounds_toArray, List.set_cons_zero, List.set_cons_succ, i64_w, i32_w]
       rfl
      refine done_ (by kernel_rfl) ?_
      obtain ⟨hcz94_0, hcz94_1, hcz94_2, hfz94_0, hfz94_1, hfz94_2⟩ := bx3 BK126.out
      go_upto_region 21 with (first | ((with_reducible refine gate_callee (f := 50) rfl ?_);refine goesL_ (some 52) rfl rfl Try.func50 (by kernel_rfl) rfl #[.agg #[.int .i64 t121, .int .i64 t122, .slice Ao63 t123.length co63], .int .i64 1] rfl (by (try simp only [List.map_toArray, List.map_cons, List.map_nil]);first | done | rfl | (simp only [List.length_drop, List.length_take];rfl)) ?_;(with_reducible refine (laws_markOcc.calls k t121 t122 (fun k_ => some k_ = (.slice Ao63 t123.length co63 : Value).ownBlock) (.slice Ao63 t123.length co63) t123 1 t152 t153 w _ ?side1 ?side2 A33.out).mono ?_);(case side1 => repeat (first | (with_reducible first | exact HB.out | apply below_alloc | apply pw_below_drewN | apply below_drew1 | refine below_set ?_ GE101.out | refine below_set ?_ GE102.out | refine below_set ?_ GE120.out | refine below_set ?_ GE126.out | refine below_set ?_ GE132.out | refine below_set ?_ GE138.out) | exact HB.out));(case side2 => exact Kd.R_tight rfl HO125.out);rintro e w95 ⟨rfl, hy0, hb, hkp⟩;refine ⟨_, rfl, ?_⟩;replace BK101 := Aside0.mk (blk_kept (by (with_reducible repeat (first | refine blk_drewN ?_ _ | refine blk_drew ?_ | refine blk_alloc ?_ _));exact BK101.out) hkp (fun hs_ => (fun e_ => (Kd.R_ne HO125.out BK101.out (by decide)) e_) hs_));replace BK102 := Aside0.mk (blk_kept (by (with_reducible repeat (first | refine blk_drewN ?_ _ | refine blk_drew ?_ | refine blk_alloc ?_ _));exact BK102.out) hkp (fun hs_ => (fun e_ => (Kd.R_ne HO125.out BK102.out (by decide)) e_) hs_));replace HO109 := Aside0.mk (Kd.R_mono (ok' := fun k_ => some k_ ≠ (v113 : Value).ownBlock ∧ some k_ ≠ (.slice Ao53 t117.length co53 : Value).ownBlock ∧ some k_ ≠ (.slice Ao63 t123.length co63 : Value).ownBlock ∧ some k_ ≠ (.slice Ao73 t129.length co73 : Value).ownBlock ∧ some k_ ≠ (.slice Ao83 t135.length co83 : Value).ownBlock ∧ some k_ ≠ (.slice Ao88 t142.length co88 : Value).ownBlock ∧ some k_ ≠ (.slice Ao92 t148.length co92 : Value).ownBlock) (Kd.R_keptB (HO109.out) hkp (fun k_ hk_ hs_ => (hk_.1.1.1.1.2) hs_)) (fun k_ hk_ => ⟨hk_.1.1.1.1.1.1.1, hk_.1.1.1.1.1.1.2, hk_.1.1.1.1.1.2, hk_.1.1.1.1.2, hk_.1.1.1.2, hk_.1.1.2, hk_.1.2⟩));replace HO114 := Aside0.mk (Kd.R_mono (ok' := fun k_ => some k_ ≠ (v108 : Value).ownBlock ∧ some k_ ≠ (.slice Ao53 t117.length co53 : Value).ownBlock ∧ some k_ ≠ (.slice Ao63 t123.length co63 : Value).ownBlock ∧ some k_ ≠ (.slice Ao73 t129.length co73 : Value).ownBlock ∧ some k_ ≠ (.slice Ao83 t135.length co83 : Value).ownBlock ∧ some k_ ≠ (.slice Ao88 t142.length co88 : Value).ownBlock ∧ some k_ ≠ (.slice Ao92 t148.length co92 : Value).ownBlock) (Kd.R_keptB (HO114.out) hkp (fun k_ hk_ hs_ => (hk_.1.1.1.1.2) hs_)) (fun k_ hk_ => ⟨hk_.1.1.1.1.1.1.1, hk_.1.1.1.1.1.1.2, hk_.1.1.1.1.1.2, hk_.1.1.1.1.2, hk_.1.1.1.2, hk_.1.1.2, hk_.1.2⟩));replace HO119 := Aside0.mk (Kd.R_mono (ok' := fun k_ => some k_ ≠ (v108 : Value).ownBlock ∧ some k_ ≠ (v113 : Value).ownBlock ∧ some k_ ≠ (.slice Ao63 t123.length co63 : Value).ownBlock ∧ some k_ ≠ (.slice Ao73 t129.length co73 : Value).ownBlock ∧ some k_ ≠ (.slice Ao83 t135.length co83 : Value).ownBlock ∧ some k_ ≠ (.slice Ao88 t142.length co88 : Value).ownBlock ∧ some k_ ≠ (.slice Ao92 t148.length co92 : Value).ownBlock) (Kd.R_keptB (HO119.out) hkp (fun k_ hk_ hs_ => (hk_.1.1.1.1.2) hs_)) (fun k_ hk_ => ⟨hk_.1.1.1.1.1.1.1, hk_.1.1.1.1.1.1.2, hk_.1.1.1.1.1.2, hk_.1.1.1.1.2, hk_.1.1.1.2, hk_.1.1.2, hk_.1.2⟩));replace BK120 := Aside0.mk (blk_kept (by (with_reducible repeat (first | refine blk_drewN ?_ _ | refine blk_drew ?_ | refine blk_alloc ?_ _));exact BK120.out) hkp (fun hs_ => (fun e_ => (Kd.R_ne HO125.out BK120.out (by decide)) e_) hs_));replace BK126 := Aside0.mk (blk_kept (by (with_reducible repeat (first | refine blk_drewN ?_ _ | refine blk_drew ?_ | refine blk_alloc ?_ _));exact BK126.out) hkp (fun hs_ => (fun e_ => (Kd.R_ne HO125.out BK126.out (by decide)) e_) hs_));replace HO131 := Aside0.mk (Kd.R_mono (ok' := fun k_ => some k_ ≠ (v108 : Value).ownBlock ∧ some k_ ≠ (v113 : Value).ownBlock ∧ some k_ ≠ (.slice Ao53 t117.length co53 : Value).ownBlock ∧ some k_ ≠ (.slice Ao63 t123.length co63 : Value).ownBlock ∧ some k_ ≠ (.slice Ao83 t135.length co83 : Value).ownBlock ∧ some k_ ≠ (.slice Ao88 t142.length co88 : Value).ownBlock ∧ some k_ ≠ (.slice Ao92 t148.length co92 : Value).ownBlock) (Kd.R_keptB (HO131.out) hkp (fun k_ hk_ hs_ => (hk_.1.1.1.2) hs_)) (fun k_ hk_ => ⟨hk_.1.1.1.1.1.1.1.2, hk_.1.1.1.1.1.1.2, hk_.1.1.1.1.1.2, hk_.1.1.1.1.2, hk_.1.1.1.2, hk_.1.1.2, hk_.1.2⟩));replace BK132 := Aside0.mk (blk_kept (by (with_reducible repeat (first | refine blk_drewN ?_ _ | refine blk_drew ?_ | refine blk_alloc ?_ _));exact BK132.out) hkp (fun hs_ => (fun e_ => (Kd.R_ne HO125.out BK132.out (by decide)) e_) hs_));replace HO137 := Aside0.mk (Kd.R_mono (ok' := fun k_ => some k_ ≠ (v108 : Value).ownBlock ∧ some k_ ≠ (v113 : Value).ownBlock ∧ some k_ ≠ (.slice Ao53 t117.length co53 : Value).ownBlock ∧ some k_ ≠ (.slice Ao63 t123.length co63 : Value).ownBlock ∧ some k_ ≠ (.slice Ao73 t129.length co73 : Value).ownBlock ∧ some k_ ≠ (.slice Ao88 t142.length co88 : Value).ownBlock ∧ some k_ ≠ (.slice Ao92 t148.length co92 : Value).ownBlock) (Kd.R_keptB (HO137.out) hkp (fun k_ hk_ hs_ => (hk_.1.1.1.2) hs_)) (fun k_ hk_ => ⟨hk_.1.1.1.1.1.1.1.2, hk_.1.1.1.1.1.1.2, hk_.1.1.1.1.1.2, hk_.1.1.1.1.2, hk_.1.1.1.2, hk_.1.1.2, hk_.1.2⟩));replace BK138 := Aside0.mk (blk_kept (by (with_reducible repeat (first | refine blk_drewN ?_ _ | refine blk_drew ?_ | refine blk_alloc ?_ _));exact BK138.out) hkp (fun hs_ => (fun e_ => (Kd.R_ne HO125.out BK138.out (by decide)) e_) hs_));replace HO125 := Aside0.mk (Kd.R_reok rfl hy0 (fun k_ e_ => HO125.out.1 k_ e_));replace HO144 := Aside0.mk (Kd.R_mono (ok' := fun k_ => some k_ ≠ (v108 : Value).ownBlock ∧ some k_ ≠ (v113 : Value).ownBlock ∧ some k_ ≠ (.slice Ao53 t117.length co53 : Value).ownBlock ∧ some k_ ≠ (.slice Ao63 t123.length co63 : Value).ownBlock ∧ some k_ ≠ (.slice Ao73 t129.length co73 : Value).ownBlock ∧ some k_ ≠ (.slice Ao83 t135.length co83 : Value).ownBlock ∧ some k_ ≠ (.slice Ao92 t148.length co92 : Value).ownBlock) (Kd.R_keptB (HO144.out) hkp (fun k_ hk_ hs_ => (hk_.1.1.1.2) hs_)) (fun k_ hk_ => ⟨hk_.1.1.1.1.1.1.1.2, hk_.1.1.1.1.1.1.2, hk_.1.1.1.1.1.2, hk_.1.1.1.1.2, hk_.1.1.1.2, hk_.1.1.2, hk_.1.2⟩));replace HO150 := Aside0.mk (Kd.R_mono (ok' := fun k_ => some k_ ≠ (v108 : Value).ownBlock ∧ some k_ ≠ (v113 : Value).ownBlock ∧ some k_ ≠ (.slice Ao53 t117.length co53 : Value).ownBlock ∧ some k_ ≠ (.slice Ao63 t123.length co63 : Value).ownBlock ∧ some k_ ≠ (.slice Ao73 t129.length co73 : Value).ownBlock ∧ some k_ ≠ (.slice Ao83 t135.length co83 : Value).ownBlock ∧ some k_ ≠ (.slice Ao88 t142.length co88 : Value).ownBlock) (Kd.R_keptB (HO150.out) hkp (fun k_ hk_ hs_ => (hk_.1.1.1.2) hs_)) (fun k_ hk_ => ⟨hk_.1.1.1.1.1.1.1.2, hk_.1.1.1.1.1.1.2, hk_.1.1.1.1.1.2, hk_.1.1.1.1.2, hk_.1.1.1.2, hk_.1.1.2, hk_.1.2⟩));replace HB := Aside0.mk (hb);(try clear hb);(try clear hkp);(try clear hy0);obtain ⟨hcz96_0, hcz96_1, hcz96_2, hfz96_0, hfz96_1, hfz96_2⟩ := bx3 BK132.out) | ((with_reducible refine gate_callee (f := 50) rfl ?_);refine goesL_ (some 55) rfl rfl Try.func50 (by kernel_rfl) rfl #[.agg #[.int .i64 t127, .int .i64 t128, .slice Ao73 t129.length co73], .int .i64 t152] rfl (by (try simp only [List.map_toArray, List.map_cons, List.map_nil]);first | done | rfl | (simp only [List.length_drop, List.length_take];rfl)) ?_;(with_reducible refine (laws_markOcc.calls k t127 t128 (fun k_ => some k_ = (.slice Ao73 t129.length co73 : Value).ownBlock) (.slice Ao73 t129.length co73) t129 t152 t154 t155 w _ ?side1 ?side2 A34.out).mono ?_);(case side1 => repeat (first | (with_reducible first | exact HB.out | apply below_alloc | apply pw_below_drewN | apply below_drew1 | refine below_set ?_ GE101.out | refine below_set ?_ GE102.out | refine below_set ?_ GE120.out | refine below_set ?_ GE126.out | refine below_set ?_ GE132.out | refine below_set ?_ GE138.out) | exact HB.out));(case side2 => exact Kd.R_tight rfl HO131.out);rintro e w97 ⟨rfl, hy0, hb, hkp⟩;refine ⟨_, rfl, ?_⟩;replace BK101 := Aside0.mk (blk_kept (by (with_reducible repeat (first | refine blk_drewN ?_ _ | refine blk_drew ?_ | refine blk_alloc ?_ _));exact BK101.out) hkp (fun hs_ => (fun e_ => (Kd.R_ne HO131.out BK101.out (by decide)) e_) hs_));replace BK102 := Aside0.mk (blk_kept (by (with_reducible repeat (first | refine blk_drewN ?_ _ | refine blk_drew ?_ | refine blk_alloc ?_ _));exact BK102.out) hkp (fun hs_ => (fun e_ => (Kd.R_ne HO131.out BK102.out (by decide)) e_) hs_));replace HO109 := Aside0.mk (Kd.R_mono (ok' := fun k_ => some k_ ≠ (v113 : Value).ownBlock ∧ some k_ ≠ (.slice Ao53 t117.length co53 : Value).ownBlock ∧ some k_ ≠ (.slice Ao63 t123.length co63 : Value).ownBlock ∧ some k_ ≠ (.slice Ao73 t129.length co73 : Value).ownBlock ∧ some k_ ≠ (.slice Ao83 t135.length co83 : Value).ownBlock ∧ some k_ ≠ (.slice Ao88 t142.length co88 : Value).ownBlock ∧ some k_ ≠ (.slice Ao92 t148.length co92 : Value).ownBlock) (Kd.R_keptB (HO109.out) hkp (fun k_ hk_ hs_ => (hk_.2.2.2.1) hs_)) (fun k_ hk_ => ⟨hk_.1.1, hk_.1.2.1, hk_.1.2.2.1, hk_.1.2.2.2.1, hk_.1.2.2.2.2.1, hk_.1.2.2.2.2.2.1, hk_.1.2.2.2.2.2.2⟩));replace HO114 := Aside0.mk (Kd.R_mono (ok' := fun k_ => some k_ ≠ (v108 : Value).ownBlock ∧ some k_ ≠ (.slice Ao53 t117.length co53 : Value).ownBlock ∧ some k_ ≠ (.slice Ao63 t123.length co63 : Value).ownBlock ∧ some k_ ≠ (.slice Ao73 t129.length co73 : Value).ownBlock ∧ some k_ ≠ (.slice Ao83 t135.length co83 : Value).ownBlock ∧ some k_ ≠ (.slice Ao88 t142.length co88 : Value).ownBlock ∧ some k_ ≠ (.slice Ao92 t148.length co92 : Value).ownBlock) (Kd.R_keptB (HO114.out) hkp (fun k_ hk_ hs_ => (hk_.2.2.2.1) hs_)) (fun k_ hk_ => ⟨hk_.1.1, hk_.1.2.1, hk_.1.2.2.1, hk_.1.2.2.2.1, hk_.1.2.2.2.2.1, hk_.1.2.2.2.2.2.1, hk_.1.2.2.2.2.2.2⟩));replace HO119 := Aside0.mk (Kd.R_mono (ok' := fun k_ => some k_ ≠ (v108 : Value).ownBlock ∧ some k_ ≠ (v113 : Value).ownBlock ∧ some k_ ≠ (.slice Ao63 t123.length co63 : Value).ownBlock ∧ some k_ ≠ (.slice Ao73 t129.length co73 : Value).ownBlock ∧ some k_ ≠ (.slice Ao83 t135.length co83 : Value).ownBlock ∧ some k_ ≠ (.slice Ao88 t142.length co88 : Value).ownBlock ∧ some k_ ≠ (.slice Ao92 t148.length co92 : Value).ownBlock) (Kd.R_keptB (HO119.out) hkp (fun k_ hk_ hs_ => (hk_.2.2.2.1) hs_)) (fun k_ hk_ => ⟨hk_.1.1, hk_.1.2.1, hk_.1.2.2.1, hk_.1.2.2.2.1, hk_.1.2.2.2.2.1, hk_.1.2.2.2.2.2.1, hk_.1.2.2.2.2.2.2⟩));replace BK120 := Aside0.mk (blk_kept (by (with_reducible repeat (first | refine blk_drewN ?_ _ | refine blk_drew ?_ | refine blk_alloc ?_ _));exact BK120.out) hkp (fun hs_ => (fun e_ => (Kd.R_ne HO131.out BK120.out (by decide)) e_) hs_));replace HO125 := Aside0.mk (Kd.R_mono (ok' := fun k_ => some k_ ≠ (v108 : Value).ownBlock ∧ some k_ ≠ (v113 : Value).ownBlock ∧ some k_ ≠ (.slice Ao53 t117.length co53 : Value).ownBlock ∧ some k_ ≠ (.slice Ao73 t129.length co73 : Value).ownBlock ∧ some k_ ≠ (.slice Ao83 t135.length co83 : Value).ownBlock ∧ some k_ ≠ (.slice Ao88 t142.length co88 : Value).ownBlock ∧ some k_ ≠ (.slice Ao92 t148.length co92 : Value).ownBlock) (Kd.R_keptB (HO125.out) hkp (fun k_ hk_ hs_ => (hk_.1.1.1.2) hs_)) (fun k_ hk_ => ⟨hk_.1.1.1.1.1.1.1.2, hk_.1.1.1.1.1.1.2, hk_.1.1.1.1.1.2, hk_.1.1.1.1.2, hk_.1.1.1.2, hk_.1.1.2, hk_.1.2⟩));replace BK126 := Aside0.mk (blk_kept (by (with_reducible repeat (first | refine blk_drewN ?_ _ | refine blk_drew ?_ | refine blk_alloc ?_ _));exact BK126.out) hkp (fun hs_ => (fun e_ => (Kd.R_ne HO131.out BK126.out (by decide)) e_) hs_));replace BK132 := Aside0.mk (blk_kept (by (with_reducible repeat (first | refine blk_drewN ?_ _ | refine blk_drew ?_ | refine blk_alloc ?_ _));exact BK132.out) hkp (fun hs_ => (fun e_ => (Kd.R_ne HO131.out BK132.out (by decide)) e_) hs_));replace HO137 := Aside0.mk (Kd.R_mono (ok' := fun k_ => some k_ ≠ (v108 : Value).ownBlock ∧ some k_ ≠ (v113 : Value).ownBlock ∧ some k_ ≠ (.slice Ao53 t117.length co53 : Value).ownBlock ∧ some k_ ≠ (.slice Ao63 t123.length co63 : Value).ownBlock ∧ some k_ ≠ (.slice Ao73 t129.length co73 : Value).ownBlock ∧ some k_ ≠ (.slice Ao88 t142.length co88 : Value).ownBlock ∧ some k_ ≠ (.slice Ao92 t148.length co92 : Value).ownBlock) (Kd.R_keptB (HO137.out) hkp (fun k_ hk_ hs_ => (hk_.2.2.2.2.1) hs_)) (fun k_ hk_ => ⟨hk_.1.1, hk_.1.2.1, hk_.1.2.2.1, hk_.1.2.2.2.1, hk_.1.2.2.2.2.1, hk_.1.2.2.2.2.2.1, hk_.1.2.2.2.2.2.2⟩));replace BK138 := Aside0.mk (blk_kept (by (with_reducible repeat (first | refine blk_drewN ?_ _ | refine blk_drew ?_ | refine blk_alloc ?_ _));exact BK138.out) hkp (fun hs_ => (fun e_ => (Kd.R_ne HO131.out BK138.out (by decide)) e_) hs_));replace HO131 := Aside0.mk (Kd.R_reok rfl hy0 (fun k_ e_ => HO131.out.1 k_ e_));replace HO144 := Aside0.mk (Kd.R_mono (ok' := fun k_ => some k_ ≠ (v108 : Value).ownBlock ∧ some k_ ≠ (v113 : Value).ownBlock ∧ some k_ ≠ (.slice Ao53 t117.length co53 : Value).ownBlock ∧ some k_ ≠ (.slice Ao63 t123.length co63 : Value).ownBlock ∧ some k_ ≠ (.slice Ao73 t129.length co73 : Value).ownBlock ∧ some k_ ≠ (.slice Ao83 t135.length co83 : Value).ownBlock ∧ some k_ ≠ (.slice Ao92 t148.length co92 : Value).ownBlock) (Kd.R_keptB (HO144.out) hkp (fun k_ hk_ hs_ => (hk_.2.2.2.2.1) hs_)) (fun k_ hk_ => ⟨hk_.1.1, hk_.1.2.1, hk_.1.2.2.1, hk_.1.2.2.2.1, hk_.1.2.2.2.2.1, hk_.1.2.2.2.2.2.1, hk_.1.2.2.2.2.2.2⟩));replace HO150 := Aside0.mk (Kd.R_mono (ok' := fun k_ => some k_ ≠ (v108 : Value).ownBlock ∧ some k_ ≠ (v113 : Value).ownBlock ∧ some k_ ≠ (.slice Ao53 t117.length co53 : Value).ownBlock ∧ some k_ ≠ (.slice Ao63 t123.length co63 : Value).ownBlock ∧ some k_ ≠ (.slice Ao73 t129.length co73 : Value).ownBlock ∧ some k_ ≠ (.slice Ao83 t135.length co83 : Value).ownBlock ∧ some k_ ≠ (.slice Ao88 t142.length co88 : Value).ownBlock) (Kd.R_keptB (HO150.out) hkp (fun k_ hk_ hs_ => (hk_.2.2.2.2.1) hs_)) (fun k_ hk_ => ⟨hk_.1.1, hk_.1.2.1, hk_.1.2.2.1, hk_.1.2.2.2.1, hk_.1.2.2.2.2.1, hk_.1.2.2.2.2.2.1, hk_.1.2.2.2.2.2.2⟩));replace HB := Aside0.mk (hb);(try clear hb);(try clear hkp);(try clear hy0)))
      (try simp only [Act.put, List.setIfInBounds_toArray, List.set_cons_zero, List.set_cons_succ])
      go_cut [63] (fun v63 wc => ∃ (kq : Nat) (x63_34 : Bool), v63 = .bool x63_34 ∧ Aside0 (laws_FnExactOccJoin.j0 kq x63_34 a0_0 a0_1 l0_2 a1_0 a1_1 l1_2 t115 t116 t117 t133 t134 t135 = some r) ∧ Aside0 (kq ≤ k) ∧ Aside0 (Kd.R (Kd.int .i64) 3 wc w.heap.size (fun k_ => some k_ ≠ ((.slice Ao63 t123.length co63) : Value).ownBlock ∧ some k_ ≠ ((.slice Ao73 t129.length co73) : Value).ownBlock ∧ some k_ ≠ ((.slice Ao83 t135.length co83) : Value).ownBlock) (.slice Ao53 t117.length co53) t117) ∧ Aside0 (Kd.R (Kd.int .i64) 3 wc w.heap.size (fun k_ => some k_ ≠ ((.slice Ao53 t117.length co53) : Value).ownBlock ∧ some k_ ≠ ((.slice Ao73 t129.length co73) : Value).ownBlock ∧ some k_ ≠ ((.slice Ao83 t135.length co83) : Value).ownBlock) (.slice Ao63 t123.length co63) t153) ∧ Aside0 (Kd.R (Kd.int .i64) 3 wc w.heap.size (fun k_ => some k_ ≠ ((.slice Ao53 t117.length co53) : Value).ownBlock ∧ some k_ ≠ ((.slice Ao63 t123.length co63) : Value).ownBlock ∧ some k_ ≠ ((.slice Ao83 t135.length co83) : Value).ownBlock) (.slice Ao73 t129.length co73) t155) ∧ Aside0 (Kd.R (Kd.int .i64) 3 wc w.heap.size (fun k_ => some k_ ≠ ((.slice Ao53 t117.length co53) : Value).ownBlock ∧ some k_ ≠ ((.slice Ao63 t123.length co63) : Value).ownBlock ∧ some k_ ≠ ((.slice Ao73 t129.length co73) : Value).ownBlock) (.slice Ao83 t135.length co83) t135) ∧ Aside0 (wc.heap[gb101]? = some (.cells #[.int .i64 a0_0, .int .i64 a0_1, (.slice A0_2 l0_2.length c0_2)] 24 (0, 0))) ∧ Aside0 (wc.heap[gb102]? = some (.cells #[.int .i64 a1_0, .int .i64 a1_1, (.slice A1_2 l1_2.length c1_2)] 24 (0, 0))) ∧ Aside0 (wc.heap[gb120]? = some (.cells #[.int .i64 t115, .int .i64 t116, (.slice Ao53 t117.length co53)] 27 (0, 0))) ∧ Aside0 (wc.heap[gb126]? = some (.cells #[.int .i64 t121, .int .i64 t122, (.slice Ao63 t123.length co63)] 27 (0, 0))) ∧ Aside0 (wc.heap[gb132]? = some (.cells #[.int .i64 t127, .int .i64 t128, (.slice Ao73 t129.length co73)] 27 (0, 0))) ∧ Aside0 (wc.heap[gb138]? = some (.cells #[.int .i64 t133, .int .i64 t134, (.slice Ao83 t135.length co83)] 27 (0, 0))) ∧ Aside0 (Below w.heap.size w wc))
      case first =>
       have H := HC35.out
       clear HC35
       by_cases c98 : t154 < 0
       ·rw [if_pos c98] at H
        have c98b0 : decide (t154 < 0) = true := decide_eq_true c98
        clear c98
        (first | rw [c98b0] | (simp only [i64_w, i32_w];rw [c98b0]) | skip)
        have H' := Aside0.mk H
        clear H
        go_wp2
        go_meet
        case rel => exact ⟨_, (true), (by first | rfl | (simp;done) | (simp [*];done)), H', ⟨by first | omega | exact Nat.le_refl _⟩, ⟨by (with_reducible repeat (first | apply Kd.R_alloc | apply Kd.R_drewN | apply Kd.R_drew));exact Kd.R_mono HO119.out (fun _ hk => ⟨hk.2.2.1, ⟨hk.2.2.2.1, hk.2.2.2.2.1⟩⟩)⟩, ⟨by (with_reducible repeat (first | apply Kd.R_alloc | apply Kd.R_drewN | apply Kd.R_drew));exact Kd.R_mono HO125.out (fun _ hk => ⟨hk.2.2.1, ⟨hk.2.2.2.1, hk.2.2.2.2.1⟩⟩)⟩, ⟨by (with_reducible repeat (first | apply Kd.R_alloc | apply Kd.R_drewN | apply Kd.R_drew));exact Kd.R_mono HO131.out (fun _ hk => ⟨hk.2.2.1, ⟨hk.2.2.2.1, hk.2.2.2.2.1⟩⟩)⟩, ⟨by (with_reducible repeat (first | apply Kd.R_alloc | apply Kd.R_drewN | apply Kd.R_drew));exact Kd.R_mono HO137.out (fun _ hk => ⟨hk.2.2.1, ⟨hk.2.2.2.1, hk.2.2.2.2.1⟩⟩)⟩, ⟨by (with_reducible repeat (first | refine blk_drewN ?_ _ | refine blk_drew ?_ | refine blk_alloc ?_ _));exact BK101.out⟩, ⟨by (with_reducible repeat (first | refine blk_drewN ?_ _ | refine blk_drew ?_ | refine blk_alloc ?_ _));exact BK102.out⟩, ⟨by (with_reducible repeat (first | refine blk_drewN ?_ _ | refine blk_drew ?_ | refine blk_alloc ?_ _));exact BK120.out⟩, ⟨by (with_reducible repeat (first | refine blk_drewN ?_ _ | refine blk_drew ?_ | refine blk_alloc ?_ _));exact BK126.out⟩, ⟨by (with_reducible repeat (first | refine blk_drewN ?_ _ | refine blk_drew ?_ | refine blk_alloc ?_ _));exact BK132.out⟩, ⟨by (with_reducible repeat (first | refine blk_drewN ?_ _ | refine blk_drew ?_ | refine blk_alloc ?_ _));exact BK138.out⟩, ⟨by repeat (first | (with_reducible first | exact HB.out | apply below_alloc | apply pw_below_drewN | apply below_drew1 | refine below_set ?_ GE101.out | refine below_set ?_ GE102.out | refine below_set ?_ GE120.out | refine below_set ?_ GE126.out | refine below_set ?_ GE132.out | refine below_set ?_ GE138.out) | exact HB.out)⟩⟩
       ·rw [if_neg c98] at H
        have c98b0 : decide (t154 < 0) = false := decide_eq_false c98
        clear c98
        (first | rw [c98b0] | (simp only [i64_w, i32_w];rw [c98b0]) | skip)
        replace H := Option.bind_eq_some_iff.mp H
        obtain ⟨t156, A990, H⟩ := H
        replace H : (laws_FnExactOccJoin.j0 k (!t156) a0_0 a0_1 l0_2 a1_0 a1_1 l1_2 t115 t116 t117 t133 t134 t135) = some r := H
        have A99 := Aside0.mk A990
        clear A990
        have H' := Aside0.mk H
        clear H
        have hnb100 := NB138_101.out
        have hnc100 := NB101_138.out
        have hnb101 := NB138_102.out
        have hnc101 := NB102_138.out
        have hnb102 := NB138_120.out
        have hnc102 := NB120_138.out
        have hnb103 := NB138_126.out
        have hnc103 := NB126_138.out
        have hnb104 := NB138_132.out
        have hnc104 := NB132_138.out
        obtain ⟨hcz105_0, hcz105_1, hcz105_2, hfz105_0, hfz105_1, hfz105_2⟩ := bx3 BK138.out
        have hnb106 := NB120_101.out
        have hnc106 := NB101_120.out
        have hnb107 := NB120_102.out
        have hnc107 := NB102_120.out
        have hnb108 := NB120_126.out
        have hnc108 := NB126_120.out
        have hnb109 := NB120_132.out
        have hnc109 := NB132_120.out
        obtain ⟨hcz110_0, hcz110_1, hcz110_2, hfz110_0, hfz110_1, hfz110_2⟩ := bx3 BK120.out
        go_wp2_with (first | (go_at_call 22;(with_reducible refine (laws_eqOcc.calls k t133 t134 _ _ t135 t115 t116 _ _ t117 t156 _ ?side1 ?side2 ?side3 ?side4 A99.out).mono ?_);(case side1 => repeat (first | exact (Kd.R_reads' HO137.out).2.2 | (with_reducible refine Kd.C_alloc ?_ _) | (with_reducible refine Kd.C_drewN ?_ _) | (with_reducible refine Kd.C_drew ?_)));(case side2 => exact (Kd.R_reads' HO137.out).2.1);(case side3 => repeat (first | exact (Kd.R_reads' HO119.out).2.2 | (with_reducible refine Kd.C_alloc ?_ _) | (with_reducible refine Kd.C_drewN ?_ _) | (with_reducible refine Kd.C_drew ?_)));(case side4 => exact (Kd.R_reads' HO119.out).2.1);rintro e w111 ⟨rfl, hb⟩;replace HO109 := Aside0.mk (Kd.R_below (by exact HO109.out) hb);replace HO114 := Aside0.mk (Kd.R_below (by exact HO114.out) hb);replace HO119 := Aside0.mk (Kd.R_below (by exact HO119.out) hb);replace HO125 := Aside0.mk (Kd.R_below (by exact HO125.out) hb);replace HO131 := Aside0.mk (Kd.R_below (by exact HO131.out) hb);replace HO137 := Aside0.mk (Kd.R_below (by exact HO137.out) hb);replace HO144 := Aside0.mk (Kd.R_below (by exact HO144.out) hb);replace HO150 := Aside0.mk (Kd.R_below (by exact HO150.out) hb);replace BK101 := Aside0.mk (blk_below BK101.out hb);replace BK102 := Aside0.mk (blk_below BK102.out hb);replace BK120 := Aside0.mk (blk_below BK120.out hb);replace BK126 := Aside0.mk (blk_below BK126.out hb);replace BK132 := Aside0.mk (blk_below BK132.out hb);replace BK138 := Aside0.mk (blk_below BK138.out hb);replace HB := Aside0.mk (below_step (by repeat (first | (with_reducible first | exact HB.out | apply below_alloc | apply pw_below_drewN | apply below_drew1 | refine below_set ?_ GE101.out | refine below_set ?_ GE102.out | refine below_set ?_ GE120.out | refine below_set ?_ GE126.out | refine below_set ?_ GE132.out | refine below_set ?_ GE138.out) | exact HB.out)) hb);(try clear hb);(try clear hb2);(try clear hk);(try clear hi)))
        go_meet
        case rel => exact ⟨_, (!t156), (by first | rfl | (simp;done) | (simp [*];done)), H', ⟨by first | omega | exact Nat.le_refl _⟩, ⟨by (with_reducible repeat (first | apply Kd.R_alloc | apply Kd.R_drewN | apply Kd.R_drew));exact Kd.R_mono HO119.out (fun _ hk => ⟨hk.2.2.1, ⟨hk.2.2.2.1, hk.2.2.2.2.1⟩⟩)⟩, ⟨by (with_reducible repeat (first | apply Kd.R_alloc | apply Kd.R_drewN | apply Kd.R_drew));exact Kd.R_mono HO125.out (fun _ hk => ⟨hk.2.2.1, ⟨hk.2.2.2.1, hk.2.2.2.2.1⟩⟩)⟩, ⟨by (with_reducible repeat (first | apply Kd.R_alloc | apply Kd.R_drewN | apply Kd.R_drew));exact Kd.R_mono HO131.out (fun _ hk => ⟨hk.2.2.1, ⟨hk.2.2.2.1, hk.2.2.2.2.1⟩⟩)⟩, ⟨by (with_reducible repeat (first | apply Kd.R_alloc | apply Kd.R_drewN | apply Kd.R_drew));exact Kd.R_mono HO137.out (fun _ hk => ⟨hk.2.2.1, ⟨hk.2.2.2.1, hk.2.2.2.2.1⟩⟩)⟩, ⟨by (with_reducible repeat (first | refine blk_drewN ?_ _ | refine blk_drew ?_ | refine blk_alloc ?_ _));exact BK101.out⟩, ⟨by (with_reducible repeat (first | refine blk_drewN ?_ _ | refine blk_drew ?_ | refine blk_alloc ?_ _));exact BK102.out⟩, ⟨by (with_reducible repeat (first | refine blk_drewN ?_ _ | refine blk_drew ?_ | refine blk_alloc ?_ _));exact BK120.out⟩, ⟨by (with_reducible repeat (first | refine blk_drewN ?_ _ | refine blk_drew ?_ | refine blk_alloc ?_ _));exact BK126.out⟩, ⟨by (with_reducible repeat (first | refine blk_drewN ?_ _ | refine blk_drew ?_ | refine blk_alloc ?_ _));exact BK132.out⟩, ⟨by (with_reducible repeat (first | refine blk_drewN ?_ _ | refine blk_drew ?_ | refine blk_alloc ?_ _));exact BK138.out⟩, ⟨by repeat (first | (with_reducible first | exact HB.out | apply below_alloc | apply pw_below_drewN | apply below_drew1 | refine below_set ?_ GE101.out | refine below_set ?_ GE102.out | refine below_set ?_ GE120.out | refine below_set ?_ GE126.out | refine below_set ?_ GE132.out | refine below_set ?_ GE138.out) | exact HB.out)⟩⟩
      case rest =>
       clear HC35
       try clear c1
       try clear c2
       try clear p2
       try clear c4
       try clear c5
       try clear c6
       try clear c7
       try clear c8
       try clear c9
       try clear c10
       try clear c20
       try clear c22
       try clear c48
       try clear c49
       try clear c50
       try clear c55
       try clear c59
       try clear c60
       try clear c61
       try clear c64
       try clear c68
       try clear c69
       try clear c70
       try clear c71
       try clear c77
       try clear c78
       try clear c79
       try clear c80
       try clear c81
       try clear c98
       try clear c98b0
       try clear c100
       try clear c101
       try clear c102
       try clear c103
       try clear c104
       try clear c106
       try clear c107
       try clear c108
       try clear c109
       try clear hcz105_0
       try clear hcz105_1
       try clear hcz105_2
       try clear hcz110_0
       try clear hcz110_1
       try clear hcz110_2
       try clear hcz56_0
       try clear hcz56_1
       try clear hcz56_2
       try clear hcz62_0
       try clear hcz62_1
       try clear hcz62_2
       try clear hcz65_0
       try clear hcz65_1
       try clear hcz65_2
       try clear hcz72_0
       try clear hcz72_1
       try clear hcz72_2
       try clear hcz74_0
       try clear hcz74_1
       try clear hcz74_2
       try clear hcz82_0
       try clear hcz82_1
       try clear hcz82_2
       try clear hcz84_0
       try clear hcz84_1
       try clear hcz84_2
       try clear hcz94_0
       try clear hcz94_1
       try clear hcz94_2
       try clear hcz96_0
       try clear hcz96_1
       try clear hcz96_2
       try clear hfz105_0
       try clear hfz105_1
       try clear hfz105_2
       try clear hfz110_0
       try clear hfz110_1
       try clear hfz110_2
       try clear hfz56_0
       try clear hfz56_1
       try clear hfz56_2
       try clear hfz62_0
       try clear hfz62_1
       try clear hfz62_2
       try clear hfz65_0
       try clear hfz65_1
       try clear hfz65_2
       try clear hfz72_0
       try clear hfz72_1
       try clear hfz72_2
       try clear hfz74_0
       try clear hfz74_1
       try clear hfz74_2
       try clear hfz82_0
       try clear hfz82_1
       try clear hfz82_2
       try clear hfz84_0
       try clear hfz84_1
       try clear hfz84_2
       try clear hfz94_0
       try clear hfz94_1
       try clear hfz94_2
       try clear hfz96_0
       try clear hfz96_1
       try clear hfz96_2
       obtain ⟨kq, x63_34, rfl, HA, HJ34, HO_121002, HO_127002, HO_133002, HO_139002, BK101, BK102, BK120, BK126, BK132, BK138, HB⟩ := hcut
       have hl127002_34 := (Kd.R_reads' HO_127002.out).1
       rw [hl127002_34] at HO_127002
       (try simp only [hl127002_34])
       (try simp only [hl127002_34] at BK101)
       (try simp only [hl127002_34] at BK102)
       (try simp only [hl127002_34] at BK120)
       (try simp only [hl127002_34] at BK126)
       (try simp only [hl127002_34] at BK132)
       (try simp only [hl127002_34] at BK138)
       (try simp only [hl127002_34] at HO_121002)
       (try simp only [hl127002_34] at HO_133002)
       (try simp only [hl127002_34] at HO_139002)
       have hl133002_34 := (Kd.R_reads' HO_133002.out).1
       rw [hl133002_34] at HO_133002
       (try simp only [hl133002_34])
       (try simp only [hl133002_34] at BK101)
       (try simp only [hl133002_34] at BK102)
       (try simp only [hl133002_34] at BK120)
       (try simp only [hl133002_34] at BK126)
       (try simp only [hl133002_34] at BK132)
       (try simp only [hl133002_34] at BK138)
       (try simp only [hl133002_34] at HO_121002)
       (try simp only [hl133002_34] at HO_127002)
       (try simp only [hl133002_34] at HO_139002)
       cases kq with
       | zero => exact absurd HA.out (by simp [laws_FnExactOccJoin.j0])
       | succ kj34 =>
        have H := HA.out
        clear HA
        simp only [laws_FnExactOccJoin.j0] at H
        by_cases c112 : x63_34 = true
        ·subst c112
         have H1 : (some false) = some r := by rw [if_pos rfl] at H;exact H
         clear H
         have H := H1
         clear H1
         exact absurd (Option.some.inj H) (by rw [hT_.out];decide)
        ·replace c112 := Bool.eq_false_iff.mpr c112
         subst c112
         have H1 : ((laws_markOcc.f kj34 t133 t134 t135 1).bind fun bt157 => ((laws_heldOcc.f kj34 t133 t134 bt157.2 1).bind fun t159 => (if t159 < 0 then (some false) else (if t159 = bt157.1 then ((laws_toOcc.f kj34 a0_0 a0_1 l0_2).bind fun bt160 => ((laws_toOcc.f kj34 a1_0 a1_1 l1_2).bind fun bt165 => ((impl_OccJoin.f kj34 bt160.1 bt160.2.1 bt160.2.2 bt165.1 bt165.2.1 bt165.2.2).bind fun bt170 => ((laws_eqOcc.f kj34 bt170.1 bt170.2.1 bt170.2.2 t115 t116 t117).bind fun t176 => (if t176 = true then ((laws_heldOcc.f kj34 t133 t134 bt157.2 1).bind fun t177 => (if t177 < 0 then (some false) else (if t177 = bt157.1 then (some true) else (some false)))) else (some false)))))) else (some false))))) = some r := by rw [if_neg (show ¬ (false = true) by decide)] at H;exact H
         clear H
         have H := H1
         clear H1
         replace H := Option.bind_eq_some_iff.mp H
         obtain ⟨⟨t157, t158⟩, A1130, H⟩ := H
         replace H : ((laws_heldOcc.f kj34 t133 t134 t158 1).bind fun t159 => (if t159 < 0 then (some false) else (if t159 = t157 then ((laws_toOcc.f kj34 a0_0 a0_1 l0_2).bind fun bt160 => ((laws_toOcc.f kj34 a1_0 a1_1 l1_2).bind fun bt165 => ((impl_OccJoin.f kj34 bt160.1 bt160.2.1 bt160.2.2 bt165.1 bt165.2.1 bt165.2.2).bind fun bt170 => ((laws_eqOcc.f kj34 bt170.1 bt170.2.1 bt170.2.2 t115 t116 t117).bind fun t176 => (if t176 = true then ((laws_heldOcc.f kj34 t133 t134 t158 1).bind fun t177 => (if t177 < 0 then (some false) else (if t177 = t157 then (some true) else (some false)))) else (some false)))))) else (some false)))) = some r := H
         have A113 := Aside0.mk A1130
         clear A1130
         replace H := Option.bind_eq_some_iff.mp H
         obtain ⟨t159, A1140, H⟩ := H
         replace H : (if t159 < 0 then (some false) else (if t159 = t157 then ((laws_toOcc.f kj34 a0_0 a0_1 l0_2).bind fun bt160 => ((laws_toOcc.f kj34 a1_0 a1_1 l1_2).bind fun bt165 => ((impl_OccJoin.f kj34 bt160.1 bt160.2.1 bt160.2.2 bt165.1 bt165.2.1 bt165.2.2).bind fun bt170 => ((laws_eqOcc.f kj34 bt170.1 bt170.2.1 bt170.2.2 t115 t116 t117).bind fun t176 => (if t176 = true then ((laws_heldOcc.f kj34 t133 t134 t158 1).bind fun t177 => (if t177 < 0 then (some false) else (if t177 = t157 then (some true) else (some false)))) else (some false)))))) else (some false))) = some r := H
         have A114 := Aside0.mk A1140
         clear A1140
         by_cases c115 : t159 < 0
         ·rw [if_pos c115] at H
          have c115b0 : decide (t159 < 0) = true := decide_eq_true c115
          clear c115
          exact absurd (Option.some.inj H) (by rw [hT_.out];decide)
         ·rw [if_neg c115] at H
          have c115b0 : decide (t159 < 0) = false := decide_eq_false c115
          clear c115
          by_cases c116 : t159 = t157
          ·rw [if_pos c116] at H
           have c116b0 : (t159 == t157) = true := beq_iff_eq.mpr c116
           have c116b1 : (t159 != t157) = false := bne_eq_false_iff_eq.mpr c116
           clear c116
           replace H := Option.bind_eq_some_iff.mp H
           obtain ⟨⟨t160, t161, t162⟩, A1170, H⟩ := H
           replace H : ((laws_toOcc.f kj34 a1_0 a1_1 l1_2).bind fun bt165 => ((impl_OccJoin.f kj34 t160 t161 t162 bt165.1 bt165.2.1 bt165.2.2).bind fun bt170 => ((laws_eqOcc.f kj34 bt170.1 bt170.2.1 bt170.2.2 t115 t116 t117).bind fun t176 => (if t176 = true then ((laws_heldOcc.f kj34 t133 t134 t158 1).bind fun t177 => (if t177 < 0 then (some false) else (if t177 = t157 then (some true) else (some false)))) else (some false))))) = some r := H
           have A117 := Aside0.mk A1170
           clear A1170
           replace H := Option.bind_eq_some_iff.mp H
           obtain ⟨⟨t165, t166, t167⟩, A1180, H⟩ := H
           replace H : ((impl_OccJoin.f kj34 t160 t161 t162 t165 t166 t167).bind fun bt170 => ((laws_eqOcc.f kj34 bt170.1 bt170.2.1 bt170.2.2 t115 t116 t117).bind fun t176 => (if t176 = true then ((laws_heldOcc.f kj34 t133 t134 t158 1).bind fun t177 => (if t177 < 0 then (some false) else (if t177 = t157 then (some true) else (some false)))) else (some false)))) = some r := H
           have A118 := Aside0.mk A1180
           clear A1180
           replace H := Option.bind_eq_some_iff.mp H
           obtain ⟨⟨t170, t171, t172⟩, A1190, H⟩ := H
           replace H : ((laws_eqOcc.f kj34 t170 t171 t172 t115 t116 t117).bind fun t176 => (if t176 = true then ((laws_heldOcc.f kj34 t133 t134 t158 1).bind fun t177 => (if t177 < 0 then (some false) else (if t177 = t157 then (some true) else (some false)))) else (some false))) = some r := H
           have A119 := Aside0.mk A1190
           clear A1190
           replace H := Option.bind_eq_some_iff.mp H
           obtain ⟨t176, A1200, H⟩ := H
           replace H : (if t176 = true then ((laws_heldOcc.f kj34 t133 t134 t158 1).bind fun t177 => (if t177 < 0 then (some false) else (if t177 = t157 then (some true) else (some false)))) else (some false)) = some r := H
           have A120 := Aside0.mk A1200
           clear A1200
           by_cases c121 : t176 = true
           ·subst c121
            have H1 : ((laws_heldOcc.f kj34 t133 t134 t158 1).bind fun t177 => (if t177 < 0 then (some false) else (if t177 = t157 then (some true) else (some false)))) = some r := by rw [if_pos rfl] at H;exact H
            clear H
            have H := H1
            clear H1
            replace H := Option.bind_eq_some_iff.mp H
            obtain ⟨t177, A1220, H⟩ := H
            replace H : (if t177 < 0 then (some false) else (if t177 = t157 then (some true) else (some false))) = some r := H
            have A122 := Aside0.mk A1220
            clear A1220
            by_cases c123 : t177 < 0
            ·rw [if_pos c123] at H
             have c123b0 : decide (t177 < 0) = true := decide_eq_true c123
             clear c123
             exact absurd (Option.some.inj H) (by rw [hT_.out];decide)
            ·rw [if_neg c123] at H
             have c123b0 : decide (t177 < 0) = false := decide_eq_false c123
             clear c123
             by_cases c124 : t177 = t157
             ·rw [if_pos c124] at H
              have c124b0 : (t177 == t157) = true := beq_iff_eq.mpr c124
              have c124b1 : (t177 != t157) = false := bne_eq_false_iff_eq.mpr c124
              clear c124
              obtain rfl := Option.some.inj H
              have hnb125 := NB138_101.out
              have hnc125 := NB101_138.out
              have hnb126 := NB138_102.out
              have hnc126 := NB102_138.out
              have hnb127 := NB138_120.out
              have hnc127 := NB120_138.out
              have hnb128 := NB138_126.out
              have hnc128 := NB126_138.out
              have hnb129 := NB138_132.out
              have hnc129 := NB132_138.out
              obtain ⟨hcz130_0, hcz130_1, hcz130_2, hfz130_0, hfz130_1, hfz130_2⟩ := bx3 BK138.out
              try go_wp2_with (first | ((with_reducible refine gate_callee (f := 50) rfl ?_);refine goesL_ (some 66) rfl rfl Try.func50 (by kernel_rfl) rfl #[.agg #[.int .i64 t133, .int .i64 t134, .slice Ao83 t135.length co83], .int .i64 1] rfl (by (try simp only [List.map_toArray, List.map_cons, List.map_nil]);first | done | rfl | (simp only [List.length_drop, List.length_take];rfl)) ?_;(with_reducible refine (laws_markOcc.calls kj34 t133 t134 (fun k_ => some k_ = (.slice Ao83 t135.length co83 : Value).ownBlock) (.slice Ao83 t135.length co83) t135 1 t157 t158 w _ ?side1 ?side2 A113.out).mono ?_);(case side1 => repeat (first | (with_reducible first | exact HB.out | apply below_alloc | apply pw_below_drewN | apply below_drew1 | refine below_set ?_ GE101.out | refine below_set ?_ GE102.out | refine below_set ?_ GE120.out | refine below_set ?_ GE126.out | refine below_set ?_ GE132.out | refine below_set ?_ GE138.out) | exact HB.out));(case side2 => exact Kd.R_tight rfl HO_139002.out);rintro e w131 ⟨rfl, hy0, hb, hkp⟩;refine ⟨_, rfl, ?_⟩;replace HO_121002 := Aside0.mk (Kd.R_mono (ok' := fun k_ => some k_ ≠ (.slice Ao63 t153.length co63 : Value).ownBlock ∧ some k_ ≠ (.slice Ao73 t155.length co73 : Value).ownBlock ∧ some k_ ≠ (.slice Ao83 t135.length co83 : Value).ownBlock) (Kd.R_keptB (HO_121002.out) hkp (fun k_ hk_ hs_ => (hk_.2.2) hs_)) (fun k_ hk_ => ⟨hk_.1.1, hk_.1.2.1, hk_.1.2.2⟩));replace HO_127002 := Aside0.mk (Kd.R_mono (ok' := fun k_ => some k_ ≠ (.slice Ao53 t117.length co53 : Value).ownBlock ∧ some k_ ≠ (.slice Ao73 t155.length co73 : Value).ownBlock ∧ some k_ ≠ (.slice Ao83 t135.length co83 : Value).ownBlock) (Kd.R_keptB (HO_127002.out) hkp (fun k_ hk_ hs_ => (hk_.2.2) hs_)) (fun k_ hk_ => ⟨hk_.1.1, hk_.1.2.1, hk_.1.2.2⟩));replace HO_133002 := Aside0.mk (Kd.R_mono (ok' := fun k_ => some k_ ≠ (.slice Ao53 t117.length co53 : Value).ownBlock ∧ some k_ ≠ (.slice Ao63 t153.length co63 : Value).ownBlock ∧ some k_ ≠ (.slice Ao83 t135.length co83 : Value).ownBlock) (Kd.R_keptB (HO_133002.out) hkp (fun k_ hk_ hs_ => (hk_.2.2) hs_)) (fun k_ hk_ => ⟨hk_.1.1, hk_.1.2.1, hk_.1.2.2⟩));replace BK101 := Aside0.mk (blk_kept (by (with_reducible repeat (first | refine blk_drewN ?_ _ | refine blk_drew ?_ | refine blk_alloc ?_ _));exact BK101.out) hkp (fun hs_ => (fun e_ => (Kd.R_ne HO_139002.out BK101.out (by decide)) e_) hs_));replace BK102 := Aside0.mk (blk_kept (by (with_reducible repeat (first | refine blk_drewN ?_ _ | refine blk_drew ?_ | refine blk_alloc ?_ _));exact BK102.out) hkp (fun hs_ => (fun e_ => (Kd.R_ne HO_139002.out BK102.out (by decide)) e_) hs_));replace BK120 := Aside0.mk (blk_kept (by (with_reducible repeat (first | refine blk_drewN ?_ _ | refine blk_drew ?_ | refine blk_alloc ?_ _));exact BK120.out) hkp (fun hs_ => (fun e_ => (Kd.R_ne HO_139002.out BK120.out (by decide)) e_) hs_));replace BK126 := Aside0.mk (blk_kept (by (with_reducible repeat (first | refine blk_drewN ?_ _ | refine blk_drew ?_ | refine blk_alloc ?_ _));exact BK126.out) hkp (fun hs_ => (fun e_ => (Kd.R_ne HO_139002.out BK126.out (by decide)) e_) hs_));replace BK132 := Aside0.mk (blk_kept (by (with_reducible repeat (first | refine blk_drewN ?_ _ | refine blk_drew ?_ | refine blk_alloc ?_ _));exact BK132.out) hkp (fun hs_ => (fun e_ => (Kd.R_ne HO_139002.out BK132.out (by decide)) e_) hs_));replace BK138 := Aside0.mk (blk_kept (by (with_reducible repeat (first | refine blk_drewN ?_ _ | refine blk_drew ?_ | refine blk_alloc ?_ _));exact BK138.out) hkp (fun hs_ => (fun e_ => (Kd.R_ne HO_139002.out BK138.out (by decide)) e_) hs_));replace HO_139002 := Aside0.mk (Kd.R_reok rfl hy0 (fun k_ e_ => HO_139002.out.1 k_ e_));replace HB := Aside0.mk (hb);(try clear hb);(try clear hkp);(try clear hy0);obtain ⟨hcz132_0, hcz132_1, hcz132_2, hfz132_0, hfz132_1, hfz132_2⟩ := bx3 BK138.out) | ((with_reducible refine gate_callee (f := 51) rfl ?_);refine goesL_ (some 69) rfl rfl Try.func51 (by kernel_rfl) rfl #[.agg #[.int .i64 t133, .int .i64 t134, .slice Ao83 t158.length co83], .int .i64 1] rfl (by (try simp only [List.map_toArray, List.map_cons, List.map_nil]);first | done | (rw [show t158.length = t135.length from (Kd.R_reads' HO_139002.out).1.symm] <;> rfl) | rfl | (simp only [List.length_drop, List.length_take];rfl)) ?_;(with_reducible refine (laws_heldOcc.calls kj34 t133 t134 _ _ t158 1 t159 _ ?side1 ?side2 A114.out).mono ?_);(case side1 => repeat (first | exact (Kd.R_reads' HO_139002.out).2.2 | (with_reducible refine Kd.C_alloc ?_ _) | (with_reducible refine Kd.C_drewN ?_ _) | (with_reducible refine Kd.C_drew ?_)));(case side2 => rw [show t158.length = t135.length from (Kd.R_reads' HO_139002.out).1.symm];exact (Kd.R_reads' HO_139002.out).2.1);rintro e w133 ⟨rfl, hb⟩;refine ⟨_, rfl, ?_⟩;replace HO_121002 := Aside0.mk (Kd.R_below (by exact HO_121002.out) hb);replace HO_127002 := Aside0.mk (Kd.R_below (by exact HO_127002.out) hb);replace HO_133002 := Aside0.mk (Kd.R_below (by exact HO_133002.out) hb);replace HO_139002 := Aside0.mk (Kd.R_below (by exact HO_139002.out) hb);replace BK101 := Aside0.mk (blk_below BK101.out hb);replace BK102 := Aside0.mk (blk_below BK102.out hb);replace BK120 := Aside0.mk (blk_below BK120.out hb);replace BK126 := Aside0.mk (blk_below BK126.out hb);replace BK132 := Aside0.mk (blk_below BK132.out hb);replace BK138 := Aside0.mk (blk_below BK138.out hb);replace HB := Aside0.mk (below_step (by repeat (first | (with_reducible first | exact HB.out | apply below_alloc | apply pw_below_drewN | apply below_drew1 | refine below_set ?_ GE101.out | refine below_set ?_ GE102.out | refine below_set ?_ GE120.out | refine below_set ?_ GE126.out | refine below_set ?_ GE132.out | refine below_set ?_ GE138.out) | exact HB.out)) hb);(try clear hb);(try clear hb2);(try clear hk);(try clear hi)))
              replace HO_121002 := Aside0.mk (Kd.R_drew HO_121002.out)
              replace HO_127002 := Aside0.mk (Kd.R_drew HO_127002.out)
              replace HO_133002 := Aside0.mk (Kd.R_drew HO_133002.out)
              replace HO_139002 := Aside0.mk (Kd.R_drew HO_139002.out)
              replace BK101 := Aside0.mk (blk_drew BK101.out)
              replace BK102 := Aside0.mk (blk_drew BK102.out)
              replace BK120 := Aside0.mk (blk_drew BK120.out)
              replace BK126 := Aside0.mk (blk_drew BK126.out)
              replace BK132 := Aside0.mk (blk_drew BK132.out)
              replace BK138 := Aside0.mk (blk_drew BK138.out)
              replace HB := Aside0.mk (below_drew1 HB.out)
              refine start_ (n := 7) (S := fun w' => w'.cell? ⟨gb101, 0, none⟩ = some (.int .i64 a0_0) ∧ w'.cell? ⟨gb101, 1, none⟩ = some (.int .i64 a0_1) ∧ w'.cell? ⟨gb101, 2, none⟩ = some (.slice A0_2 l0_2.length c0_2) ∧ w'.cell? ⟨gb102, 0, none⟩ = some (.int .i64 a1_0) ∧ w'.cell? ⟨gb102, 1, none⟩ = some (.int .i64 a1_1) ∧ w'.cell? ⟨gb102, 2, none⟩ = some (.slice A1_2 l1_2.length c1_2)) (ds := []) #[false, false, false, false, false, false, false] (by kernel_rfl) rfl rfl ⟨(blk_cell BK101.out 0).trans rfl, (blk_cell BK101.out 1).trans rfl, (blk_cell BK101.out 2).trans rfl, (blk_cell BK102.out 0).trans rfl, (blk_cell BK102.out 1).trans rfl, (blk_cell BK102.out 2).trans rfl⟩ (fun hHeld => ?_)
              generalize w133.drew = w134 at HO_121002 HO_127002 HO_133002 HO_139002 BK101 BK102 BK120 BK126 BK132 BK138 HB hHeld ⊢
              refine take_ (i := 0) (N := some 75) (v := ?_) (a' := ?_) #[true, false, false, false, false, false, false] rfl rfl (by kernel_rfl) (fun _ _ _ h => h) (Or.inl ⟨by rfl, ?_⟩) hHeld ?_ ?_
              rotate_left
              ·rintro w' ⟨s0, s1, s2, s3, s4, s5⟩
               go_simp
               with_reducible rfl
              rotate_left
              ·simp only [Act.put, List.setIfInBounds_toArray, List.set_cons_zero, List.set_cons_succ, i64_w, i32_w]
               rfl
              refine take_ (i := 2) (N := some 77) (v := ?_) (a' := ?_) #[true, false, true, false, false, false, false] rfl rfl (by kernel_rfl) (fun _ _ _ h => h) (Or.inl ⟨by rfl, ?_⟩) hHeld ?_ ?_
              rotate_left
              ·rintro w' ⟨s0, s1, s2, s3, s4, s5⟩
               go_simp
               with_reducible rfl
              rotate_left
              ·simp only [Act.put, List.setIfInBounds_toArray, List.set_cons_zero, List.set_cons_succ, i64_w, i32_w]
               rfl
              refine join_ (σ := Value × Value × Value × Nat) 1 #[true, true, true, true, true, true, false] (fun s_ => [(76, .agg #[.int .i64 t160, .int .i64 t161, s_.1]), (78, .agg #[.int .i64 t165, .int .i64 t166, s_.2.1]), (79, .agg #[.int .i64 t170, .int .i64 t171, s_.2.2.1]), (13, .pointer (some ⟨s_.2.2.2, 0, none⟩))]) (fun s_ w' => (w'.cell? ⟨gb101, 0, none⟩ = some (.int .i64 a0_0) ∧ w'.cell? ⟨gb101, 1, none⟩ = some (.int .i64 a0_1) ∧ w'.cell? ⟨gb101, 2, none⟩ = some (.slice A0_2 l0_2.length c0_2) ∧ w'.cell? ⟨gb102, 0, none⟩ = some (.int .i64 a1_0) ∧ w'.cell? ⟨gb102, 1, none⟩ = some (.int .i64 a1_1) ∧ w'.cell? ⟨gb102, 2, none⟩ = some (.slice A1_2 l1_2.length c1_2)) ∧ (Kd.R (Kd.int .i64) 3 w' w.heap.size (fun k_ => some k_ ≠ (s_.2.1 : Value).ownBlock ∧ some k_ ≠ (s_.2.2.1 : Value).ownBlock ∧ some k_ ≠ (.slice Ao53 t117.length co53 : Value).ownBlock ∧ some k_ ≠ (.slice Ao63 t153.length co63 : Value).ownBlock ∧ some k_ ≠ (.slice Ao73 t155.length co73 : Value).ownBlock ∧ some k_ ≠ (.slice Ao83 t135.length co83 : Value).ownBlock) s_.1 t162) ∧ (Kd.R (Kd.int .i64) 3 w' w.heap.size (fun k_ => some k_ ≠ (s_.1 : Value).ownBlock ∧ some k_ ≠ (s_.2.2.1 : Value).ownBlock ∧ some k_ ≠ (.slice Ao53 t117.length co53 : Value).ownBlock ∧ some k_ ≠ (.slice Ao63 t153.length co63 : Value).ownBlock ∧ some k_ ≠ (.slice Ao73 t155.length co73 : Value).ownBlock ∧ some k_ ≠ (.slice Ao83 t135.length co83 : Value).ownBlock) s_.2.1 t167) ∧ (Kd.R (Kd.int .i64) 3 w' w.heap.size (fun k_ => some k_ ≠ (s_.1 : Value).ownBlock ∧ some k_ ≠ (s_.2.1 : Value).ownBlock ∧ some k_ ≠ (.slice Ao53 t117.length co53 : Value).ownBlock ∧ some k_ ≠ (.slice Ao63 t153.length co63 : Value).ownBlock ∧ some k_ ≠ (.slice Ao73 t155.length co73 : Value).ownBlock ∧ some k_ ≠ (.slice Ao83 t135.length co83 : Value).ownBlock) s_.2.2.1 t172) ∧ (Kd.R (Kd.int .i64) 3 w' w.heap.size (fun k_ => some k_ ≠ (s_.1 : Value).ownBlock ∧ some k_ ≠ (s_.2.1 : Value).ownBlock ∧ some k_ ≠ (s_.2.2.1 : Value).ownBlock ∧ some k_ ≠ (.slice Ao63 t153.length co63 : Value).ownBlock ∧ some k_ ≠ (.slice Ao73 t155.length co73 : Value).ownBlock ∧ some k_ ≠ (.slice Ao83 t135.length co83 : Value).ownBlock) (.slice Ao53 t117.length co53) t117) ∧ (Kd.R (Kd.int .i64) 3 w' w.heap.size (fun k_ => some k_ ≠ (s_.1 : Value).ownBlock ∧ some k_ ≠ (s_.2.1 : Value).ownBlock ∧ some k_ ≠ (s_.2.2.1 : Value).ownBlock ∧ some k_ ≠ (.slice Ao53 t117.length co53 : Value).ownBlock ∧ some k_ ≠ (.slice Ao73 t155.length co73 : Value).ownBlock ∧ some k_ ≠ (.slice Ao83 t135.length co83 : Value).ownBlock) (.slice Ao63 t153.length co63) t153) ∧ (Kd.R (Kd.int .i64) 3 w' w.heap.size (fun k_ => some k_ ≠ (s_.1 : Value).ownBlock ∧ some k_ ≠ (s_.2.1 : Value).ownBlock ∧ some k_ ≠ (s_.2.2.1 : Value).ownBlock ∧ some k_ ≠ (.slice Ao53 t117.length co53 : Value).ownBlock ∧ some k_ ≠ (.slice Ao63 t153.length co63 : Value).ownBlock ∧ some k_ ≠ (.slice Ao83 t135.length co83 : Value).ownBlock) (.slice Ao73 t155.length co73) t155) ∧ (Kd.R (Kd.int .i64) 3 w' w.heap.size (fun k_ => some k_ ≠ (s_.1 : Value).ownBlock ∧ some k_ ≠ (s_.2.1 : Value).ownBlock ∧ some k_ ≠ (s_.2.2.1 : Value).ownBlock ∧ some k_ ≠ (.slice Ao53 t117.length co53 : Value).ownBlock ∧ some k_ ≠ (.slice Ao63 t153.length co63 : Value).ownBlock ∧ some k_ ≠ (.slice Ao73 t155.length co73 : Value).ownBlock) (.slice Ao83 t135.length co83) t158) ∧ (w'.heap[gb101]? = some (.cells #[.int .i64 a0_0, .int .i64 a0_1, .slice A0_2 l0_2.length c0_2] 24 (0, 0))) ∧ (w'.heap[gb102]? = some (.cells #[.int .i64 a1_0, .int .i64 a1_1, .slice A1_2 l1_2.length c1_2] 24 (0, 0))) ∧ (w'.heap[gb120]? = some (.cells #[.int .i64 t115, .int .i64 t116, .slice Ao53 t117.length co53] 27 (0, 0))) ∧ (w'.heap[gb126]? = some (.cells #[.int .i64 t121, .int .i64 t122, .slice Ao63 t153.length co63] 27 (0, 0))) ∧ (w'.heap[gb132]? = some (.cells #[.int .i64 t127, .int .i64 t128, .slice Ao73 t155.length co73] 27 (0, 0))) ∧ (w'.heap[gb138]? = some (.cells #[.int .i64 t133, .int .i64 t134, .slice Ao83 t135.length co83] 27 (0, 0))) ∧ (w'.heap[s_.2.2.2]? = some (.cells #[.int .i64 0, .int .i64 0, .slice none 0 0] 27 (0, 0))) ∧ (w.heap.size ≤ s_.2.2.2) ∧ (w.heap.size ≤ s_.2.2.2) ∧ (gb101 ≠ s_.2.2.2) ∧ (s_.2.2.2 ≠ gb101) ∧ (gb102 ≠ s_.2.2.2) ∧ (s_.2.2.2 ≠ gb102) ∧ (gb120 ≠ s_.2.2.2) ∧ (s_.2.2.2 ≠ gb120) ∧ (gb126 ≠ s_.2.2.2) ∧ (s_.2.2.2 ≠ gb126) ∧ (gb132 ≠ s_.2.2.2) ∧ (s_.2.2.2 ≠ gb132) ∧ (gb138 ≠ s_.2.2.2) ∧ (s_.2.2.2 ≠ gb138) ∧ (Below w.heap.size w w')) ?_ ?_
              rotate_left
              ·intro hCont
               refine two_ (i := 1) (j := 5) (Ni := some 76) (Nj := some 13) #[true, true, true, false, false, false, false] #[true, false, true, false, false, true, false] rfl rfl rfl rfl (by kernel_rfl) (by decide) (by decide) (fun K hK => ?_) (fun K hK => ?_)
               ·skip
                refine goes_ Try.func20 (by kernel_rfl) rfl #[.agg #[.int .i64 a0_0, .int .i64 a0_1, .slice A0_2 l0_2.length c0_2]] (by rfl) rfl rfl (by (try simp only [List.map_toArray, List.map_cons, List.map_nil]);first | done | rfl | (simp only [List.length_drop, List.length_take];rfl)) ?_
                with_reducible refine (laws_toOcc.calls kj34 a0_0 a0_1 _ _ l0_2 t160 t161 t162 _ ?side1 ?side2 A117.out).mono ?_
                (case side1 => repeat (first | exact (Kd.C_below HR0_2.out HB.out) | (with_reducible refine Kd.C_alloc ?_ _) | (with_reducible refine Kd.C_drewN ?_ _) | (with_reducible refine Kd.C_drew ?_)))
                (case side2 => exact HC0_2.out)
                rintro e w135 ⟨v163, rfl, ho0, hb⟩
                refine ⟨_, rfl, ?_⟩
                have HO164 := Aside0.mk (Kd.R_lower (Kd.R_new' (Kd.R_new' (Kd.R_new' (Kd.R_new' ho0 (Kd.R_lt (by exact HO_121002.out))) (Kd.R_lt (by exact HO_127002.out))) (Kd.R_lt (by exact HO_133002.out))) (Kd.R_lt (by exact HO_139002.out))) (below_size (by repeat (first | (with_reducible first | exact HB.out | apply below_alloc | apply pw_below_drewN | apply below_drew1 | refine below_set ?_ GE101.out | refine below_set ?_ GE102.out | refine below_set ?_ GE120.out | refine below_set ?_ GE126.out | refine below_set ?_ GE132.out | refine below_set ?_ GE138.out) | exact HB.out))))
                replace HO_121002 := Aside0.mk (Kd.R_elder' (by exact HO_121002.out) (Kd.R_base ho0) hb)
                replace HO_127002 := Aside0.mk (Kd.R_elder' (by exact HO_127002.out) (Kd.R_base ho0) hb)
                replace HO_133002 := Aside0.mk (Kd.R_elder' (by exact HO_133002.out) (Kd.R_base ho0) hb)
                replace HO_139002 := Aside0.mk (Kd.R_elder' (by exact HO_139002.out) (Kd.R_base ho0) hb)
                replace BK101 := Aside0.mk (blk_below BK101.out hb)
                replace BK102 := Aside0.mk (blk_below BK102.out hb)
                replace BK120 := Aside0.mk (blk_below BK120.out hb)
                replace BK126 := Aside0.mk (blk_below BK126.out hb)
                replace BK132 := Aside0.mk (blk_below BK132.out hb)
                replace BK138 := Aside0.mk (blk_below BK138.out hb)
                replace HB := Aside0.mk (below_step (by repeat (first | (with_reducible first | exact HB.out | apply below_alloc | apply pw_below_drewN | apply below_drew1 | refine below_set ?_ GE101.out | refine below_set ?_ GE102.out | refine below_set ?_ GE120.out | refine below_set ?_ GE126.out | refine below_set ?_ GE132.out | refine below_set ?_ GE138.out) | exact HB.out)) hb)
                (try clear hb)
                (try clear hb2)
                (try clear hk)
                (try clear hi)
                (try clear ho0)
                refine hK.out _ _ ⟨(blk_cell BK101.out 0).trans rfl, (blk_cell BK101.out 1).trans rfl, (blk_cell BK101.out 2).trans rfl, (blk_cell BK102.out 0).trans rfl, (blk_cell BK102.out 1).trans rfl, (blk_cell BK102.out 2).trans rfl⟩ (fun hHeld => ?_)
                clear hK K
                refine norm_ (a' := ?_) ?_ ?_
                rotate_left
                ·show Act.put _ (some 76) _ = _
                 simp only [Act.put, List.setIfInBounds_toArray, List.set_cons_zero, List.set_cons_succ, i64_w, i32_w]
                 rfl
                refine two_ (i := 3) (j := 5) (Ni := some 78) (Nj := some 13) #[true, true, true, true, false, false, false] #[true, true, true, false, false, true, false] rfl rfl rfl rfl (by kernel_rfl) (by decide) (by decide) (fun K hK => ?_) (fun K hK => ?_)
                ·skip
                 refine goes_ Try.func20 (by kernel_rfl) rfl #[.agg #[.int .i64 a1_0, .int .i64 a1_1, .slice A1_2 l1_2.length c1_2]] (by rfl) rfl rfl (by (try simp only [List.map_toArray, List.map_cons, List.map_nil]);first | done | rfl | (simp only [List.length_drop, List.length_take];rfl)) ?_
                 with_reducible refine (laws_toOcc.calls kj34 a1_0 a1_1 _ _ l1_2 t165 t166 t167 _ ?side1 ?side2 A118.out).mono ?_
                 (case side1 => repeat (first | exact (Kd.C_below HR1_2.out HB.out) | (with_reducible refine Kd.C_alloc ?_ _) | (with_reducible refine Kd.C_drewN ?_ _) | (with_reducible refine Kd.C_drew ?_)))
                 (case side2 => exact HC1_2.out)
                 rintro e w136 ⟨v168, rfl, ho0, hb⟩
                 refine ⟨_, rfl, ?_⟩
                 have HO169 := Aside0.mk (Kd.R_lower (Kd.R_new' (Kd.R_new' (Kd.R_new' (Kd.R_new' (Kd.R_new' ho0 (Kd.R_lt (by exact HO_121002.out))) (Kd.R_lt (by exact HO_127002.out))) (Kd.R_lt (by exact HO_133002.out))) (Kd.R_lt (by exact HO_139002.out))) (Kd.R_lt (by exact HO164.out))) (below_size (by repeat (first | (with_reducible first | exact HB.out | apply below_alloc | apply pw_below_drewN | apply below_drew1 | refine below_set ?_ GE101.out | refine below_set ?_ GE102.out | refine below_set ?_ GE120.out | refine below_set ?_ GE126.out | refine below_set ?_ GE132.out | refine below_set ?_ GE138.out) | exact HB.out))))
                 replace HO_121002 := Aside0.mk (Kd.R_elder' (by exact HO_121002.out) (Kd.R_base ho0) hb)
                 replace HO_127002 := Aside0.mk (Kd.R_elder' (by exact HO_127002.out) (Kd.R_base ho0) hb)
                 replace HO_133002 := Aside0.mk (Kd.R_elder' (by exact HO_133002.out) (Kd.R_base ho0) hb)
                 replace HO_139002 := Aside0.mk (Kd.R_elder' (by exact HO_139002.out) (Kd.R_base ho0) hb)
                 replace HO164 := Aside0.mk (Kd.R_elder' (by exact HO164.out) (Kd.R_base ho0) hb)
                 replace BK101 := Aside0.mk (blk_below BK101.out hb)
                 replace BK102 := Aside0.mk (blk_below BK102.out hb)
                 replace BK120 := Aside0.mk (blk_below BK120.out hb)
                 replace BK126 := Aside0.mk (blk_below BK126.out hb)
                 replace BK132 := Aside0.mk (blk_below BK132.out hb)
                 replace BK138 := Aside0.mk (blk_below BK138.out hb)
                 replace HB := Aside0.mk (below_step (by repeat (first | (with_reducible first | exact HB.out | apply below_alloc | apply pw_below_drewN | apply below_drew1 | refine below_set ?_ GE101.out | refine below_set ?_ GE102.out | refine below_set ?_ GE120.out | refine below_set ?_ GE126.out | refine below_set ?_ GE132.out | refine below_set ?_ GE138.out) | exact HB.out)) hb)
                 (try clear hb)
                 (try clear hb2)
                 (try clear hk)
                 (try clear hi)
                 (try clear ho0)
                 obtain ⟨Ao137, co137, eo137⟩ := Kd.R_slice HO164.out
                 (first | subst eo137 | (injection eo137 with f1_ f2_ f3_;have f4_ := f1_.symm;have f5_ := f3_.symm;clear f1_ f2_ f3_;subst f4_;subst f5_))
                 obtain ⟨Ao138, co138, eo138⟩ := Kd.R_slice HO169.out
                 (first | subst eo138 | (injection eo138 with f1_ f2_ f3_;have f4_ := f1_.symm;have f5_ := f3_.symm;clear f1_ f2_ f3_;subst f4_;subst f5_))
                 refine hK.out _ _ ⟨(blk_cell BK101.out 0).trans rfl, (blk_cell BK101.out 1).trans rfl, (blk_cell BK101.out 2).trans rfl, (blk_cell BK102.out 0).trans rfl, (blk_cell BK102.out 1).trans rfl, (blk_cell BK102.out 2).trans rfl⟩ (fun hHeld => ?_)
                 clear hK K
                 refine norm_ (a' := ?_) ?_ ?_
                 rotate_left
                 ·show Act.put _ (some 78) _ = _
                  simp only [Act.put, List.setIfInBounds_toArray, List.set_cons_zero, List.set_cons_succ, i64_w, i32_w]
                  rfl
                 refine two_ (i := 4) (j := 5) (Ni := some 79) (Nj := some 13) #[true, true, true, true, true, false, false] #[true, true, true, true, false, true, false] rfl rfl rfl rfl (by kernel_rfl) (by decide) (by decide) (fun K hK => ?_) (fun K hK => ?_)
                 ·skip
                  refine goes_ Try.func49 (by kernel_rfl) rfl #[.agg #[.int .i64 t160, .int .i64 t161, .slice Ao137 t162.length co137], .agg #[.int .i64 t165, .int .i64 t166, .slice Ao138 t167.length co138]] (by rfl) rfl rfl (by (try simp only [List.map_toArray, List.map_cons, List.map_nil]);first | done | rfl | (simp only [List.length_drop, List.length_take];rfl)) ?_
                  with_reducible refine (impl_OccJoin.calls kj34 t160 t161 _ _ t162 t165 t166 _ _ t167 t170 t171 t172 _ ?side1 ?side2 ?side3 ?side4 A119.out).mono ?_
                  (case side1 => repeat (first | exact (Kd.R_reads' HO164.out).2.2 | (with_reducible refine Kd.C_alloc ?_ _) | (with_reducible refine Kd.C_drewN ?_ _) | (with_reducible refine Kd.C_drew ?_)))
                  (case side2 => exact (Kd.R_reads' HO164.out).2.1)
                  (case side3 => repeat (first | exact (Kd.R_reads' HO169.out).2.2 | (with_reducible refine Kd.C_alloc ?_ _) | (with_reducible refine Kd.C_drewN ?_ _) | (with_reducible refine Kd.C_drew ?_)))
                  (case side4 => exact (Kd.R_reads' HO169.out).2.1)
                  rintro e w139 ⟨v173, rfl, ho0, hb⟩
                  refine ⟨_, rfl, ?_⟩
                  have HO174 := Aside0.mk (Kd.R_lower (Kd.R_new' (Kd.R_new' (Kd.R_new' (Kd.R_new' (Kd.R_new' (Kd.R_new' ho0 (Kd.R_lt (by exact HO_121002.out))) (Kd.R_lt (by exact HO_127002.out))) (Kd.R_lt (by exact HO_133002.out))) (Kd.R_lt (by exact HO_139002.out))) (Kd.R_lt (by exact HO164.out))) (Kd.R_lt (by exact HO169.out))) (below_size (by repeat (first | (with_reducible first | exact HB.out | apply below_alloc | apply pw_below_drewN | apply below_drew1 | refine below_set ?_ GE101.out | refine below_set ?_ GE102.out | refine below_set ?_ GE120.out | refine below_set ?_ GE126.out | refine below_set ?_ GE132.out | refine below_set ?_ GE138.out) | exact HB.out))))
                  replace HO_121002 := Aside0.mk (Kd.R_elder' (by exact HO_121002.out) (Kd.R_base ho0) hb)
                  replace HO_127002 := Aside0.mk (Kd.R_elder' (by exact HO_127002.out) (Kd.R_base ho0) hb)
                  replace HO_133002 := Aside0.mk (Kd.R_elder' (by exact HO_133002.out) (Kd.R_base ho0) hb)
                  replace HO_139002 := Aside0.mk (Kd.R_elder' (by exact HO_139002.out) (Kd.R_base ho0) hb)
                  replace HO164 := Aside0.mk (Kd.R_elder' (by exact HO164.out) (Kd.R_base ho0) hb)
                  replace HO169 := Aside0.mk (Kd.R_elder' (by exact HO169.out) (Kd.R_base ho0) hb)
                  replace BK101 := Aside0.mk (blk_below BK101.out hb)
                  replace BK102 := Aside0.mk (blk_below BK102.out hb)
                  replace BK120 := Aside0.mk (blk_below BK120.out hb)
                  replace BK126 := Aside0.mk (blk_below BK126.out hb)
                  replace BK132 := Aside0.mk (blk_below BK132.out hb)
                  replace BK138 := Aside0.mk (blk_below BK138.out hb)
                  replace HB := Aside0.mk (below_step (by repeat (first | (with_reducible first | exact HB.out | apply below_alloc | apply pw_below_drewN | apply below_drew1 | refine below_set ?_ GE101.out | refine below_set ?_ GE102.out | refine below_set ?_ GE120.out | refine below_set ?_ GE126.out | refine below_set ?_ GE132.out | refine below_set ?_ GE138.out) | exact HB.out)) hb)
                  (try clear hb)
                  (try clear hb2)
                  (try clear hk)
                  (try clear hi)
                  (try clear ho0)
                  refine hK.out _ _ ⟨(blk_cell BK101.out 0).trans rfl, (blk_cell BK101.out 1).trans rfl, (blk_cell BK101.out 2).trans rfl, (blk_cell BK102.out 0).trans rfl, (blk_cell BK102.out 1).trans rfl, (blk_cell BK102.out 2).trans rfl⟩ (fun hHeld => ?_)
                  clear hK K
                  refine norm_ (a' := ?_) ?_ ?_
                  rotate_left
                  ·show Act.put _ (some 79) _ = _
                   simp only [Act.put, List.setIfInBounds_toArray, List.set_cons_zero, List.set_cons_succ, i64_w, i32_w]
                   rfl
                  refine one_ (i := 5) (N := some 13) #[true, true, true, true, true, true, false] rfl rfl (by kernel_rfl) (by decide) (fun K hK => ?_)
                  refine box_step ?hg (N := 13) ?hd (cs := #[.int .i64 0, .int .i64 0, .slice none 0 0]) (t := 27) ?hr ?_;(case hd => rfl);(case hg => rfl);(case hr => first | (go_simp;done) | (go_simp;rfl))
                  intro gb175 hg w140 hbox hb
                  replace HO_121002 := Aside0.mk (Kd.R_below (by exact HO_121002.out) hb)
                  replace HO_127002 := Aside0.mk (Kd.R_below (by exact HO_127002.out) hb)
                  replace HO_133002 := Aside0.mk (Kd.R_below (by exact HO_133002.out) hb)
                  replace HO_139002 := Aside0.mk (Kd.R_below (by exact HO_139002.out) hb)
                  replace HO164 := Aside0.mk (Kd.R_below (by exact HO164.out) hb)
                  replace HO169 := Aside0.mk (Kd.R_below (by exact HO169.out) hb)
                  replace HO174 := Aside0.mk (Kd.R_below (by exact HO174.out) hb)
                  have BK175 := Aside0.mk (hbox)
                  have GW175 := Aside0.mk ((by rw [hg];exact (below_size (by repeat (first | (with_reducible first | exact HB.out | apply below_alloc | apply pw_below_drewN | apply below_drew1 | refine below_set ?_ GE101.out | refine below_set ?_ GE102.out | refine below_set ?_ GE120.out | refine below_set ?_ GE126.out | refine below_set ?_ GE132.out | refine below_set ?_ GE138.out) | exact HB.out))) : w.heap.size ≤ gb175))
                  have GE175 := Aside0.mk ((by rw [hg];exact (below_size (by repeat (first | (with_reducible first | exact HB.out | apply below_alloc | apply pw_below_drewN | apply below_drew1 | refine below_set ?_ GE101.out | refine below_set ?_ GE102.out | refine below_set ?_ GE120.out | refine below_set ?_ GE126.out | refine below_set ?_ GE132.out | refine below_set ?_ GE138.out) | exact HB.out))) : w.heap.size ≤ gb175))
                  replace HB := Aside0.mk (below_step (by repeat (first | (with_reducible first | exact HB.out | apply below_alloc | apply pw_below_drewN | apply below_drew1 | refine below_set ?_ GE101.out | refine below_set ?_ GE102.out | refine below_set ?_ GE120.out | refine below_set ?_ GE126.out | refine below_set ?_ GE132.out | refine below_set ?_ GE138.out) | exact HB.out)) hb)
                  have NB101_175 := Aside0.mk ((by rw [hg];exact Nat.ne_of_lt (blk_lt BK101.out) : gb101 ≠ gb175))
                  have NB175_101 := Aside0.mk ((by rw [hg];exact Nat.ne_of_gt (blk_lt BK101.out) : gb175 ≠ gb101))
                  replace BK101 := Aside0.mk (blk_below BK101.out hb)
                  have NB102_175 := Aside0.mk ((by rw [hg];exact Nat.ne_of_lt (blk_lt BK102.out) : gb102 ≠ gb175))
                  have NB175_102 := Aside0.mk ((by rw [hg];exact Nat.ne_of_gt (blk_lt BK102.out) : gb175 ≠ gb102))
                  replace BK102 := Aside0.mk (blk_below BK102.out hb)
                  have NB120_175 := Aside0.mk ((by rw [hg];exact Nat.ne_of_lt (blk_lt BK120.out) : gb120 ≠ gb175))
                  have NB175_120 := Aside0.mk ((by rw [hg];exact Nat.ne_of_gt (blk_lt BK120.out) : gb175 ≠ gb120))
                  replace BK120 := Aside0.mk (blk_below BK120.out hb)
                  have NB126_175 := Aside0.mk ((by rw [hg];exact Nat.ne_of_lt (blk_lt BK126.out) : gb126 ≠ gb175))
                  have NB175_126 := Aside0.mk ((by rw [hg];exact Nat.ne_of_gt (blk_lt BK126.out) : gb175 ≠ gb126))
                  replace BK126 := Aside0.mk (blk_below BK126.out hb)
                  have NB132_175 := Aside0.mk ((by rw [hg];exact Nat.ne_of_lt (blk_lt BK132.out) : gb132 ≠ gb175))
                  have NB175_132 := Aside0.mk ((by rw [hg];exact Nat.ne_of_gt (blk_lt BK132.out) : gb175 ≠ gb132))
                  replace BK132 := Aside0.mk (blk_below BK132.out hb)
                  have NB138_175 := Aside0.mk ((by rw [hg];exact Nat.ne_of_lt (blk_lt BK138.out) : gb138 ≠ gb175))
                  have NB175_138 := Aside0.mk ((by rw [hg];exact Nat.ne_of_gt (blk_lt BK138.out) : gb175 ≠ gb138))
                  replace BK138 := Aside0.mk (blk_below BK138.out hb)
                  clear hb hbox hg
                  refine hK.out _ _ ⟨(blk_cell BK101.out 0).trans rfl, (blk_cell BK101.out 1).trans rfl, (blk_cell BK101.out 2).trans rfl, (blk_cell BK102.out 0).trans rfl, (blk_cell BK102.out 1).trans rfl, (blk_cell BK102.out 2).trans rfl⟩ (fun hHeld => ?_)
                  clear hK K
                  refine norm_ (a' := ?_) ?_ ?_
                  rotate_left
                  ·show Act.put _ (some 13) _ = _
                   simp only [Act.put, List.setIfInBounds_toArray, List.set_cons_zero, List.set_cons_succ, i64_w, i32_w]
                   rfl
                  exact norm_ (by simp only [putAll, Act.put, List.setIfInBounds_toArray, List.set_cons_zero, List.set_cons_succ]) (hCont (.slice Ao137 t162.length co137, .slice Ao138 t167.length co138, v173, gb175) _ ⟨hHeld, (by (with_reducible repeat (first | apply Kd.R_alloc | apply Kd.R_drewN | apply Kd.R_drew));exact Kd.R_mono HO164.out (fun _ hk => ⟨hk.1.2, ⟨hk.2, ⟨hk.1.1.1.1.1.2, ⟨hk.1.1.1.1.2, ⟨hk.1.1.1.2, hk.1.1.2⟩⟩⟩⟩⟩)), (by (with_reducible repeat (first | apply Kd.R_alloc | apply Kd.R_drewN | apply Kd.R_drew));exact Kd.R_mono HO169.out (fun _ hk => ⟨hk.1.2, ⟨hk.2, ⟨hk.1.1.1.1.1.2, ⟨hk.1.1.1.1.2, ⟨hk.1.1.1.2, hk.1.1.2⟩⟩⟩⟩⟩)), (by (with_reducible repeat (first | apply Kd.R_alloc | apply Kd.R_drewN | apply Kd.R_drew));exact Kd.R_mono HO174.out (fun _ hk => ⟨hk.1.2, ⟨hk.2, ⟨hk.1.1.1.1.1.2, ⟨hk.1.1.1.1.2, ⟨hk.1.1.1.2, hk.1.1.2⟩⟩⟩⟩⟩)), (by (with_reducible repeat (first | apply Kd.R_alloc | apply Kd.R_drewN | apply Kd.R_drew));exact Kd.R_mono HO_121002.out (fun _ hk => ⟨hk.1.1.2, ⟨hk.1.2, ⟨hk.2, ⟨hk.1.1.1.1, ⟨hk.1.1.1.2.1, hk.1.1.1.2.2⟩⟩⟩⟩⟩)), (by (with_reducible repeat (first | apply Kd.R_alloc | apply Kd.R_drewN | apply Kd.R_drew));exact Kd.R_mono HO_127002.out (fun _ hk => ⟨hk.1.1.2, ⟨hk.1.2, ⟨hk.2, ⟨hk.1.1.1.1, ⟨hk.1.1.1.2.1, hk.1.1.1.2.2⟩⟩⟩⟩⟩)), (by (with_reducible repeat (first | apply Kd.R_alloc | apply Kd.R_drewN | apply Kd.R_drew));exact Kd.R_mono HO_133002.out (fun _ hk => ⟨hk.1.1.2, ⟨hk.1.2, ⟨hk.2, ⟨hk.1.1.1.1, ⟨hk.1.1.1.2.1, hk.1.1.1.2.2⟩⟩⟩⟩⟩)), (by (with_reducible repeat (first | apply Kd.R_alloc | apply Kd.R_drewN | apply Kd.R_drew));exact Kd.R_mono HO_139002.out (fun _ hk => ⟨hk.1.1.2, ⟨hk.1.2, ⟨hk.2, ⟨hk.1.1.1.1, ⟨hk.1.1.1.2.1, hk.1.1.1.2.2⟩⟩⟩⟩⟩)), (by (with_reducible repeat (first | refine blk_drewN ?_ _ | refine blk_drew ?_ | refine blk_alloc ?_ _));exact BK101.out), (by (with_reducible repeat (first | refine blk_drewN ?_ _ | refine blk_drew ?_ | refine blk_alloc ?_ _));exact BK102.out), (by (with_reducible repeat (first | refine blk_drewN ?_ _ | refine blk_drew ?_ | refine blk_alloc ?_ _));exact BK120.out), (by (with_reducible repeat (first | refine blk_drewN ?_ _ | refine blk_drew ?_ | refine blk_alloc ?_ _));exact BK126.out), (by (with_reducible repeat (first | refine blk_drewN ?_ _ | refine blk_drew ?_ | refine blk_alloc ?_ _));exact BK132.out), (by (with_reducible repeat (first | refine blk_drewN ?_ _ | refine blk_drew ?_ | refine blk_alloc ?_ _));exact BK138.out), (by (with_reducible repeat (first | refine blk_drewN ?_ _ | refine blk_drew ?_ | refine blk_alloc ?_ _));exact BK175.out), GW175.out, GE175.out, NB101_175.out, NB175_101.out, NB102_175.out, NB175_102.out, NB120_175.out, NB175_120.out, NB126_175.out, NB175_126.out, NB132_175.out, NB175_132.out, NB138_175.out, NB175_138.out, (by repeat (first | (with_reducible first | exact HB.out | apply below_alloc | apply pw_below_drewN | apply below_drew1 | refine below_set ?_ GE101.out | refine below_set ?_ GE102.out | refine below_set ?_ GE120.out | refine below_set ?_ GE126.out | refine below_set ?_ GE132.out | refine below_set ?_ GE138.out | refine below_set ?_ GE175.out) | exact HB.out))⟩)
                 ·skip
                  refine box_step ?hg (N := 13) ?hd (cs := #[.int .i64 0, .int .i64 0, .slice none 0 0]) (t := 27) ?hr ?_;(case hd => rfl);(case hg => rfl);(case hr => first | (go_simp;done) | (go_simp;rfl))
                  intro gb175 hg w137 hbox hb
                  replace HO_121002 := Aside0.mk (Kd.R_below (by exact HO_121002.out) hb)
                  replace HO_127002 := Aside0.mk (Kd.R_below (by exact HO_127002.out) hb)
                  replace HO_133002 := Aside0.mk (Kd.R_below (by exact HO_133002.out) hb)
                  replace HO_139002 := Aside0.mk (Kd.R_below (by exact HO_139002.out) hb)
                  replace HO164 := Aside0.mk (Kd.R_below (by exact HO164.out) hb)
                  replace HO169 := Aside0.mk (Kd.R_below (by exact HO169.out) hb)
                  have BK175 := Aside0.mk (hbox)
                  have GW175 := Aside0.mk ((by rw [hg];exact (below_size (by repeat (first | (with_reducible first | exact HB.out | apply below_alloc | apply pw_below_drewN | apply below_drew1 | refine below_set ?_ GE101.out | refine below_set ?_ GE102.out | refine below_set ?_ GE120.out | refine below_set ?_ GE126.out | refine below_set ?_ GE132.out | refine below_set ?_ GE138.out) | exact HB.out))) : w.heap.size ≤ gb175))
                  have GE175 := Aside0.mk ((by rw [hg];exact (below_size (by repeat (first | (with_reducible first | exact HB.out | apply below_alloc | apply pw_below_drewN | apply below_drew1 | refine below_set ?_ GE101.out | refine below_set ?_ GE102.out | refine below_set ?_ GE120.out | refine below_set ?_ GE126.out | refine below_set ?_ GE132.out | refine below_set ?_ GE138.out) | exact HB.out))) : w.heap.size ≤ gb175))
                  replace HB := Aside0.mk (below_step (by repeat (first | (with_reducible first | exact HB.out | apply below_alloc | apply pw_below_drewN | apply below_drew1 | refine below_set ?_ GE101.out | refine below_set ?_ GE102.out | refine below_set ?_ GE120.out | refine below_set ?_ GE126.out | refine below_set ?_ GE132.out | refine below_set ?_ GE138.out) | exact HB.out)) hb)
                  have NB101_175 := Aside0.mk ((by rw [hg];exact Nat.ne_of_lt (blk_lt BK101.out) : gb101 ≠ gb175))
                  have NB175_101 := Aside0.mk ((by rw [hg];exact Nat.ne_of_gt (blk_lt BK101.out) : gb175 ≠ gb101))
                  replace BK101 := Aside0.mk (blk_below BK101.out hb)
                  have NB102_175 := Aside0.mk ((by rw [hg];exact Nat.ne_of_lt (blk_lt BK102.out) : gb102 ≠ gb175))
                  have NB175_102 := Aside0.mk ((by rw [hg];exact Nat.ne_of_gt (blk_lt BK102.out) : gb175 ≠ gb102))
                  replace BK102 := Aside0.mk (blk_below BK102.out hb)
                  have NB120_175 := Aside0.mk ((by rw [hg];exact Nat.ne_of_lt (blk_lt BK120.out) : gb120 ≠ gb175))
                  have NB175_120 := Aside0.mk ((by rw [hg];exact Nat.ne_of_gt (blk_lt BK120.out) : gb175 ≠ gb120))
                  replace BK120 := Aside0.mk (blk_below BK120.out hb)
                  have NB126_175 := Aside0.mk ((by rw [hg];exact Nat.ne_of_lt (blk_lt BK126.out) : gb126 ≠ gb175))
                  have NB175_126 := Aside0.mk ((by rw [hg];exact Nat.ne_of_gt (blk_lt BK126.out) : gb175 ≠ gb126))
                  replace BK126 := Aside0.mk (blk_below BK126.out hb)
                  have NB132_175 := Aside0.mk ((by rw [hg];exact Nat.ne_of_lt (blk_lt BK132.out) : gb132 ≠ gb175))
                  have NB175_132 := Aside0.mk ((by rw [hg];exact Nat.ne_of_gt (blk_lt BK132.out) : gb175 ≠ gb132))
                  replace BK132 := Aside0.mk (blk_below BK132.out hb)
                  have NB138_175 := Aside0.mk ((by rw [hg];exact Nat.ne_of_lt (blk_lt BK138.out) : gb138 ≠ gb175))
                  have NB175_138 := Aside0.mk ((by rw [hg];exact Nat.ne_of_gt (blk_lt BK138.out) : gb175 ≠ gb138))
                  replace BK138 := Aside0.mk (blk_below BK138.out hb)
                  clear hb hbox hg
                  obtain ⟨Ao138, co138, eo138⟩ := Kd.R_slice HO164.out
                  (first | subst eo138 | (injection eo138 with f1_ f2_ f3_;have f4_ := f1_.symm;have f5_ := f3_.symm;clear f1_ f2_ f3_;subst f4_;subst f5_))
                  obtain ⟨Ao139, co139, eo139⟩ := Kd.R_slice HO169.out
                  (first | subst eo139 | (injection eo139 with f1_ f2_ f3_;have f4_ := f1_.symm;have f5_ := f3_.symm;clear f1_ f2_ f3_;subst f4_;subst f5_))
                  refine hK.out _ _ ⟨(blk_cell BK101.out 0).trans rfl, (blk_cell BK101.out 1).trans rfl, (blk_cell BK101.out 2).trans rfl, (blk_cell BK102.out 0).trans rfl, (blk_cell BK102.out 1).trans rfl, (blk_cell BK102.out 2).trans rfl⟩ (fun hHeld => ?_)
                  clear hK K
                  refine norm_ (a' := ?_) ?_ ?_
                  rotate_left
                  ·show Act.put _ (some 13) _ = _
                   simp only [Act.put, List.setIfInBounds_toArray, List.set_cons_zero, List.set_cons_succ, i64_w, i32_w]
                   rfl
                  refine one_ (i := 4) (N := some 79) #[true, true, true, true, true, true, false] rfl rfl (by kernel_rfl) (by decide) (fun K hK => ?_)
                  refine goes_ Try.func49 (by kernel_rfl) rfl #[.agg #[.int .i64 t160, .int .i64 t161, .slice Ao138 t162.length co138], .agg #[.int .i64 t165, .int .i64 t166, .slice Ao139 t167.length co139]] (by rfl) rfl rfl (by (try simp only [List.map_toArray, List.map_cons, List.map_nil]);first | done | rfl | (simp only [List.length_drop, List.length_take];rfl)) ?_
                  with_reducible refine (impl_OccJoin.calls kj34 t160 t161 _ _ t162 t165 t166 _ _ t167 t170 t171 t172 _ ?side1 ?side2 ?side3 ?side4 A119.out).mono ?_
                  (case side1 => repeat (first | exact (Kd.R_reads' HO164.out).2.2 | (with_reducible refine Kd.C_alloc ?_ _) | (with_reducible refine Kd.C_drewN ?_ _) | (with_reducible refine Kd.C_drew ?_)))
                  (case side2 => exact (Kd.R_reads' HO164.out).2.1)
                  (case side3 => repeat (first | exact (Kd.R_reads' HO169.out).2.2 | (with_reducible refine Kd.C_alloc ?_ _) | (with_reducible refine Kd.C_drewN ?_ _) | (with_reducible refine Kd.C_drew ?_)))
                  (case side4 => exact (Kd.R_reads' HO169.out).2.1)
                  rintro e w140 ⟨v173, rfl, ho0, hb⟩
                  refine ⟨_, rfl, ?_⟩
                  have HO174 := Aside0.mk (Kd.R_lower (Kd.R_new' (Kd.R_new' (Kd.R_new' (Kd.R_new' (Kd.R_new' (Kd.R_new' ho0 (Kd.R_lt (by exact HO_121002.out))) (Kd.R_lt (by exact HO_127002.out))) (Kd.R_lt (by exact HO_133002.out))) (Kd.R_lt (by exact HO_139002.out))) (Kd.R_lt (by exact HO164.out))) (Kd.R_lt (by exact HO169.out))) (below_size (by repeat (first | (with_reducible first | exact HB.out | apply below_alloc | apply pw_below_drewN | apply below_drew1 | refine below_set ?_ GE101.out | refine below_set ?_ GE102.out | refine below_set ?_ GE120.out | refine below_set ?_ GE126.out | refine below_set ?_ GE132.out | refine below_set ?_ GE138.out | refine below_set ?_ GE175.out) | exact HB.out))))
                  replace HO_121002 := Aside0.mk (Kd.R_elder' (by exact HO_121002.out) (Kd.R_base ho0) hb)
                  replace HO_127002 := Aside0.mk (Kd.R_elder' (by exact HO_127002.out) (Kd.R_base ho0) hb)
                  replace HO_133002 := Aside0.mk (Kd.R_elder' (by exact HO_133002.out) (Kd.R_base ho0) hb)
                  replace HO_139002 := Aside0.mk (Kd.R_elder' (by exact HO_139002.out) (Kd.R_base ho0) hb)
                  replace HO164 := Aside0.mk (Kd.R_elder' (by exact HO164.out) (Kd.R_base ho0) hb)
                  replace HO169 := Aside0.mk (Kd.R_elder' (by exact HO169.out) (Kd.R_base ho0) hb)
                  replace BK101 := Aside0.mk (blk_below BK101.out hb)
                  replace BK102 := Aside0.mk (blk_below BK102.out hb)
                  replace BK120 := Aside0.mk (blk_below BK120.out hb)
                  replace BK126 := Aside0.mk (blk_below BK126.out hb)
                  replace BK132 := Aside0.mk (blk_below BK132.out hb)
                  replace BK138 := Aside0.mk (blk_below BK138.out hb)
                  replace BK175 := Aside0.mk (blk_below BK175.out hb)
                  replace HB := Aside0.mk (below_step (by repeat (first | (with_reducible first | exact HB.out | apply below_alloc | apply pw_below_drewN | apply below_drew1 | refine below_set ?_ GE101.out | refine below_set ?_ GE102.out | refine below_set ?_ GE120.out | refine below_set ?_ GE126.out | refine below_set ?_ GE132.out | refine below_set ?_ GE138.out | refine below_set ?_ GE175.out) | exact HB.out)) hb)
                  (try clear hb)
                  (try clear hb2)
                  (try clear hk)
                  (try clear hi)
                  (try clear ho0)
                  refine hK.out _ _ ⟨(blk_cell BK101.out 0).trans rfl, (blk_cell BK101.out 1).trans rfl, (blk_cell BK101.out 2).trans rfl, (blk_cell BK102.out 0).trans rfl, (blk_cell BK102.out 1).trans rfl, (blk_cell BK102.out 2).trans rfl⟩ (fun hHeld => ?_)
                  clear hK K
                  refine norm_ (a' := ?_) ?_ ?_
                  rotate_left
                  ·show Act.put _ (some 79) _ = _
                   simp only [Act.put, List.setIfInBounds_toArray, List.set_cons_zero, List.set_cons_succ, i64_w, i32_w]
                   rfl
                  exact norm_ (by simp only [putAll, Act.put, List.setIfInBounds_toArray, List.set_cons_zero, List.set_cons_succ]) (hCont (.slice Ao138 t162.length co138, .slice Ao139 t167.length co139, v173, gb175) _ ⟨hHeld, (by (with_reducible repeat (first | apply Kd.R_alloc | apply Kd.R_drewN | apply Kd.R_drew));exact Kd.R_mono HO164.out (fun _ hk => ⟨hk.1.2, ⟨hk.2, ⟨hk.1.1.1.1.1.2, ⟨hk.1.1.1.1.2, ⟨hk.1.1.1.2, hk.1.1.2⟩⟩⟩⟩⟩)), (by (with_reducible repeat (first | apply Kd.R_alloc | apply Kd.R_drewN | apply Kd.R_drew));exact Kd.R_mono HO169.out (fun _ hk => ⟨hk.1.2, ⟨hk.2, ⟨hk.1.1.1.1.1.2, ⟨hk.1.1.1.1.2, ⟨hk.1.1.1.2, hk.1.1.2⟩⟩⟩⟩⟩)), (by (with_reducible repeat (first | apply Kd.R_alloc | apply Kd.R_drewN | apply Kd.R_drew));exact Kd.R_mono HO174.out (fun _ hk => ⟨hk.1.2, ⟨hk.2, ⟨hk.1.1.1.1.1.2, ⟨hk.1.1.1.1.2, ⟨hk.1.1.1.2, hk.1.1.2⟩⟩⟩⟩⟩)), (by (with_reducible repeat (first | apply Kd.R_alloc | apply Kd.R_drewN | apply Kd.R_drew));exact Kd.R_mono HO_121002.out (fun _ hk => ⟨hk.1.1.2, ⟨hk.1.2, ⟨hk.2, ⟨hk.1.1.1.1, ⟨hk.1.1.1.2.1, hk.1.1.1.2.2⟩⟩⟩⟩⟩)), (by (with_reducible repeat (first | apply Kd.R_alloc | apply Kd.R_drewN | apply Kd.R_drew));exact Kd.R_mono HO_127002.out (fun _ hk => ⟨hk.1.1.2, ⟨hk.1.2, ⟨hk.2, ⟨hk.1.1.1.1, ⟨hk.1.1.1.2.1, hk.1.1.1.2.2⟩⟩⟩⟩⟩)), (by (with_reducible repeat (first | apply Kd.R_alloc | apply Kd.R_drewN | apply Kd.R_drew));exact Kd.R_mono HO_133002.out (fun _ hk => ⟨hk.1.1.2, ⟨hk.1.2, ⟨hk.2, ⟨hk.1.1.1.1, ⟨hk.1.1.1.2.1, hk.1.1.1.2.2⟩⟩⟩⟩⟩)), (by (with_reducible repeat (first | apply Kd.R_alloc | apply Kd.R_drewN | apply Kd.R_drew));exact Kd.R_mono HO_139002.out (fun _ hk => ⟨hk.1.1.2, ⟨hk.1.2, ⟨hk.2, ⟨hk.1.1.1.1, ⟨hk.1.1.1.2.1, hk.1.1.1.2.2⟩⟩⟩⟩⟩)), (by (with_reducible repeat (first | refine blk_drewN ?_ _ | refine blk_drew ?_ | refine blk_alloc ?_ _));exact BK101.out), (by (with_reducible repeat (first | refine blk_drewN ?_ _ | refine blk_drew ?_ | refine blk_alloc ?_ _));exact BK102.out), (by (with_reducible repeat (first | refine blk_drewN ?_ _ | refine blk_drew ?_ | refine blk_alloc ?_ _));exact BK120.out), (by (with_reducible repeat (first | refine blk_drewN ?_ _ | refine blk_drew ?_ | refine blk_alloc ?_ _));exact BK126.out), (by (with_reducible repeat (first | refine blk_drewN ?_ _ | refine blk_drew ?_ | refine blk_alloc ?_ _));exact BK132.out), (by (with_reducible repeat (first | refine blk_drewN ?_ _ | refine blk_drew ?_ | refine blk_alloc ?_ _));exact BK138.out), (by (with_reducible repeat (first | refine blk_drewN ?_ _ | refine blk_drew ?_ | refine blk_alloc ?_ _));exact BK175.out), GW175.out, GE175.out, NB101_175.out, NB175_101.out, NB102_175.out, NB175_102.out, NB120_175.out, NB175_120.out, NB126_175.out, NB175_126.out, NB132_175.out, NB175_132.out, NB138_175.out, NB175_138.out, (by repeat (first | (with_reducible first | exact HB.out | apply below_alloc | apply pw_below_drewN | apply below_drew1 | refine below_set ?_ GE101.out | refine below_set ?_ GE102.out | refine below_set ?_ GE120.out | refine below_set ?_ GE126.out | refine below_set ?_ GE132.out | refine below_set ?_ GE138.out | refine below_set ?_ GE175.out) | exact HB.out))⟩)
                ·skip
                 refine box_step ?hg (N := 13) ?hd (cs := #[.int .i64 0, .int .i64 0, .slice none 0 0]) (t := 27) ?hr ?_;(case hd => rfl);(case hg => rfl);(case hr => first | (go_simp;done) | (go_simp;rfl))
                 intro gb175 hg w136 hbox hb
                 replace HO_121002 := Aside0.mk (Kd.R_below (by exact HO_121002.out) hb)
                 replace HO_127002 := Aside0.mk (Kd.R_below (by exact HO_127002.out) hb)
                 replace HO_133002 := Aside0.mk (Kd.R_below (by exact HO_133002.out) hb)
                 replace HO_139002 := Aside0.mk (Kd.R_below (by exact HO_139002.out) hb)
                 replace HO164 := Aside0.mk (Kd.R_below (by exact HO164.out) hb)
                 have BK175 := Aside0.mk (hbox)
                 have GW175 := Aside0.mk ((by rw [hg];exact (below_size (by repeat (first | (with_reducible first | exact HB.out | apply below_alloc | apply pw_below_drewN | apply below_drew1 | refine below_set ?_ GE101.out | refine below_set ?_ GE102.out | refine below_set ?_ GE120.out | refine below_set ?_ GE126.out | refine below_set ?_ GE132.out | refine below_set ?_ GE138.out) | exact HB.out))) : w.heap.size ≤ gb175))
                 have GE175 := Aside0.mk ((by rw [hg];exact (below_size (by repeat (first | (with_reducible first | exact HB.out | apply below_alloc | apply pw_below_drewN | apply below_drew1 | refine below_set ?_ GE101.out | refine below_set ?_ GE102.out | refine below_set ?_ GE120.out | refine below_set ?_ GE126.out | refine below_set ?_ GE132.out | refine below_set ?_ GE138.out) | exact HB.out))) : w.heap.size ≤ gb175))
                 replace HB := Aside0.mk (below_step (by repeat (first | (with_reducible first | exact HB.out | apply below_alloc | apply pw_below_drewN | apply below_drew1 | refine below_set ?_ GE101.out | refine below_set ?_ GE102.out | refine below_set ?_ GE120.out | refine below_set ?_ GE126.out | refine below_set ?_ GE132.out | refine below_set ?_ GE138.out) | exact HB.out)) hb)
                 have NB101_175 := Aside0.mk ((by rw [hg];exact Nat.ne_of_lt (blk_lt BK101.out) : gb101 ≠ gb175))
                 have NB175_101 := Aside0.mk ((by rw [hg];exact Nat.ne_of_gt (blk_lt BK101.out) : gb175 ≠ gb101))
                 replace BK101 := Aside0.mk (blk_below BK101.out hb)
                 have NB102_175 := Aside0.mk ((by rw [hg];exact Nat.ne_of_lt (blk_lt BK102.out) : gb102 ≠ gb175))
                 have NB175_102 := Aside0.mk ((by rw [hg];exact Nat.ne_of_gt (blk_lt BK102.out) : gb175 ≠ gb102))
                 replace BK102 := Aside0.mk (blk_below BK102.out hb)
                 have NB120_175 := Aside0.mk ((by rw [hg];exact Nat.ne_of_lt (blk_lt BK120.out) : gb120 ≠ gb175))
                 have NB175_120 := Aside0.mk ((by rw [hg];exact Nat.ne_of_gt (blk_lt BK120.out) : gb175 ≠ gb120))
                 replace BK120 := Aside0.mk (blk_below BK120.out hb)
                 have NB126_175 := Aside0.mk ((by rw [hg];exact Nat.ne_of_lt (blk_lt BK126.out) : gb126 ≠ gb175))
                 have NB175_126 := Aside0.mk ((by rw [hg];exact Nat.ne_of_gt (blk_lt BK126.out) : gb175 ≠ gb126))
                 replace BK126 := Aside0.mk (blk_below BK126.out hb)
                 have NB132_175 := Aside0.mk ((by rw [hg];exact Nat.ne_of_lt (blk_lt BK132.out) : gb132 ≠ gb175))
                 have NB175_132 := Aside0.mk ((by rw [hg];exact Nat.ne_of_gt (blk_lt BK132.out) : gb175 ≠ gb132))
                 replace BK132 := Aside0.mk (blk_below BK132.out hb)
                 have NB138_175 := Aside0.mk ((by rw [hg];exact Nat.ne_of_lt (blk_lt BK138.out) : gb138 ≠ gb175))
                 have NB175_138 := Aside0.mk ((by rw [hg];exact Nat.ne_of_gt (blk_lt BK138.out) : gb175 ≠ gb138))
                 replace BK138 := Aside0.mk (blk_below BK138.out hb)
                 clear hb hbox hg
                 refine hK.out _ _ ⟨(blk_cell BK101.out 0).trans rfl, (blk_cell BK101.out 1).trans rfl, (blk_cell BK101.out 2).trans rfl, (blk_cell BK102.out 0).trans rfl, (blk_cell BK102.out 1).trans rfl, (blk_cell BK102.out 2).trans rfl⟩ (fun hHeld => ?_)
                 clear hK K
                 refine norm_ (a' := ?_) ?_ ?_
                 rotate_left
                 ·show Act.put _ (some 13) _ = _
                  simp only [Act.put, List.setIfInBounds_toArray, List.set_cons_zero, List.set_cons_succ, i64_w, i32_w]
                  rfl
                 refine one_ (i := 3) (N := some 78) #[true, true, true, true, false, true, false] rfl rfl (by kernel_rfl) (by decide) (fun K hK => ?_)
                 refine goes_ Try.func20 (by kernel_rfl) rfl #[.agg #[.int .i64 a1_0, .int .i64 a1_1, .slice A1_2 l1_2.length c1_2]] (by rfl) rfl rfl (by (try simp only [List.map_toArray, List.map_cons, List.map_nil]);first | done | rfl | (simp only [List.length_drop, List.length_take];rfl)) ?_
                 with_reducible refine (laws_toOcc.calls kj34 a1_0 a1_1 _ _ l1_2 t165 t166 t167 _ ?side1 ?side2 A118.out).mono ?_
                 (case side1 => repeat (first | exact (Kd.C_below HR1_2.out HB.out) | (with_reducible refine Kd.C_alloc ?_ _) | (with_reducible refine Kd.C_drewN ?_ _) | (with_reducible refine Kd.C_drew ?_)))
                 (case side2 => exact HC1_2.out)
                 rintro e w137 ⟨v168, rfl, ho0, hb⟩
                 refine ⟨_, rfl, ?_⟩
                 have HO169 := Aside0.mk (Kd.R_lower (Kd.R_new' (Kd.R_new' (Kd.R_new' (Kd.R_new' (Kd.R_new' ho0 (Kd.R_lt (by exact HO_121002.out))) (Kd.R_lt (by exact HO_127002.out))) (Kd.R_lt (by exact HO_133002.out))) (Kd.R_lt (by exact HO_139002.out))) (Kd.R_lt (by exact HO164.out))) (below_size (by repeat (first | (with_reducible first | exact HB.out | apply below_alloc | apply pw_below_drewN | apply below_drew1 | refine below_set ?_ GE101.out | refine below_set ?_ GE102.out | refine below_set ?_ GE120.out | refine below_set ?_ GE126.out | refine below_set ?_ GE132.out | refine below_set ?_ GE138.out | refine below_set ?_ GE175.out) | exact HB.out))))
                 replace HO_121002 := Aside0.mk (Kd.R_elder' (by exact HO_121002.out) (Kd.R_base ho0) hb)
                 replace HO_127002 := Aside0.mk (Kd.R_elder' (by exact HO_127002.out) (Kd.R_base ho0) hb)
                 replace HO_133002 := Aside0.mk (Kd.R_elder' (by exact HO_133002.out) (Kd.R_base ho0) hb)
                 replace HO_139002 := Aside0.mk (Kd.R_elder' (by exact HO_139002.out) (Kd.R_base ho0) hb)
                 replace HO164 := Aside0.mk (Kd.R_elder' (by exact HO164.out) (Kd.R_base ho0) hb)
                 replace BK101 := Aside0.mk (blk_below BK101.out hb)
                 replace BK102 := Aside0.mk (blk_below BK102.out hb)
                 replace BK120 := Aside0.mk (blk_below BK120.out hb)
                 replace BK126 := Aside0.mk (blk_below BK126.out hb)
                 replace BK132 := Aside0.mk (blk_below BK132.out hb)
                 replace BK138 := Aside0.mk (blk_below BK138.out hb)
                 replace BK175 := Aside0.mk (blk_below BK175.out hb)
                 replace HB := Aside0.mk (below_step (by repeat (first | (with_reducible first | exact HB.out | apply below_alloc | apply pw_below_drewN | apply below_drew1 | refine below_set ?_ GE101.out | refine below_set ?_ GE102.out | refine below_set ?_ GE120.out | refine below_set ?_ GE126.out | refine below_set ?_ GE132.out | refine below_set ?_ GE138.out | refine below_set ?_ GE175.out) | exact HB.out)) hb)
                 (try clear hb)
                 (try clear hb2)
                 (try clear hk)
                 (try clear hi)
                 (try clear ho0)
                 obtain ⟨Ao138, co138, eo138⟩ := Kd.R_slice HO164.out
                 (first | subst eo138 | (injection eo138 with f1_ f2_ f3_;have f4_ := f1_.symm;have f5_ := f3_.symm;clear f1_ f2_ f3_;subst f4_;subst f5_))
                 obtain ⟨Ao139, co139, eo139⟩ := Kd.R_slice HO169.out
                 (first | subst eo139 | (injection eo139 with f1_ f2_ f3_;have f4_ := f1_.symm;have f5_ := f3_.symm;clear f1_ f2_ f3_;subst f4_;subst f5_))
                 refine hK.out _ _ ⟨(blk_cell BK101.out 0).trans rfl, (blk_cell BK101.out 1).trans rfl, (blk_cell BK101.out 2).trans rfl, (blk_cell BK102.out 0).trans rfl, (blk_cell BK102.out 1).trans rfl, (blk_cell BK102.out 2).trans rfl⟩ (fun hHeld => ?_)
                 clear hK K
                 refine norm_ (a' := ?_) ?_ ?_
                 rotate_left
                 ·show Act.put _ (some 78) _ = _
                  simp only [Act.put, List.setIfInBounds_toArray, List.set_cons_zero, List.set_cons_succ, i64_w, i32_w]
                  rfl
                 refine one_ (i := 4) (N := some 79) #[true, true, true, true, true, true, false] rfl rfl (by kernel_rfl) (by decide) (fun K hK => ?_)
                 refine goes_ Try.func49 (by kernel_rfl) rfl #[.agg #[.int .i64 t160, .int .i64 t161, .slice Ao138 t162.length co138], .agg #[.int .i64 t165, .int .i64 t166, .slice Ao139 t167.length co139]] (by rfl) rfl rfl (by (try simp only [List.map_toArray, List.map_cons, List.map_nil]);first | done | rfl | (simp only [List.length_drop, List.length_take];rfl)) ?_
                 with_reducible refine (impl_OccJoin.calls kj34 t160 t161 _ _ t162 t165 t166 _ _ t167 t170 t171 t172 _ ?side1 ?side2 ?side3 ?side4 A119.out).mono ?_
                 (case side1 => repeat (first | exact (Kd.R_reads' HO164.out).2.2 | (with_reducible refine Kd.C_alloc ?_ _) | (with_reducible refine Kd.C_drewN ?_ _) | (with_reducible refine Kd.C_drew ?_)))
                 (case side2 => exact (Kd.R_reads' HO164.out).2.1)
                 (case side3 => repeat (first | exact (Kd.R_reads' HO169.out).2.2 | (with_reducible refine Kd.C_alloc ?_ _) | (with_reducible refine Kd.C_drewN ?_ _) | (with_reducible refine Kd.C_drew ?_)))
                 (case side4 => exact (Kd.R_reads' HO169.out).2.1)
                 rintro e w140 ⟨v173, rfl, ho0, hb⟩
                 refine ⟨_, rfl, ?_⟩
                 have HO174 := Aside0.mk (Kd.R_lower (Kd.R_new' (Kd.R_new' (Kd.R_new' (Kd.R_new' (Kd.R_new' (Kd.R_new' ho0 (Kd.R_lt (by exact HO_121002.out))) (Kd.R_lt (by exact HO_127002.out))) (Kd.R_lt (by exact HO_133002.out))) (Kd.R_lt (by exact HO_139002.out))) (Kd.R_lt (by exact HO164.out))) (Kd.R_lt (by exact HO169.out))) (below_size (by repeat (first | (with_reducible first | exact HB.out | apply below_alloc | apply pw_below_drewN | apply below_drew1 | refine below_set ?_ GE101.out | refine below_set ?_ GE102.out | refine below_set ?_ GE120.out | refine below_set ?_ GE126.out | refine below_set ?_ GE132.out | refine below_set ?_ GE138.out | refine below_set ?_ GE175.out) | exact HB.out))))
                 replace HO_121002 := Aside0.mk (Kd.R_elder' (by exact HO_121002.out) (Kd.R_base ho0) hb)
                 replace HO_127002 := Aside0.mk (Kd.R_elder' (by exact HO_127002.out) (Kd.R_base ho0) hb)
                 replace HO_133002 := Aside0.mk (Kd.R_elder' (by exact HO_133002.out) (Kd.R_base ho0) hb)
                 replace HO_139002 := Aside0.mk (Kd.R_elder' (by exact HO_139002.out) (Kd.R_base ho0) hb)
                 replace HO164 := Aside0.mk (Kd.R_elder' (by exact HO164.out) (Kd.R_base ho0) hb)
                 replace HO169 := Aside0.mk (Kd.R_elder' (by exact HO169.out) (Kd.R_base ho0) hb)
                 replace BK101 := Aside0.mk (blk_below BK101.out hb)
                 replace BK102 := Aside0.mk (blk_below BK102.out hb)
                 replace BK120 := Aside0.mk (blk_below BK120.out hb)
                 replace BK126 := Aside0.mk (blk_below BK126.out hb)
                 replace BK132 := Aside0.mk (blk_below BK132.out hb)
                 replace BK138 := Aside0.mk (blk_below BK138.out hb)
                 replace BK175 := Aside0.mk (blk_below BK175.out hb)
                 replace HB := Aside0.mk (below_step (by repeat (first | (with_reducible first | exact HB.out | apply below_alloc | apply pw_below_drewN | apply below_drew1 | refine below_set ?_ GE101.out | refine below_set ?_ GE102.out | refine below_set ?_ GE120.out | refine below_set ?_ GE126.out | refine below_set ?_ GE132.out | refine below_set ?_ GE138.out | refine below_set ?_ GE175.out) | exact HB.out)) hb)
                 (try clear hb)
                 (try clear hb2)
                 (try clear hk)
                 (try clear hi)
                 (try clear ho0)
                 refine hK.out _ _ ⟨(blk_cell BK101.out 0).trans rfl, (blk_cell BK101.out 1).trans rfl, (blk_cell BK101.out 2).trans rfl, (blk_cell BK102.out 0).trans rfl, (blk_cell BK102.out 1).trans rfl, (blk_cell BK102.out 2).trans rfl⟩ (fun hHeld => ?_)
                 clear hK K
                 refine norm_ (a' := ?_) ?_ ?_
                 rotate_left
                 ·show Act.put _ (some 79) _ = _
                  simp only [Act.put, List.setIfInBounds_toArray, List.set_cons_zero, List.set_cons_succ, i64_w, i32_w]
                  rfl
                 exact norm_ (by simp only [putAll, Act.put, List.setIfInBounds_toArray, List.set_cons_zero, List.set_cons_succ]) (hCont (.slice Ao138 t162.length co138, .slice Ao139 t167.length co139, v173, gb175) _ ⟨hHeld, (by (with_reducible repeat (first | apply Kd.R_alloc | apply Kd.R_drewN | apply Kd.R_drew));exact Kd.R_mono HO164.out (fun _ hk => ⟨hk.1.2, ⟨hk.2, ⟨hk.1.1.1.1.1.2, ⟨hk.1.1.1.1.2, ⟨hk.1.1.1.2, hk.1.1.2⟩⟩⟩⟩⟩)), (by (with_reducible repeat (first | apply Kd.R_alloc | apply Kd.R_drewN | apply Kd.R_drew));exact Kd.R_mono HO169.out (fun _ hk => ⟨hk.1.2, ⟨hk.2, ⟨hk.1.1.1.1.1.2, ⟨hk.1.1.1.1.2, ⟨hk.1.1.1.2, hk.1.1.2⟩⟩⟩⟩⟩)), (by (with_reducible repeat (first | apply Kd.R_alloc | apply Kd.R_drewN | apply Kd.R_drew));exact Kd.R_mono HO174.out (fun _ hk => ⟨hk.1.2, ⟨hk.2, ⟨hk.1.1.1.1.1.2, ⟨hk.1.1.1.1.2, ⟨hk.1.1.1.2, hk.1.1.2⟩⟩⟩⟩⟩)), (by (with_reducible repeat (first | apply Kd.R_alloc | apply Kd.R_drewN | apply Kd.R_drew));exact Kd.R_mono HO_121002.out (fun _ hk => ⟨hk.1.1.2, ⟨hk.1.2, ⟨hk.2, ⟨hk.1.1.1.1, ⟨hk.1.1.1.2.1, hk.1.1.1.2.2⟩⟩⟩⟩⟩)), (by (with_reducible repeat (first | apply Kd.R_alloc | apply Kd.R_drewN | apply Kd.R_drew));exact Kd.R_mono HO_127002.out (fun _ hk => ⟨hk.1.1.2, ⟨hk.1.2, ⟨hk.2, ⟨hk.1.1.1.1, ⟨hk.1.1.1.2.1, hk.1.1.1.2.2⟩⟩⟩⟩⟩)), (by (with_reducible repeat (first | apply Kd.R_alloc | apply Kd.R_drewN | apply Kd.R_drew));exact Kd.R_mono HO_133002.out (fun _ hk => ⟨hk.1.1.2, ⟨hk.1.2, ⟨hk.2, ⟨hk.1.1.1.1, ⟨hk.1.1.1.2.1, hk.1.1.1.2.2⟩⟩⟩⟩⟩)), (by (with_reducible repeat (first | apply Kd.R_alloc | apply Kd.R_drewN | apply Kd.R_drew));exact Kd.R_mono HO_139002.out (fun _ hk => ⟨hk.1.1.2, ⟨hk.1.2, ⟨hk.2, ⟨hk.1.1.1.1, ⟨hk.1.1.1.2.1, hk.1.1.1.2.2⟩⟩⟩⟩⟩)), (by (with_reducible repeat (first | refine blk_drewN ?_ _ | refine blk_drew ?_ | refine blk_alloc ?_ _));exact BK101.out), (by (with_reducible repeat (first | refine blk_drewN ?_ _ | refine blk_drew ?_ | refine blk_alloc ?_ _));exact BK102.out), (by (with_reducible repeat (first | refine blk_drewN ?_ _ | refine blk_drew ?_ | refine blk_alloc ?_ _));exact BK120.out), (by (with_reducible repeat (first | refine blk_drewN ?_ _ | refine blk_drew ?_ | refine blk_alloc ?_ _));exact BK126.out), (by (with_reducible repeat (first | refine blk_drewN ?_ _ | refine blk_drew ?_ | refine blk_alloc ?_ _));exact BK132.out), (by (with_reducible repeat (first | refine blk_drewN ?_ _ | refine blk_drew ?_ | refine blk_alloc ?_ _));exact BK138.out), (by (with_reducible repeat (first | refine blk_drewN ?_ _ | refine blk_drew ?_ | refine blk_alloc ?_ _));exact BK175.out), GW175.out, GE175.out, NB101_175.out, NB175_101.out, NB102_175.out, NB175_102.out, NB120_175.out, NB175_120.out, NB126_175.out, NB175_126.out, NB132_175.out, NB175_132.out, NB138_175.out, NB175_138.out, (by repeat (first | (with_reducible first | exact HB.out | apply below_alloc | apply pw_below_drewN | apply below_drew1 | refine below_set ?_ GE101.out | refine below_set ?_ GE102.out | refine below_set ?_ GE120.out | refine below_set ?_ GE126.out | refine below_set ?_ GE132.out | refine below_set ?_ GE138.out | refine below_set ?_ GE175.out) | exact HB.out))⟩)
               ·skip
                refine box_step ?hg (N := 13) ?hd (cs := #[.int .i64 0, .int .i64 0, .slice none 0 0]) (t := 27) ?hr ?_;(case hd => rfl);(case hg => rfl);(case hr => first | (go_simp;done) | (go_simp;rfl))
                intro gb175 hg w135 hbox hb
                replace HO_121002 := Aside0.mk (Kd.R_below (by exact HO_121002.out) hb)
                replace HO_127002 := Aside0.mk (Kd.R_below (by exact HO_127002.out) hb)
                replace HO_133002 := Aside0.mk (Kd.R_below (by exact HO_133002.out) hb)
                replace HO_139002 := Aside0.mk (Kd.R_below (by exact HO_139002.out) hb)
                have BK175 := Aside0.mk (hbox)
                have GW175 := Aside0.mk ((by rw [hg];exact (below_size (by repeat (first | (with_reducible first | exact HB.out | apply below_alloc | apply pw_below_drewN | apply below_drew1 | refine below_set ?_ GE101.out | refine below_set ?_ GE102.out | refine below_set ?_ GE120.out | refine below_set ?_ GE126.out | refine below_set ?_ GE132.out | refine below_set ?_ GE138.out) | exact HB.out))) : w.heap.size ≤ gb175))
                have GE175 := Aside0.mk ((by rw [hg];exact (below_size (by repeat (first | (with_reducible first | exact HB.out | apply below_alloc | apply pw_below_drewN | apply below_drew1 | refine below_set ?_ GE101.out | refine below_set ?_ GE102.out | refine below_set ?_ GE120.out | refine below_set ?_ GE126.out | refine below_set ?_ GE132.out | refine below_set ?_ GE138.out) | exact HB.out))) : w.heap.size ≤ gb175))
                replace HB := Aside0.mk (below_step (by repeat (first | (with_reducible first | exact HB.out | apply below_alloc | apply pw_below_drewN | apply below_drew1 | refine below_set ?_ GE101.out | refine below_set ?_ GE102.out | refine below_set ?_ GE120.out | refine below_set ?_ GE126.out | refine below_set ?_ GE132.out | refine below_set ?_ GE138.out) | exact HB.out)) hb)
                have NB101_175 := Aside0.mk ((by rw [hg];exact Nat.ne_of_lt (blk_lt BK101.out) : gb101 ≠ gb175))
                have NB175_101 := Aside0.mk ((by rw [hg];exact Nat.ne_of_gt (blk_lt BK101.out) : gb175 ≠ gb101))
                replace BK101 := Aside0.mk (blk_below BK101.out hb)
                have NB102_175 := Aside0.mk ((by rw [hg];exact Nat.ne_of_lt (blk_lt BK102.out) : gb102 ≠ gb175))
                have NB175_102 := Aside0.mk ((by rw [hg];exact Nat.ne_of_gt (blk_lt BK102.out) : gb175 ≠ gb102))
                replace BK102 := Aside0.mk (blk_below BK102.out hb)
                have NB120_175 := Aside0.mk ((by rw [hg];exact Nat.ne_of_lt (blk_lt BK120.out) : gb120 ≠ gb175))
                have NB175_120 := Aside0.mk ((by rw [hg];exact Nat.ne_of_gt (blk_lt BK120.out) : gb175 ≠ gb120))
                replace BK120 := Aside0.mk (blk_below BK120.out hb)
                have NB126_175 := Aside0.mk ((by rw [hg];exact Nat.ne_of_lt (blk_lt BK126.out) : gb126 ≠ gb175))
                have NB175_126 := Aside0.mk ((by rw [hg];exact Nat.ne_of_gt (blk_lt BK126.out) : gb175 ≠ gb126))
                replace BK126 := Aside0.mk (blk_below BK126.out hb)
                have NB132_175 := Aside0.mk ((by rw [hg];exact Nat.ne_of_lt (blk_lt BK132.out) : gb132 ≠ gb175))
                have NB175_132 := Aside0.mk ((by rw [hg];exact Nat.ne_of_gt (blk_lt BK132.out) : gb175 ≠ gb132))
                replace BK132 := Aside0.mk (blk_below BK132.out hb)
                have NB138_175 := Aside0.mk ((by rw [hg];exact Nat.ne_of_lt (blk_lt BK138.out) : gb138 ≠ gb175))
                have NB175_138 := Aside0.mk ((by rw [hg];exact Nat.ne_of_gt (blk_lt BK138.out) : gb175 ≠ gb138))
                replace BK138 := Aside0.mk (blk_below BK138.out hb)
                clear hb hbox hg
                refine hK.out _ _ ⟨(blk_cell BK101.out 0).trans rfl, (blk_cell BK101.out 1).trans rfl, (blk_cell BK101.out 2).trans rfl, (blk_cell BK102.out 0).trans rfl, (blk_cell BK102.out 1).trans rfl, (blk_cell BK102.out 2).trans rfl⟩ (fun hHeld => ?_)
                clear hK K
                refine norm_ (a' := ?_) ?_ ?_
                rotate_left
                ·show Act.put _ (some 13) _ = _
                 simp only [Act.put, List.setIfInBounds_toArray, List.set_cons_zero, List.set_cons_succ, i64_w, i32_w]
                 rfl
                refine one_ (i := 1) (N := some 76) #[true, true, true, false, false, true, false] rfl rfl (by kernel_rfl) (by decide) (fun K hK => ?_)
                refine goes_ Try.func20 (by kernel_rfl) rfl #[.agg #[.int .i64 a0_0, .int .i64 a0_1, .slice A0_2 l0_2.length c0_2]] (by rfl) rfl rfl (by (try simp only [List.map_toArray, List.map_cons, List.map_nil]);first | done | rfl | (simp only [List.length_drop, List.length_take];rfl)) ?_
                with_reducible refine (laws_toOcc.calls kj34 a0_0 a0_1 _ _ l0_2 t160 t161 t162 _ ?side1 ?side2 A117.out).mono ?_
                (case side1 => repeat (first | exact (Kd.C_below HR0_2.out HB.out) | (with_reducible refine Kd.C_alloc ?_ _) | (with_reducible refine Kd.C_drewN ?_ _) | (with_reducible refine Kd.C_drew ?_)))
                (case side2 => exact HC0_2.out)
                rintro e w136 ⟨v163, rfl, ho0, hb⟩
                refine ⟨_, rfl, ?_⟩
                have HO164 := Aside0.mk (Kd.R_lower (Kd.R_new' (Kd.R_new' (Kd.R_new' (Kd.R_new' ho0 (Kd.R_lt (by exact HO_121002.out))) (Kd.R_lt (by exact HO_127002.out))) (Kd.R_lt (by exact HO_133002.out))) (Kd.R_lt (by exact HO_139002.out))) (below_size (by repeat (first | (with_reducible first | exact HB.out | apply below_alloc | apply pw_below_drewN | apply below_drew1 | refine below_set ?_ GE101.out | refine below_set ?_ GE102.out | refine below_set ?_ GE120.out | refine below_set ?_ GE126.out | refine below_set ?_ GE132.out | refine below_set ?_ GE138.out | refine below_set ?_ GE175.out) | exact HB.out))))
                replace HO_121002 := Aside0.mk (Kd.R_elder' (by exact HO_121002.out) (Kd.R_base ho0) hb)
                replace HO_127002 := Aside0.mk (Kd.R_elder' (by exact HO_127002.out) (Kd.R_base ho0) hb)
                replace HO_133002 := Aside0.mk (Kd.R_elder' (by exact HO_133002.out) (Kd.R_base ho0) hb)
                replace HO_139002 := Aside0.mk (Kd.R_elder' (by exact HO_139002.out) (Kd.R_base ho0) hb)
                replace BK101 := Aside0.mk (blk_below BK101.out hb)
                replace BK102 := Aside0.mk (blk_below BK102.out hb)
                replace BK120 := Aside0.mk (blk_below BK120.out hb)
                replace BK126 := Aside0.mk (blk_below BK126.out hb)
                replace BK132 := Aside0.mk (blk_below BK132.out hb)
                replace BK138 := Aside0.mk (blk_below BK138.out hb)
                replace BK175 := Aside0.mk (blk_below BK175.out hb)
                replace HB := Aside0.mk (below_step (by repeat (first | (with_reducible first | exact HB.out | apply below_alloc | apply pw_below_drewN | apply below_drew1 | refine below_set ?_ GE101.out | refine below_set ?_ GE102.out | refine below_set ?_ GE120.out | refine below_set ?_ GE126.out | refine below_set ?_ GE132.out | refine below_set ?_ GE138.out | refine below_set ?_ GE175.out) | exact HB.out)) hb)
                (try clear hb)
                (try clear hb2)
                (try clear hk)
                (try clear hi)
                (try clear ho0)
                refine hK.out _ _ ⟨(blk_cell BK101.out 0).trans rfl, (blk_cell BK101.out 1).trans rfl, (blk_cell BK101.out 2).trans rfl, (blk_cell BK102.out 0).trans rfl, (blk_cell BK102.out 1).trans rfl, (blk_cell BK102.out 2).trans rfl⟩ (fun hHeld => ?_)
                clear hK K
                refine norm_ (a' := ?_) ?_ ?_
                rotate_left
                ·show Act.put _ (some 76) _ = _
                 simp only [Act.put, List.setIfInBounds_toArray, List.set_cons_zero, List.set_cons_succ, i64_w, i32_w]
                 rfl
                refine one_ (i := 3) (N := some 78) #[true, true, true, true, false, true, false] rfl rfl (by kernel_rfl) (by decide) (fun K hK => ?_)
                refine goes_ Try.func20 (by kernel_rfl) rfl #[.agg #[.int .i64 a1_0, .int .i64 a1_1, .slice A1_2 l1_2.length c1_2]] (by rfl) rfl rfl (by (try simp only [List.map_toArray, List.map_cons, List.map_nil]);first | done | rfl | (simp only [List.length_drop, List.length_take];rfl)) ?_
                with_reducible refine (laws_toOcc.calls kj34 a1_0 a1_1 _ _ l1_2 t165 t166 t167 _ ?side1 ?side2 A118.out).mono ?_
                (case side1 => repeat (first | exact (Kd.C_below HR1_2.out HB.out) | (with_reducible refine Kd.C_alloc ?_ _) | (with_reducible refine Kd.C_drewN ?_ _) | (with_reducible refine Kd.C_drew ?_)))
                (case side2 => exact HC1_2.out)
                rintro e w137 ⟨v168, rfl, ho0, hb⟩
                refine ⟨_, rfl, ?_⟩
                have HO169 := Aside0.mk (Kd.R_lower (Kd.R_new' (Kd.R_new' (Kd.R_new' (Kd.R_new' (Kd.R_new' ho0 (Kd.R_lt (by exact HO_121002.out))) (Kd.R_lt (by exact HO_127002.out))) (Kd.R_lt (by exact HO_133002.out))) (Kd.R_lt (by exact HO_139002.out))) (Kd.R_lt (by exact HO164.out))) (below_size (by repeat (first | (with_reducible first | exact HB.out | apply below_alloc | apply pw_below_drewN | apply below_drew1 | refine below_set ?_ GE101.out | refine below_set ?_ GE102.out | refine below_set ?_ GE120.out | refine below_set ?_ GE126.out | refine below_set ?_ GE132.out | refine below_set ?_ GE138.out | refine below_set ?_ GE175.out) | exact HB.out))))
                replace HO_121002 := Aside0.mk (Kd.R_elder' (by exact HO_121002.out) (Kd.R_base ho0) hb)
                replace HO_127002 := Aside0.mk (Kd.R_elder' (by exact HO_127002.out) (Kd.R_base ho0) hb)
                replace HO_133002 := Aside0.mk (Kd.R_elder' (by exact HO_133002.out) (Kd.R_base ho0) hb)
                replace HO_139002 := Aside0.mk (Kd.R_elder' (by exact HO_139002.out) (Kd.R_base ho0) hb)
                replace HO164 := Aside0.mk (Kd.R_elder' (by exact HO164.out) (Kd.R_base ho0) hb)
                replace BK101 := Aside0.mk (blk_below BK101.out hb)
                replace BK102 := Aside0.mk (blk_below BK102.out hb)
                replace BK120 := Aside0.mk (blk_below BK120.out hb)
                replace BK126 := Aside0.mk (blk_below BK126.out hb)
                replace BK132 := Aside0.mk (blk_below BK132.out hb)
                replace BK138 := Aside0.mk (blk_below BK138.out hb)
                replace BK175 := Aside0.mk (blk_below BK175.out hb)
                replace HB := Aside0.mk (below_step (by repeat (first | (with_reducible first | exact HB.out | apply below_alloc | apply pw_below_drewN | apply below_drew1 | refine below_set ?_ GE101.out | refine below_set ?_ GE102.out | refine below_set ?_ GE120.out | refine below_set ?_ GE126.out | refine below_set ?_ GE132.out | refine below_set ?_ GE138.out | refine below_set ?_ GE175.out) | exact HB.out)) hb)
                (try clear hb)
                (try clear hb2)
                (try clear hk)
                (try clear hi)
                (try clear ho0)
                obtain ⟨Ao138, co138, eo138⟩ := Kd.R_slice HO164.out
                (first | subst eo138 | (injection eo138 with f1_ f2_ f3_;have f4_ := f1_.symm;have f5_ := f3_.symm;clear f1_ f2_ f3_;subst f4_;subst f5_))
                obtain ⟨Ao139, co139, eo139⟩ := Kd.R_slice HO169.out
                (first | subst eo139 | (injection eo139 with f1_ f2_ f3_;have f4_ := f1_.symm;have f5_ := f3_.symm;clear f1_ f2_ f3_;subst f4_;subst f5_))
                refine hK.out _ _ ⟨(blk_cell BK101.out 0).trans rfl, (blk_cell BK101.out 1).trans rfl, (blk_cell BK101.out 2).trans rfl, (blk_cell BK102.out 0).trans rfl, (blk_cell BK102.out 1).trans rfl, (blk_cell BK102.out 2).trans rfl⟩ (fun hHeld => ?_)
                clear hK K
                refine norm_ (a' := ?_) ?_ ?_
                rotate_left
                ·show Act.put _ (some 78) _ = _
                 simp only [Act.put, List.setIfInBounds_toArray, List.set_cons_zero, List.set_cons_succ, i64_w, i32_w]
                 rfl
                refine one_ (i := 4) (N := some 79) #[true, true, true, true, true, true, false] rfl rfl (by kernel_rfl) (by decide) (fun K hK => ?_)
                refine goes_ Try.func49 (by kernel_rfl) rfl #[.agg #[.int .i64 t160, .int .i64 t161, .slice Ao138 t162.length co138], .agg #[.int .i64 t165, .int .i64 t166, .slice Ao139 t167.length co139]] (by rfl) rfl rfl (by (try simp only [List.map_toArray, List.map_cons, List.map_nil]);first | done | rfl | (simp only [List.length_drop, List.length_take];rfl)) ?_
                with_reducible refine (impl_OccJoin.calls kj34 t160 t161 _ _ t162 t165 t166 _ _ t167 t170 t171 t172 _ ?side1 ?side2 ?side3 ?side4 A119.out).mono ?_
                (case side1 => repeat (first | exact (Kd.R_reads' HO164.out).2.2 | (with_reducible refine Kd.C_alloc ?_ _) | (with_reducible refine Kd.C_drewN ?_ _) | (with_reducible refine Kd.C_drew ?_)))
                (case side2 => exact (Kd.R_reads' HO164.out).2.1)
                (case side3 => repeat (first | exact (Kd.R_reads' HO169.out).2.2 | (with_reducible refine Kd.C_alloc ?_ _) | (with_reducible refine Kd.C_drewN ?_ _) | (with_reducible refine Kd.C_drew ?_)))
                (case side4 => exact (Kd.R_reads' HO169.out).2.1)
                rintro e w140 ⟨v173, rfl, ho0, hb⟩
                refine ⟨_, rfl, ?_⟩
                have HO174 := Aside0.mk (Kd.R_lower (Kd.R_new' (Kd.R_new' (Kd.R_new' (Kd.R_new' (Kd.R_new' (Kd.R_new' ho0 (Kd.R_lt (by exact HO_121002.out))) (Kd.R_lt (by exact HO_127002.out))) (Kd.R_lt (by exact HO_133002.out))) (Kd.R_lt (by exact HO_139002.out))) (Kd.R_lt (by exact HO164.out))) (Kd.R_lt (by exact HO169.out))) (below_size (by repeat (first | (with_reducible first | exact HB.out | apply below_alloc | apply pw_below_drewN | apply below_drew1 | refine below_set ?_ GE101.out | refine below_set ?_ GE102.out | refine below_set ?_ GE120.out | refine below_set ?_ GE126.out | refine below_set ?_ GE132.out | refine below_set ?_ GE138.out | refine below_set ?_ GE175.out) | exact HB.out))))
                replace HO_121002 := Aside0.mk (Kd.R_elder' (by exact HO_121002.out) (Kd.R_base ho0) hb)
                replace HO_127002 := Aside0.mk (Kd.R_elder' (by exact HO_127002.out) (Kd.R_base ho0) hb)
                replace HO_133002 := Aside0.mk (Kd.R_elder' (by exact HO_133002.out) (Kd.R_base ho0) hb)
                replace HO_139002 := Aside0.mk (Kd.R_elder' (by exact HO_139002.out) (Kd.R_base ho0) hb)
                replace HO164 := Aside0.mk (Kd.R_elder' (by exact HO164.out) (Kd.R_base ho0) hb)
                replace HO169 := Aside0.mk (Kd.R_elder' (by exact HO169.out) (Kd.R_base ho0) hb)
                replace BK101 := Aside0.mk (blk_below BK101.out hb)
                replace BK102 := Aside0.mk (blk_below BK102.out hb)
                replace BK120 := Aside0.mk (blk_below BK120.out hb)
                replace BK126 := Aside0.mk (blk_below BK126.out hb)
                replace BK132 := Aside0.mk (blk_below BK132.out hb)
                replace BK138 := Aside0.mk (blk_below BK138.out hb)
                replace BK175 := Aside0.mk (blk_below BK175.out hb)
                replace HB := Aside0.mk (below_step (by repeat (first | (with_reducible first | exact HB.out | apply below_alloc | apply pw_below_drewN | apply below_drew1 | refine below_set ?_ GE101.out | refine below_set ?_ GE102.out | refine below_set ?_ GE120.out | refine below_set ?_ GE126.out | refine below_set ?_ GE132.out | refine below_set ?_ GE138.out | refine below_set ?_ GE175.out) | exact HB.out)) hb)
                (try clear hb)
                (try clear hb2)
                (try clear hk)
                (try clear hi)
                (try clear ho0)
                refine hK.out _ _ ⟨(blk_cell BK101.out 0).trans rfl, (blk_cell BK101.out 1).trans rfl, (blk_cell BK101.out 2).trans rfl, (blk_cell BK102.out 0).trans rfl, (blk_cell BK102.out 1).trans rfl, (blk_cell BK102.out 2).trans rfl⟩ (fun hHeld => ?_)
                clear hK K
                refine norm_ (a' := ?_) ?_ ?_
                rotate_left
                ·show Act.put _ (some 79) _ = _
                 simp only [Act.put, List.setIfInBounds_toArray, List.set_cons_zero, List.set_cons_succ, i64_w, i32_w]
                 rfl
                exact norm_ (by simp only [putAll, Act.put, List.setIfInBounds_toArray, List.set_cons_zero, List.set_cons_succ]) (hCont (.slice Ao138 t162.length co138, .slice Ao139 t167.length co139, v173, gb175) _ ⟨hHeld, (by (with_reducible repeat (first | apply Kd.R_alloc | apply Kd.R_drewN | apply Kd.R_drew));exact Kd.R_mono HO164.out (fun _ hk => ⟨hk.1.2, ⟨hk.2, ⟨hk.1.1.1.1.1.2, ⟨hk.1.1.1.1.2, ⟨hk.1.1.1.2, hk.1.1.2⟩⟩⟩⟩⟩)), (by (with_reducible repeat (first | apply Kd.R_alloc | apply Kd.R_drewN | apply Kd.R_drew));exact Kd.R_mono HO169.out (fun _ hk => ⟨hk.1.2, ⟨hk.2, ⟨hk.1.1.1.1.1.2, ⟨hk.1.1.1.1.2, ⟨hk.1.1.1.2, hk.1.1.2⟩⟩⟩⟩⟩)), (by (with_reducible repeat (first | apply Kd.R_alloc | apply Kd.R_drewN | apply Kd.R_drew));exact Kd.R_mono HO174.out (fun _ hk => ⟨hk.1.2, ⟨hk.2, ⟨hk.1.1.1.1.1.2, ⟨hk.1.1.1.1.2, ⟨hk.1.1.1.2, hk.1.1.2⟩⟩⟩⟩⟩)), (by (with_reducible repeat (first | apply Kd.R_alloc | apply Kd.R_drewN | apply Kd.R_drew));exact Kd.R_mono HO_121002.out (fun _ hk => ⟨hk.1.1.2, ⟨hk.1.2, ⟨hk.2, ⟨hk.1.1.1.1, ⟨hk.1.1.1.2.1, hk.1.1.1.2.2⟩⟩⟩⟩⟩)), (by (with_reducible repeat (first | apply Kd.R_alloc | apply Kd.R_drewN | apply Kd.R_drew));exact Kd.R_mono HO_127002.out (fun _ hk => ⟨hk.1.1.2, ⟨hk.1.2, ⟨hk.2, ⟨hk.1.1.1.1, ⟨hk.1.1.1.2.1, hk.1.1.1.2.2⟩⟩⟩⟩⟩)), (by (with_reducible repeat (first | apply Kd.R_alloc | apply Kd.R_drewN | apply Kd.R_drew));exact Kd.R_mono HO_133002.out (fun _ hk => ⟨hk.1.1.2, ⟨hk.1.2, ⟨hk.2, ⟨hk.1.1.1.1, ⟨hk.1.1.1.2.1, hk.1.1.1.2.2⟩⟩⟩⟩⟩)), (by (with_reducible repeat (first | apply Kd.R_alloc | apply Kd.R_drewN | apply Kd.R_drew));exact Kd.R_mono HO_139002.out (fun _ hk => ⟨hk.1.1.2, ⟨hk.1.2, ⟨hk.2, ⟨hk.1.1.1.1, ⟨hk.1.1.1.2.1, hk.1.1.1.2.2⟩⟩⟩⟩⟩)), (by (with_reducible repeat (first | refine blk_drewN ?_ _ | refine blk_drew ?_ | refine blk_alloc ?_ _));exact BK101.out), (by (with_reducible repeat (first | refine blk_drewN ?_ _ | refine blk_drew ?_ | refine blk_alloc ?_ _));exact BK102.out), (by (with_reducible repeat (first | refine blk_drewN ?_ _ | refine blk_drew ?_ | refine blk_alloc ?_ _));exact BK120.out), (by (with_reducible repeat (first | refine blk_drewN ?_ _ | refine blk_drew ?_ | refine blk_alloc ?_ _));exact BK126.out), (by (with_reducible repeat (first | refine blk_drewN ?_ _ | refine blk_drew ?_ | refine blk_alloc ?_ _));exact BK132.out), (by (with_reducible repeat (first | refine blk_drewN ?_ _ | refine blk_drew ?_ | refine blk_alloc ?_ _));exact BK138.out), (by (with_reducible repeat (first | refine blk_drewN ?_ _ | refine blk_drew ?_ | refine blk_alloc ?_ _));exact BK175.out), GW175.out, GE175.out, NB101_175.out, NB175_101.out, NB102_175.out, NB175_102.out, NB120_175.out, NB175_120.out, NB126_175.out, NB175_126.out, NB132_175.out, NB175_132.out, NB138_175.out, NB175_138.out, (by repeat (first | (with_reducible first | exact HB.out | apply below_alloc | apply pw_below_drewN | apply below_drew1 | refine below_set ?_ GE101.out | refine below_set ?_ GE102.out | refine below_set ?_ GE120.out | refine below_set ?_ GE126.out | refine below_set ?_ GE132.out | refine below_set ?_ GE138.out | refine below_set ?_ GE175.out) | exact HB.out))⟩)
              rintro ⟨v163, v168, v173, gb175⟩ w141 ⟨hS_, h0_, h1_, h2_, h3_, h4_, h5_, h6_, h7_, h8_, h9_, h10_, h11_, h12_, h13_, h14_, h15_, h16_, h17_, h18_, h19_, h20_, h21_, h22_, h23_, h24_, h25_, h26_, h27_, h28_⟩
              have n0_ : Aside0 (Kd.R (Kd.int .i64) 3 w141 w.heap.size (fun k_ => some k_ ≠ (v168 : Value).ownBlock ∧ some k_ ≠ (v173 : Value).ownBlock ∧ some k_ ≠ (.slice Ao53 t117.length co53 : Value).ownBlock ∧ some k_ ≠ (.slice Ao63 t153.length co63 : Value).ownBlock ∧ some k_ ≠ (.slice Ao73 t155.length co73 : Value).ownBlock ∧ some k_ ≠ (.slice Ao83 t135.length co83 : Value).ownBlock) v163 t162) := ⟨h0_⟩
              have n1_ : Aside0 (Kd.R (Kd.int .i64) 3 w141 w.heap.size (fun k_ => some k_ ≠ (v163 : Value).ownBlock ∧ some k_ ≠ (v173 : Value).ownBlock ∧ some k_ ≠ (.slice Ao53 t117.length co53 : Value).ownBlock ∧ some k_ ≠ (.slice Ao63 t153.length co63 : Value).ownBlock ∧ some k_ ≠ (.slice Ao73 t155.length co73 : Value).ownBlock ∧ some k_ ≠ (.slice Ao83 t135.length co83 : Value).ownBlock) v168 t167) := ⟨h1_⟩
              have n2_ : Aside0 (Kd.R (Kd.int .i64) 3 w141 w.heap.size (fun k_ => some k_ ≠ (v163 : Value).ownBlock ∧ some k_ ≠ (v168 : Value).ownBlock ∧ some k_ ≠ (.slice Ao53 t117.length co53 : Value).ownBlock ∧ some k_ ≠ (.slice Ao63 t153.length co63 : Value).ownBlock ∧ some k_ ≠ (.slice Ao73 t155.length co73 : Value).ownBlock ∧ some k_ ≠ (.slice Ao83 t135.length co83 : Value).ownBlock) v173 t172) := ⟨h2_⟩
              have n3_ : Aside0 (Kd.R (Kd.int .i64) 3 w141 w.heap.size (fun k_ => some k_ ≠ (v163 : Value).ownBlock ∧ some k_ ≠ (v168 : Value).ownBlock ∧ some k_ ≠ (v173 : Value).ownBlock ∧ some k_ ≠ (.slice Ao63 t153.length co63 : Value).ownBlock ∧ some k_ ≠ (.slice Ao73 t155.length co73 : Value).ownBlock ∧ some k_ ≠ (.slice Ao83 t135.length co83 : Value).ownBlock) (.slice Ao53 t117.length co53) t117) := ⟨h3_⟩
              have n4_ : Aside0 (Kd.R (Kd.int .i64) 3 w141 w.heap.size (fun k_ => some k_ ≠ (v163 : Value).ownBlock ∧ some k_ ≠ (v168 : Value).ownBlock ∧ some k_ ≠ (v173 : Value).ownBlock ∧ some k_ ≠ (.slice Ao53 t117.length co53 : Value).ownBlock ∧ some k_ ≠ (.slice Ao73 t155.length co73 : Value).ownBlock ∧ some k_ ≠ (.slice Ao83 t135.length co83 : Value).ownBlock) (.slice Ao63 t153.length co63) t153) := ⟨h4_⟩
              have n5_ : Aside0 (Kd.R (Kd.int .i64) 3 w141 w.heap.size (fun k_ => some k_ ≠ (v163 : Value).ownBlock ∧ some k_ ≠ (v168 : Value).ownBlock ∧ some k_ ≠ (v173 : Value).ownBlock ∧ some k_ ≠ (.slice Ao53 t117.length co53 : Value).ownBlock ∧ some k_ ≠ (.slice Ao63 t153.length co63 : Value).ownBlock ∧ some k_ ≠ (.slice Ao83 t135.length co83 : Value).ownBlock) (.slice Ao73 t155.length co73) t155) := ⟨h5_⟩
              have n6_ : Aside0 (Kd.R (Kd.int .i64) 3 w141 w.heap.size (fun k_ => some k_ ≠ (v163 : Value).ownBlock ∧ some k_ ≠ (v168 : Value).ownBlock ∧ some k_ ≠ (v173 : Value).ownBlock ∧ some k_ ≠ (.slice Ao53 t117.length co53 : Value).ownBlock ∧ some k_ ≠ (.slice Ao63 t153.length co63 : Value).ownBlock ∧ some k_ ≠ (.slice Ao73 t155.length co73 : Value).ownBlock) (.slice Ao83 t135.length co83) t158) := ⟨h6_⟩
              have n7_ : Aside0 (w141.heap[gb101]? = some (.cells #[.int .i64 a0_0, .int .i64 a0_1, .slice A0_2 l0_2.length c0_2] 24 (0, 0))) := ⟨h7_⟩
              have n8_ : Aside0 (w141.heap[gb102]? = some (.cells #[.int .i64 a1_0, .int .i64 a1_1, .slice A1_2 l1_2.length c1_2] 24 (0, 0))) := ⟨h8_⟩
              have n9_ : Aside0 (w141.heap[gb120]? = some (.cells #[.int .i64 t115, .int .i64 t116, .slice Ao53 t117.length co53] 27 (0, 0))) := ⟨h9_⟩
              have n10_ : Aside0 (w141.heap[gb126]? = some (.cells #[.int .i64 t121, .int .i64 t122, .slice Ao63 t153.length co63] 27 (0, 0))) := ⟨h10_⟩
              have n11_ : Aside0 (w141.heap[gb132]? = some (.cells #[.int .i64 t127, .int .i64 t128, .slice Ao73 t155.length co73] 27 (0, 0))) := ⟨h11_⟩
              have n12_ : Aside0 (w141.heap[gb138]? = some (.cells #[.int .i64 t133, .int .i64 t134, .slice Ao83 t135.length co83] 27 (0, 0))) := ⟨h12_⟩
              have n13_ : Aside0 (w141.heap[gb175]? = some (.cells #[.int .i64 0, .int .i64 0, .slice none 0 0] 27 (0, 0))) := ⟨h13_⟩
              have n14_ : Aside0 (w.heap.size ≤ gb175) := ⟨h14_⟩
              have n15_ : Aside0 (w.heap.size ≤ gb175) := ⟨h15_⟩
              have n16_ : Aside0 (gb101 ≠ gb175) := ⟨h16_⟩
              have n17_ : Aside0 (gb175 ≠ gb101) := ⟨h17_⟩
              have n18_ : Aside0 (gb102 ≠ gb175) := ⟨h18_⟩
              have n19_ : Aside0 (gb175 ≠ gb102) := ⟨h19_⟩
              have n20_ : Aside0 (gb120 ≠ gb175) := ⟨h20_⟩
              have n21_ : Aside0 (gb175 ≠ gb120) := ⟨h21_⟩
              have n22_ : Aside0 (gb126 ≠ gb175) := ⟨h22_⟩
              have n23_ : Aside0 (gb175 ≠ gb126) := ⟨h23_⟩
              have n24_ : Aside0 (gb132 ≠ gb175) := ⟨h24_⟩
              have n25_ : Aside0 (gb175 ≠ gb132) := ⟨h25_⟩
              have n26_ : Aside0 (gb138 ≠ gb175) := ⟨h26_⟩
              have n27_ : Aside0 (gb175 ≠ gb138) := ⟨h27_⟩
              have n28_ : Aside0 (Below w.heap.size w w141) := ⟨h28_⟩
              clear HO_121002
              clear HO_127002
              clear HO_133002
              clear HO_139002
              clear BK101
              clear BK102
              clear BK120
              clear BK126
              clear BK132
              clear BK138
              clear HB
              clear h0_ h1_ h2_ h3_ h4_ h5_ h6_ h7_ h8_ h9_ h10_ h11_ h12_ h13_ h14_ h15_ h16_ h17_ h18_ h19_ h20_ h21_ h22_ h23_ h24_ h25_ h26_ h27_ h28_
              have HO164 := n0_
              have HO169 := n1_
              have HO174 := n2_
              have HO_121002 := n3_
              have HO_127002 := n4_
              have HO_133002 := n5_
              have HO_139002 := n6_
              have BK101 := n7_
              have BK102 := n8_
              have BK120 := n9_
              have BK126 := n10_
              have BK132 := n11_
              have BK138 := n12_
              have BK175 := n13_
              have GW175 := n14_
              have GE175 := n15_
              have NB101_175 := n16_
              have NB175_101 := n17_
              have NB102_175 := n18_
              have NB175_102 := n19_
              have NB120_175 := n20_
              have NB175_120 := n21_
              have NB126_175 := n22_
              have NB175_126 := n23_
              have NB132_175 := n24_
              have NB175_132 := n25_
              have NB138_175 := n26_
              have NB175_138 := n27_
              have HB := n28_
              clear n0_ n1_ n2_ n3_ n4_ n5_ n6_ n7_ n8_ n9_ n10_ n11_ n12_ n13_ n14_ n15_ n16_ n17_ n18_ n19_ n20_ n21_ n22_ n23_ n24_ n25_ n26_ n27_ n28_
              have hHeld : w141.cell? ⟨gb101, 0, none⟩ = some (.int .i64 a0_0) ∧ w141.cell? ⟨gb101, 1, none⟩ = some (.int .i64 a0_1) ∧ w141.cell? ⟨gb101, 2, none⟩ = some (.slice A0_2 l0_2.length c0_2) ∧ w141.cell? ⟨gb102, 0, none⟩ = some (.int .i64 a1_0) ∧ w141.cell? ⟨gb102, 1, none⟩ = some (.int .i64 a1_1) ∧ w141.cell? ⟨gb102, 2, none⟩ = some (.slice A1_2 l1_2.length c1_2) := hS_
              obtain ⟨Ao144, co144, eo144⟩ := Kd.R_slice HO174.out
              (first | subst eo144 | (injection eo144 with f1_ f2_ f3_;have f4_ := f1_.symm;have f5_ := f3_.symm;clear f1_ f2_ f3_;subst f4_;subst f5_))
              refine norm_ (a' := ?_) ?_ ?_
              rotate_left
              ·simp only [putAll, Act.put, List.setIfInBounds_toArray, List.set_cons_zero, List.set_cons_succ]
               rfl
              refine one_ (i := 6) (N := none) #[true, true, true, true, true, true, true] rfl rfl (by kernel_rfl) (by decide) (fun K hK => ?_)
              have hs142 : w141.cell? ⟨gb175, 0, none⟩ = some (.int .i64 0) := (blk_cell BK175.out 0).trans rfl
              have hfs142 := blk_frozen BK175.out 0
              have hns142_0 := NB101_175.out
              have hns142_1 := NB102_175.out
              have hns142_2 := NB120_175.out
              have hns142_3 := NB126_175.out
              have hns142_4 := NB132_175.out
              have hns142_5 := NB138_175.out
              have hms142_0 := NB175_101.out
              have hms142_1 := NB175_102.out
              have hms142_2 := NB175_120.out
              have hms142_3 := NB175_126.out
              have hms142_4 := NB175_132.out
              have hms142_5 := NB175_138.out
              have hs143 : w141.cell? ⟨gb175, 1, none⟩ = some (.int .i64 0) := (blk_cell BK175.out 1).trans rfl
              have hfs143 := blk_frozen BK175.out 1
              have hns143_0 := NB101_175.out
              have hns143_1 := NB102_175.out
              have hns143_2 := NB120_175.out
              have hns143_3 := NB126_175.out
              have hns143_4 := NB132_175.out
              have hns143_5 := NB138_175.out
              have hms143_0 := NB175_101.out
              have hms143_1 := NB175_102.out
              have hms143_2 := NB175_120.out
              have hms143_3 := NB175_126.out
              have hms143_4 := NB175_132.out
              have hms143_5 := NB175_138.out
              have hs145 : w141.cell? ⟨gb175, 2, none⟩ = some (.slice none 0 0) := (blk_cell BK175.out 2).trans rfl
              have hfs145 := blk_frozen BK175.out 2
              have hns145_0 := NB101_175.out
              have hns145_1 := NB102_175.out
              have hns145_2 := NB120_175.out
              have hns145_3 := NB126_175.out
              have hns145_4 := NB132_175.out
              have hns145_5 := NB138_175.out
              have hms145_0 := NB175_101.out
              have hms145_1 := NB175_102.out
              have hms145_2 := NB175_120.out
              have hms145_3 := NB175_126.out
              have hms145_4 := NB175_132.out
              have hms145_5 := NB175_138.out
              refine skip_ (w1 := ?_) (by rfl) rfl ?_ ?_
              rotate_left
              ·go_simp
               rfl
              refine hK.out _ _ ⟨((cell_far (p := ⟨gb175, _, none⟩) NB101_175.out _).trans (((cell_far (p := ⟨gb175, _, none⟩) NB101_175.out _).trans (((cell_far (p := ⟨gb175, _, none⟩) NB101_175.out _).trans (hHeld.1)))))), ((cell_far (p := ⟨gb175, _, none⟩) NB101_175.out _).trans (((cell_far (p := ⟨gb175, _, none⟩) NB101_175.out _).trans (((cell_far (p := ⟨gb175, _, none⟩) NB101_175.out _).trans (hHeld.2.1)))))), ((cell_far (p := ⟨gb175, _, none⟩) NB101_175.out _).trans (((cell_far (p := ⟨gb175, _, none⟩) NB101_175.out _).trans (((cell_far (p := ⟨gb175, _, none⟩) NB101_175.out _).trans (hHeld.2.2.1)))))), ((cell_far (p := ⟨gb175, _, none⟩) NB102_175.out _).trans (((cell_far (p := ⟨gb175, _, none⟩) NB102_175.out _).trans (((cell_far (p := ⟨gb175, _, none⟩) NB102_175.out _).trans (hHeld.2.2.2.1)))))), ((cell_far (p := ⟨gb175, _, none⟩) NB102_175.out _).trans (((cell_far (p := ⟨gb175, _, none⟩) NB102_175.out _).trans (((cell_far (p := ⟨gb175, _, none⟩) NB102_175.out _).trans (hHeld.2.2.2.2.1)))))), ((cell_far (p := ⟨gb175, _, none⟩) NB102_175.out _).trans (((cell_far (p := ⟨gb175, _, none⟩) NB102_175.out _).trans (((cell_far (p := ⟨gb175, _, none⟩) NB102_175.out _).trans (hHeld.2.2.2.2.2))))))⟩ (fun hHeld => ?_)
              clear hK K
              refine done_ (by kernel_rfl) ?_
              have hnb146 := NB175_101.out
              have hnc146 := NB101_175.out
              have hnb147 := NB175_102.out
              have hnc147 := NB102_175.out
              have hnb148 := NB175_120.out
              have hnc148 := NB120_175.out
              have hnb149 := NB175_126.out
              have hnc149 := NB126_175.out
              have hnb150 := NB175_132.out
              have hnc150 := NB132_175.out
              have hnb151 := NB175_138.out
              have hnc151 := NB138_175.out
              obtain ⟨hcz152_0, hcz152_1, hcz152_2, hfz152_0, hfz152_1, hfz152_2⟩ := bx3 BK175.out
              have hnb153 := NB120_101.out
              have hnc153 := NB101_120.out
              have hnb154 := NB120_102.out
              have hnc154 := NB102_120.out
              have hnb155 := NB120_126.out
              have hnc155 := NB126_120.out
              have hnb156 := NB120_132.out
              have hnc156 := NB132_120.out
              obtain ⟨hcz157_0, hcz157_1, hcz157_2, hfz157_0, hfz157_1, hfz157_2⟩ := bx3 BK120.out
              try go_wp2_with (first | ((with_reducible refine gate_callee (f := 22) rfl ?_);refine goesL_ (some 82) rfl rfl Try.func22 (by kernel_rfl) rfl #[.agg #[.int .i64 t170, .int .i64 t171, .slice Ao144 t172.length co144], .agg #[.int .i64 t115, .int .i64 t116, .slice Ao53 t117.length co53]] rfl (by (try simp only [List.map_toArray, List.map_cons, List.map_nil]);first | done | rfl | (simp only [List.length_drop, List.length_take];rfl)) ?_;(with_reducible refine (laws_eqOcc.calls kj34 t170 t171 _ _ t172 t115 t116 _ _ t117 true _ ?side1 ?side2 ?side3 ?side4 A120.out).mono ?_);(case side1 => refine (Kd.R_reads' (e := 3) (base := w.heap.size) (ok := fun k_ => (some k_ ≠ (v163 : Value).ownBlock ∧ (some k_ ≠ (v168 : Value).ownBlock ∧ (some k_ ≠ (.slice Ao53 t117.length co53 : Value).ownBlock ∧ (some k_ ≠ (.slice Ao63 t153.length co63 : Value).ownBlock ∧ (some k_ ≠ (.slice Ao73 t155.length co73 : Value).ownBlock ∧ some k_ ≠ (.slice Ao83 t135.length co83 : Value).ownBlock)))))) (n := t172.length) (c := co144) ?_).2.2;exact (by (with_reducible repeat (first | apply Kd.R_alloc | apply Kd.R_drewN | apply Kd.R_drew));exact (Kd.R_mono (Kd.R_far (p := ⟨gb175, 2, none⟩) (Kd.R_far (p := ⟨gb175, 1, none⟩) (Kd.R_far (p := ⟨gb175, 0, none⟩) (Kd.R_types HO174.out BK175.out (by decide)) (fun _ hk => hk.2) (.int .i64 t170)) (fun _ hk => hk.2) (.int .i64 t171)) (fun _ hk => hk.2) (.slice Ao144 t172.length co144)) (fun _ h_ => h_.1))));(case side2 => exact (Kd.R_reads' HO174.out).2.1);(case side3 => refine (Kd.R_reads' (e := 3) (base := w.heap.size) (ok := fun k_ => (some k_ ≠ (v163 : Value).ownBlock ∧ (some k_ ≠ (v168 : Value).ownBlock ∧ (some k_ ≠ (.slice Ao144 t172.length co144 : Value).ownBlock ∧ (some k_ ≠ (.slice Ao63 t153.length co63 : Value).ownBlock ∧ (some k_ ≠ (.slice Ao73 t155.length co73 : Value).ownBlock ∧ some k_ ≠ (.slice Ao83 t135.length co83 : Value).ownBlock)))))) (n := t117.length) (c := co53) ?_).2.2;exact (by (with_reducible repeat (first | apply Kd.R_alloc | apply Kd.R_drewN | apply Kd.R_drew));exact (Kd.R_mono (Kd.R_far (p := ⟨gb175, 2, none⟩) (Kd.R_far (p := ⟨gb175, 1, none⟩) (Kd.R_far (p := ⟨gb175, 0, none⟩) (Kd.R_types HO_121002.out BK175.out (by decide)) (fun _ hk => hk.2) (.int .i64 t170)) (fun _ hk => hk.2) (.int .i64 t171)) (fun _ hk => hk.2) (.slice Ao144 t172.length co144)) (fun _ h_ => h_.1))));(case side4 => exact (Kd.R_reads' HO_121002.out).2.1);rintro e w158 ⟨rfl, hb⟩;refine ⟨_, rfl, ?_⟩;replace HO_121002 := Aside0.mk (Kd.R_below (by (with_reducible repeat (first | apply Kd.R_alloc | apply Kd.R_drewN | apply Kd.R_drew));exact (Kd.R_mono (Kd.R_far (p := ⟨gb175, 2, none⟩) (Kd.R_far (p := ⟨gb175, 1, none⟩) (Kd.R_far (p := ⟨gb175, 0, none⟩) (Kd.R_types HO_121002.out BK175.out (by decide)) (fun _ hk => hk.2) (.int .i64 t170)) (fun _ hk => hk.2) (.int .i64 t171)) (fun _ hk => hk.2) (.slice Ao144 t172.length co144)) (fun _ h_ => h_.1))) hb);replace HO_127002 := Aside0.mk (Kd.R_below (by (with_reducible repeat (first | apply Kd.R_alloc | apply Kd.R_drewN | apply Kd.R_drew));exact (Kd.R_mono (Kd.R_far (p := ⟨gb175, 2, none⟩) (Kd.R_far (p := ⟨gb175, 1, none⟩) (Kd.R_far (p := ⟨gb175, 0, none⟩) (Kd.R_types HO_127002.out BK175.out (by decide)) (fun _ hk => hk.2) (.int .i64 t170)) (fun _ hk => hk.2) (.int .i64 t171)) (fun _ hk => hk.2) (.slice Ao144 t172.length co144)) (fun _ h_ => h_.1))) hb);replace HO_133002 := Aside0.mk (Kd.R_below (by (with_reducible repeat (first | apply Kd.R_alloc | apply Kd.R_drewN | apply Kd.R_drew));exact (Kd.R_mono (Kd.R_far (p := ⟨gb175, 2, none⟩) (Kd.R_far (p := ⟨gb175, 1, none⟩) (Kd.R_far (p := ⟨gb175, 0, none⟩) (Kd.R_types HO_133002.out BK175.out (by decide)) (fun _ hk => hk.2) (.int .i64 t170)) (fun _ hk => hk.2) (.int .i64 t171)) (fun _ hk => hk.2) (.slice Ao144 t172.length co144)) (fun _ h_ => h_.1))) hb);replace HO_139002 := Aside0.mk (Kd.R_below (by (with_reducible repeat (first | apply Kd.R_alloc | apply Kd.R_drewN | apply Kd.R_drew));exact (Kd.R_mono (Kd.R_far (p := ⟨gb175, 2, none⟩) (Kd.R_far (p := ⟨gb175, 1, none⟩) (Kd.R_far (p := ⟨gb175, 0, none⟩) (Kd.R_types HO_139002.out BK175.out (by decide)) (fun _ hk => hk.2) (.int .i64 t170)) (fun _ hk => hk.2) (.int .i64 t171)) (fun _ hk => hk.2) (.slice Ao144 t172.length co144)) (fun _ h_ => h_.1))) hb);replace HO164 := Aside0.mk (Kd.R_below (by (with_reducible repeat (first | apply Kd.R_alloc | apply Kd.R_drewN | apply Kd.R_drew));exact (Kd.R_mono (Kd.R_far (p := ⟨gb175, 2, none⟩) (Kd.R_far (p := ⟨gb175, 1, none⟩) (Kd.R_far (p := ⟨gb175, 0, none⟩) (Kd.R_types HO164.out BK175.out (by decide)) (fun _ hk => hk.2) (.int .i64 t170)) (fun _ hk => hk.2) (.int .i64 t171)) (fun _ hk => hk.2) (.slice Ao144 t172.length co144)) (fun _ h_ => h_.1))) hb);replace HO169 := Aside0.mk (Kd.R_below (by (with_reducible repeat (first | apply Kd.R_alloc | apply Kd.R_drewN | apply Kd.R_drew));exact (Kd.R_mono (Kd.R_far (p := ⟨gb175, 2, none⟩) (Kd.R_far (p := ⟨gb175, 1, none⟩) (Kd.R_far (p := ⟨gb175, 0, none⟩) (Kd.R_types HO169.out BK175.out (by decide)) (fun _ hk => hk.2) (.int .i64 t170)) (fun _ hk => hk.2) (.int .i64 t171)) (fun _ hk => hk.2) (.slice Ao144 t172.length co144)) (fun _ h_ => h_.1))) hb);replace HO174 := Aside0.mk (Kd.R_below (by (with_reducible repeat (first | apply Kd.R_alloc | apply Kd.R_drewN | apply Kd.R_drew));exact (Kd.R_mono (Kd.R_far (p := ⟨gb175, 2, none⟩) (Kd.R_far (p := ⟨gb175, 1, none⟩) (Kd.R_far (p := ⟨gb175, 0, none⟩) (Kd.R_types HO174.out BK175.out (by decide)) (fun _ hk => hk.2) (.int .i64 t170)) (fun _ hk => hk.2) (.int .i64 t171)) (fun _ hk => hk.2) (.slice Ao144 t172.length co144)) (fun _ h_ => h_.1))) hb);replace BK101 := Aside0.mk (blk_below (g := gb101) (o := .cells #[.int .i64 a0_0, .int .i64 a0_1, .slice A0_2 l0_2.length c0_2] 24 (0, 0)) (by (with_reducible repeat (first | refine blk_drewN ?_ _ | refine blk_drew ?_ | refine blk_alloc ?_ _));refine blk_far ?_ NB101_175.out _;(with_reducible repeat (first | refine blk_drewN ?_ _ | refine blk_drew ?_ | refine blk_alloc ?_ _));refine blk_far ?_ NB101_175.out _;(with_reducible repeat (first | refine blk_drewN ?_ _ | refine blk_drew ?_ | refine blk_alloc ?_ _));refine blk_far ?_ NB101_175.out _;(with_reducible repeat (first | refine blk_drewN ?_ _ | refine blk_drew ?_ | refine blk_alloc ?_ _));exact BK101.out) hb);replace BK102 := Aside0.mk (blk_below (g := gb102) (o := .cells #[.int .i64 a1_0, .int .i64 a1_1, .slice A1_2 l1_2.length c1_2] 24 (0, 0)) (by (with_reducible repeat (first | refine blk_drewN ?_ _ | refine blk_drew ?_ | refine blk_alloc ?_ _));refine blk_far ?_ NB102_175.out _;(with_reducible repeat (first | refine blk_drewN ?_ _ | refine blk_drew ?_ | refine blk_alloc ?_ _));refine blk_far ?_ NB102_175.out _;(with_reducible repeat (first | refine blk_drewN ?_ _ | refine blk_drew ?_ | refine blk_alloc ?_ _));refine blk_far ?_ NB102_175.out _;(with_reducible repeat (first | refine blk_drewN ?_ _ | refine blk_drew ?_ | refine blk_alloc ?_ _));exact BK102.out) hb);replace BK120 := Aside0.mk (blk_below (g := gb120) (o := .cells #[.int .i64 t115, .int .i64 t116, .slice Ao53 t117.length co53] 27 (0, 0)) (by (with_reducible repeat (first | refine blk_drewN ?_ _ | refine blk_drew ?_ | refine blk_alloc ?_ _));refine blk_far ?_ NB120_175.out _;(with_reducible repeat (first | refine blk_drewN ?_ _ | refine blk_drew ?_ | refine blk_alloc ?_ _));refine blk_far ?_ NB120_175.out _;(with_reducible repeat (first | refine blk_drewN ?_ _ | refine blk_drew ?_ | refine blk_alloc ?_ _));refine blk_far ?_ NB120_175.out _;(with_reducible repeat (first | refine blk_drewN ?_ _ | refine blk_drew ?_ | refine blk_alloc ?_ _));exact BK120.out) hb);replace BK126 := Aside0.mk (blk_below (g := gb126) (o := .cells #[.int .i64 t121, .int .i64 t122, .slice Ao63 t153.length co63] 27 (0, 0)) (by (with_reducible repeat (first | refine blk_drewN ?_ _ | refine blk_drew ?_ | refine blk_alloc ?_ _));refine blk_far ?_ NB126_175.out _;(with_reducible repeat (first | refine blk_drewN ?_ _ | refine blk_drew ?_ | refine blk_alloc ?_ _));refine blk_far ?_ NB126_175.out _;(with_reducible repeat (first | refine blk_drewN ?_ _ | refine blk_drew ?_ | refine blk_alloc ?_ _));refine blk_far ?_ NB126_175.out _;(with_reducible repeat (first | refine blk_drewN ?_ _ | refine blk_drew ?_ | refine blk_alloc ?_ _));exact BK126.out) hb);replace BK132 := Aside0.mk (blk_below (g := gb132) (o := .cells #[.int .i64 t127, .int .i64 t128, .slice Ao73 t155.length co73] 27 (0, 0)) (by (with_reducible repeat (first | refine blk_drewN ?_ _ | refine blk_drew ?_ | refine blk_alloc ?_ _));refine blk_far ?_ NB132_175.out _;(with_reducible repeat (first | refine blk_drewN ?_ _ | refine blk_drew ?_ | refine blk_alloc ?_ _));refine blk_far ?_ NB132_175.out _;(with_reducible repeat (first | refine blk_drewN ?_ _ | refine blk_drew ?_ | refine blk_alloc ?_ _));refine blk_far ?_ NB132_175.out _;(with_reducible repeat (first | refine blk_drewN ?_ _ | refine blk_drew ?_ | refine blk_alloc ?_ _));exact BK132.out) hb);replace BK138 := Aside0.mk (blk_below (g := gb138) (o := .cells #[.int .i64 t133, .int .i64 t134, .slice Ao83 t135.length co83] 27 (0, 0)) (by (with_reducible repeat (first | refine blk_drewN ?_ _ | refine blk_drew ?_ | refine blk_alloc ?_ _));refine blk_far ?_ NB138_175.out _;(with_reducible repeat (first | refine blk_drewN ?_ _ | refine blk_drew ?_ | refine blk_alloc ?_ _));refine blk_far ?_ NB138_175.out _;(with_reducible repeat (first | refine blk_drewN ?_ _ | refine blk_drew ?_ | refine blk_alloc ?_ _));refine blk_far ?_ NB138_175.out _;(with_reducible repeat (first | refine blk_drewN ?_ _ | refine blk_drew ?_ | refine blk_alloc ?_ _));exact BK138.out) hb);replace BK175 := Aside0.mk (blk_below (g := gb175) (o := .cells #[.int .i64 t170, .int .i64 t171, .slice Ao144 t172.length co144] 27 (0, 0)) (by (with_reducible repeat (first | refine blk_drewN ?_ _ | refine blk_drew ?_ | refine blk_alloc ?_ _));refine blk_put (cs := #[.int .i64 t170, .int .i64 t171, .slice none 0 0]) ?_ 2 _ rfl;(with_reducible repeat (first | refine blk_drewN ?_ _ | refine blk_drew ?_ | refine blk_alloc ?_ _));refine blk_put (cs := #[.int .i64 t170, .int .i64 0, .slice none 0 0]) ?_ 1 _ rfl;(with_reducible repeat (first | refine blk_drewN ?_ _ | refine blk_drew ?_ | refine blk_alloc ?_ _));refine blk_put (cs := #[.int .i64 0, .int .i64 0, .slice none 0 0]) ?_ 0 _ rfl;(with_reducible repeat (first | refine blk_drewN ?_ _ | refine blk_drew ?_ | refine blk_alloc ?_ _));exact BK175.out) hb);replace HB := Aside0.mk (below_step (by repeat (first | (with_reducible first | exact HB.out | apply below_alloc | apply pw_below_drewN | apply below_drew1 | refine below_set ?_ GE101.out | refine below_set ?_ GE102.out | refine below_set ?_ GE120.out | refine below_set ?_ GE126.out | refine below_set ?_ GE132.out | refine below_set ?_ GE138.out | refine below_set ?_ GE175.out) | exact HB.out)) hb);(try clear hb);(try clear hb2);(try clear hk);(try clear hi);obtain ⟨hcz159_0, hcz159_1, hcz159_2, hfz159_0, hfz159_1, hfz159_2⟩ := bx3 BK138.out) | ((with_reducible refine gate_callee (f := 51) rfl ?_);refine goesL_ (some 86) rfl rfl Try.func51 (by kernel_rfl) rfl #[.agg #[.int .i64 t133, .int .i64 t134, .slice Ao83 t158.length co83], .int .i64 1] rfl (by (try simp only [List.map_toArray, List.map_cons, List.map_nil]);first | done | (rw [show t158.length = t135.length from (Kd.R_reads' HO_139002.out).1.symm] <;> rfl) | rfl | (simp only [List.length_drop, List.length_take];rfl)) ?_;(with_reducible refine (laws_heldOcc.calls kj34 t133 t134 _ _ t158 1 t177 _ ?side1 ?side2 A122.out).mono ?_);(case side1 => repeat (first | exact (Kd.R_reads' HO_139002.out).2.2 | (with_reducible refine Kd.C_alloc ?_ _) | (with_reducible refine Kd.C_drewN ?_ _) | (with_reducible refine Kd.C_drew ?_)));(case side2 => rw [show t158.length = t135.length from (Kd.R_reads' HO_139002.out).1.symm];exact (Kd.R_reads' HO_139002.out).2.1);rintro e w160 ⟨rfl, hb⟩;refine ⟨_, rfl, ?_⟩;replace HO_121002 := Aside0.mk (Kd.R_below (by exact HO_121002.out) hb);replace HO_127002 := Aside0.mk (Kd.R_below (by exact HO_127002.out) hb);replace HO_133002 := Aside0.mk (Kd.R_below (by exact HO_133002.out) hb);replace HO_139002 := Aside0.mk (Kd.R_below (by exact HO_139002.out) hb);replace HO164 := Aside0.mk (Kd.R_below (by exact HO164.out) hb);replace HO169 := Aside0.mk (Kd.R_below (by exact HO169.out) hb);replace HO174 := Aside0.mk (Kd.R_below (by exact HO174.out) hb);replace BK101 := Aside0.mk (blk_below BK101.out hb);replace BK102 := Aside0.mk (blk_below BK102.out hb);replace BK120 := Aside0.mk (blk_below BK120.out hb);replace BK126 := Aside0.mk (blk_below BK126.out hb);replace BK132 := Aside0.mk (blk_below BK132.out hb);replace BK138 := Aside0.mk (blk_below BK138.out hb);replace BK175 := Aside0.mk (blk_below BK175.out hb);replace HB := Aside0.mk (below_step (by repeat (first | (with_reducible first | exact HB.out | apply below_alloc | apply pw_below_drewN | apply below_drew1 | refine below_set ?_ GE101.out | refine below_set ?_ GE102.out | refine below_set ?_ GE120.out | refine below_set ?_ GE126.out | refine below_set ?_ GE132.out | refine below_set ?_ GE138.out | refine below_set ?_ GE175.out) | exact HB.out)) hb);(try clear hb);(try clear hb2);(try clear hk);(try clear hi)))
              go_ret
              exact ⟨by first | rfl | (simp [errW_none, errW_some] <;> rfl) | (simp [*, errW_none, errW_some] <;> rfl), by repeat (first | (with_reducible first | exact HB.out | apply below_alloc | apply pw_below_drewN | apply below_drew1 | refine below_set ?_ GE101.out | refine below_set ?_ GE102.out | refine below_set ?_ GE120.out | refine below_set ?_ GE126.out | refine below_set ?_ GE132.out | refine below_set ?_ GE138.out | refine below_set ?_ GE175.out) | exact HB.out)⟩
             ·rw [if_neg c124] at H
              have c124b0 : (t177 == t157) = false := beq_eq_false_iff_ne.mpr c124
              have c124b1 : (t177 != t157) = true := bne_iff_ne.mpr c124
              exact absurd (Option.some.inj H) (by rw [hT_.out];decide)
           ·replace c121 := Bool.eq_false_iff.mpr c121
            subst c121
            have H1 : (some false) = some r := by rw [if_neg (show ¬ (false = true) by decide)] at H;exact H
            clear H
            have H := H1
            clear H1
            exact absurd (Option.some.inj H) (by rw [hT_.out];decide)
          ·rw [if_neg c116] at H
           have c116b0 : (t159 == t157) = false := beq_eq_false_iff_ne.mpr c116
           have c116b1 : (t159 != t157) = true := bne_iff_ne.mpr c116
           exact absurd (Option.some.inj H) (by rw [hT_.out];decide)
     ·replace c32 := Bool.eq_false_iff.mpr c32
      subst c32
      have H1 : (some false) = some r := by rw [if_neg (show ¬ (false = true) by decide)] at H;exact H
      clear H
      have H := H1
      clear H1
      exact absurd (Option.some.inj H) (by rw [hT_.out];decide)
    ·replace c29 := Bool.eq_false_iff.mpr c29
     subst c29
     have H1 : (some false) = some r := by rw [if_neg (show ¬ (false = true) by decide)] at H;exact H
     clear H
     have H := H1
     clear H1
     exact absurd (Option.some.inj H) (by rw [hT_.out];decide)
   ·replace c26 := Bool.eq_false_iff.mpr c26
    subst c26
    have H1 : (some false) = some r := by rw [if_neg (show ¬ (false = true) by decide)] at H;exact H
    clear H
    have H := H1
    clear H1
    exact absurd (Option.some.inj H) (by rw [hT_.out];decide)

end Go.Proofs.Ytiplpckgmikmeaa.M
