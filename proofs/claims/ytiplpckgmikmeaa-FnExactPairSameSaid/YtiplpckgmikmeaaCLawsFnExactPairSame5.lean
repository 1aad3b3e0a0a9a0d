/- What the claim's law leans on: the program's functions, what they compute, and the law over plain values; no condition is asked. (Part 5 of 5.) -/
import Derived.Test.YtiplpckgmikmeaaCLawsFnExactPairSame4
namespace Go.Proofs.Ytiplpckgmikmeaa.M
open Go.RowKit Go.Proofs.YtiplpckgmikmeaaW.PrintWords Go.Proofs.YtiplpckgmikmeaaW.PrintLast Go.Proofs.YtiplpckgmikmeaaW.PrintMore
attribute [local go_sem] max2_int min2_int max_two min_two max_three min_three max_four min_four
set_option linter.unusedVariables false
set_option linter.unusedSimpArgs false

def impl_PairOk.f (k : Nat) (l0_0 : List (S27)) (l0_1 : List (S27)) : Option (Bool) := (impl_OccsOk.f k l0_0).bind fun t102 => (if t102 = true then ((impl_OccsOk.f k l0_1).bind fun t103 => (some t103)) else (some false))
theorem impl_PairOk.mono : ∀ a0 a1 k, LeO (impl_PairOk.f k a0 a1) (impl_PairOk.f (k + 1) a0 a1) := by
 intro a0 a1 k
 unfold impl_PairOk.f
 repeat' first
   | (with_reducible exact impl_OccsOk.mono _ _)
   | (with_reducible exact LeO.refl _)
   | (with_reducible exact LeO.none _)
   | (with_reducible refine LeO.ite ?_ ?_)
   | (with_reducible refine LeO.bind ?_ (fun _ => ?_))
   | exact impl_OccsOk.mono _ _
   | exact LeO.none _
   | refine LeO.ite ?_ ?_
   | refine LeO.bind ?_ (fun _ => ?_)
set_option maxHeartbeats 8000000 in
set_option maxRecDepth 100000 in
theorem impl_PairOk.calls (k : Nat) (A0_0 : Option Addr) (c0_0 : Nat) (l0_0 : List (S27)) (A0_1 : Option Addr) (c0_1 : Nat) (l0_1 : List (S27)) (r : Bool) (w : World) (hr0_0 : Kd.C k27 w A0_0 l0_0.length l0_0) (hc0_0 : l0_0.length ≤ c0_0) (hr0_1 : Kd.C k27 w A0_1 l0_1.length l0_1) (hc0_1 : l0_1.length ≤ c0_1) (h : impl_PairOk.f k l0_0 l0_1 = some r) :
  Calls Try.prog 41 #[.agg #[.slice A0_0 l0_0.length c0_0, .slice A0_1 l0_1.length c0_1]] w fun e w' => e = .returned (.bool r) ∧ Below w.heap.size w w' := by
 have hu44 := Try.underlying44
 have HR0_0 := Aside0.mk hr0_0
 have HC0_0 := Aside0.mk hc0_0
 clear hr0_0 hc0_0
 have HR0_1 := Aside0.mk hr0_1
 have HC0_1 := Aside0.mk hc0_1
 clear hr0_1 hc0_1
 have HB := Aside0.mk (Below.refl w.heap.size w)
 have H : ((impl_OccsOk.f k l0_0).bind fun t102 => (if t102 = true then ((impl_OccsOk.f k l0_1).bind fun t103 => (some t103)) else (some false))) = some r := h
 clear h
 replace H := Option.bind_eq_some_iff.mp H
 obtain ⟨t102, A20, H⟩ := H
 replace H : (if t102 = true then ((impl_OccsOk.f k l0_1).bind fun t103 => (some t103)) else (some false)) = some r := H
 have A2 := Aside0.mk A20
 clear A20
 by_cases c3 : t102 = true
 ·subst c3
  have H1 : ((impl_OccsOk.f k l0_1).bind fun t103 => (some t103)) = some r := by rw [if_pos rfl] at H;exact H
  clear H
  have H := H1
  clear H1
  replace H := Option.bind_eq_some_iff.mp H
  obtain ⟨t103, A40, H⟩ := H
  replace H : (some t103) = some r := H
  have A4 := Aside0.mk A40
  clear A40
  obtain rfl := Option.some.inj H
  go_enter Try.func41, Try.ntmps41
  go_wp2_with (first | ((with_reducible refine gate_dst (N := 1) rfl ?_);refine box_event ?hg (N := 1) ?hd (cs := #[.slice A0_0 l0_0.length c0_0, .slice A0_1 l0_1.length c0_1]) (t := 44) ?hr ?_;(case hd => rfl);(case hg => rfl);(case hr => first | (go_simp;done) | (go_simp;rfl));intro gb101 hg w5 hbox hb;have n0_ := Aside0.mk (below_step (by exact HB.out) hb);have n1_ := Aside0.mk (hbox);have n2_ := Aside0.mk ((by rw [hg];exact (below_size (by exact HB.out)) : w.heap.size ≤ gb101));have n3_ := Aside0.mk ((by rw [hg];exact (below_size (by exact HB.out)) : w.heap.size ≤ gb101));clear HB;have HB := n0_;have BK101 := n1_;have GW101 := n2_;have GE101 := n3_;clear n0_ n1_ n2_ n3_;clear hb hbox hg;have hcz6_0 : w5.cell? ⟨gb101, 0, none⟩ = some (.slice A0_0 l0_0.length c0_0) := (blk_cell BK101.out 0).trans rfl;have hcz6_1 : w5.cell? ⟨gb101, 1, none⟩ = some (.slice A0_1 l0_1.length c0_1) := (blk_cell BK101.out 1).trans rfl;have hfz6_0 := blk_frozen BK101.out 0;have hfz6_1 := blk_frozen BK101.out 1) | ((with_reducible refine gate_callee (f := 29) rfl ?_);refine goesL_ (some 5) rfl rfl Try.func29 (by kernel_rfl) rfl #[.slice A0_0 l0_0.length c0_0] rfl (by (try simp only [List.map_toArray, List.map_cons, List.map_nil]);first | done | rfl | (simp only [List.length_drop, List.length_take];rfl)) ?_;(with_reducible refine (impl_OccsOk.calls k _ _ l0_0 true _ ?side1 ?side2 A2.out).mono ?_);(case side1 => repeat (first | exact (Kd.C_below HR0_0.out HB.out) | (with_reducible refine Kd.C_alloc ?_ _) | (with_reducible refine Kd.C_drewN ?_ _) | (with_reducible refine Kd.C_drew ?_)));(case side2 => exact HC0_0.out);rintro e w7 ⟨rfl, hb⟩;refine ⟨_, rfl, ?_⟩;have n0_ := Aside0.mk (blk_below BK101.out hb);have n1_ := Aside0.mk (below_step (by exact HB.out) hb);clear BK101;clear HB;have BK101 := n0_;have HB := n1_;clear n0_ n1_;(try clear hb);(try clear hb2);(try clear hk);(try clear hi);have hcz8_0 : w7.cell? ⟨gb101, 0, none⟩ = some (.slice A0_0 l0_0.length c0_0) := (blk_cell BK101.out 0).trans rfl;have hcz8_1 : w7.cell? ⟨gb101, 1, none⟩ = some (.slice A0_1 l0_1.length c0_1) := (blk_cell BK101.out 1).trans rfl;have hfz8_0 := blk_frozen BK101.out 0;have hfz8_1 := blk_frozen BK101.out 1) | (go_at_call 29;(with_reducible refine (impl_OccsOk.calls k _ _ l0_1 t103 _ ?side1 ?side2 A4.out).mono ?_);(case side1 => repeat (first | exact (Kd.C_below HR0_1.out HB.out) | (with_reducible refine Kd.C_alloc ?_ _) | (with_reducible refine Kd.C_drewN ?_ _) | (with_reducible refine Kd.C_drew ?_)));(case side2 => exact HC0_1.out);rintro e w9 ⟨rfl, hb⟩;have n0_ := Aside0.mk (blk_below BK101.out hb);have n1_ := Aside0.mk (below_step (by exact HB.out) hb);clear BK101;clear HB;have BK101 := n0_;have HB := n1_;clear n0_ n1_;(try clear hb);(try clear hb2);(try clear hk);(try clear hi)))
  go_ret
  exact ⟨by first | rfl | (simp [errW_none, errW_some] <;> rfl) | (simp [*, errW_none, errW_some] <;> rfl), by repeat (first | (with_reducible first | exact HB.out | apply below_alloc | apply pw_below_drewN | apply below_drew1 | refine below_set ?_ GE101.out) | exact HB.out)⟩
 ·replace c3 := Bool.eq_false_iff.mpr c3
  subst c3
  have H1 : (some false) = some r := by rw [if_neg (show ¬ (false = true) by decide)] at H;exact H
  clear H
  have H := H1
  clear H1
  obtain rfl := Option.some.inj H
  go_enter Try.func41, Try.ntmps41
  go_wp2_with (first | ((with_reducible refine gate_dst (N := 1) rfl ?_);refine box_event ?hg (N := 1) ?hd (cs := #[.slice A0_0 l0_0.length c0_0, .slice A0_1 l0_1.length c0_1]) (t := 44) ?hr ?_;(case hd => rfl);(case hg => rfl);(case hr => first | (go_simp;done) | (go_simp;rfl));intro gb101 hg w10 hbox hb;have n0_ := Aside0.mk (below_step (by exact HB.out) hb);have n1_ := Aside0.mk (hbox);have n2_ := Aside0.mk ((by rw [hg];exact (below_size (by exact HB.out)) : w.heap.size ≤ gb101));have n3_ := Aside0.mk ((by rw [hg];exact (below_size (by exact HB.out)) : w.heap.size ≤ gb101));clear HB;have HB := n0_;have BK101 := n1_;have GW101 := n2_;have GE101 := n3_;clear n0_ n1_ n2_ n3_;clear hb hbox hg;have hcz11_0 : w10.cell? ⟨gb101, 0, none⟩ = some (.slice A0_0 l0_0.length c0_0) := (blk_cell BK101.out 0).trans rfl;have hcz11_1 : w10.cell? ⟨gb101, 1, none⟩ = some (.slice A0_1 l0_1.length c0_1) := (blk_cell BK101.out 1).trans rfl;have hfz11_0 := blk_frozen BK101.out 0;have hfz11_1 := blk_frozen BK101.out 1) | ((with_reducible refine gate_callee (f := 29) rfl ?_);refine goesL_ (some 5) rfl rfl Try.func29 (by kernel_rfl) rfl #[.slice A0_0 l0_0.length c0_0] rfl (by (try simp only [List.map_toArray, List.map_cons, List.map_nil]);first | done | rfl | (simp only [List.length_drop, List.length_take];rfl)) ?_;(with_reducible refine (impl_OccsOk.calls k _ _ l0_0 false _ ?side1 ?side2 A2.out).mono ?_);(case side1 => repeat (first | exact (Kd.C_below HR0_0.out HB.out) | (with_reducible refine Kd.C_alloc ?_ _) | (with_reducible refine Kd.C_drewN ?_ _) | (with_reducible refine Kd.C_drew ?_)));(case side2 => exact HC0_0.out);rintro e w12 ⟨rfl, hb⟩;refine ⟨_, rfl, ?_⟩;have n0_ := Aside0.mk (blk_below BK101.out hb);have n1_ := Aside0.mk (below_step (by exact HB.out) hb);clear BK101;clear HB;have BK101 := n0_;have HB := n1_;clear n0_ n1_;(try clear hb);(try clear hb2);(try clear hk);(try clear hi)))
  go_ret
  exact ⟨by first | rfl | (simp [errW_none, errW_some] <;> rfl) | (simp [*, errW_none, errW_some] <;> rfl), by repeat (first | (with_reducible first | exact HB.out | apply below_alloc | apply pw_below_drewN | apply below_drew1 | refine below_set ?_ GE101.out) | exact HB.out)⟩

end Go.Proofs.Ytiplpckgmikmeaa.M
namespace Go.Proofs.Ytiplpckgmikmeaa.M
set_option linter.unusedVariables false
set_option linter.unusedSimpArgs false
open Go.RowKit Go.Proofs.YtiplpckgmikmeaaW.PrintWords Go.Proofs.YtiplpckgmikmeaaW.PrintLast

theorem sz2 {p q : List S24} (h : goodOs p) (g : goodOs q) (a : Int) (h0 : 0 ≤ a) (h1 : a ≤ 1048576) : Ev (fun k => (laws_szOccS.f k p a).bind fun t => (if t < 0 then (some (-1)) else ((laws_szOccS.f k q t).bind fun t => (if t < 0 then (some (-1)) else (some t))))) (leftOf a (allO p + allO q)) := by
  refine Ev.bind (h.sz a h0 h1) ?_
  by_cases hs : ((allO p : Nat) : Int) ≤ a
  · rw [leftOf_pos hs]
    refine Ev.neg (by omega) (Ev.bind (g.sz _ (by omega) (by omega)) ?_)
    by_cases hs2 : ((allO q : Nat) : Int) ≤ a - allO p
    · rw [leftOf_pos hs2, leftOf_pos (show ((allO p + allO q : Nat) : Int) ≤ a by omega)]
      refine Ev.neg (by omega) (Ev.val (Ev.now _) (by omega))
    · rw [leftOf_neg hs2, leftOf_neg (show ¬ ((allO p + allO q : Nat) : Int) ≤ a by omega)]
      exact Ev.pos (by omega) (Ev.now _)
  · rw [leftOf_neg hs, leftOf_neg (show ¬ ((allO p + allO q : Nat) : Int) ≤ a by omega)]
    exact Ev.pos (by omega) (Ev.now _)
theorem to2 {p q : List S24} (h : FewO p) (g : FewO q) : Ev (fun k => (laws_toOccS.f k p).bind fun t => ((laws_toOccS.f k q).bind fun u => (some (t, u)))) (p.map cvO, q.map cvO) := Ev.bind (toOccS_ev p h) (Ev.bindS (toOccS_ev q g) rfl)
theorem and2 {f g : Nat → Option Bool} {a b : Bool} (h : Ev f a) (k : Ev g b) : Ev (fun n => (f n).bind fun t => (if t = true then ((g n).bind fun u => (some u)) else (some false))) (a && b) := by
  refine Ev.bind h ?_
  cases a with
  | true => exact Ev.pos rfl (Ev.bindS k (by simp))
  | false => exact Ev.neg (by decide) (Ev.now _)
theorem eq2 {p q : List S24} (h : FewO p) (g : FewO q) : Ev (fun n => (laws_eqOccS.f n (p.map cvO) (p.map cvO)).bind fun t => (if t = true then ((laws_eqOccS.f n (q.map cvO) (q.map cvO)).bind fun t => (if t = true then (some true) else (some false))) else (some false))) true := by
  have k1 := few_cv h
  have k2 := few_cv g
  exact Ev.bind (eqOccS_ev _ (by omega) (short_map p h)) (Ev.pos rfl (Ev.bindS (eqOccS_ev _ (by omega) (short_map q g)) rfl))
theorem ok2 {p q : List S24} (h : FewO p) (g : FewO q) : Ev (fun k => spec_PairOk.f k (p.map cvO) (q.map cvO)) (occsOkB (p.map cvO) && occsOkB (q.map cvO)) ∧ Ev (fun k => impl_PairOk.f k (p.map cvO) (q.map cvO)) (occsOkB (p.map cvO) && occsOkB (q.map cvO)) := by
  have k1 := few_cv h
  have k2 := few_cv g
  exact ⟨and2 (spec_OccsOk_ev _ (by omega) (short_map p h)) (spec_OccsOk_ev _ (by omega) (short_map q g)), and2 (impl_OccsOk_ev _ (by omega) (short_map p h)) (impl_OccsOk_ev _ (by omega) (short_map q g))⟩
theorem same2 {p q r s : List S24} (hp : FewO p) (hq : FewO q) (hr : FewO r) (hs : FewO s) : Ev (fun k => spec_PairSame.f k (p.map cvO) (q.map cvO) (r.map cvO) (s.map cvO)) (occsEq (p.map cvO) (r.map cvO) && occsEq (q.map cvO) (s.map cvO)) ∧ Ev (fun k => impl_PairSame.f k (p.map cvO) (q.map cvO) (r.map cvO) (s.map cvO)) (occsEq (p.map cvO) (r.map cvO) && occsEq (q.map cvO) (s.map cvO)) := by
  have k1 := few_cv hp
  have k2 := few_cv hq
  exact ⟨and2 (spec_OccsSame_ev _ _ (by omega) (short_map p hp) (short_map r hr)) (spec_OccsSame_ev _ _ (by omega) (short_map q hq) (short_map s hs)), and2 (impl_OccsSame_ev _ _ (by omega) (short_map p hp) (short_map r hr)) (impl_OccsSame_ev _ _ (by omega) (short_map q hq) (short_map s hs))⟩

end Go.Proofs.Ytiplpckgmikmeaa.M
namespace Go.Proofs.Ytiplpckgmikmeaa.M
set_option linter.unusedVariables false
set_option linter.unusedSimpArgs false
open Go.RowKit Go.Proofs.YtiplpckgmikmeaaW.PrintWords Go.Proofs.YtiplpckgmikmeaaW.PrintLast

theorem FnExactPairSame_pure (x : S40) (h : good40 x) (y : S40) (g : good40 y) : ∃ k, laws_FnExactPairSame.f k x.f0 x.f1 y.f0 y.f1 = some true := by
  refine Ev.rounds (g := fun k => laws_FnExactPairSame.f k x.f0 x.f1 y.f0 y.f1) ?_
  unfold laws_FnExactPairSame.f
  refine Ev.bind (sz2 h.1 h.2 1048576 (by omega) (by omega)) ?_
  by_cases hs : ((allO x.f0 + allO x.f1 : Nat) : Int) ≤ 1048576
  · rw [leftOf_pos hs]
    refine Ev.neg (by omega) (Ev.bind (sz2 g.1 g.2 _ (by omega) (by omega)) ?_)
    by_cases hs2 : ((allO y.f0 + allO y.f1 : Nat) : Int) ≤ 1048576 - ((allO x.f0 + allO x.f1 : Nat) : Int)
    · rw [leftOf_pos hs2]
      refine Ev.neg (by omega) ?_
      have hp : FewO x.f0 := by unfold FewO; omega
      have hq : FewO x.f1 := by unfold FewO; omega
      have hr : FewO y.f0 := by unfold FewO; omega
      have ht : FewO y.f1 := by unfold FewO; omega
      refine Ev.bind (to2 hp hq) (Ev.bind (to2 hr ht) (Ev.bind (same2 hp hq hr ht).1 (Ev.bind (to2 hp hq) (Ev.bind (to2 hr ht) (Ev.bind (same2 hp hq hr ht).2 (Ev.neg (by simp) ?_))))))
      refine Ev.bind (to2 hp hq) (Ev.bind (eq2 hp hq) (Ev.pos rfl ?_))
      exact Ev.bind (to2 hr ht) (Ev.bindS (eq2 hr ht) rfl)
    · rw [leftOf_neg hs2]
      exact Ev.pos (by omega) (Ev.now _)
  · rw [leftOf_neg hs]
    exact Ev.pos (by omega) (Ev.now _)
end Go.Proofs.Ytiplpckgmikmeaa.M
