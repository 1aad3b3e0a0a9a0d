/- What the claim's law leans on: the program's functions, what they compute, and the law over plain values; no condition is asked. (Part 3 of 3.) -/
import Derived.Test.YtdljhokealbnnaaCLawsFnExactRulesOrder2
import Derived.Ground.Names2Prog
import Derived.Shelf.Slices.SearchI
import Derived.Ground.SlsfProg
import Derived.Shelf.SlSortCmp.Insertion
import Derived.Shelf.SlSortCmp.Insertion1
import Derived.Test.YtdljhokealbnnaaProg
import Derived.Laws.CopyRow
import Derived.Laws.CopyOwn
import Derived.Sort.LotA
namespace Go.Proofs.Ytdljhokealbnnaa.M
open Go.RowKit Go.Proofs.YtdljhokealbnnaaW.PrintWords Go.Proofs.YtdljhokealbnnaaW.PrintLast Go.Proofs.YtdljhokealbnnaaW.PrintMore
attribute [local go_sem] max2_int min2_int max_two min_two max_three min_three max_four min_four
set_option linter.unusedVariables false
set_option linter.unusedSimpArgs false

def impl_RuleOk.f (k : Nat) (a0_0 : ByteArray) (a0_1 : Int) (a0_2 : Int) (a0_3 : Int) (a0_4 : Int) (a0_5 : Int) (l0_6 : List (S37)) (a0_7 : Int) (a0_8 : Int) (a0_9 : Int) (a0_10 : Int) (a0_11 : Int) : Option (Bool) := (impl_isName.f k a0_0).bind fun t102 => (if t102 = true then ((impl_in.f a0_1 0 9).bind fun t103 => (if t103 = true then ((impl_isMode.f a0_2).bind fun t104 => (if t104 = true then ((impl_ExOk.f k a0_3 a0_4 a0_5 l0_6).bind fun t105 => (if t105 = true then ((impl_in.f a0_7 0 a0_8).bind fun t106 => (if t106 = true then (if a0_8 ≤ 100 then ((impl_in.f a0_9 0 3).bind fun t107 => (if t107 = true then ((impl_in.f a0_10 (-9) 9).bind fun t108 => (if t108 = true then ((impl_in.f a0_11 (-1) 4).bind fun t109 => (some t109)) else (some false))) else (some false))) else (some false)) else (some false))) else (some false))) else (some false))) else (some false))) else (some false))
set_option maxHeartbeats 8000000 in
set_option maxRecDepth 100000 in
theorem impl_RuleOk.calls (k : Nat) (a0_0 : ByteArray) (a0_1 : Int) (a0_2 : Int) (a0_3 : Int) (a0_4 : Int) (a0_5 : Int) (A0_6 : Option Addr) (c0_6 : Nat) (l0_6 : List (S37)) (a0_7 : Int) (a0_8 : Int) (a0_9 : Int) (a0_10 : Int) (a0_11 : Int) (r : Bool) (w : World) (hr0_6 : Kd.C k37 w A0_6 l0_6.length l0_6) (hc0_6 : l0_6.length ≤ c0_6) (h : impl_RuleOk.f k a0_0 a0_1 a0_2 a0_3 a0_4 a0_5 l0_6 a0_7 a0_8 a0_9 a0_10 a0_11 = some r) :
  Calls Try.prog 21 #[.agg #[.string a0_0, .int .i64 a0_1, .int .i64 a0_2, .int .i64 a0_3, .int .i64 a0_4, .int .i64 a0_5, .slice A0_6 l0_6.length c0_6, .int .i64 a0_7, .int .i64 a0_8, .int .i64 a0_9, .int .i64 a0_10, .int .i64 a0_11]] w fun e w' => e = .returned (.bool r) ∧ Below w.heap.size w w' := by
 have hu39 := Try.underlying39
 have hu37 := Try.underlying37
 have HR0_6 := m0_ hr0_6
 have HC0_6 := m0_ hc0_6
 clear hr0_6 hc0_6
 have HB := m0_ (Below.refl w.heap.size w)
 have H : ((impl_isName.f k a0_0).bind fun t102 => (if t102 = true then ((impl_in.f a0_1 0 9).bind fun t103 => (if t103 = true then ((impl_isMode.f a0_2).bind fun t104 => (if t104 = true then ((impl_ExOk.f k a0_3 a0_4 a0_5 l0_6).bind fun t105 => (if t105 = true then ((impl_in.f a0_7 0 a0_8).bind fun t106 => (if t106 = true then (if a0_8 ≤ 100 then ((impl_in.f a0_9 0 3).bind fun t107 => (if t107 = true then ((impl_in.f a0_10 (-9) 9).bind fun t108 => (if t108 = true then ((impl_in.f a0_11 (-1) 4).bind fun t109 => (some t109)) else (some false))) else (some false))) else (some false)) else (some false))) else (some false))) else (some false))) else (some false))) else (some false))) = some r := h
 clear h
 replace H := Option.bind_eq_some_iff.mp H
 obtain ⟨t102, A20, H⟩ := H
 replace H : (if t102 = true then ((impl_in.f a0_1 0 9).bind fun t103 => (if t103 = true then ((impl_isMode.f a0_2).bind fun t104 => (if t104 = true then ((impl_ExOk.f k a0_3 a0_4 a0_5 l0_6).bind fun t105 => (if t105 = true then ((impl_in.f a0_7 0 a0_8).bind fun t106 => (if t106 = true then (if a0_8 ≤ 100 then ((impl_in.f a0_9 0 3).bind fun t107 => (if t107 = true then ((impl_in.f a0_10 (-9) 9).bind fun t108 => (if t108 = true then ((impl_in.f a0_11 (-1) 4).bind fun t109 => (some t109)) else (some false))) else (some false))) else (some false)) else (some false))) else (some false))) else (some false))) else (some false))) else (some false)) = some r := H
 have A2 := m0_ A20
 clear A20
 by_cases c3 : t102 = true
 rotate_left
 ·replace c3 := Bool.eq_false_iff.mpr c3
  subst c3
  have H1 : (some false) = some r := by rw [if_neg (show ¬ (false = true) by decide)] at H;exact H
  clear H
  have H := H1
  clear H1
  obtain rfl := Option.some.inj H
  go_enter Try.func21, Try.ntmps21
  go_wp2_with (first | ((with_reducible refine gate_dst (N := 1) rfl ?_);refine box_event ?hg (N := 1) ?hd (cs := #[.string a0_0, .int .i64 a0_1, .int .i64 a0_2, .int .i64 a0_3, .int .i64 a0_4, .int .i64 a0_5, .slice A0_6 l0_6.length c0_6, .int .i64 a0_7, .int .i64 a0_8, .int .i64 a0_9, .int .i64 a0_10, .int .i64 a0_11]) (t := 39) ?hr ?_;(case hd => rfl);(case hg => rfl);(case hr => first | (go_simp;done) | (go_simp;rfl));intro gb101 hg w45 hbox hb;have n0_ := m0_ (below_step (by repeat (first | (with_reducible first | exact HB.out | apply below_alloc | apply pw_below_drewN | apply below_drew1) | exact HB.out)) hb);have n1_ := m0_ (hbox);have n2_ := m0_ ((by rw [hg];exact (below_size (by repeat (first | (with_reducible first | exact HB.out | apply below_alloc | apply pw_below_drewN | apply below_drew1) | exact HB.out))) : w.heap.size ≤ gb101));have n3_ := m0_ ((by rw [hg];exact (below_size (by repeat (first | (with_reducible first | exact HB.out | apply below_alloc | apply pw_below_drewN | apply below_drew1) | exact HB.out))) : w.heap.size ≤ gb101));clear HB;have HB := n0_;have BK101 := n1_;have GW101 := n2_;have GE101 := n3_;clear n0_ n1_ n2_ n3_;clear hb hbox hg;obtain ⟨hcz46_0, hcz46_1, hcz46_2, hcz46_3, hcz46_4, hcz46_5, hcz46_6, hcz46_7, hcz46_8, hcz46_9, hcz46_10, hcz46_11, hfz46_0, hfz46_1, hfz46_2, hfz46_3, hfz46_4, hfz46_5, hfz46_6, hfz46_7, hfz46_8, hfz46_9, hfz46_10, hfz46_11⟩ := bx12 BK101.out) | ((with_reducible refine gate_callee (f := 57) rfl ?_);refine goesL_ (some 5) rfl rfl Try.func57 (by kernel_rfl) rfl #[.string a0_0] rfl (by (try simp only [List.map_toArray, List.map_cons, List.map_nil]);first | done | rfl | (simp only [List.length_drop, List.length_take];rfl)) ?_;(with_reducible refine (impl_isName.calls k a0_0 false _ A2.out).mono ?_);rintro e w' ⟨rfl, ⟨nd, rfl⟩⟩;refine ⟨_, rfl, ?_⟩) | (go_at_call 57;(with_reducible refine (impl_isName.calls k a0_0 false _ A2.out).mono ?_);rintro e w' ⟨rfl, ⟨nd, rfl⟩⟩))
  go_ret
  exact ⟨by first | rfl | (simp [errW_none, errW_some] <;> rfl) | (simp [*, errW_none, errW_some] <;> rfl), by repeat (first | (with_reducible first | exact HB.out | apply below_alloc | apply pw_below_drewN | apply below_drew1 | refine below_set ?_ GE101.out) | exact HB.out)⟩
 subst c3
 have H1 : ((impl_in.f a0_1 0 9).bind fun t103 => (if t103 = true then ((impl_isMode.f a0_2).bind fun t104 => (if t104 = true then ((impl_ExOk.f k a0_3 a0_4 a0_5 l0_6).bind fun t105 => (if t105 = true then ((impl_in.f a0_7 0 a0_8).bind fun t106 => (if t106 = true then (if a0_8 ≤ 100 then ((impl_in.f a0_9 0 3).bind fun t107 => (if t107 = true then ((impl_in.f a0_10 (-9) 9).bind fun t108 => (if t108 = true then ((impl_in.f a0_11 (-1) 4).bind fun t109 => (some t109)) else (some false))) else (some false))) else (some false)) else (some false))) else (some false))) else (some false))) else (some false))) = some r := by rw [if_pos rfl] at H;exact H
 clear H
 have H := H1
 clear H1
 replace H := Option.bind_eq_some_iff.mp H
 obtain ⟨t103, A40, H⟩ := H
 replace H : (if t103 = true then ((impl_isMode.f a0_2).bind fun t104 => (if t104 = true then ((impl_ExOk.f k a0_3 a0_4 a0_5 l0_6).bind fun t105 => (if t105 = true then ((impl_in.f a0_7 0 a0_8).bind fun t106 => (if t106 = true then (if a0_8 ≤ 100 then ((impl_in.f a0_9 0 3).bind fun t107 => (if t107 = true then ((impl_in.f a0_10 (-9) 9).bind fun t108 => (if t108 = true then ((impl_in.f a0_11 (-1) 4).bind fun t109 => (some t109)) else (some false))) else (some false))) else (some false)) else (some false))) else (some false))) else (some false))) else (some false)) = some r := H
 have A4 := m0_ A40
 clear A40
 by_cases c5 : t103 = true
 rotate_left
 ·replace c5 := Bool.eq_false_iff.mpr c5
  subst c5
  have H1 : (some false) = some r := by rw [if_neg (show ¬ (false = true) by decide)] at H;exact H
  clear H
  have H := H1
  clear H1
  obtain rfl := Option.some.inj H
  go_enter Try.func21, Try.ntmps21
  go_wp2_with (first | ((with_reducible refine gate_dst (N := 1) rfl ?_);refine box_event ?hg (N := 1) ?hd (cs := #[.string a0_0, .int .i64 a0_1, .int .i64 a0_2, .int .i64 a0_3, .int .i64 a0_4, .int .i64 a0_5, .slice A0_6 l0_6.length c0_6, .int .i64 a0_7, .int .i64 a0_8, .int .i64 a0_9, .int .i64 a0_10, .int .i64 a0_11]) (t := 39) ?hr ?_;(case hd => rfl);(case hg => rfl);(case hr => first | (go_simp;done) | (go_simp;rfl));intro gb101 hg w43 hbox hb;have n0_ := m0_ (below_step (by repeat (first | (with_reducible first | exact HB.out | apply below_alloc | apply pw_below_drewN | apply below_drew1) | exact HB.out)) hb);have n1_ := m0_ (hbox);have n2_ := m0_ ((by rw [hg];exact (below_size (by repeat (first | (with_reducible first | exact HB.out | apply below_alloc | apply pw_below_drewN | apply below_drew1) | exact HB.out))) : w.heap.size ≤ gb101));have n3_ := m0_ ((by rw [hg];exact (below_size (by repeat (first | (with_reducible first | exact HB.out | apply below_alloc | apply pw_below_drewN | apply below_drew1) | exact HB.out))) : w.heap.size ≤ gb101));clear HB;have HB := n0_;have BK101 := n1_;have GW101 := n2_;have GE101 := n3_;clear n0_ n1_ n2_ n3_;clear hb hbox hg;obtain ⟨hcz44_0, hcz44_1, hcz44_2, hcz44_3, hcz44_4, hcz44_5, hcz44_6, hcz44_7, hcz44_8, hcz44_9, hcz44_10, hcz44_11, hfz44_0, hfz44_1, hfz44_2, hfz44_3, hfz44_4, hfz44_5, hfz44_6, hfz44_7, hfz44_8, hfz44_9, hfz44_10, hfz44_11⟩ := bx12 BK101.out) | ((with_reducible refine gate_callee (f := 57) rfl ?_);refine goesL_ (some 5) rfl rfl Try.func57 (by kernel_rfl) rfl #[.string a0_0] rfl (by (try simp only [List.map_toArray, List.map_cons, List.map_nil]);first | done | rfl | (simp only [List.length_drop, List.length_take];rfl)) ?_;(with_reducible refine (impl_isName.calls k a0_0 true _ A2.out).mono ?_);rintro e w' ⟨rfl, ⟨nd, rfl⟩⟩;refine ⟨_, rfl, ?_⟩) | (go_at_call 57;(with_reducible refine (impl_isName.calls k a0_0 true _ A2.out).mono ?_);rintro e w' ⟨rfl, ⟨nd, rfl⟩⟩) | (go_at_call 58;(with_reducible refine (impl_in.calls a0_1 0 9 false _ A4.out).mono ?_);rintro e w' ⟨rfl, ⟨nd, rfl⟩⟩))
  go_ret
  exact ⟨by first | rfl | (simp [errW_none, errW_some] <;> rfl) | (simp [*, errW_none, errW_some] <;> rfl), by repeat (first | (with_reducible first | exact HB.out | apply below_alloc | apply pw_below_drewN | apply below_drew1 | refine below_set ?_ GE101.out) | exact HB.out)⟩
 subst c5
 have H1 : ((impl_isMode.f a0_2).bind fun t104 => (if t104 = true then ((impl_ExOk.f k a0_3 a0_4 a0_5 l0_6).bind fun t105 => (if t105 = true then ((impl_in.f a0_7 0 a0_8).bind fun t106 => (if t106 = true then (if a0_8 ≤ 100 then ((impl_in.f a0_9 0 3).bind fun t107 => (if t107 = true then ((impl_in.f a0_10 (-9) 9).bind fun t108 => (if t108 = true then ((impl_in.f a0_11 (-1) 4).bind fun t109 => (some t109)) else (some false))) else (some false))) else (some false)) else (some false))) else (some false))) else (some false))) = some r := by rw [if_pos rfl] at H;exact H
 clear H
 have H := H1
 clear H1
 replace H := Option.bind_eq_some_iff.mp H
 obtain ⟨t104, A60, H⟩ := H
 replace H : (if t104 = true then ((impl_ExOk.f k a0_3 a0_4 a0_5 l0_6).bind fun t105 => (if t105 = true then ((impl_in.f a0_7 0 a0_8).bind fun t106 => (if t106 = true then (if a0_8 ≤ 100 then ((impl_in.f a0_9 0 3).bind fun t107 => (if t107 = true then ((impl_in.f a0_10 (-9) 9).bind fun t108 => (if t108 = true then ((impl_in.f a0_11 (-1) 4).bind fun t109 => (some t109)) else (some false))) else (some false))) else (some false)) else (some false))) else (some false))) else (some false)) = some r := H
 have A6 := m0_ A60
 clear A60
 by_cases c7 : t104 = true
 rotate_left
 ·replace c7 := Bool.eq_false_iff.mpr c7
  subst c7
  have H1 : (some false) = some r := by rw [if_neg (show ¬ (false = true) by decide)] at H;exact H
  clear H
  have H := H1
  clear H1
  obtain rfl := Option.some.inj H
  go_enter Try.func21, Try.ntmps21
  go_wp2_with (first | ((with_reducible refine gate_dst (N := 1) rfl ?_);refine box_event ?hg (N := 1) ?hd (cs := #[.string a0_0, .int .i64 a0_1, .int .i64 a0_2, .int .i64 a0_3, .int .i64 a0_4, .int .i64 a0_5, .slice A0_6 l0_6.length c0_6, .int .i64 a0_7, .int .i64 a0_8, .int .i64 a0_9, .int .i64 a0_10, .int .i64 a0_11]) (t := 39) ?hr ?_;(case hd => rfl);(case hg => rfl);(case hr => first | (go_simp;done) | (go_simp;rfl));intro gb101 hg w41 hbox hb;have n0_ := m0_ (below_step (by repeat (first | (with_reducible first | exact HB.out | apply below_alloc | apply pw_below_drewN | apply below_drew1) | exact HB.out)) hb);have n1_ := m0_ (hbox);have n2_ := m0_ ((by rw [hg];exact (below_size (by repeat (first | (with_reducible first | exact HB.out | apply below_alloc | apply pw_below_drewN | apply below_drew1) | exact HB.out))) : w.heap.size ≤ gb101));have n3_ := m0_ ((by rw [hg];exact (below_size (by repeat (first | (with_reducible first | exact HB.out | apply below_alloc | apply pw_below_drewN | apply below_drew1) | exact HB.out))) : w.heap.size ≤ gb101));clear HB;have HB := n0_;have BK101 := n1_;have GW101 := n2_;have GE101 := n3_;clear n0_ n1_ n2_ n3_;clear hb hbox hg;obtain ⟨hcz42_0, hcz42_1, hcz42_2, hcz42_3, hcz42_4, hcz42_5, hcz42_6, hcz42_7, hcz42_8, hcz42_9, hcz42_10, hcz42_11, hfz42_0, hfz42_1, hfz42_2, hfz42_3, hfz42_4, hfz42_5, hfz42_6, hfz42_7, hfz42_8, hfz42_9, hfz42_10, hfz42_11⟩ := bx12 BK101.out) | ((with_reducible refine gate_callee (f := 57) rfl ?_);refine goesL_ (some 5) rfl rfl Try.func57 (by kernel_rfl) rfl #[.string a0_0] rfl (by (try simp only [List.map_toArray, List.map_cons, List.map_nil]);first | done | rfl | (simp only [List.length_drop, List.length_take];rfl)) ?_;(with_reducible refine (impl_isName.calls k a0_0 true _ A2.out).mono ?_);rintro e w' ⟨rfl, ⟨nd, rfl⟩⟩;refine ⟨_, rfl, ?_⟩) | (go_at_call 57;(with_reducible refine (impl_isName.calls k a0_0 true _ A2.out).mono ?_);rintro e w' ⟨rfl, ⟨nd, rfl⟩⟩) | (go_at_call 58;(with_reducible refine (impl_in.calls a0_1 0 9 true _ A4.out).mono ?_);rintro e w' ⟨rfl, ⟨nd, rfl⟩⟩) | (go_at_call 59;(with_reducible refine (impl_isMode.calls a0_2 false _ A6.out).mono ?_);rintro e w' ⟨rfl, ⟨nd, rfl⟩⟩))
  go_ret
  exact ⟨by first | rfl | (simp [errW_none, errW_some] <;> rfl) | (simp [*, errW_none, errW_some] <;> rfl), by repeat (first | (with_reducible first | exact HB.out | apply below_alloc | apply pw_below_drewN | apply below_drew1 | refine below_set ?_ GE101.out) | exact HB.out)⟩
 subst c7
 have H1 : ((impl_ExOk.f k a0_3 a0_4 a0_5 l0_6).bind fun t105 => (if t105 = true then ((impl_in.f a0_7 0 a0_8).bind fun t106 => (if t106 = true then (if a0_8 ≤ 100 then ((impl_in.f a0_9 0 3).bind fun t107 => (if t107 = true then ((impl_in.f a0_10 (-9) 9).bind fun t108 => (if t108 = true then ((impl_in.f a0_11 (-1) 4).bind fun t109 => (some t109)) else (some false))) else (some false))) else (some false)) else (some false))) else (some false))) = some r := by rw [if_pos rfl] at H;exact H
 clear H
 have H := H1
 clear H1
 replace H := Option.bind_eq_some_iff.mp H
 obtain ⟨t105, A80, H⟩ := H
 replace H : (if t105 = true then ((impl_in.f a0_7 0 a0_8).bind fun t106 => (if t106 = true then (if a0_8 ≤ 100 then ((impl_in.f a0_9 0 3).bind fun t107 => (if t107 = true then ((impl_in.f a0_10 (-9) 9).bind fun t108 => (if t108 = true then ((impl_in.f a0_11 (-1) 4).bind fun t109 => (some t109)) else (some false))) else (some false))) else (some false)) else (some false))) else (some false)) = some r := H
 have A8 := m0_ A80
 clear A80
 by_cases c9 : t105 = true
 rotate_left
 ·replace c9 := Bool.eq_false_iff.mpr c9
  subst c9
  have H1 : (some false) = some r := by rw [if_neg (show ¬ (false = true) by decide)] at H;exact H
  clear H
  have H := H1
  clear H1
  obtain rfl := Option.some.inj H
  go_enter Try.func21, Try.ntmps21
  go_wp2_with (first | ((with_reducible refine gate_dst (N := 1) rfl ?_);refine box_event ?hg (N := 1) ?hd (cs := #[.string a0_0, .int .i64 a0_1, .int .i64 a0_2, .int .i64 a0_3, .int .i64 a0_4, .int .i64 a0_5, .slice A0_6 l0_6.length c0_6, .int .i64 a0_7, .int .i64 a0_8, .int .i64 a0_9, .int .i64 a0_10, .int .i64 a0_11]) (t := 39) ?hr ?_;(case hd => rfl);(case hg => rfl);(case hr => first | (go_simp;done) | (go_simp;rfl));intro gb101 hg w38 hbox hb;have n0_ := m0_ (below_step (by repeat (first | (with_reducible first | exact HB.out | apply below_alloc | apply pw_below_drewN | apply below_drew1) | exact HB.out)) hb);have n1_ := m0_ (hbox);have n2_ := m0_ ((by rw [hg];exact (below_size (by repeat (first | (with_reducible first | exact HB.out | apply below_alloc | apply pw_below_drewN | apply below_drew1) | exact HB.out))) : w.heap.size ≤ gb101));have n3_ := m0_ ((by rw [hg];exact (below_size (by repeat (first | (with_reducible first | exact HB.out | apply below_alloc | apply pw_below_drewN | apply below_drew1) | exact HB.out))) : w.heap.size ≤ gb101));clear HB;have HB := n0_;have BK101 := n1_;have GW101 := n2_;have GE101 := n3_;clear n0_ n1_ n2_ n3_;clear hb hbox hg;obtain ⟨hcz39_0, hcz39_1, hcz39_2, hcz39_3, hcz39_4, hcz39_5, hcz39_6, hcz39_7, hcz39_8, hcz39_9, hcz39_10, hcz39_11, hfz39_0, hfz39_1, hfz39_2, hfz39_3, hfz39_4, hfz39_5, hfz39_6, hfz39_7, hfz39_8, hfz39_9, hfz39_10, hfz39_11⟩ := bx12 BK101.out) | ((with_reducible refine gate_callee (f := 57) rfl ?_);refine goesL_ (some 5) rfl rfl Try.func57 (by kernel_rfl) rfl #[.string a0_0] rfl (by (try simp only [List.map_toArray, List.map_cons, List.map_nil]);first | done | rfl | (simp only [List.length_drop, List.length_take];rfl)) ?_;(with_reducible refine (impl_isName.calls k a0_0 true _ A2.out).mono ?_);rintro e w' ⟨rfl, ⟨nd, rfl⟩⟩;refine ⟨_, rfl, ?_⟩) | (go_at_call 57;(with_reducible refine (impl_isName.calls k a0_0 true _ A2.out).mono ?_);rintro e w' ⟨rfl, ⟨nd, rfl⟩⟩) | (go_at_call 58;(with_reducible refine (impl_in.calls a0_1 0 9 true _ A4.out).mono ?_);rintro e w' ⟨rfl, ⟨nd, rfl⟩⟩) | (go_at_call 59;(with_reducible refine (impl_isMode.calls a0_2 true _ A6.out).mono ?_);rintro e w' ⟨rfl, ⟨nd, rfl⟩⟩) | (go_at_call 60;(with_reducible refine (impl_ExOk.calls k a0_3 a0_4 a0_5 _ _ l0_6 false _ ?side1 ?side2 A8.out).mono ?_);(case side1 => repeat (first | exact (Kd.C_below HR0_6.out (by repeat (first | (with_reducible first | exact HB.out | apply below_alloc | apply pw_below_drewN | apply below_drew1 | refine below_set ?_ GE101.out) | exact HB.out))) | (with_reducible refine Kd.C_alloc ?_ _) | (with_reducible refine Kd.C_drewN ?_ _) | (with_reducible refine Kd.C_drew ?_)));(case side2 => exact HC0_6.out);rintro e w40 ⟨rfl, hb⟩;have n0_ := m0_ (blk_below (g := gb101) (o := .cells #[.string a0_0, .int .i64 a0_1, .int .i64 a0_2, .int .i64 a0_3, .int .i64 a0_4, .int .i64 a0_5, .slice A0_6 l0_6.length c0_6, .int .i64 a0_7, .int .i64 a0_8, .int .i64 a0_9, .int .i64 a0_10, .int .i64 a0_11] 39 (0, 0)) (by (with_reducible repeat (first | refine blk_drewN ?_ _ | refine blk_drew ?_ | refine blk_alloc ?_ _));exact BK101.out) hb);have n1_ := m0_ (below_step (by repeat (first | (with_reducible first | exact HB.out | apply below_alloc | apply pw_below_drewN | apply below_drew1 | refine below_set ?_ GE101.out) | exact HB.out)) hb);clear BK101;clear HB;have BK101 := n0_;have HB := n1_;clear n0_ n1_;(try clear hb);(try clear hb2);(try clear hk);(try clear hi)))
  go_ret
  exact ⟨by first | rfl | (simp [errW_none, errW_some] <;> rfl) | (simp [*, errW_none, errW_some] <;> rfl), by repeat (first | (with_reducible first | exact HB.out | apply below_alloc | apply pw_below_drewN | apply below_drew1 | refine below_set ?_ GE101.out) | exact HB.out)⟩
 subst c9
 have H1 : ((impl_in.f a0_7 0 a0_8).bind fun t106 => (if t106 = true then (if a0_8 ≤ 100 then ((impl_in.f a0_9 0 3).bind fun t107 => (if t107 = true then ((impl_in.f a0_10 (-9) 9).bind fun t108 => (if t108 = true then ((impl_in.f a0_11 (-1) 4).bind fun t109 => (some t109)) else (some false))) else (some false))) else (some false)) else (some false))) = some r := by rw [if_pos rfl] at H;exact H
 clear H
 have H := H1
 clear H1
 replace H := Option.bind_eq_some_iff.mp H
 obtain ⟨t106, A100, H⟩ := H
 replace H : (if t106 = true then (if a0_8 ≤ 100 then ((impl_in.f a0_9 0 3).bind fun t107 => (if t107 = true then ((impl_in.f a0_10 (-9) 9).bind fun t108 => (if t108 = true then ((impl_in.f a0_11 (-1) 4).bind fun t109 => (some t109)) else (some false))) else (some false))) else (some false)) else (some false)) = some r := H
 have A10 := m0_ A100
 clear A100
 by_cases c11 : t106 = true
 rotate_left
 ·replace c11 := Bool.eq_false_iff.mpr c11
  subst c11
  have H1 : (some false) = some r := by rw [if_neg (show ¬ (false = true) by decide)] at H;exact H
  clear H
  have H := H1
  clear H1
  obtain rfl := Option.some.inj H
  go_enter Try.func21, Try.ntmps21
  go_wp2_with (first | ((with_reducible refine gate_dst (N := 1) rfl ?_);refine box_event ?hg (N := 1) ?hd (cs := #[.string a0_0, .int .i64 a0_1, .int .i64 a0_2, .int .i64 a0_3, .int .i64 a0_4, .int .i64 a0_5, .slice A0_6 l0_6.length c0_6, .int .i64 a0_7, .int .i64 a0_8, .int .i64 a0_9, .int .i64 a0_10, .int .i64 a0_11]) (t := 39) ?hr ?_;(case hd => rfl);(case hg => rfl);(case hr => first | (go_simp;done) | (go_simp;rfl));intro gb101 hg w34 hbox hb;have n0_ := m0_ (below_step (by repeat (first | (with_reducible first | exact HB.out | apply below_alloc | apply pw_below_drewN | apply below_drew1) | exact HB.out)) hb);have n1_ := m0_ (hbox);have n2_ := m0_ ((by rw [hg];exact (below_size (by repeat (first | (with_reducible first | exact HB.out | apply below_alloc | apply pw_below_drewN | apply below_drew1) | exact HB.out))) : w.heap.size ≤ gb101));have n3_ := m0_ ((by rw [hg];exact (below_size (by repeat (first | (with_reducible first | exact HB.out | apply below_alloc | apply pw_below_drewN | apply below_drew1) | exact HB.out))) : w.heap.size ≤ gb101));clear HB;have HB := n0_;have BK101 := n1_;have GW101 := n2_;have GE101 := n3_;clear n0_ n1_ n2_ n3_;clear hb hbox hg;obtain ⟨hcz35_0, hcz35_1, hcz35_2, hcz35_3, hcz35_4, hcz35_5, hcz35_6, hcz35_7, hcz35_8, hcz35_9, hcz35_10, hcz35_11, hfz35_0, hfz35_1, hfz35_2, hfz35_3, hfz35_4, hfz35_5, hfz35_6, hfz35_7, hfz35_8, hfz35_9, hfz35_10, hfz35_11⟩ := bx12 BK101.out) | ((with_reducible refine gate_callee (f := 57) rfl ?_);refine goesL_ (some 5) rfl rfl Try.func57 (by kernel_rfl) rfl #[.string a0_0] rfl (by (try simp only [List.map_toArray, List.map_cons, List.map_nil]);first | done | rfl | (simp only [List.length_drop, List.length_take];rfl)) ?_;(with_reducible refine (impl_isName.calls k a0_0 true _ A2.out).mono ?_);rintro e w' ⟨rfl, ⟨nd, rfl⟩⟩;refine ⟨_, rfl, ?_⟩) | (go_at_call 57;(with_reducible refine (impl_isName.calls k a0_0 true _ A2.out).mono ?_);rintro e w' ⟨rfl, ⟨nd, rfl⟩⟩) | (go_at_call 58;(with_reducible refine (impl_in.calls a0_1 0 9 true _ A4.out).mono ?_);rintro e w' ⟨rfl, ⟨nd, rfl⟩⟩) | (go_at_call 59;(with_reducible refine (impl_isMode.calls a0_2 true _ A6.out).mono ?_);rintro e w' ⟨rfl, ⟨nd, rfl⟩⟩) | (go_at_call 60;(with_reducible refine (impl_ExOk.calls k a0_3 a0_4 a0_5 _ _ l0_6 true _ ?side1 ?side2 A8.out).mono ?_);(case side1 => repeat (first | exact (Kd.C_below HR0_6.out (by repeat (first | (with_reducible first | exact HB.out | apply below_alloc | apply pw_below_drewN | apply below_drew1 | refine below_set ?_ GE101.out) | exact HB.out))) | (with_reducible refine Kd.C_alloc ?_ _) | (with_reducible refine Kd.C_drewN ?_ _) | (with_reducible refine Kd.C_drew ?_)));(case side2 => exact HC0_6.out);rintro e w36 ⟨rfl, hb⟩;have n0_ := m0_ (blk_below (g := gb101) (o := .cells #[.string a0_0, .int .i64 a0_1, .int .i64 a0_2, .int .i64 a0_3, .int .i64 a0_4, .int .i64 a0_5, .slice A0_6 l0_6.length c0_6, .int .i64 a0_7, .int .i64 a0_8, .int .i64 a0_9, .int .i64 a0_10, .int .i64 a0_11] 39 (0, 0)) (by (with_reducible repeat (first | refine blk_drewN ?_ _ | refine blk_drew ?_ | refine blk_alloc ?_ _));exact BK101.out) hb);have n1_ := m0_ (below_step (by repeat (first | (with_reducible first | exact HB.out | apply below_alloc | apply pw_below_drewN | apply below_drew1 | refine below_set ?_ GE101.out) | exact HB.out)) hb);clear BK101;clear HB;have BK101 := n0_;have HB := n1_;clear n0_ n1_;(try clear hb);(try clear hb2);(try clear hk);(try clear hi);obtain ⟨hcz37_0, hcz37_1, hcz37_2, hcz37_3, hcz37_4, hcz37_5, hcz37_6, hcz37_7, hcz37_8, hcz37_9, hcz37_10, hcz37_11, hfz37_0, hfz37_1, hfz37_2, hfz37_3, hfz37_4, hfz37_5, hfz37_6, hfz37_7, hfz37_8, hfz37_9, hfz37_10, hfz37_11⟩ := bx12 BK101.out) | (go_at_call 58;(with_reducible refine (impl_in.calls a0_7 0 a0_8 false _ A10.out).mono ?_);rintro e w' ⟨rfl, ⟨nd, rfl⟩⟩))
  go_ret
  exact ⟨by first | rfl | (simp [errW_none, errW_some] <;> rfl) | (simp [*, errW_none, errW_some] <;> rfl), by repeat (first | (with_reducible first | exact HB.out | apply below_alloc | apply pw_below_drewN | apply below_drew1 | refine below_set ?_ GE101.out) | exact HB.out)⟩
 subst c11
 have H1 : (if a0_8 ≤ 100 then ((impl_in.f a0_9 0 3).bind fun t107 => (if t107 = true then ((impl_in.f a0_10 (-9) 9).bind fun t108 => (if t108 = true then ((impl_in.f a0_11 (-1) 4).bind fun t109 => (some t109)) else (some false))) else (some false))) else (some false)) = some r := by rw [if_pos rfl] at H;exact H
 clear H
 have H := H1
 clear H1
 by_cases c12 : a0_8 ≤ 100
 rotate_left
 ·rw [if_neg c12] at H
  have c12b0 : decide (a0_8 ≤ 100) = false := decide_eq_false c12
  clear c12
  obtain rfl := Option.some.inj H
  go_enter Try.func21, Try.ntmps21
  go_wp2_with (first | ((with_reducible refine gate_dst (N := 1) rfl ?_);refine box_event ?hg (N := 1) ?hd (cs := #[.string a0_0, .int .i64 a0_1, .int .i64 a0_2, .int .i64 a0_3, .int .i64 a0_4, .int .i64 a0_5, .slice A0_6 l0_6.length c0_6, .int .i64 a0_7, .int .i64 a0_8, .int .i64 a0_9, .int .i64 a0_10, .int .i64 a0_11]) (t := 39) ?hr ?_;(case hd => rfl);(case hg => rfl);(case hr => first | (go_simp;done) | (go_simp;rfl));intro gb101 hg w30 hbox hb;have n0_ := m0_ (below_step (by repeat (first | (with_reducible first | exact HB.out | apply below_alloc | apply pw_below_drewN | apply below_drew1) | exact HB.out)) hb);have n1_ := m0_ (hbox);have n2_ := m0_ ((by rw [hg];exact (below_size (by repeat (first | (with_reducible first | exact HB.out | apply below_alloc | apply pw_below_drewN | apply below_drew1) | exact HB.out))) : w.heap.size ≤ gb101));have n3_ := m0_ ((by rw [hg];exact (below_size (by repeat (first | (with_reducible first | exact HB.out | apply below_alloc | apply pw_below_drewN | apply below_drew1) | exact HB.out))) : w.heap.size ≤ gb101));clear HB;have HB := n0_;have BK101 := n1_;have GW101 := n2_;have GE101 := n3_;clear n0_ n1_ n2_ n3_;clear hb hbox hg;obtain ⟨hcz31_0, hcz31_1, hcz31_2, hcz31_3, hcz31_4, hcz31_5, hcz31_6, hcz31_7, hcz31_8, hcz31_9, hcz31_10, hcz31_11, hfz31_0, hfz31_1, hfz31_2, hfz31_3, hfz31_4, hfz31_5, hfz31_6, hfz31_7, hfz31_8, hfz31_9, hfz31_10, hfz31_11⟩ := bx12 BK101.out) | ((with_reducible refine gate_callee (f := 57) rfl ?_);refine goesL_ (some 5) rfl rfl Try.func57 (by kernel_rfl) rfl #[.string a0_0] rfl (by (try simp only [List.map_toArray, List.map_cons, List.map_nil]);first | done | rfl | (simp only [List.length_drop, List.length_take];rfl)) ?_;(with_reducible refine (impl_isName.calls k a0_0 true _ A2.out).mono ?_);rintro e w' ⟨rfl, ⟨nd, rfl⟩⟩;refine ⟨_, rfl, ?_⟩) | (go_at_call 57;(with_reducible refine (impl_isName.calls k a0_0 true _ A2.out).mono ?_);rintro e w' ⟨rfl, ⟨nd, rfl⟩⟩) | (go_at_call 58;(with_reducible refine (impl_in.calls a0_1 0 9 true _ A4.out).mono ?_);rintro e w' ⟨rfl, ⟨nd, rfl⟩⟩) | (go_at_call 59;(with_reducible refine (impl_isMode.calls a0_2 true _ A6.out).mono ?_);rintro e w' ⟨rfl, ⟨nd, rfl⟩⟩) | (go_at_call 60;(with_reducible refine (impl_ExOk.calls k a0_3 a0_4 a0_5 _ _ l0_6 true _ ?side1 ?side2 A8.out).mono ?_);(case side1 => repeat (first | exact (Kd.C_below HR0_6.out (by repeat (first | (with_reducible first | exact HB.out | apply below_alloc | apply pw_below_drewN | apply below_drew1 | refine below_set ?_ GE101.out) | exact HB.out))) | (with_reducible refine Kd.C_alloc ?_ _) | (with_reducible refine Kd.C_drewN ?_ _) | (with_reducible refine Kd.C_drew ?_)));(case side2 => exact HC0_6.out);rintro e w32 ⟨rfl, hb⟩;have n0_ := m0_ (blk_below (g := gb101) (o := .cells #[.string a0_0, .int .i64 a0_1, .int .i64 a0_2, .int .i64 a0_3, .int .i64 a0_4, .int .i64 a0_5, .slice A0_6 l0_6.length c0_6, .int .i64 a0_7, .int .i64 a0_8, .int .i64 a0_9, .int .i64 a0_10, .int .i64 a0_11] 39 (0, 0)) (by (with_reducible repeat (first | refine blk_drewN ?_ _ | refine blk_drew ?_ | refine blk_alloc ?_ _));exact BK101.out) hb);have n1_ := m0_ (below_step (by repeat (first | (with_reducible first | exact HB.out | apply below_alloc | apply pw_below_drewN | apply below_drew1 | refine below_set ?_ GE101.out) | exact HB.out)) hb);clear BK101;clear HB;have BK101 := n0_;have HB := n1_;clear n0_ n1_;(try clear hb);(try clear hb2);(try clear hk);(try clear hi);obtain ⟨hcz33_0, hcz33_1, hcz33_2, hcz33_3, hcz33_4, hcz33_5, hcz33_6, hcz33_7, hcz33_8, hcz33_9, hcz33_10, hcz33_11, hfz33_0, hfz33_1, hfz33_2, hfz33_3, hfz33_4, hfz33_5, hfz33_6, hfz33_7, hfz33_8, hfz33_9, hfz33_10, hfz33_11⟩ := bx12 BK101.out) | (go_at_call 58;(with_reducible refine (impl_in.calls a0_7 0 a0_8 true _ A10.out).mono ?_);rintro e w' ⟨rfl, ⟨nd, rfl⟩⟩))
  go_ret
  exact ⟨by first | rfl | (simp [errW_none, errW_some] <;> rfl) | (simp [*, errW_none, errW_some] <;> rfl), by repeat (first | (with_reducible first | exact HB.out | apply below_alloc | apply pw_below_drewN | apply below_drew1 | refine below_set ?_ GE101.out) | exact HB.out)⟩
 rw [if_pos c12] at H
 have c12b0 : decide (a0_8 ≤ 100) = true := decide_eq_true c12
 clear c12
 replace H := Option.bind_eq_some_iff.mp H
 obtain ⟨t107, A130, H⟩ := H
 replace H : (if t107 = true then ((impl_in.f a0_10 (-9) 9).bind fun t108 => (if t108 = true then ((impl_in.f a0_11 (-1) 4).bind fun t109 => (some t109)) else (some false))) else (some false)) = some r := H
 have A13 := m0_ A130
 clear A130
 by_cases c14 : t107 = true
 rotate_left
 ·replace c14 := Bool.eq_false_iff.mpr c14
  subst c14
  have H1 : (some false) = some r := by rw [if_neg (show ¬ (false = true) by decide)] at H;exact H
  clear H
  have H := H1
  clear H1
  obtain rfl := Option.some.inj H
  go_enter Try.func21, Try.ntmps21
  go_wp2_with (first | ((with_reducible refine gate_dst (N := 1) rfl ?_);refine box_event ?hg (N := 1) ?hd (cs := #[.string a0_0, .int .i64 a0_1, .int .i64 a0_2, .int .i64 a0_3, .int .i64 a0_4, .int .i64 a0_5, .slice A0_6 l0_6.length c0_6, .int .i64 a0_7, .int .i64 a0_8, .int .i64 a0_9, .int .i64 a0_10, .int .i64 a0_11]) (t := 39) ?hr ?_;(case hd => rfl);(case hg => rfl);(case hr => first | (go_simp;done) | (go_simp;rfl));intro gb101 hg w26 hbox hb;have n0_ := m0_ (below_step (by repeat (first | (with_reducible first | exact HB.out | apply below_alloc | apply pw_below_drewN | apply below_drew1) | exact HB.out)) hb);have n1_ := m0_ (hbox);have n2_ := m0_ ((by rw [hg];exact (below_size (by repeat (first | (with_reducible first | exact HB.out | apply below_alloc | apply pw_below_drewN | apply below_drew1) | exact HB.out))) : w.heap.size ≤ gb101));have n3_ := m0_ ((by rw [hg];exact (below_size (by repeat (first | (with_reducible first | exact HB.out | apply below_alloc | apply pw_below_drewN | apply below_drew1) | exact HB.out))) : w.heap.size ≤ gb101));clear HB;have HB := n0_;have BK101 := n1_;have GW101 := n2_;have GE101 := n3_;clear n0_ n1_ n2_ n3_;clear hb hbox hg;obtain ⟨hcz27_0, hcz27_1, hcz27_2, hcz27_3, hcz27_4, hcz27_5, hcz27_6, hcz27_7, hcz27_8, hcz27_9, hcz27_10, hcz27_11, hfz27_0, hfz27_1, hfz27_2, hfz27_3, hfz27_4, hfz27_5, hfz27_6, hfz27_7, hfz27_8, hfz27_9, hfz27_10, hfz27_11⟩ := bx12 BK101.out) | ((with_reducible refine gate_callee (f := 57) rfl ?_);refine goesL_ (some 5) rfl rfl Try.func57 (by kernel_rfl) rfl #[.string a0_0] rfl (by (try simp only [List.map_toArray, List.map_cons, List.map_nil]);first | done | rfl | (simp only [List.length_drop, List.length_take];rfl)) ?_;(with_reducible refine (impl_isName.calls k a0_0 true _ A2.out).mono ?_);rintro e w' ⟨rfl, ⟨nd, rfl⟩⟩;refine ⟨_, rfl, ?_⟩) | (go_at_call 57;(with_reducible refine (impl_isName.calls k a0_0 true _ A2.out).mono ?_);rintro e w' ⟨rfl, ⟨nd, rfl⟩⟩) | (go_at_call 58;(with_reducible refine (impl_in.calls a0_1 0 9 true _ A4.out).mono ?_);rintro e w' ⟨rfl, ⟨nd, rfl⟩⟩) | (go_at_call 59;(with_reducible refine (impl_isMode.calls a0_2 true _ A6.out).mono ?_);rintro e w' ⟨rfl, ⟨nd, rfl⟩⟩) | (go_at_call 60;(with_reducible refine (impl_ExOk.calls k a0_3 a0_4 a0_5 _ _ l0_6 true _ ?side1 ?side2 A8.out).mono ?_);(case side1 => repeat (first | exact (Kd.C_below HR0_6.out (by repeat (first | (with_reducible first | exact HB.out | apply below_alloc | apply pw_below_drewN | apply below_drew1 | refine below_set ?_ GE101.out) | exact HB.out))) | (with_reducible refine Kd.C_alloc ?_ _) | (with_reducible refine Kd.C_drewN ?_ _) | (with_reducible refine Kd.C_drew ?_)));(case side2 => exact HC0_6.out);rintro e w28 ⟨rfl, hb⟩;have n0_ := m0_ (blk_below (g := gb101) (o := .cells #[.string a0_0, .int .i64 a0_1, .int .i64 a0_2, .int .i64 a0_3, .int .i64 a0_4, .int .i64 a0_5, .slice A0_6 l0_6.length c0_6, .int .i64 a0_7, .int .i64 a0_8, .int .i64 a0_9, .int .i64 a0_10, .int .i64 a0_11] 39 (0, 0)) (by (with_reducible repeat (first | refine blk_drewN ?_ _ | refine blk_drew ?_ | refine blk_alloc ?_ _));exact BK101.out) hb);have n1_ := m0_ (below_step (by repeat (first | (with_reducible first | exact HB.out | apply below_alloc | apply pw_below_drewN | apply below_drew1 | refine below_set ?_ GE101.out) | exact HB.out)) hb);clear BK101;clear HB;have BK101 := n0_;have HB := n1_;clear n0_ n1_;(try clear hb);(try clear hb2);(try clear hk);(try clear hi);obtain ⟨hcz29_0, hcz29_1, hcz29_2, hcz29_3, hcz29_4, hcz29_5, hcz29_6, hcz29_7, hcz29_8, hcz29_9, hcz29_10, hcz29_11, hfz29_0, hfz29_1, hfz29_2, hfz29_3, hfz29_4, hfz29_5, hfz29_6, hfz29_7, hfz29_8, hfz29_9, hfz29_10, hfz29_11⟩ := bx12 BK101.out) | (go_at_call 58;(with_reducible refine (impl_in.calls a0_7 0 a0_8 true _ A10.out).mono ?_);rintro e w' ⟨rfl, ⟨nd, rfl⟩⟩) | (go_at_call 58;(with_reducible refine (impl_in.calls a0_9 0 3 false _ A13.out).mono ?_);rintro e w' ⟨rfl, ⟨nd, rfl⟩⟩))
  go_ret
  exact ⟨by first | rfl | (simp [errW_none, errW_some] <;> rfl) | (simp [*, errW_none, errW_some] <;> rfl), by repeat (first | (with_reducible first | exact HB.out | apply below_alloc | apply pw_below_drewN | apply below_drew1 | refine below_set ?_ GE101.out) | exact HB.out)⟩
 subst c14
 have H1 : ((impl_in.f a0_10 (-9) 9).bind fun t108 => (if t108 = true then ((impl_in.f a0_11 (-1) 4).bind fun t109 => (some t109)) else (some false))) = some r := by rw [if_pos rfl] at H;exact H
 clear H
 have H := H1
 clear H1
 replace H := Option.bind_eq_some_iff.mp H
 obtain ⟨t108, A150, H⟩ := H
 replace H : (if t108 = true then ((impl_in.f a0_11 (-1) 4).bind fun t109 => (some t109)) else (some false)) = some r := H
 have A15 := m0_ A150
 clear A150
 by_cases c16 : t108 = true
 rotate_left
 ·replace c16 := Bool.eq_false_iff.mpr c16
  subst c16
  have H1 : (some false) = some r := by rw [if_neg (show ¬ (false = true) by decide)] at H;exact H
  clear H
  have H := H1
  clear H1
  obtain rfl := Option.some.inj H
  go_enter Try.func21, Try.ntmps21
  go_wp2_with (first | ((with_reducible refine gate_dst (N := 1) rfl ?_);refine box_event ?hg (N := 1) ?hd (cs := #[.string a0_0, .int .i64 a0_1, .int .i64 a0_2, .int .i64 a0_3, .int .i64 a0_4, .int .i64 a0_5, .slice A0_6 l0_6.length c0_6, .int .i64 a0_7, .int .i64 a0_8, .int .i64 a0_9, .int .i64 a0_10, .int .i64 a0_11]) (t := 39) ?hr ?_;(case hd => rfl);(case hg => rfl);(case hr => first | (go_simp;done) | (go_simp;rfl));intro gb101 hg w22 hbox hb;have n0_ := m0_ (below_step (by repeat (first | (with_reducible first | exact HB.out | apply below_alloc | apply pw_below_drewN | apply below_drew1) | exact HB.out)) hb);have n1_ := m0_ (hbox);have n2_ := m0_ ((by rw [hg];exact (below_size (by repeat (first | (with_reducible first | exact HB.out | apply below_alloc | apply pw_below_drewN | apply below_drew1) | exact HB.out))) : w.heap.size ≤ gb101));have n3_ := m0_ ((by rw [hg];exact (below_size (by repeat (first | (with_reducible first | exact HB.out | apply below_alloc | apply pw_below_drewN | apply below_drew1) | exact HB.out))) : w.heap.size ≤ gb101));clear HB;have HB := n0_;have BK101 := n1_;have GW101 := n2_;have GE101 := n3_;clear n0_ n1_ n2_ n3_;clear hb hbox hg;obtain ⟨hcz23_0, hcz23_1, hcz23_2, hcz23_3, hcz23_4, hcz23_5, hcz23_6, hcz23_7, hcz23_8, hcz23_9, hcz23_10, hcz23_11, hfz23_0, hfz23_1, hfz23_2, hfz23_3, hfz23_4, hfz23_5, hfz23_6, hfz23_7, hfz23_8, hfz23_9, hfz23_10, hfz23_11⟩ := bx12 BK101.out) | ((with_reducible refine gate_callee (f := 57) rfl ?_);refine goesL_ (some 5) rfl rfl Try.func57 (by kernel_rfl) rfl #[.string a0_0] rfl (by (try simp only [List.map_toArray, List.map_cons, List.map_nil]);first | done | rfl | (simp only [List.length_drop, List.length_take];rfl)) ?_;(with_reducible refine (impl_isName.calls k a0_0 true _ A2.out).mono ?_);rintro e w' ⟨rfl, ⟨nd, rfl⟩⟩;refine ⟨_, rfl, ?_⟩) | (go_at_call 57;(with_reducible refine (impl_isName.calls k a0_0 true _ A2.out).mono ?_);rintro e w' ⟨rfl, ⟨nd, rfl⟩⟩) | (go_at_call 58;(with_reducible refine (impl_in.calls a0_1 0 9 true _ A4.out).mono ?_);rintro e w' ⟨rfl, ⟨nd, rfl⟩⟩) | (go_at_call 59;(with_reducible refine (impl_isMode.calls a0_2 true _ A6.out).mono ?_);rintro e w' ⟨rfl, ⟨nd, rfl⟩⟩) | (go_at_call 60;(with_reducible refine (impl_ExOk.calls k a0_3 a0_4 a0_5 _ _ l0_6 true _ ?side1 ?side2 A8.out).mono ?_);(case side1 => repeat (first | exact (Kd.C_below HR0_6.out (by repeat (first | (with_reducible first | exact HB.out | apply below_alloc | apply pw_below_drewN | apply below_drew1 | refine below_set ?_ GE101.out) | exact HB.out))) | (with_reducible refine Kd.C_alloc ?_ _) | (with_reducible refine Kd.C_drewN ?_ _) | (with_reducible refine Kd.C_drew ?_)));(case side2 => exact HC0_6.out);rintro e w24 ⟨rfl, hb⟩;have n0_ := m0_ (blk_below (g := gb101) (o := .cells #[.string a0_0, .int .i64 a0_1, .int .i64 a0_2, .int .i64 a0_3, .int .i64 a0_4, .int .i64 a0_5, .slice A0_6 l0_6.length c0_6, .int .i64 a0_7, .int .i64 a0_8, .int .i64 a0_9, .int .i64 a0_10, .int .i64 a0_11] 39 (0, 0)) (by (with_reducible repeat (first | refine blk_drewN ?_ _ | refine blk_drew ?_ | refine blk_alloc ?_ _));exact BK101.out) hb);have n1_ := m0_ (below_step (by repeat (first | (with_reducible first | exact HB.out | apply below_alloc | apply pw_below_drewN | apply below_drew1 | refine below_set ?_ GE101.out) | exact HB.out)) hb);clear BK101;clear HB;have BK101 := n0_;have HB := n1_;clear n0_ n1_;(try clear hb);(try clear hb2);(try clear hk);(try clear hi);obtain ⟨hcz25_0, hcz25_1, hcz25_2, hcz25_3, hcz25_4, hcz25_5, hcz25_6, hcz25_7, hcz25_8, hcz25_9, hcz25_10, hcz25_11, hfz25_0, hfz25_1, hfz25_2, hfz25_3, hfz25_4, hfz25_5, hfz25_6, hfz25_7, hfz25_8, hfz25_9, hfz25_10, hfz25_11⟩ := bx12 BK101.out) | (go_at_call 58;(with_reducible refine (impl_in.calls a0_7 0 a0_8 true _ A10.out).mono ?_);rintro e w' ⟨rfl, ⟨nd, rfl⟩⟩) | (go_at_call 58;(with_reducible refine (impl_in.calls a0_9 0 3 true _ A13.out).mono ?_);rintro e w' ⟨rfl, ⟨nd, rfl⟩⟩) | (go_at_call 58;(with_reducible refine (impl_in.calls a0_10 (-9) 9 false _ A15.out).mono ?_);rintro e w' ⟨rfl, ⟨nd, rfl⟩⟩))
  go_ret
  exact ⟨by first | rfl | (simp [errW_none, errW_some] <;> rfl) | (simp [*, errW_none, errW_some] <;> rfl), by repeat (first | (with_reducible first | exact HB.out | apply below_alloc | apply pw_below_drewN | apply below_drew1 | refine below_set ?_ GE101.out) | exact HB.out)⟩
 subst c16
 have H1 : ((impl_in.f a0_11 (-1) 4).bind fun t109 => (some t109)) = some r := by rw [if_pos rfl] at H;exact H
 clear H
 have H := H1
 clear H1
 replace H := Option.bind_eq_some_iff.mp H
 obtain ⟨t109, A170, H⟩ := H
 replace H : (some t109) = some r := H
 have A17 := m0_ A170
 clear A170
 obtain rfl := Option.some.inj H
 go_enter Try.func21, Try.ntmps21
 go_wp2_with (first | ((with_reducible refine gate_dst (N := 1) rfl ?_);refine box_event ?hg (N := 1) ?hd (cs := #[.string a0_0, .int .i64 a0_1, .int .i64 a0_2, .int .i64 a0_3, .int .i64 a0_4, .int .i64 a0_5, .slice A0_6 l0_6.length c0_6, .int .i64 a0_7, .int .i64 a0_8, .int .i64 a0_9, .int .i64 a0_10, .int .i64 a0_11]) (t := 39) ?hr ?_;(case hd => rfl);(case hg => rfl);(case hr => first | (go_simp;done) | (go_simp;rfl));intro gb101 hg w18 hbox hb;have n0_ := m0_ (below_step (by repeat (first | (with_reducible first | exact HB.out | apply below_alloc | apply pw_below_drewN | apply below_drew1) | exact HB.out)) hb);have n1_ := m0_ (hbox);have n2_ := m0_ ((by rw [hg];exact (below_size (by repeat (first | (with_reducible first | exact HB.out | apply below_alloc | apply pw_below_drewN | apply below_drew1) | exact HB.out))) : w.heap.size ≤ gb101));have n3_ := m0_ ((by rw [hg];exact (below_size (by repeat (first | (with_reducible first | exact HB.out | apply below_alloc | apply pw_below_drewN | apply below_drew1) | exact HB.out))) : w.heap.size ≤ gb101));clear HB;have HB := n0_;have BK101 := n1_;have GW101 := n2_;have GE101 := n3_;clear n0_ n1_ n2_ n3_;clear hb hbox hg;obtain ⟨hcz19_0, hcz19_1, hcz19_2, hcz19_3, hcz19_4, hcz19_5, hcz19_6, hcz19_7, hcz19_8, hcz19_9, hcz19_10, hcz19_11, hfz19_0, hfz19_1, hfz19_2, hfz19_3, hfz19_4, hfz19_5, hfz19_6, hfz19_7, hfz19_8, hfz19_9, hfz19_10, hfz19_11⟩ := bx12 BK101.out) | ((with_reducible refine gate_callee (f := 57) rfl ?_);refine goesL_ (some 5) rfl rfl Try.func57 (by kernel_rfl) rfl #[.string a0_0] rfl (by (try simp only [List.map_toArray, List.map_cons, List.map_nil]);first | done | rfl | (simp only [List.length_drop, List.length_take];rfl)) ?_;(with_reducible refine (impl_isName.calls k a0_0 true _ A2.out).mono ?_);rintro e w' ⟨rfl, ⟨nd, rfl⟩⟩;refine ⟨_, rfl, ?_⟩) | (go_at_call 57;(with_reducible refine (impl_isName.calls k a0_0 true _ A2.out).mono ?_);rintro e w' ⟨rfl, ⟨nd, rfl⟩⟩) | (go_at_call 58;(with_reducible refine (impl_in.calls a0_1 0 9 true _ A4.out).mono ?_);rintro e w' ⟨rfl, ⟨nd, rfl⟩⟩) | (go_at_call 59;(with_reducible refine (impl_isMode.calls a0_2 true _ A6.out).mono ?_);rintro e w' ⟨rfl, ⟨nd, rfl⟩⟩) | (go_at_call 60;(with_reducible refine (impl_ExOk.calls k a0_3 a0_4 a0_5 _ _ l0_6 true _ ?side1 ?side2 A8.out).mono ?_);(case side1 => repeat (first | exact (Kd.C_below HR0_6.out (by repeat (first | (with_reducible first | exact HB.out | apply below_alloc | apply pw_below_drewN | apply below_drew1 | refine below_set ?_ GE101.out) | exact HB.out))) | (with_reducible refine Kd.C_alloc ?_ _) | (with_reducible refine Kd.C_drewN ?_ _) | (with_reducible refine Kd.C_drew ?_)));(case side2 => exact HC0_6.out);rintro e w20 ⟨rfl, hb⟩;have n0_ := m0_ (blk_below (g := gb101) (o := .cells #[.string a0_0, .int .i64 a0_1, .int .i64 a0_2, .int .i64 a0_3, .int .i64 a0_4, .int .i64 a0_5, .slice A0_6 l0_6.length c0_6, .int .i64 a0_7, .int .i64 a0_8, .int .i64 a0_9, .int .i64 a0_10, .int .i64 a0_11] 39 (0, 0)) (by (with_reducible repeat (first | refine blk_drewN ?_ _ | refine blk_drew ?_ | refine blk_alloc ?_ _));exact BK101.out) hb);have n1_ := m0_ (below_step (by repeat (first | (with_reducible first | exact HB.out | apply below_alloc | apply pw_below_drewN | apply below_drew1 | refine below_set ?_ GE101.out) | exact HB.out)) hb);clear BK101;clear HB;have BK101 := n0_;have HB := n1_;clear n0_ n1_;(try clear hb);(try clear hb2);(try clear hk);(try clear hi);obtain ⟨hcz21_0, hcz21_1, hcz21_2, hcz21_3, hcz21_4, hcz21_5, hcz21_6, hcz21_7, hcz21_8, hcz21_9, hcz21_10, hcz21_11, hfz21_0, hfz21_1, hfz21_2, hfz21_3, hfz21_4, hfz21_5, hfz21_6, hfz21_7, hfz21_8, hfz21_9, hfz21_10, hfz21_11⟩ := bx12 BK101.out) | (go_at_call 58;(with_reducible refine (impl_in.calls a0_7 0 a0_8 true _ A10.out).mono ?_);rintro e w' ⟨rfl, ⟨nd, rfl⟩⟩) | (go_at_call 58;(with_reducible refine (impl_in.calls a0_9 0 3 true _ A13.out).mono ?_);rintro e w' ⟨rfl, ⟨nd, rfl⟩⟩) | (go_at_call 58;(with_reducible refine (impl_in.calls a0_10 (-9) 9 true _ A15.out).mono ?_);rintro e w' ⟨rfl, ⟨nd, rfl⟩⟩) | (go_at_call 58;(with_reducible refine (impl_in.calls a0_11 (-1) 4 t109 _ A17.out).mono ?_);rintro e w' ⟨rfl, ⟨nd, rfl⟩⟩))
 go_ret
 exact ⟨by first | rfl | (simp [errW_none, errW_some] <;> rfl) | (simp [*, errW_none, errW_some] <;> rfl), by repeat (first | (with_reducible first | exact HB.out | apply below_alloc | apply pw_below_drewN | apply below_drew1 | refine below_set ?_ GE101.out) | exact HB.out)⟩

end Go.Proofs.Ytdljhokealbnnaa.M
namespace Go.Proofs.Ytdljhokealbnnaa.M
set_option linter.unusedVariables false
set_option linter.unusedSimpArgs false
open Go.RowKit Go.Proofs.YtdljhokealbnnaaW.PrintWords Go.Proofs.YtdljhokealbnnaaW.PrintLast Go.Proofs.YtdljhokealbnnaaW.PrintMore

def firstIdx {α : Type} (p : α → Bool) : List α → Nat → Int
  | [], _ => -1
  | x :: xs, n => if p x then (n : Int) else firstIdx p xs (n + 1)
theorem firstIdx_any {α : Type} (p : α → Bool) : ∀ (xs : List α) (n : Nat), decide (0 ≤ firstIdx p xs n) = xs.any p
  | [], _ => rfl
  | x :: xs, n => by
    unfold firstIdx
    cases h : p x with
    | true => rw [if_pos rfl, List.any_cons, h]; simp
    | false => rw [if_neg (by decide), List.any_cons, h, Bool.false_or]; exact firstIdx_any p xs (n + 1)
def valQ (x : S39) (A : Option Addr) (c : Nat) : Value := .agg #[.string x.f0, .int .i64 x.f1, .int .i64 x.f2, .int .i64 x.f3.f0, .int .i64 x.f3.f1, .int .i64 x.f3.f2, .slice A x.f3.f3.length c, .int .i64 x.f4, .int .i64 x.f5, .int .i64 x.f6, .int .i64 x.f7, .int .i64 x.f8]
set_option maxHeartbeats 2000000 in
set_option maxRecDepth 100000 in
theorem closure_name (x : S39) (A : Option Addr) (c : Nat) (g : Nat) (nm : ByteArray) (w : World) (hg : w.cell? ⟨g, 0, none⟩ = some (.string nm)) :
    Calls Try.prog 62 #[valQ x A c, .pointer (some ⟨g, 0, none⟩)] w fun e w' => e = .returned (.bool (x.f0.toList == nm.toList)) ∧ Below w.heap.size w w' := by
  have hu39 := Try.underlying39
  have hu37 := Try.underlying37
  have HG := m0_ hg
  clear hg
  unfold valQ
  go_enter Try.func62, Try.ntmps62
  go_wp2_with (first | ((with_reducible refine gate_dst (N := 2) rfl ?_); refine box_event ?hg (N := 2) ?hd (cs := #[.string x.f0, .int .i64 x.f1, .int .i64 x.f2, .int .i64 x.f3.f0, .int .i64 x.f3.f1, .int .i64 x.f3.f2, .slice A x.f3.f3.length c, .int .i64 x.f4, .int .i64 x.f5, .int .i64 x.f6, .int .i64 x.f7, .int .i64 x.f8]) (t := 39) ?hr ?_; (case hd => rfl); (case hg => rfl); (case hr => first | (go_simp; done) | (go_simp; rfl)); intro gb101 hg w12 hbox hb; have HB := m0_ hb; have hcz0 : w12.cell? ⟨gb101, 0, none⟩ = some (.string x.f0) := (blk_cell hbox 0).trans rfl; have hcn0 : w12.cell? ⟨g, 0, none⟩ = some (.string nm) := (hb.cell (World.block_lt_of_cell? _ _ HG.out)).trans HG.out; clear hb hbox hg))
  go_ret
  exact ⟨by first | rfl | (simp [errW_none, errW_some] <;> rfl) | (simp [*, errW_none, errW_some] <;> rfl), HB.out⟩
set_option maxHeartbeats 2000000 in
set_option maxRecDepth 100000 in
theorem IndexFunc_name (A : Option Addr) (c : Nat) (xs : List S39) (g : Nat) (nm : ByteArray) (w : World) (hr : Kd.C k39 w A xs.length xs) (hc : xs.length ≤ c) (hg : w.cell? ⟨g, 0, none⟩ = some (.string nm)) :
    Calls Try.prog 93 #[.slice A xs.length c, .func (.func 62) #[] #[.pointer (some ⟨g, 0, none⟩)]] w fun e w' => e = .returned (.int .i64 (firstIdx (fun x : S39 => x.f0.toList == nm.toList) xs 0)) ∧ Below w.heap.size w w' := by
  have HR := m0_ hr
  have HC := m0_ hc
  have HG := m0_ hg
  have HL := m0_ hr.2.1
  clear hr hc hg
  go_enter Try.func93, Try.ntmps93
  go_wp2
  go_loopw [8] (fun v8 w' => ∃ k : Nat, k ≤ xs.length ∧ v8 = .int .i64 k ∧ Aside0 (firstIdx (fun x : S39 => x.f0.toList == nm.toList) (xs.drop k) k = firstIdx (fun x : S39 => x.f0.toList == nm.toList) xs 0) ∧ Aside0 (Below w.heap.size w w')) (fun v8 _ => xs.length - (intOf v8).toNat)
  case atStart => exact ⟨0, Nat.zero_le _, rfl, ⟨rfl⟩, ⟨Below.refl _ _⟩⟩
  case round =>
    rename_i wr
    obtain ⟨k, hk, rfl, HE, HB⟩ := hrel
    have hl := HL.out
    by_cases hlt : k < xs.length
    rotate_left
    · go_wp2
      go_ret
      have := HE.out
      rw [List.drop_of_length_le (by omega)] at this
      exact ⟨congrArg (fun n : Int => Ending.returned (.int .i64 n)) this, HB.out⟩
    obtain ⟨ad, A6, c6, e, HH⟩ := at_T39 (Kd.C_below HR.out HB.out) (k : Int) (by omega) (by omega)
    obtain ⟨h0, h1, h2, h3, h4, h5, h6, h7, h8, h9, h10, h11, hx6, hx7⟩ := HH
    have HX := m0_ (drop_at xs z39 k hlt)
    have HRD := m0_ (show rd_T39 xs (k : Int) = xs.getD k z39 from rfl)
    have hgw : wr.cell? ⟨g, 0, none⟩ = some (.string nm) := (HB.out.cell (World.block_lt_of_cell? _ _ HG.out)).trans HG.out
    have HGW := m0_ hgw
    clear hgw hx6 hx7
    generalize rd_T39 xs (k : Int) = x at *
    simp only [Int.toNat_natCast] at h0 h1 h2 h3 h4 h5 h6 h7 h8 h9 h10 h11
    subst e
    go_wp2_with fail
    refine (closure_name x A6 c6 g nm _ HGW.out).mono ?_
    rintro e w' ⟨rfl, hb⟩
    have HB2 := m0_ (below_step HB.out hb)
    clear hb
    cases hpx : (x.f0.toList == nm.toList) with
    | true =>
      have HPX := m0_ hpx
      clear hpx
      go_wp2
      go_ret
      have := HE.out
      rw [HX.out, ← HRD.out, firstIdx, if_pos HPX.out] at this
      exact ⟨congrArg (fun n : Int => Ending.returned (.int .i64 n)) this, HB2.out⟩
    | false =>
      have HPX := m0_ hpx
      clear hpx
      go_wp2
      go_roundw
      case rel =>
        refine ⟨k + 1, by omega, by go_num, ⟨?_⟩, HB2⟩
        have := HE.out
        rw [HX.out, ← HRD.out, firstIdx, if_neg (by rw [HPX.out]; decide)] at this
        exact this
      case measure => simp [intOf]; omega
set_option maxHeartbeats 1000000 in
theorem ContainsFunc_name (A : Option Addr) (c : Nat) (xs : List S39) (g : Nat) (nm : ByteArray) (w : World) (hr : Kd.C k39 w A xs.length xs) (hc : xs.length ≤ c) (hg : w.cell? ⟨g, 0, none⟩ = some (.string nm)) :
    Calls Try.prog 61 #[.slice A xs.length c, .func (.func 62) #[] #[.pointer (some ⟨g, 0, none⟩)]] w fun e w' => e = .returned (.bool (xs.any (fun x : S39 => x.f0.toList == nm.toList))) ∧ Below w.heap.size w w' := by
  have HP := m0_ (IndexFunc_name A c xs g nm w hr hc hg)
  clear hr hc hg
  go_enter Try.func61, Try.ntmps61
  go_wp2_with fail
  refine HP.out.mono ?_
  rintro e w' ⟨rfl, hb⟩
  have HB := m0_ hb
  clear hb
  go_wp2
  go_ret
  exact ⟨congrArg (fun b : Bool => Ending.returned (.bool b)) (firstIdx_any _ xs 0), HB.out⟩
def named (l : List S39) (x : S39) : Bool := l.any (fun s : S39 => s.f0.toList == x.f0.toList)
def rulesGo (ok : S39 → Bool) (l : List S39) : Nat → Nat → Bool
  | 0, _ => decide ((l.length : Int) ≤ 4)
  | d + 1, n => ok (l.getD n z39) && (!named (l.take n) (l.getD n z39) && rulesGo ok l d (n + 1))
theorem rulesGo_congr {ok ok' : S39 → Bool} (l : List S39) (h : ∀ x ∈ l, ok x = ok' x) : ∀ d n : Nat, n + d ≤ l.length → rulesGo ok l d n = rulesGo ok' l d n
  | 0, _, _ => rfl
  | d + 1, n, hn => by
    unfold rulesGo
    have hm : l.getD n z39 ∈ l := by
      rw [List.getD_eq_getElem?_getD, List.getElem?_eq_getElem (by omega)]
      exact List.getElem_mem _
    rw [h _ hm, rulesGo_congr l h d (n + 1) (by omega)]
set_option maxHeartbeats 4000000 in
set_option maxRecDepth 100000 in
theorem RulesOk_walk (ok : S39 → Bool) (A : Option Addr) (c : Nat) (xs : List S39) (w : World) (hr : Kd.C k39 w A xs.length xs) (hc : xs.length ≤ c)
    (hp : ∀ x ∈ xs, ∀ (A3 : Option Addr) (c3 : Nat) (W : World), Below w.heap.size w W → k37.C W A3 x.f3.f3.length x.f3.f3 → x.f3.f3.length ≤ c3 → Calls Try.prog 21 #[valQ x A3 c3] W fun e w' => e = .returned (.bool (ok x)) ∧ Below W.heap.size W w') :
    Calls Try.prog 24 #[.slice A xs.length c] w fun e w' => e = .returned (.bool (rulesGo ok xs xs.length 0)) ∧ Below w.heap.size w w' := by
  have hu39 := Try.underlying39
  have hu37 := Try.underlying37
  have HR := m0_ hr
  have HC := m0_ hc
  have HP := m0_ hp
  have HL := m0_ hr.2.1
  clear hr hc hp
  go_enter Try.func24, Try.ntmps24
  go_wp2
  go_loopw [7] (fun v7 w' => ∃ n d : Nat, n + d = xs.length ∧ v7 = .int .i64 n ∧ Aside0 (rulesGo ok xs d n = rulesGo ok xs xs.length 0) ∧ Aside0 (Below w.heap.size w w')) (fun v7 _ => xs.length - (intOf v7).toNat)
  case atStart => exact ⟨0, xs.length, by omega, rfl, ⟨rfl⟩, ⟨Below.refl _ _⟩⟩
  case round =>
    rename_i wr
    obtain ⟨n, d, hk, rfl, HE, HB⟩ := hrel
    have hl := HL.out
    by_cases hlt : n < xs.length
    rotate_left
    · obtain rfl : d = 0 := by omega
      go_wp2
      go_ret
      have := HE.out
      exact ⟨congrArg (fun b : Bool => Ending.returned (.bool b)) this, HB.out⟩
    obtain ⟨ad, A6, c6, e, HH⟩ := at_T39 (Kd.C_below HR.out HB.out) (n : Int) (by omega) (by omega)
    obtain ⟨h0, h1, h2, h3, h4, h5, h6, h7, h8, h9, h10, h11, hx6, hx7⟩ := HH
    have HX6 := m0_ hx6
    have HX7 := m0_ hx7
    clear hx6 hx7
    have HRD := m0_ (show rd_T39 xs (n : Int) = xs.getD n z39 from rfl)
    generalize rd_T39 xs (n : Int) = x at *
    simp only [Int.toNat_natCast] at h0 h1 h2 h3 h4 h5 h6 h7 h8 h9 h10 h11
    subst e
    go_wp2_with fail
    have hmem : x ∈ xs := by
      rw [HRD.out, List.getD_eq_getElem?_getD, List.getElem?_eq_getElem hlt]
      exact List.getElem_mem hlt
    have HM := m0_ hmem
    clear hmem
    refine (HP.out x HM.out A6 c6 _ (below_alloc HB.out _) (Kd.C_alloc HX7.out _) HX6.out).mono ?_
    rintro e w' ⟨rfl, hb⟩
    have hcell : w'.cell? ⟨wr.heap.size, 0, none⟩ = some (.string x.f0) := (hb.cell (by simp)).trans (World.cell?_alloc_at _ _ _ _ rfl)
    have HCL := m0_ hcell
    have HB2 := m0_ (below_step (below_alloc HB.out _) hb)
    clear hb hcell
    obtain ⟨d', rfl⟩ : ∃ d', d = d' + 1 := ⟨d - 1, by omega⟩
    have HE2 : Aside0 ((ok x && (!named (xs.take n) x && rulesGo ok xs d' (n + 1))) = rulesGo ok xs xs.length 0) := ⟨by have := HE.out; rw [rulesGo, ← HRD.out] at this; exact this⟩
    clear HE
    cases hok : ok x with
    | false =>
      have HOK := m0_ hok
      clear hok
      go_wp2
      go_ret
      have := HE2.out
      rw [HOK.out, Bool.false_and] at this
      exact ⟨congrArg (fun b : Bool => Ending.returned (.bool b)) this, HB2.out⟩
    | true =>
      have HOK := m0_ hok
      clear hok
      have hmf : ∀ (fn : Fn) (first cap : Array Value) (w : World), (Instr.makeFunc fn first cap).run Try.prog w = .ok (.func fn first cap) w := fun _ _ _ _ => rfl
      have hu25 := Try.underlying25
      have hn0 : (0 : Int) ≤ (n : Int) := by omega
      have hnc : (n : Int) ≤ (c : Int) := by have := HC.out; omega
      go_wp2_with fail
      have hlen : (xs.take n).length = n := by rw [List.length_take]; omega
      have hC : Kd.C k39 w' (some ad) (xs.take n).length (xs.take n) := Kd.C_take (Kd.C_below HR.out HB2.out) (by omega)
      have call := ContainsFunc_name (some ad) c (xs.take n) wr.heap.size x.f0 w' hC (by have := HC.out; omega) HCL.out
      rw [hlen] at call
      refine call.mono ?_
      clear call hC
      rintro e w2 ⟨rfl, hb⟩
      have HB3 := m0_ (below_step HB2.out hb)
      clear hb
      have HE3 : Aside0 ((!((xs.take n).any fun s : S39 => s.f0.toList == x.f0.toList) && rulesGo ok xs d' (n + 1)) = rulesGo ok xs xs.length 0) := ⟨by have := HE2.out; rw [HOK.out, Bool.true_and] at this; exact this⟩
      clear HE2
      cases hany : ((xs.take n).any fun s : S39 => s.f0.toList == x.f0.toList) with
      | true =>
        have HAN := m0_ hany
        clear hany
        go_wp2
        go_ret
        have := HE3.out
        rw [HAN.out] at this
        exact ⟨congrArg (fun b : Bool => Ending.returned (.bool b)) this, HB3.out⟩
      | false =>
        have HAN := m0_ hany
        clear hany
        go_wp2
        go_roundw
        case rel =>
          refine ⟨n + 1, d', by omega, by go_num, ⟨?_⟩, HB3⟩
          have := HE3.out
          rw [HAN.out] at this
          exact this
        case measure => simp [intOf]; omega
end Go.Proofs.Ytdljhokealbnnaa.M
namespace Go.Proofs.Ytdljhokealbnnaa.M
open Go.RowKit Go.Proofs.YtdljhokealbnnaaW.PrintWords Go.Proofs.YtdljhokealbnnaaW.PrintLast Go.Proofs.YtdljhokealbnnaaW.PrintMore
attribute [local go_sem] max2_int min2_int max_two min_two max_three min_three max_four min_four
set_option linter.unusedVariables false
set_option linter.unusedSimpArgs false

def impl_RulesOk.one (k : Nat) (x : S39) : Option Bool := impl_RuleOk.f k x.f0 x.f1 x.f2 x.f3.f0 x.f3.f1 x.f3.f2 x.f3.f3 x.f4 x.f5 x.f6 x.f7 x.f8
def impl_RulesOk.f (k : Nat) (l0 : List (S39)) : Option (Bool) := if (l0.all fun x => (impl_RulesOk.one k x).isSome) = true then some (rulesGo (fun x => (impl_RulesOk.one k x).getD false) l0 l0.length 0) else none
theorem impl_RulesOk.calls (k : Nat) (A0 : Option Addr) (c0 : Nat) (l0 : List (S39)) (r : Bool) (w : World) (hr0 : Kd.C k39 w A0 l0.length l0) (hc0 : l0.length ≤ c0) (h : impl_RulesOk.f k l0 = some r) :
  Calls Try.prog 24 #[.slice A0 l0.length c0] w fun e w' => e = .returned (.bool r) ∧ Below w.heap.size w w' := by
 unfold impl_RulesOk.f at h
 by_cases c : (l0.all fun x => (impl_RulesOk.one k x).isSome) = true
 ·rw [if_pos c] at h
  obtain rfl := Option.some.inj h
  refine RulesOk_walk (fun x => (impl_RulesOk.one k x).getD false) A0 c0 l0 w hr0 hc0 (fun x hx A3 c3 W _ hC hl => ?_)
  obtain ⟨v, hv⟩ := Option.isSome_iff_exists.1 (List.all_eq_true.1 c x hx)
  show Calls Try.prog _ _ W fun e w' => e = .returned (.bool ((impl_RulesOk.one k x).getD false)) ∧ Below W.heap.size W w'
  rw [hv]
  exact impl_RuleOk.calls k x.f0 x.f1 x.f2 x.f3.f0 x.f3.f1 x.f3.f2 A3 c3 x.f3.f3 x.f4 x.f5 x.f6 x.f7 x.f8 v W hC hl hv
 ·rw [if_neg c] at h
  cases h

end Go.Proofs.Ytdljhokealbnnaa.M
namespace Go.Proofs
open Go.Shelf
def Try.laysSlF20_f160_ren : Go.Shelf.Ren := ⟨fun | 20 => 160 | n => n, fun | 24 => 3 | 22 => 45 | 3 => 3 | 25 => 121 | 4 => 4 | 0 => 0 | n => n, fun | n => n⟩
theorem Try.laysSlF20_f160 : Go.Proofs.SlLaysF.n20 Try.prog Try.laysSlF20_f160_ren := {
  mixed := by kernel_rfl
  f20 := ⟨Try.f160.name, by decide, Try.func160.trans (congrArg some (by kernel_rfl))⟩
  t0 := Try.underlying0
  a0 := Try.isAgg0
  z0 := Try.sizeOf0
  v0 := Try.zeroValue0
  t3 := Try.underlying3
  a3 := Try.isAgg3
  z3 := Try.sizeOf3
  v3 := Try.zeroValue3
  t4 := Try.underlying4
  a4 := Try.isAgg4
  z4 := Try.sizeOf4
  v4 := Try.zeroValue4
  t22 := Try.underlying45
  a22 := Try.isAgg45
  z22 := Try.sizeOf45
  v22 := Try.zeroValue45
  a24 := Try.isAgg3
  z24 := Try.sizeOf3
  t25 := Try.underlying121
  a25 := Try.isAgg121
  z25 := Try.sizeOf121
  v25 := Try.zeroValue121 }
open Go.RowKit Go.Lib Go.Sort in
theorem Try.insertionSortCmpFunc_one {α : Type} [Inhabited α] (enc : α → Value) (hO : OneCell enc) (cf : α → α → Int) (g : Nat) (cb : Array Value) (blk off cap a b : Nat) (d : Array α) (w : World) (eg : ∀ args w, (callFunc g args).run Try.prog w = .ok (.enter g args) w) (hcmp : CmpReads Try.prog g cb enc cf blk off d.size w) (hH : Holds enc w blk off d) (hab : a ≤ b) (hb : b ≤ d.size) (hsz : d.size < 4611686018427387904) :
    Calls Try.prog 160 #[.slice (some ⟨blk, off, none⟩) d.size cap, .int .i64 a, .int .i64 b, .func (.func g) #[] cb] w fun e w' =>
      e = .returned (.tuple #[]) ∧ ∃ n, w' = (putRow enc w blk off (Sort.insertionSort (ltOf cf) d a b)).drewN n := Any.insertionSortCmpFunc_one Try.laysSlF20_f160 enc hO cf g cb blk off cap a b d w eg hcmp hH hab hb hsz
end Go.Proofs
namespace Go.Proofs.Ytdljhokealbnnaa.M
set_option linter.unusedVariables false
set_option linter.unusedSimpArgs false
open Go Go.RowKit Go.Sort Go.Proofs.YtdljhokealbnnaaW.PrintWords Go.Proofs.YtdljhokealbnnaaW.PrintLast Go.Proofs.YtdljhokealbnnaaW.PrintMore

set_option maxHeartbeats 2000000 in
set_option maxRecDepth 100000 in
theorem closure_pri (ad : Addr) (n c x y : Nat) (hx : x < n) (hy : y < n) (px py : Int) (gb : Nat) (w : World) (hg : w.cell? ⟨gb, 0, none⟩ = some (.slice (some ad) n c)) (h1 : w.cell? ⟨(ad.add (x * 12)).block, (ad.add (x * 12)).off + 1, none⟩ = some (.int .i64 px)) (h2 : w.cell? ⟨(ad.add (y * 12)).block, (ad.add (y * 12)).off + 1, none⟩ = some (.int .i64 py)) :
    Calls Try.prog 95 #[.int .i64 x, .int .i64 y, .pointer (some ⟨gb, 0, none⟩)] w fun e w' => e = .returned (.int .i64 (wrap64 (py - px))) ∧ ∃ q, w' = w.drewN q := by
  have hu39 := Try.underlying39
  have HG := m0_ hg
  have H1 := m0_ h1
  have H2 := m0_ h2
  have p1 : (0 ≤ (x : Int)) = True := eq_true (by omega)
  have p2 : (0 ≤ (y : Int)) = True := eq_true (by omega)
  have q1 : ((x : Int) < (n : Int)) = True := eq_true (by omega)
  have q2 : ((y : Int) < (n : Int)) = True := eq_true (by omega)
  clear hg h1 h2
  go_enter Try.func95, Try.ntmps95
  go_upto_region 1 with (fail)
  refine start_ (n := 12) (S := fun w' => w'.cell? ⟨gb, 0, none⟩ = some (.slice (some ad) n c) ∧ w'.cell? ⟨(ad.add (x * 12)).block, (ad.add (x * 12)).off + 1, none⟩ = some (.int .i64 px) ∧ w'.cell? ⟨(ad.add (y * 12)).block, (ad.add (y * 12)).off + 1, none⟩ = some (.int .i64 py)) (ds := []) #[false, false, false, false, false, false, false, false, false, false, false, false] (by kernel_rfl) rfl rfl ⟨HG.out, H1.out, H2.out⟩ (fun hHeld => ?_)
  refine pv_ 1 7 #[false, true, false, false, false, false, false, false, false, false, false, false] (by kernel_rfl) ?_
  refine pv_ 6 12 #[false, true, false, false, false, false, true, false, false, false, false, false] (by kernel_rfl) ?_
  refine take_ (i := 0) (N := some 6) (v := ?_) (a' := ?_) #[true, true, false, false, false, false, true, false, false, false, false, false] rfl rfl (by kernel_rfl) (fun _ _ _ h => h) (Or.inl ⟨by rfl, ?_⟩) hHeld ?_ ?_
  rotate_left
  · rintro w' ⟨s0, s1, s2⟩
    go_simp
    with_reducible rfl
  rotate_left
  · simp only [Act.put, List.setIfInBounds_toArray, List.set_cons_zero, List.set_cons_succ, i64_w, i32_w]
    rfl
  refine pv_ 2 8 #[true, true, true, false, false, false, true, false, false, false, false, false] (by kernel_rfl) ?_
  refine pv_ 3 9 #[true, true, true, true, false, false, true, false, false, false, false, false] (by kernel_rfl) ?_
  refine take_ (i := 4) (N := some 10) (v := ?_) (a' := ?_) #[true, true, true, true, true, false, true, false, false, false, false, false] rfl rfl (by kernel_rfl) (fun _ _ _ h => h) (Or.inl ⟨by rfl, ?_⟩) hHeld ?_ ?_
  rotate_left
  · rintro w' ⟨s0, s1, s2⟩
    go_simp
    with_reducible rfl
  rotate_left
  · simp only [Act.put, List.setIfInBounds_toArray, List.set_cons_zero, List.set_cons_succ, i64_w, i32_w]
    rfl
  refine take_ (i := 5) (N := some 11) (v := ?_) (a' := ?_) #[true, true, true, true, true, true, true, false, false, false, false, false] rfl rfl (by kernel_rfl) (fun _ _ _ h => h) (Or.inl ⟨by rfl, ?_⟩) hHeld ?_ ?_
  rotate_left
  · rintro w' ⟨s0, s1, s2⟩
    go_simp
    with_reducible rfl
  rotate_left
  · simp only [Act.put, List.setIfInBounds_toArray, List.set_cons_zero, List.set_cons_succ, i64_w, i32_w]
    rfl
  refine pv_ 7 13 #[true, true, true, true, true, true, true, true, false, false, false, false] (by kernel_rfl) ?_
  refine pv_ 8 14 #[true, true, true, true, true, true, true, true, true, false, false, false] (by kernel_rfl) ?_
  refine take_ (i := 9) (N := some 15) (v := ?_) (a' := ?_) #[true, true, true, true, true, true, true, true, true, true, false, false] rfl rfl (by kernel_rfl) (fun _ _ _ h => h) (Or.inl ⟨by rfl, ?_⟩) hHeld ?_ ?_
  rotate_left
  · rintro w' ⟨s0, s1, s2⟩
    go_simp
    with_reducible rfl
  rotate_left
  · simp only [Act.put, List.setIfInBounds_toArray, List.set_cons_zero, List.set_cons_succ, i64_w, i32_w]
    rfl
  refine pv_ 10 16 #[true, true, true, true, true, true, true, true, true, true, true, false] (by kernel_rfl) ?_
  refine pv_ 11 5 #[true, true, true, true, true, true, true, true, true, true, true, true] (by kernel_rfl) ?_
  refine done_ (by kernel_rfl) ?_

  go_wp2
  go_ret
  exact ⟨rfl, 1, rfl⟩
def rangeI (n : Nat) : List Int := (List.range n).map (fun i : Nat => (i : Int))
theorem rangeI_succ (n : Nat) : rangeI (n + 1) = rangeI n ++ [(n : Int)] := by unfold rangeI; rw [List.range_succ, List.map_append]; rfl
theorem rangeI_length (n : Nat) : (rangeI n).length = n := by simp [rangeI]
section
variable {α : Type} {enc : α → Value} {w : World} {base g cap n : Nat} {e : TypeId} {cur : Array Value} {ss ts : List α} {os : Array Obj} [Inhabited α]
theorem holds_row (hb : w.heap[g]? = some (.cells cur e (0, 0))) (ht : cur.toList.take ss.length = ss.map enc) : Holds enc w g 0 ss.toArray := by
  intro j hj
  have hj' : j < ss.length := by simpa using hj
  refine ⟨?_, by simp [World.frozen?, hb]⟩
  have h1 : (cur.toList.take ss.length)[j]? = (ss.map enc)[j]? := by rw [ht]
  rw [List.getElem?_take_of_lt hj'] at h1
  simp only [World.cell?, hb, Nat.zero_add]
  simp only [Option.isSome_none, Bool.false_eq_true, if_false]
  rw [← Array.getElem?_toList, h1]
  simp [hj']
theorem heap_row (d : Array α) (hb : w.heap[g]? = some (.cells cur e (0, 0))) : (grow (putRow enc (Sort.ahead w n) g 0 d) os).heap[g]? = some (.cells (putCells enc 0 d cur) e (0, 0)) := by
  have hg : g < w.heap.size := (Array.getElem?_eq_some_iff.1 hb).1
  rw [heap_grow_old _ _ (by simpa using hg)]
  simp [putRow, mapBlock, Sort.ahead, Array.getElem?_modify, hb, onCells]
theorem grown_row (d : Array α) : w.grownBy (grow (putRow enc (Sort.ahead w n) g 0 d) os) (some g) := by
  refine ⟨rfl, rfl, rfl, by simp, fun k hk hne => ?_⟩
  rw [heap_grow_old _ _ (by simpa using hk)]
  have : g ≠ k := fun e => hne (by rw [e])
  simp [putRow, mapBlock, Sort.ahead, Array.getElem?_modify, this]
theorem take_row (h : ts.length ≤ cur.size) : (putCells enc 0 ts.toArray cur).toList.take ts.length = ts.map enc := by
  apply List.ext_getElem?
  intro j
  by_cases hj : j < ts.length
  · rw [List.getElem?_take_of_lt hj, Array.getElem?_toList]
    simp [putCells, hj, show j < cur.size by omega]
  · rw [List.getElem?_take_eq_none (by omega), List.getElem?_eq_none (by simp; omega)]
end
theorem row_of {w : World} {base : Nat} {ok : Nat → Prop} {v : Value} {xs : List Int} (h : Kd.R (Kd.int .i64) 3 w base ok v xs) (hp : 0 < xs.length) :
    ∃ g cap cur, v = .slice (some ⟨g, 0, none⟩) xs.length cap ∧ base ≤ g ∧ w.heap[g]? = some (.cells cur 3 (0, 0)) ∧ xs.length ≤ cap ∧ cap ≤ maxLen ∧ cur.size = cap * 1 ∧ cur.toList.take xs.length = xs.map (Value.int .i64) := by
  have ho := Kd.own_of_R (enc := Value.int .i64) (h1 := fun _ => rfl) h
  rcases ho.2 with ⟨_, h0⟩ | ⟨g, cap, cur, rfl, hb, hh, h1, h2, h3, h4⟩
  · omega
  · rw [Nat.mul_one] at h4
    exact ⟨g, cap, cur, rfl, hb, hh, h1, h2, h3, h4⟩
def priAt (l : List S39) (i : Nat) : Int := (l.getD i z39).f1
def cmpR (l : List S39) (M : Nat) (x y : Fin (M + 1)) : Int := wrap64 (priAt l y.val - priAt l x.val)
def sortR (l : List S39) (M : Nat) : Array (Fin (M + 1)) := Sort.insertionSort (ltOf (cmpR l M)) (List.finRange (M + 1)).toArray 0 (M + 1)
def orderR (l : List S39) : List Int := match l.length with
  | 0 => []
  | M + 1 => (sortR l M).toList.map (fun i => (i.val : Int))
def encF (M : Nat) (i : Fin (M + 1)) : Value := .int .i64 (i.val : Int)
theorem size_swp {α : Type} [Inhabited α] (d : Array α) (i j : Nat) : (Sort.swp d i j).size = d.size := by simp [Sort.swp]
theorem size_inner {α : Type} [Inhabited α] (lt : α → α → Bool) (a : Nat) : ∀ (j : Nat) (d : Array α), (Sort.insInner lt a j d).size = d.size
  | 0, d => rfl
  | j + 1, d => by
    unfold Sort.insInner
    split
    · rw [size_inner lt a j, size_swp]
    · rfl
theorem size_outer {α : Type} [Inhabited α] (lt : α → α → Bool) (a b : Nat) : ∀ (e i : Nat) (d : Array α), b - i ≤ e → (Sort.insOuter lt a b i d).size = d.size
  | 0, i, d, h => by
    unfold Sort.insOuter
    rw [if_neg (by omega)]
  | e + 1, i, d, h => by
    unfold Sort.insOuter
    split
    · rw [size_outer lt a b e (i + 1) _ (by omega), size_inner]
    · rfl
theorem size_sortR (l : List S39) (M : Nat) : (sortR l M).size = M + 1 := by
  unfold sortR Sort.insertionSort
  rw [size_outer _ _ _ (M + 1) _ _ (by omega)]
  simp
theorem finRange_int (M : Nat) : (List.finRange (M + 1)).map (encF M) = (rangeI (M + 1)).map (Value.int .i64) := by
  apply List.ext_getElem
  · simp [rangeI]
  · intro i h1 h2
    simp [encF, rangeI]
set_option maxHeartbeats 2000000 in
set_option maxRecDepth 100000 in
theorem ins_none (A : Option Addr) (c : Nat) (f : Value) (w : World) : Calls Try.prog 160 #[.slice A 0 c, .int .i64 0, .int .i64 0, f] w fun e w' => e = .returned (.tuple #[]) ∧ w' = w := by
  go_enter Try.func160, Try.ntmps160
  go_wp2
  go_loop [8] (fun v8 => v8 = .int .i64 1) (fun _ => 0)
  case atStart => rfl
  case round =>
    obtain rfl := hrel
    go_wp2
    go_end0
    exact ⟨rfl, rfl⟩
section
variable (l : List S39) (ad : Option Addr) (c gb : Nat)
set_option maxHeartbeats 2000000 in
set_option maxRecDepth 100000 in
theorem ins_rules (M : Nat) (hM : l.length = M + 1) (w0 w : World) (hC : Kd.C k39 w0 ad l.length l) (hb0 : Below w0.heap.size w0 w) (blk cap : Nat) (cur : Array Value) (hblk : w0.heap.size ≤ blk) (hne : gb ≠ blk) (hg : w.cell? ⟨gb, 0, none⟩ = some (.slice ad l.length c)) (hh : w.heap[blk]? = some (.cells cur 3 (0, 0))) (ht : cur.toList.take (M + 1) = (rangeI (M + 1)).map (Value.int .i64)) (hl : l.length ≤ 1000000) :
    Calls Try.prog 160 #[.slice (some ⟨blk, 0, none⟩) (M + 1) cap, .int .i64 0, .int .i64 ((M + 1 : Nat) : Int), .func (.func 95) #[] #[.pointer (some ⟨gb, 0, none⟩)]] w fun e w' => e = .returned (.tuple #[]) ∧ ∃ q, w' = (putRow (encF M) w blk 0 (sortR l M)).drewN q := by
  have hs : (List.finRange (M + 1)).toArray.size = M + 1 := by simp
  have hcmp : CmpReads Try.prog 95 #[.pointer (some ⟨gb, 0, none⟩)] (encF M) (cmpR l M) blk 0 (List.finRange (M + 1)).toArray.size w := by
    intro m os dk _ x y
    have hgr : w.grownBy (sortWorld (encF M) w blk 0 m dk os) (some blk) := grown_row (n := m) dk
    have cell : ∀ (a : Addr) (v : Value), w.cell? a = some v → a.block ≠ blk → (sortWorld (encF M) w blk 0 m dk os).cell? a = some v := fun a v h hn => hgr.cell h (fun e => hn (by injection e))
    have elt : ∀ i : Fin (M + 1), ∃ ad', ad = some ad' ∧ (sortWorld (encF M) w blk 0 m dk os).cell? ⟨(ad'.add (i.val * 12)).block, (ad'.add (i.val * 12)).off + 1, none⟩ = some (.int .i64 (priAt l i.val)) := fun i => by
      obtain ⟨ad', A6, c6, e, h0_, h1, H⟩ := at_T39 hC (i.val : Int) (by omega) (by have := i.isLt; omega)
      refine ⟨ad', e, ?_⟩
      rw [Int.toNat_natCast] at h1
      have h1 : w0.cell? ⟨(ad'.add (i.val * 12)).block, (ad'.add (i.val * 12)).off + 1, none⟩ = some (.int .i64 (priAt l i.val)) := h1
      have hlt : (ad'.add (i.val * 12)).block < w0.heap.size := World.block_lt_of_cell? w0 ⟨(ad'.add (i.val * 12)).block, (ad'.add (i.val * 12)).off + 1, none⟩ h1
      exact cell ⟨(ad'.add (i.val * 12)).block, (ad'.add (i.val * 12)).off + 1, none⟩ _ ((hb0.cell (World.block_lt_of_cell? w0 _ h1)).trans h1) (fun e => by have e' : (ad'.add (i.val * 12)).block = blk := e; omega)
    obtain ⟨ad1, e1, c1⟩ := elt x
    obtain ⟨ad2, e2, c2⟩ := elt y
    subst e1
    injection e2 with e2
    subst e2
    exact closure_pri ad1 l.length c x.val y.val (by have := x.isLt; omega) (by have := y.isLt; omega) (priAt l x.val) (priAt l y.val) gb _ (cell _ _ hg hne) c1 c2
  have h := Try.insertionSortCmpFunc_one (encF M) (fun _ => rfl) (cmpR l M) 95 #[.pointer (some ⟨gb, 0, none⟩)] blk 0 cap 0 (M + 1) (List.finRange (M + 1)).toArray w (fun args w => enters_ Try.func95 rfl (by kernel_rfl) args w) hcmp (holds_row hh (by rw [List.length_finRange, finRange_int]; exact ht)) (by omega) (by rw [hs]; exact Nat.le_refl _) (by rw [hs]; omega)
  rw [hs] at h
  exact h
end
set_option maxHeartbeats 4000000 in
set_option maxRecDepth 100000 in
theorem stable_few (v f : Value) (n : Nat) (hn : n < 20) (w : World) (Q : World → Prop) (h : Calls Try.prog 160 #[v, .int .i64 0, .int .i64 (n : Int), f] w fun e w' => e = .returned (.tuple #[]) ∧ Q w') :
    Calls Try.prog 132 #[v, .int .i64 (n : Int), f] w fun e w' => e = .returned (.tuple #[]) ∧ Q w' := by
  have mixed : Try.prog.follows .mixedOrders = true := by kernel_rfl
  have H := m0_ h
  clear h
  have d1 : decide ((20 : Int) ≤ (n : Int)) = false := decide_eq_false (by omega)
  have d2 : decide ((20 : Int) < (n : Int)) = false := decide_eq_false (by omega)
  have e1 : ¬ ((20 : Int) ≤ (n : Int)) := by omega
  have e2 : ¬ ((20 : Int) < (n : Int)) := by omega
  go_enter Try.func132, Try.ntmps132
  go_wp2
  go_loop [7, 8] (fun v7 v8 => v7 = .int .i64 0 ∧ v8 = .int .i64 20) (fun _ _ => 0)
  case atStart => exact ⟨rfl, rfl⟩
  case round =>
    obtain ⟨rfl, rfl⟩ := hrel
    go_wp2_with (go_at_call 160; fail)
    refine H.out.mono ?_
    rintro e w2 ⟨rfl, hq⟩
    have HQ := m0_ hq
    clear hq H
    go_wp2
    go_loop [6] (fun v6 => v6 = .int .i64 20) (fun _ => 0)
    case atStart => rfl
    case round =>
      obtain rfl := hrel
      go_wp2
      go_end0
      exact ⟨rfl, HQ.out⟩
set_option maxHeartbeats 4000000 in
set_option maxRecDepth 100000 in
theorem stable_of (A : Option Addr) (n c : Nat) (f : Value) (hn : n < 20) (w : World) (Q : World → Prop) (h : Calls Try.prog 160 #[.slice A n c, .int .i64 0, .int .i64 (n : Int), f] w fun e w' => e = .returned (.tuple #[]) ∧ Q w') :
    Calls Try.prog 94 #[.slice A n c, f] w fun e w' => e = .returned (.tuple #[]) ∧ Q w' := by
  have H := m0_ (stable_few _ _ n hn w Q h)
  clear h
  go_enter Try.func94, Try.ntmps94
  go_wp2_with (go_at_call 132; fail)
  refine H.out.mono ?_
  rintro e w2 ⟨rfl, hq⟩
  have HQ := m0_ hq
  clear hq H
  go_wp2
  go_end0
  exact ⟨rfl, HQ.out⟩
theorem stable_walk (l : List S39) (ad : Option Addr) (c gb : Nat) (v : Value) (base : Nat) (ok : Nat → Prop) (w0 w : World) (hC : Kd.C k39 w0 ad l.length l) (hb0 : Below w0.heap.size w0 w) (hbase : w0.heap.size ≤ base) (hgb : w.heap[gb]? = some (.cells #[.slice ad l.length c] 25 (0, 0))) (HR : Kd.R (Kd.int .i64) 3 w base ok v (rangeI l.length)) (hl : l.length < 20) :
    Calls Try.prog 94 #[v, .func (.func 95) #[] #[.pointer (some ⟨gb, 0, none⟩)]] w fun e w' => e = .returned (.tuple #[]) ∧ Kd.R (Kd.int .i64) 3 w' base ok v (orderR l) ∧ w.grownBy w' v.ownBlock := by
  obtain ⟨A, c', rfl⟩ := Kd.R_slice HR
  rw [rangeI_length]
  refine stable_of A l.length c' _ hl w _ ?_
  cases hM : l.length with
  | zero =>
    refine (ins_none A c' _ w).mono ?_
    rintro e w' ⟨rfl, rfl⟩
    have e1 : orderR l = rangeI l.length := by
      unfold orderR
      rw [hM]; rfl
    rw [e1, ← hM]
    refine ⟨rfl, ?_, ⟨rfl, rfl, rfl, Nat.le_refl _, fun _ _ _ => rfl⟩⟩
    have := HR
    rw [rangeI_length] at this
    exact this
  | succ M =>
    have hlen : (rangeI l.length).length = M + 1 := by rw [rangeI_length, hM]
    obtain ⟨blk, cap, cur, he, hbb, hh, h1, h2, h3, h4⟩ := row_of HR (by omega)
    injection he with he1 he2 he3
    subst he1; subst he3
    rw [hlen] at h1 h4
    have hne : gb ≠ blk := blk_ne hgb hh (by decide)
    refine (ins_rules l ad c gb M hM w0 w hC hb0 blk c' cur (Nat.le_trans hbase hbb) hne ((blk_cell hgb 0).trans rfl) hh (by rw [h4, hM]) (by omega)).mono ?_
    rintro e w' ⟨rfl, q, rfl⟩
    have eo : orderR l = (sortR l M).toList.map (fun i : Fin (M + 1) => (i.val : Int)) := by
      unfold orderR
      rw [hM]
    have hsz := size_sortR l M
    have hw : (putRow (encF M) w blk 0 (sortR l M)).drewN q = grow (putRow (encF M) (Sort.ahead w q) blk 0 (sortR l M)) #[] := by
      rw [grow_empty]; rfl
    have hgr : w.grownBy ((putRow (encF M) w blk 0 (sortR l M)).drewN q) (some blk) := by
      rw [hw]; exact grown_row _
    refine ⟨rfl, ?_, hgr⟩
    have hheap : ((putRow (encF M) w blk 0 (sortR l M)).drewN q).heap[blk]? = some (.cells (putCells (encF M) 0 (sortR l M) cur) 3 (0, 0)) := by
      rw [hw]; exact heap_row _ hh
    refine Kd.R_of_own (enc := Value.int .i64) (h1 := fun _ => rfl) ⟨?_, .inr ⟨blk, c', _, ?_, hbb, hheap, ?_, h2, by simp [putCells, h3], ?_⟩⟩ HR.1
    · simp [encs]
    · rw [eo]; simp [hsz]
    · rw [eo]; simp [hsz]; omega
    rw [eo]
    have ht := take_row (enc := encF M) (ts := (sortR l M).toList) (cur := cur) (by rw [Array.length_toList, hsz, h3]; omega)
    rw [Array.toArray_toList, Array.length_toList, hsz] at ht
    rw [List.length_map, Array.length_toList, hsz, Nat.mul_one, ht]
    simp [encs, encF]
end Go.Proofs.Ytdljhokealbnnaa.M
namespace Go.Proofs.Ytdljhokealbnnaa.M
open Go.RowKit Go.Proofs.YtdljhokealbnnaaW.PrintWords Go.Proofs.YtdljhokealbnnaaW.PrintLast Go.Proofs.YtdljhokealbnnaaW.PrintMore
attribute [local go_sem] max2_int min2_int max_two min_two max_three min_three max_four min_four
set_option linter.unusedVariables false
set_option linter.unusedSimpArgs false

def impl_order.f (l0 : List (S39)) : Option (List Int) := if l0.length < 20 then some (orderR l0) else none
set_option maxHeartbeats 4000000 in
set_option maxRecDepth 100000 in
theorem impl_order.calls (A0 : Option Addr) (c0 : Nat) (l0 : List (S39)) (r : List Int) (w : World) (hr0 : Kd.C k39 w A0 l0.length l0) (hc0 : l0.length ≤ c0) (h : impl_order.f l0 = some r) :
  Calls Try.prog 63 #[.slice A0 l0.length c0] w fun e w' => ∃ v0_ : Value, e = .returned (v0_) ∧ Kd.R (Kd.int .i64) 3 w' w.heap.size (fun _ => True) v0_ r ∧ Below w.heap.size w w' := by
 unfold impl_order.f at h
 by_cases hl : l0.length < 20
 case neg => rw [if_neg hl] at h;cases h
 rw [if_pos hl] at h
 obtain rfl := Option.some.inj h
 have HL := m0_ hl
 have HR0 := m0_ hr0
 have HB := m0_ (Below.refl w.heap.size w)
 clear h hl hr0 hc0
 go_enter Try.func63, Try.ntmps63
 go_upto_region 2 with (first | ((with_reducible refine gate_dst (N := 1) rfl ?_);refine box_event ?hg (N := 1) ?hd (cs := #[.slice A0 l0.length c0]) (t := 25) ?hr ?_;(case hd => rfl);(case hg => rfl);(case hr => first | (go_simp;done) | (go_simp;rfl));intro gb1 hg wb1 hbox hb;have BK1 := m0_ (hbox);have GE1 := m0_ ((by rw [hg];exact below_size HB.out : w.heap.size ≤ gb1));replace HB := m0_ (below_step HB.out hb);clear hb hbox hg))
 have hz0 := (blk_cell BK1.out 0).trans (show _ = some (Value.slice A0 l0.length c0) from rfl)
 go_wp2
 clear hz0
 go_loopw [3, 7] (fun v3 v7 w' => ∃ m : Nat, m ≤ l0.length ∧ v7 = .int .i64 (m : Int) ∧ Aside0 (Kd.R (Kd.int .i64) 3 w' w.heap.size (fun _ => True) v3 (rangeI m)) ∧ Aside0 (w'.heap[gb1]? = some (.cells #[.slice A0 l0.length c0] 25 (0, 0))) ∧ Aside0 (Below w.heap.size w w')) (fun _ v7 _ => l0.length - (intOf v7).toNat)
 case atStart => exact ⟨0, Nat.zero_le _, rfl, ⟨Kd.R_nil _ _ _ _ _⟩, BK1, HB⟩
 case round =>
  clear BK1 HB
  obtain ⟨m, hm, rfl, HO, BK1, HB⟩ := hrel
  have hm20 : (m : Int) ≤ 20 := by have := HL.out;omega
  by_cases hlt : m < l0.length
  ·go_wp2_with (first | ((with_reducible refine gate_builtin (b := .append) (xs := #[.tmp 10, .tmp 12]) rfl ?_);at_builtin;refine Kd.R_append (Kd.int .i64) (w0 := w) w.heap.size rfl (.tmp 10) (.tmp 12) 45 3 (.int .i64 0) 8 rfl Try.underlying45 info3 rfl (by decide) (by omega) u3 (rangeI m) (m : Int) [.int .i64 (m : Int)] (fun _ => True) (fun _ => False) rfl rfl ?aP (fun _ hk => hk.elim) ?aF ?aO ?aB ?aS ?aL ?_;(case aP => exact rfl);(case aB => exact HB.out);(case aF => exact (fun _ _ => trivial));(case aO => exact HO.out);(case aS => exact HB.out.size);(case aL => have := HL.out;rw [rangeI_length];omega);intro v13 w12 ho hb hg hat;have n0_ := m0_ hb;have n1_ := m0_ ho;have n2_ := m0_ (blk_grown BK1.out hg (Kd.R_ne HO.out BK1.out (by decide)));clear HB HO BK1;have HB := n0_;have HO := n1_;have BK1 := n2_;clear n0_ n1_ n2_;clear ho hb hg hat))
   go_roundw
   case rel => exact ⟨m + 1, hlt, by go_num, by rw [rangeI_succ];exact HO, BK1, HB⟩
   case measure => simp [intOf];omega
  obtain rfl : m = l0.length := by omega
  have hmf : ∀ (fn : Fn) (first cap : Array Value) (w : World), (Instr.makeFunc fn first cap).run Try.prog w = .ok (.func fn first cap) w := fun _ _ _ _ => rfl
  go_wp2_with (first | (go_at_call 94;fail))
  refine (stable_walk l0 A0 c0 gb1 u3 w.heap.size (fun _ => True) w _ HR0.out HB.out (Nat.le_refl _) BK1.out HO.out HL.out).mono ?_
  rintro e w5 ⟨rfl, ho, hg⟩
  have HN := m0_ ho
  have HBN := m0_ (HB.out.grown hg HB.out.size (fun k hk => Kd.R_base HO.out k hk))
  clear ho hg
  go_wp2
  go_ret
  exact ⟨_, rfl, HN.out, HBN.out⟩

def impl_RulesOrder.f (k : Nat) (l0 : List (S39)) : Option (List Int) := (impl_RulesOk.f k l0).bind fun t => if t = true then impl_order.f l0 else some []
set_option maxHeartbeats 4000000 in
set_option maxRecDepth 100000 in
theorem impl_RulesOrder.calls (k : Nat) (A0 : Option Addr) (c0 : Nat) (l0 : List (S39)) (r : List Int) (w : World) (hr0 : Kd.C k39 w A0 l0.length l0) (hc0 : l0.length ≤ c0) (h : impl_RulesOrder.f k l0 = some r) :
  Calls Try.prog 26 #[.slice A0 l0.length c0] w fun e w' => ∃ v0_ : Value, e = .returned (v0_) ∧ Kd.R (Kd.int .i64) 3 w' w.heap.size (fun _ => True) v0_ r ∧ Below w.heap.size w w' := by
 unfold impl_RulesOrder.f at h
 obtain ⟨t, ht, h⟩ := Option.bind_eq_some_iff.1 h
 have HT := m0_ ht
 have HH := m0_ h
 have HR0 := m0_ hr0
 have HC0 := m0_ hc0
 clear ht h hr0 hc0
 go_enter Try.func26, Try.ntmps26
 go_wp2_with (go_at_call 24;fail)
 refine (impl_RulesOk.calls k A0 c0 l0 t _ HR0.out HC0.out HT.out).mono ?_
 rintro e w' ⟨rfl, hb⟩
 have HB := m0_ hb
 clear hb
 cases t with
 | false =>
  go_wp2
  go_ret
  obtain rfl := Option.some.inj (show some ([] : List Int) = some r from by have := HH.out;rw [if_neg (by decide)] at this;exact this)
  exact ⟨_, rfl, Kd.R_nil _ _ _ _ _, HB.out⟩
 | true =>
  have HO := m0_ (show impl_order.f l0 = some r from by have := HH.out;rw [if_pos rfl] at this;exact this)
  clear HH
  go_wp2_with (go_at_call 63;fail)
  refine (impl_order.calls A0 c0 l0 r _ (Kd.C_below HR0.out HB.out) HC0.out HO.out).mono ?_
  rintro e w5 ⟨v5, rfl, hs, hb⟩
  have HS := m0_ (Kd.R_lower hs HB.out.size)
  have n0_ := m0_ (below_step HB.out hb)
  clear HB hs hb
  have HB := n0_
  clear n0_
  go_wp2
  go_ret
  exact ⟨_, rfl, HS.out, HB.out⟩

def laws_eqIntS.l0 : Nat → List Int → List Int → Int → Option (Bool)
 | 0, _, _, _ => none
 | k + 1, x0, x1, x5 => if x5 < (x0.length : Int) then (if 0 ≤ x5 then (if x5 < (x1.length : Int) then (if (rd x0 x5) = (rd x1 x5) then (laws_eqIntS.l0 k x0 x1 (wrap64 (x5 + 1))) else (some false)) else (none)) else (none)) else (some true)
def laws_eqIntS.f (k : Nat) (l0 : List Int) (l1 : List Int) : Option (Bool) := if (l0.length : Int) = (l1.length : Int) then (laws_eqIntS.l0 k l0 l1 0) else (some false)
set_option maxHeartbeats 8000000 in
set_option maxRecDepth 100000 in
theorem laws_eqIntS.calls (k : Nat) (A0 : Option Addr) (c0 : Nat) (l0 : List Int) (A1 : Option Addr) (c1 : Nat) (l1 : List Int) (r : Bool) (hT_ : Aside0 (r = true)) (w : World) (hr0 : Kd.C (Kd.int .i64) w A0 l0.length l0) (hc0 : l0.length ≤ c0) (hr1 : Kd.C (Kd.int .i64) w A1 l1.length l1) (hc1 : l1.length ≤ c1) (h : laws_eqIntS.f k l0 l1 = some r) :
  Calls Try.prog 27 #[.slice A0 l0.length c0, .slice A1 l1.length c1] w fun e w' => e = .returned (.bool r) ∧ Drawn0 w w' := by
 have HR0 := m0_ hr0
 have HC0 := m0_ hc0
 clear hr0 hc0
 have HR1 := m0_ hr1
 have HC1 := m0_ hc1
 clear hr1 hc1
 have H : (if (l0.length : Int) = (l1.length : Int) then (laws_eqIntS.l0 k l0 l1 0) else (some false)) = some r := h
 clear h
 by_cases c3 : (l0.length : Int) = (l1.length : Int)
 rotate_left
 ·rw [if_neg c3] at H
  have c3b0 : ((l0.length : Int) == (l1.length : Int)) = false := beq_eq_false_iff_ne.mpr c3
  have c3b1 : ((l0.length : Int) != (l1.length : Int)) = true := bne_iff_ne.mpr c3
  have c3b2 : (l0.length == l1.length) = false := by first | simpa using c3 | (simp at c3 ⊢;omega)
  exact absurd (Option.some.inj H) (by rw [hT_.out];decide)
 rw [if_pos c3] at H
 have c3b0 : ((l0.length : Int) == (l1.length : Int)) = true := beq_iff_eq.mpr c3
 have c3b1 : ((l0.length : Int) != (l1.length : Int)) = false := bne_eq_false_iff_eq.mpr c3
 have c3b2 : (l0.length == l1.length) = true := by first | simpa using c3 | (simp at c3 ⊢;omega)
 clear c3
 have H' := m0_ H
 clear H
 go_enter Try.func27, Try.ntmps27
 go_wp2
 repeat (go_quiet (fail);try go_wp2)
 go_loopg [5] k (fun kq v5 w' => ∃ (x5_1 : Int), v5 = .int .i64 x5_1 ∧ Aside0 (laws_eqIntS.l0 kq l0 l1 x5_1 = some r) ∧ Aside0 (kq ≤ k) ∧ Drawn0 w w')
 case atStart => exact ⟨(0), (by first | rfl | (simp;done) | (simp [*];done)), H', ⟨Nat.le_refl _⟩, by repeat (first | exact Drawn0.refl _ | apply Drawn0.step)⟩
 case round =>
  clear H'
  try clear c1
  try clear c2
  try clear p2
  try clear c3
  try clear c3b0
  try clear c3b1
  try clear c3b2
  obtain ⟨x5_1, rfl, HA, HK1, ⟨m1, rfl⟩⟩ := hrel
  cases gk with
  | zero => exact absurd HA.out (by simp [laws_eqIntS.l0])
  | succ k1 =>
   have H := HA.out
   clear HA
   simp only [laws_eqIntS.l0] at H
   by_cases c4 : x5_1 < (l0.length : Int)
   rotate_left
   ·rw [if_neg c4] at H
    have c4b0 : decide (x5_1 < (l0.length : Int)) = false := decide_eq_false c4
    clear c4
    obtain rfl := Option.some.inj H
    go_wp2
    repeat (go_quiet (fail);try go_wp2)
    go_ret
    exact ⟨by first | rfl | (simp;done) | (simp [*];done), by repeat (first | exact Drawn0.refl _ | apply Drawn0.step)⟩
   rw [if_pos c4] at H
   have c4b0 : decide (x5_1 < (l0.length : Int)) = true := decide_eq_true c4
   clear c4
   by_cases c5 : 0 ≤ x5_1
   rotate_left
   ·rw [if_neg c5] at H
    exact absurd H (by simp)
   rw [if_pos c5] at H
   have c5b0 : decide (0 ≤ x5_1) = true := decide_eq_true c5
   clear c5
   by_cases c6 : x5_1 < (l1.length : Int)
   rotate_left
   ·rw [if_neg c6] at H
    exact absurd H (by simp)
   rw [if_pos c6] at H
   have c6b0 : decide (x5_1 < (l1.length : Int)) = true := decide_eq_true c6
   clear c6
   by_cases c7 : (rd l0 x5_1) = (rd l1 x5_1)
   rotate_left
   ·rw [if_neg c7] at H
    have c7b0 : ((rd l0 x5_1) == (rd l1 x5_1)) = false := beq_eq_false_iff_ne.mpr c7
    have c7b1 : ((rd l0 x5_1) != (rd l1 x5_1)) = true := bne_iff_ne.mpr c7
    exact absurd (Option.some.inj H) (by rw [hT_.out];decide)
   rw [if_pos c7] at H
   have c7b0 : ((rd l0 x5_1) == (rd l1 x5_1)) = true := beq_iff_eq.mpr c7
   have c7b1 : ((rd l0 x5_1) != (rd l1 x5_1)) = false := bne_eq_false_iff_eq.mpr c7
   clear c7
   have H' := m0_ H
   clear H
   have p101 : 0 ≤ (x5_1 : Int) := of_decide_eq_true (by first | (with_reducible assumption) | assumption)
   have q101 : x5_1 < (l0.length : Int) := of_decide_eq_true (by first | (with_reducible assumption) | assumption)
   obtain ⟨ad101, e101, hx101_0⟩ := Kd.at_int HR0.out x5_1 p101 q101
   cases e101
   replace p101 := eq_true p101
   replace q101 := eq_true q101
   have p102 : 0 ≤ (x5_1 : Int) := of_decide_eq_true (by first | (with_reducible assumption) | assumption)
   have q102 : x5_1 < (l1.length : Int) := of_decide_eq_true (by first | (with_reducible assumption) | assumption)
   obtain ⟨ad102, e102, hx102_0⟩ := Kd.at_int HR1.out x5_1 p102 q102
   cases e102
   replace p102 := eq_true p102
   replace q102 := eq_true q102
   go_wp2
   repeat (go_quiet (fail);try go_wp2)
   go_roundg k1
   case measure => have := HK1.out;omega
   case rel => exact ⟨(wrap64 (x5_1 + 1)), (by first | rfl | (simp;done) | (simp [*];done)), H', ⟨by have := HK1.out;omega⟩, by repeat (first | exact Drawn0.refl _ | apply Drawn0.step)⟩

def laws_markIntS.l0 : Nat → List Int → Int → Int → Option (Int × List Int)
 | 0, _, _, _ => none
 | k + 1, x0, x1, x5 => if x5 < (x0.length : Int) then (if 0 ≤ x5 then (laws_markIntS.l0 k (x0.set (x5 : Int).toNat x1) (wrap64 (x1 + 1)) (wrap64 (x5 + 1))) else (none)) else (some (x1, x0))
def laws_markIntS.f (k : Nat) (l0 : List Int) (a1 : Int) : Option (Int × List Int) := laws_markIntS.l0 k l0 a1 0
set_option maxHeartbeats 8000000 in
set_option maxRecDepth 100000 in
theorem laws_markIntS.calls (k : Nat) (P0_ : Nat → Prop) (u9000_ : Value) (l0 : List Int) (a1 : Int) (r1 : Int) (r2 : List Int) (w0 w : World) (hB : Below w0.heap.size w0 w) (ho0 : Kd.R (Kd.int .i64) 3 w w0.heap.size P0_ u9000_ l0) (h : laws_markIntS.f k l0 a1 = some (r1, r2)) :
  Calls Try.prog 29 #[u9000_, .int .i64 a1] w fun e w' => e = .returned (.int .i64 r1) ∧ Kd.R (Kd.int .i64) 3 w' w0.heap.size (fun k_ => (P0_ k_ ∨ w.heap.size ≤ k_)) u9000_ r2 ∧ Below w0.heap.size w0 w' ∧ Kept w w' (fun k_ => P0_ k_) := by
 have HO0 := m0_ (show Kd.R (Kd.int .i64) 3 w w0.heap.size (fun k_ => (P0_ k_ ∨ w.heap.size ≤ k_)) u9000_ l0 from Kd.R_mono ho0 (fun k_ hk => (.inl hk)))
 have HK := m0_ (Kept.refl w (fun k_ => P0_ k_))
 have HW0 := m0_ hB.size
 have HB := m0_ hB
 clear hB
 have H : (laws_markIntS.l0 k l0 a1 0) = some (r1, r2) := h
 clear h
 have H' := m0_ H
 clear H
 go_enter Try.func29, Try.ntmps29
 go_wp2
 go_loopg [1, 5] k (fun kq v1 v5 w' => ∃ (x0_1 : List Int) (x1_1 : Int) (x5_1 : Int), v1 = .int .i64 x1_1 ∧ v5 = .int .i64 x5_1 ∧ Aside0 (laws_markIntS.l0 kq x0_1 x1_1 x5_1 = some (r1, r2)) ∧ Aside0 (kq ≤ k) ∧ Aside0 (Kd.R (Kd.int .i64) 3 w' w0.heap.size (fun k_ => (P0_ k_ ∨ w.heap.size ≤ k_)) u9000_ x0_1) ∧ Aside0 (Kept w w' (fun k_ => P0_ k_)) ∧ Aside0 (Below w0.heap.size w0 w'))
 case atStart => exact ⟨(l0), (a1), (0), (by first | rfl | (simp;done) | (simp [*];done)), (by first | rfl | (simp;done) | (simp [*];done)), H', ⟨Nat.le_refl _⟩, ⟨by (with_reducible repeat (first | apply Kd.R_alloc | apply Kd.R_drewN | apply Kd.R_drew));exact HO0.out⟩, ⟨by repeat (first | (with_reducible first | exact HK.out | apply Kept.alloc | apply Kept.drewN | apply Kept.drew) | exact HK.out)⟩, ⟨by repeat (first | (with_reducible first | exact HB.out | apply below_alloc | apply pw_below_drewN | apply below_drew1) | exact HB.out)⟩⟩
 case round =>
  clear H'
  try clear c2
  try clear p2
  obtain ⟨x0_1, x1_1, x5_1, rfl, rfl, HA, HK1, HO_0, HK, HB⟩ := hrel
  cases gk with
  | zero => exact absurd HA.out (by simp [laws_markIntS.l0])
  | succ k1 =>
   have H := HA.out
   clear HA
   simp only [laws_markIntS.l0] at H
   by_cases c3 : x5_1 < (x0_1.length : Int)
   rotate_left
   ·rw [if_neg c3] at H
    have c3b0 : decide (x5_1 < (x0_1.length : Int)) = false := decide_eq_false c3
    clear c3
    simp only [Option.some.injEq, Prod.mk.injEq] at H
    obtain ⟨rfl, rfl⟩ := H
    obtain ⟨Ao9, co9, eo9⟩ := Kd.R_slice HO_0.out
    subst eo9
    go_wp2
    go_ret
    exact ⟨by first | rfl | (simp [errW_none, errW_some] <;> rfl) | (simp [*, errW_none, errW_some] <;> rfl), by (with_reducible repeat (first | apply Kd.R_alloc | apply Kd.R_drewN | apply Kd.R_drew));exact HO_0.out, by repeat (first | (with_reducible first | exact HB.out | apply below_alloc | apply pw_below_drewN | apply below_drew1) | exact HB.out), by repeat (first | (with_reducible first | exact HK.out | apply Kept.alloc | apply Kept.drewN | apply Kept.drew) | exact HK.out)⟩
   rw [if_pos c3] at H
   have c3b0 : decide (x5_1 < (x0_1.length : Int)) = true := decide_eq_true c3
   clear c3
   by_cases c4 : 0 ≤ x5_1
   rotate_left
   ·rw [if_neg c4] at H
    exact absurd H (by simp)
   rw [if_pos c4] at H
   have c4b0 : decide (0 ≤ x5_1) = true := decide_eq_true c4
   clear c4
   obtain ⟨y101, hy101⟩ : ∃ y_ : List Int, y_ = (x0_1.set (x5_1 : Int).toNat x1_1) := ⟨_, rfl⟩
   replace H : (laws_markIntS.l0 k1 y101 (wrap64 (x1_1 + 1)) (wrap64 (x5_1 + 1))) = some (r1, r2) := by first | (rw [hy101];with_reducible exact H) | (have H2_ := (Option.bind_some _ _).symm.trans H;rw [hy101];with_reducible exact H2_) | (have H2_ := (Option.bind_some _ _).symm.trans H;with_reducible exact H2_) | with_reducible exact H | (rw [hy101];exact H) | exact H
   have Ny101 := m0_ hy101
   clear hy101
   have H' := m0_ H
   clear H
   obtain ⟨Ao6, co6, eo6⟩ := Kd.R_slice HO_0.out
   subst eo6
   have p5 : 0 ≤ (x5_1 : Int) := of_decide_eq_true (by first | (with_reducible assumption) | assumption)
   have q5 : (x5_1 : Int) < ((x0_1.length : Int) : Int) := of_decide_eq_true (by first | (with_reducible assumption) | assumption)
   obtain ⟨go5, co5, eo5, gb5, gl5, cl5, HG5⟩ := Kd.R_form HO_0.out (by omega)
   (first | cases eo5 | (injection eo5 with ea_ en_ ec_;(first | subst ea_ | (injection ea_ with ea_;subst ea_));subst ec_;clear en_))
   have GB5 := m0_ gb5
   have GG5 := m0_ HG5
   clear gb5 gl5 HG5
   have HMgo5 := m0_ (show (P0_ go5 ∨ w.heap.size ≤ go5) from (HO_0.out.1 _ rfl))
   obtain ⟨hx5_0, hf5_0⟩ := Kd.R_celln 0 HO_0.out (x5_1 : Int) p5 q5
   replace p5 := eq_true p5
   replace q5 := eq_true q5
   have HP7 := Kd.R_putg HO_0.out (x5_1 : Int) x1_1
   go_wp2_with (first | ((with_reducible refine gate_store (t := 3) (p := 15) rfl ?_);refine store_event (t := 3) (p := 15) (v := ?vo_w8) (w1 := (wr.setCell ⟨go5, (x5_1 : Int).toNat, none⟩ (.int .i64 x1_1))) ?hg ?ho ?hn ?hr ?_;(case ho => rfl);(case hg => rfl);(case hn => rfl);(case hr => first | (go_simp;done) | (go_simp;rfl));intro w8 hw;have hg : wr.grownBy w8 (some go5) := (by rw [hw];exact HP7.2);have hp_ : Kd.R (Kd.int .i64) 3 w8 w0.heap.size (fun k_ => (P0_ k_ ∨ w.heap.size ≤ k_)) (.slice (some ⟨go5, 0, none⟩) x0_1.length co6) y101 := (by rw [hw, Ny101.out];exact HP7.1);clear HP7;replace HB := m0_ ((by rw [hw];exact below_set (HB.out) GB5.out : Below w0.heap.size w0 w8));replace HK := m0_ (Kept.of_grown (S := (fun k_ => P0_ k_)) hg (by repeat (first | (with_reducible first | exact HK.out | apply Kept.alloc | apply Kept.drewN | apply Kept.drew) | exact HK.out)) (fun k_ e_ => (HO_0.out.1 k_ e_)));replace HO_0 := m0_ (hp_);clear hg hw hp_))
   go_roundg k1
   case measure => have := HK1.out;omega
   case rel => exact ⟨(y101), (wrap64 (x1_1 + 1)), (wrap64 (x5_1 + 1)), (by first | rfl | (simp;done) | (simp [*];done)), (by first | rfl | (simp;done) | (simp [*];done)), H', ⟨by have := HK1.out;omega⟩, ⟨by (with_reducible repeat (first | apply Kd.R_alloc | apply Kd.R_drewN | apply Kd.R_drew));exact HO_0.out⟩, ⟨by repeat (first | (with_reducible first | exact HK.out | apply Kept.alloc | apply Kept.drewN | apply Kept.drew) | exact HK.out)⟩, ⟨by repeat (first | (with_reducible first | exact HB.out | apply below_alloc | apply pw_below_drewN | apply below_drew1) | exact HB.out)⟩⟩

def laws_heldIntS.l0 : Nat → List Int → Int → Int → Option (Int)
 | 0, _, _, _ => none
 | k + 1, x0, x1, x5 => if x5 < (x0.length : Int) then (if 0 ≤ x5 then (if (rd x0 x5) = x1 then (laws_heldIntS.l0 k x0 (wrap64 (x1 + 1)) (wrap64 (x5 + 1))) else (some (-1))) else (none)) else (some x1)
def laws_heldIntS.f (k : Nat) (l0 : List Int) (a1 : Int) : Option (Int) := laws_heldIntS.l0 k l0 a1 0
set_option maxHeartbeats 8000000 in
set_option maxRecDepth 100000 in
theorem laws_heldIntS.calls (k : Nat) (A0 : Option Addr) (c0 : Nat) (l0 : List Int) (a1 : Int) (r : Int) (w : World) (hr0 : Kd.C (Kd.int .i64) w A0 l0.length l0) (hc0 : l0.length ≤ c0) (h : laws_heldIntS.f k l0 a1 = some r) :
  Calls Try.prog 30 #[.slice A0 l0.length c0, .int .i64 a1] w fun e w' => e = .returned (.int .i64 r) ∧ Drawn0 w w' := by
 have HR0 := m0_ hr0
 have HC0 := m0_ hc0
 clear hr0 hc0
 have H : (laws_heldIntS.l0 k l0 a1 0) = some r := h
 clear h
 have H' := m0_ H
 clear H
 go_enter Try.func30, Try.ntmps30
 go_wp2
 go_loopg [1, 5] k (fun kq v1 v5 w' => ∃ (x1_1 : Int) (x5_1 : Int), v1 = .int .i64 x1_1 ∧ v5 = .int .i64 x5_1 ∧ Aside0 (laws_heldIntS.l0 kq l0 x1_1 x5_1 = some r) ∧ Aside0 (kq ≤ k) ∧ Drawn0 w w')
 case atStart => exact ⟨(a1), (0), (by first | rfl | (simp;done) | (simp [*];done)), (by first | rfl | (simp;done) | (simp [*];done)), H', ⟨Nat.le_refl _⟩, by repeat (first | exact Drawn0.refl _ | apply Drawn0.step)⟩
 case round =>
  clear H'
  try clear p2
  obtain ⟨x1_1, x5_1, rfl, rfl, HA, HK1, ⟨m1, rfl⟩⟩ := hrel
  cases gk with
  | zero => exact absurd HA.out (by simp [laws_heldIntS.l0])
  | succ k1 =>
   have H := HA.out
   clear HA
   simp only [laws_heldIntS.l0] at H
   by_cases c3 : x5_1 < (l0.length : Int)
   rotate_left
   ·rw [if_neg c3] at H
    have c3b0 : decide (x5_1 < (l0.length : Int)) = false := decide_eq_false c3
    clear c3
    obtain rfl := Option.some.inj H
    go_wp2
    go_ret
    exact ⟨by first | rfl | (simp;done) | (simp [*];done), by repeat (first | exact Drawn0.refl _ | apply Drawn0.step)⟩
   rw [if_pos c3] at H
   have c3b0 : decide (x5_1 < (l0.length : Int)) = true := decide_eq_true c3
   clear c3
   by_cases c4 : 0 ≤ x5_1
   rotate_left
   ·rw [if_neg c4] at H
    exact absurd H (by simp)
   rw [if_pos c4] at H
   have c4b0 : decide (0 ≤ x5_1) = true := decide_eq_true c4
   clear c4
   by_cases c5 : (rd l0 x5_1) = x1_1
   rotate_left
   ·rw [if_neg c5] at H
    have c5b0 : ((rd l0 x5_1) == x1_1) = false := beq_eq_false_iff_ne.mpr c5
    have c5b1 : ((rd l0 x5_1) != x1_1) = true := bne_iff_ne.mpr c5
    obtain rfl := Option.some.inj H
    have p101 : 0 ≤ (x5_1 : Int) := of_decide_eq_true (by first | (with_reducible assumption) | assumption)
    have q101 : x5_1 < (l0.length : Int) := of_decide_eq_true (by first | (with_reducible assumption) | assumption)
    obtain ⟨ad101, e101, hx101_0⟩ := Kd.at_int HR0.out x5_1 p101 q101
    cases e101
    replace p101 := eq_true p101
    replace q101 := eq_true q101
    go_wp2
    go_ret
    exact ⟨by first | rfl | (simp;done) | (simp [*];done), by repeat (first | exact Drawn0.refl _ | apply Drawn0.step)⟩
   rw [if_pos c5] at H
   have c5b0 : ((rd l0 x5_1) == x1_1) = true := beq_iff_eq.mpr c5
   have c5b1 : ((rd l0 x5_1) != x1_1) = false := bne_eq_false_iff_eq.mpr c5
   clear c5
   have H' := m0_ H
   clear H
   have p101 : 0 ≤ (x5_1 : Int) := of_decide_eq_true (by first | (with_reducible assumption) | assumption)
   have q101 : x5_1 < (l0.length : Int) := of_decide_eq_true (by first | (with_reducible assumption) | assumption)
   obtain ⟨ad101, e101, hx101_0⟩ := Kd.at_int HR0.out x5_1 p101 q101
   cases e101
   replace p101 := eq_true p101
   replace q101 := eq_true q101
   go_wp2
   go_roundg k1
   case measure => have := HK1.out;omega
   case rel => exact ⟨(wrap64 (x1_1 + 1)), (wrap64 (x5_1 + 1)), (by first | rfl | (simp;done) | (simp [*];done)), (by first | rfl | (simp;done) | (simp [*];done)), H', ⟨by have := HK1.out;omega⟩, by repeat (first | exact Drawn0.refl _ | apply Drawn0.step)⟩

end Go.Proofs.Ytdljhokealbnnaa.M
namespace Go.Proofs.Ytdljhokealbnnaa.M
set_option linter.unusedVariables false
set_option linter.unusedSimpArgs false
open Go Go.RowKit Go.Proofs.YtdljhokealbnnaaW.PrintWords Go.Proofs.YtdljhokealbnnaaW.PrintLast Go.Proofs.YtdljhokealbnnaaW.PrintMore

theorem keep_setRow {w : World} {g : Nat} (cs : Array Value) : KeepBut w (w.setRow g cs) g none := ⟨by simp [World.setRow], fun k _ hk _ => setRow_other w g k cs hk⟩
theorem store_blk {P : Program} {ops : Array Oper} {rest : List Oper} {o : Oper} {a : Act} {Q : Exit → Act → World → Prop} {W w0 : World} {base : Nat} (hgd : o.guard = none) (hN : o.dst = none) {t e : TypeId} {p : Tmp} {v : Operand} (ho : o.op = .store t (.tmp p) v) {g off : Nat} {cur cur' : Array Value} {u : Value} {seg : List Value}
    (hp : a.eval (.tmp p) = .pointer (some ⟨g, off, none⟩)) (hx : a.eval v = u) (hg : W.heap[g]? = some (.cells cur e (0, 0))) (hu : u.cells.toList = seg) (ht : (P.info? t).map (·.size) = some seg.length) (h1 : ∀ q ∈ seg, q.oneCell' = true) (hfit : off + seg.length ≤ cur.size) (hcur : (cur.toList.take off ++ seg ++ cur.toList.drop (off + seg.length)).toArray = cur')
    (hB : Below base w0 W) (hbg : base ≤ g)
    (h : ∀ w', w'.heap[g]? = some (.cells cur' e (0, 0)) → KeepBut W w' g none → Below base w0 w' → wpList P ops Q rest a w') : wpList P ops Q (o :: rest) a W := by
  obtain ⟨i, hi, hsz⟩ := Option.map_eq_some_iff.1 ht
  have hc : u.cells.size = i.size := by rw [hsz, ← hu, Array.length_toList]
  have hst := run_storeCells_at P g off e seg 0 cur W hg (by simpa using hfit) h1
  refine wpList_plain hgd fun K hK => ?_
  have hrun : (execOp a.eval o).run P W = .ok .skip (W.setRow g (cur.toList.take off ++ seg ++ cur.toList.drop (off + seg.length)).toArray) := by
    rw [Nat.add_zero] at hst
    simp [execOp, ho, hp, hx, Instr.storeAt, Instr.sureAddr, storeVar, sizeOf, typeInfo, hi, hc, hu, hst, Result.andThen]
  unfold Oper.wp
  rw [hrun]
  show K (a.put o.dst undef) _
  rw [hN]
  refine hK _ _ (h _ ?_ (keep_setRow _) (below_setRow hB hbg _))
  rw [setRow_heap W g cur _ e _ hg, hcur]
def SimC (cs cs' : Array Value) : Prop := cs'.size = cs.size ∧ ∀ i : Nat, cs'[i]? = cs[i]? ∨ ∃ a b, cs[i]? = some (.int .i64 a) ∧ cs'[i]? = some (.int .i64 b)
theorem SimC.refl (cs : Array Value) : SimC cs cs := ⟨rfl, fun _ => .inl rfl⟩
theorem SimC.trans {a b c : Array Value} (h : SimC a b) (g : SimC b c) : SimC a c := by
  refine ⟨g.1.trans h.1, fun i => ?_⟩
  rcases g.2 i with e | ⟨p, q, e1, e2⟩
  · rcases h.2 i with e' | ⟨p, q, e1, e2⟩
    · exact .inl (e.trans e')
    · exact .inr ⟨p, q, e1, e.trans e2⟩
  · rcases h.2 i with e' | ⟨p', q', e1', e2'⟩
    · exact .inr ⟨p, q, e'.symm.trans e1, e2⟩
    · exact .inr ⟨p', q, e1', e2⟩
theorem SimC.set {cs : Array Value} {i : Nat} {a : Int} (h : cs[i]? = some (.int .i64 a)) (b : Int) : SimC cs (cs.setIfInBounds i (.int .i64 b)) := by
  obtain ⟨hi, _⟩ := Array.getElem?_eq_some_iff.1 h
  refine ⟨by simp, fun j => ?_⟩
  by_cases e : i = j
  · subst e
    exact .inr ⟨a, b, h, by simp [hi]⟩
  · exact .inl (by simp [Array.getElem?_setIfInBounds, e])
structure Numb (P : Nat → Prop) (W W1 : World) : Prop where
  kept : Kept W W1 P
  sim : ∀ k, P k → ∀ cells t, W.heap[k]? = some (.cells cells t (0, 0)) → ∃ cells', W1.heap[k]? = some (.cells cells' t (0, 0)) ∧ SimC cells cells'
theorem Numb.refl (P : Nat → Prop) (W : World) : Numb P W W := ⟨Kept.refl W P, fun _ _ cells _ h => ⟨cells, h, SimC.refl _⟩⟩
theorem Numb.trans {P : Nat → Prop} {W W1 W2 : World} (h : Numb P W W1) (g : Numb P W1 W2) : Numb P W W2 := by
  refine ⟨⟨Nat.le_trans h.kept.1 g.kept.1, fun i hi hn => (g.kept.2 i (Nat.lt_of_lt_of_le hi h.kept.1) hn).trans (h.kept.2 i hi hn)⟩, fun k hk cells t hc => ?_⟩
  obtain ⟨c1, h1, s1⟩ := h.sim k hk cells t hc
  obtain ⟨c2, h2, s2⟩ := g.sim k hk c1 t h1
  exact ⟨c2, h2, s1.trans s2⟩
theorem Numb.mono {P Q : Nat → Prop} {W W1 : World} (h : Numb P W W1) (hq : ∀ k, P k → Q k) : Numb Q W W1 := by
  refine ⟨⟨h.kept.1, fun i hi hn => h.kept.2 i hi (fun hp => hn (hq i hp))⟩, fun k hk cells t hc => ?_⟩
  by_cases hp : P k
  · exact h.sim k hp cells t hc
  · exact ⟨cells, (h.kept.2 k (blk_lt hc) hp).trans hc, SimC.refl _⟩
theorem Numb.of_below {P : Nat → Prop} {W W1 : World} (hb : Below W.heap.size W W1) : Numb P W W1 := ⟨Kept.of_below hb P, fun k _ cells _ hc => ⟨cells, (hb.block k (blk_lt hc)).trans hc, SimC.refl _⟩⟩
def ShRow (W : World) (P : Nat → Prop) : Nat → Value → List S37 → Prop
  | 0, _, _ => False
  | n + 1, v, xs => (v = .slice none 0 0 ∧ xs = []) ∨ ∃ g cap cells, v = .slice (some ⟨g, 0, none⟩) xs.length cap ∧ P g ∧ xs.length ≤ cap ∧ W.heap[g]? = some (.cells cells 37 (0, 0)) ∧ cells.size = cap * 4 ∧ cap ≤ maxLen ∧
      ∀ i x, xs[i]? = some x → ∃ a b c v3, cells[i * 4]? = some (.int .i64 a) ∧ cells[i * 4 + 1]? = some (.int .i64 b) ∧ cells[i * 4 + 2]? = some (.int .i64 c) ∧ cells[i * 4 + 3]? = some v3 ∧ ShRow W P n v3 x.f3
theorem ShRow.notint {W : World} {P : Nat → Prop} {n : Nat} {v : Value} {xs : List S37} (h : ShRow W P n v xs) (a : Int) : v ≠ .int .i64 a := by
  cases n with
  | zero => exact h.elim
  | succ n =>
    rcases h with ⟨rfl, _⟩ | ⟨g, cap, cells, rfl, _⟩
    · intro e; cases e
    · intro e; cases e
theorem ShRow.numb {P : Nat → Prop} {W W1 : World} (hm : Numb P W W1) : ∀ (n : Nat) (v : Value) (xs : List S37), ShRow W P n v xs → ShRow W1 P n v xs
  | 0, _, _, h => h
  | n + 1, v, xs, h => by
    rcases h with h | ⟨g, cap, cells, hv, hp, hl, hg, hs, hc, hx⟩
    · exact .inl h
    obtain ⟨cells', hg', hsz, hsim⟩ := hm.sim g hp cells _ hg
    refine .inr ⟨g, cap, cells', hv, hp, hl, hg', hsz.trans hs, hc, fun i x hi => ?_⟩
    obtain ⟨a, b, c, v3, h0, h1, h2, h3, hr⟩ := hx i x hi
    have num : ∀ (j : Nat) (p : Int), cells[j]? = some (.int .i64 p) → ∃ q, cells'[j]? = some (.int .i64 q) := by
      intro j p hj
      rcases hsim j with e | ⟨_, q, _, e⟩
      · exact ⟨p, e.trans hj⟩
      · exact ⟨q, e⟩
    obtain ⟨a', h0⟩ := num _ _ h0
    obtain ⟨b', h1⟩ := num _ _ h1
    obtain ⟨c', h2⟩ := num _ _ h2
    refine ⟨a', b', c', v3, h0, h1, h2, ?_, ShRow.numb hm n v3 x.f3 hr⟩
    rcases hsim (i * 4 + 3) with e | ⟨p, q, e, _⟩
    · exact e.trans h3
    · rw [h3] at e
      exact absurd (Option.some.inj e) (hr.notint p)
theorem take4 {cs : List Value} {a b c d : Value} {j : Nat} (h : (cs.drop j).take 4 = [a, b, c, d]) : cs[j]? = some a ∧ cs[j + 1]? = some b ∧ cs[j + 2]? = some c ∧ cs[j + 3]? = some d := by
  have key : ∀ q, q < 4 → cs[j + q]? = [a, b, c, d][q]? := by
    intro q hq
    rw [← h, List.getElem?_take_of_lt hq, List.getElem?_drop]
  exact ⟨key 0 (by omega), key 1 (by omega), key 2 (by omega), key 3 (by omega)⟩
theorem R_ShRow {base : Nat} {W : World} : ∀ (n : Nat) (P : Nat → Prop) (v : Value) (xs : List S37), (Kd.upto F37 4 [37] n).R 37 W base P v xs → ShRow W P (n + 1) v xs := by
  intro n
  induction n with
  | zero =>
    rintro P v xs ⟨h0, inner, ⟨hlen, ho⟩, hr⟩
    cases xs with
    | nil =>
      rcases ho with ⟨rfl, _⟩ | ⟨g, cap, cur, rfl, hg, hh, hl, hm, hs, ht⟩
      · exact .inl ⟨rfl, rfl⟩
      · exact .inr ⟨g, cap, cur, rfl, h0 g rfl, hl, hh, hs, hm, fun i x hi => by simp at hi⟩
    | cons x xs => exact (hr.2 0 x rfl).elim
  | succ n ih =>
    rintro P v xs ⟨h0, inner, ⟨hlen, ho⟩, hr⟩
    rw [sz37] at ho
    rcases ho with ⟨rfl, e⟩ | ⟨g, cap, cur, rfl, hg, hh, hl, hm, hs, ht⟩
    · exact .inl ⟨rfl, List.eq_nil_of_length_eq_zero e⟩
    refine .inr ⟨g, cap, cur, rfl, h0 g rfl, hl, hh, hs, hm, fun i x hi => ?_⟩
    have hM := hr.2 i x hi
    obtain ⟨_, _, e0, rfl, ⟨_, _, rfl, rfl, ⟨_, _, rfl, rfl, ⟨v3, rfl, g3⟩⟩⟩⟩ := hM
    obtain ⟨k0, k1, k2, k3⟩ := take4 e0
    have up : ∀ (j : Nat) (u : Value), inner[j]? = some u → cur[j]? = some u := by
      intro j u hu
      rw [← ht] at hu
      have hlt : j < xs.length * 4 := by
        have := (List.getElem?_eq_some_iff.1 hu).1
        rw [List.length_take] at this
        omega
      rw [List.getElem?_take_of_lt hlt] at hu
      simpa using hu
    exact ⟨_, _, _, v3, up _ _ k0, up _ _ k1, up _ _ k2, up _ _ k3, ih P v3 x.f3 (Kd.R_mono g3 (fun k hk => hk.1))⟩
theorem shape_of {base : Nat} {W : World} {P : Nat → Prop} {v : Value} {xs : List S37} (h : k37.R 37 W base P v xs) : ∃ n, ShRow W P n v xs := by
  obtain ⟨n, h⟩ := Kd.fix_R_back mono37 h
  exact ⟨n + 1, R_ShRow n P v xs h⟩
theorem set_list {cs : Array Value} {off : Nat} {u : Value} (h : off < cs.size) : (cs.toList.take off ++ [u] ++ cs.toList.drop (off + 1)).toArray = cs.setIfInBounds off u := by
  apply Array.ext'
  rw [Array.toList_setIfInBounds, List.set_eq_take_append_cons_drop, if_pos (by simpa using h)]
  simp
theorem store_one {P : Program} {ops : Array Oper} {rest : List Oper} {o : Oper} {a : Act} {Q : Exit → Act → World → Prop} {W w0 : World} {base : Nat} (hgd : o.guard = none) (hN : o.dst = none) {t e : TypeId} {p : Tmp} {v : Operand} (ho : o.op = .store t (.tmp p) v) {g off : Nat} {cur : Array Value} {u : Value}
    (hp : a.eval (.tmp p) = .pointer (some ⟨g, off, none⟩)) (hx : a.eval v = u) (hg : W.heap[g]? = some (.cells cur e (0, 0))) (hu : u.cells.toList = [u]) (ht : (P.info? t).map (·.size) = some 1) (h1 : u.oneCell' = true) (hoff : off < cur.size)
    (hB : Below base w0 W) (hbg : base ≤ g)
    (h : ∀ w', w'.heap[g]? = some (.cells (cur.setIfInBounds off u) e (0, 0)) → KeepBut W w' g none → Below base w0 w' → wpList P ops Q rest a w') : wpList P ops Q (o :: rest) a W :=
  store_blk hgd hN ho hp hx hg hu ht (fun q hq => by rw [List.mem_singleton.1 hq]; exact h1) (show off + 1 ≤ cur.size from hoff) (set_list hoff) hB hbg h
theorem Numb.store {P : Nat → Prop} {W W1 : World} {g off e : Nat} {cur : Array Value} {a b : Int} (hp : P g) (hg : W.heap[g]? = some (.cells cur e (0, 0))) (ho : cur[off]? = some (.int .i64 a)) (h1 : W1.heap[g]? = some (.cells (cur.setIfInBounds off (.int .i64 b)) e (0, 0))) (hk : KeepBut W W1 g none) : Numb P W W1 := by
  refine ⟨⟨hk.1, fun i hi hn => hk.2 i hi (fun e => hn (e ▸ hp)) (by simp)⟩, fun k hk' cells t hc => ?_⟩
  by_cases e : k = g
  · subst e
    rw [hg] at hc
    injection hc with hc
    injection hc with c1 c2
    subst c1
    subst c2
    exact ⟨_, h1, SimC.set ho b⟩
  · exact ⟨cells, (hk.2 k (blk_lt hc) e (by simp)).trans hc, SimC.refl _⟩
theorem ShRow.keep {P : Nat → Prop} {W W1 : World} {g t : Nat} {cs : Array Value} (hg : W.heap[g]? = some (.cells cs t (0, 0))) (ht : t ≠ 37) (hk : KeepBut W W1 g none) : ∀ (n : Nat) (v : Value) (xs : List S37), ShRow W P n v xs → ShRow W1 P n v xs
  | 0, _, _, h => h
  | n + 1, v, xs, h => by
    rcases h with h | ⟨g', cap, cells, hv, hp, hl, hg', hs, hc, hx⟩
    · exact .inl h
    have hne : g' ≠ g := by
      rintro rfl
      rw [hg] at hg'
      injection hg' with hg'
      injection hg' with _ c2
      exact ht c2
    refine .inr ⟨g', cap, cells, hv, hp, hl, (hk.2 g' (blk_lt hg') hne (by simp)).trans hg', hs, hc, fun i x hi => ?_⟩
    obtain ⟨a, b, c, v3, h0, h1, h2, h3, hr⟩ := hx i x hi
    exact ⟨a, b, c, v3, h0, h1, h2, h3, ShRow.keep hg ht hk n v3 x.f3 hr⟩
theorem ShRow.slice {W : World} {P : Nat → Prop} {n : Nat} {v : Value} {xs : List S37} (h : ShRow W P n v xs) : ∃ A c, v = .slice A xs.length c ∧ xs.length ≤ maxLen := by
  cases n with
  | zero => exact h.elim
  | succ n =>
    rcases h with ⟨rfl, rfl⟩ | ⟨g, cap, cells, rfl, _, hl, _, _, hm, _⟩
    · exact ⟨none, 0, rfl, Nat.zero_le _⟩
    · exact ⟨_, _, rfl, Nat.le_trans hl hm⟩
theorem ShRow.at {W : World} {P : Nat → Prop} {n c : Nat} {A : Option Addr} {xs : List S37} (h : ShRow W P n (.slice A xs.length c) xs) (i : Nat) (hi : i < xs.length) :
    ∃ (g m : Nat) (cells : Array Value) (a b d : Int) (v3 : Value), A = some ⟨g, 0, none⟩ ∧ P g ∧ W.heap[g]? = some (.cells cells 37 (0, 0)) ∧ cells[i * 4]? = some (.int .i64 a) ∧ cells[i * 4 + 1]? = some (.int .i64 b) ∧ cells[i * 4 + 2]? = some (.int .i64 d) ∧ cells[i * 4 + 3]? = some v3 ∧ ShRow W P m v3 (xs.getD i z37).f3 := by
  cases n with
  | zero => exact h.elim
  | succ n =>
    rcases h with ⟨hv, rfl⟩ | ⟨g, cap, cells, hv, hp, hl, hg, hs, hm, hx⟩
    · simp at hi
    obtain ⟨a, b, d, v3, h0, h1, h2, h3, hr⟩ := hx i _ (List.getElem?_eq_getElem hi)
    injection hv with e1 e2 e3
    refine ⟨g, n, cells, a, b, d, v3, e1, hp, hg, h0, h1, h2, h3, ?_⟩
    rw [List.getD_eq_getElem?_getD, List.getElem?_eq_getElem hi]
    exact hr
def marksE : Nat → List S37 → Int → Option Int
  | 0, _, _ => none
  | _ + 1, [], a => some a
  | k + 1, x :: xs, a => (marksE k x.f3 (wrap64 (wrap64 (wrap64 (a + 1) + 1) + 1))).bind fun b => marksE k xs b
set_option maxHeartbeats 4000000 in
set_option maxRecDepth 100000 in
theorem markExS_walk : ∀ (k : Nat) (xs : List S37) (a r : Int) (n : Nat) (P : Nat → Prop) (v : Value) (w0 w : World), marksE k xs a = some r → ShRow w P n v xs → Below w0.heap.size w0 w → (∀ q, P q → w0.heap.size ≤ q) →
    Calls Try.prog 65 #[v, .int .i64 a] w fun e w' => e = .returned (.int .i64 r) ∧ Numb P w w' ∧ Below w0.heap.size w0 w' := by
  intro k
  induction k using Nat.strongRecOn with
  | ind k ih =>
  intro xs a r n P v w0 w hk hs hB hP
  obtain ⟨A, c, rfl, hl⟩ := hs.slice
  have HI := m0_ ih
  have HK := m0_ (show marksE k (xs.drop (0 : Int).toNat) a = some r from hk)
  have HS := m0_ hs
  have HM := m0_ (Numb.refl P w)
  have HB := m0_ hB
  have HP := m0_ hP
  have HX := m0_ hl
  have hu_ := Try.underlying37
  clear ih hk hs hB hP hl
  go_enter Try.func65, Try.ntmps65
  go_wp2
  go_loopg [1, 5] k (fun kq v1 v5 w' => ∃ (x1 : Int) (x5 : Int), v1 = .int .i64 x1 ∧ v5 = .int .i64 x5 ∧ Aside0 (marksE kq (xs.drop x5.toNat) x1 = some r) ∧ Aside0 (0 ≤ x5 ∧ x5.toNat ≤ xs.length) ∧ Aside0 (kq ≤ k) ∧ Aside0 (ShRow w' P n (.slice A xs.length c) xs) ∧ Aside0 (Numb P w w') ∧ Aside0 (Below w0.heap.size w0 w'))
  case atStart => exact ⟨a, 0, rfl, rfl, HK, ⟨Int.le_refl _, Nat.zero_le _⟩, ⟨Nat.le_refl _⟩, HS, HM, HB⟩
  case round =>
    clear HS HM HB HK
    obtain ⟨x1, x5, rfl, rfl, HA, H5, HK1, HS, HM, HB⟩ := hrel
    cases gk with
    | zero => exact absurd HA.out (by simp [marksE])
    | succ k1 =>
      have H := HA.out
      clear HA
      by_cases c1 : x5 < (xs.length : Int)
      rotate_left
      · have hd : xs.drop x5.toNat = [] := List.drop_of_length_le (by omega)
        rw [hd] at H
        unfold marksE at H
        obtain rfl := Option.some.inj H
        have c1b : decide (x5 < (xs.length : Int)) = false := decide_eq_false c1
        go_wp2
        go_ret
        exact ⟨rfl, HM.out, HB.out⟩
      have c2 : 0 ≤ x5 := H5.out.1
      have hlt : x5.toNat < xs.length := by omega
      have HL := m0_ hlt
      have ed : xs.drop x5.toNat = xs.getD x5.toNat z37 :: xs.drop (x5.toNat + 1) := by rw [List.drop_eq_getElem_cons hlt, List.getD_eq_getElem?_getD, List.getElem?_eq_getElem hlt]; rfl
      rw [ed] at H
      clear ed
      unfold marksE at H
      obtain ⟨y, hy⟩ : ∃ y, xs.getD x5.toNat z37 = y := ⟨_, rfl⟩
      rw [hy] at H
      have HY := m0_ hy
      clear hy
      obtain ⟨b, hb, H⟩ := Option.bind_eq_some_iff.1 H
      have HC := m0_ hb
      have HN := m0_ H
      clear H hb
      obtain ⟨go, m_, cells_, a_, b_, d_, v_, eA_, hp_, hg_, h0_, h1_, h2_, h3_, hr_⟩ := ShRow.at HS.out x5.toNat hlt
      subst eA_
      clear hp_ hg_ h0_ h1_ h2_ h3_ hr_ hlt
      have c1b : decide (x5 < (xs.length : Int)) = true := decide_eq_true c1
      have p5 := eq_true c2
      have q5 := eq_true c1
      go_wp2_with (first | ((with_reducible refine gate_store (t := 3) (p := 16) rfl ?_); obtain ⟨g_, m_, cells_, a_, b_, d_, v_, eA_, hp_, hg_, h0_, h1_, h2_, h3_, hr_⟩ := ShRow.at HS.out x5.toNat (by have := HL.out; omega); injection eA_ with eA_; injection eA_ with eA_; subst eA_; refine store_one (w0 := w0) (base := w0.heap.size) (e := 37) (g := go) (off := x5.toNat * 4) (cur := cells_) (u := .int .i64 x1) rfl rfl rfl rfl rfl hg_ rfl (by kernel_rfl) rfl (Array.getElem?_eq_some_iff.1 h0_).1 HB.out (HP.out go hp_) ?_; intro w16 hs_ hk_ hB_; have hm_ := Numb.store hp_ hg_ h0_ hs_ hk_; have n0_ := m0_ (HM.out.trans hm_); have n1_ := m0_ (ShRow.numb hm_ _ _ _ HS.out); have n2_ := m0_ hB_; clear HM HS HB hs_ hk_ hB_ hm_ hp_ hg_ h0_ h1_ h2_ h3_ hr_; have HM := n0_; have HS := n1_; have HB := n2_; clear n0_ n1_ n2_) | ((with_reducible refine gate_store (t := 3) (p := 23) rfl ?_); obtain ⟨g_, m_, cells_, a_, b_, d_, v_, eA_, hp_, hg_, h0_, h1_, h2_, h3_, hr_⟩ := ShRow.at HS.out x5.toNat (by have := HL.out; omega); injection eA_ with eA_; injection eA_ with eA_; subst eA_; refine store_one (w0 := w0) (base := w0.heap.size) (e := 37) (g := go) (off := x5.toNat * 4 + 1) (cur := cells_) (u := .int .i64 (wrap64 (x1 + 1))) rfl rfl rfl rfl rfl hg_ rfl (by kernel_rfl) rfl (Array.getElem?_eq_some_iff.1 h1_).1 HB.out (HP.out go hp_) ?_; intro w23 hs_ hk_ hB_; have hm_ := Numb.store hp_ hg_ h1_ hs_ hk_; have n0_ := m0_ (HM.out.trans hm_); have n1_ := m0_ (ShRow.numb hm_ _ _ _ HS.out); have n2_ := m0_ hB_; clear HM HS HB hs_ hk_ hB_ hm_ hp_ hg_ h0_ h1_ h2_ h3_ hr_; have HM := n0_; have HS := n1_; have HB := n2_; clear n0_ n1_ n2_) | ((with_reducible refine gate_store (t := 3) (p := 30) rfl ?_); obtain ⟨g_, m_, cells_, a_, b_, d_, v_, eA_, hp_, hg_, h0_, h1_, h2_, h3_, hr_⟩ := ShRow.at HS.out x5.toNat (by have := HL.out; omega); injection eA_ with eA_; injection eA_ with eA_; subst eA_; refine store_one (w0 := w0) (base := w0.heap.size) (e := 37) (g := go) (off := x5.toNat * 4 + 2) (cur := cells_) (u := .int .i64 (wrap64 (wrap64 (x1 + 1) + 1))) rfl rfl rfl rfl rfl hg_ rfl (by kernel_rfl) rfl (Array.getElem?_eq_some_iff.1 h2_).1 HB.out (HP.out go hp_) ?_; intro w30 hs_ hk_ hB_; have hm_ := Numb.store hp_ hg_ h2_ hs_ hk_; have n0_ := m0_ (HM.out.trans hm_); have n1_ := m0_ (ShRow.numb hm_ _ _ _ HS.out); have n2_ := m0_ hB_; clear HM HS HB hs_ hk_ hB_ hm_ hp_ hg_ h0_ h1_ h2_ h3_ hr_; have HM := n0_; have HS := n1_; have HB := n2_; clear n0_ n1_ n2_; obtain ⟨g2_, m2_, cells2_, a2_, b2_, d2_, v2_, eA2_, hp2_, hg2_, h02_, h12_, h22_, h32_, hr2_⟩ := ShRow.at HS.out x5.toNat (by have := HL.out; omega); rw [HY.out] at hr2_; injection eA2_ with eA2_; injection eA2_ with eA2_; subst eA2_; obtain ⟨Ak_, ck_, ek_, lk_⟩ := hr2_.slice; subst ek_; have hcell_ : w30.cell? ⟨go, x5.toNat * 4 + 3, none⟩ = some _ := (blk_cell hg2_ _).trans h32_; have HR := m0_ hr2_; clear hp2_ hg2_ h02_ h12_ h22_ h32_ hr2_) | ((with_reducible refine gate_callee (f := 65) rfl ?_); refine goesL_ (some 39) rfl rfl Try.func65 (by kernel_rfl) rfl #[.slice Ak_ y.f3.length ck_, .int .i64 (wrap64 (wrap64 (wrap64 (x1 + 1) + 1) + 1))] rfl (by (try simp only [List.map_toArray, List.map_cons, List.map_nil]); first | done | rfl) ?_; refine (HI.out k1 (by have := HK1.out; omega) _ _ b _ P _ w0 _ HC.out HR.out HB.out HP.out).mono ?_; rintro e w10 ⟨rfl, hm, hb⟩; refine ⟨_, rfl, ?_⟩; have n0_ := m0_ (HM.out.trans hm); have n1_ := m0_ (ShRow.numb hm _ _ _ HS.out); have n2_ := m0_ hb; clear HM HS HB hm hb HR hcell_))
      go_roundg k1
      case measure => have := HK1.out; omega
      case rel =>
        have hw : wrap64 (x5 + 1) = x5 + 1 := by have := HX.out; have hx := HL.out; unfold maxLen at this; unfold wrap64; omega
        have e5 : (x5 + 1).toNat = x5.toNat + 1 := by omega
        refine ⟨_, _, rfl, rfl, ?_, ?_, ⟨by have := HK1.out; omega⟩, n1_, n0_, n2_⟩
        · rw [hw, e5]; exact HN
        · rw [hw, e5]; exact ⟨by omega, HL.out⟩
end Go.Proofs.Ytdljhokealbnnaa.M
namespace Go.Proofs.Ytdljhokealbnnaa.M
open Go.RowKit Go.Proofs.YtdljhokealbnnaaW.PrintWords Go.Proofs.YtdljhokealbnnaaW.PrintLast Go.Proofs.YtdljhokealbnnaaW.PrintMore
attribute [local go_sem] max2_int min2_int max_two min_two max_three min_three max_four min_four
set_option linter.unusedVariables false
set_option linter.unusedSimpArgs false

def laws_markText.l0 : Nat → Int → ByteArray → Option (ByteArray)
 | 0, _, _ => none
 | k + 1, x0, x3 => if x0 > 0 then ((some (([(wrap64 (48 + (Int.tmod x0 10))) % 256] : List Int) : List Int)).bind fun y101 => (if (strOfNums y101).size + x3.size ≤ 9223372036854775807 then (laws_markText.l0 k (wrap64 (Int.tdiv x0 10)) ((strOfNums y101) ++ x3)) else (none))) else (if 1 + x3.size ≤ 9223372036854775807 then (some ((⟨#[109]⟩ : ByteArray) ++ x3)) else (none))
def laws_markText.f (k : Nat) (a0 : Int) : Option (ByteArray) := if a0 ≤ 0 then (some (⟨#[109, 48]⟩ : ByteArray)) else (laws_markText.l0 k a0 (⟨#[]⟩ : ByteArray))
set_option maxHeartbeats 8000000 in
set_option maxRecDepth 100000 in
theorem laws_markText.calls (k : Nat) (a0 : Int) (r : ByteArray) (w : World) (h : laws_markText.f k a0 = some r) :
  Calls Try.prog 64 #[.int .i64 a0] w fun e w' => e = .returned (.string r) ∧ Below w.heap.size w w' := by
 have HB := m0_ (Below.refl w.heap.size w)
 have H : (if a0 ≤ 0 then (some (⟨#[109, 48]⟩ : ByteArray)) else (laws_markText.l0 k a0 (⟨#[]⟩ : ByteArray))) = some r := h
 clear h
 by_cases c2 : a0 ≤ 0
 ·rw [if_pos c2] at H
  have c2b0 : decide (a0 ≤ 0) = true := decide_eq_true c2
  clear c2
  obtain rfl := Option.some.inj H
  go_enter Try.func64, Try.ntmps64
  go_wp2
  go_ret
  exact ⟨by first | rfl | (simp [errW_none, errW_some] <;> rfl) | (simp [*, errW_none, errW_some] <;> rfl), by repeat (first | (with_reducible first | exact HB.out | apply below_alloc | apply pw_below_drewN | apply below_drew1) | exact HB.out)⟩
 rw [if_neg c2] at H
 have c2b0 : decide (a0 ≤ 0) = false := decide_eq_false c2
 clear c2
 have H' := m0_ H
 clear H
 go_enter Try.func64, Try.ntmps64
 go_wp2
 go_loopg [0, 3] k (fun kq v0 v3 w' => ∃ (x0_1 : Int) (x3_1 : ByteArray), v0 = .int .i64 x0_1 ∧ v3 = .string x3_1 ∧ Aside0 (laws_markText.l0 kq x0_1 x3_1 = some r) ∧ Aside0 (kq ≤ k) ∧ Aside0 (Below w.heap.size w w'))
 case atStart => exact ⟨(a0), ((⟨#[]⟩ : ByteArray)), (by first | rfl | (simp;done) | (simp [*];done)), (by first | rfl | (simp;done) | (simp [*];done)), H', ⟨Nat.le_refl _⟩, ⟨by repeat (first | (with_reducible first | exact HB.out | apply below_alloc | apply pw_below_drewN | apply below_drew1) | exact HB.out)⟩⟩
 case round =>
  clear H'
  try clear c2
  try clear c2b0
  try clear p2
  obtain ⟨x0_1, x3_1, rfl, rfl, HA, HK1, HB⟩ := hrel
  cases gk with
  | zero => exact absurd HA.out (by simp [laws_markText.l0])
  | succ k1 =>
   have H := HA.out
   clear HA
   simp only [laws_markText.l0] at H
   by_cases c3 : x0_1 > 0
   rotate_left
   ·rw [if_neg c3] at H
    have c3b0 : decide (0 < x0_1) = false := decide_eq_false c3
    clear c3
    by_cases c8 : 1 + x3_1.size ≤ 9223372036854775807
    ·rw [if_pos c8] at H
     have c8b0 := eq_true c8
     have c8b1 : decide (1 + x3_1.size ≤ 9223372036854775807) = true := decide_eq_true c8
     try have c8b2 : (9223372036854775807 < 1 + x3_1.size) = False := eq_false (Nat.not_lt.2 c8)
     obtain rfl := Option.some.inj H
     go_wp2
     go_ret
     exact ⟨by first | rfl | (simp [errW_none, errW_some] <;> rfl) | (simp [*, errW_none, errW_some] <;> rfl), by repeat (first | (with_reducible first | exact HB.out | apply below_alloc | apply pw_below_drewN | apply below_drew1) | exact HB.out)⟩
    ·rw [if_neg c8] at H
     exact absurd H (by simp)
   rw [if_pos c3] at H
   have c3b0 : decide (0 < x0_1) = true := decide_eq_true c3
   clear c3
   obtain ⟨y101, hy101⟩ : ∃ y_ : List Int, y_ = (([(wrap64 (48 + (Int.tmod x0_1 10))) % 256] : List Int)) := ⟨_, rfl⟩
   replace H : (if (strOfNums y101).size + x3_1.size ≤ 9223372036854775807 then (laws_markText.l0 k1 (wrap64 (Int.tdiv x0_1 10)) ((strOfNums y101) ++ x3_1)) else (none)) = some r := by first | (rw [hy101];with_reducible exact H) | (have H2_ := (Option.bind_some _ _).symm.trans H;rw [hy101];with_reducible exact H2_) | (have H2_ := (Option.bind_some _ _).symm.trans H;with_reducible exact H2_) | with_reducible exact H | (rw [hy101];exact H) | exact H
   have Ny101 := m0_ hy101
   clear hy101
   by_cases c4 : (strOfNums y101).size + x3_1.size ≤ 9223372036854775807
   ·rw [if_pos c4] at H
    have c4b0 := eq_true c4
    have c4b1 : decide ((strOfNums y101).size + x3_1.size ≤ 9223372036854775807) = true := decide_eq_true c4
    try have c4b2 : (9223372036854775807 < (strOfNums y101).size + x3_1.size) = False := eq_false (Nat.not_lt.2 c4)
    have H' := m0_ H
    clear H
    go_wp2_with (first | ((with_reducible refine gate_dst (N := 12) rfl ?_);refine Kd.R_lit (Kd.int .u8) _ 5 ?hg (N := 12) ?hd (xs := ([(wrap64 (48 + (Int.tmod x0_1 10))) % 256] : List Int)) (inner := [.int .u8 ((wrap64 (48 + (Int.tmod x0_1 10))) % 256)]) (ok := fun _ => True) (okp := fun _ => True) ?hr ?hp (fun _ hk => hk) trivial (Below.refl _ _) (Nat.le_refl _) (by simp) ?_;(case hd => rfl);(case hg => rfl);(case hr => first | (go_simp;done) | (go_simp;rfl));(case hp => exact (Reps.one (show Kd.M (Kd.int .u8) _ _ _ ((wrap64 (48 + (Int.tmod x0_1 10))) % 256) [.int .u8 ((wrap64 (48 + (Int.tmod x0_1 10))) % 256)] from rfl) (Reps.none _ _)));intro v102 w5 ho6 hb hg_ hnew_;clear hg_ hnew_;(first | rw [← Ny101.out] at ho6 | (simp only [Int.reduceToNat] at ho6;rw [← Ny101.out] at ho6));have HO103 := m0_ (Kd.R_lower ho6 (below_size (by exact HB.out)));replace HB := m0_ (below_step (by exact HB.out) hb);clear hb ho6;have hcv7 := own_string (P := Try.prog) Try.underlying50 Try.underlying5 Try.underlying9 (Kd.own_of_R HO103.out)))
    go_roundg k1
    case measure => have := HK1.out;omega
    case rel => exact ⟨(wrap64 (Int.tdiv x0_1 10)), ((strOfNums y101) ++ x3_1), (by first | rfl | (simp;done) | (simp [*];done)), (by first | rfl | (simp;done) | (simp [*];done)), H', ⟨by have := HK1.out;omega⟩, ⟨by repeat (first | (with_reducible first | exact HB.out | apply below_alloc | apply pw_below_drewN | apply below_drew1) | exact HB.out)⟩⟩
   ·rw [if_neg c4] at H
    exact absurd H (by simp)

end Go.Proofs.Ytdljhokealbnnaa.M
namespace Go.Proofs.Ytdljhokealbnnaa.M
set_option linter.unusedVariables false
set_option linter.unusedSimpArgs false
open Go Go.RowKit Go.Proofs.YtdljhokealbnnaaW.PrintWords Go.Proofs.YtdljhokealbnnaaW.PrintLast Go.Proofs.YtdljhokealbnnaaW.PrintMore

def ShRule (W : World) (P : Nat → Prop) (g : Nat) (l : List S39) : Prop := P g ∧ ∃ cells, W.heap[g]? = some (.cells cells 39 (0, 0)) ∧ ∀ i x, l[i]? = some x → i * 12 + 12 ≤ cells.size ∧ ∃ n v, cells[i * 12 + 6]? = some v ∧ ShRow W P n v x.f3.f3
theorem kept_of {P : Nat → Prop} {W W1 : World} {g : Nat} (hp : P g) (hk : KeepBut W W1 g none) : Kept W W1 P := ⟨hk.1, fun i hi hn => hk.2 i hi (fun e => hn (e ▸ hp)) (by simp)⟩
theorem ShRule.store {W W1 : World} {P : Nat → Prop} {g off : Nat} {l : List S39} {cells : Array Value} {u : Value} (h : ShRule W P g l) (hg : W.heap[g]? = some (.cells cells 39 (0, 0))) (ho : ∀ i : Nat, off ≠ i * 12 + 6) (h1 : W1.heap[g]? = some (.cells (cells.setIfInBounds off u) 39 (0, 0))) (hk : KeepBut W W1 g none) : ShRule W1 P g l := by
  obtain ⟨hp, cells', hg', hx⟩ := h
  rw [hg] at hg'
  injection hg' with hg'
  injection hg' with c1
  subst c1
  refine ⟨hp, _, h1, fun i x hi => ?_⟩
  obtain ⟨hs, n, v, hv, hr⟩ := hx i x hi
  refine ⟨by simpa using hs, n, v, ?_, ShRow.keep hg (by decide) hk n v _ hr⟩
  rw [Array.getElem?_setIfInBounds, if_neg (ho i)]
  exact hv
theorem ShRule.numb {W W1 : World} {P : Nat → Prop} {g : Nat} {l : List S39} (hm : Numb P W W1) (h : ShRule W P g l) : ShRule W1 P g l := by
  obtain ⟨hp, cells, hg, hx⟩ := h
  obtain ⟨cells', hg', hsz, hsim⟩ := hm.sim g hp cells _ hg
  refine ⟨hp, cells', hg', fun i x hi => ?_⟩
  obtain ⟨hs, n, v, hv, hr⟩ := hx i x hi
  refine ⟨by omega, n, v, ?_, ShRow.numb hm n v _ hr⟩
  rcases hsim (i * 12 + 6) with e | ⟨p, q, e, _⟩
  · exact e.trans hv
  · rw [hv] at e
    exact absurd (Option.some.inj e) (hr.notint p)
theorem drop_take_at {cs d : List Value} {j n q : Nat} {u : Value} (h : (cs.drop j).take n = d) (hq : d[q]? = some u) : cs[j + q]? = some u := by
  have hlt : q < n := by
    have := (List.getElem?_eq_some_iff.1 hq).1
    rw [← h, List.length_take] at this
    omega
  rw [← h, List.getElem?_take_of_lt hlt, List.getElem?_drop] at hq
  exact hq
theorem rule_shape {W : World} {P : Nat → Prop} {base : Nat} {u : Value} {l : List S39} (h : k39.R 39 W base P u l) : ∃ A c, u = .slice A l.length c ∧ l.length ≤ maxLen ∧ (0 < l.length → ∃ g, A = some ⟨g, 0, none⟩ ∧ ShRule W P g l) := by
  obtain ⟨h0, inner, ⟨hlen, ho⟩, hr⟩ := h
  rcases ho with ⟨rfl, e⟩ | ⟨g, cap, cur, rfl, hg, hh, hl, hm, hs, ht⟩
  · exact ⟨none, 0, by rw [e], by rw [e]; exact Nat.zero_le _, fun h => by omega⟩
  refine ⟨some ⟨g, 0, none⟩, cap, rfl, Nat.le_trans hl hm, fun _ => ⟨g, rfl, h0 g rfl, cur, hh, fun i x hi => ?_⟩⟩
  have hz : k39.sz = 12 := rfl
  rw [hz] at ht hs hlen
  have hi2 := (List.getElem?_eq_some_iff.1 hi).1
  obtain ⟨v6, e6, hR⟩ := k39_openM (hr.2 i x hi)
  obtain ⟨n, hn⟩ := shape_of (Kd.R_mono hR (fun k hk => hk.1))
  refine ⟨?_, n, v6, ?_, hn⟩
  · have : (i + 1) * 12 ≤ cap * 12 := Nat.mul_le_mul_right 12 (by omega)
    omega
  have h6 : inner[i * 12 + 6]? = some v6 := drop_take_at e6 rfl
  rw [← ht] at h6
  have hlt : i * 12 + 6 < l.length * 12 := by omega
  rw [List.getElem?_take_of_lt hlt] at h6
  simpa using h6
def marksR : Nat → List S39 → Int → Option Int
  | 0, _, _ => none
  | _ + 1, [], a => some a
  | k + 1, x :: xs, a => (laws_markText.f k a).bind fun _ => (marksE k x.f3.f3 (wrap64 (wrap64 (wrap64 (wrap64 (wrap64 (wrap64 (a + 1) + 1) + 1) + 1) + 1) + 1))).bind fun b => marksR k xs (wrap64 (wrap64 (wrap64 (wrap64 (wrap64 (b + 1) + 1) + 1) + 1) + 1))
set_option maxHeartbeats 4000000 in
set_option maxRecDepth 100000 in
theorem markRuleS_walk (k : Nat) (l : List S39) (a r : Int) (P : Nat → Prop) (u : Value) (w0 w : World) (hk : marksR k l a = some r) (hR : k39.R 39 w w0.heap.size P u l) (hB : Below w0.heap.size w0 w) :
    Calls Try.prog 28 #[u, .int .i64 a] w fun e w' => e = .returned (.int .i64 r) ∧ Below w0.heap.size w0 w' ∧ Kept w w' P := by
  have hR2 := Kd.R_mono (Kd.R_bound hR) (ok' := fun k => P k ∧ w0.heap.size ≤ k) (fun k hk => ⟨hk.1, hk.2.1⟩)
  suffices key : ∀ Q : Nat → Prop, (∀ k, Q k → w0.heap.size ≤ k) → k39.R 39 w w0.heap.size Q u l → Calls Try.prog 28 #[u, .int .i64 a] w fun e w' => e = .returned (.int .i64 r) ∧ Below w0.heap.size w0 w' ∧ Kept w w' Q by
    refine (key _ (fun _ h => h.2) hR2).mono fun e w' ⟨h1, h2, h3⟩ => ⟨h1, h2, h3.1, fun i hi hn => h3.2 i hi (fun hq => hn hq.1)⟩
  clear hR2 hR
  intro P hP hR
  obtain ⟨A, c, rfl, hl, hsh⟩ := rule_shape hR
  have HI := m0_ hsh
  have HK := m0_ (show marksR k (l.drop (0 : Int).toNat) a = some r from hk)
  have HM := m0_ (Kept.refl w P)
  have HB := m0_ hB
  have HP := m0_ hP
  have HX := m0_ hl
  have HS0 := m0_ (show ∀ g, A = some ⟨g, 0, none⟩ → 0 < l.length → ShRule w P g l from fun g hg hp => by obtain ⟨g', e, h⟩ := hsh hp; rw [hg] at e; injection e with e; injection e with e; rw [e]; exact h)
  have hu_ := Try.underlying39
  have hu2_ := Try.underlying37
  clear hk hR hB hP hl hsh
  go_enter Try.func28, Try.ntmps28
  go_wp2
  go_loopg [1, 5] k (fun kq v1 v5 w' => ∃ (x1 : Int) (x5 : Int), v1 = .int .i64 x1 ∧ v5 = .int .i64 x5 ∧ Aside0 (marksR kq (l.drop x5.toNat) x1 = some r) ∧ Aside0 (0 ≤ x5 ∧ x5.toNat ≤ l.length) ∧ Aside0 (kq ≤ k) ∧ Aside0 (∀ g, A = some ⟨g, 0, none⟩ → 0 < l.length → ShRule w' P g l) ∧ Aside0 (Kept w w' P) ∧ Aside0 (Below w0.heap.size w0 w'))
  case atStart => exact ⟨a, 0, rfl, rfl, HK, ⟨Int.le_refl _, Nat.zero_le _⟩, ⟨Nat.le_refl _⟩, HS0, HM, HB⟩
  case round =>
    clear HS0 HM HB HK
    obtain ⟨x1, x5, rfl, rfl, HA, H5, HK1, HS0, HM, HB⟩ := hrel
    cases gk with
    | zero => exact absurd HA.out (by simp [marksR])
    | succ k1 =>
      have H := HA.out
      clear HA
      by_cases c1 : x5 < (l.length : Int)
      rotate_left
      · have hd : l.drop x5.toNat = [] := List.drop_of_length_le (by omega)
        rw [hd] at H
        unfold marksR at H
        obtain rfl := Option.some.inj H
        have c1b : decide (x5 < (l.length : Int)) = false := decide_eq_false c1
        go_wp2
        go_ret
        exact ⟨rfl, HB.out, HM.out⟩
      have c2 : 0 ≤ x5 := H5.out.1
      have hlt : x5.toNat < l.length := by omega
      have HL := m0_ hlt
      obtain ⟨y, hy⟩ : ∃ y, l[x5.toNat]? = some y := ⟨_, List.getElem?_eq_getElem hlt⟩
      have ed : l.drop x5.toNat = y :: l.drop (x5.toNat + 1) := by
        rw [List.drop_eq_getElem_cons hlt]
        rw [List.getElem?_eq_getElem hlt] at hy
        rw [Option.some.inj hy]
      rw [ed] at H
      clear ed
      have HY := m0_ hy
      clear hy
      unfold marksR at H
      obtain ⟨s, hs, H⟩ := Option.bind_eq_some_iff.1 H
      obtain ⟨b, hb, H⟩ := Option.bind_eq_some_iff.1 H
      have HT := m0_ hs
      have HC := m0_ hb
      have HN := m0_ H
      clear H hb hs
      obtain ⟨go, eA, _⟩ := HI.out (by omega)
      subst eA
      have HS := m0_ (HS0.out go rfl (by omega))
      clear HS0 hlt
      have c1b : decide (x5 < (l.length : Int)) = true := decide_eq_true c1
      have p5 := eq_true c2
      have q5 := eq_true c1
      go_wp2_with (first | ((with_reducible refine gate_callee (f := 64) rfl ?_); refine goesL_ (some 15) rfl rfl Try.func64 (by kernel_rfl) rfl #[.int .i64 x1] rfl (by (try simp only [List.map_toArray, List.map_cons, List.map_nil]); first | done | rfl) ?_; refine (laws_markText.calls k1 x1 s _ HT.out).mono ?_; rintro e w15 ⟨rfl, hb⟩; refine ⟨_, rfl, ?_⟩; have n0_ := m0_ (HM.out.then_ (Kept.of_below hb P) (fun _ h => .inl h)); have n1_ := m0_ (ShRule.numb (Numb.of_below hb) HS.out); have n2_ := m0_ (below_step HB.out hb); clear HM HS HB hb; have HM := n0_; have HS := n1_; have HB := n2_; clear n0_ n1_ n2_) | ((with_reducible refine gate_store (t := 9) (p := 17) rfl ?_); obtain ⟨cells_, hg_, hx_⟩ := HS.out.2; have hsz_ := (hx_ x5.toNat y HY.out).1; refine store_one (w0 := w0) (base := w0.heap.size) (e := 39) (g := go) (off := x5.toNat * 12) (cur := cells_) (u := .string s) rfl rfl rfl rfl rfl hg_ rfl (by kernel_rfl) rfl (by omega) HB.out (HP.out go HS.out.1) ?_; intro w17 hs_ hk_ hB_; have n1_ := m0_ (ShRule.store HS.out hg_ (fun i_ => by omega) hs_ hk_); have n0_ := m0_ (HM.out.then_ (kept_of HS.out.1 hk_) (fun _ h => .inl h)); have n2_ := m0_ hB_; clear HM HS HB hs_ hk_ hB_ hg_ hx_ hsz_; have HM := n0_; have HS := n1_; have HB := n2_; clear n0_ n1_ n2_) | ((with_reducible refine gate_store (t := 3) (p := 24) rfl ?_); obtain ⟨cells_, hg_, hx_⟩ := HS.out.2; have hsz_ := (hx_ x5.toNat y HY.out).1; refine store_one (w0 := w0) (base := w0.heap.size) (e := 39) (g := go) (off := x5.toNat * 12 + 1) (cur := cells_) (u := .int .i64 (wrap64 (x1 + 1))) rfl rfl rfl rfl rfl hg_ rfl (by kernel_rfl) rfl (by omega) HB.out (HP.out go HS.out.1) ?_; intro w24 hs_ hk_ hB_; have n1_ := m0_ (ShRule.store HS.out hg_ (fun i_ => by omega) hs_ hk_); have n0_ := m0_ (HM.out.then_ (kept_of HS.out.1 hk_) (fun _ h => .inl h)); have n2_ := m0_ hB_; clear HM HS HB hs_ hk_ hB_ hg_ hx_ hsz_; have HM := n0_; have HS := n1_; have HB := n2_; clear n0_ n1_ n2_) | ((with_reducible refine gate_store (t := 3) (p := 31) rfl ?_); obtain ⟨cells_, hg_, hx_⟩ := HS.out.2; have hsz_ := (hx_ x5.toNat y HY.out).1; refine store_one (w0 := w0) (base := w0.heap.size) (e := 39) (g := go) (off := x5.toNat * 12 + 2) (cur := cells_) (u := .int .i64 (wrap64 ((wrap64 (x1 + 1)) + 1))) rfl rfl rfl rfl rfl hg_ rfl (by kernel_rfl) rfl (by omega) HB.out (HP.out go HS.out.1) ?_; intro w31 hs_ hk_ hB_; have n1_ := m0_ (ShRule.store HS.out hg_ (fun i_ => by omega) hs_ hk_); have n0_ := m0_ (HM.out.then_ (kept_of HS.out.1 hk_) (fun _ h => .inl h)); have n2_ := m0_ hB_; clear HM HS HB hs_ hk_ hB_ hg_ hx_ hsz_; have HM := n0_; have HS := n1_; have HB := n2_; clear n0_ n1_ n2_) | ((with_reducible refine gate_store (t := 3) (p := 39) rfl ?_); obtain ⟨cells_, hg_, hx_⟩ := HS.out.2; have hsz_ := (hx_ x5.toNat y HY.out).1; refine store_one (w0 := w0) (base := w0.heap.size) (e := 39) (g := go) (off := x5.toNat * 12 + 3) (cur := cells_) (u := .int .i64 (wrap64 ((wrap64 ((wrap64 (x1 + 1)) + 1)) + 1))) rfl rfl rfl rfl rfl hg_ rfl (by kernel_rfl) rfl (by omega) HB.out (HP.out go HS.out.1) ?_; intro w39 hs_ hk_ hB_; have n1_ := m0_ (ShRule.store HS.out hg_ (fun i_ => by omega) hs_ hk_); have n0_ := m0_ (HM.out.then_ (kept_of HS.out.1 hk_) (fun _ h => .inl h)); have n2_ := m0_ hB_; clear HM HS HB hs_ hk_ hB_ hg_ hx_ hsz_; have HM := n0_; have HS := n1_; have HB := n2_; clear n0_ n1_ n2_) | ((with_reducible refine gate_store (t := 3) (p := 47) rfl ?_); obtain ⟨cells_, hg_, hx_⟩ := HS.out.2; have hsz_ := (hx_ x5.toNat y HY.out).1; refine store_one (w0 := w0) (base := w0.heap.size) (e := 39) (g := go) (off := x5.toNat * 12 + 4) (cur := cells_) (u := .int .i64 (wrap64 ((wrap64 ((wrap64 ((wrap64 (x1 + 1)) + 1)) + 1)) + 1))) rfl rfl rfl rfl rfl hg_ rfl (by kernel_rfl) rfl (by omega) HB.out (HP.out go HS.out.1) ?_; intro w47 hs_ hk_ hB_; have n1_ := m0_ (ShRule.store HS.out hg_ (fun i_ => by omega) hs_ hk_); have n0_ := m0_ (HM.out.then_ (kept_of HS.out.1 hk_) (fun _ h => .inl h)); have n2_ := m0_ hB_; clear HM HS HB hs_ hk_ hB_ hg_ hx_ hsz_; have HM := n0_; have HS := n1_; have HB := n2_; clear n0_ n1_ n2_) | ((with_reducible refine gate_store (t := 3) (p := 55) rfl ?_); obtain ⟨cells_, hg_, hx_⟩ := HS.out.2; have hsz_ := (hx_ x5.toNat y HY.out).1; refine store_one (w0 := w0) (base := w0.heap.size) (e := 39) (g := go) (off := x5.toNat * 12 + 5) (cur := cells_) (u := .int .i64 (wrap64 ((wrap64 ((wrap64 ((wrap64 ((wrap64 (x1 + 1)) + 1)) + 1)) + 1)) + 1))) rfl rfl rfl rfl rfl hg_ rfl (by kernel_rfl) rfl (by omega) HB.out (HP.out go HS.out.1) ?_; intro w55 hs_ hk_ hB_; have n1_ := m0_ (ShRule.store HS.out hg_ (fun i_ => by omega) hs_ hk_); have n0_ := m0_ (HM.out.then_ (kept_of HS.out.1 hk_) (fun _ h => .inl h)); have n2_ := m0_ hB_; clear HM HS HB hs_ hk_ hB_ hg_ hx_ hsz_; have HM := n0_; have HS := n1_; have HB := n2_; clear n0_ n1_ n2_; obtain ⟨cells_, hg_, hx_⟩ := HS.out.2; obtain ⟨_, m_, v_, h3_, hr_⟩ := hx_ x5.toNat y HY.out; obtain ⟨Ak_, ck_, ek_, lk_⟩ := hr_.slice; subst ek_; have hcell_ : w55.cell? ⟨go, x5.toNat * 12 + 6, none⟩ = some _ := (blk_cell hg_ _).trans h3_; have HR := m0_ hr_; clear hg_ hx_ h3_ hr_) | ((with_reducible refine gate_callee (f := 65) rfl ?_); refine goesL_ (some 65) rfl rfl Try.func65 (by kernel_rfl) rfl #[.slice Ak_ y.f3.f3.length ck_, .int .i64 (wrap64 ((wrap64 ((wrap64 ((wrap64 ((wrap64 ((wrap64 (x1 + 1)) + 1)) + 1)) + 1)) + 1)) + 1))] rfl (by (try simp only [List.map_toArray, List.map_cons, List.map_nil]); first | done | rfl) ?_; refine (markExS_walk k1 _ _ b _ P _ w0 _ HC.out HR.out HB.out HP.out).mono ?_; rintro e w65 ⟨rfl, hm, hb⟩; refine ⟨_, rfl, ?_⟩; have n0_ := m0_ (HM.out.then_ hm.kept (fun _ h => .inl h)); have n1_ := m0_ (ShRule.numb hm HS.out); have n2_ := m0_ hb; clear HM HS HB hm hb HR hcell_; have HM := n0_; have HS := n1_; have HB := n2_; clear n0_ n1_ n2_) | ((with_reducible refine gate_store (t := 3) (p := 70) rfl ?_); obtain ⟨cells_, hg_, hx_⟩ := HS.out.2; have hsz_ := (hx_ x5.toNat y HY.out).1; refine store_one (w0 := w0) (base := w0.heap.size) (e := 39) (g := go) (off := x5.toNat * 12 + 7) (cur := cells_) (u := .int .i64 b) rfl rfl rfl rfl rfl hg_ rfl (by kernel_rfl) rfl (by omega) HB.out (HP.out go HS.out.1) ?_; intro w70 hs_ hk_ hB_; have n1_ := m0_ (ShRule.store HS.out hg_ (fun i_ => by omega) hs_ hk_); have n0_ := m0_ (HM.out.then_ (kept_of HS.out.1 hk_) (fun _ h => .inl h)); have n2_ := m0_ hB_; clear HM HS HB hs_ hk_ hB_ hg_ hx_ hsz_; have HM := n0_; have HS := n1_; have HB := n2_; clear n0_ n1_ n2_) | ((with_reducible refine gate_store (t := 3) (p := 77) rfl ?_); obtain ⟨cells_, hg_, hx_⟩ := HS.out.2; have hsz_ := (hx_ x5.toNat y HY.out).1; refine store_one (w0 := w0) (base := w0.heap.size) (e := 39) (g := go) (off := x5.toNat * 12 + 8) (cur := cells_) (u := .int .i64 (wrap64 (b + 1))) rfl rfl rfl rfl rfl hg_ rfl (by kernel_rfl) rfl (by omega) HB.out (HP.out go HS.out.1) ?_; intro w77 hs_ hk_ hB_; have n1_ := m0_ (ShRule.store HS.out hg_ (fun i_ => by omega) hs_ hk_); have n0_ := m0_ (HM.out.then_ (kept_of HS.out.1 hk_) (fun _ h => .inl h)); have n2_ := m0_ hB_; clear HM HS HB hs_ hk_ hB_ hg_ hx_ hsz_; have HM := n0_; have HS := n1_; have HB := n2_; clear n0_ n1_ n2_) | ((with_reducible refine gate_store (t := 3) (p := 84) rfl ?_); obtain ⟨cells_, hg_, hx_⟩ := HS.out.2; have hsz_ := (hx_ x5.toNat y HY.out).1; refine store_one (w0 := w0) (base := w0.heap.size) (e := 39) (g := go) (off := x5.toNat * 12 + 9) (cur := cells_) (u := .int .i64 (wrap64 ((wrap64 (b + 1)) + 1))) rfl rfl rfl rfl rfl hg_ rfl (by kernel_rfl) rfl (by omega) HB.out (HP.out go HS.out.1) ?_; intro w84 hs_ hk_ hB_; have n1_ := m0_ (ShRule.store HS.out hg_ (fun i_ => by omega) hs_ hk_); have n0_ := m0_ (HM.out.then_ (kept_of HS.out.1 hk_) (fun _ h => .inl h)); have n2_ := m0_ hB_; clear HM HS HB hs_ hk_ hB_ hg_ hx_ hsz_; have HM := n0_; have HS := n1_; have HB := n2_; clear n0_ n1_ n2_) | ((with_reducible refine gate_store (t := 3) (p := 91) rfl ?_); obtain ⟨cells_, hg_, hx_⟩ := HS.out.2; have hsz_ := (hx_ x5.toNat y HY.out).1; refine store_one (w0 := w0) (base := w0.heap.size) (e := 39) (g := go) (off := x5.toNat * 12 + 10) (cur := cells_) (u := .int .i64 (wrap64 ((wrap64 ((wrap64 (b + 1)) + 1)) + 1))) rfl rfl rfl rfl rfl hg_ rfl (by kernel_rfl) rfl (by omega) HB.out (HP.out go HS.out.1) ?_; intro w91 hs_ hk_ hB_; have n1_ := m0_ (ShRule.store HS.out hg_ (fun i_ => by omega) hs_ hk_); have n0_ := m0_ (HM.out.then_ (kept_of HS.out.1 hk_) (fun _ h => .inl h)); have n2_ := m0_ hB_; clear HM HS HB hs_ hk_ hB_ hg_ hx_ hsz_; have HM := n0_; have HS := n1_; have HB := n2_; clear n0_ n1_ n2_) | ((with_reducible refine gate_store (t := 3) (p := 98) rfl ?_); obtain ⟨cells_, hg_, hx_⟩ := HS.out.2; have hsz_ := (hx_ x5.toNat y HY.out).1; refine store_one (w0 := w0) (base := w0.heap.size) (e := 39) (g := go) (off := x5.toNat * 12 + 11) (cur := cells_) (u := .int .i64 (wrap64 ((wrap64 ((wrap64 ((wrap64 (b + 1)) + 1)) + 1)) + 1))) rfl rfl rfl rfl rfl hg_ rfl (by kernel_rfl) rfl (by omega) HB.out (HP.out go HS.out.1) ?_; intro w98 hs_ hk_ hB_; have n1_ := m0_ (ShRule.store HS.out hg_ (fun i_ => by omega) hs_ hk_); have n0_ := m0_ (HM.out.then_ (kept_of HS.out.1 hk_) (fun _ h => .inl h)); have n2_ := m0_ hB_; clear HM HS HB hs_ hk_ hB_ hg_ hx_ hsz_; have HM := n0_; have HS := n1_; have HB := n2_; clear n0_ n1_ n2_))
      have HS1 := m0_ (show ∀ g, some (⟨go, 0, none⟩ : Addr) = some ⟨g, 0, none⟩ → 0 < l.length → ShRule _ P g l from fun g hg _ => by injection hg with hg; injection hg with hg; rw [← hg]; exact HS.out)
      go_roundg k1
      case measure => have := HK1.out; omega
      case rel =>
        have hw : wrap64 (x5 + 1) = x5 + 1 := by have := HX.out; have hx := HL.out; unfold maxLen at this; unfold wrap64; omega
        have e5 : (x5 + 1).toNat = x5.toNat + 1 := by omega
        refine ⟨_, _, rfl, rfl, ?_, ?_, ⟨by have := HK1.out; omega⟩, HS1, HM, HB⟩
        · rw [hw, e5]; exact HN
        · rw [hw, e5]; exact ⟨by omega, HL.out⟩
end Go.Proofs.Ytdljhokealbnnaa.M
namespace Go.Proofs.Ytdljhokealbnnaa.M
open Go.RowKit Go.Proofs.YtdljhokealbnnaaW.PrintWords Go.Proofs.YtdljhokealbnnaaW.PrintLast Go.Proofs.YtdljhokealbnnaaW.PrintMore
attribute [local go_sem] max2_int min2_int max_two min_two max_three min_three max_four min_four
set_option linter.unusedVariables false
set_option linter.unusedSimpArgs false

def laws_FnExactRulesOrder.f (k : Nat) (l0 : List S32) : Option Bool := (laws_szRuleS.f k l0 1048576).bind fun t => if t < 0 then some true else (laws_toRuleS.f k l0).bind fun a => (spec_RulesOrder.f k a).bind fun v => (impl_RulesOrder.f k a).bind fun g => (laws_eqIntS.f k g v).bind fun e1 => (laws_eqRuleS.f k a a).bind fun e2 =>
 (marksR k a 1).bind fun p1 => (laws_markIntS.f k g 1).bind fun m => (laws_heldIntS.f k m.2 1).bind fun q => if (e1 = true ∧ e2 = true) ∧ (0 ≤ p1 ∧ 0 ≤ q ∧ q = m.1) then some true else none
set_option maxHeartbeats 1600000 in
set_option maxRecDepth 100000 in
theorem laws_FnExactRulesOrder.calls (k : Nat) (A0 : Option Addr) (c0 : Nat) (l0 : List (S32)) (r : Bool) (hT_ : Aside0 (r = true)) (w : World) (hr0 : Kd.C k32 w A0 l0.length l0) (hc0 : l0.length ≤ c0) (h : laws_FnExactRulesOrder.f k l0 = some r) :
  Calls Try.prog 6 #[.slice A0 l0.length c0] w fun e w' => e = .returned (.bool r) ∧ Below w.heap.size w w' := by
 obtain rfl := hT_.out
 unfold laws_FnExactRulesOrder.f at h
 obtain ⟨t, ht, h_⟩ := Option.bind_eq_some_iff.1 h
 have HT1 := m0_ ht
 have HRA := m0_ hr0
 have HCA := m0_ hc0
 have HH := m0_ h_
 have HB := m0_ (Below.refl w.heap.size w)
 clear ht hr0 hc0 h h_
 go_enter Try.func6, Try.ntmps6
 go_wp2_with (go_at_call 13;fail)
 refine (laws_szRuleS.calls k _ _ l0 _ t _ (Kd.C_below HRA.out HB.out) HCA.out HT1.out).mono ?_
 rintro e w1 ⟨rfl, hb⟩
 have Z1 := m0_ (show w.heap.size ≤ w1.heap.size from hb.size)
 replace HB := m0_ (below_step HB.out hb)
 clear hb
 by_cases c1_ : t < 0
 ·have c1b : decide (t < 0) = true := decide_eq_true c1_
  go_wp2
  go_ret
  exact ⟨rfl, HB.out⟩
 have c1b : decide (t < 0) = false := decide_eq_false c1_
 have h := HH.out
 rw [if_neg c1_] at h
 obtain ⟨a, hx, h_⟩ := Option.bind_eq_some_iff.1 h
 clear h
 have h := h_
 clear h_
 have TA := m0_ hx
 clear hx
 obtain ⟨v1, hx, h_⟩ := Option.bind_eq_some_iff.1 h
 clear h
 have h := h_
 clear h_
 have TV := m0_ hx
 clear hx
 obtain ⟨g1, hx, h_⟩ := Option.bind_eq_some_iff.1 h
 clear h
 have h := h_
 clear h_
 have TG := m0_ hx
 clear hx
 obtain ⟨e1, hx, h_⟩ := Option.bind_eq_some_iff.1 h
 clear h
 have h := h_
 clear h_
 have E1 := m0_ hx
 clear hx
 obtain ⟨e2, hx, h_⟩ := Option.bind_eq_some_iff.1 h
 clear h
 have h := h_
 clear h_
 have E2 := m0_ hx
 clear hx
 obtain ⟨p1, hx, h_⟩ := Option.bind_eq_some_iff.1 h
 clear h
 have h := h_
 clear h_
 have MP := m0_ hx
 clear hx
 obtain ⟨⟨p2, x2⟩, hx, h_⟩ := Option.bind_eq_some_iff.1 h
 clear h
 have h := h_
 clear h_
 have M2 := m0_ hx
 clear hx
 obtain ⟨q, hx, h_⟩ := Option.bind_eq_some_iff.1 h
 clear h
 have h := h_
 clear h_
 have TQ := m0_ hx
 clear hx
 have h2 := Decidable.byContradiction (fun c => by rw [if_neg c] at h;cases h) (p := (e1 = true ∧ e2 = true) ∧ (0 ≤ p1 ∧ 0 ≤ q ∧ q = p2))
 obtain ⟨⟨rfl, rfl⟩, y1, y2, y3⟩ := h2
 subst y3
 have d1 : decide (p1 < 0) = false := decide_eq_false (by omega)
 have d2 : decide (q < 0) = false := decide_eq_false (by omega)
 have d3 : (q != q) = false := bne_self_eq_false q
 clear h HH y1 y2 c1_ HT1
 go_wp2_with (go_at_call 15;fail)
 refine (laws_toRuleS.calls k _ _ l0 a _ (Kd.C_below HRA.out HB.out) HCA.out TA.out).mono ?_
 rintro e w2 ⟨v_, rfl, hs, hb⟩
 have Z2 := m0_ (show w1.heap.size ≤ w2.heap.size from hb.size)
 have hs := Kd.R_mono (ok' := fun k_ => w1.heap.size ≤ k_ ∧ k_ < w2.heap.size) (Kd.R_lower (Kd.R_bound hs) HB.out.size) (fun k_ hk => ⟨hk.2.1, hk.2.2.1⟩)
 obtain ⟨AS, cS, rfl⟩ := Kd.R_slice hs
 have FS := m0_ hs
 clear hs
 replace HB := m0_ (below_step HB.out hb)
 clear hb
 go_wp2_with (go_at_call 25;fail)
 refine (spec_RulesOrder.calls k _ _ a v1 _ (Kd.R_reads' FS.out).2.2 (Kd.R_reads' FS.out).2.1 TV.out).mono ?_
 rintro e w3 ⟨v_, rfl, hs, hb⟩
 have Z3 := m0_ (show w2.heap.size ≤ w3.heap.size from hb.size)
 have hs := Kd.R_mono (ok' := fun k_ => w2.heap.size ≤ k_ ∧ k_ < w3.heap.size) (Kd.R_lower (Kd.R_bound hs) HB.out.size) (fun k_ hk => ⟨hk.2.1, hk.2.2.1⟩)
 obtain ⟨AV, cV, rfl⟩ := Kd.R_slice hs
 have FV := m0_ hs
 clear hs
 have n0_ := m0_ (Kd.R_below FS.out hb)
 have n1_ := m0_ (below_step HB.out hb)
 clear FS HB
 have FS := n0_
 have HB := n1_
 clear n0_ n1_
 clear hb
 clear FS
 go_wp2_with (go_at_call 15;fail)
 refine (laws_toRuleS.calls k _ _ l0 a _ (Kd.C_below HRA.out HB.out) HCA.out TA.out).mono ?_
 rintro e w4 ⟨v_, rfl, hs, hb⟩
 have Z4 := m0_ (show w3.heap.size ≤ w4.heap.size from hb.size)
 have hs := Kd.R_mono (ok' := fun k_ => w3.heap.size ≤ k_ ∧ k_ < w4.heap.size) (Kd.R_lower (Kd.R_bound hs) HB.out.size) (fun k_ hk => ⟨hk.2.1, hk.2.2.1⟩)
 obtain ⟨AX, cX, rfl⟩ := Kd.R_slice hs
 have FX := m0_ hs
 clear hs
 have n0_ := m0_ (Kd.R_below FV.out hb)
 have n1_ := m0_ (below_step HB.out hb)
 clear FV HB
 have FV := n0_
 have HB := n1_
 clear n0_ n1_
 clear hb
 go_wp2_with (go_at_call 26;fail)
 refine (impl_RulesOrder.calls k _ _ a g1 _ (Kd.R_reads' FX.out).2.2 (Kd.R_reads' FX.out).2.1 TG.out).mono ?_
 rintro e w5 ⟨v_, rfl, hs, hb⟩
 have Z5 := m0_ (show w4.heap.size ≤ w5.heap.size from hb.size)
 have hs := Kd.R_mono (ok' := fun k_ => w4.heap.size ≤ k_ ∧ k_ < w5.heap.size) (Kd.R_lower (Kd.R_bound hs) HB.out.size) (fun k_ hk => ⟨hk.2.1, hk.2.2.1⟩)
 obtain ⟨AG, cG, rfl⟩ := Kd.R_slice hs
 have FG := m0_ hs
 clear hs
 have n0_ := m0_ (Kd.R_below FV.out hb)
 have n1_ := m0_ (Kd.R_below FX.out hb)
 have n2_ := m0_ (below_step HB.out hb)
 clear FV FX HB
 have FV := n0_
 have FX := n1_
 have HB := n2_
 clear n0_ n1_ n2_
 clear hb
 go_wp2_with (go_at_call 27;fail)
 refine (laws_eqIntS.calls k _ _ g1 _ _ v1 true ⟨rfl⟩ _ (Kd.R_reads' FG.out).2.2 (Kd.R_reads' FG.out).2.1 (Kd.R_reads' FV.out).2.2 (Kd.R_reads' FV.out).2.1 E1.out).mono ?_
 rintro e w6 ⟨rfl, hb⟩
 have hb := hb.below
 have Z6 := m0_ (show w5.heap.size ≤ w6.heap.size from hb.size)
 have n0_ := m0_ (Kd.R_below FV.out hb)
 have n1_ := m0_ (Kd.R_below FX.out hb)
 have n2_ := m0_ (Kd.R_below FG.out hb)
 have n3_ := m0_ (below_step HB.out hb)
 clear FV FX FG HB
 have FV := n0_
 have FX := n1_
 have FG := n2_
 have HB := n3_
 clear n0_ n1_ n2_ n3_
 clear hb
 go_wp2_with (go_at_call 15;fail)
 refine (laws_toRuleS.calls k _ _ l0 a _ (Kd.C_below HRA.out HB.out) HCA.out TA.out).mono ?_
 rintro e w7 ⟨v_, rfl, hs, hb⟩
 have Z7 := m0_ (show w6.heap.size ≤ w7.heap.size from hb.size)
 have hs := Kd.R_mono (ok' := fun k_ => w6.heap.size ≤ k_ ∧ k_ < w7.heap.size) (Kd.R_lower (Kd.R_bound hs) HB.out.size) (fun k_ hk => ⟨hk.2.1, hk.2.2.1⟩)
 obtain ⟨AS, cS, rfl⟩ := Kd.R_slice hs
 have FS := m0_ hs
 clear hs
 have n0_ := m0_ (Kd.R_below FV.out hb)
 have n1_ := m0_ (Kd.R_below FX.out hb)
 have n2_ := m0_ (Kd.R_below FG.out hb)
 have n3_ := m0_ (below_step HB.out hb)
 clear FV FX FG HB
 have FV := n0_
 have FX := n1_
 have FG := n2_
 have HB := n3_
 clear n0_ n1_ n2_ n3_
 clear hb
 go_wp2_with (go_at_call 17;fail)
 refine (laws_eqRuleS.calls k _ _ a _ _ a true ⟨rfl⟩ _ (Kd.R_reads' FX.out).2.2 (Kd.R_reads' FX.out).2.1 (Kd.R_reads' FS.out).2.2 (Kd.R_reads' FS.out).2.1 E2.out).mono ?_
 rintro e w8 ⟨rfl, hb⟩
 have Z8 := m0_ (show w7.heap.size ≤ w8.heap.size from hb.size)
 have n0_ := m0_ (Kd.R_below FV.out hb)
 have n1_ := m0_ (Kd.R_below FX.out hb)
 have n2_ := m0_ (Kd.R_below FG.out hb)
 have n3_ := m0_ (Kd.R_below FS.out hb)
 have n4_ := m0_ (below_step HB.out hb)
 clear FV FX FG FS HB
 have FV := n0_
 have FX := n1_
 have FG := n2_
 have FS := n3_
 have HB := n4_
 clear n0_ n1_ n2_ n3_ n4_
 clear hb
 clear FS
 go_wp2_with (go_at_call 28;fail)
 refine (markRuleS_walk k a 1 p1 _ _ w _ MP.out FX.out HB.out).mono ?_
 rintro e w9 ⟨rfl, hb, hk⟩
 have Z9 := m0_ (show w8.heap.size ≤ w9.heap.size from hk.1)
 have n0_ := m0_ (Kd.R_kept FV.out hk (fun k_ h1 h2 => by have z1 := Z1.out;have z2 := Z2.out;have z3 := Z3.out;have z4 := Z4.out;have z5 := Z5.out;have z6 := Z6.out;have z7 := Z7.out;have z8 := Z8.out;have z9 := Z9.out;omega))
 have n1_ := m0_ (Kd.R_kept FG.out hk (fun k_ h1 h2 => by have z1 := Z1.out;have z2 := Z2.out;have z3 := Z3.out;have z4 := Z4.out;have z5 := Z5.out;have z6 := Z6.out;have z7 := Z7.out;have z8 := Z8.out;have z9 := Z9.out;omega))
 have n2_ := m0_ (hb)
 clear FV FG HB
 have FV := n0_
 have FG := n1_
 have HB := n2_
 clear n0_ n1_ n2_
 clear FX
 clear hb hk
 go_wp2_with (go_at_call 27;fail)
 refine (laws_eqIntS.calls k _ _ g1 _ _ v1 true ⟨rfl⟩ _ (Kd.R_reads' FG.out).2.2 (Kd.R_reads' FG.out).2.1 (Kd.R_reads' FV.out).2.2 (Kd.R_reads' FV.out).2.1 E1.out).mono ?_
 rintro e w10 ⟨rfl, hb⟩
 have hb := hb.below
 have Z10 := m0_ (show w9.heap.size ≤ w10.heap.size from hb.size)
 have n0_ := m0_ (Kd.R_below FV.out hb)
 have n1_ := m0_ (Kd.R_below FG.out hb)
 have n2_ := m0_ (below_step HB.out hb)
 clear FV FG HB
 have FV := n0_
 have FG := n1_
 have HB := n2_
 clear n0_ n1_ n2_
 clear hb
 go_wp2_with (go_at_call 29;fail)
 refine (laws_markIntS.calls k _ _ g1 1 q x2 w _ HB.out FG.out M2.out).mono ?_
 rintro e w11 ⟨rfl, hs, hb, hk⟩
 have Z11 := m0_ (show w10.heap.size ≤ w11.heap.size from hk.1)
 have eL := (Kd.R_reads' hs).1
 rw [eL] at hs
 rw [eL]
 clear eL
 have n0_ := m0_ (Kd.R_kept FV.out hk (fun k_ h1 h2 => by have z1 := Z1.out;have z2 := Z2.out;have z3 := Z3.out;have z4 := Z4.out;have z5 := Z5.out;have z6 := Z6.out;have z7 := Z7.out;have z8 := Z8.out;have z9 := Z9.out;have z10 := Z10.out;have z11 := Z11.out;omega))
 have n1_ := m0_ (hb)
 clear FV HB
 have FV := n0_
 have HB := n1_
 clear n0_ n1_
 clear FG
 have FG := m0_ hs
 clear hs
 clear hb hk
 go_wp2_with (go_at_call 30;fail)
 refine (laws_heldIntS.calls k _ _ x2 1 q _ (Kd.R_reads' FG.out).2.2 (Kd.R_reads' FG.out).2.1 TQ.out).mono ?_
 rintro e w12 ⟨rfl, hb⟩
 have hb := hb.below
 have Z12 := m0_ (show w11.heap.size ≤ w12.heap.size from hb.size)
 have n0_ := m0_ (Kd.R_below FV.out hb)
 have n1_ := m0_ (Kd.R_below FG.out hb)
 have n2_ := m0_ (below_step HB.out hb)
 clear FV FG HB
 have FV := n0_
 have FG := n1_
 have HB := n2_
 clear n0_ n1_ n2_
 clear hb
 go_wp2_with (go_at_call 15;fail)
 refine (laws_toRuleS.calls k _ _ l0 a _ (Kd.C_below HRA.out HB.out) HCA.out TA.out).mono ?_
 rintro e w13 ⟨v_, rfl, hs, hb⟩
 have Z13 := m0_ (show w12.heap.size ≤ w13.heap.size from hb.size)
 have hs := Kd.R_mono (ok' := fun k_ => w12.heap.size ≤ k_ ∧ k_ < w13.heap.size) (Kd.R_lower (Kd.R_bound hs) HB.out.size) (fun k_ hk => ⟨hk.2.1, hk.2.2.1⟩)
 obtain ⟨AS, cS, rfl⟩ := Kd.R_slice hs
 have FS := m0_ hs
 clear hs
 have n0_ := m0_ (Kd.R_below FV.out hb)
 have n1_ := m0_ (Kd.R_below FG.out hb)
 have n2_ := m0_ (below_step HB.out hb)
 clear FV FG HB
 have FV := n0_
 have FG := n1_
 have HB := n2_
 clear n0_ n1_ n2_
 clear hb
 go_wp2_with (go_at_call 26;fail)
 refine (impl_RulesOrder.calls k _ _ a g1 _ (Kd.R_reads' FS.out).2.2 (Kd.R_reads' FS.out).2.1 TG.out).mono ?_
 rintro e w14 ⟨v_, rfl, hs, hb⟩
 have Z14 := m0_ (show w13.heap.size ≤ w14.heap.size from hb.size)
 have hs := Kd.R_mono (ok' := fun k_ => w13.heap.size ≤ k_ ∧ k_ < w14.heap.size) (Kd.R_lower (Kd.R_bound hs) HB.out.size) (fun k_ hk => ⟨hk.2.1, hk.2.2.1⟩)
 obtain ⟨AH, cH, rfl⟩ := Kd.R_slice hs
 have FH := m0_ hs
 clear hs
 have n0_ := m0_ (Kd.R_below FV.out hb)
 have n1_ := m0_ (Kd.R_below FG.out hb)
 have n2_ := m0_ (Kd.R_below FS.out hb)
 have n3_ := m0_ (below_step HB.out hb)
 clear FV FG FS HB
 have FV := n0_
 have FG := n1_
 have FS := n2_
 have HB := n3_
 clear n0_ n1_ n2_ n3_
 clear hb
 go_wp2_with (go_at_call 27;fail)
 refine (laws_eqIntS.calls k _ _ g1 _ _ v1 true ⟨rfl⟩ _ (Kd.R_reads' FH.out).2.2 (Kd.R_reads' FH.out).2.1 (Kd.R_reads' FV.out).2.2 (Kd.R_reads' FV.out).2.1 E1.out).mono ?_
 rintro e w15 ⟨rfl, hb⟩
 have hb := hb.below
 have Z15 := m0_ (show w14.heap.size ≤ w15.heap.size from hb.size)
 have n0_ := m0_ (Kd.R_below FV.out hb)
 have n1_ := m0_ (Kd.R_below FG.out hb)
 have n2_ := m0_ (Kd.R_below FS.out hb)
 have n3_ := m0_ (Kd.R_below FH.out hb)
 have n4_ := m0_ (below_step HB.out hb)
 clear FV FG FS FH HB
 have FV := n0_
 have FG := n1_
 have FS := n2_
 have FH := n3_
 have HB := n4_
 clear n0_ n1_ n2_ n3_ n4_
 clear hb
 clear FH FV FS
 go_wp2_with (go_at_call 30;fail)
 refine (laws_heldIntS.calls k _ _ x2 1 q _ (Kd.R_reads' FG.out).2.2 (Kd.R_reads' FG.out).2.1 TQ.out).mono ?_
 rintro e w16 ⟨rfl, hb⟩
 have hb := hb.below
 have Z16 := m0_ (show w15.heap.size ≤ w16.heap.size from hb.size)
 have n0_ := m0_ (Kd.R_below FG.out hb)
 have n1_ := m0_ (below_step HB.out hb)
 clear FG HB
 have FG := n0_
 have HB := n1_
 clear n0_ n1_
 clear hb
 go_wp2
 go_ret
 exact ⟨rfl, HB.out⟩

end Go.Proofs.Ytdljhokealbnnaa.M
namespace Go.Proofs.Ytdljhokealbnnaa.M
set_option linter.unusedVariables false
set_option linter.unusedSimpArgs false
open Go Go.Sort Go.Proofs.YtdljhokealbnnaaW.PrintWords Go.Proofs.YtdljhokealbnnaaW.PrintLast

section
variable {α : Type} [Inhabited α] (lt lt' : α → α → Bool) (ix : α → Nat)
theorem inner_same (hlt : ∀ x y, ix y < ix x → lt x y = lt' x y) : ∀ (j : Nat) (d : Array α), j < d.size → (∀ k, k < j → ix d[k]! < ix d[j]!) → insInner lt 0 j d = insInner lt' 0 j d
  | 0, d, _, _ => rfl
  | j + 1, d, hj, h => by
    unfold insInner
    rw [hlt _ _ (h j (by omega))]
    have e : insInner lt 0 j (swp d (j + 1) j) = insInner lt' 0 j (swp d (j + 1) j) := by
      refine inner_same hlt j _ (by rw [swp_size]; omega) (fun k hk => ?_)
      rw [swp_get d hj (by omega), swp_get d hj (by omega), if_neg (by omega), if_neg (by omega), if_pos rfl]
      exact h k (by omega)
    rw [e]
theorem inner_keep : ∀ (j : Nat) (d : Array α), j < d.size → (∀ k, j < k → (insInner lt 0 j d)[k]! = d[k]!) ∧ (∀ k, k ≤ j → ∃ k', k' ≤ j ∧ (insInner lt 0 j d)[k]! = d[k']!)
  | 0, d, _ => ⟨fun _ _ => rfl, fun k hk => ⟨k, hk, rfl⟩⟩
  | j + 1, d, hj => by
    unfold insInner
    split
    · obtain ⟨h1, h2⟩ := inner_keep j (swp d (j + 1) j) (by rw [swp_size]; omega)
      have sg := swp_get d hj (show j < d.size by omega)
      refine ⟨fun k hk => ?_, fun k hk => ?_⟩
      · rw [h1 k (by omega), sg, if_neg (by omega), if_neg (by omega)]
      by_cases hkj : k ≤ j
      · obtain ⟨k', h3, h4⟩ := h2 k hkj
        rw [h4, sg]
        by_cases c : k' = j
        · exact ⟨j + 1, Nat.le_refl _, by rw [if_pos c]⟩
        · exact ⟨k', by omega, by rw [if_neg c, if_neg (by omega)]⟩
      · refine ⟨j, by omega, ?_⟩
        rw [h1 k (by omega), sg, if_neg (by omega), if_pos (by omega)]
    · exact ⟨fun _ _ => rfl, fun k hk => ⟨k, hk, rfl⟩⟩
theorem outer_same (hlt : ∀ x y, ix y < ix x → lt x y = lt' x y) (b : Nat) : ∀ (e i : Nat) (d : Array α), b - i ≤ e → b ≤ d.size → (∀ m, i ≤ m → m < b → ∀ k, k < m → ix d[k]! < ix d[m]!) → insOuter lt 0 b i d = insOuter lt' 0 b i d
  | 0, i, d, he, _, _ => by
    rw [insOuter.eq_def lt, insOuter.eq_def lt', if_neg (by omega), if_neg (by omega)]
  | e + 1, i, d, he, hb, h => by
    rw [insOuter.eq_def lt, insOuter.eq_def lt']
    by_cases hi : i < b
    · rw [if_pos hi, if_pos hi, inner_same lt lt' ix hlt i d (by omega) (h i (Nat.le_refl _) hi)]
      obtain ⟨h1, h2⟩ := inner_keep lt' i d (by omega)
      have hsz := size_inner lt' 0 i d
      refine outer_same hlt b e (i + 1) _ (by omega) (by rw [hsz]; exact hb) (fun m hm hmb k hk => ?_)
      rw [h1 m (by omega)]
      by_cases hki : k ≤ i
      · obtain ⟨k', h3, h4⟩ := h2 k hki
        rw [h4]
        exact h m (by omega) hmb k' (by omega)
      · rw [h1 k (by omega)]
        exact h m (by omega) hmb k hk
    · rw [if_neg hi, if_neg hi]
end
section
variable (l : List S39)
def Due (x y : Nat) : Prop := priAt l y < priAt l x ∨ priAt l x = priAt l y ∧ x < y
instance (x y : Nat) : Decidable (Due l x y) := inferInstanceAs (Decidable (_ ∨ _))
def dueF (M : Nat) (x y : Fin (M + 1)) : Bool := decide (Due l x.val y.val)
theorem dueF_swo (M : Nat) : SWO (dueF l M) := by
  refine ⟨fun x => ?_, fun x y z h1 h2 => ?_, fun x y z h1 h2 => ?_⟩
  · simp [dueF, Due]
  · have h1 := of_decide_eq_true h1
    have h2 := of_decide_eq_true h2
    refine decide_eq_true ?_
    unfold Due at *; omega
  · have h1 := of_decide_eq_false h1
    have h2 := of_decide_eq_false h2
    refine decide_eq_false ?_
    unfold Due at *; omega
theorem sortR_due (M : Nat) (hp : ∀ i : Nat, 0 ≤ priAt l i ∧ priAt l i ≤ 9) : sortR l M = insertionSort (dueF l M) (List.finRange (M + 1)).toArray 0 (M + 1) := by
  unfold sortR insertionSort
  have hg : ∀ k, k < M + 1 → ((List.finRange (M + 1)).toArray[k]!).val = k := fun k hk => by
    rw [getElem!_pos _ k (by simpa using hk)]
    simp
  refine outer_same (ltOf (cmpR l M)) (dueF l M) (fun x => x.val) (fun x y h => ?_) (M + 1) (M + 1) (0 + 1) _ (by omega) (by simp) (fun m h1 h2 k hk => ?_)
  · have hx := hp x.val
    have hy := hp y.val
    have e : cmpR l M x y = priAt l y.val - priAt l x.val := w_small (by omega) (by omega)
    show decide (cmpR l M x y < 0) = decide (Due l x.val y.val)
    apply decide_eq_decide.2
    rw [e]
    unfold Due
    have h : y.val < x.val := h
    omega
  · show ((List.finRange (M + 1)).toArray[k]!).val < ((List.finRange (M + 1)).toArray[m]!).val
    rw [hg k (by omega), hg m h2]
    exact hk
def IsOrder (o : List Int) : Prop := o.Pairwise (fun x y => Due l x.toNat y.toNat) ∧ ∀ x : Int, x ∈ o ↔ 0 ≤ x ∧ x < (l.length : Int)
theorem isOrder_ext : ∀ (a b : List Int), a.Pairwise (fun x y => Due l x.toNat y.toNat) → b.Pairwise (fun x y => Due l x.toNat y.toNat) → (∀ x ∈ a, 0 ≤ x) → (∀ x, x ∈ a ↔ x ∈ b) → a = b
  | [], [], _, _, _, _ => rfl
  | [], y :: b, _, _, _, h => absurd ((h y).2 List.mem_cons_self) (by simp)
  | x :: a, [], _, _, _, h => absurd ((h x).1 List.mem_cons_self) (by simp)
  | x :: a, y :: b, ha, hb, hp, h => by
    obtain ⟨a1, a2⟩ := List.pairwise_cons.1 ha
    obtain ⟨b1, b2⟩ := List.pairwise_cons.1 hb
    have hy0 : 0 ≤ y := hp y ((h y).2 List.mem_cons_self)
    have exy : x = y := by
      rcases List.mem_cons.1 ((h x).1 List.mem_cons_self) with e | e
      · exact e
      rcases List.mem_cons.1 ((h y).2 List.mem_cons_self) with e' | e'
      · exact e'.symm
      have h1 := a1 y e'
      have h2 := b1 x e
      unfold Due at h1 h2
      omega
    subst exy
    have hn : ∀ {c : List Int}, (∀ z ∈ c, Due l x.toNat z.toNat) → x ∉ c := fun hc hm => by
      have := hc x hm
      unfold Due at this
      omega
    rw [isOrder_ext a b a2 b2 (fun z hz => hp z (List.mem_cons_of_mem _ hz)) (fun z => by
      have := h z
      rw [List.mem_cons, List.mem_cons] at this
      constructor
      · intro hz
        rcases this.1 (.inr hz) with e | e
        · exact absurd (e ▸ hz) (hn a1)
        · exact e
      · intro hz
        rcases this.2 (.inr hz) with e | e
        · exact absurd (e ▸ hz) (hn b1)
        · exact e)]
theorem orderR_is (hp : ∀ i : Nat, 0 ≤ priAt l i ∧ priAt l i ≤ 9) : IsOrder l (orderR l) := by
  unfold orderR
  cases hM : l.length with
  | zero => exact ⟨List.Pairwise.nil, fun x => ⟨fun h => (List.not_mem_nil h).elim, fun h => absurd h (by omega)⟩⟩
  | succ M =>
    show IsOrder l ((sortR l M).toList.map (fun i : Fin (M + 1) => (i.val : Int)))
    have hsz := size_sortR l M
    obtain ⟨⟨p1, p2, p3⟩, hs⟩ := insertionSort_holds (lt := dueF l M) (dueF_swo l M) (List.finRange (M + 1)).toArray 0 (M + 1) (Nat.zero_le _) (by simp)
    rw [← sortR_due l M hp] at p1 p3 hs
    have e1 : (sortR l M).extract 0 (M + 1) = sortR l M := by
      have := Array.extract_size (xs := sortR l M)
      rw [hsz] at this
      exact this
    have e2 : ((List.finRange (M + 1)).toArray).extract 0 (M + 1) = (List.finRange (M + 1)).toArray := by
      have := Array.extract_size (xs := (List.finRange (M + 1)).toArray)
      simpa using this
    rw [e1, e2] at p3
    have p4 : (sortR l M).toList.Perm (List.finRange (M + 1)) := p3
    have hnd : (sortR l M).toList.Nodup := p4.nodup_iff.2 (List.nodup_finRange _)
    refine ⟨?_, fun x => ?_⟩
    · rw [List.pairwise_map, List.pairwise_iff_getElem]
      intro i j hi hj hij
      have hi' : i < (sortR l M).size := by simpa using hi
      have hj' : j < (sortR l M).size := by simpa using hj
      have h := hs i j (Nat.zero_le _) hij (by omega)
      rw [getElem!_pos _ i hi', getElem!_pos _ j hj'] at h
      have hne : (sortR l M).toList[i] ≠ (sortR l M).toList[j] := List.pairwise_iff_getElem.1 hnd i j hi hj hij
      simp only [Array.getElem_toList] at hne ⊢
      have hv : ((sortR l M)[i]).val ≠ ((sortR l M)[j]).val := fun e => hne (Fin.ext e)
      have h := of_decide_eq_false h
      show Due l _ _
      simp only [Int.toNat_natCast]
      unfold Due at h ⊢
      omega
    · rw [List.mem_map]
      constructor
      · rintro ⟨i, _, rfl⟩
        have := i.isLt
        rw [hM]; omega
      · intro hx
        rw [hM] at hx
        exact ⟨⟨x.toNat, by omega⟩, p4.mem_iff.2 (List.mem_finRange _), by show ((x.toNat : Nat) : Int) = x; omega⟩
end
end Go.Proofs.Ytdljhokealbnnaa.M
namespace Go.Proofs.Ytdljhokealbnnaa.M
set_option linter.unusedVariables false
set_option linter.unusedSimpArgs false
open Go.RowKit Go.Proofs.YtdljhokealbnnaaW.PrintWords Go.Proofs.YtdljhokealbnnaaW.PrintLast

theorem maxLen_le {n : Nat} (h : n ≤ maxLen) : n ≤ 9223372036854775807 := by unfold maxLen at h; omega
def leftOf (a : Int) (n : Nat) : Int := if (n : Int) ≤ a then a - n else -1
theorem leftOf_neg {a : Int} {n : Nat} (h : ¬ (n : Int) ≤ a) : leftOf a n = -1 := if_neg h
theorem leftOf_pos {a : Int} {n : Nat} (h : (n : Int) ≤ a) : leftOf a n = a - n := if_pos h
def sumW {α : Type} (w : α → Nat) : List α → Nat
  | [] => 0
  | x :: xs => w x + sumW w xs
theorem sumW_mem {α : Type} (w : α → Nat) : ∀ (l : List α) (x : α), x ∈ l → w x ≤ sumW w l
  | [], _, h => by simp at h
  | y :: ys, x, h => by
    rw [sumW]
    rcases List.mem_cons.1 h with rfl | h
    · omega
    · have := sumW_mem w ys x h
      omega
theorem getD_in {α : Type} {l : List α} {z : α} {n : Nat} (h : n < l.length) : l.getD n z = l[n] := by
  rw [List.getD_eq_getElem?_getD, List.getElem?_eq_getElem h]
  rfl

theorem left_more {a : Int} {m n : Nat} : (if (m : Int) ≤ a then leftOf (a - m) n else -1) = leftOf a (m + n) := by
  unfold leftOf
  by_cases h : (m : Int) ≤ a
  · rw [if_pos h]
    by_cases h2 : (n : Int) ≤ a - m
    · rw [if_pos h2, if_pos (by omega)]
      omega
    · rw [if_neg h2, if_neg (by omega)]
  · rw [if_neg h, if_neg (by omega)]
theorem left_two {g : Nat → Option Int} {f : Int → Nat → Option Int} {a : Int} {m n : Nat} (h0 : 0 ≤ a) (hg : Ev g (leftOf a m)) (hf : (m : Int) ≤ a → Ev (f (a - m)) (leftOf (a - m) n)) : Ev (fun k => (g k).bind fun t => if t < 0 then some (-1) else f t k) (leftOf a (m + n)) := by
  refine Ev.bind hg ?_
  rw [← left_more]
  by_cases h : (m : Int) ≤ a
  · rw [leftOf_pos h, if_pos h]
    exact Ev.neg (by omega) (hf h)
  · rw [leftOf_neg h, if_neg h]
    exact Ev.pos (by omega) (Ev.now _)
theorem left_last {g : Nat → Option Int} {a : Int} {m : Nat} (h0 : 0 ≤ a) (hg : Ev g (leftOf a m)) : Ev (fun k => (g k).bind fun t => if t < 0 then some (-1) else some t) (leftOf a m) := by
  refine Ev.bind hg ?_
  by_cases h : (m : Int) ≤ a
  · rw [leftOf_pos h]
    exact Ev.neg (by omega) (Ev.now _)
  · rw [leftOf_neg h]
    exact Ev.pos (by omega) (Ev.now _)
theorem left_own {f : Int → Nat → Option Int} {a : Int} {m n : Nat} (h0 : 0 ≤ a) (h1 : a ≤ 1048576) (hm : m ≤ 9223372036854775807) (hf : (m : Int) ≤ a → Ev (f (a - m)) (leftOf (a - m) n)) : Ev (fun k => if wrap64 (a - (m : Int)) < 0 then some (-1) else f (wrap64 (a - (m : Int))) k) (leftOf a (m + n)) := by
  have hw : wrap64 (a - (m : Int)) = a - m := w_small (by omega) (by omega)
  rw [hw, ← left_more]
  by_cases h : (m : Int) ≤ a
  · rw [if_pos h]
    exact Ev.neg (by omega) (hf h)
  · rw [if_neg h]
    exact Ev.pos (by omega) (Ev.now _)

theorem gen_sz {α : Type} (z : α) (w : α → Nat) (e : Nat → α → Int → Option Int) (L : Nat → List α → Int → Int → Option Int)
    (hL : ∀ k l a n, L (k + 1) l a n = if n < (l.length : Int) then (if 0 ≤ n then ((e k (l.getD n.toNat z) a).bind fun t => (if t < 0 then (some (-1)) else (L k l t (wrap64 (n + 1))))) else none) else some a)
    (l : List α) (hl : l.length ≤ 9223372036854775807) (he : ∀ x ∈ l, ∀ a : Int, 0 ≤ a → a ≤ 1048576 → Ev (fun k => e k x a) (leftOf a (w x))) :
    ∀ (d n : Nat) (a : Int), n + d = l.length → 0 ≤ a → a ≤ 1048576 → Ev (fun k => L k l a (n : Int)) (leftOf a (sumW w (l.drop n))) := by
  intro d
  induction d with
  | zero =>
    intro n a hn h0 h1
    rw [List.drop_of_length_le (by omega), sumW, leftOf_pos (by omega)]
    exact Ev.last (fun k => by rw [hL, if_neg (by omega)]; simp)
  | succ d ih =>
    intro n a hn h0 h1
    have hlt : n < l.length := by omega
    rw [List.drop_eq_getElem_cons hlt, sumW]
    refine Ev.step (fun k => by rw [hL, if_pos (by omega), if_pos (by omega), Int.toNat_natCast, getD_in hlt, w_succ (by omega)]) ?_
    exact left_two (f := fun t k => L k l t ((n + 1 : Nat) : Int)) h0 (he _ (List.getElem_mem _) a h0 h1) (fun h => ih (n + 1) _ (by omega) (by omega) (by omega))
def allW {α : Type} (w : α → Nat) (l : List α) : Nat := l.length + sumW w l
theorem gen_szS {α : Type} (z : α) (w : α → Nat) (e : Nat → α → Int → Option Int) (L : Nat → List α → Int → Int → Option Int)
    (hL : ∀ k l a n, L (k + 1) l a n = if n < (l.length : Int) then (if 0 ≤ n then ((e k (l.getD n.toNat z) a).bind fun t => (if t < 0 then (some (-1)) else (L k l t (wrap64 (n + 1))))) else none) else some a)
    (l : List α) (hl : l.length ≤ 9223372036854775807) (he : ∀ x ∈ l, ∀ a : Int, 0 ≤ a → a ≤ 1048576 → Ev (fun k => e k x a) (leftOf a (w x))) (a : Int) (h0 : 0 ≤ a) (h1 : a ≤ 1048576) :
    Ev (fun k => if wrap64 (a - (l.length : Int)) < 0 then some (-1) else L k l (wrap64 (a - (l.length : Int))) 0) (leftOf a (allW w l)) :=
  left_own (f := fun t k => L k l t 0) h0 h1 hl (fun h => gen_sz z w e L hL l hl he l.length 0 _ (by omega) (by omega) (by omega))
theorem allW_mem {α : Type} {w : α → Nat} {l : List α} {x : α} (h : x ∈ l) : w x ≤ allW w l := by
  have := sumW_mem w l x h
  unfold allW
  omega
theorem allW_len {α : Type} {w : α → Nat} {l : List α} : l.length ≤ allW w l := by unfold allW; omega

theorem gen_to {α β γ : Type} (z : α) (cv : α → β) (u : α → γ) (pack : γ → β) (hp : ∀ x, pack (u x) = cv x) (e : Nat → α → Option γ) (L : Nat → List α → List β → Int → Option (List β))
    (hL : ∀ k l m n, L (k + 1) l m n = if n < (l.length : Int) then (if 0 ≤ n then ((e k (l.getD n.toNat z)).bind fun t => (if n < (m.length : Int) then (L k l (m.set n.toNat (pack t)) (wrap64 (n + 1))) else none)) else none) else some m)
    (l : List α) (hl : l.length ≤ 1048576) (he : ∀ x ∈ l, Ev (fun k => e k x) (u x)) :
    ∀ (d n : Nat) (m : List β), n + d = l.length → m.length = l.length → m.take n = (l.take n).map cv → Ev (fun k => L k l m (n : Int)) (l.map cv) := by
  intro d
  induction d with
  | zero =>
    intro n m hn hm ht
    refine Ev.last (fun k => by rw [hL, if_neg (by omega)]; rw [List.take_of_length_le (by omega), List.take_of_length_le (by omega)] at ht; rw [ht])
  | succ d ih =>
    intro n m hn hm ht
    have hlt : n < l.length := by omega
    refine Ev.step (fun k => by rw [hL, if_pos (by omega), if_pos (by omega), Int.toNat_natCast, getD_in hlt, w_succ (by omega)]) ?_
    refine Ev.bind (he _ (List.getElem_mem _)) (Ev.pos (by omega) ?_)
    refine ih (n + 1) _ (by omega) (by simp [hm]) ?_
    rw [take_set _ _ _ (by omega), ht, List.take_succ_eq_append_getElem hlt, List.map_append, hp]
    rfl
theorem gen_toS {α β γ : Type} (z : α) (zb : β) (cap : Nat) (hcap : 1048576 ≤ cap) (cv : α → β) (u : α → γ) (pack : γ → β) (hp : ∀ x, pack (u x) = cv x) (e : Nat → α → Option γ) (L : Nat → List α → List β → Int → Option (List β))
    (hL : ∀ k l m n, L (k + 1) l m n = if n < (l.length : Int) then (if 0 ≤ n then ((e k (l.getD n.toNat z)).bind fun t => (if n < (m.length : Int) then (L k l (m.set n.toNat (pack t)) (wrap64 (n + 1))) else none)) else none) else some m)
    (l : List α) (hl : l.length ≤ 1048576) (he : ∀ x ∈ l, Ev (fun k => e k x) (u x)) :
    Ev (fun k => if 0 ≤ (l.length : Int) then (if ((l.length : Int) : Int).toNat ≤ cap then (L k l (List.replicate ((l.length : Int) : Int).toNat zb) 0) else none) else none) (l.map cv) := by
  refine Ev.pos (by omega) (Ev.pos (by omega) ?_)
  rw [Int.toNat_natCast]
  exact gen_to z cv u pack hp e L hL l hl he l.length 0 _ (by omega) (by simp) (by simp)

theorem gen_eq {β : Type} (z : β) (e : Nat → β → β → Option Bool) (L : Nat → List β → List β → Int → Option Bool)
    (hL : ∀ k l m n, L (k + 1) l m n = if n < (l.length : Int) then (if 0 ≤ n then (if n < (m.length : Int) then ((e k (l.getD n.toNat z) (m.getD n.toNat z)).bind fun t => (if t = true then (L k l m (wrap64 (n + 1))) else some false)) else none) else none) else some true)
    (l : List β) (hl : l.length ≤ 1048576) (he : ∀ x ∈ l, Ev (fun k => e k x x) true) :
    ∀ (d n : Nat), n + d = l.length → Ev (fun k => L k l l (n : Int)) true := by
  intro d
  induction d with
  | zero =>
    intro n hn
    exact Ev.last (fun k => by rw [hL, if_neg (by omega)])
  | succ d ih =>
    intro n hn
    have hlt : n < l.length := by omega
    refine Ev.step (fun k => by rw [hL, if_pos (by omega), if_pos (by omega), if_pos (by omega), Int.toNat_natCast, getD_in hlt, w_succ (by omega)]) ?_
    exact Ev.bind (he _ (List.getElem_mem _)) (Ev.pos rfl (ih (n + 1) (by omega)))
theorem gen_eqS {β : Type} (z : β) (e : Nat → β → β → Option Bool) (L : Nat → List β → List β → Int → Option Bool)
    (hL : ∀ k l m n, L (k + 1) l m n = if n < (l.length : Int) then (if 0 ≤ n then (if n < (m.length : Int) then ((e k (l.getD n.toNat z) (m.getD n.toNat z)).bind fun t => (if t = true then (L k l m (wrap64 (n + 1))) else some false)) else none) else none) else some true)
    (l : List β) (hl : l.length ≤ 1048576) (he : ∀ x ∈ l, Ev (fun k => e k x x) true) :
    Ev (fun k => if (l.length : Int) = (l.length : Int) then L k l l 0 else some false) true :=
  Ev.pos rfl (gen_eq z e L hL l hl he l.length 0 (by omega))

theorem indL {P : S30 → Prop} (h : ∀ x, (∀ y ∈ x.f3, P y) → P x) : ∀ x, P x := by
  have key : ∀ n, ∀ x : S30, SizeOf.sizeOf x ≤ n → P x := by
    intro n
    induction n with
    | zero => intro x hx; cases x; simp at hx
    | succ n ih =>
      intro x hx
      refine h x (fun y hy => ih y ?_)
      have := List.sizeOf_lt_of_mem hy
      cases x
      simp at *
      omega
  exact fun x => key _ x (Nat.le_refl _)
theorem indI {P : S37 → Prop} (h : ∀ x, (∀ y ∈ x.f3, P y) → P x) : ∀ x, P x := by
  have key : ∀ n, ∀ x : S37, SizeOf.sizeOf x ≤ n → P x := by
    intro n
    induction n with
    | zero => intro x hx; cases x; simp at hx
    | succ n ih =>
      intro x hx
      refine h x (fun y hy => ih y ?_)
      have := List.sizeOf_lt_of_mem hy
      cases x
      simp at *
      omega
  exact fun x => key _ x (Nat.le_refl _)

mutual
def allX : S30 → Nat
  | ⟨_, _, _, l⟩ => l.length + kidsX l
def kidsX : List S30 → Nat
  | [] => 0
  | x :: xs => allX x + kidsX xs
end
theorem allX_is (x : S30) : allX x = x.f3.length + kidsX x.f3 := by cases x; simp [allX]
theorem kidsX_cons (x : S30) (l : List S30) : kidsX (x :: l) = allX x + kidsX l := by simp [kidsX]
theorem kidsX_nil : kidsX [] = 0 := by simp [kidsX]

def SzOk (x : S30) : Prop := ∀ a : Int, 0 ≤ a → a ≤ 1048576 → Ev (fun k => laws_szEx.f k x.f0 x.f1 x.f2 x.f3 a) (leftOf a (allX x))
theorem szExS_l0_ev (l : List S30) (hl : l.length ≤ 9223372036854775807) (hs : ∀ x ∈ l, SzOk x) : ∀ (d n : Nat) (a : Int), n + d = l.length → 0 ≤ a → a ≤ 1048576 → Ev (fun k => laws_szExS.l0 k l a (n : Int)) (leftOf a (kidsX (l.drop n))) := by
  intro d
  induction d with
  | zero =>
    intro n a hn h0 h1
    rw [List.drop_of_length_le (by omega), kidsX_nil, leftOf_pos (by omega)]
    exact Ev.last (fun k => by simp only [laws_szExS.l0]; rw [if_neg (by omega)]; simp)
  | succ d ih =>
    intro n a hn h0 h1
    have hr : rd_T30 l (n : Int) = l.getD n z30 := rfl
    have hx : SzOk (l.getD n z30) := by
      rw [List.getD_eq_getElem?_getD, List.getElem?_eq_getElem (by omega)]
      exact hs _ (List.getElem_mem _)
    rw [drop_at l z30 n (by omega)]
    refine Ev.step (fun k => by simp only [laws_szExS.l0]; rw [if_pos (by omega), if_pos (by omega), hr, w_succ (by omega)]) ?_
    generalize l.getD n z30 = x at *
    refine Ev.bind (hx a h0 h1) ?_
    rw [kidsX_cons]
    by_cases h : (allX x : Int) ≤ a
    · rw [leftOf_pos h]
      refine Ev.neg (by omega) (Ev.val (ih (n + 1) (a - allX x) (by omega) (by omega) (by omega)) ?_)
      unfold leftOf
      by_cases h2 : ((kidsX (l.drop (n + 1)) : Nat) : Int) ≤ a - allX x
      · rw [if_pos h2, if_pos (by omega)]
        omega
      · rw [if_neg h2, if_neg (by omega)]
    · rw [leftOf_neg h, leftOf_neg (by omega)]
      exact Ev.pos (by omega) (Ev.now _)
theorem szEx_ev : ∀ x : S30, good30 x → SzOk x := by
  refine indL (fun x ih g a h0 h1 => ?_)
  have hl := maxLen_le g.fields.2.2.2.1
  have hk : ∀ y ∈ x.f3, SzOk y := fun y hy => ih y hy (g.fields.2.2.2.2 y hy)
  have hS : Ev (fun k => laws_szExS.f k x.f3 a) (leftOf a (allX x)) := by
    rw [allX_is]
    have hw : wrap64 (a - (x.f3.length : Int)) = a - x.f3.length := w_small (by omega) (by omega)
    refine Ev.step (fun k => by simp only [laws_szExS.f]; rw [hw]) ?_
    by_cases h : (x.f3.length : Int) ≤ a
    · refine Ev.neg (by omega) (Ev.val (szExS_l0_ev x.f3 hl hk x.f3.length 0 (a - x.f3.length) (by omega) (by omega) (by omega)) ?_)
      rw [List.drop_zero]
      unfold leftOf
      by_cases h2 : ((kidsX x.f3 : Nat) : Int) ≤ a - x.f3.length
      · rw [if_pos h2, if_pos (by omega)]
        omega
      · rw [if_neg h2, if_neg (by omega)]
    · rw [leftOf_neg (by omega)]
      exact Ev.pos (by omega) (Ev.now _)
  refine Ev.step (fun k => by simp only [laws_szEx.f]; rfl) (Ev.bind hS ?_)
  by_cases h : (allX x : Int) ≤ a
  · rw [leftOf_pos h]
    exact Ev.neg (by omega) (Ev.now _)
  · rw [leftOf_neg h]
    exact Ev.pos (by omega) (Ev.now _)

mutual
def cvX : S30 → S37
  | ⟨a, b, c, l⟩ => ⟨a, b, c, cvXs l⟩
def cvXs : List S30 → List S37
  | [] => []
  | x :: xs => cvX x :: cvXs xs
end
theorem cvXs_map (l : List S30) : cvXs l = l.map cvX := by
  induction l with
  | nil => simp [cvXs]
  | cons x l ih => simp [cvXs, ih]
theorem cvX_f0 (x : S30) : (cvX x).f0 = x.f0 := by cases x; simp [cvX]
theorem cvX_f1 (x : S30) : (cvX x).f1 = x.f1 := by cases x; simp [cvX]
theorem cvX_f2 (x : S30) : (cvX x).f2 = x.f2 := by cases x; simp [cvX]
theorem cvX_f3 (x : S30) : (cvX x).f3 = x.f3.map cvX := by cases x; simp [cvX, cvXs_map]
theorem kidsX_mem {l : List S30} {x : S30} (h : x ∈ l) : allX x ≤ kidsX l := by
  induction l with
  | nil => simp at h
  | cons y l ih =>
    rw [kidsX_cons]
    rcases List.mem_cons.1 h with rfl | h
    · omega
    · have := ih h
      omega
theorem allX_mem {x y : S30} (h : y ∈ x.f3) : allX y + 1 ≤ allX x := by
  have := kidsX_mem h
  have h2 := List.length_pos_of_mem h
  rw [allX_is x]
  omega
def ToOk (x : S30) : Prop := Ev (fun k => laws_toEx.f k x.f0 x.f1 x.f2 x.f3) ((cvX x).f0, (cvX x).f1, (cvX x).f2, (cvX x).f3)
theorem toExS_l0_ev (l : List S30) (hl : l.length ≤ 1048576) (hs : ∀ x ∈ l, ToOk x) : ∀ (d n : Nat) (m : List S37), n + d = l.length → m.length = l.length → m.take n = (l.take n).map cvX → Ev (fun k => laws_toExS.l0 k l m (n : Int)) (l.map cvX) := by
  intro d
  induction d with
  | zero =>
    intro n m hn hm ht
    refine Ev.last (fun k => by simp only [laws_toExS.l0]; rw [if_neg (by omega)]; rw [List.take_of_length_le (by omega), List.take_of_length_le (by omega)] at ht; rw [ht])
  | succ d ih =>
    intro n m hn hm ht
    have hr : rd_T30 l (n : Int) = l.getD n z30 := rfl
    have hn' : n < l.length := by omega
    have hg : l.getD n z30 = l[n] := by rw [List.getD_eq_getElem?_getD, List.getElem?_eq_getElem hn']; rfl
    have hx : ToOk (l.getD n z30) := by
      rw [hg]
      exact hs _ (List.getElem_mem _)
    refine Ev.step (fun k => by simp only [laws_toExS.l0]; rw [if_pos (by omega), if_pos (by omega), hr, w_succ (by omega)]) ?_
    refine Ev.bind hx ?_
    refine Ev.pos (by omega) ?_
    refine ih (n + 1) _ (by omega) (by simp [hm]) ?_
    rw [Int.toNat_natCast, take_set _ _ _ (by omega), ht, List.take_succ_eq_append_getElem hn', List.map_append, hg]
    show _ ++ [(⟨(cvX l[n]).f0, (cvX l[n]).f1, (cvX l[n]).f2, (cvX l[n]).f3⟩ : S37)] = _ ++ [cvX l[n]]
    cases cvX l[n]
    rfl
theorem toEx_ev : ∀ x : S30, allX x ≤ 1048576 → ToOk x := by
  refine indL (fun x ih g => ?_)
  have hk : ∀ y ∈ x.f3, ToOk y := fun y hy => ih y hy (by have := allX_mem hy; omega)
  have hl : x.f3.length ≤ 1048576 := by rw [allX_is] at g; omega
  have hS : Ev (fun k => laws_toExS.f k x.f3) (x.f3.map cvX) := by
    refine Ev.step (fun k => by simp only [laws_toExS.f]; rw [if_pos (by omega), if_pos (by omega), Int.toNat_natCast]) ?_
    exact toExS_l0_ev x.f3 hl hk x.f3.length 0 _ (by omega) (by simp) (by simp)
  unfold ToOk
  rw [cvX_f0, cvX_f1, cvX_f2, cvX_f3]
  exact Ev.step (fun k => by simp only [laws_toEx.f]; rfl) (Ev.bindS hS rfl)

mutual
def allY : S37 → Nat
  | ⟨_, _, _, l⟩ => l.length + kidsY l
def kidsY : List S37 → Nat
  | [] => 0
  | x :: xs => allY x + kidsY xs
end
theorem allY_is (x : S37) : allY x = x.f3.length + kidsY x.f3 := by cases x; simp [allY]
theorem kidsY_cons (x : S37) (l : List S37) : kidsY (x :: l) = allY x + kidsY l := by simp [kidsY]
theorem kidsY_nil : kidsY [] = 0 := by simp [kidsY]
theorem kidsY_mem {l : List S37} {x : S37} (h : x ∈ l) : allY x ≤ kidsY l := by
  induction l with
  | nil => simp at h
  | cons y l ih =>
    rw [kidsY_cons]
    rcases List.mem_cons.1 h with rfl | h
    · omega
    · have := ih h
      omega
theorem allY_mem {x y : S37} (h : y ∈ x.f3) : allY y + 1 ≤ allY x := by
  have := kidsY_mem h
  have h2 := List.length_pos_of_mem h
  rw [allY_is x]
  omega
theorem allY_len {x : S37} : x.f3.length ≤ allY x := by rw [allY_is]; omega
theorem kidsY_map (l : List S30) (h : ∀ x ∈ l, allY (cvX x) = allX x) : kidsY (l.map cvX) = kidsX l := by
  induction l with
  | nil => simp [kidsX_nil, kidsY_nil]
  | cons x l ih =>
    rw [List.map_cons, kidsX_cons, kidsY_cons, h x (by simp), ih (fun y hy => h y (by simp [hy]))]
theorem allY_cv : ∀ x : S30, allY (cvX x) = allX x := by
  refine indL (fun x ih => ?_)
  rw [allY_is, allX_is, cvX_f3, kidsY_map _ ih, List.length_map]
theorem rdI (l : List S37) (n : Nat) (h : n < l.length) : rd_T37 l (n : Int) = l[n] := by
  show l.getD n z37 = _
  rw [List.getD_eq_getElem?_getD, List.getElem?_eq_getElem h]
  rfl

def EqOk (x : S37) : Prop := Ev (fun k => laws_eqEx.f k x.f0 x.f1 x.f2 x.f3 x.f0 x.f1 x.f2 x.f3) true
theorem eqExS_l0_ev (l : List S37) (hl : l.length ≤ 1048576) (hs : ∀ x ∈ l, EqOk x) : ∀ (d n : Nat), n + d = l.length → Ev (fun k => laws_eqExS.l0 k l l (n : Int)) true := by
  intro d
  induction d with
  | zero =>
    intro n hn
    exact Ev.last (fun k => by simp only [laws_eqExS.l0]; rw [if_neg (by omega)])
  | succ d ih =>
    intro n hn
    have hx : EqOk l[n] := hs _ (List.getElem_mem _)
    refine Ev.step (fun k => by simp only [laws_eqExS.l0]; rw [if_pos (by omega), if_pos (by omega), if_pos (by omega), rdI l n (by omega), w_succ (by omega)]) ?_
    exact Ev.bind hx (Ev.pos rfl (ih (n + 1) (by omega)))
theorem eqEx_ev : ∀ x : S37, allY x ≤ 1048576 → EqOk x := by
  refine indI (fun x ih g => ?_)
  have hk : ∀ y ∈ x.f3, EqOk y := fun y hy => ih y hy (by have := allY_mem hy; omega)
  have hl : x.f3.length ≤ 1048576 := by have := allY_len (x := x); omega
  have hS : Ev (fun k => laws_eqExS.f k x.f3 x.f3) true := by
    refine Ev.step (fun k => by simp only [laws_eqExS.f]; rw [if_pos trivial]) ?_
    exact eqExS_l0_ev x.f3 hl hk x.f3.length 0 (by omega)
  unfold EqOk
  refine Ev.step (fun k => by simp only [laws_eqEx.f]; rw [if_pos trivial, if_pos trivial, if_pos trivial]) ?_
  exact Ev.bindS hS rfl
end Go.Proofs.Ytdljhokealbnnaa.M
namespace Go.Proofs.Ytdljhokealbnnaa.M
open Go.RowKit Go.Proofs.YtdljhokealbnnaaW.PrintWords Go.Proofs.YtdljhokealbnnaaW.PrintLast Go.Proofs.YtdljhokealbnnaaW.PrintMore
attribute [local go_sem] max2_int min2_int max_two min_two max_three min_three max_four min_four
set_option linter.unusedVariables false
set_option linter.unusedSimpArgs false

end Go.Proofs.Ytdljhokealbnnaa.M
namespace Go.Proofs.Ytdljhokealbnnaa.M
set_option linter.unusedVariables false
set_option linter.unusedSimpArgs false
open Go.RowKit Go.Proofs.YtdljhokealbnnaaW.PrintWords Go.Proofs.YtdljhokealbnnaaW.PrintLast

end Go.Proofs.Ytdljhokealbnnaa.M
namespace Go.Proofs.Ytdljhokealbnnaa.M
open Go.RowKit Go.Proofs.YtdljhokealbnnaaW.PrintWords Go.Proofs.YtdljhokealbnnaaW.PrintLast Go.Proofs.YtdljhokealbnnaaW.PrintMore
attribute [local go_sem] max2_int min2_int max_two min_two max_three min_three max_four min_four
set_option linter.unusedVariables false
set_option linter.unusedSimpArgs false

end Go.Proofs.Ytdljhokealbnnaa.M
namespace Go.Proofs.Ytdljhokealbnnaa.M
set_option linter.unusedVariables false
set_option linter.unusedSimpArgs false
open Go.RowKit Go.Proofs.YtdljhokealbnnaaW.PrintWords Go.Proofs.YtdljhokealbnnaaW.PrintLast

def allR (x : S32) : Nat := x.f0.size + allX x.f3
def cvR (x : S32) : S39 := ⟨x.f0, x.f1, x.f2, cvX x.f3, x.f4, x.f5, x.f6, x.f7, x.f8⟩
theorem szRule_ev (x : S32) (h : good32 x) (a : Int) (h0 : 0 ≤ a) (h1 : a ≤ 1048576) : Ev (fun k => laws_szRule.f k x.f0 x.f1 x.f2 x.f3.f0 x.f3.f1 x.f3.f2 x.f3.f3 x.f4 x.f5 x.f6 x.f7 x.f8 a) (leftOf a (allR x)) := by
  unfold laws_szRule.f allR
  exact left_own (f := fun t k => (laws_szEx.f k x.f3.f0 x.f3.f1 x.f3.f2 x.f3.f3 t).bind fun t => if t < 0 then some (-1) else some t) h0 h1 (maxLen_le h.1) (fun hm => left_last (by omega) (szEx_ev x.f3 h.2.2.2.1 _ (by omega) (by omega)))
theorem toRule_ev (x : S32) (h : allR x ≤ 1048576) : Ev (fun k => laws_toRule.f k x.f0 x.f1 x.f2 x.f3.f0 x.f3.f1 x.f3.f2 x.f3.f3 x.f4 x.f5 x.f6 x.f7 x.f8) (x.f0, x.f1, x.f2, (cvX x.f3).f0, (cvX x.f3).f1, (cvX x.f3).f2, (cvX x.f3).f3, x.f4, x.f5, x.f6, x.f7, x.f8) := by
  unfold laws_toRule.f
  unfold allR at h
  exact Ev.bindS (toEx_ev x.f3 (by omega)) rfl
theorem eqRule_ev (x : S32) (h : allR x ≤ 1048576) : Ev (fun k => laws_eqRule.f k x.f0 x.f1 x.f2 (cvX x.f3).f0 (cvX x.f3).f1 (cvX x.f3).f2 (cvX x.f3).f3 x.f4 x.f5 x.f6 x.f7 x.f8 x.f0 x.f1 x.f2 (cvX x.f3).f0 (cvX x.f3).f1 (cvX x.f3).f2 (cvX x.f3).f3 x.f4 x.f5 x.f6 x.f7 x.f8) true := by
  unfold laws_eqRule.f
  unfold allR at h
  have e := eqEx_ev (cvX x.f3) (by rw [allY_cv]; omega)
  exact Ev.pos rfl (Ev.pos rfl (Ev.pos rfl (Ev.bind e (Ev.pos rfl (Ev.pos rfl (Ev.pos rfl (Ev.pos rfl (Ev.pos rfl (Ev.pos rfl (Ev.now _))))))))))
theorem eta_I (x : S37) : (⟨x.f0, x.f1, x.f2, x.f3⟩ : S37) = x := by cases x; rfl
theorem szRuleS_ev (l : List S32) (hl : l.length ≤ maxLen) (hg : ∀ x ∈ l, good32 x) (a : Int) (h0 : 0 ≤ a) (h1 : a ≤ 1048576) : Ev (fun k => laws_szRuleS.f k l a) (leftOf a (allW allR l)) := by
  unfold laws_szRuleS.f
  exact gen_szS z32 allR (fun k x a => laws_szRule.f k x.f0 x.f1 x.f2 x.f3.f0 x.f3.f1 x.f3.f2 x.f3.f3 x.f4 x.f5 x.f6 x.f7 x.f8 a) laws_szRuleS.l0 (fun _ _ _ _ => rfl) l (maxLen_le hl) (fun x hx a h0 h1 => szRule_ev x (hg x hx) a h0 h1) a h0 h1
theorem toRuleS_ev (l : List S32) (h : allW allR l ≤ 1048576) : Ev (fun k => laws_toRuleS.f k l) (l.map cvR) := by
  have hl := allW_len (w := allR) (l := l)
  unfold laws_toRuleS.f
  exact gen_toS z32 z39 _ (by omega) cvR (fun x => (x.f0, x.f1, x.f2, (cvX x.f3).f0, (cvX x.f3).f1, (cvX x.f3).f2, (cvX x.f3).f3, x.f4, x.f5, x.f6, x.f7, x.f8))
    (fun t => (⟨t.1, t.2.1, t.2.2.1, (⟨t.2.2.2.1, t.2.2.2.2.1, t.2.2.2.2.2.1, t.2.2.2.2.2.2.1⟩ : S37), t.2.2.2.2.2.2.2.1, t.2.2.2.2.2.2.2.2.1, t.2.2.2.2.2.2.2.2.2.1, t.2.2.2.2.2.2.2.2.2.2.1, t.2.2.2.2.2.2.2.2.2.2.2⟩ : S39))
    (fun x => by simp only [cvR, eta_I]) (fun k x => laws_toRule.f k x.f0 x.f1 x.f2 x.f3.f0 x.f3.f1 x.f3.f2 x.f3.f3 x.f4 x.f5 x.f6 x.f7 x.f8) laws_toRuleS.l0 (fun _ _ _ _ => rfl) l (by omega) (fun x hx => toRule_ev x (by have := allW_mem (w := allR) hx; omega))
theorem eqRuleS_ev (l : List S32) (h : allW allR l ≤ 1048576) : Ev (fun k => laws_eqRuleS.f k (l.map cvR) (l.map cvR)) true := by
  have hl := allW_len (w := allR) (l := l)
  unfold laws_eqRuleS.f
  refine gen_eqS z39 (fun k x y => laws_eqRule.f k x.f0 x.f1 x.f2 x.f3.f0 x.f3.f1 x.f3.f2 x.f3.f3 x.f4 x.f5 x.f6 x.f7 x.f8 y.f0 y.f1 y.f2 y.f3.f0 y.f3.f1 y.f3.f2 y.f3.f3 y.f4 y.f5 y.f6 y.f7 y.f8) laws_eqRuleS.l0 (fun _ _ _ _ => rfl) (l.map cvR) (by rw [List.length_map]; omega) (fun y hy => ?_)
  obtain ⟨x, hx, rfl⟩ := List.mem_map.1 hy
  exact eqRule_ev x (by have := allW_mem (w := allR) hx; omega)
mutual
def manyY : S37 → Nat
  | ⟨_, _, _, l⟩ => 1 + manysY l
def manysY : List S37 → Nat
  | [] => 0
  | x :: xs => manyY x + manysY xs
end
mutual
def deepY : S37 → Nat
  | ⟨_, _, _, l⟩ => 1 + deepsY l
def deepsY : List S37 → Nat
  | [] => 0
  | x :: xs => max (deepY x) (deepsY xs)
end
def kidsOf (a : Int) : Int := if a = 1 then 0 else if a = 7 then 1 else if a = 2 ∨ a = 3 ∨ a = 4 then 2 else if a = 5 ∨ a = 6 then 3 else -1
def okN (a b c : Int) (n : Nat) : Bool := decide (kidsOf a = n) && (if a = 1 then decide (0 ≤ b ∧ b ≤ 4) else decide (b = 0)) && (if a = 7 then decide (1 ≤ c ∧ c ≤ 20) else decide (c = 0))
mutual
def fmY : S37 → Bool
  | ⟨a, b, c, l⟩ => okN a b c l.length && fmsY l
def fmsY : List S37 → Bool
  | [] => true
  | x :: xs => fmY x && fmsY xs
end
theorem manyY_is (x : S37) : manyY x = 1 + manysY x.f3 := by cases x; simp [manyY]
theorem manysY_nil : manysY [] = 0 := by simp [manysY]
theorem manysY_cons (x : S37) (l : List S37) : manysY (x :: l) = manyY x + manysY l := by simp [manysY]
theorem deepY_is (x : S37) : deepY x = 1 + deepsY x.f3 := by cases x; simp [deepY]
theorem deepsY_nil : deepsY [] = 0 := by simp [deepsY]
theorem deepsY_cons (x : S37) (l : List S37) : deepsY (x :: l) = max (deepY x) (deepsY l) := by simp [deepsY]
theorem fmY_is (x : S37) : fmY x = (okN x.f0 x.f1 x.f2 x.f3.length && fmsY x.f3) := by cases x; simp [fmY]
theorem fmsY_nil : fmsY [] = true := by simp [fmsY]
theorem fmsY_cons (x : S37) (l : List S37) : fmsY (x :: l) = (fmY x && fmsY l) := by simp [fmsY]
theorem manysY_all (l : List S37) (h : ∀ x ∈ l, manyY x = 1 + allY x) : manysY l = l.length + kidsY l := by
  induction l with
  | nil => simp [manysY_nil, kidsY_nil]
  | cons x l ih => rw [manysY_cons, kidsY_cons, h x (by simp), ih (fun y hy => h y (by simp [hy]))]; simp; omega
theorem manyY_all : ∀ x : S37, manyY x = 1 + allY x := by
  refine indI (fun x ih => ?_)
  rw [manyY_is, allY_is, manysY_all _ ih]
theorem deepsY_le (l : List S37) (h : ∀ x ∈ l, deepY x ≤ manyY x) : deepsY l ≤ manysY l := by
  induction l with
  | nil => simp [deepsY_nil, manysY_nil]
  | cons x l ih =>
    have h1 := h x (by simp)
    have h2 := ih (fun y hy => h y (by simp [hy]))
    rw [manysY_cons, deepsY_cons]
    omega
theorem deepY_le : ∀ x : S37, deepY x ≤ manyY x := by
  refine indI (fun x ih => ?_)
  have := deepsY_le _ ih
  rw [manyY_is, deepY_is]
  omega
def SizeOk (x : S37) : Prop := Ev (fun k => impl_Ex_size.f k x.f0 x.f1 x.f2 x.f3) ((manyY x : Int), (deepY x : Int))
theorem size_l0_ev (l : List S37) (hl : l.length ≤ 1048576) (hm : manysY l ≤ 1048577) (hs : ∀ x ∈ l, SizeOk x) : ∀ (d n m p : Nat), n + d = l.length → 1 ≤ m → 1 ≤ p → p ≤ 1048579 → m + manysY (l.drop n) ≤ 1048579 → Ev (fun k => impl_Ex_size.l0 k (m : Int) (p : Int) l (l.length : Int) (n : Int)) (((m + manysY (l.drop n) : Nat) : Int), ((max p (1 + deepsY (l.drop n)) : Nat) : Int)) := by
  intro d
  induction d with
  | zero =>
    intro n m p hn h0 h1 h2 h3
    rw [List.drop_of_length_le (by omega), manysY_nil, deepsY_nil]
    refine Ev.last (fun k => by simp only [impl_Ex_size.l0]; rw [if_neg (by omega)]; rw [Nat.max_eq_left (by omega)]; rfl)
  | succ d ih =>
    intro n m p hn h0 h1 h2 h3
    have hx : SizeOk l[n] := hs _ (List.getElem_mem _)
    have hd := List.drop_eq_getElem_cons (l := l) (i := n) (by omega)
    rw [hd, manysY_cons] at h3
    rw [hd, manysY_cons, deepsY_cons]
    have hp := deepY_le l[n]
    have e1 : wrap64 ((m : Int) + (manyY l[n] : Int)) = ((m + manyY l[n] : Nat) : Int) := by rw [w_small (by omega) (by omega)]; omega
    have e2 : mx (p : Int) (wrap64 ((deepY l[n] : Int) + 1)) = ((max p (1 + deepY l[n]) : Nat) : Int) := by rw [w_small (by omega) (by omega)]; unfold mx; omega
    refine Ev.step (fun k => by simp only [impl_Ex_size.l0]; rw [if_pos (by omega), if_pos (by omega), if_pos (by omega), rdI l n (by omega), w_succ (by omega)]) ?_
    refine Ev.bind hx ?_
    simp only [e1, e2]
    refine Ev.val (ih (n + 1) (m + manyY l[n]) (max p (1 + deepY l[n])) (by omega) (by omega) (by omega) (by omega) (by omega)) ?_
    refine Prod.ext ?_ ?_
    · show ((_ : Nat) : Int) = ((_ : Nat) : Int)
      congr 1
      omega
    · show ((_ : Nat) : Int) = ((_ : Nat) : Int)
      congr 1
      omega
theorem size_ev : ∀ x : S37, allY x ≤ 1048576 → SizeOk x := by
  refine indI (fun x ih g => ?_)
  have hk : ∀ y ∈ x.f3, SizeOk y := fun y hy => ih y hy (by have := allY_mem hy; omega)
  have hl : x.f3.length ≤ 1048576 := by have := allY_len (x := x); omega
  have hm : manysY x.f3 ≤ 1048577 := by have h1 := manyY_all x; have h2 := manyY_is x; omega
  unfold SizeOk
  refine Ev.step (fun k => by simp only [impl_Ex_size.f]; rfl) ?_
  refine Ev.val (size_l0_ev x.f3 hl hm hk x.f3.length 0 1 1 (by omega) (by omega) (by omega) (by omega) (by rw [List.drop_zero]; omega)) ?_
  rw [List.drop_zero, manyY_is, deepY_is]
  refine Prod.ext rfl ?_
  show ((_ : Nat) : Int) = ((_ : Nat) : Int)
  congr 1
  omega

def ManyOk (x : S37) : Prop := ∀ d : Nat, d ≤ 100 → deepY x ≤ d + 1 → Ev (fun k => spec_l2Many.f k x.f0 x.f1 x.f2 x.f3 (d : Int)) (manyY x : Int)
theorem many_l0_ev (l : List S37) (hl : l.length ≤ 1048576) (hs : ∀ x ∈ l, ManyOk x) (a b c : Int) (e : Nat) (he : e ≤ 100) : ∀ (d n m : Nat), n + d = l.length → deepsY (l.drop n) ≤ e → m + manysY (l.drop n) ≤ 1048579 → Ev (fun k => spec_l2Many.l0 k (e : Int) (m : Int) (n : Int) a b c l) ((m + manysY (l.drop n) : Nat) : Int) := by
  intro d
  induction d with
  | zero =>
    intro n m hn h1 h3
    rw [List.drop_of_length_le (by omega), manysY_nil]
    refine Ev.last (fun k => by simp only [spec_l2Many.l0]; rw [if_neg (by omega)]; rfl)
  | succ d ih =>
    intro n m hn h1 h3
    have hx : ManyOk l[n] := hs _ (List.getElem_mem _)
    have hd := List.drop_eq_getElem_cons (l := l) (i := n) (by omega)
    rw [hd, manysY_cons] at h3
    rw [hd, deepsY_cons] at h1
    rw [hd, manysY_cons]
    have hp : 1 ≤ deepY l[n] := by rw [deepY_is]; omega
    have e0 : wrap64 ((e : Int) - 1) = ((e - 1 : Nat) : Int) := by rw [w_small (by omega) (by omega)]; omega
    have e1 : wrap64 ((m : Int) + (manyY l[n] : Int)) = ((m + manyY l[n] : Nat) : Int) := by rw [w_small (by omega) (by omega)]; omega
    refine Ev.step (fun k => by simp only [spec_l2Many.l0]; rw [if_pos (by omega), if_pos (by omega), if_pos (by omega), rdI l n (by omega), w_succ (by omega), e0]) ?_
    refine Ev.bind (hx (e - 1) (by omega) (by omega)) ?_
    simp only [e1]
    have h5 : deepsY (l.drop (n + 1)) ≤ e := by omega
    have h6 : m + manyY l[n] + manysY (l.drop (n + 1)) ≤ 1048579 := by rw [Nat.add_assoc]; exact h3
    have h4 := ih (n + 1) (m + manyY l[n]) (by omega) h5 h6
    rw [Nat.add_assoc] at h4
    exact h4
theorem many_ev : ∀ x : S37, allY x ≤ 1048576 → ManyOk x := by
  refine indI (fun x ih g e he hd => ?_)
  have hk : ∀ y ∈ x.f3, ManyOk y := fun y hy => ih y hy (by have := allY_mem hy; omega)
  have hl : x.f3.length ≤ 1048576 := by have := allY_len (x := x); omega
  have hm : manysY x.f3 ≤ 1048577 := by have h1 := manyY_all x; have h2 := manyY_is x; omega
  rw [deepY_is] at hd
  refine Ev.step (fun k => by simp only [spec_l2Many.f]; rfl) ?_
  refine Ev.val (many_l0_ev x.f3 hl hk x.f0 x.f1 x.f2 e he x.f3.length 0 1 (by omega) (by rw [List.drop_zero]; omega) (by rw [List.drop_zero]; omega)) ?_
  rw [List.drop_zero, manyY_is]

theorem l2Kids_ev (a : Int) : Ev (fun k => spec_l2Kids.f k a) (kidsOf a) := by
  unfold spec_l2Kids.f kidsOf
  by_cases h1 : a = 1
  · exact Ev.pos h1 (Ev.val (Ev.now _) (by rw [if_pos h1]))
  refine Ev.neg h1 ?_
  rw [if_neg h1]
  by_cases h7 : a = 7
  · exact Ev.pos h7 (Ev.val (Ev.now _) (by rw [if_pos h7]))
  refine Ev.neg h7 ?_
  rw [if_neg h7]
  have yes : a = 2 ∨ a = 3 ∨ a = 4 → Ev (fun k => spec_l2Kids.j0 k a true) (if a = 2 ∨ a = 3 ∨ a = 4 then 2 else if a = 5 ∨ a = 6 then 3 else -1) := fun h => Ev.last (fun k => by simp only [spec_l2Kids.j0]; rw [if_pos trivial, if_pos h])
  by_cases h2 : a = 2
  · refine Ev.pos h2 ?_
    rw [show (a == 2) = true by simp [h2]]
    exact yes (by omega)
  refine Ev.neg h2 ?_
  by_cases h3 : a = 3
  · refine Ev.pos h3 ?_
    rw [show (a == 3) = true by simp [h3]]
    exact yes (by omega)
  refine Ev.neg h3 ?_
  by_cases h4 : a = 4
  · rw [show (a == 4) = true by simp [h4]]
    exact yes (by omega)
  rw [show (a == 4) = false by simp [h4]]
  rw [if_neg (by omega)]
  by_cases h5 : a = 5
  · exact Ev.last (fun k => by simp only [spec_l2Kids.j0]; rw [if_neg (by decide), if_pos h5, if_pos (by omega)])
  by_cases h6 : a = 6
  · exact Ev.last (fun k => by simp only [spec_l2Kids.j0]; rw [if_neg (by decide), if_neg h5, if_pos h6, if_pos (by omega)])
  · exact Ev.last (fun k => by simp only [spec_l2Kids.j0]; rw [if_neg (by decide), if_neg h5, if_neg h6, if_neg (by omega)])

def FormOk (x : S37) : Prop := ∀ d : Nat, d ≤ 100 → Ev (fun k => spec_l2Form.f k x.f0 x.f1 x.f2 x.f3 (d : Int)) (fmY x && decide (deepY x ≤ d))
theorem form_l0_ev (l : List S37) (hl : l.length ≤ 1048576) (hs : ∀ x ∈ l, FormOk x) (a b c : Int) (e : Nat) (he : e < 100) : ∀ (d n : Nat), n + d = l.length → Ev (fun k => spec_l2Form.l0 k ((e + 1 : Nat) : Int) (n : Int) a b c l) (fmsY (l.drop n) && decide (deepsY (l.drop n) ≤ e)) := by
  intro d
  induction d with
  | zero =>
    intro n hn
    rw [List.drop_of_length_le (by omega), fmsY_nil, deepsY_nil]
    exact Ev.last (fun k => by simp only [spec_l2Form.l0]; rw [if_neg (by omega)]; simp)
  | succ d ih =>
    intro n hn
    have hx : FormOk l[n] := hs _ (List.getElem_mem _)
    have hd := List.drop_eq_getElem_cons (l := l) (i := n) (by omega)
    rw [hd, fmsY_cons, deepsY_cons]
    have e0 : wrap64 (((e + 1 : Nat) : Int) - 1) = (e : Int) := by rw [w_small (by omega) (by omega)]; omega
    refine Ev.step (fun k => by simp only [spec_l2Form.l0]; rw [if_pos (by omega), if_pos (by omega), rdI l n (by omega), w_succ (by omega), e0]) ?_
    refine Ev.bind (hx e (by omega)) ?_
    by_cases h : (fmY l[n] && decide (deepY l[n] ≤ e)) = true
    · refine Ev.pos h (Ev.val (ih (n + 1) (by omega)) ?_)
      simp only [Bool.and_eq_true, decide_eq_true_eq] at h
      rw [h.1, Bool.true_and]
      have : (deepsY (l.drop (n + 1)) ≤ e) ↔ (max (deepY l[n]) (deepsY (l.drop (n + 1))) ≤ e) := by omega
      simp only [this]
    refine Ev.neg h (Ev.val (Ev.now false) ?_)
    by_cases hf : fmY l[n] = true
    · have : ¬ (max (deepY l[n]) (deepsY (l.drop (n + 1))) ≤ e) := by
        simp [hf] at h
        omega
      simp [this]
    · simp [hf]
theorem form_ev : ∀ x : S37, allY x ≤ 1048576 → FormOk x := by
  refine indI (fun x ih g d hd => ?_)
  have hk : ∀ y ∈ x.f3, FormOk y := fun y hy => ih y hy (by have := allY_mem hy; omega)
  have hl : x.f3.length ≤ 1048576 := by have := allY_len (x := x); omega
  rw [fmY_is, deepY_is]
  have bad : ∀ v : Bool, v = false → Ev (fun k => spec_l2Form.j0 k (d : Int) true x.f0 x.f1 x.f2 x.f3) v := fun v hv => Ev.last (fun k => by simp only [spec_l2Form.j0]; rw [if_pos trivial, hv])
  have bad1 : ∀ v : Bool, v = false → Ev (fun k => spec_l2Form.j1 k (d : Int) true x.f0 x.f1 x.f2 x.f3) v := fun v hv => Ev.last (fun k => by simp only [spec_l2Form.j1]; rw [if_pos trivial, hv])
  by_cases hd1 : (d : Int) < 1
  · refine Ev.step (fun k => by simp only [spec_l2Form.f]; rw [if_pos hd1]) (bad _ ?_)
    have : ¬ (1 + deepsY x.f3 ≤ d) := by omega
    simp [this]
  obtain ⟨e, rfl⟩ : ∃ e, d = e + 1 := ⟨d - 1, by omega⟩
  refine Ev.step (fun k => by simp only [spec_l2Form.f]; rw [if_neg hd1]) ?_
  refine Ev.bind (l2Kids_ev x.f0) ?_
  by_cases hn : kidsOf x.f0 = (x.f3.length : Int)
  rotate_left
  · refine Ev.neg hn (bad _ ?_)
    simp [okN, hn]
  refine Ev.pos hn ?_
  have rest : Ev (fun k => spec_l2Form.j0 k ((e + 1 : Nat) : Int) false x.f0 x.f1 x.f2 x.f3) ((if x.f0 = 7 then decide (1 ≤ x.f2 ∧ x.f2 ≤ 20) else decide (x.f2 = 0)) && (fmsY x.f3 && decide (deepsY x.f3 ≤ e))) := by
    have loop : Ev (fun k => spec_l2Form.j1 k ((e + 1 : Nat) : Int) false x.f0 x.f1 x.f2 x.f3) (fmsY x.f3 && decide (deepsY x.f3 ≤ e)) := by
      refine Ev.step (fun k => by simp only [spec_l2Form.j1]; rw [if_neg (by decide)]) ?_
      exact form_l0_ev x.f3 hl hk x.f0 x.f1 x.f2 e (by omega) x.f3.length 0 (by omega)
    by_cases h7 : x.f0 = 7
    · rw [if_pos h7]
      by_cases c1 : x.f2 < 1
      · refine Ev.step (fun k => by simp only [spec_l2Form.j0]; rw [if_neg (by decide), if_pos h7, if_pos c1]) (bad1 _ ?_)
        have : ¬ (1 ≤ x.f2 ∧ x.f2 ≤ 20) := by omega
        simp [this]
      by_cases c2 : x.f2 > 20
      · refine Ev.step (fun k => by simp only [spec_l2Form.j0]; rw [if_neg (by decide), if_pos h7, if_neg c1, if_pos c2]) (bad1 _ ?_)
        have : ¬ (1 ≤ x.f2 ∧ x.f2 ≤ 20) := by omega
        simp [this]
      · refine Ev.step (fun k => by simp only [spec_l2Form.j0]; rw [if_neg (by decide), if_pos h7, if_neg c1, if_neg c2]) (Ev.val loop ?_)
        have : (1 ≤ x.f2 ∧ x.f2 ≤ 20) := by omega
        simp [this]
    · rw [if_neg h7]
      by_cases c0 : x.f2 = 0
      · refine Ev.step (fun k => by simp only [spec_l2Form.j0]; rw [if_neg (by decide), if_neg h7, show (x.f2 != 0) = false by simp [c0]]) (Ev.val loop ?_)
        simp [c0]
      · refine Ev.step (fun k => by simp only [spec_l2Form.j0]; rw [if_neg (by decide), if_neg h7, show (x.f2 != 0) = true by simp [c0]]) (bad1 _ ?_)
        simp [c0]
  have hdd : (1 + deepsY x.f3 ≤ e + 1) ↔ (deepsY x.f3 ≤ e) := by omega
  simp only [hdd, okN, hn, decide_true, Bool.true_and]
  by_cases b0 : x.f1 < 0
  · refine Ev.pos b0 (bad _ ?_)
    have h1 : ¬ (0 ≤ x.f1 ∧ x.f1 ≤ 4) := by omega
    have h2 : ¬ (x.f1 = 0) := by omega
    simp [h1, h2]
  refine Ev.neg b0 ?_
  by_cases b5 : x.f1 ≥ 5
  · refine Ev.pos b5 (bad _ ?_)
    have h1 : ¬ (0 ≤ x.f1 ∧ x.f1 ≤ 4) := by omega
    have h2 : ¬ (x.f1 = 0) := by omega
    simp [h1, h2]
  refine Ev.neg b5 ?_
  by_cases a1 : x.f0 = 1
  · refine Ev.pos a1 (Ev.val rest ?_)
    rw [if_pos a1]
    have h1 : (0 ≤ x.f1 ∧ x.f1 ≤ 4) := by omega
    simp [h1, Bool.and_assoc]
  refine Ev.neg a1 ?_
  rw [if_neg a1]
  by_cases hb : x.f1 = 0
  · rw [show (x.f1 != 0) = false by simp [hb]]
    refine Ev.val rest ?_
    simp [hb, Bool.and_assoc]
  · rw [show (x.f1 != 0) = true by simp [hb]]
    exact bad _ (by simp [hb])

theorem in_is (a b c : Int) : impl_in.f a b c = some (decide (b ≤ a ∧ a ≤ c)) := by
  unfold impl_in.f
  by_cases h : b ≤ a
  · rw [if_pos h]; simp [h]
  · rw [if_neg h]; simp [h]
theorem kids_is (a : Int) (h1 : 1 ≤ a) (h7 : a ≤ 7) : impl_kids.f a = some (kidsOf a) := by
  have : a = 1 ∨ a = 2 ∨ a = 3 ∨ a = 4 ∨ a = 5 ∨ a = 6 ∨ a = 7 := by omega
  rcases this with rfl | rfl | rfl | rfl | rfl | rfl | rfl <;> rfl
theorem kidsOf_out {a : Int} (h : ¬ (1 ≤ a ∧ a ≤ 7)) : kidsOf a = -1 := by
  unfold kidsOf
  rw [if_neg (by omega), if_neg (by omega), if_neg (by omega), if_neg (by omega)]
def FmOk (x : S37) : Prop := Ev (fun k => impl_Ex_formed.f k x.f0 x.f1 x.f2 x.f3) (fmY x)
theorem fm_l0_ev (l : List S37) (hl : l.length ≤ 1048576) (hs : ∀ x ∈ l, FmOk x) : ∀ (d n : Nat), n + d = l.length → ∃ r : Int, Ev (fun k => impl_Ex_159.l0 k l (l.length : Int) (n : Int)) r ∧ (decide (r ≥ 0) = !fmsY (l.drop n)) := by
  intro d
  induction d with
  | zero =>
    intro n hn
    rw [List.drop_of_length_le (by omega), fmsY_nil]
    exact ⟨-1, Ev.last (fun k => by simp only [impl_Ex_159.l0]; rw [if_neg (by omega)]), by decide⟩
  | succ d ih =>
    intro n hn
    have hx : FmOk l[n] := hs _ (List.getElem_mem _)
    have hd := List.drop_eq_getElem_cons (l := l) (i := n) (by omega)
    rw [hd, fmsY_cons]
    have h1 : Ev (fun k => impl_Ex_formed_1.f k l[n].f0 l[n].f1 l[n].f2 l[n].f3) (!fmY l[n]) := Ev.step (fun k => by simp only [impl_Ex_formed_1.f]; rfl) (Ev.bindS hx rfl)
    cases hf : fmY l[n] with
    | true =>
      obtain ⟨r, hr, hv⟩ := ih (n + 1) (by omega)
      refine ⟨r, ?_, by rw [hv, Bool.true_and]⟩
      refine Ev.step (fun k => by simp only [impl_Ex_159.l0]; rw [if_pos (by omega), if_pos (by omega), if_pos (by omega), rdI l n (by omega), w_succ (by omega)]) ?_
      exact Ev.bind h1 (Ev.neg (by rw [hf]; decide) hr)
    | false =>
      refine ⟨(n : Int), ?_, by simp⟩
      refine Ev.step (fun k => by simp only [impl_Ex_159.l0]; rw [if_pos (by omega), if_pos (by omega), if_pos (by omega), rdI l n (by omega), w_succ (by omega)]) ?_
      exact Ev.bind h1 (Ev.pos (by rw [hf]; decide) (Ev.now _))
theorem formed_ev : ∀ x : S37, allY x ≤ 1048576 → FmOk x := by
  refine indI (fun x ih g => ?_)
  have hk : ∀ y ∈ x.f3, FmOk y := fun y hy => ih y hy (by have := allY_mem hy; omega)
  have hl : x.f3.length ≤ 1048576 := by have := allY_len (x := x); omega
  have hc : Ev (fun k => impl_Ex_130.f k x.f3) (!fmsY x.f3) := by
    obtain ⟨r, hr, hv⟩ := fm_l0_ev x.f3 hl hk x.f3.length 0 (by omega)
    rw [List.drop_zero] at hv
    refine Ev.step (fun k => by simp only [impl_Ex_130.f]; rfl) ?_
    refine Ev.bindS (Ev.step (fun k => by simp only [impl_Ex_159.f]; rfl) hr) ?_
    rw [hv]
  have bad : ∀ v : Bool, v = false → Ev (fun k => impl_Ex_formed.j0 k true x.f0 x.f1 x.f2 x.f3) v := fun v hv => Ev.last (fun k => by simp only [impl_Ex_formed.j0]; rw [if_pos trivial, hv])
  have bad1 : ∀ v : Bool, v = false → Ev (fun k => impl_Ex_formed.j1 k true x.f0 x.f1 x.f2 x.f3) v := fun v hv => Ev.last (fun k => by simp only [impl_Ex_formed.j1]; rw [if_pos trivial, hv])
  have last : Ev (fun k => impl_Ex_formed.j1 k false x.f0 x.f1 x.f2 x.f3) ((if x.f0 = 7 then decide (1 ≤ x.f2 ∧ x.f2 ≤ 20) else decide (x.f2 = 0)) && fmsY x.f3) := by
    by_cases h7 : x.f0 = 7
    · rw [if_pos h7]
      refine Ev.step (fun k => by simp only [impl_Ex_formed.j1]; rw [if_neg (by decide), if_pos h7, in_is, Option.bind_some]) ?_
      by_cases hc7 : 1 ≤ x.f2 ∧ x.f2 ≤ 20
      · refine Ev.pos (by simp [hc7]) (Ev.bindS hc ?_)
        simp [hc7]
      · refine Ev.neg (by simp; omega) (Ev.val (Ev.now false) ?_)
        simp [hc7]
    · rw [if_neg h7]
      by_cases hc0 : x.f2 = 0
      · refine Ev.step (fun k => by simp only [impl_Ex_formed.j1]; rw [if_neg (by decide), if_neg h7, if_pos hc0]) (Ev.bindS hc ?_)
        simp [hc0]
      · refine Ev.last (fun k => by simp only [impl_Ex_formed.j1]; rw [if_neg (by decide), if_neg h7, if_neg hc0]; simp [hc0])
  unfold FmOk
  rw [fmY_is]
  refine Ev.step (fun k => by simp only [impl_Ex_formed.f, impl_isKind.f]; rw [in_is, Option.bind_some, Option.bind_some]) ?_
  by_cases hkd : 1 ≤ x.f0 ∧ x.f0 ≤ 7
  rotate_left
  · refine Ev.neg (by simp; omega) (bad _ ?_)
    have hn : ¬ (kidsOf x.f0 = (x.f3.length : Int)) := by rw [kidsOf_out hkd]; omega
    simp [okN, hn]
  refine Ev.pos (by simp [hkd]) ?_
  refine Ev.bind (Ev.one (fun _ => kids_is x.f0 hkd.1 hkd.2)) ?_
  by_cases hn : kidsOf x.f0 = (x.f3.length : Int)
  rotate_left
  · rw [show ((x.f3.length : Int) != kidsOf x.f0) = true by simp; omega]
    exact bad _ (by simp [okN, hn])
  rw [show ((x.f3.length : Int) != kidsOf x.f0) = false by simp [hn]]
  by_cases a1 : x.f0 = 1
  · refine Ev.step (fun k => by simp only [impl_Ex_formed.j0, impl_isSym.f]; rw [if_neg (by decide), if_pos a1, in_is, Option.bind_some, Option.bind_some]) ?_
    by_cases hb : 0 ≤ x.f1 ∧ x.f1 ≤ 4
    · refine Ev.pos (by simp [hb]) (Ev.val last ?_)
      simp only [okN, hn, decide_true, Bool.true_and]
      rw [if_pos a1]
      simp [hb]
    · refine Ev.neg (by simp; omega) (bad1 _ ?_)
      simp only [okN, hn, decide_true, Bool.true_and]
      rw [if_pos a1]
      simp [hb]
  · by_cases hb : x.f1 = 0
    · refine Ev.step (fun k => by simp only [impl_Ex_formed.j0]; rw [if_neg (by decide), if_neg a1, show (x.f1 != 0) = false by simp [hb]]) (Ev.val last ?_)
      simp only [okN, hn, decide_true, Bool.true_and]
      rw [if_neg a1]
      simp [hb]
    · refine Ev.step (fun k => by simp only [impl_Ex_formed.j0]; rw [if_neg (by decide), if_neg a1, show (x.f1 != 0) = true by simp [hb]]) (bad1 _ ?_)
      simp only [okN, hn, decide_true, Bool.true_and]
      rw [if_neg a1]
      simp [hb]
def okX (x : S37) : Bool := fmY x && decide (deepY x ≤ 5) && decide (manyY x ≤ 12)
theorem form5 (x : S37) (h : allY x ≤ 1048576) : Ev (fun k => spec_l2Form.f k x.f0 x.f1 x.f2 x.f3 5) (fmY x && decide (deepY x ≤ 5)) := form_ev x h 5 (by omega)
theorem many5 (x : S37) (h : allY x ≤ 1048576) (hd : deepY x ≤ 5) : Ev (fun k => spec_l2Many.f k x.f0 x.f1 x.f2 x.f3 5) (manyY x : Int) := many_ev x h 5 (by omega) (by omega)
theorem spec_ExOk_ev (x : S37) (h : allY x ≤ 1048576) : Ev (fun k => spec_ExOk.f k x.f0 x.f1 x.f2 x.f3) (okX x) := by
  unfold spec_ExOk.f okX
  refine Ev.bind (form5 x h) ?_
  by_cases hf : (fmY x && decide (deepY x ≤ 5)) = true
  · have hd : deepY x ≤ 5 := by simp at hf; exact hf.2
    refine Ev.pos hf (Ev.bindS (many5 x h hd) ?_)
    rw [hf, Bool.true_and]
    have : ((manyY x : Int) ≤ 12) ↔ (manyY x ≤ 12) := by omega
    simp only [this]
  · refine Ev.neg hf (Ev.val (Ev.now _) ?_)
    simp only [Bool.not_eq_true] at hf
    rw [hf]
    rfl
theorem impl_ExOk_ev (x : S37) (h : allY x ≤ 1048576) : Ev (fun k => impl_ExOk.f k x.f0 x.f1 x.f2 x.f3) (okX x) := by
  unfold impl_ExOk.f okX
  refine Ev.bind (size_ev x h) ?_
  by_cases hm : manyY x ≤ 12
  · refine Ev.pos (show ((manyY x : Nat) : Int) ≤ 12 by omega) ?_
    by_cases hd : deepY x ≤ 5
    · refine Ev.pos (show ((deepY x : Nat) : Int) ≤ 5 by omega) (Ev.bindS (formed_ev x h) ?_)
      simp [hm, hd]
    · refine Ev.neg (show ¬ (((deepY x : Nat) : Int) ≤ 5) by omega) (Ev.val (Ev.now _) ?_)
      simp [hd]
  · refine Ev.neg (show ¬ (((manyY x : Nat) : Int) ≤ 12) by omega) (Ev.val (Ev.now _) ?_)
    simp [hm]
theorem name_l0_ev (s : ByteArray) (hl : s.size ≤ 1048576) : ∀ d n : Nat, n + d = s.size → ∃ v, Ev (fun k => spec_l8Word.l0 k s (n : Int)) v ∧ Ev (fun k => impl_isName.l0 k s (s.size : Int) (n : Int)) v := by
  intro d
  induction d with
  | zero =>
    intro n hn
    refine ⟨decide (1 ≤ (s.size : Int) ∧ (s.size : Int) ≤ 6), Ev.last (fun k => ?_), Ev.last (fun k => ?_)⟩
    · simp only [spec_l8Word.l0]
      rw [if_neg (by omega)]
      by_cases h : (s.size : Int) > 0
      · rw [if_pos h]
        congr 1
        rw [decide_eq_decide]
        omega
      rw [if_neg h]
      congr 1
      symm
      rw [decide_eq_false_iff_not]
      omega
    · simp only [impl_isName.l0]
      rw [if_neg (by omega), in_is, Option.bind_some]
  | succ d ih =>
    intro n hn
    obtain ⟨v, h1, h2⟩ := ih (n + 1) (by omega)
    by_cases c1 : bt s (n : Int) < 97
    · exact ⟨false, Ev.last (fun k => by simp only [spec_l8Word.l0]; rw [if_pos (by omega), if_pos (by omega), if_pos c1]), Ev.last (fun k => by simp only [impl_isName.l0]; rw [if_pos (by omega), if_pos (by omega), if_pos (by omega), if_pos c1])⟩
    · by_cases c2 : bt s (n : Int) > 122
      · exact ⟨false, Ev.last (fun k => by simp only [spec_l8Word.l0]; rw [if_pos (by omega), if_pos (by omega), if_neg c1, if_pos c2]), Ev.last (fun k => by simp only [impl_isName.l0]; rw [if_pos (by omega), if_pos (by omega), if_pos (by omega), if_neg c1, if_pos c2])⟩
      · exact ⟨v, Ev.step (fun k => by simp only [spec_l8Word.l0]; rw [if_pos (by omega), if_pos (by omega), if_neg c1, if_neg c2, w_succ (by omega)]) h1, Ev.step (fun k => by simp only [impl_isName.l0]; rw [if_pos (by omega), if_pos (by omega), if_pos (by omega), if_neg c1, if_neg c2, w_succ (by omega)]) h2⟩
theorem name_ev (s : ByteArray) (hl : s.size ≤ 1048576) : ∃ v, Ev (fun k => spec_l8Word.f k s) v ∧ Ev (fun k => impl_isName.f k s) v := by
  unfold spec_l8Word.f impl_isName.f
  exact name_l0_ev s hl s.size 0 (by omega)
def tailR (low high key add raise : Int) : Bool := decide (0 ≤ low ∧ low ≤ high ∧ high ≤ 100 ∧ 0 ≤ key ∧ key ≤ 3 ∧ -9 ≤ add ∧ add ≤ 9 ∧ -1 ≤ raise ∧ raise ≤ 4)
theorem tail_spec (low high key add raise : Int) : (if low ≥ 0 then (if low ≤ high then (if high ≤ 100 then (if key ≥ 0 then (if key < 4 then (if add ≥ (-9) then (if add ≤ 9 then (if raise ≥ (-1) then (some (decide (raise < 5))) else (some false)) else (some false)) else (some false)) else (some false)) else (some false)) else (some false)) else (some false)) else (some false)) = some (tailR low high key add raise) := by
  unfold tailR
  repeat' split
  all_goals first
    | (congr 1; rw [decide_eq_decide]; omega)
    | (congr 1; symm; rw [decide_eq_false_iff_not]; omega)
theorem tail_impl (low high key add raise : Int) : ((impl_in.f low 0 high).bind fun t106 => (if t106 = true then (if high ≤ 100 then ((impl_in.f key 0 3).bind fun t107 => (if t107 = true then ((impl_in.f add (-9) 9).bind fun t108 => (if t108 = true then ((impl_in.f raise (-1) 4).bind fun t109 => (some t109)) else (some false))) else (some false))) else (some false)) else (some false))) = some (tailR low high key add raise) := by
  unfold tailR
  simp only [in_is, Option.bind_some, decide_eq_true_eq]
  repeat' split
  all_goals first
    | (congr 1; rw [decide_eq_decide]; omega)
    | (congr 1; symm; rw [decide_eq_false_iff_not]; omega)
theorem ruleOk_ev (r : S39) (hs : r.f0.size ≤ 1048576) (hx : allY r.f3 ≤ 1048576) : ∃ v, Ev (fun k => spec_RuleOk.f k r.f0 r.f1 r.f2 r.f3.f0 r.f3.f1 r.f3.f2 r.f3.f3 r.f4 r.f5 r.f6 r.f7 r.f8) v ∧ Ev (fun k => impl_RuleOk.f k r.f0 r.f1 r.f2 r.f3.f0 r.f3.f1 r.f3.f2 r.f3.f3 r.f4 r.f5 r.f6 r.f7 r.f8) v := by
  obtain ⟨v, h1, h2⟩ := name_ev r.f0 hs
  have e1 := spec_ExOk_ev r.f3 hx
  have e2 := impl_ExOk_ev r.f3 hx
  unfold spec_RuleOk.f impl_RuleOk.f spec_l4Mode.f impl_isMode.f
  simp only [tail_spec, tail_impl]
  cases v with
  | false => exact ⟨false, Ev.bind h1 (Ev.neg (by decide) (Ev.now _)), Ev.bind h2 (Ev.neg (by decide) (Ev.now _))⟩
  | true =>
    by_cases c1 : 0 ≤ r.f1 ∧ r.f1 ≤ 9
    rotate_left
    · refine ⟨false, ?_, ?_⟩
      · refine Ev.bind h1 (Ev.pos rfl ?_)
        by_cases c3 : r.f1 ≥ 0
        · exact Ev.pos c3 (Ev.neg (by omega) (Ev.now _))
        · exact Ev.neg c3 (Ev.now _)
      · refine Ev.bind h2 (Ev.pos rfl ?_)
        simp only [in_is, Option.bind_some]
        exact Ev.neg (by simp; omega) (Ev.now _)
    by_cases c2 : 0 ≤ r.f2 ∧ r.f2 ≤ 4
    rotate_left
    · refine ⟨false, ?_, ?_⟩
      · refine Ev.bind h1 (Ev.pos rfl (Ev.pos (by omega) (Ev.pos (by omega) ?_)))
        by_cases c3 : r.f2 ≥ 0
        · rw [if_pos c3]
          refine Ev.bind (Ev.now _) ?_
          exact Ev.neg (by simp; omega) (Ev.now _)
        · rw [if_neg c3]
          refine Ev.bind (Ev.now _) ?_
          exact Ev.neg (by decide) (Ev.now _)
      · refine Ev.bind h2 (Ev.pos rfl ?_)
        simp only [in_is, Option.bind_some]
        exact Ev.pos (by simp; omega) (Ev.neg (by simp; omega) (Ev.now _))
    cases ho : okX r.f3 with
    | true =>
      rw [ho] at e1 e2
      refine ⟨tailR r.f4 r.f5 r.f6 r.f7 r.f8, ?_, ?_⟩
      · refine Ev.bind h1 (Ev.pos rfl (Ev.pos (by omega) (Ev.pos (by omega) ?_)))
        rw [if_pos (by omega)]
        refine Ev.bind (Ev.now _) ?_
        exact Ev.pos (by simp; omega) (Ev.bind e1 (Ev.pos rfl (Ev.now _)))
      · refine Ev.bind h2 (Ev.pos rfl ?_)
        simp only [in_is, Option.bind_some]
        exact Ev.pos (by simp; omega) (Ev.pos (by simp; omega) (Ev.bind e2 (Ev.pos rfl (Ev.now _))))
    | false =>
      rw [ho] at e1 e2
      refine ⟨false, ?_, ?_⟩
      · refine Ev.bind h1 (Ev.pos rfl (Ev.pos (by omega) (Ev.pos (by omega) ?_)))
        rw [if_pos (by omega)]
        refine Ev.bind (Ev.now _) ?_
        exact Ev.pos (by simp; omega) (Ev.bind e1 (Ev.neg (by decide) (Ev.now _)))
      · refine Ev.bind h2 (Ev.pos rfl ?_)
        simp only [in_is, Option.bind_some]
        exact Ev.pos (by simp; omega) (Ev.pos (by simp; omega) (Ev.bind e2 (Ev.neg (by decide) (Ev.now _))))
theorem ev_all {α β : Type} {g : Nat → α → Option β} {f : α → β} : ∀ l : List α, (∀ x ∈ l, Ev (fun k => g k x) (f x)) → ∃ K, ∀ k, K ≤ k → ∀ x ∈ l, g k x = some (f x)
  | [], _ => ⟨0, fun _ _ x hx => by simp at hx⟩
  | y :: ys, h => by
    obtain ⟨K, hK⟩ := h y (by simp)
    obtain ⟨L, hL⟩ := ev_all ys (fun x hx => h x (by simp [hx]))
    refine ⟨max K L, fun k hk x hx => ?_⟩
    rcases List.mem_cons.1 hx with rfl | hx
    · exact hK k (by omega)
    · exact hL k (by omega) x hx
def SpecOne (x : S39) (v : Bool) : Prop := Ev (fun k => spec_RuleOk.f k x.f0 x.f1 x.f2 x.f3.f0 x.f3.f1 x.f3.f2 x.f3.f3 x.f4 x.f5 x.f6 x.f7 x.f8) v
theorem impl_RulesOk_ev (l : List S39) (ok : S39 → Bool) (h : ∀ x ∈ l, Ev (fun k => impl_RulesOk.one k x) (ok x)) : Ev (fun k => impl_RulesOk.f k l) (rulesGo ok l l.length 0) := by
  obtain ⟨K, hK⟩ := ev_all l h
  refine ⟨K, fun k hk => ?_⟩
  have e := hK k hk
  show impl_RulesOk.f k l = _
  unfold impl_RulesOk.f
  rw [if_pos (List.all_eq_true.2 (fun x hx => by rw [e x hx]; rfl))]
  congr 1
  exact rulesGo_congr l (fun x hx => by rw [e x hx]; rfl) _ _ (by omega)
theorem rulesGo_long (ok : S39 → Bool) (l : List S39) (h : ¬ (l.length : Int) ≤ 4) : ∀ d n : Nat, rulesGo ok l d n = false
  | 0, _ => decide_eq_false h
  | d + 1, n => by rw [rulesGo, rulesGo_long ok l h d (n + 1), Bool.and_false, Bool.and_false]
theorem spec_RulesOk_l1_ev (ok : S39 → Bool) (l : List S39) (hl : l.length ≤ 1048576) (n : Nat) (hn : n < l.length) (v : Bool) (next : Ev (fun k => spec_RulesOk.l0 k l ((n + 1 : Nat) : Int)) v) :
    ∀ e j : Nat, j + e = n → Ev (fun k => spec_RulesOk.l1 k l (n : Int) (j : Int)) (!named ((l.take n).drop j) (l.getD n z39) && v) := by
  intro e
  induction e with
  | zero =>
    intro j hj
    rw [List.drop_of_length_le (by rw [List.length_take]; omega)]
    exact Ev.step (fun k => by simp only [spec_RulesOk.l1]; rw [if_neg (by omega), w_succ (by omega)]) (Ev.val next (by simp [named]))
  | succ e ih =>
    intro j hj
    have hd : (l.take n).drop j = l.getD j z39 :: (l.take n).drop (j + 1) := by
      rw [List.drop_eq_getElem_cons (by rw [List.length_take]; omega), List.getElem_take, getD_in (by omega)]
    have r1 : rd_T39 l (j : Int) = l.getD j z39 := rfl
    have r2 : rd_T39 l (n : Int) = l.getD n z39 := rfl
    rw [hd, show named (l.getD j z39 :: (l.take n).drop (j + 1)) (l.getD n z39) = (((l.getD j z39).f0.toList == (l.getD n z39).f0.toList) || named ((l.take n).drop (j + 1)) (l.getD n z39)) from List.any_cons]
    refine Ev.step (fun k => by simp only [spec_RulesOk.l1]; rw [if_pos (by omega), if_pos (by omega), if_pos (by omega), if_pos (by omega), if_pos (by omega), r1, r2, w_succ (by omega)]) ?_
    by_cases h : (l.getD j z39).f0.toList = (l.getD n z39).f0.toList
    · exact Ev.pos h (Ev.val (Ev.now _) (by rw [beq_iff_eq.2 h, Bool.true_or]; rfl))
    · refine Ev.neg h (Ev.val (ih (j + 1) (by omega)) ?_)
      rw [show ((l.getD j z39).f0.toList == (l.getD n z39).f0.toList) = false from beq_eq_false_iff_ne.2 h, Bool.false_or]
theorem spec_RulesOk_l0_ev (ok : S39 → Bool) (l : List S39) (hl : (l.length : Int) ≤ 4) (h : ∀ x ∈ l, SpecOne x (ok x)) : ∀ d n : Nat, n + d = l.length → Ev (fun k => spec_RulesOk.l0 k l (n : Int)) (rulesGo ok l d n) := by
  intro d
  induction d with
  | zero =>
    intro n hn
    rw [rulesGo, decide_eq_true hl]
    exact Ev.last (fun k => by simp only [spec_RulesOk.l0]; rw [if_neg (by omega)])
  | succ d ih =>
    intro n hn
    have r2 : rd_T39 l (n : Int) = l.getD n z39 := rfl
    have hx : SpecOne (l.getD n z39) (ok (l.getD n z39)) := h _ (by rw [getD_in (by omega)]; exact List.getElem_mem _)
    refine Ev.step (fun k => by simp only [spec_RulesOk.l0]; rw [if_pos (by omega), if_pos (by omega), r2]) ?_
    refine Ev.bind hx ?_
    have inner := spec_RulesOk_l1_ev ok l (by omega) n (by omega) _ (ih (n + 1) (by omega)) n 0 (by omega)
    rw [List.drop_zero] at inner
    rw [rulesGo]
    cases ok (l.getD n z39) with
    | true => exact Ev.pos rfl (Ev.val inner (by rw [Bool.true_and]))
    | false => exact Ev.neg (by decide) (Ev.now _)
theorem spec_RulesOk_ev (ok : S39 → Bool) (l : List S39) (h : ∀ x ∈ l, SpecOne x (ok x)) : Ev (fun k => spec_RulesOk.f k l) (rulesGo ok l l.length 0) := by
  unfold spec_RulesOk.f
  by_cases c : (l.length : Int) > 4
  · rw [rulesGo_long ok l (by omega)]
    exact Ev.pos c (Ev.now _)
  · exact Ev.neg c (spec_RulesOk_l0_ev ok l (by omega) h l.length 0 (by omega))
theorem priAt_mem {l : List S39} (h : ∀ r ∈ l, 0 ≤ r.f1 ∧ r.f1 ≤ 9) (i : Nat) : 0 ≤ priAt l i ∧ priAt l i ≤ 9 := by
  unfold priAt
  by_cases hi : i < l.length
  · rw [List.getD_eq_getElem?_getD, List.getElem?_eq_getElem hi]
    exact h _ (List.getElem_mem hi)
  · rw [List.getD_eq_getElem?_getD, List.getElem?_eq_none (by omega)]
    show 0 ≤ (0 : Int) ∧ (0 : Int) ≤ 9
    omega
theorem ruleOk_pri (r : S39) (hs : r.f0.size ≤ 1048576) (h : SpecOne r true) : 0 ≤ r.f1 ∧ r.f1 ≤ 9 := by
  by_cases hr : 0 ≤ r.f1 ∧ r.f1 ≤ 9
  · exact hr
  obtain ⟨v, h1, _⟩ := name_ev r.f0 hs
  have : SpecOne r false := by
    unfold SpecOne spec_RuleOk.f
    refine Ev.bind h1 ?_
    cases v with
    | false => exact Ev.neg (by decide) (Ev.now _)
    | true =>
      refine Ev.pos rfl ?_
      by_cases c : r.f1 ≥ 0
      · exact Ev.pos c (Ev.neg (fun c2 => hr ⟨c, c2⟩) (Ev.now _))
      · exact Ev.neg c (Ev.now _)
  exact absurd (Ev.uniq h this) (by decide)
def Fits (l : List S39) : Prop := ∀ r ∈ l, r.f0.size ≤ 1048576 ∧ allY r.f3 ≤ 1048576
theorem one_ex : ∃ ok : S39 → Bool, ∀ y : S39, y.f0.size ≤ 1048576 ∧ allY y.f3 ≤ 1048576 → SpecOne y (ok y) ∧ Ev (fun k => impl_RulesOk.one k y) (ok y) := by
  refine Classical.axiomOfChoice (r := fun (y : S39) (v : Bool) => y.f0.size ≤ 1048576 ∧ allY y.f3 ≤ 1048576 → SpecOne y v ∧ Ev (fun k => impl_RulesOk.one k y) v) (fun y => ?_)
  by_cases hy : y.f0.size ≤ 1048576 ∧ allY y.f3 ≤ 1048576
  · obtain ⟨v, hv, hw⟩ := ruleOk_ev y hy.1 hy.2
    exact ⟨v, fun _ => ⟨hv, hw⟩⟩
  · exact ⟨false, fun hm => absurd hm hy⟩
theorem rulesGo_iff (ok : S39 → Bool) (l : List S39) : ∀ d n : Nat, n + d = l.length → (rulesGo ok l d n = true ↔ l.length ≤ 4 ∧ (∀ i (hi : i < l.length), n ≤ i → ok l[i] = true ∧ named (l.take i) l[i] = false))
  | 0, n, h => by
    unfold rulesGo
    rw [decide_eq_true_iff]
    exact ⟨fun c => ⟨by omega, fun i hi hn => by omega⟩, fun c => by omega⟩
  | d + 1, n, h => by
    unfold rulesGo
    have ih := rulesGo_iff ok l d (n + 1) (by omega)
    have e : l.getD n z39 = l[n]'(by omega) := by
      rw [List.getD_eq_getElem?_getD, List.getElem?_eq_getElem (by omega)]; rfl
    rw [e, Bool.and_eq_true, Bool.and_eq_true, ih, Bool.not_eq_true']
    constructor
    · rintro ⟨a, b, c, f⟩
      refine ⟨c, fun i hi hn => ?_⟩
      rcases Nat.lt_or_ge n i with g | g
      · exact f i hi g
      · obtain rfl : i = n := by omega
        exact ⟨a, b⟩
    · rintro ⟨c, f⟩
      exact ⟨(f n (by omega) (Nat.le_refl _)).1, (f n (by omega) (Nat.le_refl _)).2, c, fun i hi hn => f i hi (by omega)⟩
theorem rulesOk_both (ok : S39 → Bool) (hok : ∀ y : S39, y.f0.size ≤ 1048576 ∧ allY y.f3 ≤ 1048576 → SpecOne y (ok y) ∧ Ev (fun k => impl_RulesOk.one k y) (ok y)) (l : List S39) (h : Fits l) : Ev (fun k => spec_RulesOk.f k l) (rulesGo ok l l.length 0) ∧ Ev (fun k => impl_RulesOk.f k l) (rulesGo ok l l.length 0) ∧ (rulesGo ok l l.length 0 = true → l.length ≤ 4 ∧ ∀ i : Nat, 0 ≤ priAt l i ∧ priAt l i ≤ 9) := by
  refine ⟨spec_RulesOk_ev ok l (fun y hy => (hok y (h y hy)).1), impl_RulesOk_ev l ok (fun y hy => (hok y (h y hy)).2), fun ht => ?_⟩
  obtain ⟨h4, hi⟩ := (rulesGo_iff ok l l.length 0 (by omega)).1 ht
  refine ⟨h4, fun i => priAt_mem (fun r hr => ?_) i⟩
  obtain ⟨j, hj, rfl⟩ := List.getElem_of_mem hr
  have ho := (hi j hj (Nat.zero_le _)).1
  have hs := (hok l[j] (h _ hr)).1
  rw [ho] at hs
  exact ruleOk_pri l[j] (h _ hr).1 hs
section
variable (l : List S39) (h4 : l.length ≤ 4) (hp : ∀ i : Nat, 0 ≤ priAt l i ∧ priAt l i ≤ 9)
def Part (o : List Int) (p : Int) (n : Nat) : Prop := o.Pairwise (fun x y => Due l x.toNat y.toNat) ∧ ∀ x : Int, x ∈ o ↔ (0 ≤ x ∧ x < (l.length : Int)) ∧ (p < priAt l x.toNat ∨ priAt l x.toNat = p ∧ x < (n : Int))
include h4 in
theorem order_l1_ev (p : Int) (h0 : 0 ≤ p) (h9 : p ≤ 9) (c : Nat) (hc : c ≤ 100) (next : ∀ o, Part l o p l.length → o.length ≤ c + l.length → ∃ r, Ev (fun k => spec_RulesOrder.l0 k l o (p - 1)) r ∧ IsOrder l r) : ∀ (d n : Nat) (o : List Int), n + d = l.length → Part l o p n → o.length ≤ c + n → ∃ r, Ev (fun k => spec_RulesOrder.l1 k l o p (n : Int)) r ∧ IsOrder l r
  | 0, n, o, h, hP, ho => by
    obtain rfl : n = l.length := by omega
    obtain ⟨r, h1, h2⟩ := next o hP ho
    refine ⟨r, Ev.step (fun k => by simp only [spec_RulesOrder.l1]; rw [if_neg (by omega), w_small (by omega) (by omega)]) h1, h2⟩
  | d + 1, n, o, h, hP, ho => by
    have hw : wrap64 ((n : Int) + 1) = ((n + 1 : Nat) : Int) := by rw [w_small (by omega) (by omega)]; omega
    have e : (rd_T39 l (n : Int)).f1 = priAt l n := rfl
    by_cases hq : priAt l n = p
    rotate_left
    · obtain ⟨r, h1, h2⟩ := order_l1_ev p h0 h9 c hc next d (n + 1) o (by omega) ⟨hP.1, fun x => by
        rw [hP.2 x]
        constructor
        · rintro ⟨g, g'⟩
          exact ⟨g, g'.imp id (fun g => ⟨g.1, by omega⟩)⟩
        · rintro ⟨g, g'⟩
          refine ⟨g, g'.imp id (fun g' => ⟨g'.1, ?_⟩)⟩
          rcases Int.lt_or_le x (n : Int) with c | c
          · exact c
          · obtain rfl : x = (n : Int) := by omega
            rw [Int.toNat_natCast] at g'
            exact absurd g'.1 hq⟩ (by omega)
      refine ⟨r, Ev.step (fun k => by simp only [spec_RulesOrder.l1]; rw [if_pos (by omega), if_pos (by omega), e, if_neg hq, hw]) h1, h2⟩
    obtain ⟨r, h1, h2⟩ := order_l1_ev p h0 h9 c hc next d (n + 1) (o ++ [(n : Int)]) (by omega) ⟨by
      rw [List.pairwise_append]
      refine ⟨hP.1, List.pairwise_singleton _ _, fun x hx y hy => ?_⟩
      rw [List.mem_singleton.1 hy, Int.toNat_natCast]
      have := ((hP.2 x).1 hx)
      unfold Due
      omega, fun x => by
      rw [List.mem_append, List.mem_singleton, hP.2 x]
      constructor
      · rintro (g | rfl)
        · exact ⟨g.1, g.2.imp id (fun g => ⟨g.1, by omega⟩)⟩
        · rw [Int.toNat_natCast]
          exact ⟨by omega, .inr ⟨hq, by omega⟩⟩
      rintro ⟨g, g'⟩
      rcases Int.lt_or_le x (n : Int) with c | c
      · exact .inl ⟨g, g'.imp id (fun g => ⟨g.1, c⟩)⟩
      · rcases g' with g' | g'
        · exact .inl ⟨g, .inl g'⟩
        · exact .inr (by omega)⟩ (by rw [List.length_append, List.length_singleton]; omega)
    refine ⟨r, Ev.step (fun k => by simp only [spec_RulesOrder.l1]; rw [if_pos (by omega), if_pos (by omega), e, if_pos hq, if_pos (by omega), hw]) h1, h2⟩
include h4 hp in
theorem order_l0_ev : ∀ (e : Nat) (o : List Int), e ≤ 10 → Part l o ((e : Int) - 1) 0 → o.length ≤ 4 * (10 - e) → ∃ r, Ev (fun k => spec_RulesOrder.l0 k l o ((e : Int) - 1)) r ∧ IsOrder l r
  | 0, o, _, hP, ho => by
    refine ⟨o, Ev.step (fun k => by simp only [spec_RulesOrder.l0]; rw [if_neg (by omega)]) (Ev.now _), hP.1, fun x => ?_⟩
    rw [hP.2 x]
    have := hp x.toNat
    omega
  | e + 1, o, he, hP, ho => by
    obtain ⟨r, h1, h2⟩ := order_l1_ev l h4 (((e + 1 : Nat) : Int) - 1) (by omega) (by omega) (4 * (10 - (e + 1))) (by omega) (fun o' hP' ho' => by
      have e1 : ((e + 1 : Nat) : Int) - 1 - 1 = (e : Int) - 1 := by omega
      rw [e1]
      refine order_l0_ev e o' (by omega) ⟨hP'.1, fun x => ?_⟩ (by omega)
      rw [hP'.2 x]
      omega) l.length 0 o (by omega) hP (by omega)
    have h1 : Ev (fun k => spec_RulesOrder.l1 k l o (((e + 1 : Nat) : Int) - 1) 0) r := h1
    exact ⟨r, Ev.step (fun k => by simp only [spec_RulesOrder.l0]; rw [if_pos (by omega)]) h1, h2⟩
end
theorem order_both (ok : S39 → Bool) (hok : ∀ y : S39, y.f0.size ≤ 1048576 ∧ allY y.f3 ≤ 1048576 → SpecOne y (ok y) ∧ Ev (fun k => impl_RulesOk.one k y) (ok y)) (l : List S39) (h : Fits l) : ∃ o, Ev (fun k => spec_RulesOrder.f k l) o ∧ Ev (fun k => impl_RulesOrder.f k l) o ∧ (rulesGo ok l l.length 0 = true → IsOrder l o) ∧ (rulesGo ok l l.length 0 = false → o = []) := by
  obtain ⟨h1, h2, h3⟩ := rulesOk_both ok hok l h
  cases hv : rulesGo ok l l.length 0 with
  | false =>
    rw [hv] at h1 h2
    refine ⟨[], ?_, ?_, fun c => absurd c (by decide), fun _ => rfl⟩
    · unfold spec_RulesOrder.f
      exact Ev.bind (Ev.now _) (Ev.bind h1 (Ev.neg (by decide) (Ev.now _)))
    · unfold impl_RulesOrder.f
      exact Ev.bind h2 (Ev.neg (by decide) (Ev.now _))
  | true =>
    rw [hv] at h1 h2
    obtain ⟨h4, hp⟩ := h3 hv
    obtain ⟨o, g1, g2⟩ := order_l0_ev l h4 hp 10 [] (by omega) ⟨List.Pairwise.nil, fun x => ⟨fun hx => (List.not_mem_nil hx).elim, fun hx => by have := hp x.toNat; omega⟩⟩ (by simp)
    have io := orderR_is l hp
    have e : orderR l = o := isOrder_ext l _ _ io.1 g2.1 (fun x hx => ((io.2 x).1 hx).1) (fun x => by rw [io.2 x, g2.2 x])
    refine ⟨o, ?_, ?_, fun _ => g2, fun c => absurd c (by decide)⟩
    · unfold spec_RulesOrder.f
      exact Ev.bind (Ev.now _) (Ev.bind h1 (Ev.pos rfl g1))
    unfold impl_RulesOrder.f
    refine Ev.bind h2 (Ev.pos rfl ?_)
    unfold impl_order.f
    exact Ev.one (fun _ => by rw [if_pos (by omega), e])
section
variable (l : List S39)
theorem orders_len (hp : ∀ i : Nat, 0 ≤ priAt l i ∧ priAt l i ≤ 9) (o : List Int) (ho : IsOrder l o) : o.length = l.length := by
  have io := orderR_is l hp
  rw [isOrder_ext l o (orderR l) ho.1 io.1 (fun x hx => ((ho.2 x).1 hx).1) (fun x => by rw [ho.2 x, io.2 x])]
  unfold orderR
  cases hM : l.length with
  | zero => rfl
  | succ M => show ((sortR l M).toList.map (fun i : Fin (M + 1) => (i.val : Int))).length = M + 1; rw [List.length_map, Array.length_toList, size_sortR]
end
theorem fits_cv (l : List S32) (h : allW allR l ≤ 1048576) : Fits (l.map cvR) := by
  intro r hr
  obtain ⟨x, hx, rfl⟩ := List.mem_map.1 hr
  have ha := allW_mem (w := allR) hx
  have hr : x.f0.size + allX x.f3 ≤ 1048576 := by unfold allR at ha h; omega
  exact ⟨show x.f0.size ≤ 1048576 by omega, by show allY (cvX x.f3) ≤ 1048576; rw [allY_cv]; omega⟩
theorem order_few (l : List S39) (h : Fits l) : ∃ o, Ev (fun k => spec_RulesOrder.f k l) o ∧ Ev (fun k => impl_RulesOrder.f k l) o ∧ o.length ≤ 4 := by
  obtain ⟨ok, hok⟩ := one_ex
  obtain ⟨o, o1, o2, o3, o4⟩ := order_both ok hok l h
  obtain ⟨_, _, k3⟩ := rulesOk_both ok hok l h
  refine ⟨o, o1, o2, ?_⟩
  cases hv : rulesGo ok l l.length 0 with
  | false => rw [o4 hv]; simp
  | true =>
    rw [orders_len l (k3 hv).2 o (o3 hv)]
    exact (k3 hv).1
theorem marksL_ev : ∀ (l : List S37), (∀ x ∈ l, ∀ a : Int, 0 ≤ a → a + 3 * (allY x : Nat) ≤ 100000000000000 → Ev (fun k => marksE k x.f3 a) (a + 3 * (allY x : Nat))) → ∀ a : Int, 0 ≤ a → a + 3 * (l.length + kidsY l : Nat) ≤ 100000000000000 → Ev (fun k => marksE k l a) (a + 3 * (l.length + kidsY l : Nat))
  | [], _, a, _, _ => Ev.last (fun k => by simp [marksE, kidsY_nil])
  | x :: l, h, a, h0, h1 => by
    rw [kidsY_cons, List.length_cons] at h1 ⊢
    have hx := h x (by simp) (a + 3) (by omega) (by omega)
    have w1 : wrap64 (wrap64 (wrap64 (a + 1) + 1) + 1) = a + 3 := by unfold wrap64; omega
    have hl := marksL_ev l (fun y hy => h y (by simp [hy])) (a + 3 + 3 * (allY x : Nat)) (by omega) (by omega)
    refine Ev.step (fun k => by simp only [marksE]; rw [w1]) (Ev.bind hx (Ev.val hl (by omega)))
theorem marksX_ev : ∀ (x : S37) (a : Int), 0 ≤ a → a + 3 * (allY x : Nat) ≤ 100000000000000 → Ev (fun k => marksE k x.f3 a) (a + 3 * (allY x : Nat)) := by
  refine indI ?_
  intro x ih a h0 h1
  rw [allY_is] at h1 ⊢
  exact marksL_ev x.f3 ih a h0 h1
theorem markText_l0_ev : ∀ (d : Nat) (a : Int) (s : ByteArray), 0 ≤ a → a < (10 : Int) ^ d → (10 : Int) ^ d ≤ 1000000000000000000 → s.size + d ≤ 1000 → ∃ r, Ev (fun k => laws_markText.l0 k a s) r
  | 0, a, s, h0, h1, _, h2 => by
    have e : a = 0 := by simp at h1; omega
    exact ⟨_, Ev.last (fun k => by simp only [laws_markText.l0]; rw [if_neg (by omega), if_pos (by omega)])⟩
  | d + 1, a, s, h0, h1, h3, h2 => by
    have e : (10 : Int) ^ (d + 1) = 10 * (10 : Int) ^ d := by rw [Int.pow_succ, Int.mul_comm]
    have hp : (0 : Int) < (10 : Int) ^ d := Int.pow_pos (by omega)
    have ih := markText_l0_ev d (a / 10) (strOfNums [(wrap64 (48 + (Int.tmod a 10))) % 256] ++ s)
    have hz : (strOfNums [(wrap64 (48 + (Int.tmod a 10))) % 256]).size = 1 := rfl
    have hs : (strOfNums [(wrap64 (48 + (Int.tmod a 10))) % 256] ++ s).size = 1 + s.size := by rw [ByteArray.size_append, hz]
    rw [hs] at ih
    rw [e] at h1 h3
    generalize (10 : Int) ^ d = p at *
    by_cases c : a > 0
    · obtain ⟨r, hr⟩ := ih (by omega) (by omega) (by omega) (by omega)
      have hw : wrap64 (Int.tdiv a 10) = a / 10 := by
        rw [Int.tdiv_eq_ediv_of_nonneg h0]
        exact w_small (by omega) (by omega)
      refine ⟨r, Ev.step (fun k => by simp only [laws_markText.l0]; rw [if_pos c]; simp only [Option.bind_some]; rw [if_pos (by rw [hz]; omega), hw]) hr⟩
    · exact ⟨_, Ev.last (fun k => by simp only [laws_markText.l0]; rw [if_neg c, if_pos (by omega)])⟩
theorem markText_ev (a : Int) (h0 : 0 ≤ a) (h1 : a ≤ 100000000000000) : ∃ r, Ev (fun k => laws_markText.f k a) r := by
  unfold laws_markText.f
  by_cases c : a ≤ 0
  · exact ⟨_, Ev.pos c (Ev.now _)⟩
  · obtain ⟨r, hr⟩ := markText_l0_ev 18 a ⟨#[]⟩ h0 (by omega) (by omega) (by decide)
    exact ⟨r, Ev.neg c hr⟩
def cntR : List S39 → Nat
  | [] => 0
  | x :: l => 11 + 3 * allY x.f3 + cntR l
theorem marksR_ev : ∀ (l : List S39) (a : Int), 0 ≤ a → a + cntR l ≤ 10000000000000 → Ev (fun k => marksR k l a) (a + cntR l)
  | [], a, _, _ => Ev.last (fun k => by simp [marksR, cntR])
  | x :: l, a, h0, h1 => by
    rw [show cntR (x :: l) = 11 + 3 * allY x.f3 + cntR l from rfl] at h1
    obtain ⟨s, hs⟩ := markText_ev a h0 (by omega)
    have w1 : wrap64 (wrap64 (wrap64 (wrap64 (wrap64 (wrap64 (a + 1) + 1) + 1) + 1) + 1) + 1) = a + 6 := by unfold wrap64; omega
    have hb := marksX_ev x.f3 (a + 6) (by omega) (by omega)
    have w2 : wrap64 (wrap64 (wrap64 (wrap64 (wrap64 (a + 6 + 3 * (allY x.f3 : Nat) + 1) + 1) + 1) + 1) + 1) = a + 11 + 3 * (allY x.f3 : Nat) := by unfold wrap64; omega
    have hl := marksR_ev l (a + 11 + 3 * (allY x.f3 : Nat)) (by omega) (by omega)
    refine Ev.step (fun k => by simp only [marksR]; rw [w1]) (Ev.bind hs (Ev.bind hb ?_))
    rw [w2]
    have e : cntR (x :: l) = 11 + 3 * allY x.f3 + cntR l := rfl
    exact Ev.val hl (by rw [e]; omega)
theorem cntR_le : ∀ l : List S32, cntR (l.map cvR) ≤ 11 * l.length + 3 * sumW allR l
  | [] => by simp [cntR]
  | x :: l => by
    have := cntR_le l
    have h : allY (cvR x).f3 ≤ allR x := by
      show allY (cvX x.f3) ≤ allR x
      rw [allY_cv]
      unfold allR
      omega
    rw [List.map_cons, show cntR (cvR x :: l.map cvR) = 11 + 3 * allY (cvR x).f3 + cntR (l.map cvR) from rfl, show sumW allR (x :: l) = allR x + sumW allR l from rfl, List.length_cons]
    omega
end Go.Proofs.Ytdljhokealbnnaa.M
namespace Go.Proofs.Ytdljhokealbnnaa.M
open Go.RowKit Go.Proofs.YtdljhokealbnnaaW.PrintWords Go.Proofs.YtdljhokealbnnaaW.PrintLast Go.Proofs.YtdljhokealbnnaaW.PrintMore
attribute [local go_sem] max2_int min2_int max_two min_two max_three min_three max_four min_four
set_option linter.unusedVariables false
set_option linter.unusedSimpArgs false

end Go.Proofs.Ytdljhokealbnnaa.M
namespace Go.Proofs.Ytdljhokealbnnaa.M
set_option linter.unusedVariables false
set_option linter.unusedSimpArgs false
open Go.RowKit Go.Proofs.YtdljhokealbnnaaW.PrintWords Go.Proofs.YtdljhokealbnnaaW.PrintLast

theorem rd_nat (l : List Int) (n : Nat) : rd l (n : Int) = l.getD n 0 := rfl

theorem eqIntS_l0_ev (l : List Int) (hl : l.length ≤ 9223372036854775807) : ∀ d n : Nat, n + d = l.length → Ev (fun k => laws_eqIntS.l0 k l l (n : Int)) true := by
  intro d
  induction d with
  | zero =>
    intro n hn
    exact Ev.last (fun k => by simp only [laws_eqIntS.l0]; rw [if_neg (by omega)])
  | succ d ih =>
    intro n hn
    refine Ev.step (fun k => by simp only [laws_eqIntS.l0]; rw [if_pos (by omega), if_pos (by omega), if_pos (by omega), if_pos trivial, w_succ (by omega)]) ?_
    exact ih (n + 1) (by omega)
theorem eqIntS_ev (l : List Int) (hl : l.length ≤ 9223372036854775807) : Ev (fun k => laws_eqIntS.f k l l) true := by
  unfold laws_eqIntS.f
  exact Ev.pos rfl (eqIntS_l0_ev l hl l.length 0 (by omega))
def iMarks : Nat → Int → List Int
  | 0, _ => []
  | n + 1, c => c :: iMarks n (c + 1)
theorem iMarks_len : ∀ (n : Nat) (c : Int), (iMarks n c).length = n
  | 0, _ => rfl
  | n + 1, c => by rw [iMarks, List.length_cons, iMarks_len n]
theorem markIntS_l0_ev : ∀ (d n : Nat) (l : List Int) (c : Int), n + d = l.length → l.length ≤ 1099511627776 → 0 ≤ c → c + d ≤ 1152921504606846976 → Ev (fun k => laws_markIntS.l0 k l c (n : Int)) (c + d, l.take n ++ iMarks d c) := by
  intro d
  induction d with
  | zero =>
    intro n l c hn hl h0 h1
    rw [List.take_of_length_le (by omega)]
    exact Ev.last (fun k => by simp only [laws_markIntS.l0]; rw [if_neg (by omega)]; simp [iMarks])
  | succ d ih =>
    intro n l c hn hl h0 h1
    have w1 : wrap64 (c + 1) = c + 1 := w_small (by omega) (by omega)
    have next := ih (n + 1) (l.set n c) (c + 1) (by rw [List.length_set]; omega) (by rw [List.length_set]; omega) (by omega) (by omega)
    rw [take_set l n _ (by omega)] at next
    refine Ev.step (fun k => by
      simp only [laws_markIntS.l0]
      rw [if_pos (by omega), if_pos (by omega), w1, Int.toNat_natCast, w_succ (by omega)]) ?_
    refine Ev.val next ?_
    rw [iMarks, List.append_assoc]
    simp only [Prod.mk.injEq]
    exact ⟨by omega, rfl⟩
theorem markIntS_ev (l : List Int) (c : Int) (hl : l.length ≤ 1099511627776) (h0 : 0 ≤ c) (h1 : c ≤ 1125899906842624) : Ev (fun k => laws_markIntS.f k l c) (c + l.length, iMarks l.length c) := by
  unfold laws_markIntS.f
  exact markIntS_l0_ev l.length 0 l c (by omega) hl h0 (by omega)
theorem heldIntS_l0_ev (m : List Int) (hm : m.length ≤ 1099511627776) : ∀ (d n : Nat) (c : Int), n + d = m.length → m.drop n = iMarks d c → 0 ≤ c → c + d ≤ 1152921504606846976 → Ev (fun k => laws_heldIntS.l0 k m c (n : Int)) (c + d) := by
  intro d
  induction d with
  | zero =>
    intro n c hn hd h0 h1
    exact Ev.last (fun k => by simp only [laws_heldIntS.l0]; rw [if_neg (by omega)]; simp)
  | succ d ih =>
    intro n c hn hd h0 h1
    have w1 : wrap64 (c + 1) = c + 1 := w_small (by omega) (by omega)
    rw [drop_at m 0 n (by omega), iMarks] at hd
    injection hd with hx hd
    have next := ih (n + 1) (c + 1) (by omega) hd (by omega) (by omega)
    refine Ev.step (fun k => by
      simp only [laws_heldIntS.l0]
      rw [if_pos (by omega), if_pos (by omega), rd_nat, hx, w1, if_pos rfl, w_succ (by omega)]) ?_
    refine Ev.val next ?_
    omega
theorem heldIntS_ev (n : Nat) (c : Int) (hn : n ≤ 1099511627776) (h0 : 0 ≤ c) (h1 : c ≤ 1125899906842624) : Ev (fun k => laws_heldIntS.f k (iMarks n c) c) (c + n) := by
  unfold laws_heldIntS.f
  exact heldIntS_l0_ev (iMarks n c) (by rw [iMarks_len]; exact hn) n 0 c (by rw [iMarks_len]; omega) rfl h0 (by omega)
theorem FnExactRulesOrder_pure (l : List S32) (h : l.length ≤ maxLen ∧ ∀ y ∈ l, good32 y) : ∃ k, laws_FnExactRulesOrder.f k l = some true := by
  refine Ev.rounds (g := fun k => laws_FnExactRulesOrder.f k l) ?_
  unfold laws_FnExactRulesOrder.f
  refine Ev.bind (szRuleS_ev l h.1 h.2 1048576 (by omega) (by omega)) ?_
  by_cases hs : ((allW allR l : Nat) : Int) ≤ 1048576
  · rw [leftOf_pos hs]
    refine Ev.neg (by omega) ?_
    obtain ⟨o, o1, o2, o3⟩ := order_few (l.map cvR) (fits_cv l (by omega))
    have hc := cntR_le l
    have hl : 11 * l.length + 3 * sumW allR l ≤ 12000000 := by unfold allW at hs; omega
    refine Ev.bind (toRuleS_ev l (by omega)) (Ev.bind o1 (Ev.bind o2 (Ev.bind (eqIntS_ev o (by omega)) (Ev.bind (eqRuleS_ev l (by omega)) (Ev.bind (marksR_ev (l.map cvR) 1 (by omega) (by omega)) ?_)))))
    refine Ev.bind (markIntS_ev o 1 (by omega) (by omega) (by omega)) (Ev.bind (heldIntS_ev o.length 1 (by omega) (by omega) (by omega)) (Ev.pos ⟨⟨rfl, rfl⟩, by omega, by omega, rfl⟩ (Ev.now _)))
  · rw [leftOf_neg hs]
    exact Ev.pos (by omega) (Ev.now _)
end Go.Proofs.Ytdljhokealbnnaa.M
