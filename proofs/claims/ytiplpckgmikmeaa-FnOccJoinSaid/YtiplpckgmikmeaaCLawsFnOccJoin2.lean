/- What the claim's law leans on: the program's functions, what they compute, and the law over plain values; no condition is asked. (Part 2 of 3.) -/
import Derived.Test.YtiplpckgmikmeaaCLawsFnOccJoin1
import Derived.Shelf.Sort.Plain
import Derived.Ground.Names2Prog
import Derived.Shelf.Slices.CompactI
import Derived.Test.YtiplpckgmikmeaaProg
import Derived.Laws.CopyRow
import Derived.Laws.CopyOwn
namespace Go.Proofs.Ytiplpckgmikmeaa.M
open Go.RowKit Go.Proofs.YtiplpckgmikmeaaW.PrintWords Go.Proofs.YtiplpckgmikmeaaW.PrintLast Go.Proofs.YtiplpckgmikmeaaW.PrintMore
attribute [local go_sem] max2_int min2_int max_two min_two max_three min_three max_four min_four
set_option linter.unusedVariables false
set_option linter.unusedSimpArgs false

mutual
def spec_l3Union.l0 : Nat → List Int → List Int → List Int → Int → Int → Option (List Int)
 | 0, _, _, _, _, _ => none
 | k + 1, x0, x1, x5, x6, x7 => if x6 < (x0.length : Int) then (spec_l3Union.j1 k x0 x1 x5 x6 x7 true) else (spec_l3Union.j1 k x0 x1 x5 x6 x7 (decide (x7 < (x1.length : Int))))
def spec_l3Union.j1 : Nat → List Int → List Int → List Int → Int → Int → Bool → Option (List Int)
 | 0, _, _, _, _, _, _ => none
 | k + 1, x0, x1, x5, x6, x7, x18 => if x18 = true then (if x7 ≥ (x1.length : Int) then (spec_l3Union.j2 k x0 x1 x5 x6 x7 true) else (if x6 < (x0.length : Int) then (if 0 ≤ x6 then (if 0 ≤ x7 then (if x7 < (x1.length : Int) then (spec_l3Union.j2 k x0 x1 x5 x6 x7 (decide ((rd x0 x6) < (rd x1 x7)))) else (none)) else (none)) else (none)) else (spec_l3Union.j2 k x0 x1 x5 x6 x7 false))) else (some x5)
def spec_l3Union.j2 : Nat → List Int → List Int → List Int → Int → Int → Bool → Option (List Int)
 | 0, _, _, _, _, _, _ => none
 | k + 1, x0, x1, x5, x6, x7, x39 => if x39 = true then (if 0 ≤ x6 then (if x6 < (x0.length : Int) then (if x5.length < 17592186044416 then (spec_l3Union.l0 k x0 x1 (x5 ++ [rd x0 x6]) (wrap64 (x6 + 1)) x7) else (none)) else (none)) else (none)) else (if x6 < (x0.length : Int) then (if 0 ≤ x6 then (if 0 ≤ x7 then (if x7 < (x1.length : Int) then (if (rd x0 x6) = (rd x1 x7) then (if x5.length < 17592186044416 then (spec_l3Union.l0 k x0 x1 (x5 ++ [rd x1 x7]) (wrap64 (x6 + 1)) (wrap64 (x7 + 1))) else (none)) else (if x5.length < 17592186044416 then (spec_l3Union.l0 k x0 x1 (x5 ++ [rd x1 x7]) x6 (wrap64 (x7 + 1))) else (none))) else (none)) else (none)) else (none)) else (if 0 ≤ x7 then (if x7 < (x1.length : Int) then (if x5.length < 17592186044416 then (spec_l3Union.l0 k x0 x1 (x5 ++ [rd x1 x7]) x6 (wrap64 (x7 + 1))) else (none)) else (none)) else (none)))
end
def spec_l3Union.f (k : Nat) (l0 : List Int) (l1 : List Int) : Option (List Int) := spec_l3Union.l0 k l0 l1 (([] : List Int)) 0 0
set_option maxHeartbeats 8000000 in
set_option maxRecDepth 100000 in
theorem spec_l3Union.calls (k : Nat) (A0 : Option Addr) (c0 : Nat) (l0 : List Int) (A1 : Option Addr) (c1 : Nat) (l1 : List Int) (r : List Int) (w : World) (hr0 : Kd.C (Kd.int .i64) w A0 l0.length l0) (hc0 : l0.length ≤ c0) (hr1 : Kd.C (Kd.int .i64) w A1 l1.length l1) (hc1 : l1.length ≤ c1) (h : spec_l3Union.f k l0 l1 = some r) :
  Calls Try.prog 100 #[.slice A0 l0.length c0, .slice A1 l1.length c1] w fun e w' => ∃ v0_ : Value, e = .returned (v0_) ∧ Kd.R (Kd.int .i64) 3 w' w.heap.size (fun _ => True) v0_ r ∧ Below w.heap.size w w' := by
 have HR0 := m0_ hr0
 have HC0 := m0_ hc0
 clear hr0 hc0
 have HR1 := m0_ hr1
 have HC1 := m0_ hc1
 clear hr1 hc1
 have HB := m0_ (Below.refl w.heap.size w)
 have H : (spec_l3Union.l0 k l0 l1 (([] : List Int)) 0 0) = some r := h
 clear h
 obtain ⟨y101, hy101⟩ : ∃ y_ : List Int, y_ = (([] : List Int)) := ⟨_, rfl⟩
 replace H : (spec_l3Union.l0 k l0 l1 y101 0 0) = some r := by first | (rw [hy101];with_reducible exact H) | (have H2_ := (Option.bind_some _ _).symm.trans H;rw [hy101];with_reducible exact H2_) | (have H2_ := (Option.bind_some _ _).symm.trans H;with_reducible exact H2_) | with_reducible exact H | (rw [hy101];exact H) | exact H
 have Ny101 := m0_ hy101
 clear hy101
 have H' := m0_ H
 clear H
 go_enter Try.func100, Try.ntmps100
 go_wp2_with (first | ((with_reducible refine gate_dst (N := 8) rfl ?_);(try (refine gate_guard (by rfl) ?_;dsimp only));refine Kd.R_lit (Kd.int .i64) _ 3 ?hg (N := 8) ?hd (xs := ([] : List Int)) (inner := []) (ok := fun _ => True) (okp := fun _ => True) ?hr ?hp (fun _ hk => hk) trivial (Below.refl _ _) (Nat.le_refl _) (by simp) ?_;(case hd => rfl);(case hg => rfl);(case hr => first | (go_simp;done) | (go_simp;rfl));(case hp => exact (Reps.none _ _));intro v102 w3 ho4 hb hg_ hnew_;clear hg_ hnew_;(first | rw [← Ny101.out] at ho4 | (simp only [Int.reduceToNat] at ho4;rw [← Ny101.out] at ho4));have n0_ := m0_ (Kd.R_lower ho4 (below_size (by repeat (first | (with_reducible first | exact HB.out | apply below_alloc | apply pw_below_drewN | apply below_drew1) | exact HB.out))));have n1_ := m0_ (below_step (by repeat (first | (with_reducible first | exact HB.out | apply below_alloc | apply pw_below_drewN | apply below_drew1) | exact HB.out)) hb);clear HB;have HO103 := n0_;have HB := n1_;clear n0_ n1_;clear hb ho4))
 repeat (go_quiet (first | ((with_reducible refine gate_dst (N := 8) rfl ?_);(try (refine gate_guard (by rfl) ?_;dsimp only));refine Kd.R_lit (Kd.int .i64) _ 3 ?hg (N := 8) ?hd (xs := ([] : List Int)) (inner := []) (ok := fun _ => True) (okp := fun _ => True) ?hr ?hp (fun _ hk => hk) trivial (Below.refl _ _) (Nat.le_refl _) (by simp) ?_;(case hd => rfl);(case hg => rfl);(case hr => first | (go_simp;done) | (go_simp;rfl));(case hp => exact (Reps.none _ _));intro v102 w3 ho4 hb hg_ hnew_;clear hg_ hnew_;(first | rw [← Ny101.out] at ho4 | (simp only [Int.reduceToNat] at ho4;rw [← Ny101.out] at ho4));have n0_ := m0_ (Kd.R_lower ho4 (below_size (by repeat (first | (with_reducible first | exact HB.out | apply below_alloc | apply pw_below_drewN | apply below_drew1) | exact HB.out))));have n1_ := m0_ (below_step (by repeat (first | (with_reducible first | exact HB.out | apply below_alloc | apply pw_below_drewN | apply below_drew1) | exact HB.out)) hb);clear HB;have HO103 := n0_;have HB := n1_;clear n0_ n1_;clear hb ho4));try go_wp2_with (first | ((with_reducible refine gate_dst (N := 8) rfl ?_);(try (refine gate_guard (by rfl) ?_;dsimp only));refine Kd.R_lit (Kd.int .i64) _ 3 ?hg (N := 8) ?hd (xs := ([] : List Int)) (inner := []) (ok := fun _ => True) (okp := fun _ => True) ?hr ?hp (fun _ hk => hk) trivial (Below.refl _ _) (Nat.le_refl _) (by simp) ?_;(case hd => rfl);(case hg => rfl);(case hr => first | (go_simp;done) | (go_simp;rfl));(case hp => exact (Reps.none _ _));intro v102 w3 ho4 hb hg_ hnew_;clear hg_ hnew_;(first | rw [← Ny101.out] at ho4 | (simp only [Int.reduceToNat] at ho4;rw [← Ny101.out] at ho4));have n0_ := m0_ (Kd.R_lower ho4 (below_size (by repeat (first | (with_reducible first | exact HB.out | apply below_alloc | apply pw_below_drewN | apply below_drew1) | exact HB.out))));have n1_ := m0_ (below_step (by repeat (first | (with_reducible first | exact HB.out | apply below_alloc | apply pw_below_drewN | apply below_drew1) | exact HB.out)) hb);clear HB;have HO103 := n0_;have HB := n1_;clear n0_ n1_;clear hb ho4)))
 go_loopg [5, 6, 7] k (fun kq v5 v6 v7 w' => ∃ (x5_1 : List Int) (x6_1 : Int) (x7_1 : Int), v6 = .int .i64 x6_1 ∧ v7 = .int .i64 x7_1 ∧ Aside0 (spec_l3Union.l0 kq l0 l1 x5_1 x6_1 x7_1 = some r) ∧ Aside0 (kq ≤ k) ∧ Aside0 (Kd.R (Kd.int .i64) 3 w' w.heap.size (fun _ => True) v5 x5_1) ∧ Aside0 (Below w.heap.size w w'))
 case atStart => exact ⟨(y101), (0), (0), (by first | rfl | (simp;done) | (simp [*];done)), (by first | rfl | (simp;done) | (simp [*];done)), H', ⟨Nat.le_refl _⟩, ⟨by (with_reducible repeat (first | apply Kd.R_alloc | apply Kd.R_drewN | apply Kd.R_drew));exact HO103.out⟩, ⟨by repeat (first | (with_reducible first | exact HB.out | apply below_alloc | apply pw_below_drewN | apply below_drew1) | exact HB.out)⟩⟩
 case round =>
  clear H'
  try clear c1
  try clear p2
  obtain ⟨x5_1, x6_1, x7_1, rfl, rfl, HA, HK1, HO_5, HB⟩ := hrel
  cases gk with
  | zero => exact absurd HA.out (by simp [spec_l3Union.l0])
  | succ k1 =>
   have H := HA.out
   clear HA
   simp only [spec_l3Union.l0] at H
   have HC5 := m0_ H
   clear H
   go_upto_region 4 with (fail)
   repeat (go_quiet (fail);go_upto_region 4 with (fail))
   go_cut [18] (fun v18 wc => ∃ (kq : Nat) (x18_4 : Bool), v18 = .bool x18_4 ∧ Aside0 (spec_l3Union.j1 kq l0 l1 x5_1 x6_1 x7_1 x18_4 = some r) ∧ Aside0 (kq ≤ k1) ∧ Aside0 (Kd.R (Kd.int .i64) 3 wc w.heap.size (fun _ => True) u5 x5_1) ∧ Aside0 (Below w.heap.size w wc))
   case first =>
    have H := HC5.out
    clear HC5
    by_cases c6 : x6_1 < (l0.length : Int)
    ·rw [if_pos c6] at H
     have c6b0 : decide (x6_1 < (l0.length : Int)) = true := decide_eq_true c6
     clear c6
     (first | rw [c6b0] | (simp only [i64_w, i32_w];rw [c6b0]) | skip)
     have H' := m0_ H
     clear H
     go_wp2
     repeat (go_quiet (fail);try go_wp2)
     go_meet
     case rel => exact ⟨_, (true), (by first | rfl | (simp;done) | (simp [*];done)), H', ⟨by have := HK1.out;first | omega | exact Nat.le_refl _⟩, ⟨by (with_reducible repeat (first | apply Kd.R_alloc | apply Kd.R_drewN | apply Kd.R_drew));exact HO_5.out⟩, ⟨by repeat (first | (with_reducible first | exact HB.out | apply below_alloc | apply pw_below_drewN | apply below_drew1) | exact HB.out)⟩⟩
    ·rw [if_neg c6] at H
     have c6b0 : decide (x6_1 < (l0.length : Int)) = false := decide_eq_false c6
     clear c6
     (first | rw [c6b0] | (simp only [i64_w, i32_w];rw [c6b0]) | skip)
     have H' := m0_ H
     clear H
     go_wp2
     repeat (go_quiet (fail);try go_wp2)
     go_meet
     case rel => exact ⟨_, (decide (x7_1 < (l1.length : Int))), (by first | rfl | (simp;done) | (simp [*];done)), H', ⟨by have := HK1.out;first | omega | exact Nat.le_refl _⟩, ⟨by (with_reducible repeat (first | apply Kd.R_alloc | apply Kd.R_drewN | apply Kd.R_drew));exact HO_5.out⟩, ⟨by repeat (first | (with_reducible first | exact HB.out | apply below_alloc | apply pw_below_drewN | apply below_drew1) | exact HB.out)⟩⟩
   case rest =>
    clear HC5
    try clear c1
    try clear p2
    try clear c6
    try clear c6b0
    try clear p2
    obtain ⟨kq, x18_4, rfl, HA, HJ4, HO_5, HB⟩ := hcut
    cases kq with
    | zero => exact absurd HA.out (by simp [spec_l3Union.j1])
    | succ kj4 =>
     have H := HA.out
     clear HA
     simp only [spec_l3Union.j1] at H
     by_cases c7 : x18_4 = true
     rotate_left
     ·replace c7 := Bool.eq_false_iff.mpr c7
      subst c7
      have H1 : (some x5_1) = some r := by rw [if_neg (show ¬ (false = true) by decide)] at H;exact H
      clear H
      have H := H1
      clear H1
      obtain rfl := Option.some.inj H
      go_wp2
      repeat (go_quiet (fail);try go_wp2)
      go_ret
      exact ⟨_, by first | rfl | (simp [errW_none, errW_some] <;> rfl) | (simp [*, errW_none, errW_some] <;> rfl), by (with_reducible repeat (first | apply Kd.R_alloc | apply Kd.R_drewN | apply Kd.R_drew));exact HO_5.out, by repeat (first | (with_reducible first | exact HB.out | apply below_alloc | apply pw_below_drewN | apply below_drew1) | exact HB.out)⟩
     subst c7
     have H1 : (if x7_1 ≥ (l1.length : Int) then (spec_l3Union.j2 kj4 l0 l1 x5_1 x6_1 x7_1 true) else (if x6_1 < (l0.length : Int) then (if 0 ≤ x6_1 then (if 0 ≤ x7_1 then (if x7_1 < (l1.length : Int) then (spec_l3Union.j2 kj4 l0 l1 x5_1 x6_1 x7_1 (decide ((rd l0 x6_1) < (rd l1 x7_1)))) else (none)) else (none)) else (none)) else (spec_l3Union.j2 kj4 l0 l1 x5_1 x6_1 x7_1 false))) = some r := by rw [if_pos rfl] at H;exact H
     clear H
     have H := H1
     clear H1
     have HC8 := m0_ H
     clear H
     go_upto_region 5 with (fail)
     repeat (go_quiet (fail);go_upto_region 5 with (fail))
     go_cut [39] (fun v39 wc => ∃ (kq : Nat) (x39_7 : Bool), v39 = .bool x39_7 ∧ Aside0 (spec_l3Union.j2 kq l0 l1 x5_1 x6_1 x7_1 x39_7 = some r) ∧ Aside0 (kq ≤ kj4) ∧ Aside0 (Kd.R (Kd.int .i64) 3 wc w.heap.size (fun _ => True) u5 x5_1) ∧ Aside0 (Below w.heap.size w wc))
     case first =>
      have H := HC8.out
      clear HC8
      by_cases c9 : x7_1 ≥ (l1.length : Int)
      ·rw [if_pos c9] at H
       have c9b0 : decide ((l1.length : Int) ≤ x7_1) = true := decide_eq_true c9
       clear c9
       (first | rw [c9b0] | (simp only [i64_w, i32_w];rw [c9b0]) | skip)
       have H' := m0_ H
       clear H
       go_wp2
       repeat (go_quiet (fail);try go_wp2)
       go_meet
       case rel => exact ⟨_, (true), (by first | rfl | (simp;done) | (simp [*];done)), H', ⟨by have := HK1.out;have := HJ4.out;first | omega | exact Nat.le_refl _⟩, ⟨by (with_reducible repeat (first | apply Kd.R_alloc | apply Kd.R_drewN | apply Kd.R_drew));exact HO_5.out⟩, ⟨by repeat (first | (with_reducible first | exact HB.out | apply below_alloc | apply pw_below_drewN | apply below_drew1) | exact HB.out)⟩⟩
      rw [if_neg c9] at H
      have c9b0 : decide ((l1.length : Int) ≤ x7_1) = false := decide_eq_false c9
      clear c9
      (first | rw [c9b0] | (simp only [i64_w, i32_w];rw [c9b0]) | skip)
      by_cases c10 : x6_1 < (l0.length : Int)
      rotate_left
      ·rw [if_neg c10] at H
       have c10b0 : decide (x6_1 < (l0.length : Int)) = false := decide_eq_false c10
       clear c10
       have H' := m0_ H
       clear H
       go_wp2
       repeat (go_quiet (fail);try go_wp2)
       go_meet
       case rel => exact ⟨_, (false), (by first | rfl | (simp;done) | (simp [*];done)), H', ⟨by have := HK1.out;have := HJ4.out;first | omega | exact Nat.le_refl _⟩, ⟨by (with_reducible repeat (first | apply Kd.R_alloc | apply Kd.R_drewN | apply Kd.R_drew));exact HO_5.out⟩, ⟨by repeat (first | (with_reducible first | exact HB.out | apply below_alloc | apply pw_below_drewN | apply below_drew1) | exact HB.out)⟩⟩
      rw [if_pos c10] at H
      have c10b0 : decide (x6_1 < (l0.length : Int)) = true := decide_eq_true c10
      clear c10
      by_cases c11 : 0 ≤ x6_1
      rotate_left
      ·rw [if_neg c11] at H
       exact absurd H (by simp)
      rw [if_pos c11] at H
      have c11b0 : decide (0 ≤ x6_1) = true := decide_eq_true c11
      clear c11
      by_cases c12 : 0 ≤ x7_1
      rotate_left
      ·rw [if_neg c12] at H
       exact absurd H (by simp)
      rw [if_pos c12] at H
      have c12b0 : decide (0 ≤ x7_1) = true := decide_eq_true c12
      clear c12
      by_cases c13 : x7_1 < (l1.length : Int)
      rotate_left
      ·rw [if_neg c13] at H
       exact absurd H (by simp)
      rw [if_pos c13] at H
      have c13b0 : decide (x7_1 < (l1.length : Int)) = true := decide_eq_true c13
      clear c13
      have H' := m0_ H
      clear H
      have p104 : 0 ≤ (x6_1 : Int) := of_decide_eq_true (by first | (with_reducible assumption) | assumption)
      have q104 : x6_1 < (l0.length : Int) := of_decide_eq_true (by first | (with_reducible assumption) | assumption)
      obtain ⟨ad104, e104, hx104_0⟩ := Kd.at_int HR0.out x6_1 p104 q104
      cases e104
      replace hx104_0 := (HB.out.cell (World.block_lt_of_cell? w _ hx104_0)).trans hx104_0
      replace p104 := eq_true p104
      replace q104 := eq_true q104
      have p105 : 0 ≤ (x7_1 : Int) := of_decide_eq_true (by first | (with_reducible assumption) | assumption)
      have q105 : x7_1 < (l1.length : Int) := of_decide_eq_true (by first | (with_reducible assumption) | assumption)
      obtain ⟨ad105, e105, hx105_0⟩ := Kd.at_int HR1.out x7_1 p105 q105
      cases e105
      replace hx105_0 := (HB.out.cell (World.block_lt_of_cell? w _ hx105_0)).trans hx105_0
      replace p105 := eq_true p105
      replace q105 := eq_true q105
      go_wp2
      repeat (go_quiet (fail);try go_wp2)
      go_meet
      case rel => exact ⟨_, (decide ((rd l0 x6_1) < (rd l1 x7_1))), (by first | rfl | (simp;done) | (simp [*];done)), H', ⟨by have := HK1.out;have := HJ4.out;first | omega | exact Nat.le_refl _⟩, ⟨by (with_reducible repeat (first | apply Kd.R_alloc | apply Kd.R_drewN | apply Kd.R_drew));exact HO_5.out⟩, ⟨by repeat (first | (with_reducible first | exact HB.out | apply below_alloc | apply pw_below_drewN | apply below_drew1) | exact HB.out)⟩⟩
     case rest =>
      clear HC8
      try clear c1
      try clear p1
      try clear q1
      try clear hx1
      try clear p2
      try clear c6
      try clear c6b0
      try clear c7
      try clear c9
      try clear c9b0
      try clear c10
      try clear c10b0
      try clear p10
      try clear q10
      try clear hx10
      try clear c11
      try clear c11b0
      try clear c12
      try clear c12b0
      try clear c13
      try clear c13b0
      try clear hx104_0
      try clear hx105_0
      try clear p104
      try clear p105
      try clear p2
      try clear q104
      try clear q105
      obtain ⟨kq, x39_7, rfl, HA, HJ7, HO_5, HB⟩ := hcut
      cases kq with
      | zero => exact absurd HA.out (by simp [spec_l3Union.j2])
      | succ kj7 =>
       have H := HA.out
       clear HA
       simp only [spec_l3Union.j2] at H
       by_cases c14 : x39_7 = true
       ·subst c14
        have H1 : (if 0 ≤ x6_1 then (if x6_1 < (l0.length : Int) then (if x5_1.length < 17592186044416 then (spec_l3Union.l0 kj7 l0 l1 (x5_1 ++ [rd l0 x6_1]) (wrap64 (x6_1 + 1)) x7_1) else (none)) else (none)) else (none)) = some r := by rw [if_pos rfl] at H;exact H
        clear H
        have H := H1
        clear H1
        by_cases c15 : 0 ≤ x6_1
        rotate_left
        ·rw [if_neg c15] at H
         exact absurd H (by simp)
        rw [if_pos c15] at H
        have c15b0 : decide (0 ≤ x6_1) = true := decide_eq_true c15
        clear c15
        by_cases c16 : x6_1 < (l0.length : Int)
        rotate_left
        ·rw [if_neg c16] at H
         exact absurd H (by simp)
        rw [if_pos c16] at H
        have c16b0 : decide (x6_1 < (l0.length : Int)) = true := decide_eq_true c16
        clear c16
        by_cases c17 : x5_1.length < 17592186044416
        rotate_left
        ·rw [if_neg c17] at H
         exact absurd H (by simp)
        rw [if_pos c17] at H
        have LMc17 := m0_ c17
        clear c17
        obtain ⟨y107, hy107⟩ : ∃ y_ : List Int, y_ = (x5_1 ++ [rd l0 x6_1]) := ⟨_, rfl⟩
        replace H : (spec_l3Union.l0 kj7 l0 l1 y107 (wrap64 (x6_1 + 1)) x7_1) = some r := by first | (rw [hy107];with_reducible exact H) | (have H2_ := (Option.bind_some _ _).symm.trans H;rw [hy107];with_reducible exact H2_) | (have H2_ := (Option.bind_some _ _).symm.trans H;with_reducible exact H2_) | with_reducible exact H | (rw [hy107];exact H) | exact H
        have Ny107 := m0_ hy107
        clear hy107
        have H' := m0_ H
        clear H
        have p106 : 0 ≤ (x6_1 : Int) := of_decide_eq_true (by first | (with_reducible assumption) | assumption)
        have q106 : x6_1 < (l0.length : Int) := of_decide_eq_true (by first | (with_reducible assumption) | assumption)
        obtain ⟨ad106, e106, hx106_0⟩ := Kd.at_int HR0.out x6_1 p106 q106
        cases e106
        replace hx106_0 := (HB.out.cell (World.block_lt_of_cell? w _ hx106_0)).trans hx106_0
        replace p106 := eq_true p106
        replace q106 := eq_true q106
        go_wp2_with (first | ((with_reducible refine gate_builtin (b := .append) (xs := #[.tmp 40, .tmp 45]) rfl ?_);(try (refine gate_guard (by rfl) ?_;dsimp only));at_builtin;refine Kd.R_append (Kd.int .i64) (w0 := w) w.heap.size rfl (.tmp 40) (.tmp 45) 22 3 (.int .i64 0) 8 rfl Try.underlying22 info3 rfl (by decide) (by omega) u5 x5_1 (rd l0 x6_1) [.int .i64 (rd l0 x6_1)] (fun _ => True) (fun _ => False) rfl rfl ?aP (fun _ hk => hk.elim) ?aF ?aO ?aB ?aS ?aL ?_;(case aP => exact rfl);(case aB => exact (by repeat (first | (with_reducible first | exact HB.out | apply below_alloc | apply pw_below_drewN | apply below_drew1) | exact HB.out)));(case aF => exact (fun _ _ => trivial));(case aO => exact (by (with_reducible repeat (first | apply Kd.R_alloc | apply Kd.R_drewN | apply Kd.R_drew));exact HO_5.out));(case aS => exact (below_size (by repeat (first | (with_reducible first | exact HB.out | apply below_alloc | apply pw_below_drewN | apply below_drew1) | exact HB.out))));(case aL => have := LMc17.out;omega);intro v108 w18 ho hb hg hat;rw [← Ny107.out] at ho;have n0_ := m0_ (hb);have n1_ := m0_ (ho);clear HB;clear HO_5;have HB := n0_;have HO109 := n1_;clear n0_ n1_;clear ho hb hg hat))
        repeat (go_quiet (first | ((with_reducible refine gate_builtin (b := .append) (xs := #[.tmp 40, .tmp 45]) rfl ?_);(try (refine gate_guard (by rfl) ?_;dsimp only));at_builtin;refine Kd.R_append (Kd.int .i64) (w0 := w) w.heap.size rfl (.tmp 40) (.tmp 45) 22 3 (.int .i64 0) 8 rfl Try.underlying22 info3 rfl (by decide) (by omega) u5 x5_1 (rd l0 x6_1) [.int .i64 (rd l0 x6_1)] (fun _ => True) (fun _ => False) rfl rfl ?aP (fun _ hk => hk.elim) ?aF ?aO ?aB ?aS ?aL ?_;(case aP => exact rfl);(case aB => exact (by repeat (first | (with_reducible first | exact HB.out | apply below_alloc | apply pw_below_drewN | apply below_drew1) | exact HB.out)));(case aF => exact (fun _ _ => trivial));(case aO => exact (by (with_reducible repeat (first | apply Kd.R_alloc | apply Kd.R_drewN | apply Kd.R_drew));exact HO_5.out));(case aS => exact (below_size (by repeat (first | (with_reducible first | exact HB.out | apply below_alloc | apply pw_below_drewN | apply below_drew1) | exact HB.out))));(case aL => have := LMc17.out;omega);intro v108 w18 ho hb hg hat;rw [← Ny107.out] at ho;have n0_ := m0_ (hb);have n1_ := m0_ (ho);clear HB;clear HO_5;have HB := n0_;have HO109 := n1_;clear n0_ n1_;clear ho hb hg hat));try go_wp2_with (first | ((with_reducible refine gate_builtin (b := .append) (xs := #[.tmp 40, .tmp 45]) rfl ?_);(try (refine gate_guard (by rfl) ?_;dsimp only));at_builtin;refine Kd.R_append (Kd.int .i64) (w0 := w) w.heap.size rfl (.tmp 40) (.tmp 45) 22 3 (.int .i64 0) 8 rfl Try.underlying22 info3 rfl (by decide) (by omega) u5 x5_1 (rd l0 x6_1) [.int .i64 (rd l0 x6_1)] (fun _ => True) (fun _ => False) rfl rfl ?aP (fun _ hk => hk.elim) ?aF ?aO ?aB ?aS ?aL ?_;(case aP => exact rfl);(case aB => exact (by repeat (first | (with_reducible first | exact HB.out | apply below_alloc | apply pw_below_drewN | apply below_drew1) | exact HB.out)));(case aF => exact (fun _ _ => trivial));(case aO => exact (by (with_reducible repeat (first | apply Kd.R_alloc | apply Kd.R_drewN | apply Kd.R_drew));exact HO_5.out));(case aS => exact (below_size (by repeat (first | (with_reducible first | exact HB.out | apply below_alloc | apply pw_below_drewN | apply below_drew1) | exact HB.out))));(case aL => have := LMc17.out;omega);intro v108 w18 ho hb hg hat;rw [← Ny107.out] at ho;have n0_ := m0_ (hb);have n1_ := m0_ (ho);clear HB;clear HO_5;have HB := n0_;have HO109 := n1_;clear n0_ n1_;clear ho hb hg hat)))
        go_roundg kj7
        case measure => have := HK1.out;have := HJ4.out;have := HJ7.out;omega
        case rel => exact ⟨(y107), (wrap64 (x6_1 + 1)), (x7_1), (by first | rfl | (simp;done) | (simp [*];done)), (by first | rfl | (simp;done) | (simp [*];done)), H', ⟨by have := HK1.out;have := HJ4.out;have := HJ7.out;omega⟩, ⟨by (with_reducible repeat (first | apply Kd.R_alloc | apply Kd.R_drewN | apply Kd.R_drew));exact HO109.out⟩, ⟨by repeat (first | (with_reducible first | exact HB.out | apply below_alloc | apply pw_below_drewN | apply below_drew1) | exact HB.out)⟩⟩
       replace c14 := Bool.eq_false_iff.mpr c14
       subst c14
       have H1 : (if x6_1 < (l0.length : Int) then (if 0 ≤ x6_1 then (if 0 ≤ x7_1 then (if x7_1 < (l1.length : Int) then (if (rd l0 x6_1) = (rd l1 x7_1) then (if x5_1.length < 17592186044416 then (spec_l3Union.l0 kj7 l0 l1 (x5_1 ++ [rd l1 x7_1]) (wrap64 (x6_1 + 1)) (wrap64 (x7_1 + 1))) else (none)) else (if x5_1.length < 17592186044416 then (spec_l3Union.l0 kj7 l0 l1 (x5_1 ++ [rd l1 x7_1]) x6_1 (wrap64 (x7_1 + 1))) else (none))) else (none)) else (none)) else (none)) else (if 0 ≤ x7_1 then (if x7_1 < (l1.length : Int) then (if x5_1.length < 17592186044416 then (spec_l3Union.l0 kj7 l0 l1 (x5_1 ++ [rd l1 x7_1]) x6_1 (wrap64 (x7_1 + 1))) else (none)) else (none)) else (none))) = some r := by rw [if_neg (show ¬ (false = true) by decide)] at H;exact H
       clear H
       have H := H1
       clear H1
       by_cases c19 : x6_1 < (l0.length : Int)
       rotate_left
       ·rw [if_neg c19] at H
        have c19b0 : decide (x6_1 < (l0.length : Int)) = false := decide_eq_false c19
        clear c19
        by_cases c28 : 0 ≤ x7_1
        ·rw [if_pos c28] at H
         have c28b0 : decide (0 ≤ x7_1) = true := decide_eq_true c28
         clear c28
         by_cases c29 : x7_1 < (l1.length : Int)
         ·rw [if_pos c29] at H
          have c29b0 : decide (x7_1 < (l1.length : Int)) = true := decide_eq_true c29
          clear c29
          by_cases c30 : x5_1.length < 17592186044416
          ·rw [if_pos c30] at H
           have LMc30 := m0_ c30
           clear c30
           obtain ⟨y121, hy121⟩ : ∃ y_ : List Int, y_ = (x5_1 ++ [rd l1 x7_1]) := ⟨_, rfl⟩
           replace H : (spec_l3Union.l0 kj7 l0 l1 y121 x6_1 (wrap64 (x7_1 + 1))) = some r := by first | (rw [hy121];with_reducible exact H) | (have H2_ := (Option.bind_some _ _).symm.trans H;rw [hy121];with_reducible exact H2_) | (have H2_ := (Option.bind_some _ _).symm.trans H;with_reducible exact H2_) | with_reducible exact H | (rw [hy121];exact H) | exact H
           have Ny121 := m0_ hy121
           clear hy121
           have H' := m0_ H
           clear H
           have p120 : 0 ≤ (x7_1 : Int) := of_decide_eq_true (by first | (with_reducible assumption) | assumption)
           have q120 : x7_1 < (l1.length : Int) := of_decide_eq_true (by first | (with_reducible assumption) | assumption)
           obtain ⟨ad120, e120, hx120_0⟩ := Kd.at_int HR1.out x7_1 p120 q120
           cases e120
           replace hx120_0 := (HB.out.cell (World.block_lt_of_cell? w _ hx120_0)).trans hx120_0
           replace p120 := eq_true p120
           replace q120 := eq_true q120
           go_wp2_with (first | ((with_reducible refine gate_builtin (b := .append) (xs := #[.tmp 66, .tmp 71]) rfl ?_);(try (refine gate_guard (by rfl) ?_;dsimp only));at_builtin;refine Kd.R_append (Kd.int .i64) (w0 := w) w.heap.size rfl (.tmp 66) (.tmp 71) 22 3 (.int .i64 0) 8 rfl Try.underlying22 info3 rfl (by decide) (by omega) u5 x5_1 (rd l1 x7_1) [.int .i64 (rd l1 x7_1)] (fun _ => True) (fun _ => False) rfl rfl ?aP (fun _ hk => hk.elim) ?aF ?aO ?aB ?aS ?aL ?_;(case aP => exact rfl);(case aB => exact (by repeat (first | (with_reducible first | exact HB.out | apply below_alloc | apply pw_below_drewN | apply below_drew1) | exact HB.out)));(case aF => exact (fun _ _ => trivial));(case aO => exact (by (with_reducible repeat (first | apply Kd.R_alloc | apply Kd.R_drewN | apply Kd.R_drew));exact HO_5.out));(case aS => exact (below_size (by repeat (first | (with_reducible first | exact HB.out | apply below_alloc | apply pw_below_drewN | apply below_drew1) | exact HB.out))));(case aL => have := LMc30.out;omega);intro v122 w31 ho hb hg hat;rw [← Ny121.out] at ho;have n0_ := m0_ (hb);have n1_ := m0_ (ho);clear HB;clear HO_5;have HB := n0_;have HO123 := n1_;clear n0_ n1_;clear ho hb hg hat))
           repeat (go_quiet (first | ((with_reducible refine gate_builtin (b := .append) (xs := #[.tmp 66, .tmp 71]) rfl ?_);(try (refine gate_guard (by rfl) ?_;dsimp only));at_builtin;refine Kd.R_append (Kd.int .i64) (w0 := w) w.heap.size rfl (.tmp 66) (.tmp 71) 22 3 (.int .i64 0) 8 rfl Try.underlying22 info3 rfl (by decide) (by omega) u5 x5_1 (rd l1 x7_1) [.int .i64 (rd l1 x7_1)] (fun _ => True) (fun _ => False) rfl rfl ?aP (fun _ hk => hk.elim) ?aF ?aO ?aB ?aS ?aL ?_;(case aP => exact rfl);(case aB => exact (by repeat (first | (with_reducible first | exact HB.out | apply below_alloc | apply pw_below_drewN | apply below_drew1) | exact HB.out)));(case aF => exact (fun _ _ => trivial));(case aO => exact (by (with_reducible repeat (first | apply Kd.R_alloc | apply Kd.R_drewN | apply Kd.R_drew));exact HO_5.out));(case aS => exact (below_size (by repeat (first | (with_reducible first | exact HB.out | apply below_alloc | apply pw_below_drewN | apply below_drew1) | exact HB.out))));(case aL => have := LMc30.out;omega);intro v122 w31 ho hb hg hat;rw [← Ny121.out] at ho;have n0_ := m0_ (hb);have n1_ := m0_ (ho);clear HB;clear HO_5;have HB := n0_;have HO123 := n1_;clear n0_ n1_;clear ho hb hg hat));try go_wp2_with (first | ((with_reducible refine gate_builtin (b := .append) (xs := #[.tmp 66, .tmp 71]) rfl ?_);(try (refine gate_guard (by rfl) ?_;dsimp only));at_builtin;refine Kd.R_append (Kd.int .i64) (w0 := w) w.heap.size rfl (.tmp 66) (.tmp 71) 22 3 (.int .i64 0) 8 rfl Try.underlying22 info3 rfl (by decide) (by omega) u5 x5_1 (rd l1 x7_1) [.int .i64 (rd l1 x7_1)] (fun _ => True) (fun _ => False) rfl rfl ?aP (fun _ hk => hk.elim) ?aF ?aO ?aB ?aS ?aL ?_;(case aP => exact rfl);(case aB => exact (by repeat (first | (with_reducible first | exact HB.out | apply below_alloc | apply pw_below_drewN | apply below_drew1) | exact HB.out)));(case aF => exact (fun _ _ => trivial));(case aO => exact (by (with_reducible repeat (first | apply Kd.R_alloc | apply Kd.R_drewN | apply Kd.R_drew));exact HO_5.out));(case aS => exact (below_size (by repeat (first | (with_reducible first | exact HB.out | apply below_alloc | apply pw_below_drewN | apply below_drew1) | exact HB.out))));(case aL => have := LMc30.out;omega);intro v122 w31 ho hb hg hat;rw [← Ny121.out] at ho;have n0_ := m0_ (hb);have n1_ := m0_ (ho);clear HB;clear HO_5;have HB := n0_;have HO123 := n1_;clear n0_ n1_;clear ho hb hg hat)))
           go_roundg kj7
           case measure => have := HK1.out;have := HJ4.out;have := HJ7.out;omega
           case rel => exact ⟨(y121), (x6_1), (wrap64 (x7_1 + 1)), (by first | rfl | (simp;done) | (simp [*];done)), (by first | rfl | (simp;done) | (simp [*];done)), H', ⟨by have := HK1.out;have := HJ4.out;have := HJ7.out;omega⟩, ⟨by (with_reducible repeat (first | apply Kd.R_alloc | apply Kd.R_drewN | apply Kd.R_drew));exact HO123.out⟩, ⟨by repeat (first | (with_reducible first | exact HB.out | apply below_alloc | apply pw_below_drewN | apply below_drew1) | exact HB.out)⟩⟩
          ·rw [if_neg c30] at H
           exact absurd H (by simp)
         ·rw [if_neg c29] at H
          exact absurd H (by simp)
        ·rw [if_neg c28] at H
         exact absurd H (by simp)
       rw [if_pos c19] at H
       have c19b0 : decide (x6_1 < (l0.length : Int)) = true := decide_eq_true c19
       clear c19
       by_cases c20 : 0 ≤ x6_1
       rotate_left
       ·rw [if_neg c20] at H
        exact absurd H (by simp)
       rw [if_pos c20] at H
       have c20b0 : decide (0 ≤ x6_1) = true := decide_eq_true c20
       clear c20
       by_cases c21 : 0 ≤ x7_1
       rotate_left
       ·rw [if_neg c21] at H
        exact absurd H (by simp)
       rw [if_pos c21] at H
       have c21b0 : decide (0 ≤ x7_1) = true := decide_eq_true c21
       clear c21
       by_cases c22 : x7_1 < (l1.length : Int)
       rotate_left
       ·rw [if_neg c22] at H
        exact absurd H (by simp)
       rw [if_pos c22] at H
       have c22b0 : decide (x7_1 < (l1.length : Int)) = true := decide_eq_true c22
       clear c22
       by_cases c23 : (rd l0 x6_1) = (rd l1 x7_1)
       rotate_left
       ·rw [if_neg c23] at H
        have c23b0 : ((rd l0 x6_1) == (rd l1 x7_1)) = false := beq_eq_false_iff_ne.mpr c23
        have c23b1 : ((rd l0 x6_1) != (rd l1 x7_1)) = true := bne_iff_ne.mpr c23
        by_cases c26 : x5_1.length < 17592186044416
        ·rw [if_pos c26] at H
         have LMc26 := m0_ c26
         clear c26
         obtain ⟨y117, hy117⟩ : ∃ y_ : List Int, y_ = (x5_1 ++ [rd l1 x7_1]) := ⟨_, rfl⟩
         replace H : (spec_l3Union.l0 kj7 l0 l1 y117 x6_1 (wrap64 (x7_1 + 1))) = some r := by first | (rw [hy117];with_reducible exact H) | (have H2_ := (Option.bind_some _ _).symm.trans H;rw [hy117];with_reducible exact H2_) | (have H2_ := (Option.bind_some _ _).symm.trans H;with_reducible exact H2_) | with_reducible exact H | (rw [hy117];exact H) | exact H
         have Ny117 := m0_ hy117
         clear hy117
         have H' := m0_ H
         clear H
         have p110 : 0 ≤ (x6_1 : Int) := of_decide_eq_true (by first | (with_reducible assumption) | assumption)
         have q110 : x6_1 < (l0.length : Int) := of_decide_eq_true (by first | (with_reducible assumption) | assumption)
         obtain ⟨ad110, e110, hx110_0⟩ := Kd.at_int HR0.out x6_1 p110 q110
         cases e110
         replace hx110_0 := (HB.out.cell (World.block_lt_of_cell? w _ hx110_0)).trans hx110_0
         replace p110 := eq_true p110
         replace q110 := eq_true q110
         have p111 : 0 ≤ (x7_1 : Int) := of_decide_eq_true (by first | (with_reducible assumption) | assumption)
         have q111 : x7_1 < (l1.length : Int) := of_decide_eq_true (by first | (with_reducible assumption) | assumption)
         obtain ⟨ad111, e111, hx111_0⟩ := Kd.at_int HR1.out x7_1 p111 q111
         cases e111
         replace hx111_0 := (HB.out.cell (World.block_lt_of_cell? w _ hx111_0)).trans hx111_0
         replace p111 := eq_true p111
         replace q111 := eq_true q111
         have p116 : 0 ≤ (x7_1 : Int) := of_decide_eq_true (by first | (with_reducible assumption) | assumption)
         have q116 : x7_1 < (l1.length : Int) := of_decide_eq_true (by first | (with_reducible assumption) | assumption)
         obtain ⟨ad116, e116, hx116_0⟩ := Kd.at_int HR1.out x7_1 p116 q116
         obtain rfl : ad111 = ad116 := (by injection e116)
         replace hx116_0 := (HB.out.cell (World.block_lt_of_cell? w _ hx116_0)).trans hx116_0
         replace p116 := eq_true p116
         replace q116 := eq_true q116
         go_wp2_with (first | ((with_reducible refine gate_builtin (b := .append) (xs := #[.tmp 66, .tmp 71]) rfl ?_);(try (refine gate_guard (by rfl) ?_;dsimp only));at_builtin;refine Kd.R_append (Kd.int .i64) (w0 := w) w.heap.size rfl (.tmp 66) (.tmp 71) 22 3 (.int .i64 0) 8 rfl Try.underlying22 info3 rfl (by decide) (by omega) u5 x5_1 (rd l1 x7_1) [.int .i64 (rd l1 x7_1)] (fun _ => True) (fun _ => False) rfl rfl ?aP (fun _ hk => hk.elim) ?aF ?aO ?aB ?aS ?aL ?_;(case aP => exact rfl);(case aB => exact (by repeat (first | (with_reducible first | exact HB.out | apply below_alloc | apply pw_below_drewN | apply below_drew1) | exact HB.out)));(case aF => exact (fun _ _ => trivial));(case aO => exact (by (with_reducible repeat (first | apply Kd.R_alloc | apply Kd.R_drewN | apply Kd.R_drew));exact HO_5.out));(case aS => exact (below_size (by repeat (first | (with_reducible first | exact HB.out | apply below_alloc | apply pw_below_drewN | apply below_drew1) | exact HB.out))));(case aL => have := LMc26.out;omega);intro v118 w27 ho hb hg hat;rw [← Ny117.out] at ho;have n0_ := m0_ (hb);have n1_ := m0_ (ho);clear HB;clear HO_5;have HB := n0_;have HO119 := n1_;clear n0_ n1_;clear ho hb hg hat))
         repeat (go_quiet (first | ((with_reducible refine gate_builtin (b := .append) (xs := #[.tmp 66, .tmp 71]) rfl ?_);(try (refine gate_guard (by rfl) ?_;dsimp only));at_builtin;refine Kd.R_append (Kd.int .i64) (w0 := w) w.heap.size rfl (.tmp 66) (.tmp 71) 22 3 (.int .i64 0) 8 rfl Try.underlying22 info3 rfl (by decide) (by omega) u5 x5_1 (rd l1 x7_1) [.int .i64 (rd l1 x7_1)] (fun _ => True) (fun _ => False) rfl rfl ?aP (fun _ hk => hk.elim) ?aF ?aO ?aB ?aS ?aL ?_;(case aP => exact rfl);(case aB => exact (by repeat (first | (with_reducible first | exact HB.out | apply below_alloc | apply pw_below_drewN | apply below_drew1) | exact HB.out)));(case aF => exact (fun _ _ => trivial));(case aO => exact (by (with_reducible repeat (first | apply Kd.R_alloc | apply Kd.R_drewN | apply Kd.R_drew));exact HO_5.out));(case aS => exact (below_size (by repeat (first | (with_reducible first | exact HB.out | apply below_alloc | apply pw_below_drewN | apply below_drew1) | exact HB.out))));(case aL => have := LMc26.out;omega);intro v118 w27 ho hb hg hat;rw [← Ny117.out] at ho;have n0_ := m0_ (hb);have n1_ := m0_ (ho);clear HB;clear HO_5;have HB := n0_;have HO119 := n1_;clear n0_ n1_;clear ho hb hg hat));try go_wp2_with (first | ((with_reducible refine gate_builtin (b := .append) (xs := #[.tmp 66, .tmp 71]) rfl ?_);(try (refine gate_guard (by rfl) ?_;dsimp only));at_builtin;refine Kd.R_append (Kd.int .i64) (w0 := w) w.heap.size rfl (.tmp 66) (.tmp 71) 22 3 (.int .i64 0) 8 rfl Try.underlying22 info3 rfl (by decide) (by omega) u5 x5_1 (rd l1 x7_1) [.int .i64 (rd l1 x7_1)] (fun _ => True) (fun _ => False) rfl rfl ?aP (fun _ hk => hk.elim) ?aF ?aO ?aB ?aS ?aL ?_;(case aP => exact rfl);(case aB => exact (by repeat (first | (with_reducible first | exact HB.out | apply below_alloc | apply pw_below_drewN | apply below_drew1) | exact HB.out)));(case aF => exact (fun _ _ => trivial));(case aO => exact (by (with_reducible repeat (first | apply Kd.R_alloc | apply Kd.R_drewN | apply Kd.R_drew));exact HO_5.out));(case aS => exact (below_size (by repeat (first | (with_reducible first | exact HB.out | apply below_alloc | apply pw_below_drewN | apply below_drew1) | exact HB.out))));(case aL => have := LMc26.out;omega);intro v118 w27 ho hb hg hat;rw [← Ny117.out] at ho;have n0_ := m0_ (hb);have n1_ := m0_ (ho);clear HB;clear HO_5;have HB := n0_;have HO119 := n1_;clear n0_ n1_;clear ho hb hg hat)))
         go_roundg kj7
         case measure => have := HK1.out;have := HJ4.out;have := HJ7.out;omega
         case rel => exact ⟨(y117), (x6_1), (wrap64 (x7_1 + 1)), (by first | rfl | (simp;done) | (simp [*];done)), (by first | rfl | (simp;done) | (simp [*];done)), H', ⟨by have := HK1.out;have := HJ4.out;have := HJ7.out;omega⟩, ⟨by (with_reducible repeat (first | apply Kd.R_alloc | apply Kd.R_drewN | apply Kd.R_drew));exact HO119.out⟩, ⟨by repeat (first | (with_reducible first | exact HB.out | apply below_alloc | apply pw_below_drewN | apply below_drew1) | exact HB.out)⟩⟩
        ·rw [if_neg c26] at H
         exact absurd H (by simp)
       rw [if_pos c23] at H
       have c23b0 : ((rd l0 x6_1) == (rd l1 x7_1)) = true := beq_iff_eq.mpr c23
       have c23b1 : ((rd l0 x6_1) != (rd l1 x7_1)) = false := bne_eq_false_iff_eq.mpr c23
       clear c23
       by_cases c24 : x5_1.length < 17592186044416
       rotate_left
       ·rw [if_neg c24] at H
        exact absurd H (by simp)
       rw [if_pos c24] at H
       have LMc24 := m0_ c24
       clear c24
       obtain ⟨y113, hy113⟩ : ∃ y_ : List Int, y_ = (x5_1 ++ [rd l1 x7_1]) := ⟨_, rfl⟩
       replace H : (spec_l3Union.l0 kj7 l0 l1 y113 (wrap64 (x6_1 + 1)) (wrap64 (x7_1 + 1))) = some r := by first | (rw [hy113];with_reducible exact H) | (have H2_ := (Option.bind_some _ _).symm.trans H;rw [hy113];with_reducible exact H2_) | (have H2_ := (Option.bind_some _ _).symm.trans H;with_reducible exact H2_) | with_reducible exact H | (rw [hy113];exact H) | exact H
       have Ny113 := m0_ hy113
       clear hy113
       have H' := m0_ H
       clear H
       have p110 : 0 ≤ (x6_1 : Int) := of_decide_eq_true (by first | (with_reducible assumption) | assumption)
       have q110 : x6_1 < (l0.length : Int) := of_decide_eq_true (by first | (with_reducible assumption) | assumption)
       obtain ⟨ad110, e110, hx110_0⟩ := Kd.at_int HR0.out x6_1 p110 q110
       cases e110
       replace hx110_0 := (HB.out.cell (World.block_lt_of_cell? w _ hx110_0)).trans hx110_0
       replace p110 := eq_true p110
       replace q110 := eq_true q110
       have p111 : 0 ≤ (x7_1 : Int) := of_decide_eq_true (by first | (with_reducible assumption) | assumption)
       have q111 : x7_1 < (l1.length : Int) := of_decide_eq_true (by first | (with_reducible assumption) | assumption)
       obtain ⟨ad111, e111, hx111_0⟩ := Kd.at_int HR1.out x7_1 p111 q111
       cases e111
       replace hx111_0 := (HB.out.cell (World.block_lt_of_cell? w _ hx111_0)).trans hx111_0
       replace p111 := eq_true p111
       replace q111 := eq_true q111
       have p112 : 0 ≤ (x7_1 : Int) := of_decide_eq_true (by first | (with_reducible assumption) | assumption)
       have q112 : x7_1 < (l1.length : Int) := of_decide_eq_true (by first | (with_reducible assumption) | assumption)
       obtain ⟨ad112, e112, hx112_0⟩ := Kd.at_int HR1.out x7_1 p112 q112
       obtain rfl : ad111 = ad112 := (by injection e112)
       replace hx112_0 := (HB.out.cell (World.block_lt_of_cell? w _ hx112_0)).trans hx112_0
       replace p112 := eq_true p112
       replace q112 := eq_true q112
       go_wp2_with (first | ((with_reducible refine gate_builtin (b := .append) (xs := #[.tmp 66, .tmp 71]) rfl ?_);(try (refine gate_guard (by rfl) ?_;dsimp only));at_builtin;refine Kd.R_append (Kd.int .i64) (w0 := w) w.heap.size rfl (.tmp 66) (.tmp 71) 22 3 (.int .i64 0) 8 rfl Try.underlying22 info3 rfl (by decide) (by omega) u5 x5_1 (rd l1 x7_1) [.int .i64 (rd l1 x7_1)] (fun _ => True) (fun _ => False) rfl rfl ?aP (fun _ hk => hk.elim) ?aF ?aO ?aB ?aS ?aL ?_;(case aP => exact rfl);(case aB => exact (by repeat (first | (with_reducible first | exact HB.out | apply below_alloc | apply pw_below_drewN | apply below_drew1) | exact HB.out)));(case aF => exact (fun _ _ => trivial));(case aO => exact (by (with_reducible repeat (first | apply Kd.R_alloc | apply Kd.R_drewN | apply Kd.R_drew));exact HO_5.out));(case aS => exact (below_size (by repeat (first | (with_reducible first | exact HB.out | apply below_alloc | apply pw_below_drewN | apply below_drew1) | exact HB.out))));(case aL => have := LMc24.out;omega);intro v114 w25 ho hb hg hat;rw [← Ny113.out] at ho;have n0_ := m0_ (hb);have n1_ := m0_ (ho);clear HB;clear HO_5;have HB := n0_;have HO115 := n1_;clear n0_ n1_;clear ho hb hg hat))
       repeat (go_quiet (first | ((with_reducible refine gate_builtin (b := .append) (xs := #[.tmp 66, .tmp 71]) rfl ?_);(try (refine gate_guard (by rfl) ?_;dsimp only));at_builtin;refine Kd.R_append (Kd.int .i64) (w0 := w) w.heap.size rfl (.tmp 66) (.tmp 71) 22 3 (.int .i64 0) 8 rfl Try.underlying22 info3 rfl (by decide) (by omega) u5 x5_1 (rd l1 x7_1) [.int .i64 (rd l1 x7_1)] (fun _ => True) (fun _ => False) rfl rfl ?aP (fun _ hk => hk.elim) ?aF ?aO ?aB ?aS ?aL ?_;(case aP => exact rfl);(case aB => exact (by repeat (first | (with_reducible first | exact HB.out | apply below_alloc | apply pw_below_drewN | apply below_drew1) | exact HB.out)));(case aF => exact (fun _ _ => trivial));(case aO => exact (by (with_reducible repeat (first | apply Kd.R_alloc | apply Kd.R_drewN | apply Kd.R_drew));exact HO_5.out));(case aS => exact (below_size (by repeat (first | (with_reducible first | exact HB.out | apply below_alloc | apply pw_below_drewN | apply below_drew1) | exact HB.out))));(case aL => have := LMc24.out;omega);intro v114 w25 ho hb hg hat;rw [← Ny113.out] at ho;have n0_ := m0_ (hb);have n1_ := m0_ (ho);clear HB;clear HO_5;have HB := n0_;have HO115 := n1_;clear n0_ n1_;clear ho hb hg hat));try go_wp2_with (first | ((with_reducible refine gate_builtin (b := .append) (xs := #[.tmp 66, .tmp 71]) rfl ?_);(try (refine gate_guard (by rfl) ?_;dsimp only));at_builtin;refine Kd.R_append (Kd.int .i64) (w0 := w) w.heap.size rfl (.tmp 66) (.tmp 71) 22 3 (.int .i64 0) 8 rfl Try.underlying22 info3 rfl (by decide) (by omega) u5 x5_1 (rd l1 x7_1) [.int .i64 (rd l1 x7_1)] (fun _ => True) (fun _ => False) rfl rfl ?aP (fun _ hk => hk.elim) ?aF ?aO ?aB ?aS ?aL ?_;(case aP => exact rfl);(case aB => exact (by repeat (first | (with_reducible first | exact HB.out | apply below_alloc | apply pw_below_drewN | apply below_drew1) | exact HB.out)));(case aF => exact (fun _ _ => trivial));(case aO => exact (by (with_reducible repeat (first | apply Kd.R_alloc | apply Kd.R_drewN | apply Kd.R_drew));exact HO_5.out));(case aS => exact (below_size (by repeat (first | (with_reducible first | exact HB.out | apply below_alloc | apply pw_below_drewN | apply below_drew1) | exact HB.out))));(case aL => have := LMc24.out;omega);intro v114 w25 ho hb hg hat;rw [← Ny113.out] at ho;have n0_ := m0_ (hb);have n1_ := m0_ (ho);clear HB;clear HO_5;have HB := n0_;have HO115 := n1_;clear n0_ n1_;clear ho hb hg hat)))
       go_roundg kj7
       case measure => have := HK1.out;have := HJ4.out;have := HJ7.out;omega
       case rel => exact ⟨(y113), (wrap64 (x6_1 + 1)), (wrap64 (x7_1 + 1)), (by first | rfl | (simp;done) | (simp [*];done)), (by first | rfl | (simp;done) | (simp [*];done)), H', ⟨by have := HK1.out;have := HJ4.out;have := HJ7.out;omega⟩, ⟨by (with_reducible repeat (first | apply Kd.R_alloc | apply Kd.R_drewN | apply Kd.R_drew));exact HO115.out⟩, ⟨by repeat (first | (with_reducible first | exact HB.out | apply below_alloc | apply pw_below_drewN | apply below_drew1) | exact HB.out)⟩⟩

def spec_l1Min.f (a0 : Int) (a1 : Int) : Option (Int) := if a0 < a1 then (some a0) else (some a1)
set_option maxHeartbeats 8000000 in
set_option maxRecDepth 100000 in
theorem spec_l1Min.calls (a0 : Int) (a1 : Int) (r : Int) (w : World) (h : spec_l1Min.f a0 a1 = some r) :
  Calls Try.prog 98 #[.int .i64 a0, .int .i64 a1] w fun e w' => e = .returned (.int .i64 r) ∧ Drawn0 w w' := by
 have H : (if a0 < a1 then (some a0) else (some a1)) = some r := h
 clear h
 by_cases c3 : a0 < a1
 ·rw [if_pos c3] at H
  have c3b0 : decide (a0 < a1) = true := decide_eq_true c3
  clear c3
  obtain rfl := Option.some.inj H
  go_enter Try.func98, Try.ntmps98
  go_wp2
  go_ret
  exact ⟨by first | rfl | (simp;done) | (simp [*];done), by repeat (first | exact Drawn0.refl _ | apply Drawn0.step)⟩
 ·rw [if_neg c3] at H
  have c3b0 : decide (a0 < a1) = false := decide_eq_false c3
  clear c3
  obtain rfl := Option.some.inj H
  go_enter Try.func98, Try.ntmps98
  go_wp2
  go_ret
  exact ⟨by first | rfl | (simp;done) | (simp [*];done), by repeat (first | exact Drawn0.refl _ | apply Drawn0.step)⟩

def spec_l1Max.f (a0 : Int) (a1 : Int) : Option (Int) := if a0 > a1 then (some a0) else (some a1)
set_option maxHeartbeats 8000000 in
set_option maxRecDepth 100000 in
theorem spec_l1Max.calls (a0 : Int) (a1 : Int) (r : Int) (w : World) (h : spec_l1Max.f a0 a1 = some r) :
  Calls Try.prog 99 #[.int .i64 a0, .int .i64 a1] w fun e w' => e = .returned (.int .i64 r) ∧ Drawn0 w w' := by
 have H : (if a0 > a1 then (some a0) else (some a1)) = some r := h
 clear h
 by_cases c3 : a0 > a1
 ·rw [if_pos c3] at H
  have c3b0 : decide (a1 < a0) = true := decide_eq_true c3
  clear c3
  obtain rfl := Option.some.inj H
  go_enter Try.func99, Try.ntmps99
  go_wp2
  go_ret
  exact ⟨by first | rfl | (simp;done) | (simp [*];done), by repeat (first | exact Drawn0.refl _ | apply Drawn0.step)⟩
 ·rw [if_neg c3] at H
  have c3b0 : decide (a1 < a0) = false := decide_eq_false c3
  clear c3
  obtain rfl := Option.some.inj H
  go_enter Try.func99, Try.ntmps99
  go_wp2
  go_ret
  exact ⟨by first | rfl | (simp;done) | (simp [*];done), by repeat (first | exact Drawn0.refl _ | apply Drawn0.step)⟩

def spec_l3Join.f (k : Nat) (a0_0 : Int) (a0_1 : Int) (l0_2 : List Int) (a1_0 : Int) (a1_1 : Int) (l1_2 : List Int) : Option (Int × Int × List Int) := (spec_l1Min.f a0_0 a1_0).bind fun t104 => ((spec_l1Max.f a0_1 a1_1).bind fun t105 => ((spec_l3Union.f k l0_2 l1_2).bind fun t106 => (some (t104, t105, t106))))
def spec_l3Join.T1 : Bool × List (List Nat × List Nat) := (true, [([], []), ([0], [0]), ([], []), ([2], [2]), ([1, 3], [1, 3]), ([], []), ([5], [5]), ([], []), ([7], [7]), ([6, 8, 4], [6, 8]), ([], []), ([10], [10]), ([], []), ([12], [12]), ([11, 13, 9], [11, 13]), ([4, 9, 14], [4, 9, 14]), ([15, 14, 0, 1, 2, 3, 4, 5, 6, 7, 8, 9, 10, 11, 12, 13, 14, 15], [15])])
def spec_l3Join.B1 : List Nat := [0, 1, 0, 4, 15, 0, 32, 0, 128, 511, 0, 1024, 0, 4096, 16383, 32767, 65535]
theorem spec_l3Join.tab1 : rtab .any (opsOf Try.f78 1) = spec_l3Join.T1 := by kernel_rfl
theorem spec_l3Join.bits1 : waitsOk spec_l3Join.T1.2 spec_l3Join.B1 = true := by kernel_rfl
set_option maxHeartbeats 8000000 in
set_option maxRecDepth 100000 in
theorem spec_l3Join.calls (k : Nat) (a0_0 : Int) (a0_1 : Int) (A0_2 : Option Addr) (c0_2 : Nat) (l0_2 : List Int) (a1_0 : Int) (a1_1 : Int) (A1_2 : Option Addr) (c1_2 : Nat) (l1_2 : List Int) (r1 : Int) (r2 : Int) (r3 : List Int) (w : World) (hr0_2 : Kd.C (Kd.int .i64) w A0_2 l0_2.length l0_2) (hc0_2 : l0_2.length ≤ c0_2) (hr1_2 : Kd.C (Kd.int .i64) w A1_2 l1_2.length l1_2) (hc1_2 : l1_2.length ≤ c1_2) (h : spec_l3Join.f k a0_0 a0_1 l0_2 a1_0 a1_1 l1_2 = some (r1, r2, r3)) :
  Calls Try.prog 78 #[.agg #[.int .i64 a0_0, .int .i64 a0_1, .slice A0_2 l0_2.length c0_2], .agg #[.int .i64 a1_0, .int .i64 a1_1, .slice A1_2 l1_2.length c1_2]] w fun e w' => ∃ v2_ : Value, e = .returned (.agg #[.int .i64 r1, .int .i64 r2, v2_]) ∧ Kd.R (Kd.int .i64) 3 w' w.heap.size (fun _ => True) v2_ r3 ∧ Below w.heap.size w w' := by
 have hu27 := Try.underlying27
 have HR0_2 := m0_ hr0_2
 have HC0_2 := m0_ hc0_2
 clear hr0_2 hc0_2
 have HR1_2 := m0_ hr1_2
 have HC1_2 := m0_ hc1_2
 clear hr1_2 hc1_2
 have HB := m0_ (Below.refl w.heap.size w)
 have H : ((spec_l1Min.f a0_0 a1_0).bind fun t104 => ((spec_l1Max.f a0_1 a1_1).bind fun t105 => ((spec_l3Union.f k l0_2 l1_2).bind fun t106 => (some (t104, t105, t106))))) = some (r1, r2, r3) := h
 clear h
 replace H := Option.bind_eq_some_iff.mp H
 obtain ⟨t104, A30, H⟩ := H
 replace H : ((spec_l1Max.f a0_1 a1_1).bind fun t105 => ((spec_l3Union.f k l0_2 l1_2).bind fun t106 => (some (t104, t105, t106)))) = some (r1, r2, r3) := H
 have A3 := m0_ A30
 clear A30
 replace H := Option.bind_eq_some_iff.mp H
 obtain ⟨t105, A40, H⟩ := H
 replace H : ((spec_l3Union.f k l0_2 l1_2).bind fun t106 => (some (t104, t105, t106))) = some (r1, r2, r3) := H
 have A4 := m0_ A40
 clear A40
 replace H := Option.bind_eq_some_iff.mp H
 obtain ⟨t106, A50, H⟩ := H
 replace H : (some (t104, t105, t106)) = some (r1, r2, r3) := H
 have A5 := m0_ A50
 clear A50
 simp only [Option.some.injEq, Prod.mk.injEq] at H
 obtain ⟨rfl, rfl, rfl⟩ := H
 go_enter Try.func78, Try.ntmps78
 try go_wp2_with (first | ((with_reducible refine gate_dst (N := 2) rfl ?_);refine box_event ?hg (N := 2) ?hd (cs := #[.int .i64 a0_0, .int .i64 a0_1, .slice A0_2 l0_2.length c0_2]) (t := 27) ?hr ?_;(case hd => rfl);(case hg => rfl);(case hr => first | (go_simp;done) | (go_simp;rfl));intro gb101 hg w6 hbox hb;have n0_ := m0_ (below_step (by repeat (first | (with_reducible first | exact HB.out | apply below_alloc | apply pw_below_drewN | apply below_drew1) | exact HB.out)) hb);have n1_ := m0_ (hbox);have n2_ := m0_ ((by rw [hg];exact (below_size (by repeat (first | (with_reducible first | exact HB.out | apply below_alloc | apply pw_below_drewN | apply below_drew1) | exact HB.out))) : w.heap.size ≤ gb101));have n3_ := m0_ ((by rw [hg];exact (below_size (by repeat (first | (with_reducible first | exact HB.out | apply below_alloc | apply pw_below_drewN | apply below_drew1) | exact HB.out))) : w.heap.size ≤ gb101));clear HB;have HB := n0_;have BK101 := n1_;have GW101 := n2_;have GE101 := n3_;clear n0_ n1_ n2_ n3_;clear hb hbox hg) | ((with_reducible refine gate_dst (N := 3) rfl ?_);refine box_event ?hg (N := 3) ?hd (cs := #[.int .i64 a1_0, .int .i64 a1_1, .slice A1_2 l1_2.length c1_2]) (t := 27) ?hr ?_;(case hd => rfl);(case hg => rfl);(case hr => first | (go_simp;done) | (go_simp;rfl));intro gb102 hg w7 hbox hb;have n0_ := m0_ (blk_below (g := gb101) (o := .cells #[.int .i64 a0_0, .int .i64 a0_1, .slice A0_2 l0_2.length c0_2] 27 (0, 0)) (by (with_reducible repeat (first | refine blk_drewN ?_ _ | refine blk_drew ?_ | refine blk_alloc ?_ _));exact BK101.out) hb);have n1_ := m0_ (below_step (by repeat (first | (with_reducible first | exact HB.out | apply below_alloc | apply pw_below_drewN | apply below_drew1 | refine below_set ?_ GE101.out) | exact HB.out)) hb);have n2_ := m0_ (hbox);have n3_ := m0_ ((by rw [hg];exact (below_size (by repeat (first | (with_reducible first | exact HB.out | apply below_alloc | apply pw_below_drewN | apply below_drew1 | refine below_set ?_ GE101.out) | exact HB.out))) : w.heap.size ≤ gb102));have n4_ := m0_ ((by rw [hg];exact (below_size (by repeat (first | (with_reducible first | exact HB.out | apply below_alloc | apply pw_below_drewN | apply below_drew1 | refine below_set ?_ GE101.out) | exact HB.out))) : w.heap.size ≤ gb102));have n5_ := m0_ ((by rw [hg];exact Nat.ne_of_lt (blk_lt (g := gb101) (o := .cells #[.int .i64 a0_0, .int .i64 a0_1, .slice A0_2 l0_2.length c0_2] 27 (0, 0)) (by (with_reducible repeat (first | refine blk_drewN ?_ _ | refine blk_drew ?_ | refine blk_alloc ?_ _));exact BK101.out)) : gb101 ≠ gb102));have n6_ := m0_ ((by rw [hg];exact Nat.ne_of_gt (blk_lt (g := gb101) (o := .cells #[.int .i64 a0_0, .int .i64 a0_1, .slice A0_2 l0_2.length c0_2] 27 (0, 0)) (by (with_reducible repeat (first | refine blk_drewN ?_ _ | refine blk_drew ?_ | refine blk_alloc ?_ _));exact BK101.out)) : gb102 ≠ gb101));clear BK101;clear HB;have BK101 := n0_;have HB := n1_;have BK102 := n2_;have GW102 := n3_;have GE102 := n4_;have NB101_102 := n5_;have NB102_101 := n6_;clear n0_ n1_ n2_ n3_ n4_ n5_ n6_;clear hb hbox hg) | ((with_reducible refine gate_dst (N := 4) rfl ?_);refine box_event ?hg (N := 4) ?hd (cs := #[.int .i64 0, .int .i64 0, .slice none 0 0]) (t := 27) ?hr ?_;(case hd => rfl);(case hg => rfl);(case hr => first | (go_simp;done) | (go_simp;rfl));intro gb103 hg w8 hbox hb;have n0_ := m0_ (blk_below (g := gb101) (o := .cells #[.int .i64 a0_0, .int .i64 a0_1, .slice A0_2 l0_2.length c0_2] 27 (0, 0)) (by (with_reducible repeat (first | refine blk_drewN ?_ _ | refine blk_drew ?_ | refine blk_alloc ?_ _));exact BK101.out) hb);have n1_ := m0_ (blk_below (g := gb102) (o := .cells #[.int .i64 a1_0, .int .i64 a1_1, .slice A1_2 l1_2.length c1_2] 27 (0, 0)) (by (with_reducible repeat (first | refine blk_drewN ?_ _ | refine blk_drew ?_ | refine blk_alloc ?_ _));exact BK102.out) hb);have n2_ := m0_ (below_step (by repeat (first | (with_reducible first | exact HB.out | apply below_alloc | apply pw_below_drewN | apply below_drew1 | refine below_set ?_ GE101.out | refine below_set ?_ GE102.out) | exact HB.out)) hb);have n3_ := m0_ (hbox);have n4_ := m0_ ((by rw [hg];exact (below_size (by repeat (first | (with_reducible first | exact HB.out | apply below_alloc | apply pw_below_drewN | apply below_drew1 | refine below_set ?_ GE101.out | refine below_set ?_ GE102.out) | exact HB.out))) : w.heap.size ≤ gb103));have n5_ := m0_ ((by rw [hg];exact (below_size (by repeat (first | (with_reducible first | exact HB.out | apply below_alloc | apply pw_below_drewN | apply below_drew1 | refine below_set ?_ GE101.out | refine below_set ?_ GE102.out) | exact HB.out))) : w.heap.size ≤ gb103));have n6_ := m0_ ((by rw [hg];exact Nat.ne_of_lt (blk_lt (g := gb101) (o := .cells #[.int .i64 a0_0, .int .i64 a0_1, .slice A0_2 l0_2.length c0_2] 27 (0, 0)) (by (with_reducible repeat (first | refine blk_drewN ?_ _ | refine blk_drew ?_ | refine blk_alloc ?_ _));exact BK101.out)) : gb101 ≠ gb103));have n7_ := m0_ ((by rw [hg];exact Nat.ne_of_gt (blk_lt (g := gb101) (o := .cells #[.int .i64 a0_0, .int .i64 a0_1, .slice A0_2 l0_2.length c0_2] 27 (0, 0)) (by (with_reducible repeat (first | refine blk_drewN ?_ _ | refine blk_drew ?_ | refine blk_alloc ?_ _));exact BK101.out)) : gb103 ≠ gb101));have n8_ := m0_ ((by rw [hg];exact Nat.ne_of_lt (blk_lt (g := gb102) (o := .cells #[.int .i64 a1_0, .int .i64 a1_1, .slice A1_2 l1_2.length c1_2] 27 (0, 0)) (by (with_reducible repeat (first | refine blk_drewN ?_ _ | refine blk_drew ?_ | refine blk_alloc ?_ _));exact BK102.out)) : gb102 ≠ gb103));have n9_ := m0_ ((by rw [hg];exact Nat.ne_of_gt (blk_lt (g := gb102) (o := .cells #[.int .i64 a1_0, .int .i64 a1_1, .slice A1_2 l1_2.length c1_2] 27 (0, 0)) (by (with_reducible repeat (first | refine blk_drewN ?_ _ | refine blk_drew ?_ | refine blk_alloc ?_ _));exact BK102.out)) : gb103 ≠ gb102));clear BK101;clear BK102;clear HB;have BK101 := n0_;have BK102 := n1_;have HB := n2_;have BK103 := n3_;have GW103 := n4_;have GE103 := n5_;have NB101_103 := n6_;have NB103_101 := n7_;have NB102_103 := n8_;have NB103_102 := n9_;clear n0_ n1_ n2_ n3_ n4_ n5_ n6_ n7_ n8_ n9_;clear hb hbox hg))
 have n0_ := m0_ (blk_drew BK101.out)
 have n1_ := m0_ (blk_drew BK102.out)
 have n2_ := m0_ (blk_drew BK103.out)
 have n3_ := m0_ (below_drew1 HB.out)
 clear BK101
 clear BK102
 clear BK103
 clear HB
 have BK101 := n0_
 have BK102 := n1_
 have BK103 := n2_
 have HB := n3_
 clear n0_ n1_ n2_ n3_
 refine start_ (n := 17) (S := fun w' => w'.cell? ⟨gb101, 0, none⟩ = some (.int .i64 a0_0) ∧ w'.cell? ⟨gb101, 1, none⟩ = some (.int .i64 a0_1) ∧ w'.cell? ⟨gb101, 2, none⟩ = some (.slice A0_2 l0_2.length c0_2) ∧ w'.cell? ⟨gb102, 0, none⟩ = some (.int .i64 a1_0) ∧ w'.cell? ⟨gb102, 1, none⟩ = some (.int .i64 a1_1) ∧ w'.cell? ⟨gb102, 2, none⟩ = some (.slice A1_2 l1_2.length c1_2)) (ds := []) #[false, false, false, false, false, false, false, false, false, false, false, false, false, false, false, false, false] (by kernel_rfl) rfl rfl ⟨(blk_cell BK101.out 0).trans rfl, (blk_cell BK101.out 1).trans rfl, (blk_cell BK101.out 2).trans rfl, (blk_cell BK102.out 0).trans rfl, (blk_cell BK102.out 1).trans rfl, (blk_cell BK102.out 2).trans rfl⟩ (fun hHeld => ?_);refine with_tabW spec_l3Join.tab1 spec_l3Join.bits1 (fun HT_ HW_ => ?_)
 generalize w8.drew = w9 at BK101 BK102 BK103 HB hHeld ⊢
 refine pure_ (i := 0) (N := some 5) (v := ?_) (a' := ?_) #[true, false, false, false, false, false, false, false, false, false, false, false, false, false, false, false, false] rfl rfl (any_of HT_.out (by kernel_rfl)) (fun _ _ _ h => h) (Or.inl ⟨by rfl, ?_⟩) ?_ ?_
 rotate_left
 ·intro w'
  go_simp
  with_reducible rfl
 rotate_left
 ·simp only [Act.put, List.setIfInBounds_toArray, List.set_cons_zero, List.set_cons_succ, i64_w, i32_w]
  rfl
 refine pure_ (i := 2) (N := some 7) (v := ?_) (a' := ?_) #[true, false, true, false, false, false, false, false, false, false, false, false, false, false, false, false, false] rfl rfl (any_of HT_.out (by kernel_rfl)) (fun _ _ _ h => h) (Or.inl ⟨by rfl, ?_⟩) ?_ ?_
 rotate_left
 ·intro w'
  go_simp
  with_reducible rfl
 rotate_left
 ·simp only [Act.put, List.setIfInBounds_toArray, List.set_cons_zero, List.set_cons_succ, i64_w, i32_w]
  rfl
 refine pure_ (i := 5) (N := some 10) (v := ?_) (a' := ?_) #[true, false, true, false, false, true, false, false, false, false, false, false, false, false, false, false, false] rfl rfl (any_of HT_.out (by kernel_rfl)) (fun _ _ _ h => h) (Or.inl ⟨by rfl, ?_⟩) ?_ ?_
 rotate_left
 ·intro w'
  go_simp
  with_reducible rfl
 rotate_left
 ·simp only [Act.put, List.setIfInBounds_toArray, List.set_cons_zero, List.set_cons_succ, i64_w, i32_w]
  rfl
 refine pure_ (i := 7) (N := some 12) (v := ?_) (a' := ?_) #[true, false, true, false, false, true, false, true, false, false, false, false, false, false, false, false, false] rfl rfl (any_of HT_.out (by kernel_rfl)) (fun _ _ _ h => h) (Or.inl ⟨by rfl, ?_⟩) ?_ ?_
 rotate_left
 ·intro w'
  go_simp
  with_reducible rfl
 rotate_left
 ·simp only [Act.put, List.setIfInBounds_toArray, List.set_cons_zero, List.set_cons_succ, i64_w, i32_w]
  rfl
 refine pure_ (i := 10) (N := some 15) (v := ?_) (a' := ?_) #[true, false, true, false, false, true, false, true, false, false, true, false, false, false, false, false, false] rfl rfl (any_of HT_.out (by kernel_rfl)) (fun _ _ _ h => h) (Or.inl ⟨by rfl, ?_⟩) ?_ ?_
 rotate_left
 ·intro w'
  go_simp
  with_reducible rfl
 rotate_left
 ·simp only [Act.put, List.setIfInBounds_toArray, List.set_cons_zero, List.set_cons_succ, i64_w, i32_w]
  rfl
 refine pure_ (i := 12) (N := some 17) (v := ?_) (a' := ?_) #[true, false, true, false, false, true, false, true, false, false, true, false, true, false, false, false, false] rfl rfl (any_of HT_.out (by kernel_rfl)) (fun _ _ _ h => h) (Or.inl ⟨by rfl, ?_⟩) ?_ ?_
 rotate_left
 ·intro w'
  go_simp
  with_reducible rfl
 rotate_left
 ·simp only [Act.put, List.setIfInBounds_toArray, List.set_cons_zero, List.set_cons_succ, i64_w, i32_w]
  rfl
 refine take_ (i := 1) (N := some 6) (v := ?_) (a' := ?_) #[true, true, true, false, false, true, false, true, false, false, true, false, true, false, false, false, false] rfl rfl (take_ofW HT_.out HW_.out (by kernel_rfl)) (fun _ _ _ h => h) (Or.inl ⟨by rfl, ?_⟩) hHeld ?_ ?_
 rotate_left
 ·rintro w' ⟨s0, s1, s2, s3, s4, s5⟩
  go_simp
  with_reducible rfl
 rotate_left
 ·simp only [Act.put, List.setIfInBounds_toArray, List.set_cons_zero, List.set_cons_succ, i64_w, i32_w]
  rfl
 refine take_ (i := 3) (N := some 8) (v := ?_) (a' := ?_) #[true, true, true, true, false, true, false, true, false, false, true, false, true, false, false, false, false] rfl rfl (take_ofW HT_.out HW_.out (by kernel_rfl)) (fun _ _ _ h => h) (Or.inl ⟨by rfl, ?_⟩) hHeld ?_ ?_
 rotate_left
 ·rintro w' ⟨s0, s1, s2, s3, s4, s5⟩
  go_simp
  with_reducible rfl
 rotate_left
 ·simp only [Act.put, List.setIfInBounds_toArray, List.set_cons_zero, List.set_cons_succ, i64_w, i32_w]
  rfl
 refine take_ (i := 6) (N := some 11) (v := ?_) (a' := ?_) #[true, true, true, true, false, true, true, true, false, false, true, false, true, false, false, false, false] rfl rfl (take_ofW HT_.out HW_.out (by kernel_rfl)) (fun _ _ _ h => h) (Or.inl ⟨by rfl, ?_⟩) hHeld ?_ ?_
 rotate_left
 ·rintro w' ⟨s0, s1, s2, s3, s4, s5⟩
  go_simp
  with_reducible rfl
 rotate_left
 ·simp only [Act.put, List.setIfInBounds_toArray, List.set_cons_zero, List.set_cons_succ, i64_w, i32_w]
  rfl
 refine take_ (i := 8) (N := some 13) (v := ?_) (a' := ?_) #[true, true, true, true, false, true, true, true, true, false, true, false, true, false, false, false, false] rfl rfl (take_ofW HT_.out HW_.out (by kernel_rfl)) (fun _ _ _ h => h) (Or.inl ⟨by rfl, ?_⟩) hHeld ?_ ?_
 rotate_left
 ·rintro w' ⟨s0, s1, s2, s3, s4, s5⟩
  go_simp
  with_reducible rfl
 rotate_left
 ·simp only [Act.put, List.setIfInBounds_toArray, List.set_cons_zero, List.set_cons_succ, i64_w, i32_w]
  rfl
 refine take_ (i := 11) (N := some 16) (v := ?_) (a' := ?_) #[true, true, true, true, false, true, true, true, true, false, true, true, true, false, false, false, false] rfl rfl (take_ofW HT_.out HW_.out (by kernel_rfl)) (fun _ _ _ h => h) (Or.inl ⟨by rfl, ?_⟩) hHeld ?_ ?_
 rotate_left
 ·rintro w' ⟨s0, s1, s2, s3, s4, s5⟩
  go_simp
  with_reducible rfl
 rotate_left
 ·simp only [Act.put, List.setIfInBounds_toArray, List.set_cons_zero, List.set_cons_succ, i64_w, i32_w]
  rfl
 refine take_ (i := 13) (N := some 18) (v := ?_) (a' := ?_) #[true, true, true, true, false, true, true, true, true, false, true, true, true, true, false, false, false] rfl rfl (take_ofW HT_.out HW_.out (by kernel_rfl)) (fun _ _ _ h => h) (Or.inl ⟨by rfl, ?_⟩) hHeld ?_ ?_
 rotate_left
 ·rintro w' ⟨s0, s1, s2, s3, s4, s5⟩
  go_simp
  with_reducible rfl
 rotate_left
 ·simp only [Act.put, List.setIfInBounds_toArray, List.set_cons_zero, List.set_cons_succ, i64_w, i32_w]
  rfl
 refine one_ (i := 4) (N := some 9) #[true, true, true, true, true, true, true, true, true, false, true, true, true, true, false, false, false] rfl rfl (one_of HT_.out (by kernel_rfl)) (by decide) (fun K hK => ?_)
 refine goes_ Try.func98 (by kernel_rfl) rfl #[.int .i64 a0_0, .int .i64 a1_0] (by rfl) rfl rfl (by (try simp only [List.map_toArray, List.map_cons, List.map_nil]);first | done | rfl | (simp only [List.length_drop, List.length_take];rfl)) ?_
 with_reducible refine (spec_l1Min.calls a0_0 a1_0 t104 _ A3.out).mono ?_
 rintro e w' ⟨rfl, ⟨nd, rfl⟩⟩
 refine ⟨_, rfl, ?_⟩
 refine hK.out _ _ ⟨(blk_cell BK101.out 0).trans rfl, (blk_cell BK101.out 1).trans rfl, (blk_cell BK101.out 2).trans rfl, (blk_cell BK102.out 0).trans rfl, (blk_cell BK102.out 1).trans rfl, (blk_cell BK102.out 2).trans rfl⟩ (fun hHeld => ?_)
 clear hK K
 refine norm_ (a' := ?_) ?_ ?_
 rotate_left
 ·show Act.put _ (some 9) _ = _
  simp only [Act.put, List.setIfInBounds_toArray, List.set_cons_zero, List.set_cons_succ, i64_w, i32_w]
  rfl
 refine one_ (i := 9) (N := some 14) #[true, true, true, true, true, true, true, true, true, true, true, true, true, true, false, false, false] rfl rfl (one_of HT_.out (by kernel_rfl)) (by decide) (fun K hK => ?_)
 refine goes_ Try.func99 (by kernel_rfl) rfl #[.int .i64 a0_1, .int .i64 a1_1] (by rfl) rfl rfl (by (try simp only [List.map_toArray, List.map_cons, List.map_nil]);first | done | rfl | (simp only [List.length_drop, List.length_take];rfl)) ?_
 with_reducible refine (spec_l1Max.calls a0_1 a1_1 t105 _ A4.out).mono ?_
 rintro e w' ⟨rfl, ⟨nd, rfl⟩⟩
 refine ⟨_, rfl, ?_⟩
 refine hK.out _ _ ⟨(blk_cell BK101.out 0).trans rfl, (blk_cell BK101.out 1).trans rfl, (blk_cell BK101.out 2).trans rfl, (blk_cell BK102.out 0).trans rfl, (blk_cell BK102.out 1).trans rfl, (blk_cell BK102.out 2).trans rfl⟩ (fun hHeld => ?_)
 clear hK K
 refine norm_ (a' := ?_) ?_ ?_
 rotate_left
 ·show Act.put _ (some 14) _ = _
  simp only [Act.put, List.setIfInBounds_toArray, List.set_cons_zero, List.set_cons_succ, i64_w, i32_w]
  rfl
 refine one_ (i := 14) (N := some 19) #[true, true, true, true, true, true, true, true, true, true, true, true, true, true, true, false, false] rfl rfl (one_of HT_.out (by kernel_rfl)) (by decide) (fun K hK => ?_)
 refine goes_ Try.func100 (by kernel_rfl) rfl #[.slice A0_2 l0_2.length c0_2, .slice A1_2 l1_2.length c1_2] (by rfl) rfl rfl (by (try simp only [List.map_toArray, List.map_cons, List.map_nil]);first | done | rfl | (simp only [List.length_drop, List.length_take];rfl)) ?_
 with_reducible refine (spec_l3Union.calls k _ _ l0_2 _ _ l1_2 t106 _ ?side1 ?side2 ?side3 ?side4 A5.out).mono ?_
 (case side1 => repeat (first | exact (Kd.C_below HR0_2.out (by repeat (first | (with_reducible first | exact HB.out | apply below_alloc | apply pw_below_drewN | apply below_drew1 | refine below_set ?_ GE101.out | refine below_set ?_ GE102.out | refine below_set ?_ GE103.out) | exact HB.out))) | (with_reducible refine Kd.C_alloc ?_ _) | (with_reducible refine Kd.C_drewN ?_ _) | (with_reducible refine Kd.C_drew ?_)))
 (case side2 => exact HC0_2.out)
 (case side3 => repeat (first | exact (Kd.C_below HR1_2.out (by repeat (first | (with_reducible first | exact HB.out | apply below_alloc | apply pw_below_drewN | apply below_drew1 | refine below_set ?_ GE101.out | refine below_set ?_ GE102.out | refine below_set ?_ GE103.out) | exact HB.out))) | (with_reducible refine Kd.C_alloc ?_ _) | (with_reducible refine Kd.C_drewN ?_ _) | (with_reducible refine Kd.C_drew ?_)))
 (case side4 => exact HC1_2.out)
 rintro e w10 ⟨v107, rfl, ho0, hb⟩
 refine ⟨_, rfl, ?_⟩
 have n0_ := m0_ (Kd.R_lower ho0 (below_size (by repeat (first | (with_reducible first | exact HB.out | apply below_alloc | apply pw_below_drewN | apply below_drew1 | refine below_set ?_ GE101.out | refine below_set ?_ GE102.out | refine below_set ?_ GE103.out) | exact HB.out))))
 have n1_ := m0_ (blk_below (g := gb101) (o := .cells #[.int .i64 a0_0, .int .i64 a0_1, .slice A0_2 l0_2.length c0_2] 27 (0, 0)) (by (with_reducible repeat (first | refine blk_drewN ?_ _ | refine blk_drew ?_ | refine blk_alloc ?_ _));exact BK101.out) hb)
 have n2_ := m0_ (blk_below (g := gb102) (o := .cells #[.int .i64 a1_0, .int .i64 a1_1, .slice A1_2 l1_2.length c1_2] 27 (0, 0)) (by (with_reducible repeat (first | refine blk_drewN ?_ _ | refine blk_drew ?_ | refine blk_alloc ?_ _));exact BK102.out) hb)
 have n3_ := m0_ (blk_below (g := gb103) (o := .cells #[.int .i64 0, .int .i64 0, .slice none 0 0] 27 (0, 0)) (by (with_reducible repeat (first | refine blk_drewN ?_ _ | refine blk_drew ?_ | refine blk_alloc ?_ _));exact BK103.out) hb)
 have n4_ := m0_ (below_step (by repeat (first | (with_reducible first | exact HB.out | apply below_alloc | apply pw_below_drewN | apply below_drew1 | refine below_set ?_ GE101.out | refine below_set ?_ GE102.out | refine below_set ?_ GE103.out) | exact HB.out)) hb)
 clear BK101
 clear BK102
 clear BK103
 clear HB
 have HO108 := n0_
 have BK101 := n1_
 have BK102 := n2_
 have BK103 := n3_
 have HB := n4_
 clear n0_ n1_ n2_ n3_ n4_
 (try clear hb)
 (try clear hb2)
 (try clear hk)
 (try clear hi)
 (try clear ho0)
 obtain ⟨Ao11, co11, eo11⟩ := Kd.R_slice HO108.out
 (first | subst eo11 | (injection eo11 with f1_ f2_ f3_;have f4_ := f1_.symm;have f5_ := f3_.symm;clear f1_ f2_ f3_;subst f4_;subst f5_))
 refine hK.out _ _ ⟨(blk_cell BK101.out 0).trans rfl, (blk_cell BK101.out 1).trans rfl, (blk_cell BK101.out 2).trans rfl, (blk_cell BK102.out 0).trans rfl, (blk_cell BK102.out 1).trans rfl, (blk_cell BK102.out 2).trans rfl⟩ (fun hHeld => ?_)
 clear hK K
 refine norm_ (a' := ?_) ?_ ?_
 rotate_left
 ·show Act.put _ (some 19) _ = _
  simp only [Act.put, List.setIfInBounds_toArray, List.set_cons_zero, List.set_cons_succ, i64_w, i32_w]
  rfl
 refine pure_ (i := 15) (N := some 20) (v := ?_) (a' := ?_) #[true, true, true, true, true, true, true, true, true, true, true, true, true, true, true, true, false] rfl rfl (any_of HT_.out (by kernel_rfl)) (fun _ _ _ h => h) (Or.inl ⟨by rfl, ?_⟩) ?_ ?_
 rotate_left
 ·intro w'
  go_simp
  with_reducible rfl
 rotate_left
 ·simp only [Act.put, List.setIfInBounds_toArray, List.set_cons_zero, List.set_cons_succ, i64_w, i32_w]
  rfl
 refine one_ (i := 16) (N := none) #[true, true, true, true, true, true, true, true, true, true, true, true, true, true, true, true, true] rfl rfl (one_of HT_.out (by kernel_rfl)) (by decide) (fun K hK => ?_)
 have hs12 : w10.cell? ⟨gb103, 0, none⟩ = some (.int .i64 0) := (blk_cell BK103.out 0).trans rfl
 have hfs12 := blk_frozen BK103.out 0
 have hns12_0 := NB101_103.out
 have hns12_1 := NB102_103.out
 have hms12_0 := NB103_101.out
 have hms12_1 := NB103_102.out
 have hs13 : w10.cell? ⟨gb103, 1, none⟩ = some (.int .i64 0) := (blk_cell BK103.out 1).trans rfl
 have hfs13 := blk_frozen BK103.out 1
 have hns13_0 := NB101_103.out
 have hns13_1 := NB102_103.out
 have hms13_0 := NB103_101.out
 have hms13_1 := NB103_102.out
 have hs14 : w10.cell? ⟨gb103, 2, none⟩ = some (.slice none 0 0) := (blk_cell BK103.out 2).trans rfl
 have hfs14 := blk_frozen BK103.out 2
 have hns14_0 := NB101_103.out
 have hns14_1 := NB102_103.out
 have hms14_0 := NB103_101.out
 have hms14_1 := NB103_102.out
 refine skip_ (w1 := ?_) (by rfl) rfl ?_ ?_
 rotate_left
 ·go_simp
  rfl
 refine hK.out _ _ ⟨((cell_far (p := ⟨gb103, _, none⟩) NB101_103.out _).trans (((cell_far (p := ⟨gb103, _, none⟩) NB101_103.out _).trans (((cell_far (p := ⟨gb103, _, none⟩) NB101_103.out _).trans (hHeld.1)))))), ((cell_far (p := ⟨gb103, _, none⟩) NB101_103.out _).trans (((cell_far (p := ⟨gb103, _, none⟩) NB101_103.out _).trans (((cell_far (p := ⟨gb103, _, none⟩) NB101_103.out _).trans (hHeld.2.1)))))), ((cell_far (p := ⟨gb103, _, none⟩) NB101_103.out _).trans (((cell_far (p := ⟨gb103, _, none⟩) NB101_103.out _).trans (((cell_far (p := ⟨gb103, _, none⟩) NB101_103.out _).trans (hHeld.2.2.1)))))), ((cell_far (p := ⟨gb103, _, none⟩) NB102_103.out _).trans (((cell_far (p := ⟨gb103, _, none⟩) NB102_103.out _).trans (((cell_far (p := ⟨gb103, _, none⟩) NB102_103.out _).trans (hHeld.2.2.2.1)))))), ((cell_far (p := ⟨gb103, _, none⟩) NB102_103.out _).trans (((cell_far (p := ⟨gb103, _, none⟩) NB102_103.out _).trans (((cell_far (p := ⟨gb103, _, none⟩) NB102_103.out _).trans (hHeld.2.2.2.2.1)))))), ((cell_far (p := ⟨gb103, _, none⟩) NB102_103.out _).trans (((cell_far (p := ⟨gb103, _, none⟩) NB102_103.out _).trans (((cell_far (p := ⟨gb103, _, none⟩) NB102_103.out _).trans (hHeld.2.2.2.2.2))))))⟩ (fun hHeld => ?_)
 clear hK K
 refine done_ (done_of HT_.out (by kernel_rfl)) ?_
 try go_wp2
 refine bodyPost_ret (results_cell_row rfl _ _ gb103 27 #[.int .i64 t104, .int .i64 t105, .slice Ao11 t106.length co11] (0, 0) _ rfl (by (with_reducible repeat (first | refine blk_drewN ?_ _ | refine blk_drew ?_ | refine blk_alloc ?_ _));refine blk_put (cs := #[.int .i64 t104, .int .i64 t105, .slice none 0 0]) ?_ 2 _ rfl;(with_reducible repeat (first | refine blk_drewN ?_ _ | refine blk_drew ?_ | refine blk_alloc ?_ _));refine blk_put (cs := #[.int .i64 t104, .int .i64 0, .slice none 0 0]) ?_ 1 _ rfl;(with_reducible repeat (first | refine blk_drewN ?_ _ | refine blk_drew ?_ | refine blk_alloc ?_ _));refine blk_put (cs := #[.int .i64 0, .int .i64 0, .slice none 0 0]) ?_ 0 _ rfl;(with_reducible repeat (first | refine blk_drewN ?_ _ | refine blk_drew ?_ | refine blk_alloc ?_ _));exact BK103.out) Try.underlying27 rfl (by kernel_rfl)) rfl ?_
 exact ⟨_, by first | rfl | (simp [errW_none, errW_some] <;> rfl) | (simp [*, errW_none, errW_some] <;> rfl), by (with_reducible repeat (first | apply Kd.R_alloc | apply Kd.R_drewN | apply Kd.R_drew));exact Kd.R_mono (Kd.R_far (p := ⟨gb103, 2, none⟩) (Kd.R_far (p := ⟨gb103, 1, none⟩) (Kd.R_far (p := ⟨gb103, 0, none⟩) (Kd.R_types HO108.out BK103.out (by decide)) (fun _ hk => hk.2) (.int .i64 t104)) (fun _ hk => hk.2) (.int .i64 t105)) (fun _ hk => hk.2) (.slice Ao11 t106.length co11)) (fun _ hk => trivial), by repeat (first | (with_reducible first | exact HB.out | apply below_alloc | apply pw_below_drewN | apply below_drew1 | refine below_set ?_ GE101.out | refine below_set ?_ GE102.out | refine below_set ?_ GE103.out) | exact HB.out)⟩

def spec_OccJoin.f (k : Nat) (a0_0 : Int) (a0_1 : Int) (l0_2 : List Int) (a1_0 : Int) (a1_1 : Int) (l1_2 : List Int) : Option (Int × Int × List Int) := (spec_OccOk.f k a0_0 a0_1 l0_2).bind fun t104 => (if t104 = true then ((spec_OccOk.f k a1_0 a1_1 l1_2).bind fun t105 => (if t105 = true then ((spec_l3Join.f k a0_0 a0_1 l0_2 a1_0 a1_1 l1_2).bind fun bt106 => (some (bt106.1, bt106.2.1, bt106.2.2))) else (some (0, 0, ([] : List Int))))) else (some (0, 0, ([] : List Int))))
set_option maxHeartbeats 8000000 in
set_option maxRecDepth 100000 in
theorem spec_OccJoin.calls (k : Nat) (a0_0 : Int) (a0_1 : Int) (A0_2 : Option Addr) (c0_2 : Nat) (l0_2 : List Int) (a1_0 : Int) (a1_1 : Int) (A1_2 : Option Addr) (c1_2 : Nat) (l1_2 : List Int) (r1 : Int) (r2 : Int) (r3 : List Int) (w : World) (hr0_2 : Kd.C (Kd.int .i64) w A0_2 l0_2.length l0_2) (hc0_2 : l0_2.length ≤ c0_2) (hr1_2 : Kd.C (Kd.int .i64) w A1_2 l1_2.length l1_2) (hc1_2 : l1_2.length ≤ c1_2) (h : spec_OccJoin.f k a0_0 a0_1 l0_2 a1_0 a1_1 l1_2 = some (r1, r2, r3)) :
  Calls Try.prog 48 #[.agg #[.int .i64 a0_0, .int .i64 a0_1, .slice A0_2 l0_2.length c0_2], .agg #[.int .i64 a1_0, .int .i64 a1_1, .slice A1_2 l1_2.length c1_2]] w fun e w' => ∃ v2_ : Value, e = .returned (.agg #[.int .i64 r1, .int .i64 r2, v2_]) ∧ Kd.R (Kd.int .i64) 3 w' w.heap.size (fun _ => True) v2_ r3 ∧ Below w.heap.size w w' := by
 have hu27 := Try.underlying27
 have HR0_2 := m0_ hr0_2
 have HC0_2 := m0_ hc0_2
 clear hr0_2 hc0_2
 have HR1_2 := m0_ hr1_2
 have HC1_2 := m0_ hc1_2
 clear hr1_2 hc1_2
 have HB := m0_ (Below.refl w.heap.size w)
 have H : ((spec_OccOk.f k a0_0 a0_1 l0_2).bind fun t104 => (if t104 = true then ((spec_OccOk.f k a1_0 a1_1 l1_2).bind fun t105 => (if t105 = true then ((spec_l3Join.f k a0_0 a0_1 l0_2 a1_0 a1_1 l1_2).bind fun bt106 => (some (bt106.1, bt106.2.1, bt106.2.2))) else (some (0, 0, ([] : List Int))))) else (some (0, 0, ([] : List Int))))) = some (r1, r2, r3) := h
 clear h
 replace H := Option.bind_eq_some_iff.mp H
 obtain ⟨t104, A30, H⟩ := H
 replace H : (if t104 = true then ((spec_OccOk.f k a1_0 a1_1 l1_2).bind fun t105 => (if t105 = true then ((spec_l3Join.f k a0_0 a0_1 l0_2 a1_0 a1_1 l1_2).bind fun bt106 => (some (bt106.1, bt106.2.1, bt106.2.2))) else (some (0, 0, ([] : List Int))))) else (some (0, 0, ([] : List Int)))) = some (r1, r2, r3) := H
 have A3 := m0_ A30
 clear A30
 by_cases c4 : t104 = true
 rotate_left
 ·replace c4 := Bool.eq_false_iff.mpr c4
  subst c4
  have H1 : (some (0, 0, ([] : List Int))) = some (r1, r2, r3) := by rw [if_neg (show ¬ (false = true) by decide)] at H;exact H
  clear H
  have H := H1
  clear H1
  simp only [Option.some.injEq, Prod.mk.injEq] at H
  obtain ⟨rfl, rfl, rfl⟩ := H
  go_enter Try.func48, Try.ntmps48
  go_wp2_with (first | ((with_reducible refine gate_dst (N := 2) rfl ?_);refine box_event ?hg (N := 2) ?hd (cs := #[.int .i64 a0_0, .int .i64 a0_1, .slice A0_2 l0_2.length c0_2]) (t := 27) ?hr ?_;(case hd => rfl);(case hg => rfl);(case hr => first | (go_simp;done) | (go_simp;rfl));intro gb101 hg w34 hbox hb;have BK101 := m0_ (hbox);have GW101 := m0_ ((by rw [hg];exact (below_size (by exact HB.out)) : w.heap.size ≤ gb101));have GE101 := m0_ ((by rw [hg];exact (below_size (by exact HB.out)) : w.heap.size ≤ gb101));replace HB := m0_ (below_step (by exact HB.out) hb);clear hb hbox hg) | ((with_reducible refine gate_dst (N := 3) rfl ?_);refine box_event ?hg (N := 3) ?hd (cs := #[.int .i64 a1_0, .int .i64 a1_1, .slice A1_2 l1_2.length c1_2]) (t := 27) ?hr ?_;(case hd => rfl);(case hg => rfl);(case hr => first | (go_simp;done) | (go_simp;rfl));intro gb102 hg w35 hbox hb;have BK102 := m0_ (hbox);have GW102 := m0_ ((by rw [hg];exact (below_size (by exact HB.out)) : w.heap.size ≤ gb102));have GE102 := m0_ ((by rw [hg];exact (below_size (by exact HB.out)) : w.heap.size ≤ gb102));replace HB := m0_ (below_step (by exact HB.out) hb);have NB101_102 := m0_ ((by rw [hg];exact Nat.ne_of_lt (blk_lt BK101.out) : gb101 ≠ gb102));have NB102_101 := m0_ ((by rw [hg];exact Nat.ne_of_gt (blk_lt BK101.out) : gb102 ≠ gb101));replace BK101 := m0_ (blk_below BK101.out hb);clear hb hbox hg) | ((with_reducible refine gate_dst (N := 4) rfl ?_);refine box_event ?hg (N := 4) ?hd (cs := #[.int .i64 0, .int .i64 0, .slice none 0 0]) (t := 27) ?hr ?_;(case hd => rfl);(case hg => rfl);(case hr => first | (go_simp;done) | (go_simp;rfl));intro gb103 hg w36 hbox hb;have BK103 := m0_ (hbox);have GW103 := m0_ ((by rw [hg];exact (below_size (by exact HB.out)) : w.heap.size ≤ gb103));have GE103 := m0_ ((by rw [hg];exact (below_size (by exact HB.out)) : w.heap.size ≤ gb103));replace HB := m0_ (below_step (by exact HB.out) hb);have NB101_103 := m0_ ((by rw [hg];exact Nat.ne_of_lt (blk_lt BK101.out) : gb101 ≠ gb103));have NB103_101 := m0_ ((by rw [hg];exact Nat.ne_of_gt (blk_lt BK101.out) : gb103 ≠ gb101));replace BK101 := m0_ (blk_below BK101.out hb);have NB102_103 := m0_ ((by rw [hg];exact Nat.ne_of_lt (blk_lt BK102.out) : gb102 ≠ gb103));have NB103_102 := m0_ ((by rw [hg];exact Nat.ne_of_gt (blk_lt BK102.out) : gb103 ≠ gb102));replace BK102 := m0_ (blk_below BK102.out hb);clear hb hbox hg;have hnb37 := NB101_102.out;have hnc37 := NB102_101.out;have hnb38 := NB101_103.out;have hnc38 := NB103_101.out;obtain ⟨hcz39_0, hcz39_1, hcz39_2, hfz39_0, hfz39_1, hfz39_2⟩ := bx3 BK101.out) | ((with_reducible refine gate_callee (f := 19) rfl ?_);refine goesL_ (some 6) rfl rfl Try.func19 (by kernel_rfl) rfl #[.agg #[.int .i64 a0_0, .int .i64 a0_1, .slice A0_2 l0_2.length c0_2]] rfl (by (try simp only [List.map_toArray, List.map_cons, List.map_nil]);first | done | rfl | (simp only [List.length_drop, List.length_take];rfl)) ?_;(with_reducible refine (spec_OccOk.calls k a0_0 a0_1 _ _ l0_2 false _ ?side1 ?side2 A3.out).mono ?_);(case side1 => repeat (first | exact (Kd.C_below HR0_2.out HB.out) | (with_reducible refine Kd.C_alloc ?_ _) | (with_reducible refine Kd.C_drewN ?_ _) | (with_reducible refine Kd.C_drew ?_)));(case side2 => exact HC0_2.out);rintro e w40 ⟨rfl, hb⟩;refine ⟨_, rfl, ?_⟩;replace BK101 := m0_ (blk_below BK101.out hb);replace BK102 := m0_ (blk_below BK102.out hb);replace BK103 := m0_ (blk_below BK103.out hb);replace HB := m0_ (below_step (by exact HB.out) hb);(try clear hb);(try clear hb2);(try clear hk);(try clear hi);have hnb41 := NB103_102.out;have hnc41 := NB102_103.out;obtain ⟨hcz42_0, hcz42_1, hcz42_2, hfz42_0, hfz42_1, hfz42_2⟩ := bx3 BK103.out))
  refine bodyPost_ret (results_cell_row rfl _ _ gb103 27 #[.int .i64 0, .int .i64 0, .slice none 0 0] (0, 0) _ rfl (by (with_reducible repeat (first | refine blk_drewN ?_ _ | refine blk_drew ?_ | refine blk_alloc ?_ _));refine blk_put (cs := #[.int .i64 0, .int .i64 0, .slice none 0 0]) ?_ 2 _ rfl;(with_reducible repeat (first | refine blk_drewN ?_ _ | refine blk_drew ?_ | refine blk_alloc ?_ _));refine blk_put (cs := #[.int .i64 0, .int .i64 0, .slice none 0 0]) ?_ 1 _ rfl;(with_reducible repeat (first | refine blk_drewN ?_ _ | refine blk_drew ?_ | refine blk_alloc ?_ _));refine blk_put (cs := #[.int .i64 0, .int .i64 0, .slice none 0 0]) ?_ 0 _ rfl;(with_reducible repeat (first | refine blk_drewN ?_ _ | refine blk_drew ?_ | refine blk_alloc ?_ _));exact BK103.out) Try.underlying27 rfl (by kernel_rfl)) rfl ?_
  exact ⟨_, by first | rfl | (simp [errW_none, errW_some] <;> rfl) | (simp [*, errW_none, errW_some] <;> rfl), by first | exact Kd.R_nil _ _ _ _ _ | exact Kd.N_nil _ _ _ _ _ | exact Kd.V_nil _ _ _ _ _ | exact Kd.Q_nil _ _ _ _ _ | exact Kd.S_nil _ _ _ _ _, by repeat (first | (with_reducible first | exact HB.out | apply below_alloc | apply pw_below_drewN | apply below_drew1 | refine below_set ?_ GE101.out | refine below_set ?_ GE102.out | refine below_set ?_ GE103.out) | exact HB.out)⟩
 subst c4
 have H1 : ((spec_OccOk.f k a1_0 a1_1 l1_2).bind fun t105 => (if t105 = true then ((spec_l3Join.f k a0_0 a0_1 l0_2 a1_0 a1_1 l1_2).bind fun bt106 => (some (bt106.1, bt106.2.1, bt106.2.2))) else (some (0, 0, ([] : List Int))))) = some (r1, r2, r3) := by rw [if_pos rfl] at H;exact H
 clear H
 have H := H1
 clear H1
 replace H := Option.bind_eq_some_iff.mp H
 obtain ⟨t105, A50, H⟩ := H
 replace H : (if t105 = true then ((spec_l3Join.f k a0_0 a0_1 l0_2 a1_0 a1_1 l1_2).bind fun bt106 => (some (bt106.1, bt106.2.1, bt106.2.2))) else (some (0, 0, ([] : List Int)))) = some (r1, r2, r3) := H
 have A5 := m0_ A50
 clear A50
 by_cases c6 : t105 = true
 rotate_left
 ·replace c6 := Bool.eq_false_iff.mpr c6
  subst c6
  have H1 : (some (0, 0, ([] : List Int))) = some (r1, r2, r3) := by rw [if_neg (show ¬ (false = true) by decide)] at H;exact H
  clear H
  have H := H1
  clear H1
  simp only [Option.some.injEq, Prod.mk.injEq] at H
  obtain ⟨rfl, rfl, rfl⟩ := H
  go_enter Try.func48, Try.ntmps48
  go_wp2_with (first | ((with_reducible refine gate_dst (N := 2) rfl ?_);refine box_event ?hg (N := 2) ?hd (cs := #[.int .i64 a0_0, .int .i64 a0_1, .slice A0_2 l0_2.length c0_2]) (t := 27) ?hr ?_;(case hd => rfl);(case hg => rfl);(case hr => first | (go_simp;done) | (go_simp;rfl));intro gb101 hg w23 hbox hb;have BK101 := m0_ (hbox);have GW101 := m0_ ((by rw [hg];exact (below_size (by exact HB.out)) : w.heap.size ≤ gb101));have GE101 := m0_ ((by rw [hg];exact (below_size (by exact HB.out)) : w.heap.size ≤ gb101));replace HB := m0_ (below_step (by exact HB.out) hb);clear hb hbox hg) | ((with_reducible refine gate_dst (N := 3) rfl ?_);refine box_event ?hg (N := 3) ?hd (cs := #[.int .i64 a1_0, .int .i64 a1_1, .slice A1_2 l1_2.length c1_2]) (t := 27) ?hr ?_;(case hd => rfl);(case hg => rfl);(case hr => first | (go_simp;done) | (go_simp;rfl));intro gb102 hg w24 hbox hb;have BK102 := m0_ (hbox);have GW102 := m0_ ((by rw [hg];exact (below_size (by exact HB.out)) : w.heap.size ≤ gb102));have GE102 := m0_ ((by rw [hg];exact (below_size (by exact HB.out)) : w.heap.size ≤ gb102));replace HB := m0_ (below_step (by exact HB.out) hb);have NB101_102 := m0_ ((by rw [hg];exact Nat.ne_of_lt (blk_lt BK101.out) : gb101 ≠ gb102));have NB102_101 := m0_ ((by rw [hg];exact Nat.ne_of_gt (blk_lt BK101.out) : gb102 ≠ gb101));replace BK101 := m0_ (blk_below BK101.out hb);clear hb hbox hg) | ((with_reducible refine gate_dst (N := 4) rfl ?_);refine box_event ?hg (N := 4) ?hd (cs := #[.int .i64 0, .int .i64 0, .slice none 0 0]) (t := 27) ?hr ?_;(case hd => rfl);(case hg => rfl);(case hr => first | (go_simp;done) | (go_simp;rfl));intro gb103 hg w25 hbox hb;have BK103 := m0_ (hbox);have GW103 := m0_ ((by rw [hg];exact (below_size (by exact HB.out)) : w.heap.size ≤ gb103));have GE103 := m0_ ((by rw [hg];exact (below_size (by exact HB.out)) : w.heap.size ≤ gb103));replace HB := m0_ (below_step (by exact HB.out) hb);have NB101_103 := m0_ ((by rw [hg];exact Nat.ne_of_lt (blk_lt BK101.out) : gb101 ≠ gb103));have NB103_101 := m0_ ((by rw [hg];exact Nat.ne_of_gt (blk_lt BK101.out) : gb103 ≠ gb101));replace BK101 := m0_ (blk_below BK101.out hb);have NB102_103 := m0_ ((by rw [hg];exact Nat.ne_of_lt (blk_lt BK102.out) : gb102 ≠ gb103));have NB103_102 := m0_ ((by rw [hg];exact Nat.ne_of_gt (blk_lt BK102.out) : gb103 ≠ gb102));replace BK102 := m0_ (blk_below BK102.out hb);clear hb hbox hg;have hnb26 := NB101_102.out;have hnc26 := NB102_101.out;have hnb27 := NB101_103.out;have hnc27 := NB103_101.out;obtain ⟨hcz28_0, hcz28_1, hcz28_2, hfz28_0, hfz28_1, hfz28_2⟩ := bx3 BK101.out) | ((with_reducible refine gate_callee (f := 19) rfl ?_);refine goesL_ (some 6) rfl rfl Try.func19 (by kernel_rfl) rfl #[.agg #[.int .i64 a0_0, .int .i64 a0_1, .slice A0_2 l0_2.length c0_2]] rfl (by (try simp only [List.map_toArray, List.map_cons, List.map_nil]);first | done | rfl | (simp only [List.length_drop, List.length_take];rfl)) ?_;(with_reducible refine (spec_OccOk.calls k a0_0 a0_1 _ _ l0_2 true _ ?side1 ?side2 A3.out).mono ?_);(case side1 => repeat (first | exact (Kd.C_below HR0_2.out HB.out) | (with_reducible refine Kd.C_alloc ?_ _) | (with_reducible refine Kd.C_drewN ?_ _) | (with_reducible refine Kd.C_drew ?_)));(case side2 => exact HC0_2.out);rintro e w29 ⟨rfl, hb⟩;refine ⟨_, rfl, ?_⟩;replace BK101 := m0_ (blk_below BK101.out hb);replace BK102 := m0_ (blk_below BK102.out hb);replace BK103 := m0_ (blk_below BK103.out hb);replace HB := m0_ (below_step (by exact HB.out) hb);(try clear hb);(try clear hb2);(try clear hk);(try clear hi);have hnb30 := NB102_103.out;have hnc30 := NB103_102.out;obtain ⟨hcz31_0, hcz31_1, hcz31_2, hfz31_0, hfz31_1, hfz31_2⟩ := bx3 BK102.out) | (go_at_call 19;(with_reducible refine (spec_OccOk.calls k a1_0 a1_1 _ _ l1_2 false _ ?side1 ?side2 A5.out).mono ?_);(case side1 => repeat (first | exact (Kd.C_below HR1_2.out HB.out) | (with_reducible refine Kd.C_alloc ?_ _) | (with_reducible refine Kd.C_drewN ?_ _) | (with_reducible refine Kd.C_drew ?_)));(case side2 => exact HC1_2.out);rintro e w32 ⟨rfl, hb⟩;replace BK101 := m0_ (blk_below BK101.out hb);replace BK102 := m0_ (blk_below BK102.out hb);replace BK103 := m0_ (blk_below BK103.out hb);replace HB := m0_ (below_step (by exact HB.out) hb);(try clear hb);(try clear hb2);(try clear hk);(try clear hi);obtain ⟨hcz33_0, hcz33_1, hcz33_2, hfz33_0, hfz33_1, hfz33_2⟩ := bx3 BK103.out))
  refine bodyPost_ret (results_cell_row rfl _ _ gb103 27 #[.int .i64 0, .int .i64 0, .slice none 0 0] (0, 0) _ rfl (by (with_reducible repeat (first | refine blk_drewN ?_ _ | refine blk_drew ?_ | refine blk_alloc ?_ _));refine blk_put (cs := #[.int .i64 0, .int .i64 0, .slice none 0 0]) ?_ 2 _ rfl;(with_reducible repeat (first | refine blk_drewN ?_ _ | refine blk_drew ?_ | refine blk_alloc ?_ _));refine blk_put (cs := #[.int .i64 0, .int .i64 0, .slice none 0 0]) ?_ 1 _ rfl;(with_reducible repeat (first | refine blk_drewN ?_ _ | refine blk_drew ?_ | refine blk_alloc ?_ _));refine blk_put (cs := #[.int .i64 0, .int .i64 0, .slice none 0 0]) ?_ 0 _ rfl;(with_reducible repeat (first | refine blk_drewN ?_ _ | refine blk_drew ?_ | refine blk_alloc ?_ _));exact BK103.out) Try.underlying27 rfl (by kernel_rfl)) rfl ?_
  exact ⟨_, by first | rfl | (simp [errW_none, errW_some] <;> rfl) | (simp [*, errW_none, errW_some] <;> rfl), by first | exact Kd.R_nil _ _ _ _ _ | exact Kd.N_nil _ _ _ _ _ | exact Kd.V_nil _ _ _ _ _ | exact Kd.Q_nil _ _ _ _ _ | exact Kd.S_nil _ _ _ _ _, by repeat (first | (with_reducible first | exact HB.out | apply below_alloc | apply pw_below_drewN | apply below_drew1 | refine below_set ?_ GE101.out | refine below_set ?_ GE102.out | refine below_set ?_ GE103.out) | exact HB.out)⟩
 subst c6
 have H1 : ((spec_l3Join.f k a0_0 a0_1 l0_2 a1_0 a1_1 l1_2).bind fun bt106 => (some (bt106.1, bt106.2.1, bt106.2.2))) = some (r1, r2, r3) := by rw [if_pos rfl] at H;exact H
 clear H
 have H := H1
 clear H1
 replace H := Option.bind_eq_some_iff.mp H
 obtain ⟨⟨t106, t107, t108⟩, A70, H⟩ := H
 replace H : (some (t106, t107, t108)) = some (r1, r2, r3) := H
 have A7 := m0_ A70
 clear A70
 simp only [Option.some.injEq, Prod.mk.injEq] at H
 obtain ⟨rfl, rfl, rfl⟩ := H
 go_enter Try.func48, Try.ntmps48
 go_wp2_with (first | ((with_reducible refine gate_dst (N := 2) rfl ?_);refine box_event ?hg (N := 2) ?hd (cs := #[.int .i64 a0_0, .int .i64 a0_1, .slice A0_2 l0_2.length c0_2]) (t := 27) ?hr ?_;(case hd => rfl);(case hg => rfl);(case hr => first | (go_simp;done) | (go_simp;rfl));intro gb101 hg w8 hbox hb;have BK101 := m0_ (hbox);have GW101 := m0_ ((by rw [hg];exact (below_size (by exact HB.out)) : w.heap.size ≤ gb101));have GE101 := m0_ ((by rw [hg];exact (below_size (by exact HB.out)) : w.heap.size ≤ gb101));replace HB := m0_ (below_step (by exact HB.out) hb);clear hb hbox hg) | ((with_reducible refine gate_dst (N := 3) rfl ?_);refine box_event ?hg (N := 3) ?hd (cs := #[.int .i64 a1_0, .int .i64 a1_1, .slice A1_2 l1_2.length c1_2]) (t := 27) ?hr ?_;(case hd => rfl);(case hg => rfl);(case hr => first | (go_simp;done) | (go_simp;rfl));intro gb102 hg w9 hbox hb;have BK102 := m0_ (hbox);have GW102 := m0_ ((by rw [hg];exact (below_size (by exact HB.out)) : w.heap.size ≤ gb102));have GE102 := m0_ ((by rw [hg];exact (below_size (by exact HB.out)) : w.heap.size ≤ gb102));replace HB := m0_ (below_step (by exact HB.out) hb);have NB101_102 := m0_ ((by rw [hg];exact Nat.ne_of_lt (blk_lt BK101.out) : gb101 ≠ gb102));have NB102_101 := m0_ ((by rw [hg];exact Nat.ne_of_gt (blk_lt BK101.out) : gb102 ≠ gb101));replace BK101 := m0_ (blk_below BK101.out hb);clear hb hbox hg) | ((with_reducible refine gate_dst (N := 4) rfl ?_);refine box_event ?hg (N := 4) ?hd (cs := #[.int .i64 0, .int .i64 0, .slice none 0 0]) (t := 27) ?hr ?_;(case hd => rfl);(case hg => rfl);(case hr => first | (go_simp;done) | (go_simp;rfl));intro gb103 hg w10 hbox hb;have BK103 := m0_ (hbox);have GW103 := m0_ ((by rw [hg];exact (below_size (by exact HB.out)) : w.heap.size ≤ gb103));have GE103 := m0_ ((by rw [hg];exact (below_size (by exact HB.out)) : w.heap.size ≤ gb103));replace HB := m0_ (below_step (by exact HB.out) hb);have NB101_103 := m0_ ((by rw [hg];exact Nat.ne_of_lt (blk_lt BK101.out) : gb101 ≠ gb103));have NB103_101 := m0_ ((by rw [hg];exact Nat.ne_of_gt (blk_lt BK101.out) : gb103 ≠ gb101));replace BK101 := m0_ (blk_below BK101.out hb);have NB102_103 := m0_ ((by rw [hg];exact Nat.ne_of_lt (blk_lt BK102.out) : gb102 ≠ gb103));have NB103_102 := m0_ ((by rw [hg];exact Nat.ne_of_gt (blk_lt BK102.out) : gb103 ≠ gb102));replace BK102 := m0_ (blk_below BK102.out hb);clear hb hbox hg;have hnb11 := NB101_102.out;have hnc11 := NB102_101.out;have hnb12 := NB101_103.out;have hnc12 := NB103_101.out;obtain ⟨hcz13_0, hcz13_1, hcz13_2, hfz13_0, hfz13_1, hfz13_2⟩ := bx3 BK101.out) | ((with_reducible refine gate_callee (f := 19) rfl ?_);refine goesL_ (some 6) rfl rfl Try.func19 (by kernel_rfl) rfl #[.agg #[.int .i64 a0_0, .int .i64 a0_1, .slice A0_2 l0_2.length c0_2]] rfl (by (try simp only [List.map_toArray, List.map_cons, List.map_nil]);first | done | rfl | (simp only [List.length_drop, List.length_take];rfl)) ?_;(with_reducible refine (spec_OccOk.calls k a0_0 a0_1 _ _ l0_2 true _ ?side1 ?side2 A3.out).mono ?_);(case side1 => repeat (first | exact (Kd.C_below HR0_2.out HB.out) | (with_reducible refine Kd.C_alloc ?_ _) | (with_reducible refine Kd.C_drewN ?_ _) | (with_reducible refine Kd.C_drew ?_)));(case side2 => exact HC0_2.out);rintro e w14 ⟨rfl, hb⟩;refine ⟨_, rfl, ?_⟩;replace BK101 := m0_ (blk_below BK101.out hb);replace BK102 := m0_ (blk_below BK102.out hb);replace BK103 := m0_ (blk_below BK103.out hb);replace HB := m0_ (below_step (by exact HB.out) hb);(try clear hb);(try clear hb2);(try clear hk);(try clear hi);have hnb15 := NB102_103.out;have hnc15 := NB103_102.out;obtain ⟨hcz16_0, hcz16_1, hcz16_2, hfz16_0, hfz16_1, hfz16_2⟩ := bx3 BK102.out) | (go_at_call 19;(with_reducible refine (spec_OccOk.calls k a1_0 a1_1 _ _ l1_2 true _ ?side1 ?side2 A5.out).mono ?_);(case side1 => repeat (first | exact (Kd.C_below HR1_2.out HB.out) | (with_reducible refine Kd.C_alloc ?_ _) | (with_reducible refine Kd.C_drewN ?_ _) | (with_reducible refine Kd.C_drew ?_)));(case side2 => exact HC1_2.out);rintro e w17 ⟨rfl, hb⟩;replace BK101 := m0_ (blk_below BK101.out hb);replace BK102 := m0_ (blk_below BK102.out hb);replace BK103 := m0_ (blk_below BK103.out hb);replace HB := m0_ (below_step (by exact HB.out) hb);(try clear hb);(try clear hb2);(try clear hk);(try clear hi);obtain ⟨hcz18_0, hcz18_1, hcz18_2, hfz18_0, hfz18_1, hfz18_2⟩ := bx3 BK101.out;obtain ⟨hcz19_0, hcz19_1, hcz19_2, hfz19_0, hfz19_1, hfz19_2⟩ := bx3 BK102.out) | ((with_reducible refine gate_callee (f := 78) rfl ?_);refine goesL_ (some 16) rfl rfl Try.func78 (by kernel_rfl) rfl #[.agg #[.int .i64 a0_0, .int .i64 a0_1, .slice A0_2 l0_2.length c0_2], .agg #[.int .i64 a1_0, .int .i64 a1_1, .slice A1_2 l1_2.length c1_2]] rfl (by (try simp only [List.map_toArray, List.map_cons, List.map_nil]);first | done | rfl | (simp only [List.length_drop, List.length_take];rfl)) ?_;(with_reducible refine (spec_l3Join.calls k a0_0 a0_1 _ _ l0_2 a1_0 a1_1 _ _ l1_2 t106 t107 t108 _ ?side1 ?side2 ?side3 ?side4 A7.out).mono ?_);(case side1 => repeat (first | exact (Kd.C_below HR0_2.out HB.out) | (with_reducible refine Kd.C_alloc ?_ _) | (with_reducible refine Kd.C_drewN ?_ _) | (with_reducible refine Kd.C_drew ?_)));(case side2 => exact HC0_2.out);(case side3 => repeat (first | exact (Kd.C_below HR1_2.out HB.out) | (with_reducible refine Kd.C_alloc ?_ _) | (with_reducible refine Kd.C_drewN ?_ _) | (with_reducible refine Kd.C_drew ?_)));(case side4 => exact HC1_2.out);rintro e w20 ⟨v109, rfl, ho0, hb⟩;refine ⟨_, rfl, ?_⟩;have HO110 := m0_ (Kd.R_lower ho0 (below_size (by exact HB.out)));replace BK101 := m0_ (blk_below BK101.out hb);replace BK102 := m0_ (blk_below BK102.out hb);replace BK103 := m0_ (blk_below BK103.out hb);replace HB := m0_ (below_step (by exact HB.out) hb);(try clear hb);(try clear hb2);(try clear hk);(try clear hi);(try clear ho0);obtain ⟨hcz21_0, hcz21_1, hcz21_2, hfz21_0, hfz21_1, hfz21_2⟩ := bx3 BK103.out;obtain ⟨Ao22, co22, eo22⟩ := Kd.R_slice HO110.out;subst eo22))
 refine bodyPost_ret (results_cell_row rfl _ _ gb103 27 #[.int .i64 t106, .int .i64 t107, .slice Ao22 t108.length co22] (0, 0) _ rfl (by (with_reducible repeat (first | refine blk_drewN ?_ _ | refine blk_drew ?_ | refine blk_alloc ?_ _));refine blk_put (cs := #[.int .i64 t106, .int .i64 t107, .slice none 0 0]) ?_ 2 _ rfl;(with_reducible repeat (first | refine blk_drewN ?_ _ | refine blk_drew ?_ | refine blk_alloc ?_ _));refine blk_put (cs := #[.int .i64 t106, .int .i64 0, .slice none 0 0]) ?_ 1 _ rfl;(with_reducible repeat (first | refine blk_drewN ?_ _ | refine blk_drew ?_ | refine blk_alloc ?_ _));refine blk_put (cs := #[.int .i64 0, .int .i64 0, .slice none 0 0]) ?_ 0 _ rfl;(with_reducible repeat (first | refine blk_drewN ?_ _ | refine blk_drew ?_ | refine blk_alloc ?_ _));exact BK103.out) Try.underlying27 rfl (by kernel_rfl)) rfl ?_
 exact ⟨_, by first | rfl | (simp [errW_none, errW_some] <;> rfl) | (simp [*, errW_none, errW_some] <;> rfl), by (with_reducible repeat (first | apply Kd.R_alloc | apply Kd.R_drewN | apply Kd.R_drew));exact Kd.R_mono (Kd.R_far (p := ⟨gb103, 2, none⟩) (Kd.R_far (p := ⟨gb103, 1, none⟩) (Kd.R_far (p := ⟨gb103, 0, none⟩) (Kd.R_types HO110.out BK103.out (by decide)) (fun _ hk => hk.2) (.int .i64 t106)) (fun _ hk => hk.2) (.int .i64 t107)) (fun _ hk => hk.2) (.slice Ao22 t108.length co22)) (fun _ hk => trivial), by repeat (first | (with_reducible first | exact HB.out | apply below_alloc | apply pw_below_drewN | apply below_drew1 | refine below_set ?_ GE101.out | refine below_set ?_ GE102.out | refine below_set ?_ GE103.out) | exact HB.out)⟩

end Go.Proofs.Ytiplpckgmikmeaa.M
namespace Go.Proofs.Ytiplpckgmikmeaa.M
set_option linter.unusedVariables false
set_option linter.unusedSimpArgs false
open Go.RowKit Go.Proofs.YtiplpckgmikmeaaW.PrintWords Go.Proofs.YtiplpckgmikmeaaW.PrintLast Go.Proofs.YtiplpckgmikmeaaW.PrintMore

set_option maxHeartbeats 2000000 in
set_option maxRecDepth 100000 in
theorem grow_nil (n : Nat) (w : World) (hn : n < 17592186044416) :
    Calls Try.prog 110 #[.slice none 0 0, .int .i64 n] w fun e w' => ∃ v, e = .returned v ∧ Kd.R (Kd.int .i64) 3 w' w.heap.size (fun _ => True) v [] ∧ Below w.heap.size w w' := by
  have HN := m0_ hn
  clear hn
  have hw1 : wrap64 (n : Int) = n := by have := HN.out; unfold wrap64; omega
  have hneg : ¬ ((n : Int) < 0) := by omega
  rcases Nat.eq_zero_or_pos n with h0 | h0
  · subst h0
    go_enter Try.func110, Try.ntmps110
    go_wp2
    go_ret
    exact ⟨_, rfl, Kd.R_nil _ _ _ _ _, Below.refl _ _⟩
  · have hpos : (0 : Int) < (n : Int) := by omega
    go_enter Try.func110, Try.ntmps110
    go_wp2_with (first | (at_builtin; refine Kd.R_append_zeros (Kd.int .i64) (w0 := w) w.heap.size rfl (.tmp 20) (.tmp 21) 22 3 3 (.int .i64 0) 8 rfl Try.underlying22 Try.underlying3 info3 rfl (by decide) (by omega) (.slice none 0 0) [] 0 (wrap64 (n : Int)) (fun _ => True) rfl rfl ?aZ ?aF ?aO ?a0 ?aB ?aS ?aL ?_; (case aZ => exact rfl); (case aF => exact fun _ _ => trivial); (case aO => exact Kd.R_nil _ _ _ _ _); (case a0 => rw [hw1]; omega); (case aB => exact Below.refl _ _); (case aS => exact Nat.le_refl _); (case aL => rw [hw1]; have := HN.out; simp; omega); intro v1 w1 ho hb hg hat; rw [hw1] at ho; have HO := m0_ ho; have HB := m0_ hb; clear ho hb hg hat; obtain ⟨Ao, co, eo⟩ := Kd.R_slice HO.out; subst eo))
    go_ret
    exact ⟨_, rfl, by have := Kd.R_take HO.out (m := 0) (by omega); simpa using this, HB.out⟩
def elt (l : List (List Int)) (k : Nat) : List Int := l.getD k []
theorem at_slices {xs : List (List Int)} {w : World} {A : Option Addr} {n : Nat} (h : (Kd.slice 3 (Kd.int .i64)).C w A n xs) (i : Nat) (hi : i < n) :
    ∃ ad A' c', A = some ad ∧ w.cell? (ad.add i) = some (.slice A' (elt xs i).length c') ∧ (elt xs i).length ≤ c' ∧ (Kd.int .i64).C w A' (elt xs i).length (elt xs i) := by
  obtain ⟨ad, c, e, hl, ⟨A', c', rfl, h1, h2⟩, hc⟩ := ReadsRow.get_ h [] (i : Int) (by omega) (by omega)
  refine ⟨ad, A', c', e, ?_, h1, h2⟩
  have := hc 0 _ rfl
  simpa [Kd.slice, elt] using this
def pre (l : List (List Int)) (k : Nat) : List Int := (l.take k).flatten
theorem flat_take (l : List (List Int)) (k : Nat) (h : k < l.length) : pre l (k + 1) = pre l k ++ elt l k := by
  unfold pre elt
  rw [List.take_succ_eq_append_getElem h, List.flatten_append, List.getD_eq_getElem?_getD, List.getElem?_eq_getElem h]
  simp
theorem flat_le (l : List (List Int)) (k : Nat) : (pre l k).length ≤ l.flatten.length := by
  unfold pre
  have : l.flatten = (l.take k).flatten ++ (l.drop k).flatten := by rw [← List.flatten_append, List.take_append_drop]
  rw [this, List.length_append]
  omega
set_option maxHeartbeats 2000000 in
set_option maxRecDepth 100000 in
theorem concat_calls (l : List (List Int)) (A : Option Addr) (c : Nat) (w : World) (hr : (Kd.slice 3 (Kd.int .i64)).C w A l.length l) (hc : l.length ≤ c) (hn : l.flatten.length < 17592186044416) :
    Calls Try.prog 101 #[.slice A l.length c] w fun e w' => ∃ v, e = .returned v ∧ Kd.R (Kd.int .i64) 3 w' w.heap.size (fun _ => True) v l.flatten ∧ Below w.heap.size w w' := by
  have HN := m0_ hn
  have HR := m0_ hr
  have HC := m0_ hc
  have HL := m0_ hr.2.1
  clear hn hr hc
  go_enter Try.func101, Try.ntmps101
  go_wp2
  go_loop [3, 11] (fun v3 v11 => ∃ k : Nat, k ≤ l.length ∧ v11 = .int .i64 k ∧ v3 = .int .i64 ((pre l k).length : Nat)) (fun _ v11 => l.length - (intOf v11).toNat)
  case atStart => exact ⟨0, Nat.zero_le _, rfl, rfl⟩
  case round =>
    obtain ⟨k, hk, rfl, rfl⟩ := hrel
    have hl := HL.out
    by_cases hlt : k < l.length
    · obtain ⟨ad, A', c', e, h0, h1, h2⟩ := at_slices HR.out k hlt
      subst e
      have hf := flat_take l k hlt
      have hle := flat_le l (k + 1)
      have hnn := HN.out
      have hw1 : wrap64 (((pre l k).length : Int) + ((elt l k).length : Int)) = ((pre l (k + 1)).length : Nat) := by
        have := congrArg List.length hf
        rw [List.length_append] at this
        unfold wrap64
        omega
      have HF := m0_ hf
      clear h1 h2 hf hle hnn
      go_wp2
      go_round
      case rel => exact ⟨k + 1, by omega, by go_num, by rw [hw1]⟩
      case measure => simp [intOf]; omega
    obtain rfl : k = l.length := by omega
    have HP := m0_ (show (pre l l.length).length < 17592186044416 by unfold pre; rw [List.take_length]; exact HN.out)
    clear hk hlt hl
    go_wp2_with (first | (go_at_call 110; refine (grow_nil (pre l l.length).length _ HP.out).mono ?_; rintro e w1 ⟨u, rfl, ho, hb⟩; have HO0 := m0_ ho; have HB0 := m0_ hb; clear ho hb))
    go_loopw [6, 27] (fun v6 v27 wr => ∃ k : Nat, k ≤ l.length ∧ v27 = .int .i64 k ∧ Aside0 (Kd.R (Kd.int .i64) 3 wr w.heap.size (fun _ => True) v6 (pre l k)) ∧ Aside0 (Below w.heap.size w wr)) (fun _ v27 _ => l.length - (intOf v27).toNat)
    case atStart => exact ⟨0, Nat.zero_le _, rfl, HO0, HB0⟩
    case round =>
      clear HO0 HB0
      rename_i wr
      obtain ⟨k, hk, rfl, HO, HB⟩ := hrel
      have hl := HL.out
      by_cases hlt : k < l.length
      · obtain ⟨ad, A', c', e, h0, h1, h2⟩ := at_slices (Kd.C_below HR.out HB.out) k hlt
        subst e
        have HF := m0_ (flat_take l k hlt)
        have HLE := m0_ (flat_le l (k + 1))
        have H2 := m0_ h2
        clear h1 h2
        obtain ⟨Ao, co, eo⟩ := Kd.R_slice HO.out
        subst eo
        go_wp2_with (first | (at_builtin; refine Kd.R_append_rows (Kd.int .i64) (w0 := w) w.heap.size rfl (.tmp 31) (.tmp 32) 22 3 (.int .i64 0) 8 rfl Try.underlying22 info3 rfl (by decide) (by omega) (.slice Ao (pre l k).length co) (pre l k) (elt l k) _ _ _ (fun _ => True) (fun _ => False) rfl rfl ?aO ?aR (fun _ _ h => h) (fun _ h => h.elim) ?aF ?aB ?aS ?aL ?_; (case aO => exact HO.out); (case aR => exact H2.out); (case aF => exact fun _ _ => trivial); (case aB => exact HB.out); (case aS => exact HB.out.size); (case aL => have h_ := congrArg List.length HF.out; rw [List.length_append] at h_; have := HLE.out; have := HN.out; omega); intro v1 w2 ho hb hg hat; rw [← HF.out] at ho; have HO2 := m0_ ho; have HB2 := m0_ hb; clear ho hb hg hat))
        go_roundw
        case rel => exact ⟨k + 1, by omega, by go_num, HO2, HB2⟩
        case measure => simp [intOf]; omega
      · obtain rfl : k = l.length := by omega
        go_wp2
        go_ret
        have ho := HO.out
        rw [show pre l l.length = l.flatten from by unfold pre; rw [List.take_length]] at ho
        exact ⟨_, rfl, ho, HB.out⟩
end Go.Proofs.Ytiplpckgmikmeaa.M
namespace Go.Proofs
open Go.Shelf
def Try.lays189_ren : Go.Shelf.Ren := ⟨fun | 189 => 102 | 125 => 112 | 257 => 111 | 128 => 125 | 129 => 126 | 294 => 116 | 295 => 117 | 296 => 118 | 297 => 119 | 298 => 120 | 299 => 121 | 216 => 122 | 300 => 123 | 301 => 124 | 328 => 128 | 329 => 129 | 330 => 130 | 331 => 131 | 332 => 132 | 215 => 115 | 343 => 134 | n => n, fun | 28 => 22 | 3 => 3 | 46 => 116 | 0 => 0 | 51 => 128 | 53 => 130 | 4 => 4 | 183 => 121 | 182 => 120 | 131 => 108 | 5 => 5 | 9 => 9 | 218 => 131 | 222 => 135 | 228 => 138 | 229 => 139 | n => n, fun | n => n⟩
theorem Try.lays189 : Go.Proofs.Lays.n189 Try.prog Try.lays189_ren := {
  mixed := by kernel_rfl
  f125 := Try.func112.trans (congrArg some (by kernel_rfl))
  f128 := Try.func125.trans (congrArg some (by kernel_rfl))
  f129 := Try.func126.trans (congrArg some (by kernel_rfl))
  f189 := Try.func102.trans (congrArg some (by kernel_rfl))
  f215 := Try.func115.trans (congrArg some (by kernel_rfl))
  f216 := Try.func122.trans (congrArg some (by kernel_rfl))
  f257 := Try.func111.trans (congrArg some (by kernel_rfl))
  f294 := Try.func116.trans (congrArg some (by kernel_rfl))
  f295 := Try.func117.trans (congrArg some (by kernel_rfl))
  f296 := Try.func118.trans (congrArg some (by kernel_rfl))
  f297 := Try.func119.trans (congrArg some (by kernel_rfl))
  f298 := Try.func120.trans (congrArg some (by kernel_rfl))
  f299 := Try.func121.trans (congrArg some (by kernel_rfl))
  f300 := Try.func123.trans (congrArg some (by kernel_rfl))
  f301 := Try.func124.trans (congrArg some (by kernel_rfl))
  f328 := Try.func128.trans (congrArg some (by kernel_rfl))
  f329 := Try.func129.trans (congrArg some (by kernel_rfl))
  f330 := Try.func130.trans (congrArg some (by kernel_rfl))
  f331 := Try.func131.trans (congrArg some (by kernel_rfl))
  f332 := Try.func132.trans (congrArg some (by kernel_rfl))
  f343 := Try.func134.trans (congrArg some (by kernel_rfl))
  t0 := Try.underlying0
  a0 := Try.isAgg0
  z0 := Try.sizeOf0
  v0 := Try.zeroValue0
  t3 := Try.underlying3
  a3 := Try.isAgg3
  z3 := Try.sizeOf3
  v3 := Try.zeroValue3
  t4 := Try.underlying4
  a4 := Try.isAgg4
  z4 := Try.sizeOf4
  v4 := Try.zeroValue4
  t5 := Try.underlying5
  a5 := Try.isAgg5
  z5 := Try.sizeOf5
  v5 := Try.zeroValue5
  t9 := Try.underlying9
  a9 := Try.isAgg9
  z9 := Try.sizeOf9
  v9 := Try.zeroValue9
  t28 := Try.underlying22
  a28 := Try.isAgg22
  z28 := Try.sizeOf22
  v28 := Try.zeroValue22
  t46 := Try.underlying116
  a46 := Try.isAgg116
  z46 := Try.sizeOf116
  v46 := Try.zeroValue116
  t51 := Try.underlying128
  a51 := Try.isAgg128
  z51 := Try.sizeOf128
  v51 := Try.zeroValue128
  t53 := Try.underlying130
  a53 := Try.isAgg130
  z53 := Try.sizeOf130
  v53 := Try.zeroValue130
  t131 := Try.underlying108
  a131 := Try.isAgg108
  z131 := Try.sizeOf108
  v131 := Try.zeroValue108
  t182 := Try.underlying120
  a182 := Try.isAgg120
  z182 := Try.sizeOf120
  v182 := Try.zeroValue120
  t183 := Try.underlying121
  a183 := Try.isAgg121
  z183 := Try.sizeOf121
  v183 := Try.zeroValue121
  t218 := Try.underlying131
  a218 := Try.isAgg131
  z218 := Try.sizeOf131
  v218 := Try.zeroValue131
  t222 := Try.underlying135
  a222 := Try.isAgg135
  z222 := Try.sizeOf135
  v222 := Try.zeroValue135
  t228 := Try.underlying138
  a228 := Try.isAgg138
  z228 := Try.sizeOf138
  v228 := Try.zeroValue138
  t229 := Try.underlying139
  a229 := Try.isAgg139
  z229 := Try.sizeOf139
  v229 := Try.zeroValue139 }
open Go.Sort Go.RowKit in
theorem Try.slices_Sort_int (blk off cap : Nat) (zs : List Int) (w : World) (hH : Holds (Value.int .i64) w blk off zs.toArray) (hblk : blk < w.heap.size) (hsz : zs.length < 4611686018427387904) :
    Calls Try.prog 102 #[.slice (some ⟨blk, off, none⟩) zs.length cap] w fun e w' =>
      e = .returned (.tuple #[]) ∧ ∃ n os, w' = grow (putRow (Value.int .i64) (Sort.ahead w n) blk off (zs.mergeSort fun x y => decide (x ≤ y)).toArray) os := Any.slices_Sort_int Try.lays189 blk off cap zs w hH hblk hsz
def Try.laysNm220_ren : Go.Shelf.Ren := ⟨fun | 20 => 103 | n => n, fun | 22 => 22 | 3 => 3 | 4 => 4 | 0 => 0 | n => n, fun | n => n⟩
theorem Try.laysNm220 : Go.Proofs.Lays2.n20 Try.prog Try.laysNm220_ren := {
  mixed := by kernel_rfl
  f20 := Try.func103.trans (congrArg some (by kernel_rfl))
  t0 := Try.underlying0
  a0 := Try.isAgg0
  z0 := Try.sizeOf0
  v0 := Try.zeroValue0
  t3 := Try.underlying3
  a3 := Try.isAgg3
  z3 := Try.sizeOf3
  v3 := Try.zeroValue3
  t4 := Try.underlying4
  a4 := Try.isAgg4
  z4 := Try.sizeOf4
  v4 := Try.zeroValue4
  t22 := Try.underlying22
  a22 := Try.isAgg22
  z22 := Try.sizeOf22
  v22 := Try.zeroValue22
  i3 := by kernel_rfl }
open Go.RowKit Go.Lib Go.Sort in
theorem Try.slices_Compact_int (blk off cap : Nat) (zs : List Int) (w : World) (hH : Holds (Value.int .i64) w blk off zs.toArray) (hsz : zs.length ≤ 9223372036854775807) (hcap : zs.length ≤ cap) :
    Calls Try.prog 103 #[.slice (some ⟨blk, off, none⟩) zs.length cap] w fun e w' => e = .returned (.slice (some ⟨blk, off, none⟩) (Lib.compact zs).length cap) ∧ ∃ q, w' = putRow (Value.int .i64) (Sort.ahead w q) blk off (Lib.compact zs ++ List.replicate (zs.length - (Lib.compact zs).length) 0).toArray := Any.slices_Compact_int Try.laysNm220 blk off cap zs w hH hsz hcap
end Go.Proofs
namespace Go.Proofs.Ytiplpckgmikmeaa.M
set_option linter.unusedVariables false
set_option linter.unusedSimpArgs false
open Go.RowKit Go.Sort Go.Proofs.YtiplpckgmikmeaaW.PrintWords Go.Proofs.YtiplpckgmikmeaaW.PrintLast Go.Proofs.YtiplpckgmikmeaaW.PrintMore

def sortI (xs : List Int) : List Int := xs.mergeSort fun x y => decide (x ≤ y)
def joinI (xs ys : List Int) : List Int := Lib.compact (sortI (xs ++ ys))
section
variable {α : Type} {enc : α → Value} {w : World} {base g cap n : Nat} {e : TypeId} {cur : Array Value} {ss ts : List α} {os : Array Obj} [Inhabited α]
theorem holds_cells (hb : w.heap[g]? = some (.cells cur e (0, 0))) (ht : cur.toList.take ss.length = ss.map enc) : Holds enc w g 0 ss.toArray := by
  intro j hj
  have hj' : j < ss.length := by simpa using hj
  refine ⟨?_, by simp [World.frozen?, hb]⟩
  have h1 : (cur.toList.take ss.length)[j]? = (ss.map enc)[j]? := by rw [ht]
  rw [List.getElem?_take_of_lt hj'] at h1
  simp only [World.cell?, hb, Nat.zero_add]
  simp only [Option.isSome_none, Bool.false_eq_true, if_false]
  rw [← Array.getElem?_toList, h1]
  simp [hj']
theorem heap_put (d : Array α) (hb : w.heap[g]? = some (.cells cur e (0, 0))) : (grow (putRow enc (Sort.ahead w n) g 0 d) os).heap[g]? = some (.cells (putCells enc 0 d cur) e (0, 0)) := by
  have hg : g < w.heap.size := (Array.getElem?_eq_some_iff.1 hb).1
  rw [heap_grow_old _ _ (by simpa using hg)]
  simp [putRow, mapBlock, Sort.ahead, Array.getElem?_modify, hb, onCells]
theorem grown_put (d : Array α) : w.grownBy (grow (putRow enc (Sort.ahead w n) g 0 d) os) (some g) := by
  refine ⟨rfl, rfl, rfl, by simp, fun k hk hne => ?_⟩
  rw [heap_grow_old _ _ (by simpa using hk)]
  have : g ≠ k := fun e => hne (by rw [e])
  simp [putRow, mapBlock, Sort.ahead, Array.getElem?_modify, this]
theorem take_put (h : ts.length ≤ cur.size) : (putCells enc 0 ts.toArray cur).toList.take ts.length = ts.map enc := by
  apply List.ext_getElem?
  intro j
  by_cases hj : j < ts.length
  · rw [List.getElem?_take_of_lt hj, Array.getElem?_toList]
    simp [putCells, hj, show j < cur.size by omega]
  · rw [List.getElem?_take_eq_none (by omega), List.getElem?_eq_none (by simp; omega)]
theorem own_put (hl : ts.length = ss.length) (hbase : base ≤ g) (hb : w.heap[g]? = some (.cells cur e (0, 0))) (h1 : ss.length ≤ cap) (h2 : cap ≤ maxLen) (h3 : cur.size = cap * 1) :
    (grow (putRow enc (Sort.ahead w n) g 0 ts.toArray) os).ownsRow base e 1 (.slice (some ⟨g, 0, none⟩) ss.length cap) ss.length (ts.map enc) :=
  ⟨by simp [hl], .inr ⟨g, cap, _, rfl, hbase, heap_put _ hb, h1, h2, by simp [putCells, h3], by rw [Nat.mul_one, ← hl]; exact take_put (by omega)⟩⟩
end
theorem row_block {w : World} {base : Nat} {ok : Nat → Prop} {v : Value} {xs : List Int} (h : Kd.R (Kd.int .i64) 3 w base ok v xs) (hp : 0 < xs.length) :
    ∃ g cap cur, v = .slice (some ⟨g, 0, none⟩) xs.length cap ∧ base ≤ g ∧ w.heap[g]? = some (.cells cur 3 (0, 0)) ∧ xs.length ≤ cap ∧ cap ≤ maxLen ∧ cur.size = cap * 1 ∧ cur.toList.take xs.length = xs.map (Value.int .i64) := by
  have ho := Kd.own_of_R (enc := Value.int .i64) (h1 := fun _ => rfl) h
  rcases ho.2 with ⟨_, h0⟩ | ⟨g, cap, cur, rfl, hb, hh, h1, h2, h3, h4⟩
  · omega
  · rw [Nat.mul_one] at h4
    exact ⟨g, cap, cur, rfl, hb, hh, h1, h2, h3, h4⟩
theorem sort_own {w : World} {base : Nat} {ok : Nat → Prop} {v : Value} {xs : List Int} (h : Kd.R (Kd.int .i64) 3 w base ok v xs) (hp : 0 < xs.length) (hm : xs.length < 4611686018427387904) :
    Calls Try.prog 102 #[v] w fun e w' => e = .returned (.tuple #[]) ∧ Kd.R (Kd.int .i64) 3 w' base ok v (sortI xs) ∧ w.grownBy w' v.ownBlock := by
  obtain ⟨g, cap, cur, rfl, hb, hh, h1, h2, h3, h4⟩ := row_block h hp
  have hl : (sortI xs).length = xs.length := by simp [sortI]
  refine (Try.slices_Sort_int g 0 cap xs w (holds_cells hh h4) (blk_lt hh) hm).mono ?_
  rintro e w' ⟨rfl, n, os, rfl⟩
  refine ⟨rfl, ?_, grown_put _⟩
  have ho := own_put (n := n) (os := os) (enc := Value.int .i64) hl hb hh h1 h2 h3
  refine Kd.R_of_own (enc := Value.int .i64) (h1 := fun _ => rfl) ?_ h.1
  rw [hl]
  exact ho
theorem compact_le (xs : List Int) : (Lib.compact xs).length ≤ xs.length := by
  unfold Lib.compact Lib.compactUpTo
  rw [List.length_map]
  exact Nat.le_trans (List.length_filter_le _ _) (by simp)
theorem joinI_le (xs ys : List Int) : (joinI xs ys).length ≤ xs.length + ys.length := by
  have := compact_le (sortI (xs ++ ys))
  unfold joinI
  simp [sortI] at this
  exact this
theorem compact_own {w : World} {base g cap m : Nat} {ok : Nat → Prop} {xs : List Int} (hm : xs.length = m) (h : Kd.R (Kd.int .i64) 3 w base ok (.slice (some ⟨g, 0, none⟩) m cap) xs) (hp : 0 < m) :
    Calls Try.prog 103 #[.slice (some ⟨g, 0, none⟩) m cap] w fun e w' => e = .returned (.slice (some ⟨g, 0, none⟩) (Lib.compact xs).length cap) ∧ Kd.R (Kd.int .i64) 3 w' base ok (.slice (some ⟨g, 0, none⟩) (Lib.compact xs).length cap) (Lib.compact xs) ∧ w.grownBy w' (some g) := by
  subst hm
  obtain ⟨g', cap', cur, he, hb, hh, h1, h2, h3, h4⟩ := row_block h hp
  injection he with e1 _ e3
  injection e1 with e1
  injection e1 with e1
  subst e1; subst e3
  have hc := compact_le xs
  have hl : (Lib.compact xs ++ List.replicate (xs.length - (Lib.compact xs).length) 0).length = xs.length := by rw [List.length_append, List.length_replicate]; omega
  refine (Try.slices_Compact_int g 0 cap xs w (holds_cells hh h4) (by unfold maxLen at h2; omega) h1).mono ?_
  rintro e w' ⟨rfl, n, rfl⟩
  rw [← grow_empty (putRow _ _ _ _ _)]
  refine ⟨rfl, ?_, grown_put _⟩
  have ho := own_put (n := n) (os := #[]) (enc := Value.int .i64) hl hb hh h1 h2 h3
  have hr : Kd.R (Kd.int .i64) 3 (grow (putRow (Value.int .i64) (Sort.ahead w n) g 0 (Lib.compact xs ++ List.replicate (xs.length - (Lib.compact xs).length) 0).toArray) #[]) base ok (.slice (some ⟨g, 0, none⟩) xs.length cap) (Lib.compact xs ++ List.replicate (xs.length - (Lib.compact xs).length) 0) := by
    refine Kd.R_of_own (enc := Value.int .i64) (h1 := fun _ => rfl) ?_ h.1
    rw [hl]
    exact ho
  have ht := Kd.R_take hr (m := (Lib.compact xs).length) (by rw [hl]; exact hc)
  rwa [List.take_left] at ht
theorem compact_row {w : World} {base : Nat} {ok : Nat → Prop} {v : Value} {xs : List Int} (h : Kd.R (Kd.int .i64) 3 w base ok v xs) (hp : 0 < xs.length) :
    Calls Try.prog 103 #[v] w fun e w' => ∃ u, e = .returned u ∧ Kd.R (Kd.int .i64) 3 w' base ok u (Lib.compact xs) ∧ w.grownBy w' v.ownBlock := by
  obtain ⟨g, cap, cur, rfl, _⟩ := row_block h hp
  refine (compact_own rfl h hp).mono ?_
  rintro e w' ⟨rfl, ho, hg⟩
  exact ⟨_, rfl, ho, hg⟩
end Go.Proofs.Ytiplpckgmikmeaa.M
namespace Go.Proofs.Ytiplpckgmikmeaa.M
set_option linter.unusedVariables false
set_option linter.unusedSimpArgs false
open Go.RowKit Go.Proofs.YtiplpckgmikmeaaW.PrintWords Go.Proofs.YtiplpckgmikmeaaW.PrintLast Go.Proofs.YtiplpckgmikmeaaW.PrintMore
attribute [local go_sem] max2_int min2_int max_two min_two

theorem lit2_C {W : World} {A0 A1 : Option Addr} {c0 c1 : Nat} {l0 l1 : List Int} (h0 : (Kd.int .i64).C W A0 l0.length l0) (k0 : l0.length ≤ c0) (h1 : (Kd.int .i64).C W A1 l1.length l1) (k1 : l1.length ≤ c1) (t : Nat) :
    (Kd.slice 3 (Kd.int .i64)).C (W.alloc (.cells #[.slice A0 l0.length c0, .slice A1 l1.length c1] t)) (some ⟨W.heap.size, 0, none⟩) [l0, l1].length [l0, l1] := by
  refine ⟨rfl, by simp, fun _ => ⟨_, rfl, fun j p hj => ?_⟩⟩
  rcases j with _ | _ | j
  · obtain rfl : l0 = p := by simpa using hj
    refine ⟨[.slice A0 l0.length c0], rfl, ⟨A0, c0, rfl, k0, Kd.C_alloc h0 _⟩, fun i u hu => ?_⟩
    rcases i with _ | i
    · obtain rfl : Value.slice A0 l0.length c0 = u := by simpa using hu
      simp [Addr.add]
    · simp at hu
  · obtain rfl : l1 = p := by simpa using hj
    refine ⟨[.slice A1 l1.length c1], rfl, ⟨A1, c1, rfl, k1, Kd.C_alloc h1 _⟩, fun i u hu => ?_⟩
    rcases i with _ | i
    · obtain rfl : Value.slice A1 l1.length c1 = u := by simpa using hu
      simp [Addr.add, Kd.slice]
    · simp at hu
  · simp at hj

theorem concat_two {W : World} {A0 A1 : Option Addr} {c0 c1 : Nat} {l0 l1 : List Int} (h0 : (Kd.int .i64).C W A0 l0.length l0) (k0 : l0.length ≤ c0) (h1 : (Kd.int .i64).C W A1 l1.length l1) (k1 : l1.length ≤ c1) (hn : l0.length + l1.length < 17592186044416) :
    Calls Try.prog 101 #[.slice (some ⟨W.heap.size, 0, none⟩) 2 2] (W.alloc (.cells #[.slice A0 l0.length c0, .slice A1 l1.length c1] 22)) fun e w' => ∃ v, e = .returned v ∧ Kd.R (Kd.int .i64) 3 w' W.heap.size (fun _ => True) v (l0 ++ l1) ∧ Below W.heap.size W w' := by
  refine (concat_calls [l0, l1] _ 2 _ (lit2_C h0 k0 h1 k1 _) (Nat.le_refl _) (by simpa using hn)).mono ?_
  rintro e w' ⟨v, rfl, ho, hb⟩
  refine ⟨v, rfl, Kd.R_lower (by simpa using ho) (by simp), below_step (below_alloc (Below.refl _ _) _) hb⟩

set_option maxHeartbeats 2000000 in
set_option maxRecDepth 100000 in
theorem join_walk (a0_0 : Int) (a0_1 : Int) (A0_2 : Option Addr) (c0_2 : Nat) (l0_2 : List Int) (a1_0 : Int) (a1_1 : Int) (A1_2 : Option Addr) (c1_2 : Nat) (l1_2 : List Int) (w : World) (hr0_2 : Kd.C (Kd.int .i64) w A0_2 l0_2.length l0_2) (hc0_2 : l0_2.length ≤ c0_2) (hr1_2 : Kd.C (Kd.int .i64) w A1_2 l1_2.length l1_2) (hc1_2 : l1_2.length ≤ c1_2) (hs : 0 < l0_2.length + l1_2.length ∧ l0_2.length + l1_2.length < 17592186044416) :
    Calls Try.prog 79 #[.agg #[.int .i64 a0_0, .int .i64 a0_1, .slice A0_2 l0_2.length c0_2], .agg #[.int .i64 a1_0, .int .i64 a1_1, .slice A1_2 l1_2.length c1_2]] w fun e w' => ∃ v2_ : Value, e = .returned (.agg #[.int .i64 (mn a0_0 a1_0), .int .i64 (mx a0_1 a1_1), v2_]) ∧ Kd.R (Kd.int .i64) 3 w' w.heap.size (fun _ => True) v2_ (joinI l0_2 l1_2) ∧ Below w.heap.size w w' := by
  have HP := m0_ (show 0 < (l0_2 ++ l1_2).length by rw [List.length_append]; exact hs.1)
  have HS := m0_ hs.2
  have HP2 := m0_ (show 0 < (sortI (l0_2 ++ l1_2)).length by unfold sortI; rw [List.length_mergeSort, List.length_append]; exact hs.1)
  have HL2 := m0_ (show (l0_2 ++ l1_2).length < 4611686018427387904 by rw [List.length_append]; omega)
  have hu := Try.underlying27
  have HR0_2 := m0_ hr0_2
  have HC0_2 := m0_ hc0_2
  have HR1_2 := m0_ hr1_2
  have HC1_2 := m0_ hc1_2
  clear hr0_2 hc0_2 hr1_2 hc1_2 hs
  have HB := m0_ (Below.refl w.heap.size w)
  go_enter Try.func79, Try.ntmps79
  go_wp2_with (first | ((with_reducible refine gate_dst (N := 2) rfl ?_); refine box_event ?hg (N := 2) ?hd (cs := #[.int .i64 a0_0, .int .i64 a0_1, .slice A0_2 l0_2.length c0_2]) (t := 27) ?hr ?_; (case hd => rfl); (case hg => rfl); (case hr => first | (go_simp; done) | (go_simp; rfl)); intro gb1 hg wb1 hbox hb; have n0_ := m0_ (below_step HB.out hb); have n1_ := m0_ (hbox); have n2_ := m0_ ((by rw [hg]; exact below_size HB.out : w.heap.size ≤ gb1)); clear HB; have HB := n0_; have BK1 := n1_; have GE1 := n2_; clear n0_ n1_ n2_; clear hb hbox hg) | ((with_reducible refine gate_dst (N := 3) rfl ?_); refine box_event ?hg (N := 3) ?hd (cs := #[.int .i64 a1_0, .int .i64 a1_1, .slice A1_2 l1_2.length c1_2]) (t := 27) ?hr ?_; (case hd => rfl); (case hg => rfl); (case hr => first | (go_simp; done) | (go_simp; rfl)); intro gb2 hg wb2 hbox hb; have n0_ := m0_ (blk_below BK1.out hb); have n1_ := m0_ (below_step HB.out hb); have n2_ := m0_ (hbox); have n3_ := m0_ ((by rw [hg]; exact below_size HB.out : w.heap.size ≤ gb2)); have n4_ := m0_ ((by rw [hg]; exact Nat.ne_of_lt (blk_lt BK1.out) : gb1 ≠ gb2)); have n5_ := m0_ ((by rw [hg]; exact Nat.ne_of_gt (blk_lt BK1.out) : gb2 ≠ gb1)); clear BK1; clear HB; have BK1 := n0_; have HB := n1_; have BK2 := n2_; have GE2 := n3_; have NB1_2 := n4_; have NB2_1 := n5_; clear n0_ n1_ n2_ n3_ n4_ n5_; clear hb hbox hg) | ((with_reducible refine gate_dst (N := 4) rfl ?_); refine box_event ?hg (N := 4) ?hd (cs := #[.int .i64 0, .int .i64 0, .slice none 0 0]) (t := 27) ?hr ?_; (case hd => rfl); (case hg => rfl); (case hr => first | (go_simp; done) | (go_simp; rfl)); intro gb3 hg wb3 hbox hb; have n0_ := m0_ (blk_below BK1.out hb); have n1_ := m0_ (blk_below BK2.out hb); have n2_ := m0_ (below_step HB.out hb); have n3_ := m0_ (hbox); have n4_ := m0_ ((by rw [hg]; exact below_size HB.out : w.heap.size ≤ gb3)); have n5_ := m0_ ((by rw [hg]; exact Nat.ne_of_lt (blk_lt BK1.out) : gb1 ≠ gb3)); have n6_ := m0_ ((by rw [hg]; exact Nat.ne_of_gt (blk_lt BK1.out) : gb3 ≠ gb1)); have n7_ := m0_ ((by rw [hg]; exact Nat.ne_of_lt (blk_lt BK2.out) : gb2 ≠ gb3)); have n8_ := m0_ ((by rw [hg]; exact Nat.ne_of_gt (blk_lt BK2.out) : gb3 ≠ gb2)); clear BK1; clear BK2; clear HB; have BK1 := n0_; have BK2 := n1_; have HB := n2_; have BK3 := n3_; have GE3 := n4_; have NB1_3 := n5_; have NB3_1 := n6_; have NB2_3 := n7_; have NB3_2 := n8_; clear n0_ n1_ n2_ n3_ n4_ n5_ n6_ n7_ n8_; clear hb hbox hg; have hz1 : wb3.cell? ⟨gb1, 2, none⟩ = some (.slice A0_2 l0_2.length c0_2) := (blk_cell BK1.out 2).trans rfl; have hz2 : wb3.cell? ⟨gb2, 2, none⟩ = some (.slice A1_2 l1_2.length c1_2) := (blk_cell BK2.out 2).trans rfl) | (go_at_call 101; fail))
  clear hz1 hz2
  with_reducible refine (concat_two (Kd.C_below HR0_2.out HB.out) HC0_2.out (Kd.C_below HR1_2.out HB.out) HC1_2.out HS.out).mono ?_
  rintro e w5 ⟨u5, rfl, ho, hb⟩
  have n0_ := m0_ (blk_below BK1.out hb)
  have n1_ := m0_ (blk_below BK2.out hb)
  have n2_ := m0_ (blk_below BK3.out hb)
  have n3_ := m0_ (Kd.R_lower ho HB.out.size)
  have n4_ := m0_ (below_step HB.out hb)
  clear BK1
  clear BK2
  clear BK3
  clear HB
  have BK1 := n0_
  have BK2 := n1_
  have BK3 := n2_
  have HO := n3_
  have HB := n4_
  clear n0_ n1_ n2_ n3_ n4_
  clear ho hb
  go_wp2_with (go_at_call 102; fail)
  refine (sort_own HO.out HP.out HL2.out).mono ?_
  rintro e w6 ⟨rfl, ho, hg⟩
  have n0_ := m0_ (blk_grown BK1.out hg (Kd.R_ne HO.out BK1.out (by decide)))
  have n1_ := m0_ (blk_grown BK2.out hg (Kd.R_ne HO.out BK2.out (by decide)))
  have n2_ := m0_ (blk_grown BK3.out hg (Kd.R_ne HO.out BK3.out (by decide)))
  have n3_ := m0_ (HB.out.grown hg HB.out.size (fun j hj => own_base (Kd.own_of_R (enc := Value.int .i64) (h1 := fun _ => rfl) HO.out) j hj))
  have n4_ := m0_ (ho)
  clear BK1
  clear BK2
  clear BK3
  clear HB
  clear HO
  have BK1 := n0_
  have BK2 := n1_
  have BK3 := n2_
  have HB := n3_
  have HO := n4_
  clear n0_ n1_ n2_ n3_ n4_
  clear ho hg
  go_wp2
  have n0_ := m0_ (blk_drew BK1.out)
  have n1_ := m0_ (blk_drew BK2.out)
  have n2_ := m0_ (blk_drew BK3.out)
  have n3_ := m0_ (Kd.R_drew HO.out)
  have n4_ := m0_ (below_drew1 HB.out)
  clear BK1
  clear BK2
  clear BK3
  clear HO
  clear HB
  have BK1 := n0_
  have BK2 := n1_
  have BK3 := n2_
  have HO := n3_
  have HB := n4_
  clear n0_ n1_ n2_ n3_ n4_
  refine start_ (n := 15) (S := fun w' => w'.cell? ⟨gb1, 0, none⟩ = some (.int .i64 a0_0) ∧ w'.cell? ⟨gb2, 0, none⟩ = some (.int .i64 a1_0) ∧ w'.cell? ⟨gb1, 1, none⟩ = some (.int .i64 a0_1) ∧ w'.cell? ⟨gb2, 1, none⟩ = some (.int .i64 a1_1)) (ds := []) #[false, false, false, false, false, false, false, false, false, false, false, false, false, false, false] (by kernel_rfl) rfl rfl ⟨(blk_cell BK1.out 0).trans rfl, (blk_cell BK2.out 0).trans rfl, (blk_cell BK1.out 1).trans rfl, (blk_cell BK2.out 1).trans rfl⟩ (fun hHeld => ?_)
  refine pv_ 0 14 #[true, false, false, false, false, false, false, false, false, false, false, false, false, false, false] (by kernel_rfl) ?_
  refine pv_ 2 16 #[true, false, true, false, false, false, false, false, false, false, false, false, false, false, false] (by kernel_rfl) ?_
  refine pv_ 5 19 #[true, false, true, false, false, true, false, false, false, false, false, false, false, false, false] (by kernel_rfl) ?_
  refine pv_ 7 21 #[true, false, true, false, false, true, false, true, false, false, false, false, false, false, false] (by kernel_rfl) ?_
  refine pv_ 10 24 #[true, false, true, false, false, true, false, true, false, false, true, false, false, false, false] (by kernel_rfl) ?_
  refine take_ (i := 1) (N := some 15) (v := ?_) (a' := ?_) #[true, true, true, false, false, true, false, true, false, false, true, false, false, false, false] rfl rfl (by kernel_rfl) (fun _ _ _ h => h) (Or.inl ⟨by rfl, ?_⟩) hHeld ?_ ?_
  rotate_left
  · rintro w' ⟨s0, s1, s2, s3⟩
    go_simp
    with_reducible rfl
  rotate_left
  · simp only [Act.put, List.setIfInBounds_toArray, List.set_cons_zero, List.set_cons_succ, i64_w, i32_w]
    rfl
  refine take_ (i := 3) (N := some 17) (v := ?_) (a' := ?_) #[true, true, true, true, false, true, false, true, false, false, true, false, false, false, false] rfl rfl (by kernel_rfl) (fun _ _ _ h => h) (Or.inl ⟨by rfl, ?_⟩) hHeld ?_ ?_
  rotate_left
  · rintro w' ⟨s0, s1, s2, s3⟩
    go_simp
    with_reducible rfl
  rotate_left
  · simp only [Act.put, List.setIfInBounds_toArray, List.set_cons_zero, List.set_cons_succ, i64_w, i32_w]
    rfl
  refine pv_ 4 18 #[true, true, true, true, true, true, false, true, false, false, true, false, false, false, false] (by kernel_rfl) ?_
  refine take_ (i := 6) (N := some 20) (v := ?_) (a' := ?_) #[true, true, true, true, true, true, true, true, false, false, true, false, false, false, false] rfl rfl (by kernel_rfl) (fun _ _ _ h => h) (Or.inl ⟨by rfl, ?_⟩) hHeld ?_ ?_
  rotate_left
  · rintro w' ⟨s0, s1, s2, s3⟩
    go_simp
    with_reducible rfl
  rotate_left
  · simp only [Act.put, List.setIfInBounds_toArray, List.set_cons_zero, List.set_cons_succ, i64_w, i32_w]
    rfl
  refine take_ (i := 8) (N := some 22) (v := ?_) (a' := ?_) #[true, true, true, true, true, true, true, true, true, false, true, false, false, false, false] rfl rfl (by kernel_rfl) (fun _ _ _ h => h) (Or.inl ⟨by rfl, ?_⟩) hHeld ?_ ?_
  rotate_left
  · rintro w' ⟨s0, s1, s2, s3⟩
    go_simp
    with_reducible rfl
  rotate_left
  · simp only [Act.put, List.setIfInBounds_toArray, List.set_cons_zero, List.set_cons_succ, i64_w, i32_w]
    rfl
  refine pv_ 9 23 #[true, true, true, true, true, true, true, true, true, true, true, false, false, false, false] (by kernel_rfl) ?_
  refine one_ (i := 11) (N := some 25) #[true, true, true, true, true, true, true, true, true, true, true, true, false, false, false] rfl rfl (by kernel_rfl) (by decide) (fun K hK => ?_)
  refine goes_ Try.func103 (by kernel_rfl) rfl #[u5] (by rfl) rfl rfl (by simp only [List.map_toArray, List.map_cons, List.map_nil]; rfl) ?_
  with_reducible refine (compact_row HO.out HP2.out).mono ?_
  rintro e w7 ⟨u7, rfl, ho, hg⟩
  refine ⟨_, rfl, ?_⟩
  have n0_ := m0_ (blk_grown BK1.out hg (Kd.R_ne HO.out BK1.out (by decide))); have n1_ := m0_ (blk_grown BK2.out hg (Kd.R_ne HO.out BK2.out (by decide))); have n2_ := m0_ (blk_grown BK3.out hg (Kd.R_ne HO.out BK3.out (by decide))); have n3_ := m0_ (HB.out.grown hg HB.out.size (fun j hj => own_base (Kd.own_of_R (enc := Value.int .i64) (h1 := fun _ => rfl) HO.out) j hj)); have n4_ := m0_ (ho); clear BK1; clear BK2; clear BK3; clear HB; clear HO; have BK1 := n0_; have BK2 := n1_; have BK3 := n2_; have HB := n3_; have HO := n4_; clear n0_ n1_ n2_ n3_ n4_
  clear ho hg
  obtain ⟨A7, c7, e7, hl7, hc7⟩ := Kd.R_reads HO.out
  subst e7
  have HC7 := m0_ hc7
  clear hl7 hc7
  refine hK.out _ _ ⟨(blk_cell BK1.out 0).trans rfl, (blk_cell BK2.out 0).trans rfl, (blk_cell BK1.out 1).trans rfl, (blk_cell BK2.out 1).trans rfl⟩ (fun hHeld => ?_)
  clear hK K
  refine norm_ (a' := ?_) ?_ ?_
  rotate_left
  · show Act.put _ (some 25) _ = _
    simp only [Act.put, List.setIfInBounds_toArray, List.set_cons_zero, List.set_cons_succ, i64_w, i32_w]
    rfl
  refine one_ (i := 12) (N := some 26) #[true, true, true, true, true, true, true, true, true, true, true, true, true, false, false] rfl rfl (by kernel_rfl) (by decide) (fun K hK => ?_)
  refine Kd.R_append_rows_step (Kd.int .i64) (w0 := w) w.heap.size (by rfl) (.const (.slice none 0 0)) (.tmp 25) 22 3 (.int .i64 0) 8 rfl Try.underlying22 info3 rfl (by decide) (by omega) (.slice none 0 0) [] (joinI l0_2 l1_2) _ _ _ (fun _ => True) (fun _ => False) rfl rfl ?aO ?aR (fun _ _ h => h) (fun _ h => h.elim) ?aF ?aB ?aS ?aL ?_
  (case aO => exact Kd.R_nil _ _ _ _ _)
  (case aR => exact HC7.out)
  (case aF => exact fun _ _ => trivial)
  (case aB => exact HB.out)
  (case aS => exact HB.out.size)
  (case aL => have h_ := joinI_le l0_2 l1_2; unfold joinI at h_; have := HS.out; simp only [List.length_nil]; omega)
  intro v8 w8 ho hb hg hat
  rw [List.nil_append] at ho
  have n0_ := m0_ (blk_grown BK1.out hg (by simp [Value.ownBlock])); have n1_ := m0_ (blk_grown BK2.out hg (by simp [Value.ownBlock])); have n2_ := m0_ (blk_grown BK3.out hg (by simp [Value.ownBlock])); have n3_ := m0_ (hb); have n4_ := m0_ (ho); clear BK1; clear BK2; clear BK3; clear HB; clear HO; have BK1 := n0_; have BK2 := n1_; have BK3 := n2_; have HB := n3_; have HO := n4_; clear n0_ n1_ n2_ n3_ n4_
  clear ho hb hg hat
  obtain ⟨Ao8, co8, eo8⟩ := Kd.R_slice HO.out
  subst eo8
  refine hK.out _ _ ⟨(blk_cell BK1.out 0).trans rfl, (blk_cell BK2.out 0).trans rfl, (blk_cell BK1.out 1).trans rfl, (blk_cell BK2.out 1).trans rfl⟩ (fun hHeld => ?_)
  clear hK K
  refine norm_ (a' := ?_) ?_ ?_
  rotate_left
  · show Act.put _ (some 26) _ = _
    simp only [Act.put, List.setIfInBounds_toArray, List.set_cons_zero, List.set_cons_succ, i64_w, i32_w]
    rfl
  refine pv_ 13 27 #[true, true, true, true, true, true, true, true, true, true, true, true, true, true, false] (by kernel_rfl) ?_
  refine one_ (i := 14) (N := none) #[true, true, true, true, true, true, true, true, true, true, true, true, true, true, true] rfl rfl (by kernel_rfl) (by decide) (fun K hK => ?_)
  have hs0 : w8.cell? ⟨gb3, 0, none⟩ = some (.int .i64 0) := (blk_cell BK3.out 0).trans rfl
  have hf0 := blk_frozen BK3.out 0
  have hs1 : w8.cell? ⟨gb3, 1, none⟩ = some (.int .i64 0) := (blk_cell BK3.out 1).trans rfl
  have hf1 := blk_frozen BK3.out 1
  have hs2 : w8.cell? ⟨gb3, 2, none⟩ = some (.slice none 0 0) := (blk_cell BK3.out 2).trans rfl
  have hf2 := blk_frozen BK3.out 2
  have hn1 := NB1_3.out
  have hn2 := NB3_1.out
  have hn3 := NB2_3.out
  have hn4 := NB3_2.out
  refine skip_ (w1 := ?_) (by rfl) rfl ?_ ?_
  rotate_left
  · go_simp
    rfl
  refine hK.out _ _ ⟨((cell_far (p := ⟨gb3, _, none⟩) NB1_3.out _).trans ((cell_far (p := ⟨gb3, _, none⟩) NB1_3.out _).trans ((cell_far (p := ⟨gb3, _, none⟩) NB1_3.out _).trans (hHeld.1)))), ((cell_far (p := ⟨gb3, _, none⟩) NB2_3.out _).trans ((cell_far (p := ⟨gb3, _, none⟩) NB2_3.out _).trans ((cell_far (p := ⟨gb3, _, none⟩) NB2_3.out _).trans (hHeld.2.1)))), ((cell_far (p := ⟨gb3, _, none⟩) NB1_3.out _).trans ((cell_far (p := ⟨gb3, _, none⟩) NB1_3.out _).trans ((cell_far (p := ⟨gb3, _, none⟩) NB1_3.out _).trans (hHeld.2.2.1)))), ((cell_far (p := ⟨gb3, _, none⟩) NB2_3.out _).trans ((cell_far (p := ⟨gb3, _, none⟩) NB2_3.out _).trans ((cell_far (p := ⟨gb3, _, none⟩) NB2_3.out _).trans (hHeld.2.2.2))))⟩ (fun hHeld => ?_)
  clear hK K
  refine done_ (by kernel_rfl) ?_

  rw [show (if a1_0 < a0_0 then a1_0 else a0_0) = mn a0_0 a1_0 from rfl, show (if a0_1 < a1_1 then a1_1 else a0_1) = mx a0_1 a1_1 from rfl]
  go_wp2
  refine bodyPost_ret (results_cell_row rfl _ _ gb3 27 #[.int .i64 (mn a0_0 a1_0), .int .i64 (mx a0_1 a1_1), .slice Ao8 (joinI l0_2 l1_2).length co8] (0, 0) _ rfl (by refine blk_put (cs := #[.int .i64 (mn a0_0 a1_0), .int .i64 (mx a0_1 a1_1), .slice none 0 0]) ?_ 2 _ rfl; refine blk_put (cs := #[.int .i64 (mn a0_0 a1_0), .int .i64 0, .slice none 0 0]) ?_ 1 _ rfl; refine blk_put (cs := #[.int .i64 0, .int .i64 0, .slice none 0 0]) ?_ 0 _ rfl; exact BK3.out) Try.underlying27 rfl (by kernel_rfl)) rfl ?_
  exact ⟨_, by first | rfl | (simp [errW_none, errW_some] <;> rfl), Kd.R_mono (Kd.R_far (p := ⟨gb3, 2, none⟩) (Kd.R_far (p := ⟨gb3, 1, none⟩) (Kd.R_far (p := ⟨gb3, 0, none⟩) (Kd.R_types HO.out BK3.out (by decide)) (fun _ hk => hk.2) (.int .i64 (mn a0_0 a1_0))) (fun _ hk => hk.2) (.int .i64 (mx a0_1 a1_1))) (fun _ hk => hk.2) (.slice Ao8 (joinI l0_2 l1_2).length co8)) (fun _ hk => trivial), by repeat (first | (with_reducible first | exact HB.out | refine below_set ?_ GE3.out) | exact HB.out)⟩
end Go.Proofs.Ytiplpckgmikmeaa.M
namespace Go.Proofs.Ytiplpckgmikmeaa.M
open Go.RowKit Go.Proofs.YtiplpckgmikmeaaW.PrintWords Go.Proofs.YtiplpckgmikmeaaW.PrintLast Go.Proofs.YtiplpckgmikmeaaW.PrintMore
attribute [local go_sem] max2_int min2_int max_two min_two max_three min_three max_four min_four
set_option linter.unusedVariables false
set_option linter.unusedSimpArgs false

def impl_join.f (a0_0 : Int) (a0_1 : Int) (l0_2 : List Int) (a1_0 : Int) (a1_1 : Int) (l1_2 : List Int) : Option (Int × Int × List Int) := if 0 < l0_2.length + l1_2.length ∧ l0_2.length + l1_2.length < 17592186044416 then some (mn a0_0 a1_0, mx a0_1 a1_1, joinI l0_2 l1_2) else none
theorem impl_join.calls (a0_0 : Int) (a0_1 : Int) (A0_2 : Option Addr) (c0_2 : Nat) (l0_2 : List Int) (a1_0 : Int) (a1_1 : Int) (A1_2 : Option Addr) (c1_2 : Nat) (l1_2 : List Int) (r1 : Int) (r2 : Int) (r3 : List Int) (w : World) (hr0_2 : Kd.C (Kd.int .i64) w A0_2 l0_2.length l0_2) (hc0_2 : l0_2.length ≤ c0_2) (hr1_2 : Kd.C (Kd.int .i64) w A1_2 l1_2.length l1_2) (hc1_2 : l1_2.length ≤ c1_2) (h : impl_join.f a0_0 a0_1 l0_2 a1_0 a1_1 l1_2 = some (r1, r2, r3)) :
  Calls Try.prog 79 #[.agg #[.int .i64 a0_0, .int .i64 a0_1, .slice A0_2 l0_2.length c0_2], .agg #[.int .i64 a1_0, .int .i64 a1_1, .slice A1_2 l1_2.length c1_2]] w fun e w' => ∃ v2_ : Value, e = .returned (.agg #[.int .i64 r1, .int .i64 r2, v2_]) ∧ Kd.R (Kd.int .i64) 3 w' w.heap.size (fun _ => True) v2_ r3 ∧ Below w.heap.size w w' := by
 unfold impl_join.f at h
 by_cases hs : 0 < l0_2.length + l1_2.length ∧ l0_2.length + l1_2.length < 17592186044416
 ·rw [if_pos hs] at h
  simp only [Option.some.injEq, Prod.mk.injEq] at h
  obtain ⟨rfl, rfl, rfl⟩ := h
  exact join_walk a0_0 a0_1 A0_2 c0_2 l0_2 a1_0 a1_1 A1_2 c1_2 l1_2 w hr0_2 hc0_2 hr1_2 hc1_2 hs
 ·rw [if_neg hs] at h
  cases h

def impl_OccJoin.f (k : Nat) (a0_0 : Int) (a0_1 : Int) (l0_2 : List Int) (a1_0 : Int) (a1_1 : Int) (l1_2 : List Int) : Option (Int × Int × List Int) := (impl_OccOk.f k a0_0 a0_1 l0_2).bind fun t104 => (if t104 = true then ((impl_OccOk.f k a1_0 a1_1 l1_2).bind fun t105 => (if t105 = true then ((impl_join.f a0_0 a0_1 l0_2 a1_0 a1_1 l1_2).bind fun bt106 => (some (bt106.1, bt106.2.1, bt106.2.2))) else (some (0, 0, ([] : List Int))))) else (some (0, 0, ([] : List Int))))
set_option maxHeartbeats 8000000 in
set_option maxRecDepth 100000 in
theorem impl_OccJoin.calls (k : Nat) (a0_0 : Int) (a0_1 : Int) (A0_2 : Option Addr) (c0_2 : Nat) (l0_2 : List Int) (a1_0 : Int) (a1_1 : Int) (A1_2 : Option Addr) (c1_2 : Nat) (l1_2 : List Int) (r1 : Int) (r2 : Int) (r3 : List Int) (w : World) (hr0_2 : Kd.C (Kd.int .i64) w A0_2 l0_2.length l0_2) (hc0_2 : l0_2.length ≤ c0_2) (hr1_2 : Kd.C (Kd.int .i64) w A1_2 l1_2.length l1_2) (hc1_2 : l1_2.length ≤ c1_2) (h : impl_OccJoin.f k a0_0 a0_1 l0_2 a1_0 a1_1 l1_2 = some (r1, r2, r3)) :
  Calls Try.prog 49 #[.agg #[.int .i64 a0_0, .int .i64 a0_1, .slice A0_2 l0_2.length c0_2], .agg #[.int .i64 a1_0, .int .i64 a1_1, .slice A1_2 l1_2.length c1_2]] w fun e w' => ∃ v2_ : Value, e = .returned (.agg #[.int .i64 r1, .int .i64 r2, v2_]) ∧ Kd.R (Kd.int .i64) 3 w' w.heap.size (fun _ => True) v2_ r3 ∧ Below w.heap.size w w' := by
 have hu27 := Try.underlying27
 have HR0_2 := m0_ hr0_2
 have HC0_2 := m0_ hc0_2
 clear hr0_2 hc0_2
 have HR1_2 := m0_ hr1_2
 have HC1_2 := m0_ hc1_2
 clear hr1_2 hc1_2
 have HB := m0_ (Below.refl w.heap.size w)
 have H : ((impl_OccOk.f k a0_0 a0_1 l0_2).bind fun t104 => (if t104 = true then ((impl_OccOk.f k a1_0 a1_1 l1_2).bind fun t105 => (if t105 = true then ((impl_join.f a0_0 a0_1 l0_2 a1_0 a1_1 l1_2).bind fun bt106 => (some (bt106.1, bt106.2.1, bt106.2.2))) else (some (0, 0, ([] : List Int))))) else (some (0, 0, ([] : List Int))))) = some (r1, r2, r3) := h
 clear h
 replace H := Option.bind_eq_some_iff.mp H
 obtain ⟨t104, A30, H⟩ := H
 replace H : (if t104 = true then ((impl_OccOk.f k a1_0 a1_1 l1_2).bind fun t105 => (if t105 = true then ((impl_join.f a0_0 a0_1 l0_2 a1_0 a1_1 l1_2).bind fun bt106 => (some (bt106.1, bt106.2.1, bt106.2.2))) else (some (0, 0, ([] : List Int))))) else (some (0, 0, ([] : List Int)))) = some (r1, r2, r3) := H
 have A3 := m0_ A30
 clear A30
 by_cases c4 : t104 = true
 rotate_left
 ·replace c4 := Bool.eq_false_iff.mpr c4
  subst c4
  have H1 : (some (0, 0, ([] : List Int))) = some (r1, r2, r3) := by rw [if_neg (show ¬ (false = true) by decide)] at H;exact H
  clear H
  have H := H1
  clear H1
  simp only [Option.some.injEq, Prod.mk.injEq] at H
  obtain ⟨rfl, rfl, rfl⟩ := H
  go_enter Try.func49, Try.ntmps49
  go_wp2_with (first | ((with_reducible refine gate_dst (N := 2) rfl ?_);refine box_event ?hg (N := 2) ?hd (cs := #[.int .i64 a0_0, .int .i64 a0_1, .slice A0_2 l0_2.length c0_2]) (t := 27) ?hr ?_;(case hd => rfl);(case hg => rfl);(case hr => first | (go_simp;done) | (go_simp;rfl));intro gb101 hg w34 hbox hb;have BK101 := m0_ (hbox);have GW101 := m0_ ((by rw [hg];exact (below_size (by exact HB.out)) : w.heap.size ≤ gb101));have GE101 := m0_ ((by rw [hg];exact (below_size (by exact HB.out)) : w.heap.size ≤ gb101));replace HB := m0_ (below_step (by exact HB.out) hb);clear hb hbox hg) | ((with_reducible refine gate_dst (N := 3) rfl ?_);refine box_event ?hg (N := 3) ?hd (cs := #[.int .i64 a1_0, .int .i64 a1_1, .slice A1_2 l1_2.length c1_2]) (t := 27) ?hr ?_;(case hd => rfl);(case hg => rfl);(case hr => first | (go_simp;done) | (go_simp;rfl));intro gb102 hg w35 hbox hb;have BK102 := m0_ (hbox);have GW102 := m0_ ((by rw [hg];exact (below_size (by exact HB.out)) : w.heap.size ≤ gb102));have GE102 := m0_ ((by rw [hg];exact (below_size (by exact HB.out)) : w.heap.size ≤ gb102));replace HB := m0_ (below_step (by exact HB.out) hb);have NB101_102 := m0_ ((by rw [hg];exact Nat.ne_of_lt (blk_lt BK101.out) : gb101 ≠ gb102));have NB102_101 := m0_ ((by rw [hg];exact Nat.ne_of_gt (blk_lt BK101.out) : gb102 ≠ gb101));replace BK101 := m0_ (blk_below BK101.out hb);clear hb hbox hg) | ((with_reducible refine gate_dst (N := 4) rfl ?_);refine box_event ?hg (N := 4) ?hd (cs := #[.int .i64 0, .int .i64 0, .slice none 0 0]) (t := 27) ?hr ?_;(case hd => rfl);(case hg => rfl);(case hr => first | (go_simp;done) | (go_simp;rfl));intro gb103 hg w36 hbox hb;have BK103 := m0_ (hbox);have GW103 := m0_ ((by rw [hg];exact (below_size (by exact HB.out)) : w.heap.size ≤ gb103));have GE103 := m0_ ((by rw [hg];exact (below_size (by exact HB.out)) : w.heap.size ≤ gb103));replace HB := m0_ (below_step (by exact HB.out) hb);have NB101_103 := m0_ ((by rw [hg];exact Nat.ne_of_lt (blk_lt BK101.out) : gb101 ≠ gb103));have NB103_101 := m0_ ((by rw [hg];exact Nat.ne_of_gt (blk_lt BK101.out) : gb103 ≠ gb101));replace BK101 := m0_ (blk_below BK101.out hb);have NB102_103 := m0_ ((by rw [hg];exact Nat.ne_of_lt (blk_lt BK102.out) : gb102 ≠ gb103));have NB103_102 := m0_ ((by rw [hg];exact Nat.ne_of_gt (blk_lt BK102.out) : gb103 ≠ gb102));replace BK102 := m0_ (blk_below BK102.out hb);clear hb hbox hg;have hnb37 := NB101_102.out;have hnc37 := NB102_101.out;have hnb38 := NB101_103.out;have hnc38 := NB103_101.out;obtain ⟨hcz39_0, hcz39_1, hcz39_2, hfz39_0, hfz39_1, hfz39_2⟩ := bx3 BK101.out) | ((with_reducible refine gate_callee (f := 21) rfl ?_);refine goesL_ (some 6) rfl rfl Try.func21 (by kernel_rfl) rfl #[.agg #[.int .i64 a0_0, .int .i64 a0_1, .slice A0_2 l0_2.length c0_2]] rfl (by (try simp only [List.map_toArray, List.map_cons, List.map_nil]);first | done | rfl | (simp only [List.length_drop, List.length_take];rfl)) ?_;(with_reducible refine (impl_OccOk.calls k a0_0 a0_1 _ _ l0_2 false _ ?side1 ?side2 A3.out).mono ?_);(case side1 => repeat (first | exact (Kd.C_below HR0_2.out HB.out) | (with_reducible refine Kd.C_alloc ?_ _) | (with_reducible refine Kd.C_drewN ?_ _) | (with_reducible refine Kd.C_drew ?_)));(case side2 => exact HC0_2.out);rintro e w40 ⟨rfl, hb⟩;refine ⟨_, rfl, ?_⟩;replace BK101 := m0_ (blk_below BK101.out hb);replace BK102 := m0_ (blk_below BK102.out hb);replace BK103 := m0_ (blk_below BK103.out hb);replace HB := m0_ (below_step (by exact HB.out) hb);(try clear hb);(try clear hb2);(try clear hk);(try clear hi);have hnb41 := NB103_102.out;have hnc41 := NB102_103.out;obtain ⟨hcz42_0, hcz42_1, hcz42_2, hfz42_0, hfz42_1, hfz42_2⟩ := bx3 BK103.out))
  refine bodyPost_ret (results_cell_row rfl _ _ gb103 27 #[.int .i64 0, .int .i64 0, .slice none 0 0] (0, 0) _ rfl (by (with_reducible repeat (first | refine blk_drewN ?_ _ | refine blk_drew ?_ | refine blk_alloc ?_ _));refine blk_put (cs := #[.int .i64 0, .int .i64 0, .slice none 0 0]) ?_ 2 _ rfl;(with_reducible repeat (first | refine blk_drewN ?_ _ | refine blk_drew ?_ | refine blk_alloc ?_ _));refine blk_put (cs := #[.int .i64 0, .int .i64 0, .slice none 0 0]) ?_ 1 _ rfl;(with_reducible repeat (first | refine blk_drewN ?_ _ | refine blk_drew ?_ | refine blk_alloc ?_ _));refine blk_put (cs := #[.int .i64 0, .int .i64 0, .slice none 0 0]) ?_ 0 _ rfl;(with_reducible repeat (first | refine blk_drewN ?_ _ | refine blk_drew ?_ | refine blk_alloc ?_ _));exact BK103.out) Try.underlying27 rfl (by kernel_rfl)) rfl ?_
  exact ⟨_, by first | rfl | (simp [errW_none, errW_some] <;> rfl) | (simp [*, errW_none, errW_some] <;> rfl), by first | exact Kd.R_nil _ _ _ _ _ | exact Kd.N_nil _ _ _ _ _ | exact Kd.V_nil _ _ _ _ _ | exact Kd.Q_nil _ _ _ _ _ | exact Kd.S_nil _ _ _ _ _, by repeat (first | (with_reducible first | exact HB.out | apply below_alloc | apply pw_below_drewN | apply below_drew1 | refine below_set ?_ GE101.out | refine below_set ?_ GE102.out | refine below_set ?_ GE103.out) | exact HB.out)⟩
 subst c4
 have H1 : ((impl_OccOk.f k a1_0 a1_1 l1_2).bind fun t105 => (if t105 = true then ((impl_join.f a0_0 a0_1 l0_2 a1_0 a1_1 l1_2).bind fun bt106 => (some (bt106.1, bt106.2.1, bt106.2.2))) else (some (0, 0, ([] : List Int))))) = some (r1, r2, r3) := by rw [if_pos rfl] at H;exact H
 clear H
 have H := H1
 clear H1
 replace H := Option.bind_eq_some_iff.mp H
 obtain ⟨t105, A50, H⟩ := H
 replace H : (if t105 = true then ((impl_join.f a0_0 a0_1 l0_2 a1_0 a1_1 l1_2).bind fun bt106 => (some (bt106.1, bt106.2.1, bt106.2.2))) else (some (0, 0, ([] : List Int)))) = some (r1, r2, r3) := H
 have A5 := m0_ A50
 clear A50
 by_cases c6 : t105 = true
 rotate_left
 ·replace c6 := Bool.eq_false_iff.mpr c6
  subst c6
  have H1 : (some (0, 0, ([] : List Int))) = some (r1, r2, r3) := by rw [if_neg (show ¬ (false = true) by decide)] at H;exact H
  clear H
  have H := H1
  clear H1
  simp only [Option.some.injEq, Prod.mk.injEq] at H
  obtain ⟨rfl, rfl, rfl⟩ := H
  go_enter Try.func49, Try.ntmps49
  go_wp2_with (first | ((with_reducible refine gate_dst (N := 2) rfl ?_);refine box_event ?hg (N := 2) ?hd (cs := #[.int .i64 a0_0, .int .i64 a0_1, .slice A0_2 l0_2.length c0_2]) (t := 27) ?hr ?_;(case hd => rfl);(case hg => rfl);(case hr => first | (go_simp;done) | (go_simp;rfl));intro gb101 hg w23 hbox hb;have BK101 := m0_ (hbox);have GW101 := m0_ ((by rw [hg];exact (below_size (by exact HB.out)) : w.heap.size ≤ gb101));have GE101 := m0_ ((by rw [hg];exact (below_size (by exact HB.out)) : w.heap.size ≤ gb101));replace HB := m0_ (below_step (by exact HB.out) hb);clear hb hbox hg) | ((with_reducible refine gate_dst (N := 3) rfl ?_);refine box_event ?hg (N := 3) ?hd (cs := #[.int .i64 a1_0, .int .i64 a1_1, .slice A1_2 l1_2.length c1_2]) (t := 27) ?hr ?_;(case hd => rfl);(case hg => rfl);(case hr => first | (go_simp;done) | (go_simp;rfl));intro gb102 hg w24 hbox hb;have BK102 := m0_ (hbox);have GW102 := m0_ ((by rw [hg];exact (below_size (by exact HB.out)) : w.heap.size ≤ gb102));have GE102 := m0_ ((by rw [hg];exact (below_size (by exact HB.out)) : w.heap.size ≤ gb102));replace HB := m0_ (below_step (by exact HB.out) hb);have NB101_102 := m0_ ((by rw [hg];exact Nat.ne_of_lt (blk_lt BK101.out) : gb101 ≠ gb102));have NB102_101 := m0_ ((by rw [hg];exact Nat.ne_of_gt (blk_lt BK101.out) : gb102 ≠ gb101));replace BK101 := m0_ (blk_below BK101.out hb);clear hb hbox hg) | ((with_reducible refine gate_dst (N := 4) rfl ?_);refine box_event ?hg (N := 4) ?hd (cs := #[.int .i64 0, .int .i64 0, .slice none 0 0]) (t := 27) ?hr ?_;(case hd => rfl);(case hg => rfl);(case hr => first | (go_simp;done) | (go_simp;rfl));intro gb103 hg w25 hbox hb;have BK103 := m0_ (hbox);have GW103 := m0_ ((by rw [hg];exact (below_size (by exact HB.out)) : w.heap.size ≤ gb103));have GE103 := m0_ ((by rw [hg];exact (below_size (by exact HB.out)) : w.heap.size ≤ gb103));replace HB := m0_ (below_step (by exact HB.out) hb);have NB101_103 := m0_ ((by rw [hg];exact Nat.ne_of_lt (blk_lt BK101.out) : gb101 ≠ gb103));have NB103_101 := m0_ ((by rw [hg];exact Nat.ne_of_gt (blk_lt BK101.out) : gb103 ≠ gb101));replace BK101 := m0_ (blk_below BK101.out hb);have NB102_103 := m0_ ((by rw [hg];exact Nat.ne_of_lt (blk_lt BK102.out) : gb102 ≠ gb103));have NB103_102 := m0_ ((by rw [hg];exact Nat.ne_of_gt (blk_lt BK102.out) : gb103 ≠ gb102));replace BK102 := m0_ (blk_below BK102.out hb);clear hb hbox hg;have hnb26 := NB101_102.out;have hnc26 := NB102_101.out;have hnb27 := NB101_103.out;have hnc27 := NB103_101.out;obtain ⟨hcz28_0, hcz28_1, hcz28_2, hfz28_0, hfz28_1, hfz28_2⟩ := bx3 BK101.out) | ((with_reducible refine gate_callee (f := 21) rfl ?_);refine goesL_ (some 6) rfl rfl Try.func21 (by kernel_rfl) rfl #[.agg #[.int .i64 a0_0, .int .i64 a0_1, .slice A0_2 l0_2.length c0_2]] rfl (by (try simp only [List.map_toArray, List.map_cons, List.map_nil]);first | done | rfl | (simp only [List.length_drop, List.length_take];rfl)) ?_;(with_reducible refine (impl_OccOk.calls k a0_0 a0_1 _ _ l0_2 true _ ?side1 ?side2 A3.out).mono ?_);(case side1 => repeat (first | exact (Kd.C_below HR0_2.out HB.out) | (with_reducible refine Kd.C_alloc ?_ _) | (with_reducible refine Kd.C_drewN ?_ _) | (with_reducible refine Kd.C_drew ?_)));(case side2 => exact HC0_2.out);rintro e w29 ⟨rfl, hb⟩;refine ⟨_, rfl, ?_⟩;replace BK101 := m0_ (blk_below BK101.out hb);replace BK102 := m0_ (blk_below BK102.out hb);replace BK103 := m0_ (blk_below BK103.out hb);replace HB := m0_ (below_step (by exact HB.out) hb);(try clear hb);(try clear hb2);(try clear hk);(try clear hi);have hnb30 := NB102_103.out;have hnc30 := NB103_102.out;obtain ⟨hcz31_0, hcz31_1, hcz31_2, hfz31_0, hfz31_1, hfz31_2⟩ := bx3 BK102.out) | (go_at_call 21;(with_reducible refine (impl_OccOk.calls k a1_0 a1_1 _ _ l1_2 false _ ?side1 ?side2 A5.out).mono ?_);(case side1 => repeat (first | exact (Kd.C_below HR1_2.out HB.out) | (with_reducible refine Kd.C_alloc ?_ _) | (with_reducible refine Kd.C_drewN ?_ _) | (with_reducible refine Kd.C_drew ?_)));(case side2 => exact HC1_2.out);rintro e w32 ⟨rfl, hb⟩;replace BK101 := m0_ (blk_below BK101.out hb);replace BK102 := m0_ (blk_below BK102.out hb);replace BK103 := m0_ (blk_below BK103.out hb);replace HB := m0_ (below_step (by exact HB.out) hb);(try clear hb);(try clear hb2);(try clear hk);(try clear hi);obtain ⟨hcz33_0, hcz33_1, hcz33_2, hfz33_0, hfz33_1, hfz33_2⟩ := bx3 BK103.out))
  refine bodyPost_ret (results_cell_row rfl _ _ gb103 27 #[.int .i64 0, .int .i64 0, .slice none 0 0] (0, 0) _ rfl (by (with_reducible repeat (first | refine blk_drewN ?_ _ | refine blk_drew ?_ | refine blk_alloc ?_ _));refine blk_put (cs := #[.int .i64 0, .int .i64 0, .slice none 0 0]) ?_ 2 _ rfl;(with_reducible repeat (first | refine blk_drewN ?_ _ | refine blk_drew ?_ | refine blk_alloc ?_ _));refine blk_put (cs := #[.int .i64 0, .int .i64 0, .slice none 0 0]) ?_ 1 _ rfl;(with_reducible repeat (first | refine blk_drewN ?_ _ | refine blk_drew ?_ | refine blk_alloc ?_ _));refine blk_put (cs := #[.int .i64 0, .int .i64 0, .slice none 0 0]) ?_ 0 _ rfl;(with_reducible repeat (first | refine blk_drewN ?_ _ | refine blk_drew ?_ | refine blk_alloc ?_ _));exact BK103.out) Try.underlying27 rfl (by kernel_rfl)) rfl ?_
  exact ⟨_, by first | rfl | (simp [errW_none, errW_some] <;> rfl) | (simp [*, errW_none, errW_some] <;> rfl), by first | exact Kd.R_nil _ _ _ _ _ | exact Kd.N_nil _ _ _ _ _ | exact Kd.V_nil _ _ _ _ _ | exact Kd.Q_nil _ _ _ _ _ | exact Kd.S_nil _ _ _ _ _, by repeat (first | (with_reducible first | exact HB.out | apply below_alloc | apply pw_below_drewN | apply below_drew1 | refine below_set ?_ GE101.out | refine below_set ?_ GE102.out | refine below_set ?_ GE103.out) | exact HB.out)⟩
 subst c6
 have H1 : ((impl_join.f a0_0 a0_1 l0_2 a1_0 a1_1 l1_2).bind fun bt106 => (some (bt106.1, bt106.2.1, bt106.2.2))) = some (r1, r2, r3) := by rw [if_pos rfl] at H;exact H
 clear H
 have H := H1
 clear H1
 replace H := Option.bind_eq_some_iff.mp H
 obtain ⟨⟨t106, t107, t108⟩, A70, H⟩ := H
 replace H : (some (t106, t107, t108)) = some (r1, r2, r3) := H
 have A7 := m0_ A70
 clear A70
 simp only [Option.some.injEq, Prod.mk.injEq] at H
 obtain ⟨rfl, rfl, rfl⟩ := H
 go_enter Try.func49, Try.ntmps49
 go_wp2_with (first | ((with_reducible refine gate_dst (N := 2) rfl ?_);refine box_event ?hg (N := 2) ?hd (cs := #[.int .i64 a0_0, .int .i64 a0_1, .slice A0_2 l0_2.length c0_2]) (t := 27) ?hr ?_;(case hd => rfl);(case hg => rfl);(case hr => first | (go_simp;done) | (go_simp;rfl));intro gb101 hg w8 hbox hb;have BK101 := m0_ (hbox);have GW101 := m0_ ((by rw [hg];exact (below_size (by exact HB.out)) : w.heap.size ≤ gb101));have GE101 := m0_ ((by rw [hg];exact (below_size (by exact HB.out)) : w.heap.size ≤ gb101));replace HB := m0_ (below_step (by exact HB.out) hb);clear hb hbox hg) | ((with_reducible refine gate_dst (N := 3) rfl ?_);refine box_event ?hg (N := 3) ?hd (cs := #[.int .i64 a1_0, .int .i64 a1_1, .slice A1_2 l1_2.length c1_2]) (t := 27) ?hr ?_;(case hd => rfl);(case hg => rfl);(case hr => first | (go_simp;done) | (go_simp;rfl));intro gb102 hg w9 hbox hb;have BK102 := m0_ (hbox);have GW102 := m0_ ((by rw [hg];exact (below_size (by exact HB.out)) : w.heap.size ≤ gb102));have GE102 := m0_ ((by rw [hg];exact (below_size (by exact HB.out)) : w.heap.size ≤ gb102));replace HB := m0_ (below_step (by exact HB.out) hb);have NB101_102 := m0_ ((by rw [hg];exact Nat.ne_of_lt (blk_lt BK101.out) : gb101 ≠ gb102));have NB102_101 := m0_ ((by rw [hg];exact Nat.ne_of_gt (blk_lt BK101.out) : gb102 ≠ gb101));replace BK101 := m0_ (blk_below BK101.out hb);clear hb hbox hg) | ((with_reducible refine gate_dst (N := 4) rfl ?_);refine box_event ?hg (N := 4) ?hd (cs := #[.int .i64 0, .int .i64 0, .slice none 0 0]) (t := 27) ?hr ?_;(case hd => rfl);(case hg => rfl);(case hr => first | (go_simp;done) | (go_simp;rfl));intro gb103 hg w10 hbox hb;have BK103 := m0_ (hbox);have GW103 := m0_ ((by rw [hg];exact (below_size (by exact HB.out)) : w.heap.size ≤ gb103));have GE103 := m0_ ((by rw [hg];exact (below_size (by exact HB.out)) : w.heap.size ≤ gb103));replace HB := m0_ (below_step (by exact HB.out) hb);have NB101_103 := m0_ ((by rw [hg];exact Nat.ne_of_lt (blk_lt BK101.out) : gb101 ≠ gb103));have NB103_101 := m0_ ((by rw [hg];exact Nat.ne_of_gt (blk_lt BK101.out) : gb103 ≠ gb101));replace BK101 := m0_ (blk_below BK101.out hb);have NB102_103 := m0_ ((by rw [hg];exact Nat.ne_of_lt (blk_lt BK102.out) : gb102 ≠ gb103));have NB103_102 := m0_ ((by rw [hg];exact Nat.ne_of_gt (blk_lt BK102.out) : gb103 ≠ gb102));replace BK102 := m0_ (blk_below BK102.out hb);clear hb hbox hg;have hnb11 := NB101_102.out;have hnc11 := NB102_101.out;have hnb12 := NB101_103.out;have hnc12 := NB103_101.out;obtain ⟨hcz13_0, hcz13_1, hcz13_2, hfz13_0, hfz13_1, hfz13_2⟩ := bx3 BK101.out) | ((with_reducible refine gate_callee (f := 21) rfl ?_);refine goesL_ (some 6) rfl rfl Try.func21 (by kernel_rfl) rfl #[.agg #[.int .i64 a0_0, .int .i64 a0_1, .slice A0_2 l0_2.length c0_2]] rfl (by (try simp only [List.map_toArray, List.map_cons, List.map_nil]);first | done | rfl | (simp only [List.length_drop, List.length_take];rfl)) ?_;(with_reducible refine (impl_OccOk.calls k a0_0 a0_1 _ _ l0_2 true _ ?side1 ?side2 A3.out).mono ?_);(case side1 => repeat (first | exact (Kd.C_below HR0_2.out HB.out) | (with_reducible refine Kd.C_alloc ?_ _) | (with_reducible refine Kd.C_drewN ?_ _) | (with_reducible refine Kd.C_drew ?_)));(case side2 => exact HC0_2.out);rintro e w14 ⟨rfl, hb⟩;refine ⟨_, rfl, ?_⟩;replace BK101 := m0_ (blk_below BK101.out hb);replace BK102 := m0_ (blk_below BK102.out hb);replace BK103 := m0_ (blk_below BK103.out hb);replace HB := m0_ (below_step (by exact HB.out) hb);(try clear hb);(try clear hb2);(try clear hk);(try clear hi);have hnb15 := NB102_103.out;have hnc15 := NB103_102.out;obtain ⟨hcz16_0, hcz16_1, hcz16_2, hfz16_0, hfz16_1, hfz16_2⟩ := bx3 BK102.out) | (go_at_call 21;(with_reducible refine (impl_OccOk.calls k a1_0 a1_1 _ _ l1_2 true _ ?side1 ?side2 A5.out).mono ?_);(case side1 => repeat (first | exact (Kd.C_below HR1_2.out HB.out) | (with_reducible refine Kd.C_alloc ?_ _) | (with_reducible refine Kd.C_drewN ?_ _) | (with_reducible refine Kd.C_drew ?_)));(case side2 => exact HC1_2.out);rintro e w17 ⟨rfl, hb⟩;replace BK101 := m0_ (blk_below BK101.out hb);replace BK102 := m0_ (blk_below BK102.out hb);replace BK103 := m0_ (blk_below BK103.out hb);replace HB := m0_ (below_step (by exact HB.out) hb);(try clear hb);(try clear hb2);(try clear hk);(try clear hi);obtain ⟨hcz18_0, hcz18_1, hcz18_2, hfz18_0, hfz18_1, hfz18_2⟩ := bx3 BK101.out;obtain ⟨hcz19_0, hcz19_1, hcz19_2, hfz19_0, hfz19_1, hfz19_2⟩ := bx3 BK102.out) | ((with_reducible refine gate_callee (f := 79) rfl ?_);refine goesL_ (some 16) rfl rfl Try.func79 (by kernel_rfl) rfl #[.agg #[.int .i64 a0_0, .int .i64 a0_1, .slice A0_2 l0_2.length c0_2], .agg #[.int .i64 a1_0, .int .i64 a1_1, .slice A1_2 l1_2.length c1_2]] rfl (by (try simp only [List.map_toArray, List.map_cons, List.map_nil]);first | done | rfl | (simp only [List.length_drop, List.length_take];rfl)) ?_;(with_reducible refine (impl_join.calls a0_0 a0_1 _ _ l0_2 a1_0 a1_1 _ _ l1_2 t106 t107 t108 _ ?side1 ?side2 ?side3 ?side4 A7.out).mono ?_);(case side1 => repeat (first | exact (Kd.C_below HR0_2.out HB.out) | (with_reducible refine Kd.C_alloc ?_ _) | (with_reducible refine Kd.C_drewN ?_ _) | (with_reducible refine Kd.C_drew ?_)));(case side2 => exact HC0_2.out);(case side3 => repeat (first | exact (Kd.C_below HR1_2.out HB.out) | (with_reducible refine Kd.C_alloc ?_ _) | (with_reducible refine Kd.C_drewN ?_ _) | (with_reducible refine Kd.C_drew ?_)));(case side4 => exact HC1_2.out);rintro e w20 ⟨v109, rfl, ho0, hb⟩;refine ⟨_, rfl, ?_⟩;have HO110 := m0_ (Kd.R_lower ho0 (below_size (by exact HB.out)));replace BK101 := m0_ (blk_below BK101.out hb);replace BK102 := m0_ (blk_below BK102.out hb);replace BK103 := m0_ (blk_below BK103.out hb);replace HB := m0_ (below_step (by exact HB.out) hb);(try clear hb);(try clear hb2);(try clear hk);(try clear hi);(try clear ho0);obtain ⟨hcz21_0, hcz21_1, hcz21_2, hfz21_0, hfz21_1, hfz21_2⟩ := bx3 BK103.out;obtain ⟨Ao22, co22, eo22⟩ := Kd.R_slice HO110.out;subst eo22))
 refine bodyPost_ret (results_cell_row rfl _ _ gb103 27 #[.int .i64 t106, .int .i64 t107, .slice Ao22 t108.length co22] (0, 0) _ rfl (by (with_reducible repeat (first | refine blk_drewN ?_ _ | refine blk_drew ?_ | refine blk_alloc ?_ _));refine blk_put (cs := #[.int .i64 t106, .int .i64 t107, .slice none 0 0]) ?_ 2 _ rfl;(with_reducible repeat (first | refine blk_drewN ?_ _ | refine blk_drew ?_ | refine blk_alloc ?_ _));refine blk_put (cs := #[.int .i64 t106, .int .i64 0, .slice none 0 0]) ?_ 1 _ rfl;(with_reducible repeat (first | refine blk_drewN ?_ _ | refine blk_drew ?_ | refine blk_alloc ?_ _));refine blk_put (cs := #[.int .i64 0, .int .i64 0, .slice none 0 0]) ?_ 0 _ rfl;(with_reducible repeat (first | refine blk_drewN ?_ _ | refine blk_drew ?_ | refine blk_alloc ?_ _));exact BK103.out) Try.underlying27 rfl (by kernel_rfl)) rfl ?_
 exact ⟨_, by first | rfl | (simp [errW_none, errW_some] <;> rfl) | (simp [*, errW_none, errW_some] <;> rfl), by (with_reducible repeat (first | apply Kd.R_alloc | apply Kd.R_drewN | apply Kd.R_drew));exact Kd.R_mono (Kd.R_far (p := ⟨gb103, 2, none⟩) (Kd.R_far (p := ⟨gb103, 1, none⟩) (Kd.R_far (p := ⟨gb103, 0, none⟩) (Kd.R_types HO110.out BK103.out (by decide)) (fun _ hk => hk.2) (.int .i64 t106)) (fun _ hk => hk.2) (.int .i64 t107)) (fun _ hk => hk.2) (.slice Ao22 t108.length co22)) (fun _ hk => trivial), by repeat (first | (with_reducible first | exact HB.out | apply below_alloc | apply pw_below_drewN | apply below_drew1 | refine below_set ?_ GE101.out | refine below_set ?_ GE102.out | refine below_set ?_ GE103.out) | exact HB.out)⟩

def spec_DrawOccJoin.f (k : Nat) (l0 : List Int) : Option (Int × Int × List Int × Int × Int × List Int) := (spec_DrawOccLess.f k l0).bind fun bt103 => (if (l0.length : Int) > 2 then (if 2 < (l0.length : Int) then (if (Int.tmod (rd l0 2) 16) = 1 then (some (0, bt103.2.1, bt103.2.2.1, bt103.2.2.2.1, bt103.2.2.2.2.1, bt103.2.2.2.2.2)) else (some (bt103.1, bt103.2.1, bt103.2.2.1, bt103.2.2.2.1, bt103.2.2.2.2.1, bt103.2.2.2.2.2))) else (none)) else (some (bt103.1, bt103.2.1, bt103.2.2.1, bt103.2.2.2.1, bt103.2.2.2.2.1, bt103.2.2.2.2.2)))
set_option maxHeartbeats 8000000 in
set_option maxRecDepth 100000 in
theorem spec_DrawOccJoin.calls (k : Nat) (A0 : Option Addr) (c0 : Nat) (l0 : List Int) (r1 : Int) (r2 : Int) (r3 : List Int) (r4 : Int) (r5 : Int) (r6 : List Int) (w : World) (hr0 : Kd.C (Kd.int .u8) w A0 l0.length l0) (hc0 : l0.length ≤ c0) (h : spec_DrawOccJoin.f k l0 = some (r1, r2, r3, r4, r5, r6)) :
  Calls Try.prog 52 #[.slice A0 l0.length c0] w fun e w' => ∃ v2_ v5_ : Value, e = .returned (.tuple #[.agg #[.int .i64 r1, .int .i64 r2, v2_], .agg #[.int .i64 r4, .int .i64 r5, v5_]]) ∧ Kd.V (Kd.int .i64) 3 w' w.heap.size (fun k_ => (w.heap.size ≤ k_)) v2_ r3 ∧ Kd.V (Kd.int .i64) 3 w' w.heap.size (fun k_ => (w.heap.size ≤ k_)) v5_ r6 ∧ Below w.heap.size w w' := by
 have hu27 := Try.underlying27
 have HR0 := m0_ hr0
 have HC0 := m0_ hc0
 clear hr0 hc0
 have HB := m0_ (Below.refl w.heap.size w)
 have H : ((spec_DrawOccLess.f k l0).bind fun bt103 => (if (l0.length : Int) > 2 then (if 2 < (l0.length : Int) then (if (Int.tmod (rd l0 2) 16) = 1 then (some (0, bt103.2.1, bt103.2.2.1, bt103.2.2.2.1, bt103.2.2.2.2.1, bt103.2.2.2.2.2)) else (some (bt103.1, bt103.2.1, bt103.2.2.1, bt103.2.2.2.1, bt103.2.2.2.2.1, bt103.2.2.2.2.2))) else (none)) else (some (bt103.1, bt103.2.1, bt103.2.2.1, bt103.2.2.2.1, bt103.2.2.2.2.1, bt103.2.2.2.2.2)))) = some (r1, r2, r3, r4, r5, r6) := h
 clear h
 replace H := Option.bind_eq_some_iff.mp H
 obtain ⟨⟨t103, t104, t105, t108, t109, t110⟩, A20, H⟩ := H
 replace H : (if (l0.length : Int) > 2 then (if 2 < (l0.length : Int) then (if (Int.tmod (rd l0 2) 16) = 1 then (some (0, t104, t105, t108, t109, t110)) else (some (t103, t104, t105, t108, t109, t110))) else (none)) else (some (t103, t104, t105, t108, t109, t110))) = some (r1, r2, r3, r4, r5, r6) := H
 have A2 := m0_ A20
 clear A20
 by_cases c3 : (l0.length : Int) > 2
 rotate_left
 ·rw [if_neg c3] at H
  have c3b0 : decide (2 < (l0.length : Int)) = false := decide_eq_false c3
  have c3b1 : decide (2 < l0.length) = false := decide_eq_false (by omega)
  clear c3
  simp only [Option.some.injEq, Prod.mk.injEq] at H
  obtain ⟨rfl, rfl, rfl, rfl, rfl, rfl⟩ := H
  go_enter Try.func52, Try.ntmps52
  try go_wp2_with (first | ((with_reducible refine gate_dst (N := 2) rfl ?_);refine box_event ?hg (N := 2) ?hd (cs := #[.int .i64 0, .int .i64 0, .slice none 0 0]) (t := 27) ?hr ?_;(case hd => rfl);(case hg => rfl);(case hr => first | (go_simp;done) | (go_simp;rfl));intro gb101 hg w50 hbox hb;have BK101 := m0_ (hbox);have GW101 := m0_ ((by rw [hg];exact (below_size (by exact HB.out)) : w.heap.size ≤ gb101));have GE101 := m0_ ((by rw [hg];exact (below_size (by exact HB.out)) : w.heap.size ≤ gb101));replace HB := m0_ (below_step (by exact HB.out) hb);clear hb hbox hg) | ((with_reducible refine gate_dst (N := 3) rfl ?_);refine box_event ?hg (N := 3) ?hd (cs := #[.int .i64 0, .int .i64 0, .slice none 0 0]) (t := 27) ?hr ?_;(case hd => rfl);(case hg => rfl);(case hr => first | (go_simp;done) | (go_simp;rfl));intro gb102 hg w51 hbox hb;have BK102 := m0_ (hbox);have GW102 := m0_ ((by rw [hg];exact (below_size (by exact HB.out)) : w.heap.size ≤ gb102));have GE102 := m0_ ((by rw [hg];exact (below_size (by exact HB.out)) : w.heap.size ≤ gb102));replace HB := m0_ (below_step (by exact HB.out) hb);have NB101_102 := m0_ ((by rw [hg];exact Nat.ne_of_lt (blk_lt BK101.out) : gb101 ≠ gb102));have NB102_101 := m0_ ((by rw [hg];exact Nat.ne_of_gt (blk_lt BK101.out) : gb102 ≠ gb101));replace BK101 := m0_ (blk_below BK101.out hb);clear hb hbox hg) | ((with_reducible refine gate_callee (f := 44) rfl ?_);refine goesL_ (some 8) rfl rfl Try.func44 (by kernel_rfl) rfl #[.slice A0 l0.length c0] rfl (by (try simp only [List.map_toArray, List.map_cons, List.map_nil]);first | done | rfl | (simp only [List.length_drop, List.length_take];rfl)) ?_;(with_reducible refine (spec_DrawOccLess.calls k _ _ l0 t103 t104 t105 t108 t109 t110 _ ?side1 ?side2 A2.out).mono ?_);(case side1 => repeat (first | exact (Kd.C_below HR0.out HB.out) | (with_reducible refine Kd.C_alloc ?_ _) | (with_reducible refine Kd.C_drewN ?_ _) | (with_reducible refine Kd.C_drew ?_)));(case side2 => exact HC0.out);rintro e w52 ⟨v106, v111, rfl, ho0, ho1, hb⟩;refine ⟨_, rfl, ?_⟩;have HO107 := m0_ (Kd.V_lower (Kd.V_mono (ok' := fun k_ => (w.heap.size ≤ k_) ∧ k_ ≠ gb101 ∧ k_ ≠ gb102) ho0 (fun k_ hk_ => ⟨(Nat.le_trans (below_size (by exact HB.out)) hk_), (Kd.freshB BK101.out k_ hk_), (Kd.freshB BK102.out k_ hk_)⟩)) (below_size (by exact HB.out)));have HO112 := m0_ (Kd.V_lower (Kd.V_mono (ok' := fun k_ => (w.heap.size ≤ k_) ∧ k_ ≠ gb101 ∧ k_ ≠ gb102) ho1 (fun k_ hk_ => ⟨(Nat.le_trans (below_size (by exact HB.out)) hk_), (Kd.freshB BK101.out k_ hk_), (Kd.freshB BK102.out k_ hk_)⟩)) (below_size (by exact HB.out)));replace BK101 := m0_ (blk_below BK101.out hb);replace BK102 := m0_ (blk_below BK102.out hb);replace HB := m0_ (below_step (by exact HB.out) hb);(try clear hb);(try clear hb2);(try clear hk);(try clear hi);(try clear ho0);(try clear ho1)) | ((with_reducible refine gate_dst (N := 4) rfl ?_);refine box_event ?hg (N := 4) ?hd (cs := #[.int .i64 0, .int .i64 0, .slice none 0 0]) (t := 27) ?hr ?_;(case hd => rfl);(case hg => rfl);(case hr => first | (go_simp;done) | (go_simp;rfl));intro gb113 hg w53 hbox hb;replace HO107 := m0_ (Kd.V_below (Kd.V_elderB (by exact HO107.out) gb113 (Nat.le_of_eq hg.symm)) hb);replace HO112 := m0_ (Kd.V_below (Kd.V_elderB (by exact HO112.out) gb113 (Nat.le_of_eq hg.symm)) hb);have BK113 := m0_ (hbox);have GW113 := m0_ ((by rw [hg];exact (below_size (by exact HB.out)) : w.heap.size ≤ gb113));have GE113 := m0_ ((by rw [hg];exact (below_size (by exact HB.out)) : w.heap.size ≤ gb113));replace HB := m0_ (below_step (by exact HB.out) hb);have NB101_113 := m0_ ((by rw [hg];exact Nat.ne_of_lt (blk_lt BK101.out) : gb101 ≠ gb113));have NB113_101 := m0_ ((by rw [hg];exact Nat.ne_of_gt (blk_lt BK101.out) : gb113 ≠ gb101));replace BK101 := m0_ (blk_below BK101.out hb);have NB102_113 := m0_ ((by rw [hg];exact Nat.ne_of_lt (blk_lt BK102.out) : gb102 ≠ gb113));have NB113_102 := m0_ ((by rw [hg];exact Nat.ne_of_gt (blk_lt BK102.out) : gb113 ≠ gb102));replace BK102 := m0_ (blk_below BK102.out hb);clear hb hbox hg) | ((with_reducible refine gate_dst (N := 5) rfl ?_);refine box_event ?hg (N := 5) ?hd (cs := #[.int .i64 0, .int .i64 0, .slice none 0 0]) (t := 27) ?hr ?_;(case hd => rfl);(case hg => rfl);(case hr => first | (go_simp;done) | (go_simp;rfl));intro gb114 hg w54 hbox hb;replace HO107 := m0_ (Kd.V_below (Kd.V_elderB (by exact HO107.out) gb114 (Nat.le_of_eq hg.symm)) hb);replace HO112 := m0_ (Kd.V_below (Kd.V_elderB (by exact HO112.out) gb114 (Nat.le_of_eq hg.symm)) hb);have BK114 := m0_ (hbox);have GW114 := m0_ ((by rw [hg];exact (below_size (by exact HB.out)) : w.heap.size ≤ gb114));have GE114 := m0_ ((by rw [hg];exact (below_size (by exact HB.out)) : w.heap.size ≤ gb114));replace HB := m0_ (below_step (by exact HB.out) hb);have NB101_114 := m0_ ((by rw [hg];exact Nat.ne_of_lt (blk_lt BK101.out) : gb101 ≠ gb114));have NB114_101 := m0_ ((by rw [hg];exact Nat.ne_of_gt (blk_lt BK101.out) : gb114 ≠ gb101));replace BK101 := m0_ (blk_below BK101.out hb);have NB102_114 := m0_ ((by rw [hg];exact Nat.ne_of_lt (blk_lt BK102.out) : gb102 ≠ gb114));have NB114_102 := m0_ ((by rw [hg];exact Nat.ne_of_gt (blk_lt BK102.out) : gb114 ≠ gb102));replace BK102 := m0_ (blk_below BK102.out hb);have NB113_114 := m0_ ((by rw [hg];exact Nat.ne_of_lt (blk_lt BK113.out) : gb113 ≠ gb114));have NB114_113 := m0_ ((by rw [hg];exact Nat.ne_of_gt (blk_lt BK113.out) : gb114 ≠ gb113));replace BK113 := m0_ (blk_below BK113.out hb);clear hb hbox hg;have hnb55 := NB113_101.out;have hnc55 := NB101_113.out;have hnb56 := NB113_102.out;have hnc56 := NB102_113.out;have hnb57 := NB113_114.out;have hnc57 := NB114_113.out;obtain ⟨hcz58_0, hcz58_1, hcz58_2, hfz58_0, hfz58_1, hfz58_2⟩ := bx3 BK113.out;obtain ⟨Ao59, co59, eo59⟩ := Kd.V_slice HO107.out;subst eo59;have hnb60 := NB114_101.out;have hnc60 := NB101_114.out;have hnb61 := NB114_102.out;have hnc61 := NB102_114.out;obtain ⟨hcz62_0, hcz62_1, hcz62_2, hfz62_0, hfz62_1, hfz62_2⟩ := bx3 BK114.out;obtain ⟨Ao63, co63, eo63⟩ := Kd.V_slice HO112.out;subst eo63))
  have n0_ : Aside0 (Kd.V (Kd.int .i64) 3 ((((((w54.setCell ⟨gb113, 0, none⟩ (.int .i64 t103)).setCell ⟨gb113, 1, none⟩ (.int .i64 t104)).setCell ⟨gb113, 2, none⟩ (.slice Ao59 t105.length co59)).setCell ⟨gb114, 0, none⟩ (.int .i64 t108)).setCell ⟨gb114, 1, none⟩ (.int .i64 t109)).setCell ⟨gb114, 2, none⟩ (.slice Ao63 t110.length co63)) w.heap.size (fun k_ => (w.heap.size ≤ k_) ∧ k_ ≠ gb101 ∧ k_ ≠ gb102 ∧ k_ ≠ gb113 ∧ k_ ≠ gb114) (.slice Ao59 t105.length co59) t105) := ⟨by (with_reducible repeat (first | apply Kd.V_alloc | apply Kd.V_drewN | apply Kd.V_drew));exact Kd.V_mono (Kd.V_far (p := ⟨gb114, 2, none⟩) (Kd.V_far (p := ⟨gb114, 1, none⟩) (Kd.V_far (p := ⟨gb114, 0, none⟩) (Kd.V_far (p := ⟨gb113, 2, none⟩) (Kd.V_far (p := ⟨gb113, 1, none⟩) (Kd.V_far (p := ⟨gb113, 0, none⟩) (Kd.V_mono (Kd.V_mono HO107.out (fun k_ hk => (⟨hk, hk.1.2⟩ : _ ∧ k_ ≠ gb113))) (fun k_ hk => (⟨hk, hk.1.2⟩ : _ ∧ k_ ≠ gb114))) (fun _ hk => hk.1.2) (.int .i64 t103)) (fun _ hk => hk.1.2) (.int .i64 t104)) (fun _ hk => hk.1.2) (.slice Ao59 t105.length co59)) (fun _ hk => hk.2) (.int .i64 t108)) (fun _ hk => hk.2) (.int .i64 t109)) (fun _ hk => hk.2) (.slice Ao63 t110.length co63)) (fun _ hk => ⟨hk.1.1.1.1.1, ⟨hk.1.1.1.1.2.1, ⟨hk.1.1.1.1.2.2, ⟨hk.1.1.1.2, hk.1.1.2⟩⟩⟩⟩)⟩
  have n1_ : Aside0 (Kd.V (Kd.int .i64) 3 ((((((w54.setCell ⟨gb113, 0, none⟩ (.int .i64 t103)).setCell ⟨gb113, 1, none⟩ (.int .i64 t104)).setCell ⟨gb113, 2, none⟩ (.slice Ao59 t105.length co59)).setCell ⟨gb114, 0, none⟩ (.int .i64 t108)).setCell ⟨gb114, 1, none⟩ (.int .i64 t109)).setCell ⟨gb114, 2, none⟩ (.slice Ao63 t110.length co63)) w.heap.size (fun k_ => (w.heap.size ≤ k_) ∧ k_ ≠ gb101 ∧ k_ ≠ gb102 ∧ k_ ≠ gb113 ∧ k_ ≠ gb114) (.slice Ao63 t110.length co63) t110) := ⟨by (with_reducible repeat (first | apply Kd.V_alloc | apply Kd.V_drewN | apply Kd.V_drew));exact Kd.V_mono (Kd.V_far (p := ⟨gb114, 2, none⟩) (Kd.V_far (p := ⟨gb114, 1, none⟩) (Kd.V_far (p := ⟨gb114, 0, none⟩) (Kd.V_far (p := ⟨gb113, 2, none⟩) (Kd.V_far (p := ⟨gb113, 1, none⟩) (Kd.V_far (p := ⟨gb113, 0, none⟩) (Kd.V_mono (Kd.V_mono HO112.out (fun k_ hk => (⟨hk, hk.1.2⟩ : _ ∧ k_ ≠ gb113))) (fun k_ hk => (⟨hk, hk.1.2⟩ : _ ∧ k_ ≠ gb114))) (fun _ hk => hk.1.2) (.int .i64 t103)) (fun _ hk => hk.1.2) (.int .i64 t104)) (fun _ hk => hk.1.2) (.slice Ao59 t105.length co59)) (fun _ hk => hk.2) (.int .i64 t108)) (fun _ hk => hk.2) (.int .i64 t109)) (fun _ hk => hk.2) (.slice Ao63 t110.length co63)) (fun _ hk => ⟨hk.1.1.1.1.1, ⟨hk.1.1.1.1.2.1, ⟨hk.1.1.1.1.2.2, ⟨hk.1.1.1.2, hk.1.1.2⟩⟩⟩⟩)⟩
  have n2_ : Aside0 (((((((w54.setCell ⟨gb113, 0, none⟩ (.int .i64 t103)).setCell ⟨gb113, 1, none⟩ (.int .i64 t104)).setCell ⟨gb113, 2, none⟩ (.slice Ao59 t105.length co59)).setCell ⟨gb114, 0, none⟩ (.int .i64 t108)).setCell ⟨gb114, 1, none⟩ (.int .i64 t109)).setCell ⟨gb114, 2, none⟩ (.slice Ao63 t110.length co63)).heap[gb101]? = some (.cells #[.int .i64 0, .int .i64 0, .slice none 0 0] 27 (0, 0))) := ⟨by (with_reducible repeat (first | refine blk_drewN ?_ _ | refine blk_drew ?_ | refine blk_alloc ?_ _));refine blk_far ?_ NB101_114.out _;(with_reducible repeat (first | refine blk_drewN ?_ _ | refine blk_drew ?_ | refine blk_alloc ?_ _));refine blk_far ?_ NB101_114.out _;(with_reducible repeat (first | refine blk_drewN ?_ _ | refine blk_drew ?_ | refine blk_alloc ?_ _));refine blk_far ?_ NB101_114.out _;(with_reducible repeat (first | refine blk_drewN ?_ _ | refine blk_drew ?_ | refine blk_alloc ?_ _));refine blk_far ?_ NB101_113.out _;(with_reducible repeat (first | refine blk_drewN ?_ _ | refine blk_drew ?_ | refine blk_alloc ?_ _));refine blk_far ?_ NB101_113.out _;(with_reducible repeat (first | refine blk_drewN ?_ _ | refine blk_drew ?_ | refine blk_alloc ?_ _));refine blk_far ?_ NB101_113.out _;(with_reducible repeat (first | refine blk_drewN ?_ _ | refine blk_drew ?_ | refine blk_alloc ?_ _));exact BK101.out⟩
  have n3_ : Aside0 (((((((w54.setCell ⟨gb113, 0, none⟩ (.int .i64 t103)).setCell ⟨gb113, 1, none⟩ (.int .i64 t104)).setCell ⟨gb113, 2, none⟩ (.slice Ao59 t105.length co59)).setCell ⟨gb114, 0, none⟩ (.int .i64 t108)).setCell ⟨gb114, 1, none⟩ (.int .i64 t109)).setCell ⟨gb114, 2, none⟩ (.slice Ao63 t110.length co63)).heap[gb102]? = some (.cells #[.int .i64 0, .int .i64 0, .slice none 0 0] 27 (0, 0))) := ⟨by (with_reducible repeat (first | refine blk_drewN ?_ _ | refine blk_drew ?_ | refine blk_alloc ?_ _));refine blk_far ?_ NB102_114.out _;(with_reducible repeat (first | refine blk_drewN ?_ _ | refine blk_drew ?_ | refine blk_alloc ?_ _));refine blk_far ?_ NB102_114.out _;(with_reducible repeat (first | refine blk_drewN ?_ _ | refine blk_drew ?_ | refine blk_alloc ?_ _));refine blk_far ?_ NB102_114.out _;(with_reducible repeat (first | refine blk_drewN ?_ _ | refine blk_drew ?_ | refine blk_alloc ?_ _));refine blk_far ?_ NB102_113.out _;(with_reducible repeat (first | refine blk_drewN ?_ _ | refine blk_drew ?_ | refine blk_alloc ?_ _));refine blk_far ?_ NB102_113.out _;(with_reducible repeat (first | refine blk_drewN ?_ _ | refine blk_drew ?_ | refine blk_alloc ?_ _));refine blk_far ?_ NB102_113.out _;(with_reducible repeat (first | refine blk_drewN ?_ _ | refine blk_drew ?_ | refine blk_alloc ?_ _));exact BK102.out⟩
  have n4_ : Aside0 (((((((w54.setCell ⟨gb113, 0, none⟩ (.int .i64 t103)).setCell ⟨gb113, 1, none⟩ (.int .i64 t104)).setCell ⟨gb113, 2, none⟩ (.slice Ao59 t105.length co59)).setCell ⟨gb114, 0, none⟩ (.int .i64 t108)).setCell ⟨gb114, 1, none⟩ (.int .i64 t109)).setCell ⟨gb114, 2, none⟩ (.slice Ao63 t110.length co63)).heap[gb113]? = some (.cells #[.int .i64 t103, .int .i64 t104, .slice Ao59 t105.length co59] 27 (0, 0))) := ⟨by (with_reducible repeat (first | refine blk_drewN ?_ _ | refine blk_drew ?_ | refine blk_alloc ?_ _));refine blk_far ?_ NB113_114.out _;(with_reducible repeat (first | refine blk_drewN ?_ _ | refine blk_drew ?_ | refine blk_alloc ?_ _));refine blk_far ?_ NB113_114.out _;(with_reducible repeat (first | refine blk_drewN ?_ _ | refine blk_drew ?_ | refine blk_alloc ?_ _));refine blk_far ?_ NB113_114.out _;(with_reducible repeat (first | refine blk_drewN ?_ _ | refine blk_drew ?_ | refine blk_alloc ?_ _));refine blk_put (cs := #[.int .i64 t103, .int .i64 t104, .slice none 0 0]) ?_ 2 _ rfl;(with_reducible repeat (first | refine blk_drewN ?_ _ | refine blk_drew ?_ | refine blk_alloc ?_ _));refine blk_put (cs := #[.int .i64 t103, .int .i64 0, .slice none 0 0]) ?_ 1 _ rfl;(with_reducible repeat (first | refine blk_drewN ?_ _ | refine blk_drew ?_ | refine blk_alloc ?_ _));refine blk_put (cs := #[.int .i64 0, .int .i64 0, .slice none 0 0]) ?_ 0 _ rfl;(with_reducible repeat (first | refine blk_drewN ?_ _ | refine blk_drew ?_ | refine blk_alloc ?_ _));exact BK113.out⟩
  have n5_ : Aside0 (((((((w54.setCell ⟨gb113, 0, none⟩ (.int .i64 t103)).setCell ⟨gb113, 1, none⟩ (.int .i64 t104)).setCell ⟨gb113, 2, none⟩ (.slice Ao59 t105.length co59)).setCell ⟨gb114, 0, none⟩ (.int .i64 t108)).setCell ⟨gb114, 1, none⟩ (.int .i64 t109)).setCell ⟨gb114, 2, none⟩ (.slice Ao63 t110.length co63)).heap[gb114]? = some (.cells #[.int .i64 t108, .int .i64 t109, .slice Ao63 t110.length co63] 27 (0, 0))) := ⟨by (with_reducible repeat (first | refine blk_drewN ?_ _ | refine blk_drew ?_ | refine blk_alloc ?_ _));refine blk_put (cs := #[.int .i64 t108, .int .i64 t109, .slice none 0 0]) ?_ 2 _ rfl;(with_reducible repeat (first | refine blk_drewN ?_ _ | refine blk_drew ?_ | refine blk_alloc ?_ _));refine blk_put (cs := #[.int .i64 t108, .int .i64 0, .slice none 0 0]) ?_ 1 _ rfl;(with_reducible repeat (first | refine blk_drewN ?_ _ | refine blk_drew ?_ | refine blk_alloc ?_ _));refine blk_put (cs := #[.int .i64 0, .int .i64 0, .slice none 0 0]) ?_ 0 _ rfl;(with_reducible repeat (first | refine blk_drewN ?_ _ | refine blk_drew ?_ | refine blk_alloc ?_ _));refine blk_far ?_ NB114_113.out _;(with_reducible repeat (first | refine blk_drewN ?_ _ | refine blk_drew ?_ | refine blk_alloc ?_ _));refine blk_far ?_ NB114_113.out _;(with_reducible repeat (first | refine blk_drewN ?_ _ | refine blk_drew ?_ | refine blk_alloc ?_ _));refine blk_far ?_ NB114_113.out _;(with_reducible repeat (first | refine blk_drewN ?_ _ | refine blk_drew ?_ | refine blk_alloc ?_ _));exact BK114.out⟩
  have n6_ : Aside0 (Below w.heap.size w ((((((w54.setCell ⟨gb113, 0, none⟩ (.int .i64 t103)).setCell ⟨gb113, 1, none⟩ (.int .i64 t104)).setCell ⟨gb113, 2, none⟩ (.slice Ao59 t105.length co59)).setCell ⟨gb114, 0, none⟩ (.int .i64 t108)).setCell ⟨gb114, 1, none⟩ (.int .i64 t109)).setCell ⟨gb114, 2, none⟩ (.slice Ao63 t110.length co63))) := ⟨by repeat (first | (with_reducible first | exact HB.out | apply below_alloc | apply pw_below_drewN | apply below_drew1 | refine below_set ?_ GE101.out | refine below_set ?_ GE102.out | refine below_set ?_ GE113.out | refine below_set ?_ GE114.out) | exact HB.out)⟩
  (try clear HO107)
  (try clear HO112)
  (try clear BK101)
  (try clear BK102)
  (try clear BK113)
  (try clear BK114)
  (try clear HB)
  generalize ((((((w54.setCell ⟨gb113, 0, none⟩ (.int .i64 t103)).setCell ⟨gb113, 1, none⟩ (.int .i64 t104)).setCell ⟨gb113, 2, none⟩ (.slice Ao59 t105.length co59)).setCell ⟨gb114, 0, none⟩ (.int .i64 t108)).setCell ⟨gb114, 1, none⟩ (.int .i64 t109)).setCell ⟨gb114, 2, none⟩ (.slice Ao63 t110.length co63)) = w64 at n0_ n1_ n2_ n3_ n4_ n5_ n6_ ⊢
  have HO107 := n0_
  have HO112 := n1_
  have BK101 := n2_
  have BK102 := n3_
  have BK113 := n4_
  have BK114 := n5_
  have HB := n6_
  clear n0_ n1_ n2_ n3_ n4_ n5_ n6_
  replace HO107 := m0_ (Kd.V_drew HO107.out)
  replace HO112 := m0_ (Kd.V_drew HO112.out)
  replace BK101 := m0_ (blk_drew BK101.out)
  replace BK102 := m0_ (blk_drew BK102.out)
  replace BK113 := m0_ (blk_drew BK113.out)
  replace BK114 := m0_ (blk_drew BK114.out)
  replace HB := m0_ (below_drew1 HB.out)
  refine start_ (n := 4) (S := fun w' => w'.cell? ⟨gb113, 0, none⟩ = some (.int .i64 t103) ∧ w'.cell? ⟨gb113, 1, none⟩ = some (.int .i64 t104) ∧ w'.cell? ⟨gb113, 2, none⟩ = some (.slice Ao59 t105.length co59) ∧ w'.cell? ⟨gb114, 0, none⟩ = some (.int .i64 t108) ∧ w'.cell? ⟨gb114, 1, none⟩ = some (.int .i64 t109) ∧ w'.cell? ⟨gb114, 2, none⟩ = some (.slice Ao63 t110.length co63)) (ds := []) #[false, false, false, false] (by kernel_rfl) rfl rfl ⟨(blk_cell BK113.out 0).trans rfl, (blk_cell BK113.out 1).trans rfl, (blk_cell BK113.out 2).trans rfl, (blk_cell BK114.out 0).trans rfl, (blk_cell BK114.out 1).trans rfl, (blk_cell BK114.out 2).trans rfl⟩ (fun hHeld => ?_)
  generalize w64.drew = w65 at HO107 HO112 BK101 BK102 BK113 BK114 HB hHeld ⊢
  refine take_ (i := 0) (N := some 22) (v := ?_) (a' := ?_) #[true, false, false, false] rfl rfl (by kernel_rfl) (fun _ _ _ h => h) (Or.inl ⟨by rfl, ?_⟩) hHeld ?_ ?_
  rotate_left
  ·rintro w' ⟨s0, s1, s2, s3, s4, s5⟩
   go_simp
   with_reducible rfl
  rotate_left
  ·simp only [Act.put, List.setIfInBounds_toArray, List.set_cons_zero, List.set_cons_succ, i64_w, i32_w]
   rfl
  refine take_ (i := 1) (N := some 23) (v := ?_) (a' := ?_) #[true, true, false, false] rfl rfl (by kernel_rfl) (fun _ _ _ h => h) (Or.inl ⟨by rfl, ?_⟩) hHeld ?_ ?_
  rotate_left
  ·rintro w' ⟨s0, s1, s2, s3, s4, s5⟩
   go_simp
   with_reducible rfl
  rotate_left
  ·simp only [Act.put, List.setIfInBounds_toArray, List.set_cons_zero, List.set_cons_succ, i64_w, i32_w]
   rfl
  refine one_ (i := 2) (N := none) #[true, true, true, false] rfl rfl (by kernel_rfl) (by decide) (fun K hK => ?_)
  have hs66 : w65.cell? ⟨gb101, 0, none⟩ = some (.int .i64 0) := (blk_cell BK101.out 0).trans rfl
  have hfs66 := blk_frozen BK101.out 0
  have hns66_1 := NB102_101.out
  have hns66_2 := NB113_101.out
  have hns66_3 := NB114_101.out
  have hms66_1 := NB101_102.out
  have hms66_2 := NB101_113.out
  have hms66_3 := NB101_114.out
  have hs67 : w65.cell? ⟨gb101, 1, none⟩ = some (.int .i64 0) := (blk_cell BK101.out 1).trans rfl
  have hfs67 := blk_frozen BK101.out 1
  have hns67_1 := NB102_101.out
  have hns67_2 := NB113_101.out
  have hns67_3 := NB114_101.out
  have hms67_1 := NB101_102.out
  have hms67_2 := NB101_113.out
  have hms67_3 := NB101_114.out
  have hs68 : w65.cell? ⟨gb101, 2, none⟩ = some (.slice none 0 0) := (blk_cell BK101.out 2).trans rfl
  have hfs68 := blk_frozen BK101.out 2
  have hns68_1 := NB102_101.out
  have hns68_2 := NB113_101.out
  have hns68_3 := NB114_101.out
  have hms68_1 := NB101_102.out
  have hms68_2 := NB101_113.out
  have hms68_3 := NB101_114.out
  refine skip_ (w1 := ?_) (by rfl) rfl ?_ ?_
  rotate_left
  ·go_simp
   rfl
  refine hK.out _ _ ⟨((cell_far (p := ⟨gb101, _, none⟩) NB113_101.out _).trans (((cell_far (p := ⟨gb101, _, none⟩) NB113_101.out _).trans (((cell_far (p := ⟨gb101, _, none⟩) NB113_101.out _).trans (hHeld.1)))))), ((cell_far (p := ⟨gb101, _, none⟩) NB113_101.out _).trans (((cell_far (p := ⟨gb101, _, none⟩) NB113_101.out _).trans (((cell_far (p := ⟨gb101, _, none⟩) NB113_101.out _).trans (hHeld.2.1)))))), ((cell_far (p := ⟨gb101, _, none⟩) NB113_101.out _).trans (((cell_far (p := ⟨gb101, _, none⟩) NB113_101.out _).trans (((cell_far (p := ⟨gb101, _, none⟩) NB113_101.out _).trans (hHeld.2.2.1)))))), ((cell_far (p := ⟨gb101, _, none⟩) NB114_101.out _).trans (((cell_far (p := ⟨gb101, _, none⟩) NB114_101.out _).trans (((cell_far (p := ⟨gb101, _, none⟩) NB114_101.out _).trans (hHeld.2.2.2.1)))))), ((cell_far (p := ⟨gb101, _, none⟩) NB114_101.out _).trans (((cell_far (p := ⟨gb101, _, none⟩) NB114_101.out _).trans (((cell_far (p := ⟨gb101, _, none⟩) NB114_101.out _).trans (hHeld.2.2.2.2.1)))))), ((cell_far (p := ⟨gb101, _, none⟩) NB114_101.out _).trans (((cell_far (p := ⟨gb101, _, none⟩) NB114_101.out _).trans (((cell_far (p := ⟨gb101, _, none⟩) NB114_101.out _).trans (hHeld.2.2.2.2.2))))))⟩ (fun hHeld => ?_)
  clear hK K
  refine one_ (i := 3) (N := none) #[true, true, true, true] rfl rfl (by kernel_rfl) (by decide) (fun K hK => ?_)
  have hs69 : w65.cell? ⟨gb102, 0, none⟩ = some (.int .i64 0) := (blk_cell BK102.out 0).trans rfl
  have hfs69 := blk_frozen BK102.out 0
  have hns69_0 := NB101_102.out
  have hns69_2 := NB113_102.out
  have hns69_3 := NB114_102.out
  have hms69_0 := NB102_101.out
  have hms69_2 := NB102_113.out
  have hms69_3 := NB102_114.out
  have hs70 : w65.cell? ⟨gb102, 1, none⟩ = some (.int .i64 0) := (blk_cell BK102.out 1).trans rfl
  have hfs70 := blk_frozen BK102.out 1
  have hns70_0 := NB101_102.out
  have hns70_2 := NB113_102.out
  have hns70_3 := NB114_102.out
  have hms70_0 := NB102_101.out
  have hms70_2 := NB102_113.out
  have hms70_3 := NB102_114.out
  have hs71 : w65.cell? ⟨gb102, 2, none⟩ = some (.slice none 0 0) := (blk_cell BK102.out 2).trans rfl
  have hfs71 := blk_frozen BK102.out 2
  have hns71_0 := NB101_102.out
  have hns71_2 := NB113_102.out
  have hns71_3 := NB114_102.out
  have hms71_0 := NB102_101.out
  have hms71_2 := NB102_113.out
  have hms71_3 := NB102_114.out
  refine skip_ (w1 := ?_) (by rfl) rfl ?_ ?_
  rotate_left
  ·go_simp
   rfl
  refine hK.out _ _ ⟨((cell_far (p := ⟨gb102, _, none⟩) NB113_102.out _).trans (((cell_far (p := ⟨gb102, _, none⟩) NB113_102.out _).trans (((cell_far (p := ⟨gb102, _, none⟩) NB113_102.out _).trans (hHeld.1)))))), ((cell_far (p := ⟨gb102, _, none⟩) NB113_102.out _).trans (((cell_far (p := ⟨gb102, _, none⟩) NB113_102.out _).trans (((cell_far (p := ⟨gb102, _, none⟩) NB113_102.out _).trans (hHeld.2.1)))))), ((cell_far (p := ⟨gb102, _, none⟩) NB113_102.out _).trans (((cell_far (p := ⟨gb102, _, none⟩) NB113_102.out _).trans (((cell_far (p := ⟨gb102, _, none⟩) NB113_102.out _).trans (hHeld.2.2.1)))))), ((cell_far (p := ⟨gb102, _, none⟩) NB114_102.out _).trans (((cell_far (p := ⟨gb102, _, none⟩) NB114_102.out _).trans (((cell_far (p := ⟨gb102, _, none⟩) NB114_102.out _).trans (hHeld.2.2.2.1)))))), ((cell_far (p := ⟨gb102, _, none⟩) NB114_102.out _).trans (((cell_far (p := ⟨gb102, _, none⟩) NB114_102.out _).trans (((cell_far (p := ⟨gb102, _, none⟩) NB114_102.out _).trans (hHeld.2.2.2.2.1)))))), ((cell_far (p := ⟨gb102, _, none⟩) NB114_102.out _).trans (((cell_far (p := ⟨gb102, _, none⟩) NB114_102.out _).trans (((cell_far (p := ⟨gb102, _, none⟩) NB114_102.out _).trans (hHeld.2.2.2.2.2))))))⟩ (fun hHeld => ?_)
  clear hK K
  refine done_ (by kernel_rfl) ?_
  try go_wp2
  refine bodyPost_ret (results_cc rfl _ _ gb101 gb102 27 27 #[.int .i64 t103, .int .i64 t104, .slice Ao59 t105.length co59] #[.int .i64 t108, .int .i64 t109, .slice Ao63 t110.length co63] (0, 0) (0, 0) _ _ rfl (by (with_reducible repeat (first | refine blk_drewN ?_ _ | refine blk_drew ?_ | refine blk_alloc ?_ _));refine blk_far ?_ NB101_102.out _;(with_reducible repeat (first | refine blk_drewN ?_ _ | refine blk_drew ?_ | refine blk_alloc ?_ _));refine blk_far ?_ NB101_102.out _;(with_reducible repeat (first | refine blk_drewN ?_ _ | refine blk_drew ?_ | refine blk_alloc ?_ _));refine blk_far ?_ NB101_102.out _;(with_reducible repeat (first | refine blk_drewN ?_ _ | refine blk_drew ?_ | refine blk_alloc ?_ _));refine blk_put (cs := #[.int .i64 t103, .int .i64 t104, .slice none 0 0]) ?_ 2 _ rfl;(with_reducible repeat (first | refine blk_drewN ?_ _ | refine blk_drew ?_ | refine blk_alloc ?_ _));refine blk_put (cs := #[.int .i64 t103, .int .i64 0, .slice none 0 0]) ?_ 1 _ rfl;(with_reducible repeat (first | refine blk_drewN ?_ _ | refine blk_drew ?_ | refine blk_alloc ?_ _));refine blk_put (cs := #[.int .i64 0, .int .i64 0, .slice none 0 0]) ?_ 0 _ rfl;(with_reducible repeat (first | refine blk_drewN ?_ _ | refine blk_drew ?_ | refine blk_alloc ?_ _));exact BK101.out) Try.underlying27 rfl (by kernel_rfl) rfl (by (with_reducible repeat (first | refine blk_drewN ?_ _ | refine blk_drew ?_ | refine blk_alloc ?_ _));refine blk_put (cs := #[.int .i64 t108, .int .i64 t109, .slice none 0 0]) ?_ 2 _ rfl;(with_reducible repeat (first | refine blk_drewN ?_ _ | refine blk_drew ?_ | refine blk_alloc ?_ _));refine blk_put (cs := #[.int .i64 t108, .int .i64 0, .slice none 0 0]) ?_ 1 _ rfl;(with_reducible repeat (first | refine blk_drewN ?_ _ | refine blk_drew ?_ | refine blk_alloc ?_ _));refine blk_put (cs := #[.int .i64 0, .int .i64 0, .slice none 0 0]) ?_ 0 _ rfl;(with_reducible repeat (first | refine blk_drewN ?_ _ | refine blk_drew ?_ | refine blk_alloc ?_ _));refine blk_far ?_ NB102_101.out _;(with_reducible repeat (first | refine blk_drewN ?_ _ | refine blk_drew ?_ | refine blk_alloc ?_ _));refine blk_far ?_ NB102_101.out _;(with_reducible repeat (first | refine blk_drewN ?_ _ | refine blk_drew ?_ | refine blk_alloc ?_ _));refine blk_far ?_ NB102_101.out _;(with_reducible repeat (first | refine blk_drewN ?_ _ | refine blk_drew ?_ | refine blk_alloc ?_ _));exact BK102.out) Try.underlying27 rfl (by kernel_rfl)) rfl ?_
  exact ⟨_, _, by first | rfl | (simp [errW_none, errW_some] <;> rfl) | (simp [*, errW_none, errW_some] <;> rfl), by (with_reducible repeat (first | apply Kd.V_alloc | apply Kd.V_drewN | apply Kd.V_drew));exact Kd.V_mono (Kd.V_far (p := ⟨gb102, 2, none⟩) (Kd.V_far (p := ⟨gb102, 1, none⟩) (Kd.V_far (p := ⟨gb102, 0, none⟩) (Kd.V_far (p := ⟨gb101, 2, none⟩) (Kd.V_far (p := ⟨gb101, 1, none⟩) (Kd.V_far (p := ⟨gb101, 0, none⟩) (Kd.V_mono (Kd.V_mono HO107.out (fun k_ hk => (⟨hk, hk.2.1⟩ : _ ∧ k_ ≠ gb101))) (fun k_ hk => (⟨hk, hk.1.2.2.1⟩ : _ ∧ k_ ≠ gb102))) (fun _ hk => hk.1.2) (.int .i64 t103)) (fun _ hk => hk.1.2) (.int .i64 t104)) (fun _ hk => hk.1.2) (.slice Ao59 t105.length co59)) (fun _ hk => hk.2) (.int .i64 t108)) (fun _ hk => hk.2) (.int .i64 t109)) (fun _ hk => hk.2) (.slice Ao63 t110.length co63)) (fun _ hk => hk.1.1.1), by (with_reducible repeat (first | apply Kd.V_alloc | apply Kd.V_drewN | apply Kd.V_drew));exact Kd.V_mono (Kd.V_far (p := ⟨gb102, 2, none⟩) (Kd.V_far (p := ⟨gb102, 1, none⟩) (Kd.V_far (p := ⟨gb102, 0, none⟩) (Kd.V_far (p := ⟨gb101, 2, none⟩) (Kd.V_far (p := ⟨gb101, 1, none⟩) (Kd.V_far (p := ⟨gb101, 0, none⟩) (Kd.V_mono (Kd.V_mono HO112.out (fun k_ hk => (⟨hk, hk.2.1⟩ : _ ∧ k_ ≠ gb101))) (fun k_ hk => (⟨hk, hk.1.2.2.1⟩ : _ ∧ k_ ≠ gb102))) (fun _ hk => hk.1.2) (.int .i64 t103)) (fun _ hk => hk.1.2) (.int .i64 t104)) (fun _ hk => hk.1.2) (.slice Ao59 t105.length co59)) (fun _ hk => hk.2) (.int .i64 t108)) (fun _ hk => hk.2) (.int .i64 t109)) (fun _ hk => hk.2) (.slice Ao63 t110.length co63)) (fun _ hk => hk.1.1.1), by repeat (first | (with_reducible first | exact HB.out | apply below_alloc | apply pw_below_drewN | apply below_drew1 | refine below_set ?_ GE101.out | refine below_set ?_ GE102.out | refine below_set ?_ GE113.out | refine below_set ?_ GE114.out) | exact HB.out)⟩
 rw [if_pos c3] at H
 have c3b0 : decide (2 < (l0.length : Int)) = true := decide_eq_true c3
 have c3b1 : decide (2 < l0.length) = true := decide_eq_true (by omega)
 clear c3
 by_cases c4 : 2 < (l0.length : Int)
 rotate_left
 ·rw [if_neg c4] at H
  exact absurd H (by simp)
 rw [if_pos c4] at H
 have c4b0 : decide (2 < (l0.length : Int)) = true := decide_eq_true c4
 have c4b1 : decide (2 < l0.length) = true := decide_eq_true (by omega)
 clear c4
 by_cases c5 : (Int.tmod (rd l0 2) 16) = 1
 rotate_left
 ·rw [if_neg c5] at H
  have c5b0 : ((Int.tmod (rd l0 2) 16) == 1) = false := beq_eq_false_iff_ne.mpr c5
  have c5b1 : ((Int.tmod (rd l0 2) 16) != 1) = true := bne_iff_ne.mpr c5
  simp only [Option.some.injEq, Prod.mk.injEq] at H
  obtain ⟨rfl, rfl, rfl, rfl, rfl, rfl⟩ := H
  go_enter Try.func52, Try.ntmps52
  try go_wp2_with (first | ((with_reducible refine gate_dst (N := 2) rfl ?_);refine box_event ?hg (N := 2) ?hd (cs := #[.int .i64 0, .int .i64 0, .slice none 0 0]) (t := 27) ?hr ?_;(case hd => rfl);(case hg => rfl);(case hr => first | (go_simp;done) | (go_simp;rfl));intro gb101 hg w28 hbox hb;have BK101 := m0_ (hbox);have GW101 := m0_ ((by rw [hg];exact (below_size (by exact HB.out)) : w.heap.size ≤ gb101));have GE101 := m0_ ((by rw [hg];exact (below_size (by exact HB.out)) : w.heap.size ≤ gb101));replace HB := m0_ (below_step (by exact HB.out) hb);clear hb hbox hg) | ((with_reducible refine gate_dst (N := 3) rfl ?_);refine box_event ?hg (N := 3) ?hd (cs := #[.int .i64 0, .int .i64 0, .slice none 0 0]) (t := 27) ?hr ?_;(case hd => rfl);(case hg => rfl);(case hr => first | (go_simp;done) | (go_simp;rfl));intro gb102 hg w29 hbox hb;have BK102 := m0_ (hbox);have GW102 := m0_ ((by rw [hg];exact (below_size (by exact HB.out)) : w.heap.size ≤ gb102));have GE102 := m0_ ((by rw [hg];exact (below_size (by exact HB.out)) : w.heap.size ≤ gb102));replace HB := m0_ (below_step (by exact HB.out) hb);have NB101_102 := m0_ ((by rw [hg];exact Nat.ne_of_lt (blk_lt BK101.out) : gb101 ≠ gb102));have NB102_101 := m0_ ((by rw [hg];exact Nat.ne_of_gt (blk_lt BK101.out) : gb102 ≠ gb101));replace BK101 := m0_ (blk_below BK101.out hb);clear hb hbox hg) | ((with_reducible refine gate_callee (f := 44) rfl ?_);refine goesL_ (some 8) rfl rfl Try.func44 (by kernel_rfl) rfl #[.slice A0 l0.length c0] rfl (by (try simp only [List.map_toArray, List.map_cons, List.map_nil]);first | done | rfl | (simp only [List.length_drop, List.length_take];rfl)) ?_;(with_reducible refine (spec_DrawOccLess.calls k _ _ l0 t103 t104 t105 t108 t109 t110 _ ?side1 ?side2 A2.out).mono ?_);(case side1 => repeat (first | exact (Kd.C_below HR0.out HB.out) | (with_reducible refine Kd.C_alloc ?_ _) | (with_reducible refine Kd.C_drewN ?_ _) | (with_reducible refine Kd.C_drew ?_)));(case side2 => exact HC0.out);rintro e w30 ⟨v106, v111, rfl, ho0, ho1, hb⟩;refine ⟨_, rfl, ?_⟩;have HO107 := m0_ (Kd.V_lower (Kd.V_mono (ok' := fun k_ => (w.heap.size ≤ k_) ∧ k_ ≠ gb101 ∧ k_ ≠ gb102) ho0 (fun k_ hk_ => ⟨(Nat.le_trans (below_size (by exact HB.out)) hk_), (Kd.freshB BK101.out k_ hk_), (Kd.freshB BK102.out k_ hk_)⟩)) (below_size (by exact HB.out)));have HO112 := m0_ (Kd.V_lower (Kd.V_mono (ok' := fun k_ => (w.heap.size ≤ k_) ∧ k_ ≠ gb101 ∧ k_ ≠ gb102) ho1 (fun k_ hk_ => ⟨(Nat.le_trans (below_size (by exact HB.out)) hk_), (Kd.freshB BK101.out k_ hk_), (Kd.freshB BK102.out k_ hk_)⟩)) (below_size (by exact HB.out)));replace BK101 := m0_ (blk_below BK101.out hb);replace BK102 := m0_ (blk_below BK102.out hb);replace HB := m0_ (below_step (by exact HB.out) hb);(try clear hb);(try clear hb2);(try clear hk);(try clear hi);(try clear ho0);(try clear ho1)) | ((with_reducible refine gate_dst (N := 4) rfl ?_);refine box_event ?hg (N := 4) ?hd (cs := #[.int .i64 0, .int .i64 0, .slice none 0 0]) (t := 27) ?hr ?_;(case hd => rfl);(case hg => rfl);(case hr => first | (go_simp;done) | (go_simp;rfl));intro gb113 hg w31 hbox hb;replace HO107 := m0_ (Kd.V_below (Kd.V_elderB (by exact HO107.out) gb113 (Nat.le_of_eq hg.symm)) hb);replace HO112 := m0_ (Kd.V_below (Kd.V_elderB (by exact HO112.out) gb113 (Nat.le_of_eq hg.symm)) hb);have BK113 := m0_ (hbox);have GW113 := m0_ ((by rw [hg];exact (below_size (by exact HB.out)) : w.heap.size ≤ gb113));have GE113 := m0_ ((by rw [hg];exact (below_size (by exact HB.out)) : w.heap.size ≤ gb113));replace HB := m0_ (below_step (by exact HB.out) hb);have NB101_113 := m0_ ((by rw [hg];exact Nat.ne_of_lt (blk_lt BK101.out) : gb101 ≠ gb113));have NB113_101 := m0_ ((by rw [hg];exact Nat.ne_of_gt (blk_lt BK101.out) : gb113 ≠ gb101));replace BK101 := m0_ (blk_below BK101.out hb);have NB102_113 := m0_ ((by rw [hg];exact Nat.ne_of_lt (blk_lt BK102.out) : gb102 ≠ gb113));have NB113_102 := m0_ ((by rw [hg];exact Nat.ne_of_gt (blk_lt BK102.out) : gb113 ≠ gb102));replace BK102 := m0_ (blk_below BK102.out hb);clear hb hbox hg) | ((with_reducible refine gate_dst (N := 5) rfl ?_);refine box_event ?hg (N := 5) ?hd (cs := #[.int .i64 0, .int .i64 0, .slice none 0 0]) (t := 27) ?hr ?_;(case hd => rfl);(case hg => rfl);(case hr => first | (go_simp;done) | (go_simp;rfl));intro gb114 hg w32 hbox hb;replace HO107 := m0_ (Kd.V_below (Kd.V_elderB (by exact HO107.out) gb114 (Nat.le_of_eq hg.symm)) hb);replace HO112 := m0_ (Kd.V_below (Kd.V_elderB (by exact HO112.out) gb114 (Nat.le_of_eq hg.symm)) hb);have BK114 := m0_ (hbox);have GW114 := m0_ ((by rw [hg];exact (below_size (by exact HB.out)) : w.heap.size ≤ gb114));have GE114 := m0_ ((by rw [hg];exact (below_size (by exact HB.out)) : w.heap.size ≤ gb114));replace HB := m0_ (below_step (by exact HB.out) hb);have NB101_114 := m0_ ((by rw [hg];exact Nat.ne_of_lt (blk_lt BK101.out) : gb101 ≠ gb114));have NB114_101 := m0_ ((by rw [hg];exact Nat.ne_of_gt (blk_lt BK101.out) : gb114 ≠ gb101));replace BK101 := m0_ (blk_below BK101.out hb);have NB102_114 := m0_ ((by rw [hg];exact Nat.ne_of_lt (blk_lt BK102.out) : gb102 ≠ gb114));have NB114_102 := m0_ ((by rw [hg];exact Nat.ne_of_gt (blk_lt BK102.out) : gb114 ≠ gb102));replace BK102 := m0_ (blk_below BK102.out hb);have NB113_114 := m0_ ((by rw [hg];exact Nat.ne_of_lt (blk_lt BK113.out) : gb113 ≠ gb114));have NB114_113 := m0_ ((by rw [hg];exact Nat.ne_of_gt (blk_lt BK113.out) : gb114 ≠ gb113));replace BK113 := m0_ (blk_below BK113.out hb);clear hb hbox hg;have hnb33 := NB113_101.out;have hnc33 := NB101_113.out;have hnb34 := NB113_102.out;have hnc34 := NB102_113.out;have hnb35 := NB113_114.out;have hnc35 := NB114_113.out;obtain ⟨hcz36_0, hcz36_1, hcz36_2, hfz36_0, hfz36_1, hfz36_2⟩ := bx3 BK113.out;obtain ⟨Ao37, co37, eo37⟩ := Kd.V_slice HO107.out;subst eo37;have hnb38 := NB114_101.out;have hnc38 := NB101_114.out;have hnb39 := NB114_102.out;have hnc39 := NB102_114.out;obtain ⟨hcz40_0, hcz40_1, hcz40_2, hfz40_0, hfz40_1, hfz40_2⟩ := bx3 BK114.out;obtain ⟨Ao41, co41, eo41⟩ := Kd.V_slice HO112.out;subst eo41;have p115 : 0 ≤ (2 : Int) := (by omega);have q115 : 2 < (l0.length : Int) := of_decide_eq_true (by first | (with_reducible assumption) | assumption);obtain ⟨ad115, e115, hx115_0⟩ := Kd.at_int HR0.out 2 p115 q115;cases e115;(try simp only [show (2 : Int).toNat = 2 from rfl, Nat.reduceMul, Nat.reduceEqDiff, Go.Addr.add, ↓reduceIte] at hx115_0);have qi115 : (2 < l0.length) = True := eq_true (by omega);(try rw [show ((2 : Int)).toNat = 2 from rfl] at hx115_0);have hn115_0 : ad115.block ≠ gb113 := Nat.ne_of_lt (Nat.lt_of_lt_of_le (by have := World.block_lt_of_cell? _ _ hx115_0;first | rwa [add_block] at this | exact this) GW113.out);have hn115_1 : ad115.block ≠ gb113 := Nat.ne_of_lt (Nat.lt_of_lt_of_le (by have := World.block_lt_of_cell? _ _ hx115_0;first | rwa [add_block] at this | exact this) GW113.out);have hn115_2 : ad115.block ≠ gb113 := Nat.ne_of_lt (Nat.lt_of_lt_of_le (by have := World.block_lt_of_cell? _ _ hx115_0;first | rwa [add_block] at this | exact this) GW113.out);have hn115_3 : ad115.block ≠ gb114 := Nat.ne_of_lt (Nat.lt_of_lt_of_le (by have := World.block_lt_of_cell? _ _ hx115_0;first | rwa [add_block] at this | exact this) GW114.out);have hn115_4 : ad115.block ≠ gb114 := Nat.ne_of_lt (Nat.lt_of_lt_of_le (by have := World.block_lt_of_cell? _ _ hx115_0;first | rwa [add_block] at this | exact this) GW114.out);have hn115_5 : ad115.block ≠ gb114 := Nat.ne_of_lt (Nat.lt_of_lt_of_le (by have := World.block_lt_of_cell? _ _ hx115_0;first | rwa [add_block] at this | exact this) GW114.out);replace hx115_0 := (HB.out.cell (World.block_lt_of_cell? w _ hx115_0)).trans hx115_0;replace hx115_0 := (cell_far (p := ⟨gb113, 0, none⟩) (by first | (rw [add_block];exact hn115_0) | (show (Addr.add _ _).block ≠ _;rw [add_block];exact hn115_0) | exact hn115_0) (.int .i64 t103)).trans hx115_0;replace hx115_0 := (cell_far (p := ⟨gb113, 1, none⟩) (by first | (rw [add_block];exact hn115_1) | (show (Addr.add _ _).block ≠ _;rw [add_block];exact hn115_1) | exact hn115_1) (.int .i64 t104)).trans hx115_0;replace hx115_0 := (cell_far (p := ⟨gb113, 2, none⟩) (by first | (rw [add_block];exact hn115_2) | (show (Addr.add _ _).block ≠ _;rw [add_block];exact hn115_2) | exact hn115_2) (.slice Ao37 t105.length co37)).trans hx115_0;replace hx115_0 := (cell_far (p := ⟨gb114, 0, none⟩) (by first | (rw [add_block];exact hn115_3) | (show (Addr.add _ _).block ≠ _;rw [add_block];exact hn115_3) | exact hn115_3) (.int .i64 t108)).trans hx115_0;replace hx115_0 := (cell_far (p := ⟨gb114, 1, none⟩) (by first | (rw [add_block];exact hn115_4) | (show (Addr.add _ _).block ≠ _;rw [add_block];exact hn115_4) | exact hn115_4) (.int .i64 t109)).trans hx115_0;replace hx115_0 := (cell_far (p := ⟨gb114, 2, none⟩) (by first | (rw [add_block];exact hn115_5) | (show (Addr.add _ _).block ≠ _;rw [add_block];exact hn115_5) | exact hn115_5) (.slice Ao41 t110.length co41)).trans hx115_0;clear hn115_0;clear hn115_1;clear hn115_2;clear hn115_3;clear hn115_4;clear hn115_5;replace p115 := eq_true p115;replace q115 := eq_true q115))
  have n0_ : Aside0 (Kd.V (Kd.int .i64) 3 ((((((w32.setCell ⟨gb113, 0, none⟩ (.int .i64 t103)).setCell ⟨gb113, 1, none⟩ (.int .i64 t104)).setCell ⟨gb113, 2, none⟩ (.slice Ao37 t105.length co37)).setCell ⟨gb114, 0, none⟩ (.int .i64 t108)).setCell ⟨gb114, 1, none⟩ (.int .i64 t109)).setCell ⟨gb114, 2, none⟩ (.slice Ao41 t110.length co41)) w.heap.size (fun k_ => (w.heap.size ≤ k_) ∧ k_ ≠ gb101 ∧ k_ ≠ gb102 ∧ k_ ≠ gb113 ∧ k_ ≠ gb114) (.slice Ao37 t105.length co37) t105) := ⟨by (with_reducible repeat (first | apply Kd.V_alloc | apply Kd.V_drewN | apply Kd.V_drew));exact Kd.V_mono (Kd.V_far (p := ⟨gb114, 2, none⟩) (Kd.V_far (p := ⟨gb114, 1, none⟩) (Kd.V_far (p := ⟨gb114, 0, none⟩) (Kd.V_far (p := ⟨gb113, 2, none⟩) (Kd.V_far (p := ⟨gb113, 1, none⟩) (Kd.V_far (p := ⟨gb113, 0, none⟩) (Kd.V_mono (Kd.V_mono HO107.out (fun k_ hk => (⟨hk, hk.1.2⟩ : _ ∧ k_ ≠ gb113))) (fun k_ hk => (⟨hk, hk.1.2⟩ : _ ∧ k_ ≠ gb114))) (fun _ hk => hk.1.2) (.int .i64 t103)) (fun _ hk => hk.1.2) (.int .i64 t104)) (fun _ hk => hk.1.2) (.slice Ao37 t105.length co37)) (fun _ hk => hk.2) (.int .i64 t108)) (fun _ hk => hk.2) (.int .i64 t109)) (fun _ hk => hk.2) (.slice Ao41 t110.length co41)) (fun _ hk => ⟨hk.1.1.1.1.1, ⟨hk.1.1.1.1.2.1, ⟨hk.1.1.1.1.2.2, ⟨hk.1.1.1.2, hk.1.1.2⟩⟩⟩⟩)⟩
  have n1_ : Aside0 (Kd.V (Kd.int .i64) 3 ((((((w32.setCell ⟨gb113, 0, none⟩ (.int .i64 t103)).setCell ⟨gb113, 1, none⟩ (.int .i64 t104)).setCell ⟨gb113, 2, none⟩ (.slice Ao37 t105.length co37)).setCell ⟨gb114, 0, none⟩ (.int .i64 t108)).setCell ⟨gb114, 1, none⟩ (.int .i64 t109)).setCell ⟨gb114, 2, none⟩ (.slice Ao41 t110.length co41)) w.heap.size (fun k_ => (w.heap.size ≤ k_) ∧ k_ ≠ gb101 ∧ k_ ≠ gb102 ∧ k_ ≠ gb113 ∧ k_ ≠ gb114) (.slice Ao41 t110.length co41) t110) := ⟨by (with_reducible repeat (first | apply Kd.V_alloc | apply Kd.V_drewN | apply Kd.V_drew));exact Kd.V_mono (Kd.V_far (p := ⟨gb114, 2, none⟩) (Kd.V_far (p := ⟨gb114, 1, none⟩) (Kd.V_far (p := ⟨gb114, 0, none⟩) (Kd.V_far (p := ⟨gb113, 2, none⟩) (Kd.V_far (p := ⟨gb113, 1, none⟩) (Kd.V_far (p := ⟨gb113, 0, none⟩) (Kd.V_mono (Kd.V_mono HO112.out (fun k_ hk => (⟨hk, hk.1.2⟩ : _ ∧ k_ ≠ gb113))) (fun k_ hk => (⟨hk, hk.1.2⟩ : _ ∧ k_ ≠ gb114))) (fun _ hk => hk.1.2) (.int .i64 t103)) (fun _ hk => hk.1.2) (.int .i64 t104)) (fun _ hk => hk.1.2) (.slice Ao37 t105.length co37)) (fun _ hk => hk.2) (.int .i64 t108)) (fun _ hk => hk.2) (.int .i64 t109)) (fun _ hk => hk.2) (.slice Ao41 t110.length co41)) (fun _ hk => ⟨hk.1.1.1.1.1, ⟨hk.1.1.1.1.2.1, ⟨hk.1.1.1.1.2.2, ⟨hk.1.1.1.2, hk.1.1.2⟩⟩⟩⟩)⟩
  have n2_ : Aside0 (((((((w32.setCell ⟨gb113, 0, none⟩ (.int .i64 t103)).setCell ⟨gb113, 1, none⟩ (.int .i64 t104)).setCell ⟨gb113, 2, none⟩ (.slice Ao37 t105.length co37)).setCell ⟨gb114, 0, none⟩ (.int .i64 t108)).setCell ⟨gb114, 1, none⟩ (.int .i64 t109)).setCell ⟨gb114, 2, none⟩ (.slice Ao41 t110.length co41)).heap[gb101]? = some (.cells #[.int .i64 0, .int .i64 0, .slice none 0 0] 27 (0, 0))) := ⟨by (with_reducible repeat (first | refine blk_drewN ?_ _ | refine blk_drew ?_ | refine blk_alloc ?_ _));refine blk_far ?_ NB101_114.out _;(with_reducible repeat (first | refine blk_drewN ?_ _ | refine blk_drew ?_ | refine blk_alloc ?_ _));refine blk_far ?_ NB101_114.out _;(with_reducible repeat (first | refine blk_drewN ?_ _ | refine blk_drew ?_ | refine blk_alloc ?_ _));refine blk_far ?_ NB101_114.out _;(with_reducible repeat (first | refine blk_drewN ?_ _ | refine blk_drew ?_ | refine blk_alloc ?_ _));refine blk_far ?_ NB101_113.out _;(with_reducible repeat (first | refine blk_drewN ?_ _ | refine blk_drew ?_ | refine blk_alloc ?_ _));refine blk_far ?_ NB101_113.out _;(with_reducible repeat (first | refine blk_drewN ?_ _ | refine blk_drew ?_ | refine blk_alloc ?_ _));refine blk_far ?_ NB101_113.out _;(with_reducible repeat (first | refine blk_drewN ?_ _ | refine blk_drew ?_ | refine blk_alloc ?_ _));exact BK101.out⟩
  have n3_ : Aside0 (((((((w32.setCell ⟨gb113, 0, none⟩ (.int .i64 t103)).setCell ⟨gb113, 1, none⟩ (.int .i64 t104)).setCell ⟨gb113, 2, none⟩ (.slice Ao37 t105.length co37)).setCell ⟨gb114, 0, none⟩ (.int .i64 t108)).setCell ⟨gb114, 1, none⟩ (.int .i64 t109)).setCell ⟨gb114, 2, none⟩ (.slice Ao41 t110.length co41)).heap[gb102]? = some (.cells #[.int .i64 0, .int .i64 0, .slice none 0 0] 27 (0, 0))) := ⟨by (with_reducible repeat (first | refine blk_drewN ?_ _ | refine blk_drew ?_ | refine blk_alloc ?_ _));refine blk_far ?_ NB102_114.out _;(with_reducible repeat (first | refine blk_drewN ?_ _ | refine blk_drew ?_ | refine blk_alloc ?_ _));refine blk_far ?_ NB102_114.out _;(with_reducible repeat (first | refine blk_drewN ?_ _ | refine blk_drew ?_ | refine blk_alloc ?_ _));refine blk_far ?_ NB102_114.out _;(with_reducible repeat (first | refine blk_drewN ?_ _ | refine blk_drew ?_ | refine blk_alloc ?_ _));refine blk_far ?_ NB102_113.out _;(with_reducible repeat (first | refine blk_drewN ?_ _ | refine blk_drew ?_ | refine blk_alloc ?_ _));refine blk_far ?_ NB102_113.out _;(with_reducible repeat (first | refine blk_drewN ?_ _ | refine blk_drew ?_ | refine blk_alloc ?_ _));refine blk_far ?_ NB102_113.out _;(with_reducible repeat (first | refine blk_drewN ?_ _ | refine blk_drew ?_ | refine blk_alloc ?_ _));exact BK102.out⟩
  have n4_ : Aside0 (((((((w32.setCell ⟨gb113, 0, none⟩ (.int .i64 t103)).setCell ⟨gb113, 1, none⟩ (.int .i64 t104)).setCell ⟨gb113, 2, none⟩ (.slice Ao37 t105.length co37)).setCell ⟨gb114, 0, none⟩ (.int .i64 t108)).setCell ⟨gb114, 1, none⟩ (.int .i64 t109)).setCell ⟨gb114, 2, none⟩ (.slice Ao41 t110.length co41)).heap[gb113]? = some (.cells #[.int .i64 t103, .int .i64 t104, .slice Ao37 t105.length co37] 27 (0, 0))) := ⟨by (with_reducible repeat (first | refine blk_drewN ?_ _ | refine blk_drew ?_ | refine blk_alloc ?_ _));refine blk_far ?_ NB113_114.out _;(with_reducible repeat (first | refine blk_drewN ?_ _ | refine blk_drew ?_ | refine blk_alloc ?_ _));refine blk_far ?_ NB113_114.out _;(with_reducible repeat (first | refine blk_drewN ?_ _ | refine blk_drew ?_ | refine blk_alloc ?_ _));refine blk_far ?_ NB113_114.out _;(with_reducible repeat (first | refine blk_drewN ?_ _ | refine blk_drew ?_ | refine blk_alloc ?_ _));refine blk_put (cs := #[.int .i64 t103, .int .i64 t104, .slice none 0 0]) ?_ 2 _ rfl;(with_reducible repeat (first | refine blk_drewN ?_ _ | refine blk_drew ?_ | refine blk_alloc ?_ _));refine blk_put (cs := #[.int .i64 t103, .int .i64 0, .slice none 0 0]) ?_ 1 _ rfl;(with_reducible repeat (first | refine blk_drewN ?_ _ | refine blk_drew ?_ | refine blk_alloc ?_ _));refine blk_put (cs := #[.int .i64 0, .int .i64 0, .slice none 0 0]) ?_ 0 _ rfl;(with_reducible repeat (first | refine blk_drewN ?_ _ | refine blk_drew ?_ | refine blk_alloc ?_ _));exact BK113.out⟩
  have n5_ : Aside0 (((((((w32.setCell ⟨gb113, 0, none⟩ (.int .i64 t103)).setCell ⟨gb113, 1, none⟩ (.int .i64 t104)).setCell ⟨gb113, 2, none⟩ (.slice Ao37 t105.length co37)).setCell ⟨gb114, 0, none⟩ (.int .i64 t108)).setCell ⟨gb114, 1, none⟩ (.int .i64 t109)).setCell ⟨gb114, 2, none⟩ (.slice Ao41 t110.length co41)).heap[gb114]? = some (.cells #[.int .i64 t108, .int .i64 t109, .slice Ao41 t110.length co41] 27 (0, 0))) := ⟨by (with_reducible repeat (first | refine blk_drewN ?_ _ | refine blk_drew ?_ | refine blk_alloc ?_ _));refine blk_put (cs := #[.int .i64 t108, .int .i64 t109, .slice none 0 0]) ?_ 2 _ rfl;(with_reducible repeat (first | refine blk_drewN ?_ _ | refine blk_drew ?_ | refine blk_alloc ?_ _));refine blk_put (cs := #[.int .i64 t108, .int .i64 0, .slice none 0 0]) ?_ 1 _ rfl;(with_reducible repeat (first | refine blk_drewN ?_ _ | refine blk_drew ?_ | refine blk_alloc ?_ _));refine blk_put (cs := #[.int .i64 0, .int .i64 0, .slice none 0 0]) ?_ 0 _ rfl;(with_reducible repeat (first | refine blk_drewN ?_ _ | refine blk_drew ?_ | refine blk_alloc ?_ _));refine blk_far ?_ NB114_113.out _;(with_reducible repeat (first | refine blk_drewN ?_ _ | refine blk_drew ?_ | refine blk_alloc ?_ _));refine blk_far ?_ NB114_113.out _;(with_reducible repeat (first | refine blk_drewN ?_ _ | refine blk_drew ?_ | refine blk_alloc ?_ _));refine blk_far ?_ NB114_113.out _;(with_reducible repeat (first | refine blk_drewN ?_ _ | refine blk_drew ?_ | refine blk_alloc ?_ _));exact BK114.out⟩
  have n6_ : Aside0 (Below w.heap.size w ((((((w32.setCell ⟨gb113, 0, none⟩ (.int .i64 t103)).setCell ⟨gb113, 1, none⟩ (.int .i64 t104)).setCell ⟨gb113, 2, none⟩ (.slice Ao37 t105.length co37)).setCell ⟨gb114, 0, none⟩ (.int .i64 t108)).setCell ⟨gb114, 1, none⟩ (.int .i64 t109)).setCell ⟨gb114, 2, none⟩ (.slice Ao41 t110.length co41))) := ⟨by repeat (first | (with_reducible first | exact HB.out | apply below_alloc | apply pw_below_drewN | apply below_drew1 | refine below_set ?_ GE101.out | refine below_set ?_ GE102.out | refine below_set ?_ GE113.out | refine below_set ?_ GE114.out) | exact HB.out)⟩
  (try clear HO107)
  (try clear HO112)
  (try clear BK101)
  (try clear BK102)
  (try clear BK113)
  (try clear BK114)
  (try clear HB)
  generalize ((((((w32.setCell ⟨gb113, 0, none⟩ (.int .i64 t103)).setCell ⟨gb113, 1, none⟩ (.int .i64 t104)).setCell ⟨gb113, 2, none⟩ (.slice Ao37 t105.length co37)).setCell ⟨gb114, 0, none⟩ (.int .i64 t108)).setCell ⟨gb114, 1, none⟩ (.int .i64 t109)).setCell ⟨gb114, 2, none⟩ (.slice Ao41 t110.length co41)) = w42 at n0_ n1_ n2_ n3_ n4_ n5_ n6_ ⊢
  have HO107 := n0_
  have HO112 := n1_
  have BK101 := n2_
  have BK102 := n3_
  have BK113 := n4_
  have BK114 := n5_
  have HB := n6_
  clear n0_ n1_ n2_ n3_ n4_ n5_ n6_
  replace HO107 := m0_ (Kd.V_drew HO107.out)
  replace HO112 := m0_ (Kd.V_drew HO112.out)
  replace BK101 := m0_ (blk_drew BK101.out)
  replace BK102 := m0_ (blk_drew BK102.out)
  replace BK113 := m0_ (blk_drew BK113.out)
  replace BK114 := m0_ (blk_drew BK114.out)
  replace HB := m0_ (below_drew1 HB.out)
  refine start_ (n := 4) (S := fun w' => w'.cell? ⟨gb113, 0, none⟩ = some (.int .i64 t103) ∧ w'.cell? ⟨gb113, 1, none⟩ = some (.int .i64 t104) ∧ w'.cell? ⟨gb113, 2, none⟩ = some (.slice Ao37 t105.length co37) ∧ w'.cell? ⟨gb114, 0, none⟩ = some (.int .i64 t108) ∧ w'.cell? ⟨gb114, 1, none⟩ = some (.int .i64 t109) ∧ w'.cell? ⟨gb114, 2, none⟩ = some (.slice Ao41 t110.length co41)) (ds := []) #[false, false, false, false] (by kernel_rfl) rfl rfl ⟨(blk_cell BK113.out 0).trans rfl, (blk_cell BK113.out 1).trans rfl, (blk_cell BK113.out 2).trans rfl, (blk_cell BK114.out 0).trans rfl, (blk_cell BK114.out 1).trans rfl, (blk_cell BK114.out 2).trans rfl⟩ (fun hHeld => ?_)
  generalize w42.drew = w43 at HO107 HO112 BK101 BK102 BK113 BK114 HB hHeld ⊢
  refine take_ (i := 0) (N := some 22) (v := ?_) (a' := ?_) #[true, false, false, false] rfl rfl (by kernel_rfl) (fun _ _ _ h => h) (Or.inl ⟨by rfl, ?_⟩) hHeld ?_ ?_
  rotate_left
  ·rintro w' ⟨s0, s1, s2, s3, s4, s5⟩
   go_simp
   with_reducible rfl
  rotate_left
  ·simp only [Act.put, List.setIfInBounds_toArray, List.set_cons_zero, List.set_cons_succ, i64_w, i32_w]
   rfl
  refine take_ (i := 1) (N := some 23) (v := ?_) (a' := ?_) #[true, true, false, false] rfl rfl (by kernel_rfl) (fun _ _ _ h => h) (Or.inl ⟨by rfl, ?_⟩) hHeld ?_ ?_
  rotate_left
  ·rintro w' ⟨s0, s1, s2, s3, s4, s5⟩
   go_simp
   with_reducible rfl
  rotate_left
  ·simp only [Act.put, List.setIfInBounds_toArray, List.set_cons_zero, List.set_cons_succ, i64_w, i32_w]
   rfl
  refine one_ (i := 2) (N := none) #[true, true, true, false] rfl rfl (by kernel_rfl) (by decide) (fun K hK => ?_)
  have hs44 : w43.cell? ⟨gb101, 0, none⟩ = some (.int .i64 0) := (blk_cell BK101.out 0).trans rfl
  have hfs44 := blk_frozen BK101.out 0
  have hns44_1 := NB102_101.out
  have hns44_2 := NB113_101.out
  have hns44_3 := NB114_101.out
  have hms44_1 := NB101_102.out
  have hms44_2 := NB101_113.out
  have hms44_3 := NB101_114.out
  have hs45 : w43.cell? ⟨gb101, 1, none⟩ = some (.int .i64 0) := (blk_cell BK101.out 1).trans rfl
  have hfs45 := blk_frozen BK101.out 1
  have hns45_1 := NB102_101.out
  have hns45_2 := NB113_101.out
  have hns45_3 := NB114_101.out
  have hms45_1 := NB101_102.out
  have hms45_2 := NB101_113.out
  have hms45_3 := NB101_114.out
  have hs46 : w43.cell? ⟨gb101, 2, none⟩ = some (.slice none 0 0) := (blk_cell BK101.out 2).trans rfl
  have hfs46 := blk_frozen BK101.out 2
  have hns46_1 := NB102_101.out
  have hns46_2 := NB113_101.out
  have hns46_3 := NB114_101.out
  have hms46_1 := NB101_102.out
  have hms46_2 := NB101_113.out
  have hms46_3 := NB101_114.out
  refine skip_ (w1 := ?_) (by rfl) rfl ?_ ?_
  rotate_left
  ·go_simp
   rfl
  refine hK.out _ _ ⟨((cell_far (p := ⟨gb101, _, none⟩) NB113_101.out _).trans (((cell_far (p := ⟨gb101, _, none⟩) NB113_101.out _).trans (((cell_far (p := ⟨gb101, _, none⟩) NB113_101.out _).trans (hHeld.1)))))), ((cell_far (p := ⟨gb101, _, none⟩) NB113_101.out _).trans (((cell_far (p := ⟨gb101, _, none⟩) NB113_101.out _).trans (((cell_far (p := ⟨gb101, _, none⟩) NB113_101.out _).trans (hHeld.2.1)))))), ((cell_far (p := ⟨gb101, _, none⟩) NB113_101.out _).trans (((cell_far (p := ⟨gb101, _, none⟩) NB113_101.out _).trans (((cell_far (p := ⟨gb101, _, none⟩) NB113_101.out _).trans (hHeld.2.2.1)))))), ((cell_far (p := ⟨gb101, _, none⟩) NB114_101.out _).trans (((cell_far (p := ⟨gb101, _, none⟩) NB114_101.out _).trans (((cell_far (p := ⟨gb101, _, none⟩) NB114_101.out _).trans (hHeld.2.2.2.1)))))), ((cell_far (p := ⟨gb101, _, none⟩) NB114_101.out _).trans (((cell_far (p := ⟨gb101, _, none⟩) NB114_101.out _).trans (((cell_far (p := ⟨gb101, _, none⟩) NB114_101.out _).trans (hHeld.2.2.2.2.1)))))), ((cell_far (p := ⟨gb101, _, none⟩) NB114_101.out _).trans (((cell_far (p := ⟨gb101, _, none⟩) NB114_101.out _).trans (((cell_far (p := ⟨gb101, _, none⟩) NB114_101.out _).trans (hHeld.2.2.2.2.2))))))⟩ (fun hHeld => ?_)
  clear hK K
  refine one_ (i := 3) (N := none) #[true, true, true, true] rfl rfl (by kernel_rfl) (by decide) (fun K hK => ?_)
  have hs47 : w43.cell? ⟨gb102, 0, none⟩ = some (.int .i64 0) := (blk_cell BK102.out 0).trans rfl
  have hfs47 := blk_frozen BK102.out 0
  have hns47_0 := NB101_102.out
  have hns47_2 := NB113_102.out
  have hns47_3 := NB114_102.out
  have hms47_0 := NB102_101.out
  have hms47_2 := NB102_113.out
  have hms47_3 := NB102_114.out
  have hs48 : w43.cell? ⟨gb102, 1, none⟩ = some (.int .i64 0) := (blk_cell BK102.out 1).trans rfl
  have hfs48 := blk_frozen BK102.out 1
  have hns48_0 := NB101_102.out
  have hns48_2 := NB113_102.out
  have hns48_3 := NB114_102.out
  have hms48_0 := NB102_101.out
  have hms48_2 := NB102_113.out
  have hms48_3 := NB102_114.out
  have hs49 : w43.cell? ⟨gb102, 2, none⟩ = some (.slice none 0 0) := (blk_cell BK102.out 2).trans rfl
  have hfs49 := blk_frozen BK102.out 2
  have hns49_0 := NB101_102.out
  have hns49_2 := NB113_102.out
  have hns49_3 := NB114_102.out
  have hms49_0 := NB102_101.out
  have hms49_2 := NB102_113.out
  have hms49_3 := NB102_114.out
  refine skip_ (w1 := ?_) (by rfl) rfl ?_ ?_
  rotate_left
  ·go_simp
   rfl
  refine hK.out _ _ ⟨((cell_far (p := ⟨gb102, _, none⟩) NB113_102.out _).trans (((cell_far (p := ⟨gb102, _, none⟩) NB113_102.out _).trans (((cell_far (p := ⟨gb102, _, none⟩) NB113_102.out _).trans (hHeld.1)))))), ((cell_far (p := ⟨gb102, _, none⟩) NB113_102.out _).trans (((cell_far (p := ⟨gb102, _, none⟩) NB113_102.out _).trans (((cell_far (p := ⟨gb102, _, none⟩) NB113_102.out _).trans (hHeld.2.1)))))), ((cell_far (p := ⟨gb102, _, none⟩) NB113_102.out _).trans (((cell_far (p := ⟨gb102, _, none⟩) NB113_102.out _).trans (((cell_far (p := ⟨gb102, _, none⟩) NB113_102.out _).trans (hHeld.2.2.1)))))), ((cell_far (p := ⟨gb102, _, none⟩) NB114_102.out _).trans (((cell_far (p := ⟨gb102, _, none⟩) NB114_102.out _).trans (((cell_far (p := ⟨gb102, _, none⟩) NB114_102.out _).trans (hHeld.2.2.2.1)))))), ((cell_far (p := ⟨gb102, _, none⟩) NB114_102.out _).trans (((cell_far (p := ⟨gb102, _, none⟩) NB114_102.out _).trans (((cell_far (p := ⟨gb102, _, none⟩) NB114_102.out _).trans (hHeld.2.2.2.2.1)))))), ((cell_far (p := ⟨gb102, _, none⟩) NB114_102.out _).trans (((cell_far (p := ⟨gb102, _, none⟩) NB114_102.out _).trans (((cell_far (p := ⟨gb102, _, none⟩) NB114_102.out _).trans (hHeld.2.2.2.2.2))))))⟩ (fun hHeld => ?_)
  clear hK K
  refine done_ (by kernel_rfl) ?_
  try go_wp2
  refine bodyPost_ret (results_cc rfl _ _ gb101 gb102 27 27 #[.int .i64 t103, .int .i64 t104, .slice Ao37 t105.length co37] #[.int .i64 t108, .int .i64 t109, .slice Ao41 t110.length co41] (0, 0) (0, 0) _ _ rfl (by (with_reducible repeat (first | refine blk_drewN ?_ _ | refine blk_drew ?_ | refine blk_alloc ?_ _));refine blk_far ?_ NB101_102.out _;(with_reducible repeat (first | refine blk_drewN ?_ _ | refine blk_drew ?_ | refine blk_alloc ?_ _));refine blk_far ?_ NB101_102.out _;(with_reducible repeat (first | refine blk_drewN ?_ _ | refine blk_drew ?_ | refine blk_alloc ?_ _));refine blk_far ?_ NB101_102.out _;(with_reducible repeat (first | refine blk_drewN ?_ _ | refine blk_drew ?_ | refine blk_alloc ?_ _));refine blk_put (cs := #[.int .i64 t103, .int .i64 t104, .slice none 0 0]) ?_ 2 _ rfl;(with_reducible repeat (first | refine blk_drewN ?_ _ | refine blk_drew ?_ | refine blk_alloc ?_ _));refine blk_put (cs := #[.int .i64 t103, .int .i64 0, .slice none 0 0]) ?_ 1 _ rfl;(with_reducible repeat (first | refine blk_drewN ?_ _ | refine blk_drew ?_ | refine blk_alloc ?_ _));refine blk_put (cs := #[.int .i64 0, .int .i64 0, .slice none 0 0]) ?_ 0 _ rfl;(with_reducible repeat (first | refine blk_drewN ?_ _ | refine blk_drew ?_ | refine blk_alloc ?_ _));exact BK101.out) Try.underlying27 rfl (by kernel_rfl) rfl (by (with_reducible repeat (first | refine blk_drewN ?_ _ | refine blk_drew ?_ | refine blk_alloc ?_ _));refine blk_put (cs := #[.int .i64 t108, .int .i64 t109, .slice none 0 0]) ?_ 2 _ rfl;(with_reducible repeat (first | refine blk_drewN ?_ _ | refine blk_drew ?_ | refine blk_alloc ?_ _));refine blk_put (cs := #[.int .i64 t108, .int .i64 0, .slice none 0 0]) ?_ 1 _ rfl;(with_reducible repeat (first | refine blk_drewN ?_ _ | refine blk_drew ?_ | refine blk_alloc ?_ _));refine blk_put (cs := #[.int .i64 0, .int .i64 0, .slice none 0 0]) ?_ 0 _ rfl;(with_reducible repeat (first | refine blk_drewN ?_ _ | refine blk_drew ?_ | refine blk_alloc ?_ _));refine blk_far ?_ NB102_101.out _;(with_reducible repeat (first | refine blk_drewN ?_ _ | refine blk_drew ?_ | refine blk_alloc ?_ _));refine blk_far ?_ NB102_101.out _;(with_reducible repeat (first | refine blk_drewN ?_ _ | refine blk_drew ?_ | refine blk_alloc ?_ _));refine blk_far ?_ NB102_101.out _;(with_reducible repeat (first | refine blk_drewN ?_ _ | refine blk_drew ?_ | refine blk_alloc ?_ _));exact BK102.out) Try.underlying27 rfl (by kernel_rfl)) rfl ?_
  exact ⟨_, _, by first | rfl | (simp [errW_none, errW_some] <;> rfl) | (simp [*, errW_none, errW_some] <;> rfl), by (with_reducible repeat (first | apply Kd.V_alloc | apply Kd.V_drewN | apply Kd.V_drew));exact Kd.V_mono (Kd.V_far (p := ⟨gb102, 2, none⟩) (Kd.V_far (p := ⟨gb102, 1, none⟩) (Kd.V_far (p := ⟨gb102, 0, none⟩) (Kd.V_far (p := ⟨gb101, 2, none⟩) (Kd.V_far (p := ⟨gb101, 1, none⟩) (Kd.V_far (p := ⟨gb101, 0, none⟩) (Kd.V_mono (Kd.V_mono HO107.out (fun k_ hk => (⟨hk, hk.2.1⟩ : _ ∧ k_ ≠ gb101))) (fun k_ hk => (⟨hk, hk.1.2.2.1⟩ : _ ∧ k_ ≠ gb102))) (fun _ hk => hk.1.2) (.int .i64 t103)) (fun _ hk => hk.1.2) (.int .i64 t104)) (fun _ hk => hk.1.2) (.slice Ao37 t105.length co37)) (fun _ hk => hk.2) (.int .i64 t108)) (fun _ hk => hk.2) (.int .i64 t109)) (fun _ hk => hk.2) (.slice Ao41 t110.length co41)) (fun _ hk => hk.1.1.1), by (with_reducible repeat (first | apply Kd.V_alloc | apply Kd.V_drewN | apply Kd.V_drew));exact Kd.V_mono (Kd.V_far (p := ⟨gb102, 2, none⟩) (Kd.V_far (p := ⟨gb102, 1, none⟩) (Kd.V_far (p := ⟨gb102, 0, none⟩) (Kd.V_far (p := ⟨gb101, 2, none⟩) (Kd.V_far (p := ⟨gb101, 1, none⟩) (Kd.V_far (p := ⟨gb101, 0, none⟩) (Kd.V_mono (Kd.V_mono HO112.out (fun k_ hk => (⟨hk, hk.2.1⟩ : _ ∧ k_ ≠ gb101))) (fun k_ hk => (⟨hk, hk.1.2.2.1⟩ : _ ∧ k_ ≠ gb102))) (fun _ hk => hk.1.2) (.int .i64 t103)) (fun _ hk => hk.1.2) (.int .i64 t104)) (fun _ hk => hk.1.2) (.slice Ao37 t105.length co37)) (fun _ hk => hk.2) (.int .i64 t108)) (fun _ hk => hk.2) (.int .i64 t109)) (fun _ hk => hk.2) (.slice Ao41 t110.length co41)) (fun _ hk => hk.1.1.1), by repeat (first | (with_reducible first | exact HB.out | apply below_alloc | apply pw_below_drewN | apply below_drew1 | refine below_set ?_ GE101.out | refine below_set ?_ GE102.out | refine below_set ?_ GE113.out | refine below_set ?_ GE114.out) | exact HB.out)⟩
 rw [if_pos c5] at H
 have c5b0 : ((Int.tmod (rd l0 2) 16) == 1) = true := beq_iff_eq.mpr c5
 have c5b1 : ((Int.tmod (rd l0 2) 16) != 1) = false := bne_eq_false_iff_eq.mpr c5
 clear c5
 simp only [Option.some.injEq, Prod.mk.injEq] at H
 obtain ⟨rfl, rfl, rfl, rfl, rfl, rfl⟩ := H
 go_enter Try.func52, Try.ntmps52
 try go_wp2_with (first | ((with_reducible refine gate_dst (N := 2) rfl ?_);refine box_event ?hg (N := 2) ?hd (cs := #[.int .i64 0, .int .i64 0, .slice none 0 0]) (t := 27) ?hr ?_;(case hd => rfl);(case hg => rfl);(case hr => first | (go_simp;done) | (go_simp;rfl));intro gb101 hg w6 hbox hb;have BK101 := m0_ (hbox);have GW101 := m0_ ((by rw [hg];exact (below_size (by exact HB.out)) : w.heap.size ≤ gb101));have GE101 := m0_ ((by rw [hg];exact (below_size (by exact HB.out)) : w.heap.size ≤ gb101));replace HB := m0_ (below_step (by exact HB.out) hb);clear hb hbox hg) | ((with_reducible refine gate_dst (N := 3) rfl ?_);refine box_event ?hg (N := 3) ?hd (cs := #[.int .i64 0, .int .i64 0, .slice none 0 0]) (t := 27) ?hr ?_;(case hd => rfl);(case hg => rfl);(case hr => first | (go_simp;done) | (go_simp;rfl));intro gb102 hg w7 hbox hb;have BK102 := m0_ (hbox);have GW102 := m0_ ((by rw [hg];exact (below_size (by exact HB.out)) : w.heap.size ≤ gb102));have GE102 := m0_ ((by rw [hg];exact (below_size (by exact HB.out)) : w.heap.size ≤ gb102));replace HB := m0_ (below_step (by exact HB.out) hb);have NB101_102 := m0_ ((by rw [hg];exact Nat.ne_of_lt (blk_lt BK101.out) : gb101 ≠ gb102));have NB102_101 := m0_ ((by rw [hg];exact Nat.ne_of_gt (blk_lt BK101.out) : gb102 ≠ gb101));replace BK101 := m0_ (blk_below BK101.out hb);clear hb hbox hg) | ((with_reducible refine gate_callee (f := 44) rfl ?_);refine goesL_ (some 8) rfl rfl Try.func44 (by kernel_rfl) rfl #[.slice A0 l0.length c0] rfl (by (try simp only [List.map_toArray, List.map_cons, List.map_nil]);first | done | rfl | (simp only [List.length_drop, List.length_take];rfl)) ?_;(with_reducible refine (spec_DrawOccLess.calls k _ _ l0 t103 t104 t105 t108 t109 t110 _ ?side1 ?side2 A2.out).mono ?_);(case side1 => repeat (first | exact (Kd.C_below HR0.out HB.out) | (with_reducible refine Kd.C_alloc ?_ _) | (with_reducible refine Kd.C_drewN ?_ _) | (with_reducible refine Kd.C_drew ?_)));(case side2 => exact HC0.out);rintro e w8 ⟨v106, v111, rfl, ho0, ho1, hb⟩;refine ⟨_, rfl, ?_⟩;have HO107 := m0_ (Kd.V_lower (Kd.V_mono (ok' := fun k_ => (w.heap.size ≤ k_) ∧ k_ ≠ gb101 ∧ k_ ≠ gb102) ho0 (fun k_ hk_ => ⟨(Nat.le_trans (below_size (by exact HB.out)) hk_), (Kd.freshB BK101.out k_ hk_), (Kd.freshB BK102.out k_ hk_)⟩)) (below_size (by exact HB.out)));have HO112 := m0_ (Kd.V_lower (Kd.V_mono (ok' := fun k_ => (w.heap.size ≤ k_) ∧ k_ ≠ gb101 ∧ k_ ≠ gb102) ho1 (fun k_ hk_ => ⟨(Nat.le_trans (below_size (by exact HB.out)) hk_), (Kd.freshB BK101.out k_ hk_), (Kd.freshB BK102.out k_ hk_)⟩)) (below_size (by exact HB.out)));replace BK101 := m0_ (blk_below BK101.out hb);replace BK102 := m0_ (blk_below BK102.out hb);replace HB := m0_ (below_step (by exact HB.out) hb);(try clear hb);(try clear hb2);(try clear hk);(try clear hi);(try clear ho0);(try clear ho1)) | ((with_reducible refine gate_dst (N := 4) rfl ?_);refine box_event ?hg (N := 4) ?hd (cs := #[.int .i64 0, .int .i64 0, .slice none 0 0]) (t := 27) ?hr ?_;(case hd => rfl);(case hg => rfl);(case hr => first | (go_simp;done) | (go_simp;rfl));intro gb113 hg w9 hbox hb;replace HO107 := m0_ (Kd.V_below (Kd.V_elderB (by exact HO107.out) gb113 (Nat.le_of_eq hg.symm)) hb);replace HO112 := m0_ (Kd.V_below (Kd.V_elderB (by exact HO112.out) gb113 (Nat.le_of_eq hg.symm)) hb);have BK113 := m0_ (hbox);have GW113 := m0_ ((by rw [hg];exact (below_size (by exact HB.out)) : w.heap.size ≤ gb113));have GE113 := m0_ ((by rw [hg];exact (below_size (by exact HB.out)) : w.heap.size ≤ gb113));replace HB := m0_ (below_step (by exact HB.out) hb);have NB101_113 := m0_ ((by rw [hg];exact Nat.ne_of_lt (blk_lt BK101.out) : gb101 ≠ gb113));have NB113_101 := m0_ ((by rw [hg];exact Nat.ne_of_gt (blk_lt BK101.out) : gb113 ≠ gb101));replace BK101 := m0_ (blk_below BK101.out hb);have NB102_113 := m0_ ((by rw [hg];exact Nat.ne_of_lt (blk_lt BK102.out) : gb102 ≠ gb113));have NB113_102 := m0_ ((by rw [hg];exact Nat.ne_of_gt (blk_lt BK102.out) : gb113 ≠ gb102));replace BK102 := m0_ (blk_below BK102.out hb);clear hb hbox hg) | ((with_reducible refine gate_dst (N := 5) rfl ?_);refine box_event ?hg (N := 5) ?hd (cs := #[.int .i64 0, .int .i64 0, .slice none 0 0]) (t := 27) ?hr ?_;(case hd => rfl);(case hg => rfl);(case hr => first | (go_simp;done) | (go_simp;rfl));intro gb114 hg w10 hbox hb;replace HO107 := m0_ (Kd.V_below (Kd.V_elderB (by exact HO107.out) gb114 (Nat.le_of_eq hg.symm)) hb);replace HO112 := m0_ (Kd.V_below (Kd.V_elderB (by exact HO112.out) gb114 (Nat.le_of_eq hg.symm)) hb);have BK114 := m0_ (hbox);have GW114 := m0_ ((by rw [hg];exact (below_size (by exact HB.out)) : w.heap.size ≤ gb114));have GE114 := m0_ ((by rw [hg];exact (below_size (by exact HB.out)) : w.heap.size ≤ gb114));replace HB := m0_ (below_step (by exact HB.out) hb);have NB101_114 := m0_ ((by rw [hg];exact Nat.ne_of_lt (blk_lt BK101.out) : gb101 ≠ gb114));have NB114_101 := m0_ ((by rw [hg];exact Nat.ne_of_gt (blk_lt BK101.out) : gb114 ≠ gb101));replace BK101 := m0_ (blk_below BK101.out hb);have NB102_114 := m0_ ((by rw [hg];exact Nat.ne_of_lt (blk_lt BK102.out) : gb102 ≠ gb114));have NB114_102 := m0_ ((by rw [hg];exact Nat.ne_of_gt (blk_lt BK102.out) : gb114 ≠ gb102));replace BK102 := m0_ (blk_below BK102.out hb);have NB113_114 := m0_ ((by rw [hg];exact Nat.ne_of_lt (blk_lt BK113.out) : gb113 ≠ gb114));have NB114_113 := m0_ ((by rw [hg];exact Nat.ne_of_gt (blk_lt BK113.out) : gb114 ≠ gb113));replace BK113 := m0_ (blk_below BK113.out hb);clear hb hbox hg;have hnb11 := NB113_101.out;have hnc11 := NB101_113.out;have hnb12 := NB113_102.out;have hnc12 := NB102_113.out;have hnb13 := NB113_114.out;have hnc13 := NB114_113.out;obtain ⟨hcz14_0, hcz14_1, hcz14_2, hfz14_0, hfz14_1, hfz14_2⟩ := bx3 BK113.out;obtain ⟨Ao15, co15, eo15⟩ := Kd.V_slice HO107.out;subst eo15;have hnb16 := NB114_101.out;have hnc16 := NB101_114.out;have hnb17 := NB114_102.out;have hnc17 := NB102_114.out;obtain ⟨hcz18_0, hcz18_1, hcz18_2, hfz18_0, hfz18_1, hfz18_2⟩ := bx3 BK114.out;obtain ⟨Ao19, co19, eo19⟩ := Kd.V_slice HO112.out;subst eo19;have p115 : 0 ≤ (2 : Int) := (by omega);have q115 : 2 < (l0.length : Int) := of_decide_eq_true (by first | (with_reducible assumption) | assumption);obtain ⟨ad115, e115, hx115_0⟩ := Kd.at_int HR0.out 2 p115 q115;cases e115;(try simp only [show (2 : Int).toNat = 2 from rfl, Nat.reduceMul, Nat.reduceEqDiff, Go.Addr.add, ↓reduceIte] at hx115_0);have qi115 : (2 < l0.length) = True := eq_true (by omega);(try rw [show ((2 : Int)).toNat = 2 from rfl] at hx115_0);have hn115_0 : ad115.block ≠ gb113 := Nat.ne_of_lt (Nat.lt_of_lt_of_le (by have := World.block_lt_of_cell? _ _ hx115_0;first | rwa [add_block] at this | exact this) GW113.out);have hn115_1 : ad115.block ≠ gb113 := Nat.ne_of_lt (Nat.lt_of_lt_of_le (by have := World.block_lt_of_cell? _ _ hx115_0;first | rwa [add_block] at this | exact this) GW113.out);have hn115_2 : ad115.block ≠ gb113 := Nat.ne_of_lt (Nat.lt_of_lt_of_le (by have := World.block_lt_of_cell? _ _ hx115_0;first | rwa [add_block] at this | exact this) GW113.out);have hn115_3 : ad115.block ≠ gb114 := Nat.ne_of_lt (Nat.lt_of_lt_of_le (by have := World.block_lt_of_cell? _ _ hx115_0;first | rwa [add_block] at this | exact this) GW114.out);have hn115_4 : ad115.block ≠ gb114 := Nat.ne_of_lt (Nat.lt_of_lt_of_le (by have := World.block_lt_of_cell? _ _ hx115_0;first | rwa [add_block] at this | exact this) GW114.out);have hn115_5 : ad115.block ≠ gb114 := Nat.ne_of_lt (Nat.lt_of_lt_of_le (by have := World.block_lt_of_cell? _ _ hx115_0;first | rwa [add_block] at this | exact this) GW114.out);replace hx115_0 := (HB.out.cell (World.block_lt_of_cell? w _ hx115_0)).trans hx115_0;replace hx115_0 := (cell_far (p := ⟨gb113, 0, none⟩) (by first | (rw [add_block];exact hn115_0) | (show (Addr.add _ _).block ≠ _;rw [add_block];exact hn115_0) | exact hn115_0) (.int .i64 t103)).trans hx115_0;replace hx115_0 := (cell_far (p := ⟨gb113, 1, none⟩) (by first | (rw [add_block];exact hn115_1) | (show (Addr.add _ _).block ≠ _;rw [add_block];exact hn115_1) | exact hn115_1) (.int .i64 t104)).trans hx115_0;replace hx115_0 := (cell_far (p := ⟨gb113, 2, none⟩) (by first | (rw [add_block];exact hn115_2) | (show (Addr.add _ _).block ≠ _;rw [add_block];exact hn115_2) | exact hn115_2) (.slice Ao15 t105.length co15)).trans hx115_0;replace hx115_0 := (cell_far (p := ⟨gb114, 0, none⟩) (by first | (rw [add_block];exact hn115_3) | (show (Addr.add _ _).block ≠ _;rw [add_block];exact hn115_3) | exact hn115_3) (.int .i64 t108)).trans hx115_0;replace hx115_0 := (cell_far (p := ⟨gb114, 1, none⟩) (by first | (rw [add_block];exact hn115_4) | (show (Addr.add _ _).block ≠ _;rw [add_block];exact hn115_4) | exact hn115_4) (.int .i64 t109)).trans hx115_0;replace hx115_0 := (cell_far (p := ⟨gb114, 2, none⟩) (by first | (rw [add_block];exact hn115_5) | (show (Addr.add _ _).block ≠ _;rw [add_block];exact hn115_5) | exact hn115_5) (.slice Ao19 t110.length co19)).trans hx115_0;clear hn115_0;clear hn115_1;clear hn115_2;clear hn115_3;clear hn115_4;clear hn115_5;replace p115 := eq_true p115;replace q115 := eq_true q115))
 have n0_ : Aside0 (Kd.V (Kd.int .i64) 3 (((((((w10.setCell ⟨gb113, 0, none⟩ (.int .i64 t103)).setCell ⟨gb113, 1, none⟩ (.int .i64 t104)).setCell ⟨gb113, 2, none⟩ (.slice Ao15 t105.length co15)).setCell ⟨gb114, 0, none⟩ (.int .i64 t108)).setCell ⟨gb114, 1, none⟩ (.int .i64 t109)).setCell ⟨gb114, 2, none⟩ (.slice Ao19 t110.length co19)).setCell ⟨gb113, 0, none⟩ (.int .i64 0)) w.heap.size (fun k_ => (w.heap.size ≤ k_) ∧ k_ ≠ gb101 ∧ k_ ≠ gb102 ∧ k_ ≠ gb113 ∧ k_ ≠ gb114) (.slice Ao15 t105.length co15) t105) := ⟨by (with_reducible repeat (first | apply Kd.V_alloc | apply Kd.V_drewN | apply Kd.V_drew));exact Kd.V_mono (Kd.V_far (p := ⟨gb113, 0, none⟩) (Kd.V_far (p := ⟨gb114, 2, none⟩) (Kd.V_far (p := ⟨gb114, 1, none⟩) (Kd.V_far (p := ⟨gb114, 0, none⟩) (Kd.V_far (p := ⟨gb113, 2, none⟩) (Kd.V_far (p := ⟨gb113, 1, none⟩) (Kd.V_far (p := ⟨gb113, 0, none⟩) (Kd.V_mono (Kd.V_mono HO107.out (fun k_ hk => (⟨hk, hk.1.2⟩ : _ ∧ k_ ≠ gb113))) (fun k_ hk => (⟨hk, hk.1.2⟩ : _ ∧ k_ ≠ gb114))) (fun _ hk => hk.1.2) (.int .i64 t103)) (fun _ hk => hk.1.2) (.int .i64 t104)) (fun _ hk => hk.1.2) (.slice Ao15 t105.length co15)) (fun _ hk => hk.2) (.int .i64 t108)) (fun _ hk => hk.2) (.int .i64 t109)) (fun _ hk => hk.2) (.slice Ao19 t110.length co19)) (fun _ hk => hk.1.2) (.int .i64 0)) (fun _ hk => ⟨hk.1.1.1.1.1, ⟨hk.1.1.1.1.2.1, ⟨hk.1.1.1.1.2.2, ⟨hk.1.1.1.2, hk.1.1.2⟩⟩⟩⟩)⟩
 have n1_ : Aside0 (Kd.V (Kd.int .i64) 3 (((((((w10.setCell ⟨gb113, 0, none⟩ (.int .i64 t103)).setCell ⟨gb113, 1, none⟩ (.int .i64 t104)).setCell ⟨gb113, 2, none⟩ (.slice Ao15 t105.length co15)).setCell ⟨gb114, 0, none⟩ (.int .i64 t108)).setCell ⟨gb114, 1, none⟩ (.int .i64 t109)).setCell ⟨gb114, 2, none⟩ (.slice Ao19 t110.length co19)).setCell ⟨gb113, 0, none⟩ (.int .i64 0)) w.heap.size (fun k_ => (w.heap.size ≤ k_) ∧ k_ ≠ gb101 ∧ k_ ≠ gb102 ∧ k_ ≠ gb113 ∧ k_ ≠ gb114) (.slice Ao19 t110.length co19) t110) := ⟨by (with_reducible repeat (first | apply Kd.V_alloc | apply Kd.V_drewN | apply Kd.V_drew));exact Kd.V_mono (Kd.V_far (p := ⟨gb113, 0, none⟩) (Kd.V_far (p := ⟨gb114, 2, none⟩) (Kd.V_far (p := ⟨gb114, 1, none⟩) (Kd.V_far (p := ⟨gb114, 0, none⟩) (Kd.V_far (p := ⟨gb113, 2, none⟩) (Kd.V_far (p := ⟨gb113, 1, none⟩) (Kd.V_far (p := ⟨gb113, 0, none⟩) (Kd.V_mono (Kd.V_mono HO112.out (fun k_ hk => (⟨hk, hk.1.2⟩ : _ ∧ k_ ≠ gb113))) (fun k_ hk => (⟨hk, hk.1.2⟩ : _ ∧ k_ ≠ gb114))) (fun _ hk => hk.1.2) (.int .i64 t103)) (fun _ hk => hk.1.2) (.int .i64 t104)) (fun _ hk => hk.1.2) (.slice Ao15 t105.length co15)) (fun _ hk => hk.2) (.int .i64 t108)) (fun _ hk => hk.2) (.int .i64 t109)) (fun _ hk => hk.2) (.slice Ao19 t110.length co19)) (fun _ hk => hk.1.2) (.int .i64 0)) (fun _ hk => ⟨hk.1.1.1.1.1, ⟨hk.1.1.1.1.2.1, ⟨hk.1.1.1.1.2.2, ⟨hk.1.1.1.2, hk.1.1.2⟩⟩⟩⟩)⟩
 have n2_ : Aside0 ((((((((w10.setCell ⟨gb113, 0, none⟩ (.int .i64 t103)).setCell ⟨gb113, 1, none⟩ (.int .i64 t104)).setCell ⟨gb113, 2, none⟩ (.slice Ao15 t105.length co15)).setCell ⟨gb114, 0, none⟩ (.int .i64 t108)).setCell ⟨gb114, 1, none⟩ (.int .i64 t109)).setCell ⟨gb114, 2, none⟩ (.slice Ao19 t110.length co19)).setCell ⟨gb113, 0, none⟩ (.int .i64 0)).heap[gb101]? = some (.cells #[.int .i64 0, .int .i64 0, .slice none 0 0] 27 (0, 0))) := ⟨by (with_reducible repeat (first | refine blk_drewN ?_ _ | refine blk_drew ?_ | refine blk_alloc ?_ _));refine blk_far ?_ NB101_113.out _;(with_reducible repeat (first | refine blk_drewN ?_ _ | refine blk_drew ?_ | refine blk_alloc ?_ _));refine blk_far ?_ NB101_114.out _;(with_reducible repeat (first | refine blk_drewN ?_ _ | refine blk_drew ?_ | refine blk_alloc ?_ _));refine blk_far ?_ NB101_114.out _;(with_reducible repeat (first | refine blk_drewN ?_ _ | refine blk_drew ?_ | refine blk_alloc ?_ _));refine blk_far ?_ NB101_114.out _;(with_reducible repeat (first | refine blk_drewN ?_ _ | refine blk_drew ?_ | refine blk_alloc ?_ _));refine blk_far ?_ NB101_113.out _;(with_reducible repeat (first | refine blk_drewN ?_ _ | refine blk_drew ?_ | refine blk_alloc ?_ _));refine blk_far ?_ NB101_113.out _;(with_reducible repeat (first | refine blk_drewN ?_ _ | refine blk_drew ?_ | refine blk_alloc ?_ _));refine blk_far ?_ NB101_113.out _;(with_reducible repeat (first | refine blk_drewN ?_ _ | refine blk_drew ?_ | refine blk_alloc ?_ _));exact BK101.out⟩
 have n3_ : Aside0 ((((((((w10.setCell ⟨gb113, 0, none⟩ (.int .i64 t103)).setCell ⟨gb113, 1, none⟩ (.int .i64 t104)).setCell ⟨gb113, 2, none⟩ (.slice Ao15 t105.length co15)).setCell ⟨gb114, 0, none⟩ (.int .i64 t108)).setCell ⟨gb114, 1, none⟩ (.int .i64 t109)).setCell ⟨gb114, 2, none⟩ (.slice Ao19 t110.length co19)).setCell ⟨gb113, 0, none⟩ (.int .i64 0)).heap[gb102]? = some (.cells #[.int .i64 0, .int .i64 0, .slice none 0 0] 27 (0, 0))) := ⟨by (with_reducible repeat (first | refine blk_drewN ?_ _ | refine blk_drew ?_ | refine blk_alloc ?_ _));refine blk_far ?_ NB102_113.out _;(with_reducible repeat (first | refine blk_drewN ?_ _ | refine blk_drew ?_ | refine blk_alloc ?_ _));refine blk_far ?_ NB102_114.out _;(with_reducible repeat (first | refine blk_drewN ?_ _ | refine blk_drew ?_ | refine blk_alloc ?_ _));refine blk_far ?_ NB102_114.out _;(with_reducible repeat (first | refine blk_drewN ?_ _ | refine blk_drew ?_ | refine blk_alloc ?_ _));refine blk_far ?_ NB102_114.out _;(with_reducible repeat (first | refine blk_drewN ?_ _ | refine blk_drew ?_ | refine blk_alloc ?_ _));refine blk_far ?_ NB102_113.out _;(with_reducible repeat (first | refine blk_drewN ?_ _ | refine blk_drew ?_ | refine blk_alloc ?_ _));refine blk_far ?_ NB102_113.out _;(with_reducible repeat (first | refine blk_drewN ?_ _ | refine blk_drew ?_ | refine blk_alloc ?_ _));refine blk_far ?_ NB102_113.out _;(with_reducible repeat (first | refine blk_drewN ?_ _ | refine blk_drew ?_ | refine blk_alloc ?_ _));exact BK102.out⟩
 have n4_ : Aside0 ((((((((w10.setCell ⟨gb113, 0, none⟩ (.int .i64 t103)).setCell ⟨gb113, 1, none⟩ (.int .i64 t104)).setCell ⟨gb113, 2, none⟩ (.slice Ao15 t105.length co15)).setCell ⟨gb114, 0, none⟩ (.int .i64 t108)).setCell ⟨gb114, 1, none⟩ (.int .i64 t109)).setCell ⟨gb114, 2, none⟩ (.slice Ao19 t110.length co19)).setCell ⟨gb113, 0, none⟩ (.int .i64 0)).heap[gb113]? = some (.cells #[.int .i64 0, .int .i64 t104, .slice Ao15 t105.length co15] 27 (0, 0))) := ⟨by (with_reducible repeat (first | refine blk_drewN ?_ _ | refine blk_drew ?_ | refine blk_alloc ?_ _));refine blk_put (cs := #[.int .i64 t103, .int .i64 t104, .slice Ao15 t105.length co15]) ?_ 0 _ rfl;(with_reducible repeat (first | refine blk_drewN ?_ _ | refine blk_drew ?_ | refine blk_alloc ?_ _));refine blk_far ?_ NB113_114.out _;(with_reducible repeat (first | refine blk_drewN ?_ _ | refine blk_drew ?_ | refine blk_alloc ?_ _));refine blk_far ?_ NB113_114.out _;(with_reducible repeat (first | refine blk_drewN ?_ _ | refine blk_drew ?_ | refine blk_alloc ?_ _));refine blk_far ?_ NB113_114.out _;(with_reducible repeat (first | refine blk_drewN ?_ _ | refine blk_drew ?_ | refine blk_alloc ?_ _));refine blk_put (cs := #[.int .i64 t103, .int .i64 t104, .slice none 0 0]) ?_ 2 _ rfl;(with_reducible repeat (first | refine blk_drewN ?_ _ | refine blk_drew ?_ | refine blk_alloc ?_ _));refine blk_put (cs := #[.int .i64 t103, .int .i64 0, .slice none 0 0]) ?_ 1 _ rfl;(with_reducible repeat (first | refine blk_drewN ?_ _ | refine blk_drew ?_ | refine blk_alloc ?_ _));refine blk_put (cs := #[.int .i64 0, .int .i64 0, .slice none 0 0]) ?_ 0 _ rfl;(with_reducible repeat (first | refine blk_drewN ?_ _ | refine blk_drew ?_ | refine blk_alloc ?_ _));exact BK113.out⟩
 have n5_ : Aside0 ((((((((w10.setCell ⟨gb113, 0, none⟩ (.int .i64 t103)).setCell ⟨gb113, 1, none⟩ (.int .i64 t104)).setCell ⟨gb113, 2, none⟩ (.slice Ao15 t105.length co15)).setCell ⟨gb114, 0, none⟩ (.int .i64 t108)).setCell ⟨gb114, 1, none⟩ (.int .i64 t109)).setCell ⟨gb114, 2, none⟩ (.slice Ao19 t110.length co19)).setCell ⟨gb113, 0, none⟩ (.int .i64 0)).heap[gb114]? = some (.cells #[.int .i64 t108, .int .i64 t109, .slice Ao19 t110.length co19] 27 (0, 0))) := ⟨by (with_reducible repeat (first | refine blk_drewN ?_ _ | refine blk_drew ?_ | refine blk_alloc ?_ _));refine blk_far ?_ NB114_113.out _;(with_reducible repeat (first | refine blk_drewN ?_ _ | refine blk_drew ?_ | refine blk_alloc ?_ _));refine blk_put (cs := #[.int .i64 t108, .int .i64 t109, .slice none 0 0]) ?_ 2 _ rfl;(with_reducible repeat (first | refine blk_drewN ?_ _ | refine blk_drew ?_ | refine blk_alloc ?_ _));refine blk_put (cs := #[.int .i64 t108, .int .i64 0, .slice none 0 0]) ?_ 1 _ rfl;(with_reducible repeat (first | refine blk_drewN ?_ _ | refine blk_drew ?_ | refine blk_alloc ?_ _));refine blk_put (cs := #[.int .i64 0, .int .i64 0, .slice none 0 0]) ?_ 0 _ rfl;(with_reducible repeat (first | refine blk_drewN ?_ _ | refine blk_drew ?_ | refine blk_alloc ?_ _));refine blk_far ?_ NB114_113.out _;(with_reducible repeat (first | refine blk_drewN ?_ _ | refine blk_drew ?_ | refine blk_alloc ?_ _));refine blk_far ?_ NB114_113.out _;(with_reducible repeat (first | refine blk_drewN ?_ _ | refine blk_drew ?_ | refine blk_alloc ?_ _));refine blk_far ?_ NB114_113.out _;(with_reducible repeat (first | refine blk_drewN ?_ _ | refine blk_drew ?_ | refine blk_alloc ?_ _));exact BK114.out⟩
 have n6_ : Aside0 (Below w.heap.size w (((((((w10.setCell ⟨gb113, 0, none⟩ (.int .i64 t103)).setCell ⟨gb113, 1, none⟩ (.int .i64 t104)).setCell ⟨gb113, 2, none⟩ (.slice Ao15 t105.length co15)).setCell ⟨gb114, 0, none⟩ (.int .i64 t108)).setCell ⟨gb114, 1, none⟩ (.int .i64 t109)).setCell ⟨gb114, 2, none⟩ (.slice Ao19 t110.length co19)).setCell ⟨gb113, 0, none⟩ (.int .i64 0))) := ⟨by repeat (first | (with_reducible first | exact HB.out | apply below_alloc | apply pw_below_drewN | apply below_drew1 | refine below_set ?_ GE101.out | refine below_set ?_ GE102.out | refine below_set ?_ GE113.out | refine below_set ?_ GE114.out) | exact HB.out)⟩
 (try clear HO107)
 (try clear HO112)
 (try clear BK101)
 (try clear BK102)
 (try clear BK113)
 (try clear BK114)
 (try clear HB)
 generalize (((((((w10.setCell ⟨gb113, 0, none⟩ (.int .i64 t103)).setCell ⟨gb113, 1, none⟩ (.int .i64 t104)).setCell ⟨gb113, 2, none⟩ (.slice Ao15 t105.length co15)).setCell ⟨gb114, 0, none⟩ (.int .i64 t108)).setCell ⟨gb114, 1, none⟩ (.int .i64 t109)).setCell ⟨gb114, 2, none⟩ (.slice Ao19 t110.length co19)).setCell ⟨gb113, 0, none⟩ (.int .i64 0)) = w20 at n0_ n1_ n2_ n3_ n4_ n5_ n6_ ⊢
 have HO107 := n0_
 have HO112 := n1_
 have BK101 := n2_
 have BK102 := n3_
 have BK113 := n4_
 have BK114 := n5_
 have HB := n6_
 clear n0_ n1_ n2_ n3_ n4_ n5_ n6_
 replace HO107 := m0_ (Kd.V_drew HO107.out)
 replace HO112 := m0_ (Kd.V_drew HO112.out)
 replace BK101 := m0_ (blk_drew BK101.out)
 replace BK102 := m0_ (blk_drew BK102.out)
 replace BK113 := m0_ (blk_drew BK113.out)
 replace BK114 := m0_ (blk_drew BK114.out)
 replace HB := m0_ (below_drew1 HB.out)
 refine start_ (n := 4) (S := fun w' => w'.cell? ⟨gb113, 0, none⟩ = some (.int .i64 0) ∧ w'.cell? ⟨gb113, 1, none⟩ = some (.int .i64 t104) ∧ w'.cell? ⟨gb113, 2, none⟩ = some (.slice Ao15 t105.length co15) ∧ w'.cell? ⟨gb114, 0, none⟩ = some (.int .i64 t108) ∧ w'.cell? ⟨gb114, 1, none⟩ = some (.int .i64 t109) ∧ w'.cell? ⟨gb114, 2, none⟩ = some (.slice Ao19 t110.length co19)) (ds := []) #[false, false, false, false] (by kernel_rfl) rfl rfl ⟨(blk_cell BK113.out 0).trans rfl, (blk_cell BK113.out 1).trans rfl, (blk_cell BK113.out 2).trans rfl, (blk_cell BK114.out 0).trans rfl, (blk_cell BK114.out 1).trans rfl, (blk_cell BK114.out 2).trans rfl⟩ (fun hHeld => ?_)
 generalize w20.drew = w21 at HO107 HO112 BK101 BK102 BK113 BK114 HB hHeld ⊢
 refine take_ (i := 0) (N := some 22) (v := ?_) (a' := ?_) #[true, false, false, false] rfl rfl (by kernel_rfl) (fun _ _ _ h => h) (Or.inl ⟨by rfl, ?_⟩) hHeld ?_ ?_
 rotate_left
 ·rintro w' ⟨s0, s1, s2, s3, s4, s5⟩
  go_simp
  with_reducible rfl
 rotate_left
 ·simp only [Act.put, List.setIfInBounds_toArray, List.set_cons_zero, List.set_cons_succ, i64_w, i32_w]
  rfl
 refine take_ (i := 1) (N := some 23) (v := ?_) (a' := ?_) #[true, true, false, false] rfl rfl (by kernel_rfl) (fun _ _ _ h => h) (Or.inl ⟨by rfl, ?_⟩) hHeld ?_ ?_
 rotate_left
 ·rintro w' ⟨s0, s1, s2, s3, s4, s5⟩
  go_simp
  with_reducible rfl
 rotate_left
 ·simp only [Act.put, List.setIfInBounds_toArray, List.set_cons_zero, List.set_cons_succ, i64_w, i32_w]
  rfl
 refine one_ (i := 2) (N := none) #[true, true, true, false] rfl rfl (by kernel_rfl) (by decide) (fun K hK => ?_)
 have hs22 : w21.cell? ⟨gb101, 0, none⟩ = some (.int .i64 0) := (blk_cell BK101.out 0).trans rfl
 have hfs22 := blk_frozen BK101.out 0
 have hns22_1 := NB102_101.out
 have hns22_2 := NB113_101.out
 have hns22_3 := NB114_101.out
 have hms22_1 := NB101_102.out
 have hms22_2 := NB101_113.out
 have hms22_3 := NB101_114.out
 have hs23 : w21.cell? ⟨gb101, 1, none⟩ = some (.int .i64 0) := (blk_cell BK101.out 1).trans rfl
 have hfs23 := blk_frozen BK101.out 1
 have hns23_1 := NB102_101.out
 have hns23_2 := NB113_101.out
 have hns23_3 := NB114_101.out
 have hms23_1 := NB101_102.out
 have hms23_2 := NB101_113.out
 have hms23_3 := NB101_114.out
 have hs24 : w21.cell? ⟨gb101, 2, none⟩ = some (.slice none 0 0) := (blk_cell BK101.out 2).trans rfl
 have hfs24 := blk_frozen BK101.out 2
 have hns24_1 := NB102_101.out
 have hns24_2 := NB113_101.out
 have hns24_3 := NB114_101.out
 have hms24_1 := NB101_102.out
 have hms24_2 := NB101_113.out
 have hms24_3 := NB101_114.out
 refine skip_ (w1 := ?_) (by rfl) rfl ?_ ?_
 rotate_left
 ·go_simp
  rfl
 refine hK.out _ _ ⟨((cell_far (p := ⟨gb101, _, none⟩) NB113_101.out _).trans (((cell_far (p := ⟨gb101, _, none⟩) NB113_101.out _).trans (((cell_far (p := ⟨gb101, _, none⟩) NB113_101.out _).trans (hHeld.1)))))), ((cell_far (p := ⟨gb101, _, none⟩) NB113_101.out _).trans (((cell_far (p := ⟨gb101, _, none⟩) NB113_101.out _).trans (((cell_far (p := ⟨gb101, _, none⟩) NB113_101.out _).trans (hHeld.2.1)))))), ((cell_far (p := ⟨gb101, _, none⟩) NB113_101.out _).trans (((cell_far (p := ⟨gb101, _, none⟩) NB113_101.out _).trans (((cell_far (p := ⟨gb101, _, none⟩) NB113_101.out _).trans (hHeld.2.2.1)))))), ((cell_far (p := ⟨gb101, _, none⟩) NB114_101.out _).trans (((cell_far (p := ⟨gb101, _, none⟩) NB114_101.out _).trans (((cell_far (p := ⟨gb101, _, none⟩) NB114_101.out _).trans (hHeld.2.2.2.1)))))), ((cell_far (p := ⟨gb101, _, none⟩) NB114_101.out _).trans (((cell_far (p := ⟨gb101, _, none⟩) NB114_101.out _).trans (((cell_far (p := ⟨gb101, _, none⟩) NB114_101.out _).trans (hHeld.2.2.2.2.1)))))), ((cell_far (p := ⟨gb101, _, none⟩) NB114_101.out _).trans (((cell_far (p := ⟨gb101, _, none⟩) NB114_101.out _).trans (((cell_far (p := ⟨gb101, _, none⟩) NB114_101.out _).trans (hHeld.2.2.2.2.2))))))⟩ (fun hHeld => ?_)
 clear hK K
 refine one_ (i := 3) (N := none) #[true, true, true, true] rfl rfl (by kernel_rfl) (by decide) (fun K hK => ?_)
 have hs25 : w21.cell? ⟨gb102, 0, none⟩ = some (.int .i64 0) := (blk_cell BK102.out 0).trans rfl
 have hfs25 := blk_frozen BK102.out 0
 have hns25_0 := NB101_102.out
 have hns25_2 := NB113_102.out
 have hns25_3 := NB114_102.out
 have hms25_0 := NB102_101.out
 have hms25_2 := NB102_113.out
 have hms25_3 := NB102_114.out
 have hs26 : w21.cell? ⟨gb102, 1, none⟩ = some (.int .i64 0) := (blk_cell BK102.out 1).trans rfl
 have hfs26 := blk_frozen BK102.out 1
 have hns26_0 := NB101_102.out
 have hns26_2 := NB113_102.out
 have hns26_3 := NB114_102.out
 have hms26_0 := NB102_101.out
 have hms26_2 := NB102_113.out
 have hms26_3 := NB102_114.out
 have hs27 : w21.cell? ⟨gb102, 2, none⟩ = some (.slice none 0 0) := (blk_cell BK102.out 2).trans rfl
 have hfs27 := blk_frozen BK102.out 2
 have hns27_0 := NB101_102.out
 have hns27_2 := NB113_102.out
 have hns27_3 := NB114_102.out
 have hms27_0 := NB102_101.out
 have hms27_2 := NB102_113.out
 have hms27_3 := NB102_114.out
 refine skip_ (w1 := ?_) (by rfl) rfl ?_ ?_
 rotate_left
 ·go_simp
  rfl
 refine hK.out _ _ ⟨((cell_far (p := ⟨gb102, _, none⟩) NB113_102.out _).trans (((cell_far (p := ⟨gb102, _, none⟩) NB113_102.out _).trans (((cell_far (p := ⟨gb102, _, none⟩) NB113_102.out _).trans (hHeld.1)))))), ((cell_far (p := ⟨gb102, _, none⟩) NB113_102.out _).trans (((cell_far (p := ⟨gb102, _, none⟩) NB113_102.out _).trans (((cell_far (p := ⟨gb102, _, none⟩) NB113_102.out _).trans (hHeld.2.1)))))), ((cell_far (p := ⟨gb102, _, none⟩) NB113_102.out _).trans (((cell_far (p := ⟨gb102, _, none⟩) NB113_102.out _).trans (((cell_far (p := ⟨gb102, _, none⟩) NB113_102.out _).trans (hHeld.2.2.1)))))), ((cell_far (p := ⟨gb102, _, none⟩) NB114_102.out _).trans (((cell_far (p := ⟨gb102, _, none⟩) NB114_102.out _).trans (((cell_far (p := ⟨gb102, _, none⟩) NB114_102.out _).trans (hHeld.2.2.2.1)))))), ((cell_far (p := ⟨gb102, _, none⟩) NB114_102.out _).trans (((cell_far (p := ⟨gb102, _, none⟩) NB114_102.out _).trans (((cell_far (p := ⟨gb102, _, none⟩) NB114_102.out _).trans (hHeld.2.2.2.2.1)))))), ((cell_far (p := ⟨gb102, _, none⟩) NB114_102.out _).trans (((cell_far (p := ⟨gb102, _, none⟩) NB114_102.out _).trans (((cell_far (p := ⟨gb102, _, none⟩) NB114_102.out _).trans (hHeld.2.2.2.2.2))))))⟩ (fun hHeld => ?_)
 clear hK K
 refine done_ (by kernel_rfl) ?_
 try go_wp2
 refine bodyPost_ret (results_cc rfl _ _ gb101 gb102 27 27 #[.int .i64 0, .int .i64 t104, .slice Ao15 t105.length co15] #[.int .i64 t108, .int .i64 t109, .slice Ao19 t110.length co19] (0, 0) (0, 0) _ _ rfl (by (with_reducible repeat (first | refine blk_drewN ?_ _ | refine blk_drew ?_ | refine blk_alloc ?_ _));refine blk_far ?_ NB101_102.out _;(with_reducible repeat (first | refine blk_drewN ?_ _ | refine blk_drew ?_ | refine blk_alloc ?_ _));refine blk_far ?_ NB101_102.out _;(with_reducible repeat (first | refine blk_drewN ?_ _ | refine blk_drew ?_ | refine blk_alloc ?_ _));refine blk_far ?_ NB101_102.out _;(with_reducible repeat (first | refine blk_drewN ?_ _ | refine blk_drew ?_ | refine blk_alloc ?_ _));refine blk_put (cs := #[.int .i64 0, .int .i64 t104, .slice none 0 0]) ?_ 2 _ rfl;(with_reducible repeat (first | refine blk_drewN ?_ _ | refine blk_drew ?_ | refine blk_alloc ?_ _));refine blk_put (cs := #[.int .i64 0, .int .i64 0, .slice none 0 0]) ?_ 1 _ rfl;(with_reducible repeat (first | refine blk_drewN ?_ _ | refine blk_drew ?_ | refine blk_alloc ?_ _));refine blk_put (cs := #[.int .i64 0, .int .i64 0, .slice none 0 0]) ?_ 0 _ rfl;(with_reducible repeat (first | refine blk_drewN ?_ _ | refine blk_drew ?_ | refine blk_alloc ?_ _));exact BK101.out) Try.underlying27 rfl (by kernel_rfl) rfl (by (with_reducible repeat (first | refine blk_drewN ?_ _ | refine blk_drew ?_ | refine blk_alloc ?_ _));refine blk_put (cs := #[.int .i64 t108, .int .i64 t109, .slice none 0 0]) ?_ 2 _ rfl;(with_reducible repeat (first | refine blk_drewN ?_ _ | refine blk_drew ?_ | refine blk_alloc ?_ _));refine blk_put (cs := #[.int .i64 t108, .int .i64 0, .slice none 0 0]) ?_ 1 _ rfl;(with_reducible repeat (first | refine blk_drewN ?_ _ | refine blk_drew ?_ | refine blk_alloc ?_ _));refine blk_put (cs := #[.int .i64 0, .int .i64 0, .slice none 0 0]) ?_ 0 _ rfl;(with_reducible repeat (first | refine blk_drewN ?_ _ | refine blk_drew ?_ | refine blk_alloc ?_ _));refine blk_far ?_ NB102_101.out _;(with_reducible repeat (first | refine blk_drewN ?_ _ | refine blk_drew ?_ | refine blk_alloc ?_ _));refine blk_far ?_ NB102_101.out _;(with_reducible repeat (first | refine blk_drewN ?_ _ | refine blk_drew ?_ | refine blk_alloc ?_ _));refine blk_far ?_ NB102_101.out _;(with_reducible repeat (first | refine blk_drewN ?_ _ | refine blk_drew ?_ | refine blk_alloc ?_ _));exact BK102.out) Try.underlying27 rfl (by kernel_rfl)) rfl ?_
 exact ⟨_, _, by first | rfl | (simp [errW_none, errW_some] <;> rfl) | (simp [*, errW_none, errW_some] <;> rfl), by (with_reducible repeat (first | apply Kd.V_alloc | apply Kd.V_drewN | apply Kd.V_drew));exact Kd.V_mono (Kd.V_far (p := ⟨gb102, 2, none⟩) (Kd.V_far (p := ⟨gb102, 1, none⟩) (Kd.V_far (p := ⟨gb102, 0, none⟩) (Kd.V_far (p := ⟨gb101, 2, none⟩) (Kd.V_far (p := ⟨gb101, 1, none⟩) (Kd.V_far (p := ⟨gb101, 0, none⟩) (Kd.V_mono (Kd.V_mono HO107.out (fun k_ hk => (⟨hk, hk.2.1⟩ : _ ∧ k_ ≠ gb101))) (fun k_ hk => (⟨hk, hk.1.2.2.1⟩ : _ ∧ k_ ≠ gb102))) (fun _ hk => hk.1.2) (.int .i64 0)) (fun _ hk => hk.1.2) (.int .i64 t104)) (fun _ hk => hk.1.2) (.slice Ao15 t105.length co15)) (fun _ hk => hk.2) (.int .i64 t108)) (fun _ hk => hk.2) (.int .i64 t109)) (fun _ hk => hk.2) (.slice Ao19 t110.length co19)) (fun _ hk => hk.1.1.1), by (with_reducible repeat (first | apply Kd.V_alloc | apply Kd.V_drewN | apply Kd.V_drew));exact Kd.V_mono (Kd.V_far (p := ⟨gb102, 2, none⟩) (Kd.V_far (p := ⟨gb102, 1, none⟩) (Kd.V_far (p := ⟨gb102, 0, none⟩) (Kd.V_far (p := ⟨gb101, 2, none⟩) (Kd.V_far (p := ⟨gb101, 1, none⟩) (Kd.V_far (p := ⟨gb101, 0, none⟩) (Kd.V_mono (Kd.V_mono HO112.out (fun k_ hk => (⟨hk, hk.2.1⟩ : _ ∧ k_ ≠ gb101))) (fun k_ hk => (⟨hk, hk.1.2.2.1⟩ : _ ∧ k_ ≠ gb102))) (fun _ hk => hk.1.2) (.int .i64 0)) (fun _ hk => hk.1.2) (.int .i64 t104)) (fun _ hk => hk.1.2) (.slice Ao15 t105.length co15)) (fun _ hk => hk.2) (.int .i64 t108)) (fun _ hk => hk.2) (.int .i64 t109)) (fun _ hk => hk.2) (.slice Ao19 t110.length co19)) (fun _ hk => hk.1.1.1), by repeat (first | (with_reducible first | exact HB.out | apply below_alloc | apply pw_below_drewN | apply below_drew1 | refine below_set ?_ GE101.out | refine below_set ?_ GE102.out | refine below_set ?_ GE113.out | refine below_set ?_ GE114.out) | exact HB.out)⟩

end Go.Proofs.Ytiplpckgmikmeaa.M
namespace Go.Proofs.Ytiplpckgmikmeaa.M
set_option linter.unusedVariables false
set_option linter.unusedSimpArgs false
open Go Go.RowKit Go.Proofs.YtiplpckgmikmeaaW.PrintWords Go.Proofs.YtiplpckgmikmeaaW.PrintLast Go.Proofs.YtiplpckgmikmeaaW.PrintMore

theorem keep_setRow {w : World} {g : Nat} (cs : Array Value) : KeepBut w (w.setRow g cs) g none := ⟨by simp [World.setRow], fun k _ hk _ => setRow_other w g k cs hk⟩
theorem store_blk {P : Program} {ops : Array Oper} {rest : List Oper} {o : Oper} {a : Act} {Q : Exit → Act → World → Prop} {W w0 : World} {base : Nat} (hgd : o.guard = none) (hN : o.dst = none) {t e : TypeId} {p : Tmp} {v : Operand} (ho : o.op = .store t (.tmp p) v) {g off : Nat} {cur cur' : Array Value} {u : Value} {seg : List Value}
    (hp : a.eval (.tmp p) = .pointer (some ⟨g, off, none⟩)) (hx : a.eval v = u) (hg : W.heap[g]? = some (.cells cur e (0, 0))) (hu : u.cells.toList = seg) (ht : (P.info? t).map (·.size) = some seg.length) (h1 : ∀ q ∈ seg, q.oneCell' = true) (hfit : off + seg.length ≤ cur.size) (hcur : (cur.toList.take off ++ seg ++ cur.toList.drop (off + seg.length)).toArray = cur')
    (hB : Below base w0 W) (hbg : base ≤ g)
    (h : ∀ w', w'.heap[g]? = some (.cells cur' e (0, 0)) → KeepBut W w' g none → Below base w0 w' → wpList P ops Q rest a w') : wpList P ops Q (o :: rest) a W := by
  obtain ⟨i, hi, hsz⟩ := Option.map_eq_some_iff.1 ht
  have hc : u.cells.size = i.size := by rw [hsz, ← hu, Array.length_toList]
  have hst := run_storeCells_at P g off e seg 0 cur W hg (by simpa using hfit) h1
  refine wpList_plain hgd fun K hK => ?_
  have hrun : (execOp a.eval o).run P W = .ok .skip (W.setRow g (cur.toList.take off ++ seg ++ cur.toList.drop (off + seg.length)).toArray) := by
    rw [Nat.add_zero] at hst
    simp [execOp, ho, hp, hx, Instr.storeAt, Instr.sureAddr, storeVar, sizeOf, typeInfo, hi, hc, hu, hst, Result.andThen]
  unfold Oper.wp
  rw [hrun]
  show K (a.put o.dst undef) _
  rw [hN]
  refine hK _ _ (h _ ?_ (keep_setRow _) (below_setRow hB hbg _))
  rw [setRow_heap W g cur _ e _ hg, hcur]
theorem blk_keep {w w1 : World} {g g' : Nat} {o : Obj} (h : w.heap[g']? = some o) (hk : KeepBut w w1 g none) (hne : g' ≠ g) : w1.heap[g']? = some o := (hk.2 g' (blk_lt h) hne (by simp)).trans h
def One (w : World) (v : Value) (x : S27) : Prop := ∃ A c, v = .slice A 1 c ∧ 1 ≤ c ∧ Kd.C k27 w A 1 [x]
theorem One.below {w w1 : World} {v : Value} {x : S27} (h : One w v x) (hb : Below w.heap.size w w1) : One w1 v x := by
  obtain ⟨A, c, hv, hc, hr⟩ := h
  exact ⟨A, c, hv, hc, Kd.C_below hr hb⟩
def Str (w : World) (v : Value) (x : S27) : Prop := ∃ vs, v = .agg #[.int .i64 x.f0, .int .i64 x.f1, vs] ∧ Kd.V (Kd.int .i64) 3 w 0 (fun _ => True) vs x.f2
theorem Str.below {w w1 : World} {v : Value} {x : S27} (h : Str w v x) (hb : Below w.heap.size w w1) : Str w1 v x := by
  obtain ⟨vs, hv, hr⟩ := h
  exact ⟨vs, hv, Kd.V_below hr hb⟩
theorem V_of_R {α : Type} {d : Kd α} {e base : Nat} {ok : Nat → Prop} {w : World} {v : Value} {xs : List α} (h : d.R e w base ok v xs) : Kd.V d e w 0 (fun k => base ≤ k ∧ k < w.heap.size) v xs := by
  have hb := Kd.R_mono (Kd.R_bound h) (ok' := fun k => base ≤ k ∧ k < w.heap.size) (fun k hk => ⟨hk.2.1, hk.2.2.1⟩)
  obtain ⟨A, c, rfl⟩ := Kd.R_slice hb
  exact ⟨A, c, rfl, (Kd.R_reads' hb).2.1, Kd.R_F hb⟩
theorem Str.of {w : World} {base : Nat} {ok : Nat → Prop} {a b : Int} {vs : Value} {xs : List Int} (h : Kd.R (Kd.int .i64) 3 w base ok vs xs) : Str w (.agg #[.int .i64 a, .int .i64 b, vs]) ⟨a, b, xs⟩ := ⟨vs, rfl, Kd.V_mono (V_of_R h) (fun _ _ => trivial)⟩
section
variable {P : Program} {ops : Array Oper} {o : Oper} {a : Act} {Q : Exit → Act → World → Prop} {Kc : Act → World → Prop} {W : World}
theorem one_step (hw : Region.wanted o (yielded ops a.tmps) = true) {N' : Tmp} (hd : o.dst = some N') {x : S27} {A2 : Option Addr} {c2 : Nat}
    (hrun : (execOp a.eval o).run P W = .ok (.value (.slice (some ⟨W.heap.size, 0, none⟩) 1 1)) (W.alloc (.cells #[.int .i64 x.f0, .int .i64 x.f1, .slice A2 x.f2.length c2] 27)))
    (hc : x.f2.length ≤ c2) (hF : Kd.F (Kd.int .i64) W (fun _ => True) A2 x.f2.length x.f2) (h : ∀ v1 w1, One w1 v1 x → Below W.heap.size W w1 → Kc (a.put o.dst v1) w1) :
    if Region.wanted o (yielded ops a.tmps) = true then Oper.wp P o a W Kc Q else Kc (a.put o.dst undef) W := by
  refine Kd.N_lit_step k27 W.heap.size 27 hw hd (xs := [x]) (inner := [.int .i64 x.f0, .int .i64 x.f1, .slice A2 x.f2.length c2]) (ok := fun _ => True) (okp := fun _ => True) hrun (Reps.c3 (k27_mkF W _ x hc hF) (Reps.none _ _)) (fun _ h => h) trivial (Below.refl _ _) (Nat.le_refl _) (by simp) ?_
  intro v1 w1 hn hb _ _
  obtain ⟨A, c, rfl⟩ := Kd.N_slice hn
  have hr := Kd.N_reads' hn
  exact h _ _ ⟨A, c, rfl, hr.2.1, hr.2.2⟩ hb
theorem store_step (hw : Region.wanted o (yielded ops a.tmps) = true) (hN : o.dst = none) {t e : TypeId} {p : Tmp} {v : Operand} (ho : o.op = .store t (.tmp p) v) {w0 : World} {base g off : Nat} {cur cur' : Array Value} {u : Value} {seg : List Value}
    (hp : a.eval (.tmp p) = .pointer (some ⟨g, off, none⟩)) (hx : a.eval v = u) (hg : W.heap[g]? = some (.cells cur e (0, 0))) (hu : u.cells.toList = seg) (ht : (P.info? t).map (·.size) = some seg.length) (h1 : ∀ q ∈ seg, q.oneCell' = true) (hfit : off + seg.length ≤ cur.size) (hcur : (cur.toList.take off ++ seg ++ cur.toList.drop (off + seg.length)).toArray = cur')
    (hB : Below base w0 W) (hbg : base ≤ g) (h : ∀ w', w'.heap[g]? = some (.cells cur' e (0, 0)) → KeepBut W w' g none → Below base w0 w' → Kc a w') :
    if Region.wanted o (yielded ops a.tmps) = true then Oper.wp P o a W Kc Q else Kc (a.put o.dst undef) W := by
  obtain ⟨i, hi, hsz⟩ := Option.map_eq_some_iff.1 ht
  have hc : u.cells.size = i.size := by rw [hsz, ← hu, Array.length_toList]
  have hst := run_storeCells_at P g off e seg 0 cur W hg (by simpa using hfit) h1
  have hrun : (execOp a.eval o).run P W = .ok .skip (W.setRow g (cur.toList.take off ++ seg ++ cur.toList.drop (off + seg.length)).toArray) := by
    rw [Nat.add_zero] at hst
    simp [execOp, ho, hp, hx, Instr.storeAt, Instr.sureAddr, storeVar, sizeOf, typeInfo, hi, hc, hu, hst, Result.andThen]
  have e0 : a.put o.dst undef = a.put none undef := by rw [hN]
  rw [e0]
  refine skip_ hw hN hrun (h _ ?_ (keep_setRow _) (below_setRow hB hbg _))
  rw [setRow_heap W g cur _ e _ hg, hcur]
end
theorem alloc_lt (w : World) (o : Obj) : w.heap.size < (w.alloc o).heap.size := blk_lt (blk_new w o)
end Go.Proofs.Ytiplpckgmikmeaa.M
