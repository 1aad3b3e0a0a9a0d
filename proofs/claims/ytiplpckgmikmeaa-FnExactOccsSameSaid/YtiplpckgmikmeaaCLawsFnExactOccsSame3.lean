/- What the claim's law leans on: the program's functions, what they compute, and the law over plain values; no condition is asked. (Part 3 of 3.) -/
import Derived.Test.YtiplpckgmikmeaaCLawsFnExactOccsSame2
namespace Go.Proofs.Ytiplpckgmikmeaa.M
open Go.RowKit Go.Proofs.YtiplpckgmikmeaaW.PrintWords Go.Proofs.YtiplpckgmikmeaaW.PrintLast Go.Proofs.YtiplpckgmikmeaaW.PrintMore
attribute [local go_sem] max2_int min2_int max_two min_two max_three min_three max_four min_four
set_option linter.unusedVariables false
set_option linter.unusedSimpArgs false

def spec_OccsOk.l0 : Nat → List (S27) → Int → Option (Bool)
 | 0, _, _ => none
 | k + 1, x0, x3 => if x3 < (x0.length : Int) then (if 0 ≤ x3 then ((spec_OccOk.f k ((rd_T27 x0 x3).f0) ((rd_T27 x0 x3).f1) ((rd_T27 x0 x3).f2)).bind fun t102 => (if t102 = true then (if x3 > 0 then (if 0 ≤ (wrap64 (x3 - 1)) then (if (wrap64 (x3 - 1)) < (x0.length : Int) then ((spec_OccLess.f k ((rd_T27 x0 (wrap64 (x3 - 1))).f0) ((rd_T27 x0 (wrap64 (x3 - 1))).f1) ((rd_T27 x0 (wrap64 (x3 - 1))).f2) ((rd_T27 x0 x3).f0) ((rd_T27 x0 x3).f1) ((rd_T27 x0 x3).f2)).bind fun t105 => (if t105 = true then (spec_OccsOk.l0 k x0 (wrap64 (x3 + 1))) else (some false))) else (none)) else (none)) else (spec_OccsOk.l0 k x0 (wrap64 (x3 + 1)))) else (some false))) else (none)) else (some true)
def spec_OccsOk.f (k : Nat) (l0 : List (S27)) : Option (Bool) := if (l0.length : Int) > 40 then (some false) else (spec_OccsOk.l0 k l0 0)
theorem spec_OccsOk.mono_l : ∀ k, (∀ y0 y1, LeO (spec_OccsOk.l0 k y0 y1) (spec_OccsOk.l0 (k + 1) y0 y1))
 | 0 => fun _ _ r h => by simp [spec_OccsOk.l0] at h
 | k + 1 => by
  have ih0 := spec_OccsOk.mono_l k
  ·intro y0 y1
   unfold spec_OccsOk.l0
   repeat' first
   | (with_reducible exact ih0 _ _)
   | (with_reducible exact spec_OccLess.mono _ _ _ _ _ _ _)
   | (with_reducible exact spec_OccOk.mono _ _ _ _)
   | (with_reducible exact LeO.refl _)
   | (with_reducible exact LeO.none _)
   | (with_reducible refine LeO.ite ?_ ?_)
   | (with_reducible refine LeO.bind ?_ (fun _ => ?_))
   | exact ih0 _ _
   | exact spec_OccLess.mono _ _ _ _ _ _ _
   | exact spec_OccOk.mono _ _ _ _
   | exact LeO.none _
   | refine LeO.ite ?_ ?_
   | refine LeO.bind ?_ (fun _ => ?_)
theorem spec_OccsOk.mono : ∀ a0 k, LeO (spec_OccsOk.f k a0) (spec_OccsOk.f (k + 1) a0) := by
 intro a0 k
 have ih0 := spec_OccsOk.mono_l k
 unfold spec_OccsOk.f
 repeat' first
   | (with_reducible exact ih0 _ _)
   | (with_reducible exact spec_OccLess.mono _ _ _ _ _ _ _)
   | (with_reducible exact spec_OccOk.mono _ _ _ _)
   | (with_reducible exact LeO.refl _)
   | (with_reducible exact LeO.none _)
   | (with_reducible refine LeO.ite ?_ ?_)
   | (with_reducible refine LeO.bind ?_ (fun _ => ?_))
   | exact ih0 _ _
   | exact spec_OccLess.mono _ _ _ _ _ _ _
   | exact spec_OccOk.mono _ _ _ _
   | exact LeO.none _
   | refine LeO.ite ?_ ?_
   | refine LeO.bind ?_ (fun _ => ?_)
def spec_OccsOk.T6 : Bool × List (List Nat × List Nat) := (true, [([], []), ([], []), ([0, 1], [0, 1]), ([2], [2]), ([3], [3]), ([4], [4]), ([5, 4], [5]), ([6], [6]), ([7, 6], [6, 7]), ([8, 6, 6], [6, 8]), ([9], [9]), ([9], [9]), ([11, 9], [9, 11]), ([10, 12, 9], [9, 10, 12]), ([13, 9], [9, 13]), ([9], [9]), ([9], [9]), ([15, 16, 9], [9, 15, 16]), ([17, 9], [9, 17]), ([14, 18, 9, 9], [9, 14, 18]), ([19, 9], [9, 19]), ([9, 20, 6], [6, 9, 20]), ([6, 21], [6, 21])])
def spec_OccsOk.B6 : List Nat := [0, 0, 3, 7, 15, 31, 63, 127, 255, 511, 1023, 1023, 3071, 8191, 16383, 1023, 1023, 99327, 230399, 524287, 1048575, 2097151, 4194303]
theorem spec_OccsOk.tab6 : rtab .any (opsOf Try.f28 6) = spec_OccsOk.T6 := by kernel_rfl
theorem spec_OccsOk.bits6 : waitsOk spec_OccsOk.T6.2 spec_OccsOk.B6 = true := by kernel_rfl
set_option maxHeartbeats 8000000 in
set_option maxRecDepth 100000 in
theorem spec_OccsOk.calls (k : Nat) (A0 : Option Addr) (c0 : Nat) (l0 : List (S27)) (r : Bool) (w : World) (hr0 : Kd.C k27 w A0 l0.length l0) (hc0 : l0.length ≤ c0) (h : spec_OccsOk.f k l0 = some r) :
  Calls Try.prog 28 #[.slice A0 l0.length c0] w fun e w' => e = .returned (.bool r) ∧ Below w.heap.size w w' := by
 have hu27 := Try.underlying27
 have HR0 := Aside0.mk hr0
 have HC0 := Aside0.mk hc0
 clear hr0 hc0
 have HB := Aside0.mk (Below.refl w.heap.size w)
 have H : (if (l0.length : Int) > 40 then (some false) else (spec_OccsOk.l0 k l0 0)) = some r := h
 clear h
 by_cases c2 : (l0.length : Int) > 40
 ·rw [if_pos c2] at H
  have c2b0 : decide (40 < (l0.length : Int)) = true := decide_eq_true c2
  have c2b1 : decide (40 < l0.length) = true := decide_eq_true (by omega)
  clear c2
  obtain rfl := Option.some.inj H
  go_enter Try.func28, Try.ntmps28
  go_wp2
  go_ret
  exact ⟨by first | rfl | (simp [errW_none, errW_some] <;> rfl) | (simp [*, errW_none, errW_some] <;> rfl), by repeat (first | (with_reducible first | exact HB.out | apply below_alloc | apply pw_below_drewN | apply below_drew1) | exact HB.out)⟩
 ·rw [if_neg c2] at H
  have c2b0 : decide (40 < (l0.length : Int)) = false := decide_eq_false c2
  have c2b1 : decide (40 < l0.length) = false := decide_eq_false (by omega)
  clear c2
  have H' := Aside0.mk H
  clear H
  go_enter Try.func28, Try.ntmps28
  go_wp2
  go_loopg [3] k (fun kq v3 w' => ∃ (x3_1 : Int), v3 = .int .i64 x3_1 ∧ Aside0 (spec_OccsOk.l0 kq l0 x3_1 = some r) ∧ Aside0 (kq ≤ k) ∧ Aside0 (Below w.heap.size w w'))
  case atStart => exact ⟨(0), (by first | rfl | (simp;done) | (simp [*];done)), H', ⟨Nat.le_refl _⟩, ⟨by repeat (first | (with_reducible first | exact HB.out | apply below_alloc | apply pw_below_drewN | apply below_drew1) | exact HB.out)⟩⟩
  case round =>
   clear H'
   try clear c2
   try clear c2b0
   try clear c2b1
   try clear p2
   obtain ⟨x3_1, rfl, HA, HK1, HB⟩ := hrel
   cases gk with
   | zero => exact absurd HA.out (by simp [spec_OccsOk.l0])
   | succ k1 =>
    have H := HA.out
    clear HA
    simp only [spec_OccsOk.l0] at H
    by_cases c3 : x3_1 < (l0.length : Int)
    ·rw [if_pos c3] at H
     have c3b0 : decide (x3_1 < (l0.length : Int)) = true := decide_eq_true c3
     clear c3
     by_cases c4 : 0 ≤ x3_1
     ·rw [if_pos c4] at H
      have c4b0 : decide (0 ≤ x3_1) = true := decide_eq_true c4
      clear c4
      replace H := Option.bind_eq_some_iff.mp H
      obtain ⟨t102, A50, H⟩ := H
      replace H : (if t102 = true then (if x3_1 > 0 then (if 0 ≤ (wrap64 (x3_1 - 1)) then (if (wrap64 (x3_1 - 1)) < (l0.length : Int) then ((spec_OccLess.f k1 ((rd_T27 l0 (wrap64 (x3_1 - 1))).f0) ((rd_T27 l0 (wrap64 (x3_1 - 1))).f1) ((rd_T27 l0 (wrap64 (x3_1 - 1))).f2) ((rd_T27 l0 x3_1).f0) ((rd_T27 l0 x3_1).f1) ((rd_T27 l0 x3_1).f2)).bind fun t105 => (if t105 = true then (spec_OccsOk.l0 k1 l0 (wrap64 (x3_1 + 1))) else (some false))) else (none)) else (none)) else (spec_OccsOk.l0 k1 l0 (wrap64 (x3_1 + 1)))) else (some false)) = some r := H
      have A5 := Aside0.mk A50
      clear A50
      by_cases c6 : t102 = true
      ·subst c6
       have H1 : (if x3_1 > 0 then (if 0 ≤ (wrap64 (x3_1 - 1)) then (if (wrap64 (x3_1 - 1)) < (l0.length : Int) then ((spec_OccLess.f k1 ((rd_T27 l0 (wrap64 (x3_1 - 1))).f0) ((rd_T27 l0 (wrap64 (x3_1 - 1))).f1) ((rd_T27 l0 (wrap64 (x3_1 - 1))).f2) ((rd_T27 l0 x3_1).f0) ((rd_T27 l0 x3_1).f1) ((rd_T27 l0 x3_1).f2)).bind fun t105 => (if t105 = true then (spec_OccsOk.l0 k1 l0 (wrap64 (x3_1 + 1))) else (some false))) else (none)) else (none)) else (spec_OccsOk.l0 k1 l0 (wrap64 (x3_1 + 1)))) = some r := by rw [if_pos rfl] at H;exact H
       clear H
       have H := H1
       clear H1
       by_cases c7 : x3_1 > 0
       ·rw [if_pos c7] at H
        have c7b0 : decide (0 < x3_1) = true := decide_eq_true c7
        clear c7
        obtain ⟨ji8, hji8⟩ : ∃ j_ : Int, (wrap64 (x3_1 - 1)) = j_ := ⟨_, rfl⟩
        replace H : (if 0 ≤ (ji8) then (if (ji8) < (l0.length : Int) then ((spec_OccLess.f k1 ((rd_T27 l0 (ji8)).f0) ((rd_T27 l0 (ji8)).f1) ((rd_T27 l0 (ji8)).f2) ((rd_T27 l0 x3_1).f0) ((rd_T27 l0 x3_1).f1) ((rd_T27 l0 x3_1).f2)).bind fun t105 => (if t105 = true then (spec_OccsOk.l0 k1 l0 (wrap64 (x3_1 + 1))) else (some false))) else (none)) else (none)) = some r := by first | (rw [hji8] at H;exact H) | (simp only [hji8] at H ⊢;exact H)
        (try rw [hji8] at A5)
        have hji8w : (IntKind.i64.wrap (x3_1 - 1)) = ji8 := (i64_w _).trans hji8
        by_cases c9 : 0 ≤ (ji8)
        ·rw [if_pos c9] at H
         have c9b0 : decide (0 ≤ (ji8)) = true := decide_eq_true c9
         clear c9
         by_cases c10 : (ji8) < (l0.length : Int)
         ·rw [if_pos c10] at H
          have c10b0 : decide ((ji8) < (l0.length : Int)) = true := decide_eq_true c10
          clear c10
          replace H := Option.bind_eq_some_iff.mp H
          obtain ⟨t105, A110, H⟩ := H
          replace H : (if t105 = true then (spec_OccsOk.l0 k1 l0 (wrap64 (x3_1 + 1))) else (some false)) = some r := H
          have A11 := Aside0.mk A110
          clear A110
          by_cases c12 : t105 = true
          ·subst c12
           have H1 : (spec_OccsOk.l0 k1 l0 (wrap64 (x3_1 + 1))) = some r := by rw [if_pos rfl] at H;exact H
           clear H
           have H := H1
           clear H1
           have H' := Aside0.mk H
           clear H
           try go_wp2
           have n0_ := Aside0.mk (below_drew1 HB.out)
           clear HB
           have HB := n0_
           clear n0_
           have p101 : 0 ≤ (x3_1 : Int) := of_decide_eq_true (by first | (with_reducible assumption) | assumption)
           have q101 : x3_1 < (l0.length : Int) := of_decide_eq_true (by first | (with_reducible assumption) | assumption)
           obtain ⟨ad101, A101_2, c101_2, e101, hx101_0, hx101_1, hx101_2, hl101_2, hi101_2⟩ := at_T27 HR0.out x3_1 p101 q101
           have hw101_2 := hx101_2
           have hw101_1 := hx101_1
           have hw101_0 := hx101_0
           cases e101
           replace hx101_0 := (HB.out.cell (World.block_lt_of_cell? w _ hx101_0)).trans hx101_0
           replace hx101_1 := (HB.out.cell (World.block_lt_of_cell? w _ hx101_1)).trans hx101_1
           replace hx101_2 := (HB.out.cell (World.block_lt_of_cell? w _ hx101_2)).trans hx101_2
           have HR101_2 := Aside0.mk hi101_2
           have HC101_2 := Aside0.mk hl101_2
           clear hi101_2 hl101_2
           replace p101 := eq_true p101
           replace q101 := eq_true q101
           have p103 : 0 ≤ ((ji8) : Int) := of_decide_eq_true (by first | (with_reducible assumption) | assumption)
           have q103 : (ji8) < (l0.length : Int) := of_decide_eq_true (by first | (with_reducible assumption) | assumption)
           obtain ⟨ad103, A103_2, c103_2, e103, hx103_0, hx103_1, hx103_2, hl103_2, hi103_2⟩ := at_T27 HR0.out (ji8) p103 q103
           have hw103_2 := hx103_2
           have hw103_1 := hx103_1
           have hw103_0 := hx103_0
           obtain rfl : ad101 = ad103 := (by injection e103)
           replace hx103_0 := (HB.out.cell (World.block_lt_of_cell? w _ hx103_0)).trans hx103_0
           replace hx103_1 := (HB.out.cell (World.block_lt_of_cell? w _ hx103_1)).trans hx103_1
           replace hx103_2 := (HB.out.cell (World.block_lt_of_cell? w _ hx103_2)).trans hx103_2
           have HR103_2 := Aside0.mk hi103_2
           have HC103_2 := Aside0.mk hl103_2
           clear hi103_2 hl103_2
           replace p103 := eq_true p103
           replace q103 := eq_true q103
           have p104 : 0 ≤ (x3_1 : Int) := of_decide_eq_true (by first | (with_reducible assumption) | assumption)
           have q104 : x3_1 < (l0.length : Int) := of_decide_eq_true (by first | (with_reducible assumption) | assumption)
           obtain ⟨ad104, A104_2, c104_2, e104, hx104_0, hx104_1, hx104_2, hl104_2, hi104_2⟩ := at_T27 HR0.out x3_1 p104 q104
           have hw104_2 := hx104_2
           have hw104_1 := hx104_1
           have hw104_0 := hx104_0
           obtain rfl : ad101 = ad104 := (by injection e104)
           replace hx104_0 := (HB.out.cell (World.block_lt_of_cell? w _ hx104_0)).trans hx104_0
           replace hx104_1 := (HB.out.cell (World.block_lt_of_cell? w _ hx104_1)).trans hx104_1
           replace hx104_2 := (HB.out.cell (World.block_lt_of_cell? w _ hx104_2)).trans hx104_2
           have HR104_2 := Aside0.mk hi104_2
           have HC104_2 := Aside0.mk hl104_2
           clear hi104_2 hl104_2
           replace p104 := eq_true p104
           replace q104 := eq_true q104
           refine start_ (n := 23) (S := fun w' => w'.cell? (ad101.add ((x3_1).toNat * 3)) = some (.int .i64 ((rd_T27 l0 x3_1).f0)) ∧ w'.cell? ⟨(ad101.add ((x3_1).toNat * 3)).block, (ad101.add ((x3_1).toNat * 3)).off + 1, none⟩ = some (.int .i64 ((rd_T27 l0 x3_1).f1)) ∧ w'.cell? ⟨(ad101.add ((x3_1).toNat * 3)).block, (ad101.add ((x3_1).toNat * 3)).off + 2, none⟩ = some (.slice A101_2 ((rd_T27 l0 x3_1).f2).length c101_2) ∧ w'.cell? (ad101.add (((ji8)).toNat * 3)) = some (.int .i64 ((rd_T27 l0 (ji8)).f0)) ∧ w'.cell? ⟨(ad101.add (((ji8)).toNat * 3)).block, (ad101.add (((ji8)).toNat * 3)).off + 1, none⟩ = some (.int .i64 ((rd_T27 l0 (ji8)).f1)) ∧ w'.cell? ⟨(ad101.add (((ji8)).toNat * 3)).block, (ad101.add (((ji8)).toNat * 3)).off + 2, none⟩ = some (.slice A103_2 ((rd_T27 l0 (ji8)).f2).length c103_2) ∧ w'.cell? (ad101.add ((x3_1).toNat * 3)) = some (.int .i64 ((rd_T27 l0 x3_1).f0)) ∧ w'.cell? ⟨(ad101.add ((x3_1).toNat * 3)).block, (ad101.add ((x3_1).toNat * 3)).off + 1, none⟩ = some (.int .i64 ((rd_T27 l0 x3_1).f1)) ∧ w'.cell? ⟨(ad101.add ((x3_1).toNat * 3)).block, (ad101.add ((x3_1).toNat * 3)).off + 2, none⟩ = some (.slice A104_2 ((rd_T27 l0 x3_1).f2).length c104_2)) (ds := []) #[false, false, false, false, false, false, false, false, false, false, false, false, false, false, false, false, false, false, false, false, false, false, false] (by kernel_rfl) rfl rfl ⟨((HB.out.cell (World.block_lt_of_cell? w _ hw101_0)).trans hw101_0), ((HB.out.cell (World.block_lt_of_cell? w _ hw101_1)).trans hw101_1), ((HB.out.cell (World.block_lt_of_cell? w _ hw101_2)).trans hw101_2), ((HB.out.cell (World.block_lt_of_cell? w _ hw103_0)).trans hw103_0), ((HB.out.cell (World.block_lt_of_cell? w _ hw103_1)).trans hw103_1), ((HB.out.cell (World.block_lt_of_cell? w _ hw103_2)).trans hw103_2), ((HB.out.cell (World.block_lt_of_cell? w _ hw104_0)).trans hw104_0), ((HB.out.cell (World.block_lt_of_cell? w _ hw104_1)).trans hw104_1), ((HB.out.cell (World.block_lt_of_cell? w _ hw104_2)).trans hw104_2)⟩ (fun hHeld => ?_);refine with_tabW spec_OccsOk.tab6 spec_OccsOk.bits6 (fun HT_ HW_ => ?_)
           generalize wr.drew = w13 at HB HR101_2 HR103_2 HR104_2 hx101_0 hx101_1 hx101_2 hx103_0 hx103_1 hx103_2 hx104_0 hx104_1 hx104_2 hHeld ⊢
           refine pure_ (i := 0) (N := some 13) (v := ?_) (a' := ?_) #[true, false, false, false, false, false, false, false, false, false, false, false, false, false, false, false, false, false, false, false, false, false, false] rfl rfl (any_of HT_.out (by kernel_rfl)) (fun _ _ _ h => h) (Or.inl ⟨by rfl, ?_⟩) ?_ ?_
           rotate_left
           ·intro w'
            go_simp
            with_reducible rfl
           rotate_left
           ·simp only [Act.put, List.setIfInBounds_toArray, List.set_cons_zero, List.set_cons_succ, i64_w, i32_w]
            rfl
           refine pure_ (i := 1) (N := some 14) (v := ?_) (a' := ?_) #[true, true, false, false, false, false, false, false, false, false, false, false, false, false, false, false, false, false, false, false, false, false, false] rfl rfl (any_of HT_.out (by kernel_rfl)) (fun _ _ _ h => h) (Or.inl ⟨by rfl, ?_⟩) ?_ ?_
           rotate_left
           ·intro w'
            go_simp
            with_reducible rfl
           rotate_left
           ·simp only [Act.put, List.setIfInBounds_toArray, List.set_cons_zero, List.set_cons_succ, i64_w, i32_w]
            rfl
           refine pure_ (i := 2) (N := some 15) (v := ?_) (a' := ?_) #[true, true, true, false, false, false, false, false, false, false, false, false, false, false, false, false, false, false, false, false, false, false, false] rfl rfl (any_of HT_.out (by kernel_rfl)) (fun _ _ _ h => h) (Or.inl ⟨by rfl, ?_⟩) ?_ ?_
           rotate_left
           ·intro w'
            go_simp
            with_reducible rfl
           rotate_left
           ·simp only [Act.put, List.setIfInBounds_toArray, List.set_cons_zero, List.set_cons_succ, i64_w, i32_w]
            rfl
           refine take_ (i := 3) (N := some 16) (v := ?_) (a' := ?_) #[true, true, true, true, false, false, false, false, false, false, false, false, false, false, false, false, false, false, false, false, false, false, false] rfl rfl (take_ofW HT_.out HW_.out (by kernel_rfl)) (fun _ _ _ h => h) (Or.inl ⟨by rfl, ?_⟩) hHeld ?_ ?_
           rotate_left
           ·rintro w' ⟨s0, s1, s2, s3, s4, s5, s6, s7, s8⟩
            go_simp
            with_reducible rfl
           rotate_left
           ·simp only [Act.put, List.setIfInBounds_toArray, List.set_cons_zero, List.set_cons_succ, i64_w, i32_w]
            rfl
           refine one_ (i := 4) (N := some 17) #[true, true, true, true, true, false, false, false, false, false, false, false, false, false, false, false, false, false, false, false, false, false, false] rfl rfl (one_of HT_.out (by kernel_rfl)) (by decide) (fun K hK => ?_)
           refine goes_ Try.func19 (by kernel_rfl) rfl #[.agg #[.int .i64 ((rd_T27 l0 x3_1).f0), .int .i64 ((rd_T27 l0 x3_1).f1), .slice A101_2 ((rd_T27 l0 x3_1).f2).length c101_2]] (by rfl) rfl rfl (by (try simp only [List.map_toArray, List.map_cons, List.map_nil]);first | done | rfl | (simp only [List.length_drop, List.length_take];rfl) | (rw [Option.some.inj (hw101_2.symm.trans hw104_2)];rfl) | (rw [Option.some.inj (hx101_2.symm.trans hx104_2)];rfl) | (rw [Option.some.inj (hw104_2.symm.trans hw101_2)];rfl) | (rw [Option.some.inj (hx104_2.symm.trans hx101_2)];rfl)) ?_
           with_reducible refine (spec_OccOk.calls k1 ((rd_T27 l0 x3_1).f0) ((rd_T27 l0 x3_1).f1) _ _ ((rd_T27 l0 x3_1).f2) true _ ?side1 ?side2 A5.out).mono ?_
           (case side1 => repeat (first | exact (Kd.C_below HR101_2.out HB.out) | (with_reducible refine Kd.C_alloc ?_ _) | (with_reducible refine Kd.C_drewN ?_ _) | (with_reducible refine Kd.C_drew ?_)))
           (case side2 => exact HC101_2.out)
           rintro e w14 ⟨rfl, hb⟩
           refine ⟨_, rfl, ?_⟩
           have n0_ := Aside0.mk (below_step (by exact HB.out) hb)
           clear HB
           have HB := n0_
           clear n0_
           (try clear hb)
           (try clear hb2)
           (try clear hk)
           (try clear hi)
           refine hK.out _ _ ⟨((HB.out.cell (World.block_lt_of_cell? w _ hw101_0)).trans hw101_0), ((HB.out.cell (World.block_lt_of_cell? w _ hw101_1)).trans hw101_1), ((HB.out.cell (World.block_lt_of_cell? w _ hw101_2)).trans hw101_2), ((HB.out.cell (World.block_lt_of_cell? w _ hw103_0)).trans hw103_0), ((HB.out.cell (World.block_lt_of_cell? w _ hw103_1)).trans hw103_1), ((HB.out.cell (World.block_lt_of_cell? w _ hw103_2)).trans hw103_2), ((HB.out.cell (World.block_lt_of_cell? w _ hw104_0)).trans hw104_0), ((HB.out.cell (World.block_lt_of_cell? w _ hw104_1)).trans hw104_1), ((HB.out.cell (World.block_lt_of_cell? w _ hw104_2)).trans hw104_2)⟩ (fun hHeld => ?_)
           clear hK K
           refine norm_ (a' := ?_) ?_ ?_
           rotate_left
           ·show Act.put _ (some 17) _ = _
            simp only [Act.put, List.setIfInBounds_toArray, List.set_cons_zero, List.set_cons_succ, i64_w, i32_w]
            rfl
           refine pure_ (i := 5) (N := some 18) (v := ?_) (a' := ?_) #[true, true, true, true, true, true, false, false, false, false, false, false, false, false, false, false, false, false, false, false, false, false, false] rfl rfl (any_of HT_.out (by kernel_rfl)) (fun _ _ _ h => h) (Or.inl ⟨by rfl, ?_⟩) ?_ ?_
           rotate_left
           ·intro w'
            go_simp
            with_reducible rfl
           rotate_left
           ·simp only [Act.put, List.setIfInBounds_toArray, List.set_cons_zero, List.set_cons_succ, i64_w, i32_w]
            rfl
           refine pure_ (i := 6) (N := some 19) (v := ?_) (a' := ?_) #[true, true, true, true, true, true, true, false, false, false, false, false, false, false, false, false, false, false, false, false, false, false, false] rfl rfl (any_of HT_.out (by kernel_rfl)) (fun _ _ _ h => h) (Or.inl ⟨by rfl, ?_⟩) ?_ ?_
           rotate_left
           ·intro w'
            go_simp
            with_reducible rfl
           rotate_left
           ·simp only [Act.put, List.setIfInBounds_toArray, List.set_cons_zero, List.set_cons_succ, i64_w, i32_w]
            rfl
           refine pure_ (i := 7) (N := some 20) (v := ?_) (a' := ?_) #[true, true, true, true, true, true, true, true, false, false, false, false, false, false, false, false, false, false, false, false, false, false, false] rfl rfl (any_of HT_.out (by kernel_rfl)) (fun _ _ _ h => h) (Or.inl ⟨by rfl, ?_⟩) ?_ ?_
           rotate_left
           ·intro w'
            go_simp
            with_reducible rfl
           rotate_left
           ·simp only [Act.put, List.setIfInBounds_toArray, List.set_cons_zero, List.set_cons_succ, i64_w, i32_w]
            rfl
           refine pure_ (i := 8) (N := some 21) (v := ?_) (a' := ?_) #[true, true, true, true, true, true, true, true, true, false, false, false, false, false, false, false, false, false, false, false, false, false, false] rfl rfl (any_of HT_.out (by kernel_rfl)) (fun _ _ _ h => h) (Or.inl ⟨by rfl, ?_⟩) ?_ ?_
           rotate_left
           ·intro w'
            go_simp
            with_reducible rfl
           rotate_left
           ·simp only [Act.put, List.setIfInBounds_toArray, List.set_cons_zero, List.set_cons_succ, i64_w, i32_w]
            rfl
           refine pure_ (i := 9) (N := some 22) (v := ?_) (a' := ?_) #[true, true, true, true, true, true, true, true, true, true, false, false, false, false, false, false, false, false, false, false, false, false, false] rfl rfl (any_of HT_.out (by kernel_rfl)) (fun _ _ _ h => h) (Or.inl ⟨by rfl, ?_⟩) ?_ ?_
           rotate_left
           ·intro w'
            go_simp
            with_reducible rfl
           rotate_left
           ·simp only [Act.put, List.setIfInBounds_toArray, List.set_cons_zero, List.set_cons_succ, i64_w, i32_w]
            rfl
           refine pure_ (i := 10) (N := some 23) (v := ?_) (a' := ?_) #[true, true, true, true, true, true, true, true, true, true, true, false, false, false, false, false, false, false, false, false, false, false, false] rfl rfl (any_of HT_.out (by kernel_rfl)) (fun _ _ _ h => h) (Or.inl ⟨by rfl, ?_⟩) ?_ ?_
           rotate_left
           ·intro w'
            go_simp
            with_reducible rfl
           rotate_left
           ·simp only [Act.put, List.setIfInBounds_toArray, List.set_cons_zero, List.set_cons_succ, i64_w, i32_w]
            rfl
           refine pure_ (i := 11) (N := some 24) (v := ?_) (a' := ?_) #[true, true, true, true, true, true, true, true, true, true, true, true, false, false, false, false, false, false, false, false, false, false, false] rfl rfl (any_of HT_.out (by kernel_rfl)) (fun _ _ _ h => h) (Or.inl ⟨by rfl, ?_⟩) ?_ ?_
           rotate_left
           ·intro w'
            go_simp
            with_reducible rfl
           rotate_left
           ·simp only [Act.put, List.setIfInBounds_toArray, List.set_cons_zero, List.set_cons_succ, i64_w, i32_w]
            rfl
           refine pure_ (i := 12) (N := some 25) (v := ?_) (a' := ?_) #[true, true, true, true, true, true, true, true, true, true, true, true, true, false, false, false, false, false, false, false, false, false, false] rfl rfl (any_of HT_.out (by kernel_rfl)) (fun _ _ _ h => h) (Or.inl ⟨by rfl, ?_⟩) ?_ ?_
           rotate_left
           ·intro w'
            go_simp
            with_reducible rfl
           rotate_left
           ·simp only [Act.put, List.setIfInBounds_toArray, List.set_cons_zero, List.set_cons_succ, i64_w, i32_w]
            rfl
           refine pure_ (i := 13) (N := some 26) (v := ?_) (a' := ?_) #[true, true, true, true, true, true, true, true, true, true, true, true, true, true, false, false, false, false, false, false, false, false, false] rfl rfl (any_of HT_.out (by kernel_rfl)) (fun _ _ _ h => h) (Or.inl ⟨by rfl, ?_⟩) ?_ ?_
           rotate_left
           ·intro w'
            go_simp
            with_reducible rfl
           rotate_left
           ·simp only [Act.put, List.setIfInBounds_toArray, List.set_cons_zero, List.set_cons_succ, i64_w, i32_w]
            rfl
           refine pure_ (i := 15) (N := some 28) (v := ?_) (a' := ?_) #[true, true, true, true, true, true, true, true, true, true, true, true, true, true, false, true, false, false, false, false, false, false, false] rfl rfl (any_of HT_.out (by kernel_rfl)) (fun _ _ _ h => h) (Or.inl ⟨by rfl, ?_⟩) ?_ ?_
           rotate_left
           ·intro w'
            go_simp
            with_reducible rfl
           rotate_left
           ·simp only [Act.put, List.setIfInBounds_toArray, List.set_cons_zero, List.set_cons_succ, i64_w, i32_w]
            rfl
           refine pure_ (i := 16) (N := some 29) (v := ?_) (a' := ?_) #[true, true, true, true, true, true, true, true, true, true, true, true, true, true, false, true, true, false, false, false, false, false, false] rfl rfl (any_of HT_.out (by kernel_rfl)) (fun _ _ _ h => h) (Or.inl ⟨by rfl, ?_⟩) ?_ ?_
           rotate_left
           ·intro w'
            go_simp
            with_reducible rfl
           rotate_left
           ·simp only [Act.put, List.setIfInBounds_toArray, List.set_cons_zero, List.set_cons_succ, i64_w, i32_w]
            rfl
           refine pure_ (i := 17) (N := some 30) (v := ?_) (a' := ?_) #[true, true, true, true, true, true, true, true, true, true, true, true, true, true, false, true, true, true, false, false, false, false, false] rfl rfl (any_of HT_.out (by kernel_rfl)) (fun _ _ _ h => h) (Or.inl ⟨by rfl, ?_⟩) ?_ ?_
           rotate_left
           ·intro w'
            go_simp
            with_reducible rfl
           rotate_left
           ·simp only [Act.put, List.setIfInBounds_toArray, List.set_cons_zero, List.set_cons_succ, i64_w, i32_w]
            rfl
           refine take_ (i := 14) (N := some 27) (v := ?_) (a' := ?_) #[true, true, true, true, true, true, true, true, true, true, true, true, true, true, true, true, true, true, false, false, false, false, false] rfl rfl (take_ofW HT_.out HW_.out (by kernel_rfl)) (fun _ _ _ h => h) (Or.inl ⟨by rfl, ?_⟩) hHeld ?_ ?_
           rotate_left
           ·rintro w' ⟨s0, s1, s2, s3, s4, s5, s6, s7, s8⟩
            go_simp
            with_reducible rfl
           rotate_left
           ·simp only [Act.put, List.setIfInBounds_toArray, List.set_cons_zero, List.set_cons_succ, i64_w, i32_w]
            rfl
           refine take_ (i := 18) (N := some 31) (v := ?_) (a' := ?_) #[true, true, true, true, true, true, true, true, true, true, true, true, true, true, true, true, true, true, true, false, false, false, false] rfl rfl (take_ofW HT_.out HW_.out (by kernel_rfl)) (fun _ _ _ h => h) (Or.inl ⟨by rfl, ?_⟩) hHeld ?_ ?_
           rotate_left
           ·rintro w' ⟨s0, s1, s2, s3, s4, s5, s6, s7, s8⟩
            go_simp
            with_reducible rfl
           rotate_left
           ·simp only [Act.put, List.setIfInBounds_toArray, List.set_cons_zero, List.set_cons_succ, i64_w, i32_w]
            rfl
           refine one_ (i := 19) (N := some 32) #[true, true, true, true, true, true, true, true, true, true, true, true, true, true, true, true, true, true, true, true, false, false, false] rfl rfl (one_of HT_.out (by kernel_rfl)) (by decide) (fun K hK => ?_)
           refine goes_ Try.func46 (by kernel_rfl) rfl #[.agg #[.int .i64 ((rd_T27 l0 (ji8)).f0), .int .i64 ((rd_T27 l0 (ji8)).f1), .slice A103_2 ((rd_T27 l0 (ji8)).f2).length c103_2], .agg #[.int .i64 ((rd_T27 l0 x3_1).f0), .int .i64 ((rd_T27 l0 x3_1).f1), .slice A104_2 ((rd_T27 l0 x3_1).f2).length c104_2]] (by rfl) rfl rfl (by (try simp only [List.map_toArray, List.map_cons, List.map_nil]);first | done | (simp only [hji8];rfl) | rfl | (simp only [List.length_drop, List.length_take];rfl) | (rw [Option.some.inj (hw101_2.symm.trans hw104_2)];rfl) | (rw [Option.some.inj (hx101_2.symm.trans hx104_2)];rfl) | (rw [Option.some.inj (hw104_2.symm.trans hw101_2)];rfl) | (rw [Option.some.inj (hx104_2.symm.trans hx101_2)];rfl)) ?_
           with_reducible refine (spec_OccLess.calls k1 ((rd_T27 l0 (ji8)).f0) ((rd_T27 l0 (ji8)).f1) _ _ ((rd_T27 l0 (ji8)).f2) ((rd_T27 l0 x3_1).f0) ((rd_T27 l0 x3_1).f1) _ _ ((rd_T27 l0 x3_1).f2) true _ ?side1 ?side2 ?side3 ?side4 A11.out).mono ?_
           (case side1 => repeat (first | exact (Kd.C_below HR103_2.out HB.out) | (with_reducible refine Kd.C_alloc ?_ _) | (with_reducible refine Kd.C_drewN ?_ _) | (with_reducible refine Kd.C_drew ?_)))
           (case side2 => exact HC103_2.out)
           (case side3 => repeat (first | exact (Kd.C_below HR104_2.out HB.out) | (with_reducible refine Kd.C_alloc ?_ _) | (with_reducible refine Kd.C_drewN ?_ _) | (with_reducible refine Kd.C_drew ?_)))
           (case side4 => exact HC104_2.out)
           rintro e w15 ⟨rfl, hb⟩
           refine ⟨_, rfl, ?_⟩
           have n0_ := Aside0.mk (below_step (by exact HB.out) hb)
           clear HB
           have HB := n0_
           clear n0_
           (try clear hb)
           (try clear hb2)
           (try clear hk)
           (try clear hi)
           refine hK.out _ _ ⟨((HB.out.cell (World.block_lt_of_cell? w _ hw101_0)).trans hw101_0), ((HB.out.cell (World.block_lt_of_cell? w _ hw101_1)).trans hw101_1), ((HB.out.cell (World.block_lt_of_cell? w _ hw101_2)).trans hw101_2), ((HB.out.cell (World.block_lt_of_cell? w _ hw103_0)).trans hw103_0), ((HB.out.cell (World.block_lt_of_cell? w _ hw103_1)).trans hw103_1), ((HB.out.cell (World.block_lt_of_cell? w _ hw103_2)).trans hw103_2), ((HB.out.cell (World.block_lt_of_cell? w _ hw104_0)).trans hw104_0), ((HB.out.cell (World.block_lt_of_cell? w _ hw104_1)).trans hw104_1), ((HB.out.cell (World.block_lt_of_cell? w _ hw104_2)).trans hw104_2)⟩ (fun hHeld => ?_)
           clear hK K
           refine norm_ (a' := ?_) ?_ ?_
           rotate_left
           ·show Act.put _ (some 32) _ = _
            simp only [Act.put, List.setIfInBounds_toArray, List.set_cons_zero, List.set_cons_succ, i64_w, i32_w]
            rfl
           refine pure_ (i := 20) (N := some 33) (v := ?_) (a' := ?_) #[true, true, true, true, true, true, true, true, true, true, true, true, true, true, true, true, true, true, true, true, true, false, false] rfl rfl (any_of HT_.out (by kernel_rfl)) (fun _ _ _ h => h) (Or.inl ⟨by rfl, ?_⟩) ?_ ?_
           rotate_left
           ·intro w'
            go_simp
            with_reducible rfl
           rotate_left
           ·simp only [Act.put, List.setIfInBounds_toArray, List.set_cons_zero, List.set_cons_succ, i64_w, i32_w]
            rfl
           refine pure_ (i := 21) (N := some 34) (v := ?_) (a' := ?_) #[true, true, true, true, true, true, true, true, true, true, true, true, true, true, true, true, true, true, true, true, true, true, false] rfl rfl (any_of HT_.out (by kernel_rfl)) (fun _ _ _ h => h) (Or.inl ⟨by rfl, ?_⟩) ?_ ?_
           rotate_left
           ·intro w'
            go_simp
            with_reducible rfl
           rotate_left
           ·simp only [Act.put, List.setIfInBounds_toArray, List.set_cons_zero, List.set_cons_succ, i64_w, i32_w]
            rfl
           refine pure_ (i := 22) (N := some 35) (v := ?_) (a' := ?_) #[true, true, true, true, true, true, true, true, true, true, true, true, true, true, true, true, true, true, true, true, true, true, true] rfl rfl (any_of HT_.out (by kernel_rfl)) (fun _ _ _ h => h) (Or.inl ⟨by rfl, ?_⟩) ?_ ?_
           rotate_left
           ·intro w'
            go_simp
            with_reducible rfl
           rotate_left
           ·simp only [Act.put, List.setIfInBounds_toArray, List.set_cons_zero, List.set_cons_succ, i64_w, i32_w]
            rfl
           refine done_ (done_of HT_.out (by kernel_rfl)) ?_
           try go_wp2
           go_roundg k1
           case measure => have := HK1.out;omega
           case rel => exact ⟨(wrap64 (x3_1 + 1)), (by first | rfl | (simp;done) | (simp [*];done)), H', ⟨by have := HK1.out;omega⟩, ⟨by repeat (first | (with_reducible first | exact HB.out | apply below_alloc | apply pw_below_drewN | apply below_drew1) | exact HB.out)⟩⟩
          ·replace c12 := Bool.eq_false_iff.mpr c12
           subst c12
           have H1 : (some false) = some r := by rw [if_neg (show ¬ (false = true) by decide)] at H;exact H
           clear H
           have H := H1
           clear H1
           obtain rfl := Option.some.inj H
           try go_wp2
           have n0_ := Aside0.mk (below_drew1 HB.out)
           clear HB
           have HB := n0_
           clear n0_
           have p101 : 0 ≤ (x3_1 : Int) := of_decide_eq_true (by first | (with_reducible assumption) | assumption)
           have q101 : x3_1 < (l0.length : Int) := of_decide_eq_true (by first | (with_reducible assumption) | assumption)
           obtain ⟨ad101, A101_2, c101_2, e101, hx101_0, hx101_1, hx101_2, hl101_2, hi101_2⟩ := at_T27 HR0.out x3_1 p101 q101
           have hw101_2 := hx101_2
           have hw101_1 := hx101_1
           have hw101_0 := hx101_0
           cases e101
           replace hx101_0 := (HB.out.cell (World.block_lt_of_cell? w _ hx101_0)).trans hx101_0
           replace hx101_1 := (HB.out.cell (World.block_lt_of_cell? w _ hx101_1)).trans hx101_1
           replace hx101_2 := (HB.out.cell (World.block_lt_of_cell? w _ hx101_2)).trans hx101_2
           have HR101_2 := Aside0.mk hi101_2
           have HC101_2 := Aside0.mk hl101_2
           clear hi101_2 hl101_2
           replace p101 := eq_true p101
           replace q101 := eq_true q101
           have p103 : 0 ≤ ((ji8) : Int) := of_decide_eq_true (by first | (with_reducible assumption) | assumption)
           have q103 : (ji8) < (l0.length : Int) := of_decide_eq_true (by first | (with_reducible assumption) | assumption)
           obtain ⟨ad103, A103_2, c103_2, e103, hx103_0, hx103_1, hx103_2, hl103_2, hi103_2⟩ := at_T27 HR0.out (ji8) p103 q103
           have hw103_2 := hx103_2
           have hw103_1 := hx103_1
           have hw103_0 := hx103_0
           obtain rfl : ad101 = ad103 := (by injection e103)
           replace hx103_0 := (HB.out.cell (World.block_lt_of_cell? w _ hx103_0)).trans hx103_0
           replace hx103_1 := (HB.out.cell (World.block_lt_of_cell? w _ hx103_1)).trans hx103_1
           replace hx103_2 := (HB.out.cell (World.block_lt_of_cell? w _ hx103_2)).trans hx103_2
           have HR103_2 := Aside0.mk hi103_2
           have HC103_2 := Aside0.mk hl103_2
           clear hi103_2 hl103_2
           replace p103 := eq_true p103
           replace q103 := eq_true q103
           have p104 : 0 ≤ (x3_1 : Int) := of_decide_eq_true (by first | (with_reducible assumption) | assumption)
           have q104 : x3_1 < (l0.length : Int) := of_decide_eq_true (by first | (with_reducible assumption) | assumption)
           obtain ⟨ad104, A104_2, c104_2, e104, hx104_0, hx104_1, hx104_2, hl104_2, hi104_2⟩ := at_T27 HR0.out x3_1 p104 q104
           have hw104_2 := hx104_2
           have hw104_1 := hx104_1
           have hw104_0 := hx104_0
           obtain rfl : ad101 = ad104 := (by injection e104)
           replace hx104_0 := (HB.out.cell (World.block_lt_of_cell? w _ hx104_0)).trans hx104_0
           replace hx104_1 := (HB.out.cell (World.block_lt_of_cell? w _ hx104_1)).trans hx104_1
           replace hx104_2 := (HB.out.cell (World.block_lt_of_cell? w _ hx104_2)).trans hx104_2
           have HR104_2 := Aside0.mk hi104_2
           have HC104_2 := Aside0.mk hl104_2
           clear hi104_2 hl104_2
           replace p104 := eq_true p104
           replace q104 := eq_true q104
           refine start_ (n := 23) (S := fun w' => w'.cell? (ad101.add ((x3_1).toNat * 3)) = some (.int .i64 ((rd_T27 l0 x3_1).f0)) ∧ w'.cell? ⟨(ad101.add ((x3_1).toNat * 3)).block, (ad101.add ((x3_1).toNat * 3)).off + 1, none⟩ = some (.int .i64 ((rd_T27 l0 x3_1).f1)) ∧ w'.cell? ⟨(ad101.add ((x3_1).toNat * 3)).block, (ad101.add ((x3_1).toNat * 3)).off + 2, none⟩ = some (.slice A101_2 ((rd_T27 l0 x3_1).f2).length c101_2) ∧ w'.cell? (ad101.add (((ji8)).toNat * 3)) = some (.int .i64 ((rd_T27 l0 (ji8)).f0)) ∧ w'.cell? ⟨(ad101.add (((ji8)).toNat * 3)).block, (ad101.add (((ji8)).toNat * 3)).off + 1, none⟩ = some (.int .i64 ((rd_T27 l0 (ji8)).f1)) ∧ w'.cell? ⟨(ad101.add (((ji8)).toNat * 3)).block, (ad101.add (((ji8)).toNat * 3)).off + 2, none⟩ = some (.slice A103_2 ((rd_T27 l0 (ji8)).f2).length c103_2) ∧ w'.cell? (ad101.add ((x3_1).toNat * 3)) = some (.int .i64 ((rd_T27 l0 x3_1).f0)) ∧ w'.cell? ⟨(ad101.add ((x3_1).toNat * 3)).block, (ad101.add ((x3_1).toNat * 3)).off + 1, none⟩ = some (.int .i64 ((rd_T27 l0 x3_1).f1)) ∧ w'.cell? ⟨(ad101.add ((x3_1).toNat * 3)).block, (ad101.add ((x3_1).toNat * 3)).off + 2, none⟩ = some (.slice A104_2 ((rd_T27 l0 x3_1).f2).length c104_2)) (ds := []) #[false, false, false, false, false, false, false, false, false, false, false, false, false, false, false, false, false, false, false, false, false, false, false] (by kernel_rfl) rfl rfl ⟨((HB.out.cell (World.block_lt_of_cell? w _ hw101_0)).trans hw101_0), ((HB.out.cell (World.block_lt_of_cell? w _ hw101_1)).trans hw101_1), ((HB.out.cell (World.block_lt_of_cell? w _ hw101_2)).trans hw101_2), ((HB.out.cell (World.block_lt_of_cell? w _ hw103_0)).trans hw103_0), ((HB.out.cell (World.block_lt_of_cell? w _ hw103_1)).trans hw103_1), ((HB.out.cell (World.block_lt_of_cell? w _ hw103_2)).trans hw103_2), ((HB.out.cell (World.block_lt_of_cell? w _ hw104_0)).trans hw104_0), ((HB.out.cell (World.block_lt_of_cell? w _ hw104_1)).trans hw104_1), ((HB.out.cell (World.block_lt_of_cell? w _ hw104_2)).trans hw104_2)⟩ (fun hHeld => ?_);refine with_tabW spec_OccsOk.tab6 spec_OccsOk.bits6 (fun HT_ HW_ => ?_)
           generalize wr.drew = w16 at HB HR101_2 HR103_2 HR104_2 hx101_0 hx101_1 hx101_2 hx103_0 hx103_1 hx103_2 hx104_0 hx104_1 hx104_2 hHeld ⊢
           refine pure_ (i := 0) (N := some 13) (v := ?_) (a' := ?_) #[true, false, false, false, false, false, false, false, false, false, false, false, false, false, false, false, false, false, false, false, false, false, false] rfl rfl (any_of HT_.out (by kernel_rfl)) (fun _ _ _ h => h) (Or.inl ⟨by rfl, ?_⟩) ?_ ?_
           rotate_left
           ·intro w'
            go_simp
            with_reducible rfl
           rotate_left
           ·simp only [Act.put, List.setIfInBounds_toArray, List.set_cons_zero, List.set_cons_succ, i64_w, i32_w]
            rfl
           refine pure_ (i := 1) (N := some 14) (v := ?_) (a' := ?_) #[true, true, false, false, false, false, false, false, false, false, false, false, false, false, false, false, false, false, false, false, false, false, false] rfl rfl (any_of HT_.out (by kernel_rfl)) (fun _ _ _ h => h) (Or.inl ⟨by rfl, ?_⟩) ?_ ?_
           rotate_left
           ·intro w'
            go_simp
            with_reducible rfl
           rotate_left
           ·simp only [Act.put, List.setIfInBounds_toArray, List.set_cons_zero, List.set_cons_succ, i64_w, i32_w]
            rfl
           refine pure_ (i := 2) (N := some 15) (v := ?_) (a' := ?_) #[true, true, true, false, false, false, false, false, false, false, false, false, false, false, false, false, false, false, false, false, false, false, false] rfl rfl (any_of HT_.out (by kernel_rfl)) (fun _ _ _ h => h) (Or.inl ⟨by rfl, ?_⟩) ?_ ?_
           rotate_left
           ·intro w'
            go_simp
            with_reducible rfl
           rotate_left
           ·simp only [Act.put, List.setIfInBounds_toArray, List.set_cons_zero, List.set_cons_succ, i64_w, i32_w]
            rfl
           refine take_ (i := 3) (N := some 16) (v := ?_) (a' := ?_) #[true, true, true, true, false, false, false, false, false, false, false, false, false, false, false, false, false, false, false, false, false, false, false] rfl rfl (take_ofW HT_.out HW_.out (by kernel_rfl)) (fun _ _ _ h => h) (Or.inl ⟨by rfl, ?_⟩) hHeld ?_ ?_
           rotate_left
           ·rintro w' ⟨s0, s1, s2, s3, s4, s5, s6, s7, s8⟩
            go_simp
            with_reducible rfl
           rotate_left
           ·simp only [Act.put, List.setIfInBounds_toArray, List.set_cons_zero, List.set_cons_succ, i64_w, i32_w]
            rfl
           refine one_ (i := 4) (N := some 17) #[true, true, true, true, true, false, false, false, false, false, false, false, false, false, false, false, false, false, false, false, false, false, false] rfl rfl (one_of HT_.out (by kernel_rfl)) (by decide) (fun K hK => ?_)
           refine goes_ Try.func19 (by kernel_rfl) rfl #[.agg #[.int .i64 ((rd_T27 l0 x3_1).f0), .int .i64 ((rd_T27 l0 x3_1).f1), .slice A101_2 ((rd_T27 l0 x3_1).f2).length c101_2]] (by rfl) rfl rfl (by (try simp only [List.map_toArray, List.map_cons, List.map_nil]);first | done | rfl | (simp only [List.length_drop, List.length_take];rfl) | (rw [Option.some.inj (hw101_2.symm.trans hw104_2)];rfl) | (rw [Option.some.inj (hx101_2.symm.trans hx104_2)];rfl) | (rw [Option.some.inj (hw104_2.symm.trans hw101_2)];rfl) | (rw [Option.some.inj (hx104_2.symm.trans hx101_2)];rfl)) ?_
           with_reducible refine (spec_OccOk.calls k1 ((rd_T27 l0 x3_1).f0) ((rd_T27 l0 x3_1).f1) _ _ ((rd_T27 l0 x3_1).f2) true _ ?side1 ?side2 A5.out).mono ?_
           (case side1 => repeat (first | exact (Kd.C_below HR101_2.out HB.out) | (with_reducible refine Kd.C_alloc ?_ _) | (with_reducible refine Kd.C_drewN ?_ _) | (with_reducible refine Kd.C_drew ?_)))
           (case side2 => exact HC101_2.out)
           rintro e w17 ⟨rfl, hb⟩
           refine ⟨_, rfl, ?_⟩
           have n0_ := Aside0.mk (below_step (by exact HB.out) hb)
           clear HB
           have HB := n0_
           clear n0_
           (try clear hb)
           (try clear hb2)
           (try clear hk)
           (try clear hi)
           refine hK.out _ _ ⟨((HB.out.cell (World.block_lt_of_cell? w _ hw101_0)).trans hw101_0), ((HB.out.cell (World.block_lt_of_cell? w _ hw101_1)).trans hw101_1), ((HB.out.cell (World.block_lt_of_cell? w _ hw101_2)).trans hw101_2), ((HB.out.cell (World.block_lt_of_cell? w _ hw103_0)).trans hw103_0), ((HB.out.cell (World.block_lt_of_cell? w _ hw103_1)).trans hw103_1), ((HB.out.cell (World.block_lt_of_cell? w _ hw103_2)).trans hw103_2), ((HB.out.cell (World.block_lt_of_cell? w _ hw104_0)).trans hw104_0), ((HB.out.cell (World.block_lt_of_cell? w _ hw104_1)).trans hw104_1), ((HB.out.cell (World.block_lt_of_cell? w _ hw104_2)).trans hw104_2)⟩ (fun hHeld => ?_)
           clear hK K
           refine norm_ (a' := ?_) ?_ ?_
           rotate_left
           ·show Act.put _ (some 17) _ = _
            simp only [Act.put, List.setIfInBounds_toArray, List.set_cons_zero, List.set_cons_succ, i64_w, i32_w]
            rfl
           refine pure_ (i := 5) (N := some 18) (v := ?_) (a' := ?_) #[true, true, true, true, true, true, false, false, false, false, false, false, false, false, false, false, false, false, false, false, false, false, false] rfl rfl (any_of HT_.out (by kernel_rfl)) (fun _ _ _ h => h) (Or.inl ⟨by rfl, ?_⟩) ?_ ?_
           rotate_left
           ·intro w'
            go_simp
            with_reducible rfl
           rotate_left
           ·simp only [Act.put, List.setIfInBounds_toArray, List.set_cons_zero, List.set_cons_succ, i64_w, i32_w]
            rfl
           refine pure_ (i := 6) (N := some 19) (v := ?_) (a' := ?_) #[true, true, true, true, true, true, true, false, false, false, false, false, false, false, false, false, false, false, false, false, false, false, false] rfl rfl (any_of HT_.out (by kernel_rfl)) (fun _ _ _ h => h) (Or.inl ⟨by rfl, ?_⟩) ?_ ?_
           rotate_left
           ·intro w'
            go_simp
            with_reducible rfl
           rotate_left
           ·simp only [Act.put, List.setIfInBounds_toArray, List.set_cons_zero, List.set_cons_succ, i64_w, i32_w]
            rfl
           refine pure_ (i := 7) (N := some 20) (v := ?_) (a' := ?_) #[true, true, true, true, true, true, true, true, false, false, false, false, false, false, false, false, false, false, false, false, false, false, false] rfl rfl (any_of HT_.out (by kernel_rfl)) (fun _ _ _ h => h) (Or.inl ⟨by rfl, ?_⟩) ?_ ?_
           rotate_left
           ·intro w'
            go_simp
            with_reducible rfl
           rotate_left
           ·simp only [Act.put, List.setIfInBounds_toArray, List.set_cons_zero, List.set_cons_succ, i64_w, i32_w]
            rfl
           refine pure_ (i := 8) (N := some 21) (v := ?_) (a' := ?_) #[true, true, true, true, true, true, true, true, true, false, false, false, false, false, false, false, false, false, false, false, false, false, false] rfl rfl (any_of HT_.out (by kernel_rfl)) (fun _ _ _ h => h) (Or.inl ⟨by rfl, ?_⟩) ?_ ?_
           rotate_left
           ·intro w'
            go_simp
            with_reducible rfl
           rotate_left
           ·simp only [Act.put, List.setIfInBounds_toArray, List.set_cons_zero, List.set_cons_succ, i64_w, i32_w]
            rfl
           refine pure_ (i := 9) (N := some 22) (v := ?_) (a' := ?_) #[true, true, true, true, true, true, true, true, true, true, false, false, false, false, false, false, false, false, false, false, false, false, false] rfl rfl (any_of HT_.out (by kernel_rfl)) (fun _ _ _ h => h) (Or.inl ⟨by rfl, ?_⟩) ?_ ?_
           rotate_left
           ·intro w'
            go_simp
            with_reducible rfl
           rotate_left
           ·simp only [Act.put, List.setIfInBounds_toArray, List.set_cons_zero, List.set_cons_succ, i64_w, i32_w]
            rfl
           refine pure_ (i := 10) (N := some 23) (v := ?_) (a' := ?_) #[true, true, true, true, true, true, true, true, true, true, true, false, false, false, false, false, false, false, false, false, false, false, false] rfl rfl (any_of HT_.out (by kernel_rfl)) (fun _ _ _ h => h) (Or.inl ⟨by rfl, ?_⟩) ?_ ?_
           rotate_left
           ·intro w'
            go_simp
            with_reducible rfl
           rotate_left
           ·simp only [Act.put, List.setIfInBounds_toArray, List.set_cons_zero, List.set_cons_succ, i64_w, i32_w]
            rfl
           refine pure_ (i := 11) (N := some 24) (v := ?_) (a' := ?_) #[true, true, true, true, true, true, true, true, true, true, true, true, false, false, false, false, false, false, false, false, false, false, false] rfl rfl (any_of HT_.out (by kernel_rfl)) (fun _ _ _ h => h) (Or.inl ⟨by rfl, ?_⟩) ?_ ?_
           rotate_left
           ·intro w'
            go_simp
            with_reducible rfl
           rotate_left
           ·simp only [Act.put, List.setIfInBounds_toArray, List.set_cons_zero, List.set_cons_succ, i64_w, i32_w]
            rfl
           refine pure_ (i := 12) (N := some 25) (v := ?_) (a' := ?_) #[true, true, true, true, true, true, true, true, true, true, true, true, true, false, false, false, false, false, false, false, false, false, false] rfl rfl (any_of HT_.out (by kernel_rfl)) (fun _ _ _ h => h) (Or.inl ⟨by rfl, ?_⟩) ?_ ?_
           rotate_left
           ·intro w'
            go_simp
            with_reducible rfl
           rotate_left
           ·simp only [Act.put, List.setIfInBounds_toArray, List.set_cons_zero, List.set_cons_succ, i64_w, i32_w]
            rfl
           refine pure_ (i := 13) (N := some 26) (v := ?_) (a' := ?_) #[true, true, true, true, true, true, true, true, true, true, true, true, true, true, false, false, false, false, false, false, false, false, false] rfl rfl (any_of HT_.out (by kernel_rfl)) (fun _ _ _ h => h) (Or.inl ⟨by rfl, ?_⟩) ?_ ?_
           rotate_left
           ·intro w'
            go_simp
            with_reducible rfl
           rotate_left
           ·simp only [Act.put, List.setIfInBounds_toArray, List.set_cons_zero, List.set_cons_succ, i64_w, i32_w]
            rfl
           refine pure_ (i := 15) (N := some 28) (v := ?_) (a' := ?_) #[true, true, true, true, true, true, true, true, true, true, true, true, true, true, false, true, false, false, false, false, false, false, false] rfl rfl (any_of HT_.out (by kernel_rfl)) (fun _ _ _ h => h) (Or.inl ⟨by rfl, ?_⟩) ?_ ?_
           rotate_left
           ·intro w'
            go_simp
            with_reducible rfl
           rotate_left
           ·simp only [Act.put, List.setIfInBounds_toArray, List.set_cons_zero, List.set_cons_succ, i64_w, i32_w]
            rfl
           refine pure_ (i := 16) (N := some 29) (v := ?_) (a' := ?_) #[true, true, true, true, true, true, true, true, true, true, true, true, true, true, false, true, true, false, false, false, false, false, false] rfl rfl (any_of HT_.out (by kernel_rfl)) (fun _ _ _ h => h) (Or.inl ⟨by rfl, ?_⟩) ?_ ?_
           rotate_left
           ·intro w'
            go_simp
            with_reducible rfl
           rotate_left
           ·simp only [Act.put, List.setIfInBounds_toArray, List.set_cons_zero, List.set_cons_succ, i64_w, i32_w]
            rfl
           refine pure_ (i := 17) (N := some 30) (v := ?_) (a' := ?_) #[true, true, true, true, true, true, true, true, true, true, true, true, true, true, false, true, true, true, false, false, false, false, false] rfl rfl (any_of HT_.out (by kernel_rfl)) (fun _ _ _ h => h) (Or.inl ⟨by rfl, ?_⟩) ?_ ?_
           rotate_left
           ·intro w'
            go_simp
            with_reducible rfl
           rotate_left
           ·simp only [Act.put, List.setIfInBounds_toArray, List.set_cons_zero, List.set_cons_succ, i64_w, i32_w]
            rfl
           refine take_ (i := 14) (N := some 27) (v := ?_) (a' := ?_) #[true, true, true, true, true, true, true, true, true, true, true, true, true, true, true, true, true, true, false, false, false, false, false] rfl rfl (take_ofW HT_.out HW_.out (by kernel_rfl)) (fun _ _ _ h => h) (Or.inl ⟨by rfl, ?_⟩) hHeld ?_ ?_
           rotate_left
           ·rintro w' ⟨s0, s1, s2, s3, s4, s5, s6, s7, s8⟩
            go_simp
            with_reducible rfl
           rotate_left
           ·simp only [Act.put, List.setIfInBounds_toArray, List.set_cons_zero, List.set_cons_succ, i64_w, i32_w]
            rfl
           refine take_ (i := 18) (N := some 31) (v := ?_) (a' := ?_) #[true, true, true, true, true, true, true, true, true, true, true, true, true, true, true, true, true, true, true, false, false, false, false] rfl rfl (take_ofW HT_.out HW_.out (by kernel_rfl)) (fun _ _ _ h => h) (Or.inl ⟨by rfl, ?_⟩) hHeld ?_ ?_
           rotate_left
           ·rintro w' ⟨s0, s1, s2, s3, s4, s5, s6, s7, s8⟩
            go_simp
            with_reducible rfl
           rotate_left
           ·simp only [Act.put, List.setIfInBounds_toArray, List.set_cons_zero, List.set_cons_succ, i64_w, i32_w]
            rfl
           refine one_ (i := 19) (N := some 32) #[true, true, true, true, true, true, true, true, true, true, true, true, true, true, true, true, true, true, true, true, false, false, false] rfl rfl (one_of HT_.out (by kernel_rfl)) (by decide) (fun K hK => ?_)
           refine goes_ Try.func46 (by kernel_rfl) rfl #[.agg #[.int .i64 ((rd_T27 l0 (ji8)).f0), .int .i64 ((rd_T27 l0 (ji8)).f1), .slice A103_2 ((rd_T27 l0 (ji8)).f2).length c103_2], .agg #[.int .i64 ((rd_T27 l0 x3_1).f0), .int .i64 ((rd_T27 l0 x3_1).f1), .slice A104_2 ((rd_T27 l0 x3_1).f2).length c104_2]] (by rfl) rfl rfl (by (try simp only [List.map_toArray, List.map_cons, List.map_nil]);first | done | (simp only [hji8];rfl) | rfl | (simp only [List.length_drop, List.length_take];rfl) | (rw [Option.some.inj (hw101_2.symm.trans hw104_2)];rfl) | (rw [Option.some.inj (hx101_2.symm.trans hx104_2)];rfl) | (rw [Option.some.inj (hw104_2.symm.trans hw101_2)];rfl) | (rw [Option.some.inj (hx104_2.symm.trans hx101_2)];rfl)) ?_
           with_reducible refine (spec_OccLess.calls k1 ((rd_T27 l0 (ji8)).f0) ((rd_T27 l0 (ji8)).f1) _ _ ((rd_T27 l0 (ji8)).f2) ((rd_T27 l0 x3_1).f0) ((rd_T27 l0 x3_1).f1) _ _ ((rd_T27 l0 x3_1).f2) false _ ?side1 ?side2 ?side3 ?side4 A11.out).mono ?_
           (case side1 => repeat (first | exact (Kd.C_below HR103_2.out HB.out) | (with_reducible refine Kd.C_alloc ?_ _) | (with_reducible refine Kd.C_drewN ?_ _) | (with_reducible refine Kd.C_drew ?_)))
           (case side2 => exact HC103_2.out)
           (case side3 => repeat (first | exact (Kd.C_below HR104_2.out HB.out) | (with_reducible refine Kd.C_alloc ?_ _) | (with_reducible refine Kd.C_drewN ?_ _) | (with_reducible refine Kd.C_drew ?_)))
           (case side4 => exact HC104_2.out)
           rintro e w18 ⟨rfl, hb⟩
           refine ⟨_, rfl, ?_⟩
           have n0_ := Aside0.mk (below_step (by exact HB.out) hb)
           clear HB
           have HB := n0_
           clear n0_
           (try clear hb)
           (try clear hb2)
           (try clear hk)
           (try clear hi)
           refine hK.out _ _ ⟨((HB.out.cell (World.block_lt_of_cell? w _ hw101_0)).trans hw101_0), ((HB.out.cell (World.block_lt_of_cell? w _ hw101_1)).trans hw101_1), ((HB.out.cell (World.block_lt_of_cell? w _ hw101_2)).trans hw101_2), ((HB.out.cell (World.block_lt_of_cell? w _ hw103_0)).trans hw103_0), ((HB.out.cell (World.block_lt_of_cell? w _ hw103_1)).trans hw103_1), ((HB.out.cell (World.block_lt_of_cell? w _ hw103_2)).trans hw103_2), ((HB.out.cell (World.block_lt_of_cell? w _ hw104_0)).trans hw104_0), ((HB.out.cell (World.block_lt_of_cell? w _ hw104_1)).trans hw104_1), ((HB.out.cell (World.block_lt_of_cell? w _ hw104_2)).trans hw104_2)⟩ (fun hHeld => ?_)
           clear hK K
           refine norm_ (a' := ?_) ?_ ?_
           rotate_left
           ·show Act.put _ (some 32) _ = _
            simp only [Act.put, List.setIfInBounds_toArray, List.set_cons_zero, List.set_cons_succ, i64_w, i32_w]
            rfl
           refine pure_ (i := 20) (N := some 33) (v := ?_) (a' := ?_) #[true, true, true, true, true, true, true, true, true, true, true, true, true, true, true, true, true, true, true, true, true, false, false] rfl rfl (any_of HT_.out (by kernel_rfl)) (fun _ _ _ h => h) (Or.inl ⟨by rfl, ?_⟩) ?_ ?_
           rotate_left
           ·intro w'
            go_simp
            with_reducible rfl
           rotate_left
           ·simp only [Act.put, List.setIfInBounds_toArray, List.set_cons_zero, List.set_cons_succ, i64_w, i32_w]
            rfl
           refine pure_ (i := 21) (N := some 34) (v := ?_) (a' := ?_) #[true, true, true, true, true, true, true, true, true, true, true, true, true, true, true, true, true, true, true, true, true, true, false] rfl rfl (any_of HT_.out (by kernel_rfl)) (fun _ _ _ h => h) (Or.inl ⟨by rfl, ?_⟩) ?_ ?_
           rotate_left
           ·intro w'
            go_simp
            with_reducible rfl
           rotate_left
           ·simp only [Act.put, List.setIfInBounds_toArray, List.set_cons_zero, List.set_cons_succ, i64_w, i32_w]
            rfl
           refine pure_ (i := 22) (N := some 35) (v := ?_) (a' := ?_) #[true, true, true, true, true, true, true, true, true, true, true, true, true, true, true, true, true, true, true, true, true, true, true] rfl rfl (any_of HT_.out (by kernel_rfl)) (fun _ _ _ h => h) (Or.inl ⟨by rfl, ?_⟩) ?_ ?_
           rotate_left
           ·intro w'
            go_simp
            with_reducible rfl
           rotate_left
           ·simp only [Act.put, List.setIfInBounds_toArray, List.set_cons_zero, List.set_cons_succ, i64_w, i32_w]
            rfl
           refine done_ (done_of HT_.out (by kernel_rfl)) ?_
           try go_wp2
           go_ret
           exact ⟨by first | rfl | (simp [errW_none, errW_some] <;> rfl) | (simp only [← hji8];first | rfl | (simp [errW_none, errW_some] <;> rfl)) | (simp [*, errW_none, errW_some] <;> rfl), by repeat (first | (with_reducible first | exact HB.out | apply below_alloc | apply pw_below_drewN | apply below_drew1) | exact HB.out)⟩
         ·rw [if_neg c10] at H
          exact absurd H (by simp)
        ·rw [if_neg c9] at H
         exact absurd H (by simp)
       ·rw [if_neg c7] at H
        have c7b0 : decide (0 < x3_1) = false := decide_eq_false c7
        clear c7
        have H' := Aside0.mk H
        clear H
        try go_wp2
        have n0_ := Aside0.mk (below_drew1 HB.out)
        clear HB
        have HB := n0_
        clear n0_
        have p101 : 0 ≤ (x3_1 : Int) := of_decide_eq_true (by first | (with_reducible assumption) | assumption)
        have q101 : x3_1 < (l0.length : Int) := of_decide_eq_true (by first | (with_reducible assumption) | assumption)
        obtain ⟨ad101, A101_2, c101_2, e101, hx101_0, hx101_1, hx101_2, hl101_2, hi101_2⟩ := at_T27 HR0.out x3_1 p101 q101
        have hw101_2 := hx101_2
        have hw101_1 := hx101_1
        have hw101_0 := hx101_0
        cases e101
        replace hx101_0 := (HB.out.cell (World.block_lt_of_cell? w _ hx101_0)).trans hx101_0
        replace hx101_1 := (HB.out.cell (World.block_lt_of_cell? w _ hx101_1)).trans hx101_1
        replace hx101_2 := (HB.out.cell (World.block_lt_of_cell? w _ hx101_2)).trans hx101_2
        have HR101_2 := Aside0.mk hi101_2
        have HC101_2 := Aside0.mk hl101_2
        clear hi101_2 hl101_2
        replace p101 := eq_true p101
        replace q101 := eq_true q101
        refine start_ (n := 23) (S := fun w' => w'.cell? (ad101.add ((x3_1).toNat * 3)) = some (.int .i64 ((rd_T27 l0 x3_1).f0)) ∧ w'.cell? ⟨(ad101.add ((x3_1).toNat * 3)).block, (ad101.add ((x3_1).toNat * 3)).off + 1, none⟩ = some (.int .i64 ((rd_T27 l0 x3_1).f1)) ∧ w'.cell? ⟨(ad101.add ((x3_1).toNat * 3)).block, (ad101.add ((x3_1).toNat * 3)).off + 2, none⟩ = some (.slice A101_2 ((rd_T27 l0 x3_1).f2).length c101_2)) (ds := []) #[false, false, false, false, false, false, false, false, false, false, false, false, false, false, false, false, false, false, false, false, false, false, false] (by kernel_rfl) rfl rfl ⟨((HB.out.cell (World.block_lt_of_cell? w _ hw101_0)).trans hw101_0), ((HB.out.cell (World.block_lt_of_cell? w _ hw101_1)).trans hw101_1), ((HB.out.cell (World.block_lt_of_cell? w _ hw101_2)).trans hw101_2)⟩ (fun hHeld => ?_);refine with_tabW spec_OccsOk.tab6 spec_OccsOk.bits6 (fun HT_ HW_ => ?_)
        generalize wr.drew = w19 at HB HR101_2 hx101_0 hx101_1 hx101_2 hHeld ⊢
        refine pure_ (i := 0) (N := some 13) (v := ?_) (a' := ?_) #[true, false, false, false, false, false, false, false, false, false, false, false, false, false, false, false, false, false, false, false, false, false, false] rfl rfl (any_of HT_.out (by kernel_rfl)) (fun _ _ _ h => h) (Or.inl ⟨by rfl, ?_⟩) ?_ ?_
        rotate_left
        ·intro w'
         go_simp
         with_reducible rfl
        rotate_left
        ·simp only [Act.put, List.setIfInBounds_toArray, List.set_cons_zero, List.set_cons_succ, i64_w, i32_w]
         rfl
        refine pure_ (i := 1) (N := some 14) (v := ?_) (a' := ?_) #[true, true, false, false, false, false, false, false, false, false, false, false, false, false, false, false, false, false, false, false, false, false, false] rfl rfl (any_of HT_.out (by kernel_rfl)) (fun _ _ _ h => h) (Or.inl ⟨by rfl, ?_⟩) ?_ ?_
        rotate_left
        ·intro w'
         go_simp
         with_reducible rfl
        rotate_left
        ·simp only [Act.put, List.setIfInBounds_toArray, List.set_cons_zero, List.set_cons_succ, i64_w, i32_w]
         rfl
        refine pure_ (i := 2) (N := some 15) (v := ?_) (a' := ?_) #[true, true, true, false, false, false, false, false, false, false, false, false, false, false, false, false, false, false, false, false, false, false, false] rfl rfl (any_of HT_.out (by kernel_rfl)) (fun _ _ _ h => h) (Or.inl ⟨by rfl, ?_⟩) ?_ ?_
        rotate_left
        ·intro w'
         go_simp
         with_reducible rfl
        rotate_left
        ·simp only [Act.put, List.setIfInBounds_toArray, List.set_cons_zero, List.set_cons_succ, i64_w, i32_w]
         rfl
        refine take_ (i := 3) (N := some 16) (v := ?_) (a' := ?_) #[true, true, true, true, false, false, false, false, false, false, false, false, false, false, false, false, false, false, false, false, false, false, false] rfl rfl (take_ofW HT_.out HW_.out (by kernel_rfl)) (fun _ _ _ h => h) (Or.inl ⟨by rfl, ?_⟩) hHeld ?_ ?_
        rotate_left
        ·rintro w' ⟨s0, s1, s2⟩
         go_simp
         with_reducible rfl
        rotate_left
        ·simp only [Act.put, List.setIfInBounds_toArray, List.set_cons_zero, List.set_cons_succ, i64_w, i32_w]
         rfl
        refine one_ (i := 4) (N := some 17) #[true, true, true, true, true, false, false, false, false, false, false, false, false, false, false, false, false, false, false, false, false, false, false] rfl rfl (one_of HT_.out (by kernel_rfl)) (by decide) (fun K hK => ?_)
        refine goes_ Try.func19 (by kernel_rfl) rfl #[.agg #[.int .i64 ((rd_T27 l0 x3_1).f0), .int .i64 ((rd_T27 l0 x3_1).f1), .slice A101_2 ((rd_T27 l0 x3_1).f2).length c101_2]] (by rfl) rfl rfl (by (try simp only [List.map_toArray, List.map_cons, List.map_nil]);first | done | rfl | (simp only [List.length_drop, List.length_take];rfl) | (rw [Option.some.inj (hw101_2.symm.trans hw104_2)];rfl) | (rw [Option.some.inj (hx101_2.symm.trans hx104_2)];rfl) | (rw [Option.some.inj (hw104_2.symm.trans hw101_2)];rfl) | (rw [Option.some.inj (hx104_2.symm.trans hx101_2)];rfl)) ?_
        with_reducible refine (spec_OccOk.calls k1 ((rd_T27 l0 x3_1).f0) ((rd_T27 l0 x3_1).f1) _ _ ((rd_T27 l0 x3_1).f2) true _ ?side1 ?side2 A5.out).mono ?_
        (case side1 => repeat (first | exact (Kd.C_below HR101_2.out HB.out) | (with_reducible refine Kd.C_alloc ?_ _) | (with_reducible refine Kd.C_drewN ?_ _) | (with_reducible refine Kd.C_drew ?_)))
        (case side2 => exact HC101_2.out)
        rintro e w20 ⟨rfl, hb⟩
        refine ⟨_, rfl, ?_⟩
        have n0_ := Aside0.mk (below_step (by exact HB.out) hb)
        clear HB
        have HB := n0_
        clear n0_
        (try clear hb)
        (try clear hb2)
        (try clear hk)
        (try clear hi)
        refine hK.out _ _ ⟨((HB.out.cell (World.block_lt_of_cell? w _ hw101_0)).trans hw101_0), ((HB.out.cell (World.block_lt_of_cell? w _ hw101_1)).trans hw101_1), ((HB.out.cell (World.block_lt_of_cell? w _ hw101_2)).trans hw101_2)⟩ (fun hHeld => ?_)
        clear hK K
        refine norm_ (a' := ?_) ?_ ?_
        rotate_left
        ·show Act.put _ (some 17) _ = _
         simp only [Act.put, List.setIfInBounds_toArray, List.set_cons_zero, List.set_cons_succ, i64_w, i32_w]
         rfl
        refine pure_ (i := 5) (N := some 18) (v := ?_) (a' := ?_) #[true, true, true, true, true, true, false, false, false, false, false, false, false, false, false, false, false, false, false, false, false, false, false] rfl rfl (any_of HT_.out (by kernel_rfl)) (fun _ _ _ h => h) (Or.inl ⟨by rfl, ?_⟩) ?_ ?_
        rotate_left
        ·intro w'
         go_simp
         with_reducible rfl
        rotate_left
        ·simp only [Act.put, List.setIfInBounds_toArray, List.set_cons_zero, List.set_cons_succ, i64_w, i32_w]
         rfl
        refine pure_ (i := 6) (N := some 19) (v := ?_) (a' := ?_) #[true, true, true, true, true, true, true, false, false, false, false, false, false, false, false, false, false, false, false, false, false, false, false] rfl rfl (any_of HT_.out (by kernel_rfl)) (fun _ _ _ h => h) (Or.inl ⟨by rfl, ?_⟩) ?_ ?_
        rotate_left
        ·intro w'
         go_simp
         with_reducible rfl
        rotate_left
        ·simp only [Act.put, List.setIfInBounds_toArray, List.set_cons_zero, List.set_cons_succ, i64_w, i32_w]
         rfl
        refine pure_ (i := 7) (N := some 20) (v := ?_) (a' := ?_) #[true, true, true, true, true, true, true, true, false, false, false, false, false, false, false, false, false, false, false, false, false, false, false] rfl rfl (any_of HT_.out (by kernel_rfl)) (fun _ _ _ h => h) (Or.inl ⟨by rfl, ?_⟩) ?_ ?_
        rotate_left
        ·intro w'
         go_simp
         with_reducible rfl
        rotate_left
        ·simp only [Act.put, List.setIfInBounds_toArray, List.set_cons_zero, List.set_cons_succ, i64_w, i32_w]
         rfl
        refine pure_ (i := 8) (N := some 21) (v := ?_) (a' := ?_) #[true, true, true, true, true, true, true, true, true, false, false, false, false, false, false, false, false, false, false, false, false, false, false] rfl rfl (any_of HT_.out (by kernel_rfl)) (fun _ _ _ h => h) (Or.inl ⟨by rfl, ?_⟩) ?_ ?_
        rotate_left
        ·intro w'
         go_simp
         with_reducible rfl
        rotate_left
        ·simp only [Act.put, List.setIfInBounds_toArray, List.set_cons_zero, List.set_cons_succ, i64_w, i32_w]
         rfl
        refine pure_ (i := 9) (N := some 22) (v := ?_) (a' := ?_) #[true, true, true, true, true, true, true, true, true, true, false, false, false, false, false, false, false, false, false, false, false, false, false] rfl rfl (any_of HT_.out (by kernel_rfl)) (fun _ _ _ h => h) (Or.inl ⟨by rfl, ?_⟩) ?_ ?_
        rotate_left
        ·intro w'
         go_simp
         with_reducible rfl
        rotate_left
        ·simp only [Act.put, List.setIfInBounds_toArray, List.set_cons_zero, List.set_cons_succ, i64_w, i32_w]
         rfl
        refine pure_ (i := 10) (N := some 23) (v := undef) (a' := ?_) #[true, true, true, true, true, true, true, true, true, true, true, false, false, false, false, false, false, false, false, false, false, false, false] rfl rfl (any_of HT_.out (by kernel_rfl)) (fun _ _ _ h => h) (Or.inr ⟨by rfl, rfl⟩) ?_ ?_
        rotate_left
        ·simp only [Act.put, List.setIfInBounds_toArray, List.set_cons_zero, List.set_cons_succ, i64_w, i32_w]
         rfl
        refine pure_ (i := 11) (N := some 24) (v := undef) (a' := ?_) #[true, true, true, true, true, true, true, true, true, true, true, true, false, false, false, false, false, false, false, false, false, false, false] rfl rfl (any_of HT_.out (by kernel_rfl)) (fun _ _ _ h => h) (Or.inr ⟨by rfl, rfl⟩) ?_ ?_
        rotate_left
        ·simp only [Act.put, List.setIfInBounds_toArray, List.set_cons_zero, List.set_cons_succ, i64_w, i32_w]
         rfl
        refine pure_ (i := 12) (N := some 25) (v := undef) (a' := ?_) #[true, true, true, true, true, true, true, true, true, true, true, true, true, false, false, false, false, false, false, false, false, false, false] rfl rfl (any_of HT_.out (by kernel_rfl)) (fun _ _ _ h => h) (Or.inr ⟨by rfl, rfl⟩) ?_ ?_
        rotate_left
        ·simp only [Act.put, List.setIfInBounds_toArray, List.set_cons_zero, List.set_cons_succ, i64_w, i32_w]
         rfl
        refine pure_ (i := 13) (N := some 26) (v := undef) (a' := ?_) #[true, true, true, true, true, true, true, true, true, true, true, true, true, true, false, false, false, false, false, false, false, false, false] rfl rfl (any_of HT_.out (by kernel_rfl)) (fun _ _ _ h => h) (Or.inr ⟨by rfl, rfl⟩) ?_ ?_
        rotate_left
        ·simp only [Act.put, List.setIfInBounds_toArray, List.set_cons_zero, List.set_cons_succ, i64_w, i32_w]
         rfl
        refine pure_ (i := 14) (N := some 27) (v := undef) (a' := ?_) #[true, true, true, true, true, true, true, true, true, true, true, true, true, true, true, false, false, false, false, false, false, false, false] rfl rfl (any_of HT_.out (by kernel_rfl)) (fun _ _ _ h => h) (Or.inr ⟨by rfl, rfl⟩) ?_ ?_
        rotate_left
        ·simp only [Act.put, List.setIfInBounds_toArray, List.set_cons_zero, List.set_cons_succ, i64_w, i32_w]
         rfl
        refine pure_ (i := 15) (N := some 28) (v := undef) (a' := ?_) #[true, true, true, true, true, true, true, true, true, true, true, true, true, true, true, true, false, false, false, false, false, false, false] rfl rfl (any_of HT_.out (by kernel_rfl)) (fun _ _ _ h => h) (Or.inr ⟨by rfl, rfl⟩) ?_ ?_
        rotate_left
        ·simp only [Act.put, List.setIfInBounds_toArray, List.set_cons_zero, List.set_cons_succ, i64_w, i32_w]
         rfl
        refine pure_ (i := 16) (N := some 29) (v := undef) (a' := ?_) #[true, true, true, true, true, true, true, true, true, true, true, true, true, true, true, true, true, false, false, false, false, false, false] rfl rfl (any_of HT_.out (by kernel_rfl)) (fun _ _ _ h => h) (Or.inr ⟨by rfl, rfl⟩) ?_ ?_
        rotate_left
        ·simp only [Act.put, List.setIfInBounds_toArray, List.set_cons_zero, List.set_cons_succ, i64_w, i32_w]
         rfl
        refine pure_ (i := 17) (N := some 30) (v := undef) (a' := ?_) #[true, true, true, true, true, true, true, true, true, true, true, true, true, true, true, true, true, true, false, false, false, false, false] rfl rfl (any_of HT_.out (by kernel_rfl)) (fun _ _ _ h => h) (Or.inr ⟨by rfl, rfl⟩) ?_ ?_
        rotate_left
        ·simp only [Act.put, List.setIfInBounds_toArray, List.set_cons_zero, List.set_cons_succ, i64_w, i32_w]
         rfl
        refine pure_ (i := 18) (N := some 31) (v := undef) (a' := ?_) #[true, true, true, true, true, true, true, true, true, true, true, true, true, true, true, true, true, true, true, false, false, false, false] rfl rfl (any_of HT_.out (by kernel_rfl)) (fun _ _ _ h => h) (Or.inr ⟨by rfl, rfl⟩) ?_ ?_
        rotate_left
        ·simp only [Act.put, List.setIfInBounds_toArray, List.set_cons_zero, List.set_cons_succ, i64_w, i32_w]
         rfl
        refine pure_ (i := 19) (N := some 32) (v := undef) (a' := ?_) #[true, true, true, true, true, true, true, true, true, true, true, true, true, true, true, true, true, true, true, true, false, false, false] rfl rfl (any_of HT_.out (by kernel_rfl)) (fun _ _ _ h => h) (Or.inr ⟨by rfl, rfl⟩) ?_ ?_
        rotate_left
        ·simp only [Act.put, List.setIfInBounds_toArray, List.set_cons_zero, List.set_cons_succ, i64_w, i32_w]
         rfl
        refine pure_ (i := 20) (N := some 33) (v := undef) (a' := ?_) #[true, true, true, true, true, true, true, true, true, true, true, true, true, true, true, true, true, true, true, true, true, false, false] rfl rfl (any_of HT_.out (by kernel_rfl)) (fun _ _ _ h => h) (Or.inr ⟨by rfl, rfl⟩) ?_ ?_
        rotate_left
        ·simp only [Act.put, List.setIfInBounds_toArray, List.set_cons_zero, List.set_cons_succ, i64_w, i32_w]
         rfl
        refine pure_ (i := 21) (N := some 34) (v := ?_) (a' := ?_) #[true, true, true, true, true, true, true, true, true, true, true, true, true, true, true, true, true, true, true, true, true, true, false] rfl rfl (any_of HT_.out (by kernel_rfl)) (fun _ _ _ h => h) (Or.inl ⟨by rfl, ?_⟩) ?_ ?_
        rotate_left
        ·intro w'
         go_simp
         with_reducible rfl
        rotate_left
        ·simp only [Act.put, List.setIfInBounds_toArray, List.set_cons_zero, List.set_cons_succ, i64_w, i32_w]
         rfl
        refine pure_ (i := 22) (N := some 35) (v := ?_) (a' := ?_) #[true, true, true, true, true, true, true, true, true, true, true, true, true, true, true, true, true, true, true, true, true, true, true] rfl rfl (any_of HT_.out (by kernel_rfl)) (fun _ _ _ h => h) (Or.inl ⟨by rfl, ?_⟩) ?_ ?_
        rotate_left
        ·intro w'
         go_simp
         with_reducible rfl
        rotate_left
        ·simp only [Act.put, List.setIfInBounds_toArray, List.set_cons_zero, List.set_cons_succ, i64_w, i32_w]
         rfl
        refine done_ (done_of HT_.out (by kernel_rfl)) ?_
        try go_wp2
        go_roundg k1
        case measure => have := HK1.out;omega
        case rel => exact ⟨(wrap64 (x3_1 + 1)), (by first | rfl | (simp;done) | (simp [*];done)), H', ⟨by have := HK1.out;omega⟩, ⟨by repeat (first | (with_reducible first | exact HB.out | apply below_alloc | apply pw_below_drewN | apply below_drew1) | exact HB.out)⟩⟩
      ·replace c6 := Bool.eq_false_iff.mpr c6
       subst c6
       have H1 : (some false) = some r := by rw [if_neg (show ¬ (false = true) by decide)] at H;exact H
       clear H
       have H := H1
       clear H1
       obtain rfl := Option.some.inj H
       try go_wp2
       have n0_ := Aside0.mk (below_drew1 HB.out)
       clear HB
       have HB := n0_
       clear n0_
       have p101 : 0 ≤ (x3_1 : Int) := of_decide_eq_true (by first | (with_reducible assumption) | assumption)
       have q101 : x3_1 < (l0.length : Int) := of_decide_eq_true (by first | (with_reducible assumption) | assumption)
       obtain ⟨ad101, A101_2, c101_2, e101, hx101_0, hx101_1, hx101_2, hl101_2, hi101_2⟩ := at_T27 HR0.out x3_1 p101 q101
       have hw101_2 := hx101_2
       have hw101_1 := hx101_1
       have hw101_0 := hx101_0
       cases e101
       replace hx101_0 := (HB.out.cell (World.block_lt_of_cell? w _ hx101_0)).trans hx101_0
       replace hx101_1 := (HB.out.cell (World.block_lt_of_cell? w _ hx101_1)).trans hx101_1
       replace hx101_2 := (HB.out.cell (World.block_lt_of_cell? w _ hx101_2)).trans hx101_2
       have HR101_2 := Aside0.mk hi101_2
       have HC101_2 := Aside0.mk hl101_2
       clear hi101_2 hl101_2
       replace p101 := eq_true p101
       replace q101 := eq_true q101
       refine start_ (n := 23) (S := fun w' => w'.cell? (ad101.add ((x3_1).toNat * 3)) = some (.int .i64 ((rd_T27 l0 x3_1).f0)) ∧ w'.cell? ⟨(ad101.add ((x3_1).toNat * 3)).block, (ad101.add ((x3_1).toNat * 3)).off + 1, none⟩ = some (.int .i64 ((rd_T27 l0 x3_1).f1)) ∧ w'.cell? ⟨(ad101.add ((x3_1).toNat * 3)).block, (ad101.add ((x3_1).toNat * 3)).off + 2, none⟩ = some (.slice A101_2 ((rd_T27 l0 x3_1).f2).length c101_2)) (ds := []) #[false, false, false, false, false, false, false, false, false, false, false, false, false, false, false, false, false, false, false, false, false, false, false] (by kernel_rfl) rfl rfl ⟨((HB.out.cell (World.block_lt_of_cell? w _ hw101_0)).trans hw101_0), ((HB.out.cell (World.block_lt_of_cell? w _ hw101_1)).trans hw101_1), ((HB.out.cell (World.block_lt_of_cell? w _ hw101_2)).trans hw101_2)⟩ (fun hHeld => ?_);refine with_tabW spec_OccsOk.tab6 spec_OccsOk.bits6 (fun HT_ HW_ => ?_)
       generalize wr.drew = w21 at HB HR101_2 hx101_0 hx101_1 hx101_2 hHeld ⊢
       refine pure_ (i := 0) (N := some 13) (v := ?_) (a' := ?_) #[true, false, false, false, false, false, false, false, false, false, false, false, false, false, false, false, false, false, false, false, false, false, false] rfl rfl (any_of HT_.out (by kernel_rfl)) (fun _ _ _ h => h) (Or.inl ⟨by rfl, ?_⟩) ?_ ?_
       rotate_left
       ·intro w'
        go_simp
        with_reducible rfl
       rotate_left
       ·simp only [Act.put, List.setIfInBounds_toArray, List.set_cons_zero, List.set_cons_succ, i64_w, i32_w]
        rfl
       refine pure_ (i := 1) (N := some 14) (v := ?_) (a' := ?_) #[true, true, false, false, false, false, false, false, false, false, false, false, false, false, false, false, false, false, false, false, false, false, false] rfl rfl (any_of HT_.out (by kernel_rfl)) (fun _ _ _ h => h) (Or.inl ⟨by rfl, ?_⟩) ?_ ?_
       rotate_left
       ·intro w'
        go_simp
        with_reducible rfl
       rotate_left
       ·simp only [Act.put, List.setIfInBounds_toArray, List.set_cons_zero, List.set_cons_succ, i64_w, i32_w]
        rfl
       refine pure_ (i := 2) (N := some 15) (v := ?_) (a' := ?_) #[true, true, true, false, false, false, false, false, false, false, false, false, false, false, false, false, false, false, false, false, false, false, false] rfl rfl (any_of HT_.out (by kernel_rfl)) (fun _ _ _ h => h) (Or.inl ⟨by rfl, ?_⟩) ?_ ?_
       rotate_left
       ·intro w'
        go_simp
        with_reducible rfl
       rotate_left
       ·simp only [Act.put, List.setIfInBounds_toArray, List.set_cons_zero, List.set_cons_succ, i64_w, i32_w]
        rfl
       refine take_ (i := 3) (N := some 16) (v := ?_) (a' := ?_) #[true, true, true, true, false, false, false, false, false, false, false, false, false, false, false, false, false, false, false, false, false, false, false] rfl rfl (take_ofW HT_.out HW_.out (by kernel_rfl)) (fun _ _ _ h => h) (Or.inl ⟨by rfl, ?_⟩) hHeld ?_ ?_
       rotate_left
       ·rintro w' ⟨s0, s1, s2⟩
        go_simp
        with_reducible rfl
       rotate_left
       ·simp only [Act.put, List.setIfInBounds_toArray, List.set_cons_zero, List.set_cons_succ, i64_w, i32_w]
        rfl
       refine one_ (i := 4) (N := some 17) #[true, true, true, true, true, false, false, false, false, false, false, false, false, false, false, false, false, false, false, false, false, false, false] rfl rfl (one_of HT_.out (by kernel_rfl)) (by decide) (fun K hK => ?_)
       refine goes_ Try.func19 (by kernel_rfl) rfl #[.agg #[.int .i64 ((rd_T27 l0 x3_1).f0), .int .i64 ((rd_T27 l0 x3_1).f1), .slice A101_2 ((rd_T27 l0 x3_1).f2).length c101_2]] (by rfl) rfl rfl (by (try simp only [List.map_toArray, List.map_cons, List.map_nil]);first | done | rfl | (simp only [List.length_drop, List.length_take];rfl) | (rw [Option.some.inj (hw101_2.symm.trans hw104_2)];rfl) | (rw [Option.some.inj (hx101_2.symm.trans hx104_2)];rfl) | (rw [Option.some.inj (hw104_2.symm.trans hw101_2)];rfl) | (rw [Option.some.inj (hx104_2.symm.trans hx101_2)];rfl)) ?_
       with_reducible refine (spec_OccOk.calls k1 ((rd_T27 l0 x3_1).f0) ((rd_T27 l0 x3_1).f1) _ _ ((rd_T27 l0 x3_1).f2) false _ ?side1 ?side2 A5.out).mono ?_
       (case side1 => repeat (first | exact (Kd.C_below HR101_2.out HB.out) | (with_reducible refine Kd.C_alloc ?_ _) | (with_reducible refine Kd.C_drewN ?_ _) | (with_reducible refine Kd.C_drew ?_)))
       (case side2 => exact HC101_2.out)
       rintro e w22 ⟨rfl, hb⟩
       refine ⟨_, rfl, ?_⟩
       have n0_ := Aside0.mk (below_step (by exact HB.out) hb)
       clear HB
       have HB := n0_
       clear n0_
       (try clear hb)
       (try clear hb2)
       (try clear hk)
       (try clear hi)
       refine hK.out _ _ ⟨((HB.out.cell (World.block_lt_of_cell? w _ hw101_0)).trans hw101_0), ((HB.out.cell (World.block_lt_of_cell? w _ hw101_1)).trans hw101_1), ((HB.out.cell (World.block_lt_of_cell? w _ hw101_2)).trans hw101_2)⟩ (fun hHeld => ?_)
       clear hK K
       refine norm_ (a' := ?_) ?_ ?_
       rotate_left
       ·show Act.put _ (some 17) _ = _
        simp only [Act.put, List.setIfInBounds_toArray, List.set_cons_zero, List.set_cons_succ, i64_w, i32_w]
        rfl
       refine pure_ (i := 5) (N := some 18) (v := ?_) (a' := ?_) #[true, true, true, true, true, true, false, false, false, false, false, false, false, false, false, false, false, false, false, false, false, false, false] rfl rfl (any_of HT_.out (by kernel_rfl)) (fun _ _ _ h => h) (Or.inl ⟨by rfl, ?_⟩) ?_ ?_
       rotate_left
       ·intro w'
        go_simp
        with_reducible rfl
       rotate_left
       ·simp only [Act.put, List.setIfInBounds_toArray, List.set_cons_zero, List.set_cons_succ, i64_w, i32_w]
        rfl
       refine pure_ (i := 6) (N := some 19) (v := ?_) (a' := ?_) #[true, true, true, true, true, true, true, false, false, false, false, false, false, false, false, false, false, false, false, false, false, false, false] rfl rfl (any_of HT_.out (by kernel_rfl)) (fun _ _ _ h => h) (Or.inl ⟨by rfl, ?_⟩) ?_ ?_
       rotate_left
       ·intro w'
        go_simp
        with_reducible rfl
       rotate_left
       ·simp only [Act.put, List.setIfInBounds_toArray, List.set_cons_zero, List.set_cons_succ, i64_w, i32_w]
        rfl
       refine pure_ (i := 7) (N := some 20) (v := undef) (a' := ?_) #[true, true, true, true, true, true, true, true, false, false, false, false, false, false, false, false, false, false, false, false, false, false, false] rfl rfl (any_of HT_.out (by kernel_rfl)) (fun _ _ _ h => h) (Or.inr ⟨by rfl, rfl⟩) ?_ ?_
       rotate_left
       ·simp only [Act.put, List.setIfInBounds_toArray, List.set_cons_zero, List.set_cons_succ, i64_w, i32_w]
        rfl
       refine pure_ (i := 8) (N := some 21) (v := undef) (a' := ?_) #[true, true, true, true, true, true, true, true, true, false, false, false, false, false, false, false, false, false, false, false, false, false, false] rfl rfl (any_of HT_.out (by kernel_rfl)) (fun _ _ _ h => h) (Or.inr ⟨by rfl, rfl⟩) ?_ ?_
       rotate_left
       ·simp only [Act.put, List.setIfInBounds_toArray, List.set_cons_zero, List.set_cons_succ, i64_w, i32_w]
        rfl
       refine pure_ (i := 9) (N := some 22) (v := undef) (a' := ?_) #[true, true, true, true, true, true, true, true, true, true, false, false, false, false, false, false, false, false, false, false, false, false, false] rfl rfl (any_of HT_.out (by kernel_rfl)) (fun _ _ _ h => h) (Or.inr ⟨by rfl, rfl⟩) ?_ ?_
       rotate_left
       ·simp only [Act.put, List.setIfInBounds_toArray, List.set_cons_zero, List.set_cons_succ, i64_w, i32_w]
        rfl
       refine pure_ (i := 10) (N := some 23) (v := undef) (a' := ?_) #[true, true, true, true, true, true, true, true, true, true, true, false, false, false, false, false, false, false, false, false, false, false, false] rfl rfl (any_of HT_.out (by kernel_rfl)) (fun _ _ _ h => h) (Or.inr ⟨by rfl, rfl⟩) ?_ ?_
       rotate_left
       ·simp only [Act.put, List.setIfInBounds_toArray, List.set_cons_zero, List.set_cons_succ, i64_w, i32_w]
        rfl
       refine pure_ (i := 11) (N := some 24) (v := undef) (a' := ?_) #[true, true, true, true, true, true, true, true, true, true, true, true, false, false, false, false, false, false, false, false, false, false, false] rfl rfl (any_of HT_.out (by kernel_rfl)) (fun _ _ _ h => h) (Or.inr ⟨by rfl, rfl⟩) ?_ ?_
       rotate_left
       ·simp only [Act.put, List.setIfInBounds_toArray, List.set_cons_zero, List.set_cons_succ, i64_w, i32_w]
        rfl
       refine pure_ (i := 12) (N := some 25) (v := undef) (a' := ?_) #[true, true, true, true, true, true, true, true, true, true, true, true, true, false, false, false, false, false, false, false, false, false, false] rfl rfl (any_of HT_.out (by kernel_rfl)) (fun _ _ _ h => h) (Or.inr ⟨by rfl, rfl⟩) ?_ ?_
       rotate_left
       ·simp only [Act.put, List.setIfInBounds_toArray, List.set_cons_zero, List.set_cons_succ, i64_w, i32_w]
        rfl
       refine pure_ (i := 13) (N := some 26) (v := undef) (a' := ?_) #[true, true, true, true, true, true, true, true, true, true, true, true, true, true, false, false, false, false, false, false, false, false, false] rfl rfl (any_of HT_.out (by kernel_rfl)) (fun _ _ _ h => h) (Or.inr ⟨by rfl, rfl⟩) ?_ ?_
       rotate_left
       ·simp only [Act.put, List.setIfInBounds_toArray, List.set_cons_zero, List.set_cons_succ, i64_w, i32_w]
        rfl
       refine pure_ (i := 14) (N := some 27) (v := undef) (a' := ?_) #[true, true, true, true, true, true, true, true, true, true, true, true, true, true, true, false, false, false, false, false, false, false, false] rfl rfl (any_of HT_.out (by kernel_rfl)) (fun _ _ _ h => h) (Or.inr ⟨by rfl, rfl⟩) ?_ ?_
       rotate_left
       ·simp only [Act.put, List.setIfInBounds_toArray, List.set_cons_zero, List.set_cons_succ, i64_w, i32_w]
        rfl
       refine pure_ (i := 15) (N := some 28) (v := undef) (a' := ?_) #[true, true, true, true, true, true, true, true, true, true, true, true, true, true, true, true, false, false, false, false, false, false, false] rfl rfl (any_of HT_.out (by kernel_rfl)) (fun _ _ _ h => h) (Or.inr ⟨by rfl, rfl⟩) ?_ ?_
       rotate_left
       ·simp only [Act.put, List.setIfInBounds_toArray, List.set_cons_zero, List.set_cons_succ, i64_w, i32_w]
        rfl
       refine pure_ (i := 16) (N := some 29) (v := undef) (a' := ?_) #[true, true, true, true, true, true, true, true, true, true, true, true, true, true, true, true, true, false, false, false, false, false, false] rfl rfl (any_of HT_.out (by kernel_rfl)) (fun _ _ _ h => h) (Or.inr ⟨by rfl, rfl⟩) ?_ ?_
       rotate_left
       ·simp only [Act.put, List.setIfInBounds_toArray, List.set_cons_zero, List.set_cons_succ, i64_w, i32_w]
        rfl
       refine pure_ (i := 17) (N := some 30) (v := undef) (a' := ?_) #[true, true, true, true, true, true, true, true, true, true, true, true, true, true, true, true, true, true, false, false, false, false, false] rfl rfl (any_of HT_.out (by kernel_rfl)) (fun _ _ _ h => h) (Or.inr ⟨by rfl, rfl⟩) ?_ ?_
       rotate_left
       ·simp only [Act.put, List.setIfInBounds_toArray, List.set_cons_zero, List.set_cons_succ, i64_w, i32_w]
        rfl
       refine pure_ (i := 18) (N := some 31) (v := undef) (a' := ?_) #[true, true, true, true, true, true, true, true, true, true, true, true, true, true, true, true, true, true, true, false, false, false, false] rfl rfl (any_of HT_.out (by kernel_rfl)) (fun _ _ _ h => h) (Or.inr ⟨by rfl, rfl⟩) ?_ ?_
       rotate_left
       ·simp only [Act.put, List.setIfInBounds_toArray, List.set_cons_zero, List.set_cons_succ, i64_w, i32_w]
        rfl
       refine pure_ (i := 19) (N := some 32) (v := undef) (a' := ?_) #[true, true, true, true, true, true, true, true, true, true, true, true, true, true, true, true, true, true, true, true, false, false, false] rfl rfl (any_of HT_.out (by kernel_rfl)) (fun _ _ _ h => h) (Or.inr ⟨by rfl, rfl⟩) ?_ ?_
       rotate_left
       ·simp only [Act.put, List.setIfInBounds_toArray, List.set_cons_zero, List.set_cons_succ, i64_w, i32_w]
        rfl
       refine pure_ (i := 20) (N := some 33) (v := undef) (a' := ?_) #[true, true, true, true, true, true, true, true, true, true, true, true, true, true, true, true, true, true, true, true, true, false, false] rfl rfl (any_of HT_.out (by kernel_rfl)) (fun _ _ _ h => h) (Or.inr ⟨by rfl, rfl⟩) ?_ ?_
       rotate_left
       ·simp only [Act.put, List.setIfInBounds_toArray, List.set_cons_zero, List.set_cons_succ, i64_w, i32_w]
        rfl
       refine pure_ (i := 21) (N := some 34) (v := undef) (a' := ?_) #[true, true, true, true, true, true, true, true, true, true, true, true, true, true, true, true, true, true, true, true, true, true, false] rfl rfl (any_of HT_.out (by kernel_rfl)) (fun _ _ _ h => h) (Or.inr ⟨by rfl, rfl⟩) ?_ ?_
       rotate_left
       ·simp only [Act.put, List.setIfInBounds_toArray, List.set_cons_zero, List.set_cons_succ, i64_w, i32_w]
        rfl
       refine pure_ (i := 22) (N := some 35) (v := ?_) (a' := ?_) #[true, true, true, true, true, true, true, true, true, true, true, true, true, true, true, true, true, true, true, true, true, true, true] rfl rfl (any_of HT_.out (by kernel_rfl)) (fun _ _ _ h => h) (Or.inl ⟨by rfl, ?_⟩) ?_ ?_
       rotate_left
       ·intro w'
        go_simp
        with_reducible rfl
       rotate_left
       ·simp only [Act.put, List.setIfInBounds_toArray, List.set_cons_zero, List.set_cons_succ, i64_w, i32_w]
        rfl
       refine done_ (done_of HT_.out (by kernel_rfl)) ?_
       try go_wp2
       go_ret
       exact ⟨by first | rfl | (simp [errW_none, errW_some] <;> rfl) | (simp [*, errW_none, errW_some] <;> rfl), by repeat (first | (with_reducible first | exact HB.out | apply below_alloc | apply pw_below_drewN | apply below_drew1) | exact HB.out)⟩
     ·rw [if_neg c4] at H
      exact absurd H (by simp)
    ·rw [if_neg c3] at H
     have c3b0 : decide (x3_1 < (l0.length : Int)) = false := decide_eq_false c3
     clear c3
     obtain rfl := Option.some.inj H
     go_wp2
     go_ret
     exact ⟨by first | rfl | (simp [errW_none, errW_some] <;> rfl) | (simp [*, errW_none, errW_some] <;> rfl), by repeat (first | (with_reducible first | exact HB.out | apply below_alloc | apply pw_below_drewN | apply below_drew1) | exact HB.out)⟩

end Go.Proofs.Ytiplpckgmikmeaa.M
namespace Go.Proofs.Ytiplpckgmikmeaa.M
set_option linter.unusedVariables false
set_option linter.unusedSimpArgs false
open Go.RowKit Go.Proofs.YtiplpckgmikmeaaW.PrintWords Go.Proofs.YtiplpckgmikmeaaW.PrintLast

theorem impl_in_is (a b c : Int) : impl_in.f a b c = some (decide (b ≤ a) && decide (a ≤ c)) := by
  unfold impl_in.f
  by_cases h : b ≤ a
  · rw [if_pos h]; simp [h]
  · rw [if_neg h]; simp [h]

def cmpI : List Int → List Int → Int
  | [], [] => 0
  | [], _ :: _ => -1
  | _ :: _, [] => 1
  | a :: xs, b :: ys => if a < b then -1 else if a > b then 1 else cmpI xs ys
def sgn (b : Bool) : Int := if b then -1 else 1
def cmpO (a b : S27) : Int := if a.f1 = b.f1 then (if a.f0 = b.f0 then cmpI a.f2 b.f2 else sgn (decide (a.f0 < b.f0))) else sgn (decide (a.f1 < b.f1))
def lessO (a b : S27) : Bool := decide (cmpO a b < 0)

theorem l3Ids_l0_ev (a b : List Int) (ha : a.length ≤ 9223372036854775806) (hb : b.length ≤ 9223372036854775806) : ∀ d n : Nat, n + d = a.length → n ≤ b.length → Ev (fun k => spec_l3Ids.l0 k a b (n : Int)) (cmpI (a.drop n) (b.drop n)) := by
  intro d
  have ends : ∀ (n : Nat), n ≤ a.length → n ≤ b.length → (n = a.length ∨ n = b.length) → Ev (fun k => spec_l3Ids.j1 k a b (n : Int) false) (cmpI (a.drop n) (b.drop n)) := by
    intro n h1 h2 h3
    refine Ev.last (fun k => ?_)
    simp only [spec_l3Ids.j1]
    rw [if_neg (by decide)]
    rcases Nat.lt_or_ge n a.length with ha' | ha'
    · have hbn : n = b.length := by omega
      rw [if_neg (by omega), if_pos (by omega), List.drop_eq_getElem_cons ha', List.drop_of_length_le (show b.length ≤ n by omega)]
      rfl
    · rw [List.drop_of_length_le ha']
      rcases Nat.lt_or_ge n b.length with hb' | hb'
      · rw [if_pos (by omega), List.drop_eq_getElem_cons hb']
        rfl
      · rw [if_neg (by omega), if_neg (by omega), List.drop_of_length_le hb']
        rfl
  induction d with
  | zero =>
    intro n hn hb'
    refine Ev.step (fun k => by simp only [spec_l3Ids.l0]; rw [if_neg (by omega)]) ?_
    exact ends n (by omega) hb' (by omega)
  | succ d ih =>
    intro n hn hb'
    refine Ev.step (fun k => by simp only [spec_l3Ids.l0]; rw [if_pos (by omega)]) ?_
    rcases Nat.lt_or_ge n b.length with hlt | hge
    · rw [decide_eq_true (show (n : Int) < (b.length : Int) by omega)]
      refine Ev.step (fun k => by simp only [spec_l3Ids.j1]; rw [if_pos trivial, if_pos (by omega), if_pos (by omega), if_pos (by omega), w_succ (by omega)]) ?_
      rw [drop_at a 0 n (by omega), drop_at b 0 n (by omega)]
      have next := ih (n + 1) (by omega) (by omega)
      have ra : rd a (n : Int) = a.getD n 0 := rfl
      have rb : rd b (n : Int) = b.getD n 0 := rfl
      rw [ra, rb]
      generalize a.getD n 0 = x at *
      generalize b.getD n 0 = y at *
      unfold cmpI
      by_cases h1 : x < y
      · rw [if_pos h1]
        exact Ev.pos h1 (Ev.now _)
      · rw [if_neg h1]
        refine Ev.neg h1 ?_
        by_cases h2 : x > y
        · rw [if_pos h2]
          exact Ev.pos h2 (Ev.now _)
        · rw [if_neg h2]
          exact Ev.neg h2 next
    · rw [decide_eq_false (show ¬ (n : Int) < (b.length : Int) by omega)]
      exact ends n (by omega) hb' (by omega)
theorem l3Ids_ev (a b : List Int) (ha : a.length ≤ 9223372036854775806) (hb : b.length ≤ 9223372036854775806) : Ev (fun k => spec_l3Ids.f k a b) (cmpI a b) := by
  unfold spec_l3Ids.f
  exact l3Ids_l0_ev a b ha hb a.length 0 (by omega) (by omega)

theorem spec_OccLess_ev (a b : S27) (ha : a.f2.length ≤ 9223372036854775806) (hb : b.f2.length ≤ 9223372036854775806) : Ev (fun k => spec_OccLess.f k a.f0 a.f1 a.f2 b.f0 b.f1 b.f2) (lessO a b) := by
  unfold spec_OccLess.f lessO cmpO
  by_cases h1 : a.f1 = b.f1
  · rw [if_pos h1]
    refine Ev.pos h1 ?_
    by_cases h2 : a.f0 = b.f0
    · rw [if_pos h2]
      exact Ev.pos h2 (Ev.bindS (l3Ids_ev _ _ ha hb) rfl)
    · rw [if_neg h2]
      refine Ev.neg h2 (Ev.one (fun _ => ?_))
      by_cases h3 : a.f0 < b.f0 <;> simp [h3, sgn]
  · rw [if_neg h1]
    refine Ev.neg h1 (Ev.one (fun _ => ?_))
    by_cases h3 : a.f1 < b.f1 <;> simp [h3, sgn]

def idsGo : Int → List Int → Bool
  | _, [] => true
  | p, x :: xs => decide (p < x) && decide (x < 24) && idsGo x xs
theorem idsGo_len : ∀ (l : List Int) (p : Int), idsGo p l = true → p ≤ 23 → (l.length : Int) + p ≤ 23
  | [], p, _, hp => by simp; exact hp
  | x :: xs, p, h, _ => by
    unfold idsGo at h
    simp only [Bool.and_eq_true, decide_eq_true_eq] at h
    have := idsGo_len xs x h.2 (by omega)
    rw [List.length_cons]
    omega
def occOkB (o : S27) : Bool := decide (1 ≤ o.f0) && decide (o.f0 ≤ o.f1) && decide (o.f1 ≤ 2000) && decide (1 ≤ o.f2.length) && idsGo (-1) o.f2
def idPrev (l : List Int) (n : Nat) : Int := if n = 0 then -1 else l.getD (n - 1) 0
theorem idPrev_succ (l : List Int) (n : Nat) : idPrev l (n + 1) = l.getD n 0 := by simp [idPrev]

theorem spec_OccOk_l0_ev (a b : Int) (l : List Int) (hl : l.length ≤ 9223372036854775806) : ∀ d n : Nat, n + d = l.length → -1 ≤ idPrev l n → Ev (fun k => spec_OccOk.l0 k (n : Int) a b l) (idsGo (idPrev l n) (l.drop n)) := by
  intro d
  induction d with
  | zero =>
    intro n hn hp
    rw [List.drop_of_length_le (by omega)]
    exact Ev.last (fun k => by simp only [spec_OccOk.l0]; rw [if_neg (by omega)]; rfl)
  | succ d ih =>
    intro n hn hp
    have hrd : rd l (n : Int) = l.getD n 0 := rfl
    rw [drop_at l 0 n (by omega)]
    refine Ev.step (fun k => by simp only [spec_OccOk.l0]; rw [if_pos (by omega), if_pos (by omega), w_succ (by omega), hrd]) ?_
    have next := ih (n + 1) (by omega)
    rw [idPrev_succ] at next
    generalize l.getD n 0 = x at *
    unfold idsGo
    by_cases h0 : x < 0
    · rw [decide_eq_false (show ¬ idPrev l n < x by omega)]
      exact Ev.pos h0 (Ev.now _)
    · refine Ev.neg h0 ?_
      by_cases h1 : x ≥ 24
      · rw [decide_eq_false (show ¬ x < 24 by omega), Bool.and_false]
        exact Ev.pos h1 (Ev.now _)
      · refine Ev.neg h1 ?_
        rw [decide_eq_true (show x < 24 by omega), Bool.and_true]
        rcases Nat.eq_zero_or_pos n with hz | hpos
        · subst hz
          rw [show idPrev l 0 = -1 from rfl, decide_eq_true (show (-1 : Int) < x by omega)]
          exact Ev.neg (by omega) (next (by omega))
        · obtain ⟨m, rfl⟩ : ∃ m, n = m + 1 := ⟨n - 1, by omega⟩
          have hw : wrap64 (((m + 1 : Nat) : Int) - 1) = (m : Int) := by rw [w_small (by omega) (by omega)]; omega
          refine Ev.pos (by omega) ?_
          rw [hw]
          refine Ev.pos (by omega) (Ev.pos (by omega) ?_)
          have hr2 : rd l (m : Int) = l.getD m 0 := rfl
          rw [hr2, idPrev_succ]
          by_cases hc : x ≤ l.getD m 0
          · rw [decide_eq_false (show ¬ l.getD m 0 < x by omega)]
            exact Ev.pos hc (Ev.now _)
          · rw [decide_eq_true (show l.getD m 0 < x by omega)]
            exact Ev.neg hc (next (by omega))

theorem spec_OccOk_ev (o : S27) (hl : o.f2.length ≤ 9223372036854775806) : Ev (fun k => spec_OccOk.f k o.f0 o.f1 o.f2) (occOkB o) := by
  have bad : ∀ b : Bool, b = true → Ev (fun k => spec_OccOk.j0 k b o.f0 o.f1 o.f2) false := by
    intro b hb
    subst hb
    exact Ev.last (fun k => by simp only [spec_OccOk.j0]; rw [if_pos trivial])
  unfold spec_OccOk.f occOkB
  by_cases h0 : o.f0 < 1
  · rw [decide_eq_false (show ¬ 1 ≤ o.f0 by omega)]
    exact Ev.pos h0 (bad _ rfl)
  · rw [decide_eq_true (show 1 ≤ o.f0 by omega)]
    refine Ev.neg h0 ?_
    by_cases h1 : o.f1 < o.f0
    · rw [decide_eq_false (show ¬ o.f0 ≤ o.f1 by omega)]
      exact Ev.pos h1 (bad _ rfl)
    · rw [decide_eq_true (show o.f0 ≤ o.f1 by omega)]
      refine Ev.neg h1 ?_
      by_cases h2 : o.f1 > 2000
      · rw [decide_eq_false (show ¬ o.f1 ≤ 2000 by omega)]
        exact Ev.pos h2 (bad _ rfl)
      · rw [decide_eq_true (show o.f1 ≤ 2000 by omega)]
        refine Ev.neg h2 ?_
        by_cases h3 : (o.f2.length : Int) < 1
        · rw [decide_eq_false (show ¬ 1 ≤ o.f2.length by omega)]
          exact Ev.pos h3 (bad _ rfl)
        · rw [decide_eq_true (show 1 ≤ o.f2.length by omega)]
          refine Ev.neg h3 ?_
          by_cases h4 : (o.f2.length : Int) > 24
          · have : idsGo (-1) o.f2 = false := by
              rw [Bool.eq_false_iff]
              intro e
              have := idsGo_len o.f2 (-1) e (by omega)
              omega
            rw [this]
            exact bad _ (decide_eq_true h4)
          · rw [decide_eq_false h4]
            refine Ev.step (fun k => by simp only [spec_OccOk.j0]; rfl) ?_
            exact Ev.neg (by decide) (spec_OccOk_l0_ev o.f0 o.f1 o.f2 hl o.f2.length 0 (by omega) (by simp [idPrev]))

theorem impl_OccOk_l0_ev (o : S27) (l : List Int) (hl : l.length ≤ 9223372036854775806) : ∀ (d n : Nat) (p : Int), n + d = l.length → -1 ≤ p → p ≤ 23 → Ev (fun k => impl_OccOk.l0 k p l (l.length : Int) (n : Int) o.f0 o.f1 o.f2) (idsGo p (l.drop n) && (decide (1 ≤ o.f0) && (decide (o.f0 ≤ o.f1) && decide (o.f1 ≤ 2000) && decide (1 ≤ o.f2.length)))) := by
  intro d
  induction d with
  | zero =>
    intro n p hn h0 h1
    rw [List.drop_of_length_le (by omega), idsGo, Bool.true_and]
    refine Ev.last (fun k => ?_)
    simp only [impl_OccOk.l0, impl_in_is]
    rw [if_neg (by omega)]
    by_cases a : 1 ≤ o.f0
    · rw [if_pos a, decide_eq_true a]
      simp only [Option.bind_some]
      by_cases b : (decide (o.f0 ≤ o.f1) && decide (o.f1 ≤ 2000)) = true
      · rw [if_pos b, b]
        have e : ((o.f2.length : Int) ≥ 1) = (1 ≤ o.f2.length) := by rw [eq_iff_iff]; omega
        simp only [e, Bool.true_and]
      · rw [if_neg b]
        simp only [Bool.not_eq_true] at b
        rw [b]
        rfl
    · rw [if_neg a, decide_eq_false a]
      rfl
  | succ d ih =>
    intro n p hn h0 h1
    have hrd : rd l (n : Int) = l.getD n 0 := rfl
    rw [drop_at l 0 n (by omega)]
    have w1 : wrap64 (p + 1) = p + 1 := w_small (by omega) (by omega)
    refine Ev.step (fun k => by simp only [impl_OccOk.l0]; rw [if_pos (by omega), if_pos (by omega), if_pos (by omega), w_succ (by omega), hrd, w1, impl_in_is, Option.bind_some]) ?_
    have next := ih (n + 1) (l.getD n 0) (by omega)
    generalize l.getD n 0 = x at *
    unfold idsGo
    by_cases hc : p + 1 ≤ x ∧ x ≤ 23
    · rw [decide_eq_true (show p < x by omega), decide_eq_true (show x < 24 by omega), decide_eq_true hc.1, decide_eq_true hc.2]
      exact Ev.pos rfl (next (by omega) (by omega))
    · have e1 : (decide (p + 1 ≤ x) && decide (x ≤ 23)) = false := by
        rw [Bool.eq_false_iff]
        simp only [ne_eq, Bool.and_eq_true, decide_eq_true_eq]
        exact hc
      have e2 : (decide (p < x) && decide (x < 24)) = false := by
        rw [Bool.eq_false_iff]
        simp only [ne_eq, Bool.and_eq_true, decide_eq_true_eq]
        omega
      rw [e1, e2]
      exact Ev.neg (by decide) (Ev.now _)
theorem impl_OccOk_ev (o : S27) (hl : o.f2.length ≤ 9223372036854775806) : Ev (fun k => impl_OccOk.f k o.f0 o.f1 o.f2) (occOkB o) := by
  unfold impl_OccOk.f
  refine Ev.val (impl_OccOk_l0_ev o o.f2 hl o.f2.length 0 (-1) (by omega) (by omega) (by omega)) ?_
  rw [List.drop_zero, occOkB, Bool.and_comm]
  simp only [Bool.and_assoc]

theorem cmp_Compare_is (a b : Int) : cmp_Compare_int.f a b = some (if a < b then -1 else if a > b then 1 else 0) := by
  unfold cmp_Compare_int.f cmp_isNaN_int.f
  simp only [Option.bind_some, bne_self_eq_false]
  rw [if_neg (by decide), if_neg (by decide)]
  by_cases h : a < b
  · rw [if_pos h, if_pos h]
  · rw [if_neg h, if_neg h]
    by_cases h2 : a > b
    · rw [if_pos h2, if_pos h2]
    · rw [if_neg h2, if_neg h2]
theorem impl_Compare_l0_ev (a b : List Int) (ha : a.length ≤ 9223372036854775806) (hb : b.length ≤ 9223372036854775806) : ∀ d n : Nat, n + d = a.length → n ≤ b.length → Ev (fun k => slices_Compare_int_int.l0 k a b a (a.length : Int) (n : Int)) (cmpI (a.drop n) (b.drop n)) := by
  intro d
  induction d with
  | zero =>
    intro n hn hb'
    refine Ev.last (fun k => ?_)
    simp only [slices_Compare_int_int.l0]
    rw [if_neg (by omega), List.drop_of_length_le (show a.length ≤ n by omega)]
    rcases Nat.lt_or_ge n b.length with hlt | hge
    · rw [if_pos (by omega), List.drop_eq_getElem_cons hlt]
      rfl
    · rw [if_neg (by omega), List.drop_of_length_le hge]
      rfl
  | succ d ih =>
    intro n hn hb'
    have ra : rd a (n : Int) = a.getD n 0 := rfl
    have rb : rd b (n : Int) = b.getD n 0 := rfl
    refine Ev.step (fun k => by simp only [slices_Compare_int_int.l0]; rw [if_pos (by omega), if_pos (by omega), if_pos (by omega), w_succ (by omega), ra, rb, cmp_Compare_is]) ?_
    rcases Nat.lt_or_ge n b.length with hlt | hge
    · refine Ev.neg (by omega) (Ev.pos (by omega) ?_)
      rw [drop_at a 0 n (by omega), drop_at b 0 n (by omega)]
      have next := ih (n + 1) (by omega) (by omega)
      generalize a.getD n 0 = x at *
      generalize b.getD n 0 = y at *
      refine Ev.bind (Ev.now _) ?_
      unfold cmpI
      by_cases h1 : x < y
      · rw [if_pos h1, if_pos h1]
        exact Ev.neg (by decide) (Ev.now _)
      · rw [if_neg h1, if_neg h1]
        by_cases h2 : x > y
        · rw [if_pos h2, if_pos h2]
          exact Ev.neg (by decide) (Ev.now _)
        · rw [if_neg h2, if_neg h2]
          exact Ev.pos rfl next
    · refine Ev.pos (by omega) ?_
      rw [drop_at a 0 n (by omega), List.drop_of_length_le hge]
      exact Ev.now _
theorem impl_compare_ev (a b : S27) (ha : a.f2.length ≤ 9223372036854775806) (hb : b.f2.length ≤ 9223372036854775806) : Ev (fun k => impl_compare.f k a.f0 a.f1 a.f2 b.f0 b.f1 b.f2) (cmpO a b) := by
  unfold impl_compare.f cmpO impl_sign.f
  by_cases h1 : a.f1 = b.f1
  · rw [if_pos h1]
    refine Ev.pos h1 ?_
    by_cases h2 : a.f0 = b.f0
    · rw [if_pos h2]
      exact Ev.pos h2 (Ev.bindS (impl_Compare_l0_ev a.f2 b.f2 ha hb a.f2.length 0 (by omega) (by omega)) rfl)
    · rw [if_neg h2]
      refine Ev.neg h2 (Ev.one (fun _ => ?_))
      by_cases h3 : a.f0 < b.f0 <;> simp [h3, sgn]
  · rw [if_neg h1]
    refine Ev.neg h1 (Ev.one (fun _ => ?_))
    by_cases h3 : a.f1 < b.f1 <;> simp [h3, sgn]
theorem impl_OccLess_ev (a b : S27) (ha : a.f2.length ≤ 9223372036854775806) (hb : b.f2.length ≤ 9223372036854775806) : Ev (fun k => impl_OccLess.f k a.f0 a.f1 a.f2 b.f0 b.f1 b.f2) (lessO a b) := by
  unfold impl_OccLess.f
  exact Ev.bindS (impl_compare_ev a b ha hb) rfl

def occsGo : Option S27 → List S27 → Bool
  | _, [] => true
  | none, x :: xs => occOkB x && occsGo (some x) xs
  | some p, x :: xs => occOkB x && (lessO p x && occsGo (some x) xs)
def occsOkB (l : List S27) : Bool := occsGo none l && decide (l.length ≤ 40)
def occPrev (l : List S27) (n : Nat) : Option S27 := if n = 0 then none else some (l.getD (n - 1) z27)
def Short (l : List S27) : Prop := ∀ x ∈ l, x.f2.length ≤ 9223372036854775806
theorem Short.at_ {l : List S27} (h : Short l) (n : Nat) : (l.getD n z27).f2.length ≤ 9223372036854775806 := by
  rw [List.getD_eq_getElem?_getD]
  rcases Nat.lt_or_ge n l.length with hn | hn
  · rw [List.getElem?_eq_getElem hn]
    exact h _ (List.getElem_mem hn)
  · rw [List.getElem?_eq_none hn]
    show (z27).f2.length ≤ _
    simp [z27]
theorem occPrev_succ (l : List S27) (n : Nat) : occPrev l (n + 1) = some (l.getD n z27) := by simp [occPrev]

theorem spec_OccsOk_l0_ev (l : List S27) (hl : l.length ≤ 9223372036854775806) (hs : Short l) : ∀ d n : Nat, n + d = l.length → Ev (fun k => spec_OccsOk.l0 k l (n : Int)) (occsGo (occPrev l n) (l.drop n)) := by
  intro d
  induction d with
  | zero =>
    intro n hn
    rw [List.drop_of_length_le (by omega)]
    exact Ev.last (fun k => by simp only [spec_OccsOk.l0]; rw [if_neg (by omega)]; cases occPrev l n <;> rfl)
  | succ d ih =>
    intro n hn
    have hrd : rd_T27 l (n : Int) = l.getD n z27 := rfl
    have hx := hs.at_ n
    rw [drop_at l z27 n (by omega)]
    refine Ev.step (fun k => by simp only [spec_OccsOk.l0]; rw [if_pos (by omega), if_pos (by omega), w_succ (by omega), hrd]) ?_
    have next := ih (n + 1) (by omega)
    rw [occPrev_succ] at next
    generalize l.getD n z27 = x at *
    refine Ev.bind (spec_OccOk_ev x hx) ?_
    rcases Nat.eq_zero_or_pos n with hz | hpos
    · subst hz
      rw [show occPrev l 0 = none from rfl, occsGo]
      by_cases hk : occOkB x = true
      · rw [hk]
        exact Ev.pos rfl (Ev.neg (by omega) next)
      · refine Ev.neg hk ?_
        simp only [Bool.not_eq_true] at hk
        rw [hk]
        exact Ev.now _
    · obtain ⟨m, rfl⟩ : ∃ m, n = m + 1 := ⟨n - 1, by omega⟩
      have hw : wrap64 (((m + 1 : Nat) : Int) - 1) = (m : Int) := by rw [w_small (by omega) (by omega)]; omega
      have hr2 : rd_T27 l (m : Int) = l.getD m z27 := rfl
      rw [occPrev_succ, occsGo, hw, hr2]
      by_cases hk : occOkB x = true
      · rw [hk]
        refine Ev.pos rfl (Ev.pos (by omega) (Ev.pos (by omega) (Ev.pos (by omega) (Ev.bind (spec_OccLess_ev _ x (hs.at_ m) hx) ?_))))
        by_cases hls : lessO (l.getD m z27) x = true
        · rw [hls]
          exact Ev.pos rfl next
        · refine Ev.neg hls ?_
          simp only [Bool.not_eq_true] at hls
          rw [hls]
          exact Ev.now _
      · refine Ev.neg hk ?_
        simp only [Bool.not_eq_true] at hk
        rw [hk]
        exact Ev.now _
theorem spec_OccsOk_ev (l : List S27) (hl : l.length ≤ 9223372036854775806) (hs : Short l) : Ev (fun k => spec_OccsOk.f k l) (occsOkB l) := by
  unfold spec_OccsOk.f occsOkB
  by_cases h : (l.length : Int) > 40
  · refine Ev.pos h ?_
    rw [decide_eq_false (by omega), Bool.and_false]
    exact Ev.now _
  · refine Ev.neg h ?_
    rw [decide_eq_true (by omega), Bool.and_true]
    exact spec_OccsOk_l0_ev l hl hs l.length 0 (by omega)

theorem impl_OccsOk_l0_ev (l : List S27) (hl : l.length ≤ 9223372036854775806) (hs : Short l) : ∀ d n : Nat, n + d = l.length → Ev (fun k => impl_OccsOk.l0 k l l (l.length : Int) (n : Int)) (occsGo (occPrev l n) (l.drop n) && decide (l.length ≤ 40)) := by
  intro d
  induction d with
  | zero =>
    intro n hn
    rw [List.drop_of_length_le (by omega)]
    refine Ev.last (fun k => ?_)
    simp only [impl_OccsOk.l0]
    rw [if_neg (by omega)]
    have e : ((l.length : Int) ≤ 40) = (l.length ≤ 40) := by rw [eq_iff_iff]; omega
    simp only [e]
    cases occPrev l n <;> rfl
  | succ d ih =>
    intro n hn
    have hrd : rd_T27 l (n : Int) = l.getD n z27 := rfl
    have hx := hs.at_ n
    rw [drop_at l z27 n (by omega)]
    refine Ev.step (fun k => by simp only [impl_OccsOk.l0]; rw [if_pos (by omega), if_pos (by omega), if_pos (by omega), w_succ (by omega), hrd]) ?_
    have next := ih (n + 1) (by omega)
    rw [occPrev_succ] at next
    generalize l.getD n z27 = x at *
    refine Ev.bind (impl_OccOk_ev x hx) ?_
    rcases Nat.eq_zero_or_pos n with hz | hpos
    · subst hz
      rw [show occPrev l 0 = none from rfl, occsGo]
      by_cases hk : occOkB x = true
      · rw [hk]
        exact Ev.pos rfl (Ev.neg (by omega) next)
      · refine Ev.neg hk ?_
        simp only [Bool.not_eq_true] at hk
        rw [hk]
        exact Ev.now _
    · obtain ⟨m, rfl⟩ : ∃ m, n = m + 1 := ⟨n - 1, by omega⟩
      have hw : wrap64 (((m + 1 : Nat) : Int) - 1) = (m : Int) := by rw [w_small (by omega) (by omega)]; omega
      have hr2 : rd_T27 l (m : Int) = l.getD m z27 := rfl
      rw [occPrev_succ, occsGo, hw, hr2]
      by_cases hk : occOkB x = true
      · rw [hk]
        refine Ev.pos rfl (Ev.pos (by omega) (Ev.pos (by omega) (Ev.pos (by omega) (Ev.bind (impl_OccLess_ev _ x (hs.at_ m) hx) ?_))))
        by_cases hls : lessO (l.getD m z27) x = true
        · rw [hls]
          exact Ev.pos rfl next
        · refine Ev.neg hls ?_
          simp only [Bool.not_eq_true] at hls
          rw [hls]
          exact Ev.now _
      · refine Ev.neg hk ?_
        simp only [Bool.not_eq_true] at hk
        rw [hk]
        exact Ev.now _
theorem impl_OccsOk_ev (l : List S27) (hl : l.length ≤ 9223372036854775806) (hs : Short l) : Ev (fun k => impl_OccsOk.f k l) (occsOkB l) := impl_OccsOk_l0_ev l hl hs l.length 0 (by omega)
end Go.Proofs.Ytiplpckgmikmeaa.M
namespace Go.Proofs.Ytiplpckgmikmeaa.M
set_option linter.unusedVariables false
set_option linter.unusedSimpArgs false
open Go.RowKit Go.Proofs.YtiplpckgmikmeaaW.PrintWords Go.Proofs.YtiplpckgmikmeaaW.PrintLast

theorem rd_nat (l : List Int) (n : Nat) : rd l (n : Int) = l.getD n 0 := rfl

theorem szIntS_ok (l : List Int) (a : Int) (h0 : 0 ≤ a) (h1 : a ≤ 1048576) (hl : l.length ≤ 9223372036854775807) : laws_szIntS.f l a = some (if (l.length : Int) ≤ a then a - l.length else -1) := by
  unfold laws_szIntS.f
  rw [w_small (by omega) (by omega)]
  by_cases h : (l.length : Int) ≤ a
  · rw [if_neg (by omega), if_pos h]
  · rw [if_pos (by omega), if_neg h]

theorem toIntS_l0_ev (l : List Int) (hl : l.length ≤ 9223372036854775807) : ∀ (d n : Nat) (a : List Int), n + d = l.length → a.length = l.length → Ev (fun k => laws_toIntS.l0 k l a (n : Int)) (a.take n ++ l.drop n) := by
  intro d
  induction d with
  | zero =>
    intro n a hn ha
    rw [List.drop_of_length_le (by omega), List.take_of_length_le (by omega), List.append_nil]
    exact Ev.last (fun k => by simp only [laws_toIntS.l0]; rw [if_neg (by omega)])
  | succ d ih =>
    intro n a hn ha
    rw [drop_at l 0 n (by omega)]
    have next := ih (n + 1) (a.set n (l.getD n 0)) (by omega) (by rw [List.length_set]; exact ha)
    rw [take_set a n _ (by omega), List.append_assoc] at next
    refine Ev.step (fun k => by simp only [laws_toIntS.l0]; rw [if_pos (by omega), if_pos (by omega), if_pos (by omega), w_succ (by omega), rd_nat, Int.toNat_natCast]) ?_
    exact next
theorem toIntS_ev (l : List Int) (hl : l.length ≤ 1048576) : Ev (fun k => laws_toIntS.f k l) l := by
  unfold laws_toIntS.f
  refine Ev.pos (by omega) (Ev.pos (by omega) ?_)
  have := toIntS_l0_ev l (by omega) l.length 0 (List.replicate l.length 0) (by omega) (by simp)
  rw [Int.toNat_natCast]
  exact this

theorem eqIntS_l0_ev (l : List Int) (hl : l.length ≤ 9223372036854775807) : ∀ d n : Nat, n + d = l.length → Ev (fun k => laws_eqIntS.l0 k l l (n : Int)) true := by
  intro d
  induction d with
  | zero =>
    intro n hn
    exact Ev.last (fun k => by simp only [laws_eqIntS.l0]; rw [if_neg (by omega)])
  | succ d ih =>
    intro n hn
    refine Ev.step (fun k => by simp only [laws_eqIntS.l0]; rw [if_pos (by omega), if_pos (by omega), if_pos (by omega), if_pos trivial, w_succ (by omega)]) ?_
    exact ih (n + 1) (by omega)
theorem eqIntS_ev (l : List Int) (hl : l.length ≤ 9223372036854775807) : Ev (fun k => laws_eqIntS.f k l l) true := by
  unfold laws_eqIntS.f
  exact Ev.pos rfl (eqIntS_l0_ev l hl l.length 0 (by omega))
end Go.Proofs.Ytiplpckgmikmeaa.M
namespace Go.Proofs.Ytiplpckgmikmeaa.M
set_option linter.unusedVariables false
set_option linter.unusedSimpArgs false
open Go.RowKit Go.Proofs.YtiplpckgmikmeaaW.PrintWords Go.Proofs.YtiplpckgmikmeaaW.PrintLast

def cvO (x : S24) : S27 := ⟨x.f0, x.f1, x.f2⟩
def szO : List S24 → Nat
  | [] => 0
  | x :: xs => x.f2.length + szO xs
def leftOf (a : Int) (n : Nat) : Int := if (n : Int) ≤ a then a - n else -1
theorem leftOf_neg {a : Int} {n : Nat} (h : ¬ (n : Int) ≤ a) : leftOf a n = -1 := if_neg h
theorem leftOf_pos {a : Int} {n : Nat} (h : (n : Int) ≤ a) : leftOf a n = a - n := if_pos h
theorem szIntS_is (l : List Int) (a : Int) (h0 : 0 ≤ a) (h1 : a ≤ 1048576) (hl : l.length ≤ 9223372036854775807) : laws_szIntS.f l a = some (leftOf a l.length) := szIntS_ok l a h0 h1 hl
theorem szOcc_is (x : S24) (a : Int) (h0 : 0 ≤ a) (h1 : a ≤ 1048576) (hl : x.f2.length ≤ 9223372036854775807) : laws_szOcc.f x.f0 x.f1 x.f2 a = some (leftOf a x.f2.length) := by
  unfold laws_szOcc.f
  rw [szIntS_is _ _ h0 h1 hl, Option.bind_some]
  by_cases h : (x.f2.length : Int) ≤ a
  · rw [leftOf_pos h, if_neg (by omega)]
  · rw [leftOf_neg h, if_pos (by omega)]

def ShortL (l : List S24) : Prop := ∀ x ∈ l, x.f2.length ≤ 9223372036854775807
theorem ShortL.at_ {l : List S24} (h : ShortL l) (n : Nat) : (l.getD n z24).f2.length ≤ 9223372036854775807 := by
  rw [List.getD_eq_getElem?_getD]
  rcases Nat.lt_or_ge n l.length with hn | hn
  · rw [List.getElem?_eq_getElem hn]
    exact h _ (List.getElem_mem hn)
  · rw [List.getElem?_eq_none hn]
    show (z24).f2.length ≤ _
    simp [z24]
theorem szOccS_l0_ev (l : List S24) (hl : l.length ≤ 9223372036854775807) (hs : ShortL l) : ∀ (d n : Nat) (a : Int), n + d = l.length → 0 ≤ a → a ≤ 1048576 → Ev (fun k => laws_szOccS.l0 k l a (n : Int)) (leftOf a (szO (l.drop n))) := by
  intro d
  induction d with
  | zero =>
    intro n a hn h0 h1
    rw [List.drop_of_length_le (by omega), leftOf_pos (show ((szO [] : Nat) : Int) ≤ a from h0)]
    exact Ev.last (fun k => by simp only [laws_szOccS.l0]; rw [if_neg (by omega)]; simp [szO])
  | succ d ih =>
    intro n a hn h0 h1
    have hr : rd_T24 l (n : Int) = l.getD n z24 := rfl
    have hx := hs.at_ n
    rw [drop_at l z24 n (by omega)]
    refine Ev.step (fun k => by simp only [laws_szOccS.l0]; rw [if_pos (by omega), if_pos (by omega), hr, w_succ (by omega)]) ?_
    generalize l.getD n z24 = x at *
    refine Ev.bind (Ev.one (fun _ => szOcc_is x a h0 h1 hx)) ?_
    rw [szO]
    by_cases h : (x.f2.length : Int) ≤ a
    · rw [leftOf_pos h]
      refine Ev.neg (by omega) (Ev.val (ih (n + 1) (a - x.f2.length) (by omega) (by omega) (by omega)) ?_)
      unfold leftOf
      by_cases h2 : ((szO (l.drop (n + 1)) : Nat) : Int) ≤ a - x.f2.length
      · rw [if_pos h2, if_pos (by omega)]
        omega
      · rw [if_neg h2, if_neg (by omega)]
    · rw [leftOf_neg h, leftOf_neg (by omega)]
      exact Ev.pos (by omega) (Ev.now _)
def allO (l : List S24) : Nat := l.length + szO l
theorem szOccS_ev (l : List S24) (hl : l.length ≤ 9223372036854775807) (hs : ShortL l) (a : Int) (h0 : 0 ≤ a) (h1 : a ≤ 1048576) : Ev (fun k => laws_szOccS.f k l a) (leftOf a (allO l)) := by
  unfold laws_szOccS.f allO
  rw [w_small (by omega) (by omega)]
  by_cases h : (l.length : Int) ≤ a
  · refine Ev.neg (by omega) (Ev.val (szOccS_l0_ev l hl hs l.length 0 (a - l.length) (by omega) (by omega) (by omega)) ?_)
    rw [List.drop_zero]
    unfold leftOf
    by_cases h2 : ((szO l : Nat) : Int) ≤ a - l.length
    · rw [if_pos h2, if_pos (by omega)]
      omega
    · rw [if_neg h2, if_neg (by omega)]
  · rw [leftOf_neg (by omega)]
    exact Ev.pos (by omega) (Ev.now _)
theorem szO_mem : ∀ (l : List S24) (x : S24), x ∈ l → x.f2.length ≤ szO l
  | [], _, h => by simp at h
  | y :: ys, x, h => by
    rw [szO]
    rcases List.mem_cons.1 h with rfl | h
    · omega
    · have := szO_mem ys x h
      omega
def FewO (l : List S24) : Prop := allO l ≤ 1048576
theorem FewO.len {l : List S24} (h : FewO l) : l.length ≤ 1048576 := by unfold FewO allO at h; omega
theorem FewO.ids {l : List S24} (h : FewO l) (x : S24) (hx : x ∈ l) : x.f2.length ≤ 1048576 := by
  have := szO_mem l x hx
  unfold FewO allO at h
  omega

theorem toOcc_ev (x : S24) (hl : x.f2.length ≤ 1048576) : Ev (fun k => laws_toOcc.f k x.f0 x.f1 x.f2) (x.f0, x.f1, x.f2) := by
  unfold laws_toOcc.f
  exact Ev.bindS (toIntS_ev x.f2 hl) rfl
theorem toOccS_l0_ev (l : List S24) (hl : FewO l) : ∀ (d n : Nat) (a : List S27), n + d = l.length → a.length = l.length → Ev (fun k => laws_toOccS.l0 k l a (n : Int)) (a.take n ++ (l.drop n).map cvO) := by
  have hlen := hl.len
  intro d
  induction d with
  | zero =>
    intro n a hn ha
    rw [List.drop_of_length_le (by omega), List.take_of_length_le (by omega), List.map_nil, List.append_nil]
    exact Ev.last (fun k => by simp only [laws_toOccS.l0]; rw [if_neg (by omega)])
  | succ d ih =>
    intro n a hn ha
    have hlt : n < l.length := by omega
    have hr : rd_T24 l (n : Int) = l.getD n z24 := rfl
    have hx : (l.getD n z24).f2.length ≤ 1048576 := by
      refine hl.ids _ ?_
      rw [List.getD_eq_getElem?_getD, List.getElem?_eq_getElem hlt]
      exact List.getElem_mem hlt
    rw [drop_at l z24 n hlt]
    have next := ih (n + 1) (a.set n (cvO (l.getD n z24))) (by omega) (by rw [List.length_set]; exact ha)
    rw [take_set a n _ (by omega), List.append_assoc] at next
    refine Ev.step (fun k => by simp only [laws_toOccS.l0]; rw [if_pos (by omega), if_pos (by omega), w_succ (by omega), hr, Int.toNat_natCast]) ?_
    refine Ev.bind (toOcc_ev _ hx) (Ev.pos (by omega) ?_)
    rw [List.map_cons]
    exact next
theorem toOccS_ev (l : List S24) (hl : FewO l) : Ev (fun k => laws_toOccS.f k l) (l.map cvO) := by
  have hlen := hl.len
  unfold laws_toOccS.f
  refine Ev.pos (by omega) (Ev.pos (by omega) ?_)
  have := toOccS_l0_ev l hl l.length 0 (List.replicate l.length z27) (by omega) (by simp)
  rw [Int.toNat_natCast]
  exact this
theorem short_map (l : List S24) (hl : FewO l) : Short (l.map cvO) := by
  intro x hx
  obtain ⟨y, hy, rfl⟩ := List.mem_map.1 hx
  have := hl.ids y hy
  show y.f2.length ≤ _
  omega

theorem eqOcc_ev (o : S27) (hl : o.f2.length ≤ 9223372036854775806) : Ev (fun k => laws_eqOcc.f k o.f0 o.f1 o.f2 o.f0 o.f1 o.f2) true := by
  unfold laws_eqOcc.f
  exact Ev.pos rfl (Ev.pos rfl (Ev.bindS (eqIntS_ev o.f2 (by omega)) rfl))
theorem eqOccS_l0_ev (l : List S27) (hl : l.length ≤ 9223372036854775806) (hs : Short l) : ∀ d n : Nat, n + d = l.length → Ev (fun k => laws_eqOccS.l0 k l l (n : Int)) true := by
  intro d
  induction d with
  | zero =>
    intro n hn
    exact Ev.last (fun k => by simp only [laws_eqOccS.l0]; rw [if_neg (by omega)])
  | succ d ih =>
    intro n hn
    have hr : rd_T27 l (n : Int) = l.getD n z27 := rfl
    refine Ev.step (fun k => by simp only [laws_eqOccS.l0]; rw [if_pos (by omega), if_pos (by omega), if_pos (by omega), hr, w_succ (by omega)]) ?_
    exact Ev.bind (eqOcc_ev _ (hs.at_ n)) (Ev.pos rfl (ih (n + 1) (by omega)))
theorem eqOccS_ev (l : List S27) (hl : l.length ≤ 9223372036854775806) (hs : Short l) : Ev (fun k => laws_eqOccS.f k l l) true := by
  unfold laws_eqOccS.f
  exact Ev.pos rfl (eqOccS_l0_ev l hl hs l.length 0 (by omega))

theorem cmpI_eq : ∀ a b : List Int, cmpI a b = 0 ↔ a = b
  | [], [] => by simp [cmpI]
  | [], _ :: _ => by simp [cmpI]
  | _ :: _, [] => by simp [cmpI]
  | a :: xs, b :: ys => by
    unfold cmpI
    by_cases h1 : a < b
    · rw [if_pos h1]
      constructor
      · intro h; exact absurd h (by decide)
      · intro h; injection h with h _; omega
    · rw [if_neg h1]
      by_cases h2 : a > b
      · rw [if_pos h2]
        constructor
        · intro h; exact absurd h (by decide)
        · intro h; injection h with h _; omega
      · rw [if_neg h2, cmpI_eq xs ys]
        have : a = b := by omega
        subst this
        simp
theorem sgn_ne (b : Bool) : sgn b ≠ 0 := by cases b <;> decide
theorem cmpO_eq (a b : S27) : cmpO a b = 0 ↔ a = b := by
  obtain ⟨a0, a1, a2⟩ := a
  obtain ⟨b0, b1, b2⟩ := b
  unfold cmpO
  dsimp only
  by_cases h1 : a1 = b1
  · rw [if_pos h1]
    by_cases h0 : a0 = b0
    · rw [if_pos h0, cmpI_eq]
      subst h1
      subst h0
      simp
    · rw [if_neg h0]
      constructor
      · intro h; exact absurd h (sgn_ne _)
      · intro h; injection h with h _ _; exact absurd h h0
  · rw [if_neg h1]
    constructor
    · intro h; exact absurd h (sgn_ne _)
    · intro h; injection h with _ h _; exact absurd h h1
def occsEq : List S27 → List S27 → Bool
  | [], [] => true
  | x :: xs, y :: ys => (cmpO x y == 0) && occsEq xs ys
  | _, _ => false
theorem occsEq_iff : ∀ a b : List S27, occsEq a b = true ↔ a = b
  | [], [] => by simp [occsEq]
  | [], _ :: _ => by simp [occsEq]
  | _ :: _, [] => by simp [occsEq]
  | x :: xs, y :: ys => by
    unfold occsEq
    rw [Bool.and_eq_true, occsEq_iff xs ys, beq_iff_eq, cmpO_eq]
    simp
theorem occsEq_self (a : List S27) : occsEq a a = true := (occsEq_iff a a).2 rfl
theorem occsEq_len (a b : List S27) (h : a.length ≠ b.length) : occsEq a b = false := by
  rw [Bool.eq_false_iff]
  intro e
  exact h (by rw [(occsEq_iff a b).1 e])

theorem l3Same_ev (a b : S27) (ha : a.f2.length ≤ 9223372036854775806) (hb : b.f2.length ≤ 9223372036854775806) : Ev (fun k => spec_l3Same.f k a.f0 a.f1 a.f2 b.f0 b.f1 b.f2) (cmpO a b == 0) := by
  have no : a ≠ b → (cmpO a b == 0) = false := fun h => beq_eq_false_iff_ne.2 (fun e => h ((cmpO_eq a b).1 e))
  unfold spec_l3Same.f
  by_cases h0 : a.f0 = b.f0
  · refine Ev.pos h0 ?_
    by_cases h1 : a.f1 = b.f1
    · refine Ev.pos h1 ?_
      by_cases h2 : (a.f2.length : Int) = (b.f2.length : Int)
      · refine Ev.pos h2 (Ev.bindS (l3Ids_ev _ _ ha hb) ?_)
        unfold cmpO
        rw [if_pos h1, if_pos h0]
      · rw [no (fun e => h2 (by rw [e]))]
        exact Ev.neg h2 (Ev.now _)
    · rw [no (fun e => h1 (by rw [e]))]
      exact Ev.neg h1 (Ev.now _)
  · rw [no (fun e => h0 (by rw [e]))]
    exact Ev.neg h0 (Ev.now _)
theorem spec_OccsSame_l0_ev (a b : List S27) (hl : a.length ≤ 9223372036854775806) (ha : Short a) (hb : Short b) (hab : a.length = b.length) : ∀ d n : Nat, n + d = a.length → Ev (fun k => spec_OccsSame.l0 k a b (n : Int)) (occsEq (a.drop n) (b.drop n)) := by
  intro d
  induction d with
  | zero =>
    intro n hn
    rw [List.drop_of_length_le (by omega), List.drop_of_length_le (by omega)]
    exact Ev.last (fun k => by simp only [spec_OccsSame.l0]; rw [if_neg (by omega)]; rfl)
  | succ d ih =>
    intro n hn
    have hra : rd_T27 a (n : Int) = a.getD n z27 := rfl
    have hrb : rd_T27 b (n : Int) = b.getD n z27 := rfl
    have hx := ha.at_ n
    have hy := hb.at_ n
    rw [drop_at a z27 n (by omega), drop_at b z27 n (by omega)]
    have next := ih (n + 1) (by omega)
    refine Ev.step (fun k => by simp only [spec_OccsSame.l0]; rw [if_pos (by omega), if_pos (by omega), if_pos (by omega), hra, hrb, w_succ (by omega)]) ?_
    generalize a.getD n z27 = x at *
    generalize b.getD n z27 = y at *
    refine Ev.bind (l3Same_ev x y hx hy) ?_
    unfold occsEq
    by_cases h : (cmpO x y == 0) = true
    · rw [h]
      exact Ev.pos rfl next
    · refine Ev.neg h ?_
      simp only [Bool.not_eq_true] at h
      rw [h]
      exact Ev.now _
theorem spec_OccsSame_ev (a b : List S27) (hl : a.length ≤ 9223372036854775806) (ha : Short a) (hb : Short b) : Ev (fun k => spec_OccsSame.f k a b) (occsEq a b) := by
  unfold spec_OccsSame.f
  by_cases h : a.length = b.length
  · exact Ev.pos (by omega) (spec_OccsSame_l0_ev a b hl ha hb h a.length 0 (by omega))
  · rw [occsEq_len a b h]
    exact Ev.neg (by omega) (Ev.now _)
theorem impl_EqualFunc_l0_ev (a b : List S27) (hl : a.length ≤ 9223372036854775806) (ha : Short a) (hb : Short b) (hab : a.length = b.length) : ∀ d n : Nat, n + d = a.length → Ev (fun k => impl_Occ_69.l0 k b a (a.length : Int) (n : Int)) (occsEq (a.drop n) (b.drop n)) := by
  intro d
  induction d with
  | zero =>
    intro n hn
    rw [List.drop_of_length_le (by omega), List.drop_of_length_le (by omega)]
    exact Ev.last (fun k => by simp only [impl_Occ_69.l0]; rw [if_neg (by omega)]; rfl)
  | succ d ih =>
    intro n hn
    have hra : rd_T27 a (n : Int) = a.getD n z27 := rfl
    have hrb : rd_T27 b (n : Int) = b.getD n z27 := rfl
    have hx := ha.at_ n
    have hy := hb.at_ n
    rw [drop_at a z27 n (by omega), drop_at b z27 n (by omega)]
    have next := ih (n + 1) (by omega)
    refine Ev.step (fun k => by simp only [impl_Occ_69.l0, impl_OccsSame_1.f]; rw [if_pos (by omega), if_pos (by omega), if_pos (by omega), if_pos (by omega), hra, hrb, w_succ (by omega)]) ?_
    generalize a.getD n z27 = x at *
    generalize b.getD n z27 = y at *
    refine Ev.bind (a := cmpO x y == 0) (Ev.bindS (impl_compare_ev x y hx hy) rfl) ?_
    unfold occsEq
    by_cases h : (cmpO x y == 0) = true
    · rw [h]
      exact Ev.pos rfl next
    · refine Ev.neg h ?_
      simp only [Bool.not_eq_true] at h
      rw [h]
      exact Ev.now _
theorem impl_OccsSame_ev (a b : List S27) (hl : a.length ≤ 9223372036854775806) (ha : Short a) (hb : Short b) : Ev (fun k => impl_OccsSame.f k a b) (occsEq a b) := by
  unfold impl_OccsSame.f impl_Occ_69.f
  refine Ev.bindS (a := occsEq a b) ?_ rfl
  by_cases h : a.length = b.length
  · exact Ev.pos (by omega) (impl_EqualFunc_l0_ev a b hl ha hb h a.length 0 (by omega))
  · rw [occsEq_len a b h]
    exact Ev.neg (by omega) (Ev.now _)
end Go.Proofs.Ytiplpckgmikmeaa.M
namespace Go.Proofs.Ytiplpckgmikmeaa.M
set_option linter.unusedVariables false
set_option linter.unusedSimpArgs false
open Go.RowKit Go.Proofs.YtiplpckgmikmeaaW.PrintWords Go.Proofs.YtiplpckgmikmeaaW.PrintLast

theorem maxLen_le {n : Nat} (h : n ≤ maxLen) : n ≤ 9223372036854775807 := by unfold maxLen at h; omega
theorem good_ids (x : S24) (h : good24 x) : x.f2.length ≤ 9223372036854775807 := maxLen_le h.2.2.1
def goodOs (l : List S24) : Prop := l.length ≤ maxLen ∧ ∀ y ∈ l, good24 y
theorem goodOs.short {l : List S24} (h : goodOs l) : ShortL l := fun x hx => good_ids x (h.2 x hx)
theorem goodOs.sz {l : List S24} (h : goodOs l) (a : Int) (h0 : 0 ≤ a) (h1 : a ≤ 1048576) : Ev (fun k => laws_szOccS.f k l a) (leftOf a (allO l)) := szOccS_ev l (maxLen_le h.1) h.short a h0 h1
theorem few_cv {l : List S24} (h : FewO l) : (l.map cvO).length ≤ 1048576 := by rw [List.length_map]; exact h.len

end Go.Proofs.Ytiplpckgmikmeaa.M
namespace Go.Proofs.Ytiplpckgmikmeaa.M
set_option linter.unusedVariables false
set_option linter.unusedSimpArgs false
open Go.RowKit Go.Proofs.YtiplpckgmikmeaaW.PrintWords Go.Proofs.YtiplpckgmikmeaaW.PrintLast

theorem FnExactOccsSame_pure (l : List S24) (h : l.length ≤ maxLen ∧ ∀ y ∈ l, good24 y) (m : List S24) (hm : m.length ≤ maxLen ∧ ∀ y ∈ m, good24 y) : ∃ k, laws_FnExactOccsSame.f k l m = some true := by
  refine Ev.rounds (g := fun k => laws_FnExactOccsSame.f k l m) ?_
  unfold laws_FnExactOccsSame.f
  refine Ev.bind (goodOs.sz h 1048576 (by omega) (by omega)) ?_
  by_cases hs : ((allO l : Nat) : Int) ≤ 1048576
  · rw [leftOf_pos hs]
    refine Ev.neg (by omega) (Ev.bind (goodOs.sz hm _ (by omega) (by omega)) ?_)
    by_cases hs2 : ((allO m : Nat) : Int) ≤ 1048576 - allO l
    · rw [leftOf_pos hs2]
      refine Ev.neg (by omega) ?_
      have hf : FewO l := by unfold FewO; omega
      have hf2 : FewO m := by unfold FewO; omega
      have k1 := few_cv hf
      have k2 := short_map l hf
      have k3 := few_cv hf2
      have k4 := short_map m hf2
      refine Ev.bind (toOccS_ev l hf) (Ev.bind (toOccS_ev m hf2) (Ev.bind (spec_OccsSame_ev _ _ (by omega) k2 k4) (Ev.bind (toOccS_ev l hf) (Ev.bind (toOccS_ev m hf2) (Ev.bind (impl_OccsSame_ev _ _ (by omega) k2 k4) ?_)))))
      refine Ev.neg (by simp) (Ev.bind (toOccS_ev l hf) (Ev.bind (eqOccS_ev _ (by omega) k2) (Ev.pos rfl ?_)))
      exact Ev.bind (toOccS_ev m hf2) (Ev.bindS (eqOccS_ev _ (by omega) k4) rfl)
    · rw [leftOf_neg hs2]
      exact Ev.pos (by omega) (Ev.now _)
  · rw [leftOf_neg hs]
    exact Ev.pos (by omega) (Ev.now _)
end Go.Proofs.Ytiplpckgmikmeaa.M
