/- The law FnEvTill returns true for every two lists of bytes: the past is always a prefix; no condition is asked. (Part 4 of 4.) -/
import Derived.Test.YtiebpoikhijbgaaCFnEvTill3
import Derived.Laws.BitsAllLaws
import Derived.Laws.BitsLemmas
import Derived.Test.YtiebpoikhijbgaaRows
import Derived.Test.YtiebpoikhijbgaaWSized
import Derived.WalkKit
import Derived.ProofKit
import Derived.OpenShut
import Derived.ShutString
import Derived.ChangeOld
import Derived.Below
import Derived.SizedLaws
namespace Go.Proofs.Ytiebpoikhijbgaa.M
open Go.RowKit Go.Proofs.YtiebpoikhijbgaaW.PrintWords Go.Proofs.YtiebpoikhijbgaaW.PrintLast Go.Proofs.YtiebpoikhijbgaaW.PrintMore
attribute [local go_sem] max2_int min2_int max_two min_two max_three min_three max_four min_four
set_option linter.unusedVariables false
set_option linter.unusedSimpArgs false

def laws_heldEvS.l0 : Nat → List (S26) → Int → Int → Option (Int)
  | 0, _, _, _ => none
  | k + 1, x0, x1, x5 => if x5 < (x0.length : Int) then (if 0 ≤ x5 then (if ((rd_T26 x0 x5).f0) = x1 then (if ((rd_T26 x0 x5).f1) = (wrap64 (x1 + 1)) then (if ((rd_T26 x0 x5).f2) = (wrap64 ((wrap64 (x1 + 1)) + 1)) then (laws_heldEvS.l0 k x0 (wrap64 ((wrap64 ((wrap64 (x1 + 1)) + 1)) + 1)) (wrap64 (x5 + 1))) else (some (-1))) else (some (-1))) else (some (-1))) else (none)) else (some x1)
def laws_heldEvS.f (k : Nat) (l0 : List (S26)) (a1 : Int) : Option (Int) := laws_heldEvS.l0 k l0 a1 0
theorem laws_heldEvS.mono_l : ∀ k, (∀ y0 y1 y2, LeO (laws_heldEvS.l0 k y0 y1 y2) (laws_heldEvS.l0 (k + 1) y0 y1 y2))
  | 0 => fun _ _ _ r h => by simp [laws_heldEvS.l0] at h
  | k + 1 => by
    have ih0 := laws_heldEvS.mono_l k
    · intro y0 y1 y2
      unfold laws_heldEvS.l0
      repeat' first
      | (with_reducible exact ih0 _ _ _)
      | (with_reducible exact LeO.refl _)
      | (with_reducible exact LeO.none _)
      | (with_reducible refine LeO.ite ?_ ?_)
      | (with_reducible refine LeO.bind ?_ (fun _ => ?_))
      | exact ih0 _ _ _
      | exact LeO.none _
      | refine LeO.ite ?_ ?_
      | refine LeO.bind ?_ (fun _ => ?_)
theorem laws_heldEvS.mono : ∀ a0 a1 k, LeO (laws_heldEvS.f k a0 a1) (laws_heldEvS.f (k + 1) a0 a1) := by
  intro a0 a1 k
  have ih0 := laws_heldEvS.mono_l k
  unfold laws_heldEvS.f
  repeat' first
      | (with_reducible exact ih0 _ _ _)
      | (with_reducible exact LeO.refl _)
      | (with_reducible exact LeO.none _)
      | (with_reducible refine LeO.ite ?_ ?_)
      | (with_reducible refine LeO.bind ?_ (fun _ => ?_))
      | exact ih0 _ _ _
      | exact LeO.none _
      | refine LeO.ite ?_ ?_
      | refine LeO.bind ?_ (fun _ => ?_)
set_option maxHeartbeats 8000000 in
set_option maxRecDepth 100000 in
theorem laws_heldEvS.calls (k : Nat) (A0 : Option Addr) (c0 : Nat) (l0 : List (S26)) (a1 : Int) (r : Int) (w : World) (hr0 : Kd.C k26 w A0 l0.length l0) (hc0 : l0.length ≤ c0) (h : laws_heldEvS.f k l0 a1 = some r) :
    Calls Try.prog 23 #[.slice A0 l0.length c0, .int .i64 a1] w fun e w' => e = .returned (.int .i64 r) ∧ Drawn0 w w' := by
  have HR0 := Aside0.mk hr0
  have HC0 := Aside0.mk hc0
  clear hr0 hc0
  have H : (laws_heldEvS.l0 k l0 a1 0) = some r := h
  clear h
  have H' := Aside0.mk H
  clear H
  go_enter Try.func23, Try.ntmps23
  go_wp2
  go_loopg [1, 5] k (fun kq v1 v5 w' => ∃ (x1_1 : Int) (x5_1 : Int), v1 = .int .i64 x1_1 ∧ v5 = .int .i64 x5_1 ∧ Aside0 (laws_heldEvS.l0 kq l0 x1_1 x5_1 = some r) ∧ Aside0 (kq ≤ k) ∧ Drawn0 w w')
  case atStart => exact ⟨(a1), (0), (by first | rfl | (simp; done) | (simp [*]; done)), (by first | rfl | (simp; done) | (simp [*]; done)), H', ⟨Nat.le_refl _⟩, by repeat (first | exact Drawn0.refl _ | apply Drawn0.step)⟩
  case round =>
    clear H'
    try clear c2
    try clear p2
    obtain ⟨x1_1, x5_1, rfl, rfl, HA, HK1, ⟨m1, rfl⟩⟩ := hrel
    cases gk with
    | zero => exact absurd HA.out (by simp [laws_heldEvS.l0])
    | succ k1 =>
      have H := HA.out
      clear HA
      simp only [laws_heldEvS.l0] at H
      by_cases c3 : x5_1 < (l0.length : Int)
      · rw [if_pos c3] at H
        have c3b0 : decide (x5_1 < (l0.length : Int)) = true := decide_eq_true c3
        clear c3
        by_cases c4 : 0 ≤ x5_1
        · rw [if_pos c4] at H
          have c4b0 : decide (0 ≤ x5_1) = true := decide_eq_true c4
          clear c4
          by_cases c5 : ((rd_T26 l0 x5_1).f0) = x1_1
          · rw [if_pos c5] at H
            have c5b0 : (((rd_T26 l0 x5_1).f0) == x1_1) = true := beq_iff_eq.mpr c5
            have c5b1 : (((rd_T26 l0 x5_1).f0) != x1_1) = false := bne_eq_false_iff_eq.mpr c5
            clear c5
            by_cases c6 : ((rd_T26 l0 x5_1).f1) = (wrap64 (x1_1 + 1))
            · rw [if_pos c6] at H
              have c6b0 : (((rd_T26 l0 x5_1).f1) == (wrap64 (x1_1 + 1))) = true := beq_iff_eq.mpr c6
              have c6b1 : (((rd_T26 l0 x5_1).f1) != (wrap64 (x1_1 + 1))) = false := bne_eq_false_iff_eq.mpr c6
              clear c6
              by_cases c7 : ((rd_T26 l0 x5_1).f2) = (wrap64 ((wrap64 (x1_1 + 1)) + 1))
              · rw [if_pos c7] at H
                have c7b0 : (((rd_T26 l0 x5_1).f2) == (wrap64 ((wrap64 (x1_1 + 1)) + 1))) = true := beq_iff_eq.mpr c7
                have c7b1 : (((rd_T26 l0 x5_1).f2) != (wrap64 ((wrap64 (x1_1 + 1)) + 1))) = false := bne_eq_false_iff_eq.mpr c7
                clear c7
                have H' := Aside0.mk H
                clear H
                have p198 : 0 ≤ (x5_1 : Int) := of_decide_eq_true (by first | (with_reducible assumption) | assumption)
                have q198 : x5_1 < (l0.length : Int) := of_decide_eq_true (by first | (with_reducible assumption) | assumption)
                obtain ⟨ad198, e198, hx198_0, hx198_1, hx198_2⟩ := at_T26 HR0.out x5_1 p198 q198
                cases e198
                replace p198 := eq_true p198
                replace q198 := eq_true q198
                have p199 : 0 ≤ (x5_1 : Int) := of_decide_eq_true (by first | (with_reducible assumption) | assumption)
                have q199 : x5_1 < (l0.length : Int) := of_decide_eq_true (by first | (with_reducible assumption) | assumption)
                obtain ⟨ad199, e199, hx199_0, hx199_1, hx199_2⟩ := at_T26 HR0.out x5_1 p199 q199
                obtain rfl : ad198 = ad199 := (by injection e199)
                replace p199 := eq_true p199
                replace q199 := eq_true q199
                have p200 : 0 ≤ (x5_1 : Int) := of_decide_eq_true (by first | (with_reducible assumption) | assumption)
                have q200 : x5_1 < (l0.length : Int) := of_decide_eq_true (by first | (with_reducible assumption) | assumption)
                obtain ⟨ad200, e200, hx200_0, hx200_1, hx200_2⟩ := at_T26 HR0.out x5_1 p200 q200
                obtain rfl : ad198 = ad200 := (by injection e200)
                replace p200 := eq_true p200
                replace q200 := eq_true q200
                go_wp2
                go_roundg k1
                case measure => have := HK1.out; omega
                case rel => exact ⟨(wrap64 ((wrap64 ((wrap64 (x1_1 + 1)) + 1)) + 1)), (wrap64 (x5_1 + 1)), (by first | rfl | (simp; done) | (simp [*]; done)), (by first | rfl | (simp; done) | (simp [*]; done)), H', ⟨by have := HK1.out; omega⟩, by repeat (first | exact Drawn0.refl _ | apply Drawn0.step)⟩
              · rw [if_neg c7] at H
                have c7b0 : (((rd_T26 l0 x5_1).f2) == (wrap64 ((wrap64 (x1_1 + 1)) + 1))) = false := beq_eq_false_iff_ne.mpr c7
                have c7b1 : (((rd_T26 l0 x5_1).f2) != (wrap64 ((wrap64 (x1_1 + 1)) + 1))) = true := bne_iff_ne.mpr c7
                obtain rfl := Option.some.inj H
                have p198 : 0 ≤ (x5_1 : Int) := of_decide_eq_true (by first | (with_reducible assumption) | assumption)
                have q198 : x5_1 < (l0.length : Int) := of_decide_eq_true (by first | (with_reducible assumption) | assumption)
                obtain ⟨ad198, e198, hx198_0, hx198_1, hx198_2⟩ := at_T26 HR0.out x5_1 p198 q198
                cases e198
                replace p198 := eq_true p198
                replace q198 := eq_true q198
                have p199 : 0 ≤ (x5_1 : Int) := of_decide_eq_true (by first | (with_reducible assumption) | assumption)
                have q199 : x5_1 < (l0.length : Int) := of_decide_eq_true (by first | (with_reducible assumption) | assumption)
                obtain ⟨ad199, e199, hx199_0, hx199_1, hx199_2⟩ := at_T26 HR0.out x5_1 p199 q199
                obtain rfl : ad198 = ad199 := (by injection e199)
                replace p199 := eq_true p199
                replace q199 := eq_true q199
                have p200 : 0 ≤ (x5_1 : Int) := of_decide_eq_true (by first | (with_reducible assumption) | assumption)
                have q200 : x5_1 < (l0.length : Int) := of_decide_eq_true (by first | (with_reducible assumption) | assumption)
                obtain ⟨ad200, e200, hx200_0, hx200_1, hx200_2⟩ := at_T26 HR0.out x5_1 p200 q200
                obtain rfl : ad198 = ad200 := (by injection e200)
                replace p200 := eq_true p200
                replace q200 := eq_true q200
                go_wp2
                go_ret
                exact ⟨by first | rfl | (simp; done) | (simp [*]; done), by repeat (first | exact Drawn0.refl _ | apply Drawn0.step)⟩
            · rw [if_neg c6] at H
              have c6b0 : (((rd_T26 l0 x5_1).f1) == (wrap64 (x1_1 + 1))) = false := beq_eq_false_iff_ne.mpr c6
              have c6b1 : (((rd_T26 l0 x5_1).f1) != (wrap64 (x1_1 + 1))) = true := bne_iff_ne.mpr c6
              obtain rfl := Option.some.inj H
              have p198 : 0 ≤ (x5_1 : Int) := of_decide_eq_true (by first | (with_reducible assumption) | assumption)
              have q198 : x5_1 < (l0.length : Int) := of_decide_eq_true (by first | (with_reducible assumption) | assumption)
              obtain ⟨ad198, e198, hx198_0, hx198_1, hx198_2⟩ := at_T26 HR0.out x5_1 p198 q198
              cases e198
              replace p198 := eq_true p198
              replace q198 := eq_true q198
              have p199 : 0 ≤ (x5_1 : Int) := of_decide_eq_true (by first | (with_reducible assumption) | assumption)
              have q199 : x5_1 < (l0.length : Int) := of_decide_eq_true (by first | (with_reducible assumption) | assumption)
              obtain ⟨ad199, e199, hx199_0, hx199_1, hx199_2⟩ := at_T26 HR0.out x5_1 p199 q199
              obtain rfl : ad198 = ad199 := (by injection e199)
              replace p199 := eq_true p199
              replace q199 := eq_true q199
              go_wp2
              go_ret
              exact ⟨by first | rfl | (simp; done) | (simp [*]; done), by repeat (first | exact Drawn0.refl _ | apply Drawn0.step)⟩
          · rw [if_neg c5] at H
            have c5b0 : (((rd_T26 l0 x5_1).f0) == x1_1) = false := beq_eq_false_iff_ne.mpr c5
            have c5b1 : (((rd_T26 l0 x5_1).f0) != x1_1) = true := bne_iff_ne.mpr c5
            obtain rfl := Option.some.inj H
            have p198 : 0 ≤ (x5_1 : Int) := of_decide_eq_true (by first | (with_reducible assumption) | assumption)
            have q198 : x5_1 < (l0.length : Int) := of_decide_eq_true (by first | (with_reducible assumption) | assumption)
            obtain ⟨ad198, e198, hx198_0, hx198_1, hx198_2⟩ := at_T26 HR0.out x5_1 p198 q198
            cases e198
            replace p198 := eq_true p198
            replace q198 := eq_true q198
            go_wp2
            go_ret
            exact ⟨by first | rfl | (simp; done) | (simp [*]; done), by repeat (first | exact Drawn0.refl _ | apply Drawn0.step)⟩
        · rw [if_neg c4] at H
          exact absurd H (by simp)
      · rw [if_neg c3] at H
        have c3b0 : decide (x5_1 < (l0.length : Int)) = false := decide_eq_false c3
        clear c3
        obtain rfl := Option.some.inj H
        go_wp2
        go_ret
        exact ⟨by first | rfl | (simp; done) | (simp [*]; done), by repeat (first | exact Drawn0.refl _ | apply Drawn0.step)⟩

end Go.Proofs.Ytiebpoikhijbgaa.M
namespace Go.Proofs.Ytiebpoikhijbgaa.M
open Go.RowKit Go.Proofs.YtiebpoikhijbgaaW.PrintWords Go.Proofs.YtiebpoikhijbgaaW.PrintLast Go.Proofs.YtiebpoikhijbgaaW.PrintMore
attribute [local go_sem] max2_int min2_int max_two min_two max_three min_three max_four min_four
set_option linter.unusedVariables false
set_option linter.unusedSimpArgs false

attribute [local go_sem high] eqA26
def spec_EvsSame.l0 : Nat → List (S26) → List (S26) → Int → Option (Bool)
  | 0, _, _, _ => none
  | k + 1, x0, x1, x5 => if x5 < (x0.length : Int) then (if 0 ≤ x5 then (if x5 < (x1.length : Int) then (if (!(((rd_T26 x0 x5).f0) == ((rd_T26 x1 x5).f0)) || (!(((rd_T26 x0 x5).f1) == ((rd_T26 x1 x5).f1)) || (!(((rd_T26 x0 x5).f2) == ((rd_T26 x1 x5).f2))))) = true then (some false) else (spec_EvsSame.l0 k x0 x1 (wrap64 (x5 + 1)))) else (none)) else (none)) else (some true)
def spec_EvsSame.f (k : Nat) (l0 : List (S26)) (l1 : List (S26)) : Option (Bool) := if (l0.length : Int) = (l1.length : Int) then (spec_EvsSame.l0 k l0 l1 0) else (some false)
theorem spec_EvsSame.mono_l : ∀ k, (∀ y0 y1 y2, LeO (spec_EvsSame.l0 k y0 y1 y2) (spec_EvsSame.l0 (k + 1) y0 y1 y2))
  | 0 => fun _ _ _ r h => by simp [spec_EvsSame.l0] at h
  | k + 1 => by
    have ih0 := spec_EvsSame.mono_l k
    · intro y0 y1 y2
      unfold spec_EvsSame.l0
      repeat' first
      | (with_reducible exact ih0 _ _ _)
      | (with_reducible exact LeO.refl _)
      | (with_reducible exact LeO.none _)
      | (with_reducible refine LeO.ite ?_ ?_)
      | (with_reducible refine LeO.bind ?_ (fun _ => ?_))
      | exact ih0 _ _ _
      | exact LeO.none _
      | refine LeO.ite ?_ ?_
      | refine LeO.bind ?_ (fun _ => ?_)
theorem spec_EvsSame.mono : ∀ a0 a1 k, LeO (spec_EvsSame.f k a0 a1) (spec_EvsSame.f (k + 1) a0 a1) := by
  intro a0 a1 k
  have ih0 := spec_EvsSame.mono_l k
  unfold spec_EvsSame.f
  repeat' first
      | (with_reducible exact ih0 _ _ _)
      | (with_reducible exact LeO.refl _)
      | (with_reducible exact LeO.none _)
      | (with_reducible refine LeO.ite ?_ ?_)
      | (with_reducible refine LeO.bind ?_ (fun _ => ?_))
      | exact ih0 _ _ _
      | exact LeO.none _
      | refine LeO.ite ?_ ?_
      | refine LeO.bind ?_ (fun _ => ?_)
set_option maxHeartbeats 8000000 in
set_option maxRecDepth 100000 in
theorem spec_EvsSame.calls (k : Nat) (A0 : Option Addr) (c0 : Nat) (l0 : List (S26)) (A1 : Option Addr) (c1 : Nat) (l1 : List (S26)) (r : Bool) (w : World) (hr0 : Kd.C k26 w A0 l0.length l0) (hc0 : l0.length ≤ c0) (hr1 : Kd.C k26 w A1 l1.length l1) (hc1 : l1.length ≤ c1) (h : spec_EvsSame.f k l0 l1 = some r) :
    Calls Try.prog 14 #[.slice A0 l0.length c0, .slice A1 l1.length c1] w fun e w' => e = .returned (.bool r) ∧ Drawn0 w w' := by
  have hu26 := Try.underlying26
  have HR0 := Aside0.mk hr0
  have HC0 := Aside0.mk hc0
  clear hr0 hc0
  have HR1 := Aside0.mk hr1
  have HC1 := Aside0.mk hc1
  clear hr1 hc1
  have H : (if (l0.length : Int) = (l1.length : Int) then (spec_EvsSame.l0 k l0 l1 0) else (some false)) = some r := h
  clear h
  by_cases c3 : (l0.length : Int) = (l1.length : Int)
  · rw [if_pos c3] at H
    have c3b0 : ((l0.length : Int) == (l1.length : Int)) = true := beq_iff_eq.mpr c3
    have c3b1 : ((l0.length : Int) != (l1.length : Int)) = false := bne_eq_false_iff_eq.mpr c3
    have c3b2 : (l0.length == l1.length) = true := by first | simpa using c3 | (simp at c3 ⊢; omega)
    clear c3
    have H' := Aside0.mk H
    clear H
    go_enter Try.func14, Try.ntmps14
    go_wp2
    repeat (go_quiet (fail); try go_wp2)
    go_loopg [5] k (fun kq v5 w' => ∃ (x5_1 : Int), v5 = .int .i64 x5_1 ∧ Aside0 (spec_EvsSame.l0 kq l0 l1 x5_1 = some r) ∧ Aside0 (kq ≤ k) ∧ Drawn0 w w')
    case atStart => exact ⟨(0), (by first | rfl | (simp; done) | (simp [*]; done)), H', ⟨Nat.le_refl _⟩, by repeat (first | exact Drawn0.refl _ | apply Drawn0.step)⟩
    case round =>
      clear H'
      try clear c1
      try clear p2
      try clear c3
      try clear c3b0
      try clear c3b1
      try clear c3b2
      obtain ⟨x5_1, rfl, HA, HK1, ⟨m1, rfl⟩⟩ := hrel
      cases gk with
      | zero => exact absurd HA.out (by simp [spec_EvsSame.l0])
      | succ k1 =>
        have H := HA.out
        clear HA
        simp only [spec_EvsSame.l0] at H
        by_cases c4 : x5_1 < (l0.length : Int)
        · rw [if_pos c4] at H
          have c4b0 : decide (x5_1 < (l0.length : Int)) = true := decide_eq_true c4
          clear c4
          by_cases c5 : 0 ≤ x5_1
          · rw [if_pos c5] at H
            have c5b0 : decide (0 ≤ x5_1) = true := decide_eq_true c5
            clear c5
            by_cases c6 : x5_1 < (l1.length : Int)
            · rw [if_pos c6] at H
              have c6b0 : decide (x5_1 < (l1.length : Int)) = true := decide_eq_true c6
              clear c6
              by_cases c7 : (!(((rd_T26 l0 x5_1).f0) == ((rd_T26 l1 x5_1).f0)) || (!(((rd_T26 l0 x5_1).f1) == ((rd_T26 l1 x5_1).f1)) || (!(((rd_T26 l0 x5_1).f2) == ((rd_T26 l1 x5_1).f2))))) = true
              · rw [if_pos c7] at H
                have c7b0 : (!(((rd_T26 l0 x5_1).f0) == ((rd_T26 l1 x5_1).f0)) || (!(((rd_T26 l0 x5_1).f1) == ((rd_T26 l1 x5_1).f1)) || (!(((rd_T26 l0 x5_1).f2) == ((rd_T26 l1 x5_1).f2))))) = true := c7
                clear c7
                obtain rfl := Option.some.inj H
                have p119 : 0 ≤ (x5_1 : Int) := of_decide_eq_true (by first | (with_reducible assumption) | assumption)
                have q119 : x5_1 < (l0.length : Int) := of_decide_eq_true (by first | (with_reducible assumption) | assumption)
                obtain ⟨ad119, e119, hx119_0, hx119_1, hx119_2⟩ := at_T26 HR0.out x5_1 p119 q119
                cases e119
                replace p119 := eq_true p119
                replace q119 := eq_true q119
                have p120 : 0 ≤ (x5_1 : Int) := of_decide_eq_true (by first | (with_reducible assumption) | assumption)
                have q120 : x5_1 < (l1.length : Int) := of_decide_eq_true (by first | (with_reducible assumption) | assumption)
                obtain ⟨ad120, e120, hx120_0, hx120_1, hx120_2⟩ := at_T26 HR1.out x5_1 p120 q120
                cases e120
                replace p120 := eq_true p120
                replace q120 := eq_true q120
                go_wp2
                repeat (go_quiet (fail); try go_wp2)
                go_ret
                exact ⟨by first | rfl | (simp; done) | (simp [*]; done), by repeat (first | exact Drawn0.refl _ | apply Drawn0.step)⟩
              · rw [if_neg c7] at H
                have c7b0 : (!(((rd_T26 l0 x5_1).f0) == ((rd_T26 l1 x5_1).f0)) || (!(((rd_T26 l0 x5_1).f1) == ((rd_T26 l1 x5_1).f1)) || (!(((rd_T26 l0 x5_1).f2) == ((rd_T26 l1 x5_1).f2))))) = false := by simpa using c7
                clear c7
                have H' := Aside0.mk H
                clear H
                have p119 : 0 ≤ (x5_1 : Int) := of_decide_eq_true (by first | (with_reducible assumption) | assumption)
                have q119 : x5_1 < (l0.length : Int) := of_decide_eq_true (by first | (with_reducible assumption) | assumption)
                obtain ⟨ad119, e119, hx119_0, hx119_1, hx119_2⟩ := at_T26 HR0.out x5_1 p119 q119
                cases e119
                replace p119 := eq_true p119
                replace q119 := eq_true q119
                have p120 : 0 ≤ (x5_1 : Int) := of_decide_eq_true (by first | (with_reducible assumption) | assumption)
                have q120 : x5_1 < (l1.length : Int) := of_decide_eq_true (by first | (with_reducible assumption) | assumption)
                obtain ⟨ad120, e120, hx120_0, hx120_1, hx120_2⟩ := at_T26 HR1.out x5_1 p120 q120
                cases e120
                replace p120 := eq_true p120
                replace q120 := eq_true q120
                go_wp2
                repeat (go_quiet (fail); try go_wp2)
                go_roundg k1
                case measure => have := HK1.out; omega
                case rel => exact ⟨(wrap64 (x5_1 + 1)), (by first | rfl | (simp; done) | (simp [*]; done)), H', ⟨by have := HK1.out; omega⟩, by repeat (first | exact Drawn0.refl _ | apply Drawn0.step)⟩
            · rw [if_neg c6] at H
              exact absurd H (by simp)
          · rw [if_neg c5] at H
            exact absurd H (by simp)
        · rw [if_neg c4] at H
          have c4b0 : decide (x5_1 < (l0.length : Int)) = false := decide_eq_false c4
          clear c4
          obtain rfl := Option.some.inj H
          go_wp2
          repeat (go_quiet (fail); try go_wp2)
          go_ret
          exact ⟨by first | rfl | (simp; done) | (simp [*]; done), by repeat (first | exact Drawn0.refl _ | apply Drawn0.step)⟩
  · rw [if_neg c3] at H
    have c3b0 : ((l0.length : Int) == (l1.length : Int)) = false := beq_eq_false_iff_ne.mpr c3
    have c3b1 : ((l0.length : Int) != (l1.length : Int)) = true := bne_iff_ne.mpr c3
    have c3b2 : (l0.length == l1.length) = false := by first | simpa using c3 | (simp at c3 ⊢; omega)
    obtain rfl := Option.some.inj H
    go_enter Try.func14, Try.ntmps14
    go_wp2
    repeat (go_quiet (fail); try go_wp2)
    go_ret
    exact ⟨by first | rfl | (simp; done) | (simp [*]; done), by repeat (first | exact Drawn0.refl _ | apply Drawn0.step)⟩

end Go.Proofs.Ytiebpoikhijbgaa.M
namespace Go.Proofs.Ytiebpoikhijbgaa.M
open Go.RowKit Go.Proofs.YtiebpoikhijbgaaW.PrintWords Go.Proofs.YtiebpoikhijbgaaW.PrintLast

def cvEv (x : S24) : S26 := ⟨x.f0, x.f1, x.f2⟩

theorem szEvS_ok (l : List S24) (a : Int) (h0 : 0 ≤ a) (h1 : a ≤ 1048576) (hl : l.length ≤ 9223372036854775807) : laws_szEvS.f l a = some (if (l.length : Int) ≤ a then a - l.length else -1) := by
  unfold laws_szEvS.f
  rw [w_small (by omega) (by omega)]
  by_cases h : (l.length : Int) ≤ a
  · rw [if_neg (by omega), if_pos h]
  · rw [if_pos (by omega), if_neg h]

theorem toEvS_l0_ev (l : List S24) (hl : l.length ≤ 9223372036854775807) : ∀ (d n : Nat) (a : List S26), n + d = l.length → a.length = l.length → Ev (fun k => laws_toEvS.l0 k l a (n : Int)) (a.take n ++ (l.drop n).map cvEv) := by
  intro d
  induction d with
  | zero =>
    intro n a hn ha
    rw [List.drop_of_length_le (by omega), List.take_of_length_le (by omega), List.map_nil, List.append_nil]
    exact Ev.last (fun k => by simp only [laws_toEvS.l0]; rw [if_neg (by omega)])
  | succ d ih =>
    intro n a hn ha
    have hlt : n < l.length := by omega
    have hrd : rd_T24 l (n : Int) = l.getD n z24 := rfl
    rw [drop_at l z24 n hlt]
    have next := ih (n + 1) (a.set n (cvEv (l.getD n z24))) (by omega) (by rw [List.length_set]; exact ha)
    rw [take_set a n _ (by omega), List.append_assoc] at next
    refine Ev.step (fun k => by simp only [laws_toEvS.l0, laws_toEv.f]; rw [if_pos (by omega), if_pos (by omega), Option.bind_some, if_pos (by omega), w_succ (by omega), hrd, Int.toNat_natCast]) ?_
    rw [List.map_cons]
    exact next

theorem toEvS_ev (l : List S24) (hl : l.length ≤ 1048576) : Ev (fun k => laws_toEvS.f k l) (l.map cvEv) := by
  unfold laws_toEvS.f
  refine Ev.pos (by omega) (Ev.pos (by omega) ?_)
  have := toEvS_l0_ev l (by omega) l.length 0 (List.replicate l.length z26) (by omega) (by simp)
  rw [Int.toNat_natCast]
  exact this

theorem eqEv_self (a b c : Int) : laws_eqEv.f a b c a b c = some true := by
  unfold laws_eqEv.f
  rw [if_pos rfl, if_pos rfl, if_pos rfl]
theorem eqEvS_l0_ev (l : List S26) (hl : l.length ≤ 9223372036854775807) : ∀ d n : Nat, n + d = l.length → Ev (fun k => laws_eqEvS.l0 k l l (n : Int)) true := by
  intro d
  induction d with
  | zero =>
    intro n hn
    exact Ev.last (fun k => by simp only [laws_eqEvS.l0]; rw [if_neg (by omega)])
  | succ d ih =>
    intro n hn
    refine Ev.step (fun k => by simp only [laws_eqEvS.l0]; rw [if_pos (by omega), if_pos (by omega), if_pos (by omega), eqEv_self, w_succ (by omega), Option.bind_some, if_pos rfl]) ?_
    exact ih (n + 1) (by omega)
theorem eqEvS_ev (l : List S26) (hl : l.length ≤ 9223372036854775807) : Ev (fun k => laws_eqEvS.f k l l) true := by
  unfold laws_eqEvS.f
  exact Ev.pos rfl (eqEvS_l0_ev l hl l.length 0 (by omega))

def evsEq : List S26 → List S26 → Bool
  | [], [] => true
  | x :: xs, y :: ys => !(!(x.f0 == y.f0) || (!(x.f1 == y.f1) || (!(x.f2 == y.f2)))) && evsEq xs ys
  | _, _ => false
theorem evsEq_iff : ∀ a b : List S26, evsEq a b = true ↔ a = b
  | [], [] => by simp [evsEq]
  | [], _ :: _ => by simp [evsEq]
  | _ :: _, [] => by simp [evsEq]
  | x :: xs, y :: ys => by
    unfold evsEq
    rw [Bool.and_eq_true, evsEq_iff xs ys]
    obtain ⟨a, b, c⟩ := x
    obtain ⟨a', b', c'⟩ := y
    simp
theorem evsEq_self (a : List S26) : evsEq a a = true := (evsEq_iff a a).2 rfl
theorem evsEq_len : ∀ a b : List S26, a.length ≠ b.length → evsEq a b = false := by
  intro a b h
  rw [Bool.eq_false_iff]
  intro e
  exact h (by rw [(evsEq_iff a b).1 e])

theorem spec_EvsSame_l0_ev (a b : List S26) (hl : a.length ≤ 9223372036854775807) (hab : a.length = b.length) : ∀ d n : Nat, n + d = a.length → Ev (fun k => spec_EvsSame.l0 k a b (n : Int)) (evsEq (a.drop n) (b.drop n)) := by
  intro d
  induction d with
  | zero =>
    intro n hn
    rw [List.drop_of_length_le (by omega), List.drop_of_length_le (by omega)]
    exact Ev.last (fun k => by simp only [spec_EvsSame.l0]; rw [if_neg (by omega)]; rfl)
  | succ d ih =>
    intro n hn
    have hra : rd_T26 a (n : Int) = a.getD n z26 := rfl
    have hrb : rd_T26 b (n : Int) = b.getD n z26 := rfl
    rw [drop_at a z26 n (by omega), drop_at b z26 n (by omega)]
    have next := ih (n + 1) (by omega)
    refine Ev.step (fun k => by simp only [spec_EvsSame.l0]; rw [if_pos (by omega), if_pos (by omega), if_pos (by omega), hra, hrb, w_succ (by omega)]) ?_
    generalize a.getD n z26 = x at *
    generalize b.getD n z26 = y at *
    unfold evsEq
    by_cases h : (!(x.f0 == y.f0) || (!(x.f1 == y.f1) || (!(x.f2 == y.f2)))) = true
    · rw [h]
      exact Ev.pos rfl (Ev.now _)
    · simp only [Bool.not_eq_true] at h
      rw [h]
      exact Ev.neg (by decide) next
theorem spec_EvsSame_ev (a b : List S26) (hl : a.length ≤ 9223372036854775807) : Ev (fun k => spec_EvsSame.f k a b) (evsEq a b) := by
  unfold spec_EvsSame.f
  by_cases h : a.length = b.length
  · exact Ev.pos (by omega) (spec_EvsSame_l0_ev a b hl h a.length 0 (by omega))
  · rw [evsEq_len a b h]
    exact Ev.neg (by omega) (Ev.now _)

theorem impl_Equal_l0_ev (a b : List S26) (hl : a.length ≤ 9223372036854775807) (hab : a.length = b.length) : ∀ d n : Nat, n + d = a.length → Ev (fun k => impl_Ev.l0 k a b (a.length : Int) (n : Int)) (evsEq (a.drop n) (b.drop n)) := by
  intro d
  induction d with
  | zero =>
    intro n hn
    rw [List.drop_of_length_le (by omega), List.drop_of_length_le (by omega)]
    exact Ev.last (fun k => by simp only [impl_Ev.l0]; rw [if_neg (by omega)]; rfl)
  | succ d ih =>
    intro n hn
    have hra : rd_T26 a (n : Int) = a.getD n z26 := rfl
    have hrb : rd_T26 b (n : Int) = b.getD n z26 := rfl
    rw [drop_at a z26 n (by omega), drop_at b z26 n (by omega)]
    have next := ih (n + 1) (by omega)
    refine Ev.step (fun k => by simp only [impl_Ev.l0]; rw [if_pos (by omega), if_pos (by omega), if_pos (by omega), if_pos (by omega), hra, hrb, w_succ (by omega)]) ?_
    generalize a.getD n z26 = x at *
    generalize b.getD n z26 = y at *
    unfold evsEq
    by_cases h : (!(x.f0 == y.f0) || (!(x.f1 == y.f1) || (!(x.f2 == y.f2)))) = true
    · rw [h]
      exact Ev.pos rfl (Ev.now _)
    · simp only [Bool.not_eq_true] at h
      rw [h]
      exact Ev.neg (by decide) next
theorem impl_EvsSame_ev (a b : List S26) (hl : a.length ≤ 9223372036854775807) : Ev (fun k => impl_EvsSame.f k a b) (evsEq a b) := by
  unfold impl_EvsSame.f impl_Ev.f
  refine Ev.bindS (a := evsEq a b) ?_ rfl
  by_cases h : a.length = b.length
  · exact Ev.pos (by omega) (impl_Equal_l0_ev a b hl h a.length 0 (by omega))
  · rw [evsEq_len a b h]
    exact Ev.neg (by omega) (Ev.now _)

def evsTill (l : List S26) (at_ : Int) : List S26 := l.filter fun x => decide (x.f1 ≤ at_)
theorem evsTill_len (l : List S26) (at_ : Int) : (evsTill l at_).length ≤ l.length := List.length_filter_le _ _

theorem spec_EvsTill_l0_ev (l : List S26) (at_ : Int) (hl : l.length ≤ 1099511627776) : ∀ (d n : Nat) (out : List S26), n + d = l.length → out.length ≤ n → Ev (fun k => spec_EvsTill.l0 k l at_ out (n : Int)) (out ++ evsTill (l.drop n) at_) := by
  intro d
  induction d with
  | zero =>
    intro n out hn ho
    rw [List.drop_of_length_le (by omega)]
    exact Ev.last (fun k => by simp only [spec_EvsTill.l0]; rw [if_neg (by omega)]; simp [evsTill])
  | succ d ih =>
    intro n out hn ho
    have hr : rd_T26 l (n : Int) = l.getD n z26 := rfl
    rw [drop_at l z26 n (by omega)]
    refine Ev.step (fun k => by simp only [spec_EvsTill.l0]; rw [if_pos (by omega), if_pos (by omega), hr, w_succ (by omega)]) ?_
    generalize l.getD n z26 = x at *
    by_cases h : x.f1 ≤ at_
    · refine Ev.pos h (Ev.pos (by omega) ?_)
      have next := ih (n + 1) (out ++ [x]) (by omega) (by rw [List.length_append, List.length_singleton]; omega)
      refine Ev.val next ?_
      simp [evsTill, h]
    · refine Ev.neg h ?_
      have next := ih (n + 1) out (by omega) (by omega)
      refine Ev.val next ?_
      simp [evsTill, h]
theorem spec_EvsTill_ev (l : List S26) (at_ : Int) (hl : l.length ≤ 1099511627776) : Ev (fun k => spec_EvsTill.f k l at_) (evsTill l at_) := by
  unfold spec_EvsTill.f
  exact spec_EvsTill_l0_ev l at_ hl l.length 0 [] (by omega) (by simp)

theorem impl_EvsTill_l0_ev (l : List S26) (at_ : Int) (hl : l.length ≤ 1099511627776) : ∀ (d n : Nat) (out : List S26), n + d = l.length → out.length ≤ n → Ev (fun k => impl_EvsTill.l0 k at_ out l (l.length : Int) (n : Int)) (out ++ evsTill (l.drop n) at_) := by
  intro d
  induction d with
  | zero =>
    intro n out hn ho
    rw [List.drop_of_length_le (by omega)]
    exact Ev.last (fun k => by simp only [impl_EvsTill.l0]; rw [if_neg (by omega)]; simp [evsTill])
  | succ d ih =>
    intro n out hn ho
    have hr : rd_T26 l (n : Int) = l.getD n z26 := rfl
    rw [drop_at l z26 n (by omega)]
    refine Ev.step (fun k => by simp only [impl_EvsTill.l0]; rw [if_pos (by omega), if_pos (by omega), if_pos (by omega), hr, w_succ (by omega)]) ?_
    generalize l.getD n z26 = x at *
    by_cases h : x.f1 ≤ at_
    · refine Ev.pos h (Ev.pos (by omega) ?_)
      have next := ih (n + 1) (out ++ [x]) (by omega) (by rw [List.length_append, List.length_singleton]; omega)
      refine Ev.val next ?_
      simp [evsTill, h]
    · refine Ev.neg h ?_
      have next := ih (n + 1) out (by omega) (by omega)
      refine Ev.val next ?_
      simp [evsTill, h]
theorem impl_EvsTill_ev (l : List S26) (at_ : Int) (hl : l.length ≤ 1099511627776) : Ev (fun k => impl_EvsTill.f k l at_) (evsTill l at_) := by
  unfold impl_EvsTill.f
  exact impl_EvsTill_l0_ev l at_ hl l.length 0 [] (by omega) (by simp)

def evMarks : Nat → Int → List S26
  | 0, _ => []
  | n + 1, c => ⟨c, c + 1, c + 1 + 1⟩ :: evMarks n (c + 1 + 1 + 1)
theorem evMarks_len : ∀ (n : Nat) (c : Int), (evMarks n c).length = n
  | 0, _ => rfl
  | n + 1, c => by rw [evMarks, List.length_cons, evMarks_len n]
theorem rd_set_self (l : List S26) (n : Nat) (v : S26) (h : n < l.length) : rd_T26 (l.set n v) (n : Int) = v := by
  show (l.set n v).getD n _ = v
  rw [List.getD_eq_getElem?_getD, List.getElem?_set_self h]
  rfl

theorem markEvS_l0_ev : ∀ (d n : Nat) (l : List S26) (c : Int), n + d = l.length → l.length ≤ 1099511627776 → 0 ≤ c → c + 3 * d ≤ 1152921504606846976 → Ev (fun k => laws_markEvS.l0 k l c (n : Int)) (c + 3 * d, l.take n ++ evMarks d c) := by
  intro d
  induction d with
  | zero =>
    intro n l c hn hl h0 h1
    rw [List.take_of_length_le (by omega)]
    exact Ev.last (fun k => by simp only [laws_markEvS.l0]; rw [if_neg (by omega)]; simp [evMarks])
  | succ d ih =>
    intro n l c hn hl h0 h1
    have w1 : wrap64 (c + 1) = c + 1 := w_small (by omega) (by omega)
    have w2 : wrap64 (c + 1 + 1) = c + 1 + 1 := w_small (by omega) (by omega)
    have w3 : wrap64 (c + 1 + 1 + 1) = c + 1 + 1 + 1 := w_small (by omega) (by omega)
    have next := ih (n + 1) (l.set n ⟨c, c + 1, c + 1 + 1⟩) (c + 1 + 1 + 1) (by rw [List.length_set]; omega) (by rw [List.length_set]; omega) (by omega) (by omega)
    rw [take_set l n _ (by omega)] at next
    refine Ev.step (fun k => by
      simp only [laws_markEvS.l0]
      rw [if_pos (by omega), if_pos (by omega), Option.bind_some, Option.bind_some, w1, w2, w3, Int.toNat_natCast, rd_set_self _ n _ (by first | omega | (rw [List.length_set]; omega)), List.set_set, rd_set_self _ n _ (by first | omega | (rw [List.length_set]; omega)), List.set_set, w_succ (by omega)]) ?_
    refine Ev.val next ?_
    rw [evMarks, List.append_assoc]
    simp only [Prod.mk.injEq]
    exact ⟨by omega, rfl⟩
theorem markEvS_ev (l : List S26) (c : Int) (hl : l.length ≤ 1099511627776) (h0 : 0 ≤ c) (h1 : c ≤ 1099511627776) : Ev (fun k => laws_markEvS.f k l c) (c + 3 * l.length, evMarks l.length c) := by
  unfold laws_markEvS.f
  exact markEvS_l0_ev l.length 0 l c (by omega) hl h0 (by omega)

theorem heldEvS_l0_ev (m : List S26) (hm : m.length ≤ 1099511627776) : ∀ (d n : Nat) (c : Int), n + d = m.length → m.drop n = evMarks d c → 0 ≤ c → c + 3 * d ≤ 1152921504606846976 → Ev (fun k => laws_heldEvS.l0 k m c (n : Int)) (c + 3 * d) := by
  intro d
  induction d with
  | zero =>
    intro n c hn hd h0 h1
    exact Ev.last (fun k => by simp only [laws_heldEvS.l0]; rw [if_neg (by omega)]; simp)
  | succ d ih =>
    intro n c hn hd h0 h1
    have w1 : wrap64 (c + 1) = c + 1 := w_small (by omega) (by omega)
    have w2 : wrap64 (c + 1 + 1) = c + 1 + 1 := w_small (by omega) (by omega)
    have w3 : wrap64 (c + 1 + 1 + 1) = c + 1 + 1 + 1 := w_small (by omega) (by omega)
    have hr : rd_T26 m (n : Int) = m.getD n z26 := rfl
    rw [drop_at m z26 n (by omega), evMarks] at hd
    injection hd with hx hd
    have next := ih (n + 1) (c + 1 + 1 + 1) (by omega) hd (by omega) (by omega)
    refine Ev.step (fun k => by
      simp only [laws_heldEvS.l0]
      rw [if_pos (by omega), if_pos (by omega), hr, hx, w1, w2, w3, if_pos rfl, if_pos rfl, if_pos rfl, w_succ (by omega)]) ?_
    refine Ev.val next ?_
    omega
theorem heldEvS_ev (n : Nat) (c : Int) (hn : n ≤ 1099511627776) (h0 : 0 ≤ c) (h1 : c ≤ 1099511627776) : Ev (fun k => laws_heldEvS.f k (evMarks n c) c) (c + 3 * n) := by
  unfold laws_heldEvS.f
  exact heldEvS_l0_ev (evMarks n c) (by rw [evMarks_len]; exact hn) n 0 c (by rw [evMarks_len]; omega) rfl h0 (by omega)
end Go.Proofs.Ytiebpoikhijbgaa.M
namespace Go.Proofs.Ytiebpoikhijbgaa.M
open Go.RowKit Go.Proofs.YtiebpoikhijbgaaW.PrintWords Go.Proofs.YtiebpoikhijbgaaW.PrintLast

theorem ofInt_small (a : Nat) (ha : a < 9223372036854775808) : (BitVec.ofInt 64 (a : Int)).toNat = a := by
  rw [BitVec.ofInt_natCast, BitVec.toNat_ofNat]; exact Nat.mod_eq_of_lt (by omega)
theorem xor_small (a b : Nat) (ha : a < 9223372036854775808) (hb : b < 9223372036854775808) : bits .xor .i64 (a : Int) (b : Int) = ((a ^^^ b : Nat) : Int) := by
  have hx : a ^^^ b < 2 ^ 63 := Nat.xor_lt_two_pow (by omega) (by omega)
  show IntKind.i64.wrap ((BitVec.ofInt 64 (a : Int) ^^^ BitVec.ofInt 64 (b : Int)).toNat : Int) = _
  rw [BitVec.toNat_xor, ofInt_small a ha, ofInt_small b hb, IntKind.wrap_i64]
  omega
theorem mix_small (x : Int) (h0 : 0 ≤ x) (h1 : x ≤ 1099511627776) : 0 ≤ bits .xor .i64 x (wrap64 (Int.tdiv x 64)) := by
  obtain ⟨n, rfl⟩ := Int.eq_ofNat_of_zero_le h0
  have : Int.tdiv (n : Int) 64 = ((n / 64 : Nat) : Int) := rfl
  rw [this, w_small (by omega) (by omega), xor_small n (n / 64) (by omega) (by omega)]
  exact Int.natCast_nonneg _

def Bytes (bs : List Int) : Prop := bs.length ≤ 2000 ∧ ∀ x ∈ bs, 0 ≤ x ∧ x ≤ 255
theorem bytes_of {l : List Int} (h : ∀ x ∈ l, (Lit.int .u8 x).wf = true) : ∀ x ∈ l, 0 ≤ x ∧ x ≤ 255 := by
  intro x hx
  have := h x hx
  simp only [Lit.wf, Bool.and_eq_true, decide_eq_true_eq] at this
  exact this
theorem Bytes.rdLe {bs : List Int} (h : Bytes bs) (i : Int) : 0 ≤ rd bs i ∧ rd bs i ≤ 255 := by
  unfold rd
  rw [List.getD_eq_getElem?_getD]
  rcases Nat.lt_or_ge i.toNat bs.length with hi | hi
  · rw [List.getElem?_eq_getElem hi]
    exact h.2 _ (List.getElem_mem hi)
  · rw [List.getElem?_eq_none hi]
    simp

theorem l14Open_is (l : List Int) (hl : l.length ≤ 9223372036854775807) : spec_l14Open.f l = some (l.take 2000, 0) := by
  unfold spec_l14Open.f
  by_cases h : (l.length : Int) > 2000
  · rw [if_pos h, if_pos (by omega)]
  · rw [if_neg h, List.take_of_length_le (by omega)]
theorem open_bytes {l : List Int} (h : ∀ x ∈ l, (Lit.int .u8 x).wf = true) : Bytes (l.take 2000) :=
  ⟨by rw [List.length_take]; omega, fun x hx => bytes_of h x (List.mem_of_mem_take hx)⟩

theorem tmod_lt (a n : Int) (h0 : 0 ≤ a) (h1 : 1 ≤ n) : 0 ≤ Int.tmod a n ∧ Int.tmod a n < n := by
  rw [Int.tmod_eq_emod_of_nonneg h0]
  exact ⟨Int.emod_nonneg _ (by omega), Int.emod_lt_of_pos _ (by omega)⟩

theorem pick_ev (bs : List Int) (hb : Bytes bs) (p n : Int) (h0 : 0 ≤ p) (h1 : p ≤ 1000000) : ∃ r, Ev (fun k => spec_l14Rd_pick.f k bs p n) (r, p + 1) ∧ 0 ≤ r ∧ (r < n ∨ n < 1 ∧ r = 0) := by
  have w1 : wrap64 (p + 1) = p + 1 := w_small (by omega) (by omega)
  by_cases hn : n < 1
  · refine ⟨0, ?_, by omega, .inr ⟨hn, rfl⟩⟩
    unfold spec_l14Rd_pick.f
    refine Ev.pos hn (Ev.last (fun k => ?_))
    simp only [spec_l14Rd_pick.j0]
    rw [if_pos trivial, w1]
  · by_cases he : (bs.length : Int) = 0
    · refine ⟨0, ?_, by omega, .inl (by omega)⟩
      unfold spec_l14Rd_pick.f
      refine Ev.neg hn (Ev.last (fun k => ?_))
      simp only [spec_l14Rd_pick.j0]
      rw [beq_iff_eq.2 he, if_pos rfl, w1]
    · have w2 : wrap64 (p + 1 - 1) = p := by rw [show p + 1 - 1 = p by omega]; exact w_small (by omega) (by omega)
      have hne : ((bs.length : Int) == 0) = false := beq_eq_false_iff_ne.2 he
      have hlen := hb.1
      by_cases hk : p < (bs.length : Int)
      · have hr := hb.rdLe p
        have hm := tmod_lt (rd bs p) n hr.1 (by omega)
        refine ⟨Int.tmod (rd bs p) n, ?_, hm.1, .inl hm.2⟩
        unfold spec_l14Rd_pick.f
        refine Ev.neg hn (Ev.last (fun k => ?_))
        simp only [spec_l14Rd_pick.j0]
        rw [hne, if_neg (by decide), w1, w2, if_pos hk, if_pos h0, if_neg (by omega), w_small (by omega) (by omega)]
      · have t1 := tmod_lt p (bs.length : Int) h0 (by omega)
        have w3 : wrap64 (p * 7) = p * 7 := w_small (by omega) (by omega)
        have w4 : wrap64 (p * 7 + 3) = p * 7 + 3 := w_small (by omega) (by omega)
        have t2 := tmod_lt (p * 7 + 3) (bs.length : Int) (by omega) (by omega)
        have r1 := hb.rdLe (Int.tmod p (bs.length : Int))
        have r2 := hb.rdLe (Int.tmod (p * 7 + 3) (bs.length : Int))
        have hd : 0 ≤ Int.tdiv p (bs.length : Int) ∧ Int.tdiv p (bs.length : Int) ≤ p := by
          rw [Int.tdiv_eq_ediv_of_nonneg h0]
          exact ⟨Int.ediv_nonneg h0 (by omega), Int.ediv_le_self _ h0⟩
        have w5 : wrap64 (Int.tdiv p (bs.length : Int)) = Int.tdiv p (bs.length : Int) := w_small (by omega) (by omega)
        generalize hq : Int.tdiv p (bs.length : Int) = q at *
        generalize ha : rd bs (Int.tmod p (bs.length : Int)) = a at *
        generalize hb' : rd bs (Int.tmod (p * 7 + 3) (bs.length : Int)) = b at *
        have x1 : wrap64 a = a := w_small (by omega) (by omega)
        have x2 : wrap64 b = b := w_small (by omega) (by omega)
        have x3 : wrap64 (a * 131) = a * 131 := w_small (by omega) (by omega)
        have x4 : wrap64 (b * 1117) = b * 1117 := w_small (by omega) (by omega)
        have x5 : wrap64 (a * 131 + b * 1117) = a * 131 + b * 1117 := w_small (by omega) (by omega)
        have x6 : wrap64 (p * 29) = p * 29 := w_small (by omega) (by omega)
        have x7 : wrap64 (a * 131 + b * 1117 + p * 29) = a * 131 + b * 1117 + p * 29 := w_small (by omega) (by omega)
        have x8 : wrap64 (q * 53) = q * 53 := w_small (by omega) (by omega)
        have x9 : wrap64 (a * 131 + b * 1117 + p * 29 + q * 53) = a * 131 + b * 1117 + p * 29 + q * 53 := w_small (by omega) (by omega)
        have hx := mix_small (a * 131 + b * 1117 + p * 29 + q * 53) (by omega) (by omega)
        generalize hX : bits .xor .i64 (a * 131 + b * 1117 + p * 29 + q * 53) (wrap64 (Int.tdiv (a * 131 + b * 1117 + p * 29 + q * 53) 64)) = X at *
        have hm := tmod_lt X n hx (by omega)
        refine ⟨Int.tmod X n, ?_, hm.1, .inl hm.2⟩
        unfold spec_l14Rd_pick.f
        refine Ev.neg hn (Ev.last (fun k => ?_))
        simp only [spec_l14Rd_pick.j0]
        rw [hne, if_neg (by decide), w1, w2, if_neg hk, if_neg he, if_pos t1.1, if_pos t1.2, w3, w4, if_pos t2.1, if_pos t2.2, if_neg (by omega), hq, ha, hb', w5, x1, x2, x3, x4, x5, x6, x7, x8, x9, hX]

theorem num_ev (bs : List Int) (hb : Bytes bs) (p : Int) (l : List Int) (hl : l ≠ []) (hm : l.length ≤ 1000000) (h0 : 0 ≤ p) (h1 : p ≤ 1000000) : ∃ r, Ev (fun k => spec_l14Rd_num.f k bs p l) (r, p + 1) ∧ r ∈ l := by
  obtain ⟨r, hr, h2, h3⟩ := pick_ev bs hb p (l.length : Int) h0 h1
  have hpos : 0 < l.length := List.length_pos_iff.2 hl
  have hlt : r < (l.length : Int) := by omega
  refine ⟨rd l r, ?_, ?_⟩
  · unfold spec_l14Rd_num.f
    exact Ev.bind hr (Ev.pos h2 (Ev.pos hlt (Ev.now _)))
  · unfold rd
    rw [List.getD_eq_getElem?_getD, List.getElem?_eq_getElem (show r.toNat < l.length by omega)]
    exact List.getElem_mem _
end Go.Proofs.Ytiebpoikhijbgaa.M
namespace Go.Proofs.Ytiebpoikhijbgaa.M
open Go.RowKit Go.Proofs.YtiebpoikhijbgaaW.PrintWords Go.Proofs.YtiebpoikhijbgaaW.PrintLast

theorem l1Evs_l0_ev (bs : List Int) (hb : Bytes bs) : ∀ (d : Nat) (out : List S26) (at_ i p : Int), i = d → out.length + d ≤ 1000 → 0 ≤ p → p + 3 * d ≤ 100000 →
    ∃ o p', Ev (fun k => spec_l1Evs.l0 k out at_ i bs p) (o, p') ∧ o.length = out.length + d ∧ 0 ≤ p' ∧ p' ≤ p + 3 * d := by
  intro d
  induction d with
  | zero =>
    intro out at_ i p hi ho h0 h1
    refine ⟨out, p, Ev.last (fun k => ?_), by omega, by omega, by omega⟩
    simp only [spec_l1Evs.l0]
    rw [if_neg (by omega)]
  | succ d ih =>
    intro out at_ i p hi ho h0 h1
    obtain ⟨a, ha, _⟩ := num_ev bs hb p [1, 1, 1, 2, 3, 7] (by simp) (by simp) (by omega) (by omega)
    obtain ⟨s, hs, _⟩ := num_ev bs hb (p + 1) [0, 0, 1, 1, 2, 2, 3, 4] (by simp) (by simp) (by omega) (by omega)
    obtain ⟨v, hv, _⟩ := num_ev bs hb (p + 1 + 1) [0, 0, 1, 5, 100] (by simp) (by simp) (by omega) (by omega)
    have w1 : wrap64 (i - 1) = i - 1 := w_small (by omega) (by omega)
    obtain ⟨o, p', h2, h3, h4, h5⟩ := ih (out ++ [⟨s, wrap64 (at_ + a), v⟩]) (wrap64 (at_ + a)) (i - 1) (p + 1 + 1 + 1) (by omega) (by rw [List.length_append, List.length_singleton]; omega) (by omega) (by omega)
    refine ⟨o, p', ?_, by rw [h3, List.length_append, List.length_singleton]; omega, h4, by omega⟩
    refine Ev.step (fun k => by simp only [spec_l1Evs.l0]; rw [if_pos (by omega), w1]) ?_
    exact Ev.bind ha (Ev.bind hs (Ev.bind hv (Ev.pos (by omega) h2)))

theorem l1Evs_ev (bs : List Int) (hb : Bytes bs) (p most : Int) (h0 : 0 ≤ p) (h1 : p ≤ 10000) (hm : 0 ≤ most) (hm2 : most ≤ 100) :
    ∃ o p', Ev (fun k => spec_l1Evs.f k bs p most) (o, p') ∧ (o.length : Int) ≤ most ∧ 0 ≤ p' ∧ p' ≤ p + 1 + 3 * most := by
  have w1 : wrap64 (most + 1) = most + 1 := w_small (by omega) (by omega)
  obtain ⟨r, hr, h2, h3⟩ := pick_ev bs hb p (most + 1) h0 (by omega)
  obtain ⟨o, p', h4, h5, h6, h7⟩ := l1Evs_l0_ev bs hb r.toNat [] 0 r (p + 1) (by omega) (by simp; omega) (by omega) (by omega)
  refine ⟨o, p', ?_, by rw [h5]; simp; omega, h6, by omega⟩
  unfold spec_l1Evs.f
  rw [w1]
  exact Ev.bind hr h4

theorem l1Bent_l0_ev : ∀ (d : Nat) (out : List S26) (bs : List Int) (p : Int), 0 < out.length → out.length + d = 25 →
    ∃ o, Ev (fun k => spec_l1Bent.l0 k out bs p) (o, p) ∧ o.length = 25 := by
  intro d
  induction d with
  | zero =>
    intro out bs p h0 h1
    refine ⟨out, Ev.last (fun k => ?_), by omega⟩
    simp only [spec_l1Bent.l0]
    rw [if_neg (by omega)]
  | succ d ih =>
    intro out bs p h0 h1
    have w1 : wrap64 ((out.length : Int) - 1) = (out.length : Int) - 1 := w_small (by omega) (by omega)
    obtain ⟨o, h2, h3⟩ := ih (out ++ [⟨0, wrap64 ((rd_T26 out ((out.length : Int) - 1)).f1 + 1), 0⟩]) bs p (by simp) (by rw [List.length_append, List.length_singleton]; omega)
    refine ⟨o, ?_, h3⟩
    refine Ev.step (fun k => by simp only [spec_l1Bent.l0]; rw [if_pos (by omega), w1, if_pos (by omega), if_pos (by omega), if_pos (by omega)]) ?_
    exact h2

theorem l1Bent_ev (bs : List Int) (hb : Bytes bs) (p : Int) (h0 : 0 ≤ p) (h1 : p ≤ 5000) : ∃ o p', Ev (fun k => spec_l1Bent.f k bs p) (o, p') ∧ o.length ≤ 25 ∧ 0 ≤ p' ∧ p' ≤ p + 60 := by
  unfold spec_l1Bent.f
  obtain ⟨o, p1, he, hl, h2, h3⟩ := l1Evs_ev bs hb p 12 h0 (by omega) (by omega) (by omega)
  by_cases hz : (o.length : Int) = 0
  · exact ⟨o, p1, Ev.bind he (Ev.pos hz (Ev.now _)), by omega, h2, by omega⟩
  · obtain ⟨r, hr, r1, r2⟩ := pick_ev bs hb p1 (o.length : Int) h2 (by omega)
    have hrl : r < (o.length : Int) := by omega
    obtain ⟨c, hc, c1, c2⟩ := pick_ev bs hb (p1 + 1) 40 (by omega) (by omega)
    by_cases c0 : c = 0
    · obtain ⟨v, hv, _⟩ := num_ev bs hb (p1 + 1 + 1) [-1, 5] (by simp) (by simp) (by omega) (by omega)
      exact ⟨_, _, Ev.bind he (Ev.neg hz (Ev.bind hr (Ev.bind hc (Ev.pos c0 (Ev.bind hv (Ev.pos r1 (Ev.pos hrl (Ev.now _)))))))), by rw [List.length_set]; dsimp only; omega, by omega, by omega⟩
    · by_cases c10 : c = 1
      · obtain ⟨v, hv, _⟩ := num_ev bs hb (p1 + 1 + 1) [0, 1001, (rd_T26 o 0).f1] (by simp) (by simp) (by omega) (by omega)
        exact ⟨_, _, Ev.bind he (Ev.neg hz (Ev.bind hr (Ev.bind hc (Ev.neg c0 (Ev.pos c10 (Ev.pos (by dsimp only; omega) (Ev.bind hv (Ev.pos r1 (Ev.pos hrl (Ev.now _)))))))))), by rw [List.length_set]; dsimp only; omega, by omega, by omega⟩
      · by_cases c20 : c = 2
        · obtain ⟨v, hv, _⟩ := num_ev bs hb (p1 + 1 + 1) [-1, 101] (by simp) (by simp) (by omega) (by omega)
          exact ⟨_, _, Ev.bind he (Ev.neg hz (Ev.bind hr (Ev.bind hc (Ev.neg c0 (Ev.neg c10 (Ev.pos c20 (Ev.bind hv (Ev.pos r1 (Ev.pos hrl (Ev.now _)))))))))), by rw [List.length_set]; dsimp only; omega, by omega, by omega⟩
        · by_cases c30 : c = 3
          · obtain ⟨o2, h4, h5⟩ := l1Bent_l0_ev (25 - o.length) o bs (p1 + 1 + 1) (by omega) (by omega)
            exact ⟨o2, _, Ev.bind he (Ev.neg hz (Ev.bind hr (Ev.bind hc (Ev.neg c0 (Ev.neg c10 (Ev.neg c20 (Ev.pos c30 h4))))))), by omega, by omega, by omega⟩
          · exact ⟨o, _, Ev.bind he (Ev.neg hz (Ev.bind hr (Ev.bind hc (Ev.neg c0 (Ev.neg c10 (Ev.neg c20 (Ev.neg c30 (Ev.now _)))))))), by omega, by omega, by omega⟩

theorem openBent_ev (l : List Int) (h : ∀ x ∈ l, (Lit.int .u8 x).wf = true) : ∃ o p', Ev (fun k => spec_l1Bent.f k (l.take 2000) 0) (o, p') ∧ o.length ≤ 25 ∧ 0 ≤ p' ∧ p' ≤ 60 := by
  obtain ⟨o, p', h1, h2, h3, h4⟩ := l1Bent_ev (l.take 2000) (open_bytes h) 0 (by omega) (by omega)
  exact ⟨o, p', h1, h2, h3, by omega⟩
end Go.Proofs.Ytiebpoikhijbgaa.M
namespace Go.Proofs.Ytiebpoikhijbgaa.M
open Go.RowKit Go.Proofs.YtiebpoikhijbgaaW.PrintWords Go.Proofs.YtiebpoikhijbgaaW.PrintLast

theorem drawEvsTill_ev (l : List Int) (hl : l.length ≤ 9223372036854775807) (h : ∀ x ∈ l, (Lit.int .u8 x).wf = true) : ∃ o a, Ev (fun k => spec_DrawEvsTill.f k l) (o, a) ∧ o.length ≤ 25 := by
  unfold spec_DrawEvsTill.f
  obtain ⟨o, p', h1, h2, h3, h4⟩ := openBent_ev l h
  obtain ⟨v, hv, _⟩ := num_ev (l.take 2000) (open_bytes h) p' [0, 1, 3, 6, 10, 2000, -1] (by simp) (by simp) h3 (by omega)
  exact ⟨o, v, Ev.bind (Ev.one (fun _ => l14Open_is l hl)) (Ev.bind h1 (Ev.bindS hv rfl)), h2⟩

theorem evsGo_low : ∀ (l : List S26) (p : Int), evsGo p l = true → ∀ x ∈ l, p < x.f1
  | [], _, _, _, h => by simp at h
  | y :: ys, p, h, x, hx => by
    unfold evsGo at h
    simp only [Bool.and_eq_true, decide_eq_true_eq] at h
    rcases List.mem_cons.1 hx with rfl | hx
    · exact h.1.2
    · have := evsGo_low ys y.f1 h.2 x hx
      omega
theorem evsGo_high : ∀ (l : List S26) (p : Int), evsGo p l = true → ∀ x ∈ l, 1 ≤ x.f1 ∧ x.f1 ≤ 1000
  | [], _, _, _, h => by simp at h
  | y :: ys, p, h, x, hx => by
    unfold evsGo at h
    simp only [Bool.and_eq_true, decide_eq_true_eq] at h
    rcases List.mem_cons.1 hx with rfl | hx
    · have := h.1.1
      unfold evOkB at this
      simp only [Bool.and_eq_true, decide_eq_true_eq] at this
      omega
    · exact evsGo_high ys y.f1 h.2 x hx
theorem evsTill_low (l : List S26) (a : Int) (h : ∀ x ∈ l, a < x.f1) : evsTill l a = [] := by
  unfold evsTill
  rw [List.filter_eq_nil_iff]
  intro x hx
  have := h x hx
  simp
  omega
theorem evsTill_pre : ∀ (l : List S26) (p a : Int), evsGo p l = true → evsTill l a = l.take (evsTill l a).length
  | [], _, _, _ => by simp [evsTill]
  | y :: ys, p, a, h => by
    have h0 := h
    unfold evsGo at h
    simp only [Bool.and_eq_true, decide_eq_true_eq] at h
    by_cases hy : y.f1 ≤ a
    · have e : evsTill (y :: ys) a = y :: evsTill ys a := by simp [evsTill, hy]
      have ih := evsTill_pre ys y.f1 a h.2
      rw [e, List.length_cons, List.take_succ_cons, ← ih]
    · rw [evsTill_low (y :: ys) a]
      · simp
      · intro x hx
        rcases List.mem_cons.1 hx with rfl | hx
        · omega
        · have := evsGo_low ys y.f1 h.2 x hx
          omega
theorem evsGo_till : ∀ (l : List S26) (p a : Int), evsGo p l = true → evsGo p (evsTill l a) = true
  | [], _, _, _ => rfl
  | y :: ys, p, a, h => by
    have h0 := h
    unfold evsGo at h
    simp only [Bool.and_eq_true, decide_eq_true_eq] at h
    by_cases hy : y.f1 ≤ a
    · have e : evsTill (y :: ys) a = y :: evsTill ys a := by simp [evsTill, hy]
      rw [e]
      unfold evsGo
      rw [h.1.1, decide_eq_true h.1.2, evsGo_till ys y.f1 a h.2]
      rfl
    · rw [evsTill_low (y :: ys) a]
      · rfl
      · intro x hx
        rcases List.mem_cons.1 hx with rfl | hx
        · omega
        · have := evsGo_low ys y.f1 h.2 x hx
          omega
theorem evsTill_all (l : List S26) (p : Int) (h : evsGo p l = true) : evsTill l 1000 = l := by
  unfold evsTill
  rw [List.filter_eq_self]
  intro x hx
  have := evsGo_high l p h x hx
  simp
  omega
theorem evsTill_none (l : List S26) (p : Int) (h : evsGo p l = true) : evsTill l 0 = [] := by
  refine evsTill_low l 0 ?_
  intro x hx
  have := evsGo_high l p h x hx
  omega

theorem FnEvTill_pure (l : List Int) (h : l.length ≤ maxLen ∧ ∀ y ∈ l, (Lit.int .u8 y).wf = true) (_ : l.length * 1 ≤ 140737488351232) (m : List Int) (_ : m.length ≤ maxLen ∧ ∀ y ∈ m, (Lit.int .u8 y).wf = true) (_ : m.length * 1 ≤ 140737488351232) : ∃ k, laws_FnEvTill.f k l m = some true := by
  have hl : l.length ≤ 9223372036854775807 := by have := h.1; unfold maxLen at this; omega
  refine Ev.rounds (g := fun k => laws_FnEvTill.f k l m) ?_
  obtain ⟨o, a, hd, ho⟩ := drawEvsTill_ev l hl h.2
  have big : ∀ b, (b = true) → Ev (fun k => laws_FnEvTill.j0 k l m b) true := by
    intro b hb
    refine Ev.last (fun k => ?_)
    simp only [laws_FnEvTill.j0]
    rw [if_pos hb]
  unfold laws_FnEvTill.f
  by_cases h1 : (l.length : Int) > 1048576
  · exact Ev.pos h1 (big true rfl)
  · refine Ev.neg h1 ?_
    by_cases h2 : (m.length : Int) > 1048576
    · exact big _ (decide_eq_true h2)
    · rw [decide_eq_false h2]
      refine Ev.step (fun k => by simp only [laws_FnEvTill.j0]; rfl) ?_
      refine Ev.neg (by decide) ?_
      have l1 := evsTill_len o a
      have l2 := evsTill_len o (1 + (m.length : Int) % 30)
      refine Ev.bind hd (Ev.bind (impl_EvsTill_ev o a (by omega)) (Ev.bind (spec_EvsTill_ev o a (by omega)) (Ev.bind (impl_EvsSame_ev _ _ (by omega)) ?_)))
      rw [evsEq_self]
      refine Ev.pos rfl (Ev.bind (impl_EvsTill_ev o _ (by omega)) (Ev.bind (spec_EvsOk_ev o (by omega)) ?_))
      by_cases hok : evsOkB o = true
      · refine Ev.pos hok ?_
        unfold evsOkB at hok
        simp only [Bool.and_eq_true, decide_eq_true_eq] at hok
        have p1 := evsTill_pre o 0 a hok.1
        have p2 := evsTill_pre o 0 (1 + (m.length : Int) % 30) hok.1
        have fin : ∀ n : Nat, n ≤ (evsTill o a).length → n ≤ (evsTill o (1 + (m.length : Int) % 30)).length → Ev (fun k => laws_FnEvTill.j1 k o (evsTill o a) (evsTill o (1 + (m.length : Int) % 30)) (n : Int)) true := by
          intro n n1 n2
          refine Ev.step (fun k => by simp only [laws_FnEvTill.j1]; rw [if_pos (by omega), if_pos (by omega), if_pos (by omega), Int.toNat_natCast]) ?_
          have e : (evsTill o a).take n = (evsTill o (1 + (m.length : Int) % 30)).take n := by
            rw [p1, p2, List.take_take, List.take_take]
            congr 1
            omega
          rw [e]
          refine Ev.bind (impl_EvsSame_ev _ _ (by rw [List.length_take]; omega)) ?_
          rw [evsEq_self]
          refine Ev.pos rfl (Ev.bind (impl_EvsTill_ev o 0 (by omega)) ?_)
          rw [evsTill_none o 0 hok.1]
          refine Ev.pos rfl (Ev.bind (impl_EvsTill_ev o 1000 (by omega)) ?_)
          rw [evsTill_all o 0 hok.1]
          refine Ev.bind (impl_EvsSame_ev _ _ (by omega)) ?_
          rw [evsEq_self]
          refine Ev.pos rfl (Ev.bindS (impl_EvsOk_ev _ (by omega)) ?_)
          unfold evsOkB
          rw [evsGo_till o 0 a hok.1, decide_eq_true (by omega)]
          rfl
        by_cases hc : ((evsTill o (1 + (m.length : Int) % 30)).length : Int) < ((evsTill o a).length : Int)
        · exact Ev.pos hc (fin _ (by omega) (Nat.le_refl _))
        · exact Ev.neg hc (fin _ (Nat.le_refl _) (by omega))
      · refine Ev.neg hok (Ev.one (fun _ => ?_))
        rw [decide_eq_true (by dsimp only; omega)]
end Go.Proofs.Ytiebpoikhijbgaa.M
namespace Go.Proofs.Ytiebpoikhijbgaa.fnEvTill
open Go.ChangeShapes Go.WideShapes Go.ChangeAt Go.RowKit Go.Proofs.YtiebpoikhijbgaaW.PrintWords Go.Proofs.Ytiebpoikhijbgaa.Opening Go.Proofs.Ytiebpoikhijbgaa.M
open Go.ChangeMaps (open_string shut_string)
theorem own : ownKnob Try.prog.godebug = none := by kernel_rfl
theorem laidOut : laidOutB Try.prog = true := by kernel_rfl
set_option maxRecDepth 100000 in
theorem lifted (os : Os) (started : os.Started) (H : Type) (enc : TypeId × Value → H) :
    ReturnsInHanded {} Try.checked os 9 .any (Rows.fnEvTillSpec.pre6 enc Try.prog Try.f9 Rows.fnEvTillRow.domain false) (Rows.fnEvTillSpec.post enc Try.prog Try.f9 false true false false) := by
  refine returnsInHanded_of_change_sized (C := Try.checked) own started (by kernel_rfl) Try.func9
    (ChangeSpec.witness6 (enc := enc) (C := Try.checked) false ⟨#[], #[.slice none 0 0, .slice none 0 0], []⟩ 8 (by kernel_rfl) (by kernel_rfl) (by kernel_rfl) (by kernel_rfl)) ?_
  intro W base args ds gs before hval0 hW hcnd hsz0 _
  have hsz : (DataW.weightsEach Try.prog (Try.f9.params.toList ++ Rows.fnEvTillSpec.plain.varTypes Try.prog) (ds ++ gs)).all (· ≤ reachBytes) = true := hsz0
  have hval : ∀ (j : Nat) t v, Try.f9.params[j]? = some t → args[j]? = some v → Value.okWide Try.prog W .any base t v := hval0
  have hW' := hW
  obtain ⟨p, q, hA0, hV, rfl, hfz, hnd⟩ := hW
  have hA : DataW.TrodAll enc Try.prog W 0 (fun _ => true) true Try.f9.params.toList args.toList ds p := hA0
  rw [Try.params9] at hA hval hsz
  obtain ⟨v0, vs0, d0, ds0, p0, q0, hargs, rfl, rfl, h0, r0⟩ := trodAll_cons hA
  obtain ⟨v1, vs1, d1, ds1, p1, q1, rfl, rfl, rfl, h1, r1⟩ := trodAll_cons r0
  obtain ⟨rfl, rfl, rfl⟩ := trodAll_nil r1
  obtain rfl : args = #[v0, v1] := by cases args; simp_all
  obtain ⟨rfl, rfl⟩ := trodVars_none hV
  have k0 := h0
  have lt0 : ∀ x ∈ p0, x.block < W.heap.size := by obtain ⟨m, hm⟩ := k0; exact DataW.trod_lt m _ _ _ hm
  obtain ⟨a0, len0, cap0, rfl⟩ := okWide_slice Try.underlying40 (hval 0 40 v0 rfl rfl)
  have y0 : len0 * 1 ≤ 140737488351232 := sized_ints hsz (j := 0) (t := 40) rfl rfl Try.underlying40 Try.underlying5 (by kernel_rfl) (by kernel_rfl) h0
  obtain ⟨l0, rfl, hc0, hr0, g0⟩ := arg_slice Try.underlying40 (by kernel_rfl) (fun n => opens_int Try.underlying5 (by kernel_rfl) n) h0
  have k1 := h1
  have lt1 : ∀ x ∈ p1, x.block < W.heap.size := by obtain ⟨m, hm⟩ := k1; exact DataW.trod_lt m _ _ _ hm
  obtain ⟨a1, len1, cap1, rfl⟩ := okWide_slice Try.underlying40 (hval 1 40 v1 rfl rfl)
  have y1 : len1 * 1 ≤ 140737488351232 := sized_ints hsz (j := 1) (t := 40) rfl rfl Try.underlying40 Try.underlying5 (by kernel_rfl) (by kernel_rfl) h1
  obtain ⟨l1, rfl, hc1, hr1, g1⟩ := arg_slice Try.underlying40 (by kernel_rfl) (fun n => opens_int Try.underlying5 (by kernel_rfl) n) h1
  clear hA0 hval0 hsz0 hsz
  obtain ⟨k, hk⟩ := FnEvTill_pure l0 g0 y0 l1 g1 y1
  refine (laws_FnEvTill.calls k _ _ l0 _ _ l1 true W hr0 hc0 hr1 hc1 hk).mono fun e W' ⟨he, bel0⟩ => ?_
  have bel : Below W.heap.size W W' := bel0
  subst he
  exact ⟨_, rfl, _, _, _, [], _, [], hW', trodAll_mk1 (shut_bool Try.underlying4 _), (trodAll_cons_mk (Below.trod laidOut (by kernel_rfl) (of_decide_eq_true (by kernel_rfl)) k0 bel lt0) (trodAll_cons_mk (Below.trod laidOut (by kernel_rfl) (of_decide_eq_true (by kernel_rfl)) k1 bel lt1) trodAll_mk0)), rfl, bel.frame _, fun h => by cases h⟩
theorem over : Rows.fnEvTillRow.holds Try.pinned (OpenSpec.ofChange Rows.fnEvTillSpec) :=
  OpenClaim.holds_of_wide 9 Try.f9 rfl rfl rfl rfl rfl rfl rfl ⟨rfl, rfl, rfl, rfl, rfl⟩ rfl rfl rfl rfl rfl (by kernel_rfl) Try.func9 (by kernel_rfl)
    (of_decide_eq_true (by kernel_rfl)) (by unfold Func.isWrapper; first | (rw [if_pos (by decide +kernel)]; kernel_rfl) | (rw [if_neg (by decide +kernel)]; exact ⟨rfl, rfl⟩))
    (fun os started H enc _ => lifted os started H enc)
theorem proved : Rows.FnEvTillSaid := over
end Go.Proofs.Ytiebpoikhijbgaa.fnEvTill
namespace Go.Proofs.Ytiebpoikhijbgaa
theorem fnEvTill_holds : Rows.FnEvTillSaid := fnEvTill.proved
end Go.Proofs.Ytiebpoikhijbgaa
