/- What the claim's law leans on: the program's functions, what they compute, and the law over plain values; no condition is asked. (Part 4 of 5.) -/
import Derived.Test.YtdljhokealbnnaaCLawsFnExactGraphOf3
namespace Go.Proofs.Ytdljhokealbnnaa.M
open Go.RowKit Go.Proofs.YtdljhokealbnnaaW.PrintWords Go.Proofs.YtdljhokealbnnaaW.PrintLast Go.Proofs.YtdljhokealbnnaaW.PrintMore
attribute [local go_sem] max2_int min2_int max_two min_two max_three min_three max_four min_four
set_option linter.unusedVariables false
set_option linter.unusedSimpArgs false

def laws_heldNodeS.l0 : Nat → List (S104) → Int → Int → Option (Int)
 | 0, _, _, _ => none
 | k + 1, x0, x1, x5 => if x5 < (x0.length : Int) then (if 0 ≤ x5 then (if ((rd_T104 x0 x5).f0) = x1 then (if ((rd_T104 x0 x5).f1) = (wrap64 (x1 + 1)) then (if ((rd_T104 x0 x5).f2) = (wrap64 ((wrap64 (x1 + 1)) + 1)) then ((laws_heldIntS.f k ((rd_T104 x0 x5).f3) (wrap64 ((wrap64 ((wrap64 (x1 + 1)) + 1)) + 1))).bind fun t105 => (if t105 < 0 then (some (-1)) else ((laws_heldOccS.f k ((rd_T104 x0 x5).f4.f0) t105).bind fun t107 => (if t107 < 0 then (some (-1)) else ((laws_heldOccS.f k ((rd_T104 x0 x5).f4.f1) t107).bind fun t109 => (if t109 < 0 then (some (-1)) else ((laws_heldOccS.f k ((rd_T104 x0 x5).f5.f0) t109).bind fun t111 => (if t111 < 0 then (some (-1)) else ((laws_heldOccS.f k ((rd_T104 x0 x5).f5.f1) t111).bind fun t113 => (if t113 < 0 then (some (-1)) else ((laws_heldOccS.f k ((rd_T104 x0 x5).f6) t113).bind fun t115 => (if t115 < 0 then (some (-1)) else (if ((rd_T104 x0 x5).f7) = t115 then (laws_heldNodeS.l0 k x0 (wrap64 (t115 + 1)) (wrap64 (x5 + 1))) else (some (-1))))))))))))))) else (some (-1))) else (some (-1))) else (some (-1))) else (none)) else (some x1)
def laws_heldNodeS.f (k : Nat) (l0 : List (S104)) (a1 : Int) : Option (Int) := laws_heldNodeS.l0 k l0 a1 0
set_option maxHeartbeats 8000000 in
set_option maxRecDepth 100000 in
theorem laws_heldNodeS.calls (k : Nat) (A0 : Option Addr) (c0 : Nat) (l0 : List (S104)) (a1 : Int) (r : Int) (w : World) (hr0 : Kd.C k104 w A0 l0.length l0) (hc0 : l0.length ≤ c0) (h : laws_heldNodeS.f k l0 a1 = some r) :
  Calls Try.prog 75 #[.slice A0 l0.length c0, .int .i64 a1] w fun e w' => e = .returned (.int .i64 r) ∧ Drawn0 w w' := by
 have HR0 := m0_ hr0
 have HC0 := m0_ hc0
 clear hr0 hc0
 have H : (laws_heldNodeS.l0 k l0 a1 0) = some r := h
 clear h
 have H' := m0_ H
 clear H
 go_enter Try.func75, Try.ntmps75
 go_wp2
 go_loopg [1, 5] k (fun kq v1 v5 w' => ∃ (x1_1 : Int) (x5_1 : Int), v1 = .int .i64 x1_1 ∧ v5 = .int .i64 x5_1 ∧ Aside0 (laws_heldNodeS.l0 kq l0 x1_1 x5_1 = some r) ∧ Aside0 (kq ≤ k) ∧ Drawn0 w w')
 case atStart => exact ⟨(a1), (0), (by first | rfl | (simp;done) | (simp [*];done)), (by first | rfl | (simp;done) | (simp [*];done)), H', ⟨Nat.le_refl _⟩, by repeat (first | exact Drawn0.refl _ | apply Drawn0.step)⟩
 case round =>
  clear H'
  try clear p2
  obtain ⟨x1_1, x5_1, rfl, rfl, HA, HK1, ⟨m1, rfl⟩⟩ := hrel
  cases gk with
  | zero => exact absurd HA.out (by simp [laws_heldNodeS.l0])
  | succ k1 =>
   have H := HA.out
   clear HA
   simp only [laws_heldNodeS.l0] at H
   by_cases c3 : x5_1 < (l0.length : Int)
   rotate_left
   ·rw [if_neg c3] at H
    have c3b0 : decide (x5_1 < (l0.length : Int)) = false := decide_eq_false c3
    clear c3
    obtain rfl := Option.some.inj H
    go_wp2
    go_ret
    exact ⟨by first | rfl | (simp;done) | (simp [*];done), by repeat (first | exact Drawn0.refl _ | apply Drawn0.step)⟩
   rw [if_pos c3] at H
   have c3b0 : decide (x5_1 < (l0.length : Int)) = true := decide_eq_true c3
   clear c3
   by_cases c4 : 0 ≤ x5_1
   rotate_left
   ·rw [if_neg c4] at H
    exact absurd H (by simp)
   rw [if_pos c4] at H
   have c4b0 : decide (0 ≤ x5_1) = true := decide_eq_true c4
   clear c4
   by_cases c5 : ((rd_T104 l0 x5_1).f0) = x1_1
   rotate_left
   ·rw [if_neg c5] at H
    have c5b0 : (((rd_T104 l0 x5_1).f0) == x1_1) = false := beq_eq_false_iff_ne.mpr c5
    have c5b1 : (((rd_T104 l0 x5_1).f0) != x1_1) = true := bne_iff_ne.mpr c5
    obtain rfl := Option.some.inj H
    have p101 : 0 ≤ (x5_1 : Int) := of_decide_eq_true (by first | (with_reducible assumption) | assumption)
    have q101 : x5_1 < (l0.length : Int) := of_decide_eq_true (by first | (with_reducible assumption) | assumption)
    obtain ⟨ad101, A101_3, c101_3, A101_4, c101_4, A101_5, c101_5, A101_6, c101_6, A101_7, c101_7, A101_8, c101_8, e101, hx101_0, hx101_1, hx101_2, hx101_3, hx101_4, hx101_5, hx101_6, hx101_7, hx101_8, hx101_9, hl101_3, hi101_3, hl101_4, hi101_4, hl101_5, hi101_5, hl101_6, hi101_6, hl101_7, hi101_7, hl101_8, hi101_8⟩ := at_T104 HR0.out x5_1 p101 q101
    cases e101
    have HR101_3 := m0_ hi101_3
    have HC101_3 := m0_ hl101_3
    clear hi101_3 hl101_3
    have HR101_4 := m0_ hi101_4
    have HC101_4 := m0_ hl101_4
    clear hi101_4 hl101_4
    have HR101_5 := m0_ hi101_5
    have HC101_5 := m0_ hl101_5
    clear hi101_5 hl101_5
    have HR101_6 := m0_ hi101_6
    have HC101_6 := m0_ hl101_6
    clear hi101_6 hl101_6
    have HR101_7 := m0_ hi101_7
    have HC101_7 := m0_ hl101_7
    clear hi101_7 hl101_7
    have HR101_8 := m0_ hi101_8
    have HC101_8 := m0_ hl101_8
    clear hi101_8 hl101_8
    replace p101 := eq_true p101
    replace q101 := eq_true q101
    go_wp2
    go_ret
    exact ⟨by first | rfl | (simp;done) | (simp [*];done), by repeat (first | exact Drawn0.refl _ | apply Drawn0.step)⟩
   rw [if_pos c5] at H
   have c5b0 : (((rd_T104 l0 x5_1).f0) == x1_1) = true := beq_iff_eq.mpr c5
   have c5b1 : (((rd_T104 l0 x5_1).f0) != x1_1) = false := bne_eq_false_iff_eq.mpr c5
   clear c5
   by_cases c6 : ((rd_T104 l0 x5_1).f1) = (wrap64 (x1_1 + 1))
   rotate_left
   ·rw [if_neg c6] at H
    have c6b0 : (((rd_T104 l0 x5_1).f1) == (wrap64 (x1_1 + 1))) = false := beq_eq_false_iff_ne.mpr c6
    have c6b1 : (((rd_T104 l0 x5_1).f1) != (wrap64 (x1_1 + 1))) = true := bne_iff_ne.mpr c6
    obtain rfl := Option.some.inj H
    have p101 : 0 ≤ (x5_1 : Int) := of_decide_eq_true (by first | (with_reducible assumption) | assumption)
    have q101 : x5_1 < (l0.length : Int) := of_decide_eq_true (by first | (with_reducible assumption) | assumption)
    obtain ⟨ad101, A101_3, c101_3, A101_4, c101_4, A101_5, c101_5, A101_6, c101_6, A101_7, c101_7, A101_8, c101_8, e101, hx101_0, hx101_1, hx101_2, hx101_3, hx101_4, hx101_5, hx101_6, hx101_7, hx101_8, hx101_9, hl101_3, hi101_3, hl101_4, hi101_4, hl101_5, hi101_5, hl101_6, hi101_6, hl101_7, hi101_7, hl101_8, hi101_8⟩ := at_T104 HR0.out x5_1 p101 q101
    cases e101
    have HR101_3 := m0_ hi101_3
    have HC101_3 := m0_ hl101_3
    clear hi101_3 hl101_3
    have HR101_4 := m0_ hi101_4
    have HC101_4 := m0_ hl101_4
    clear hi101_4 hl101_4
    have HR101_5 := m0_ hi101_5
    have HC101_5 := m0_ hl101_5
    clear hi101_5 hl101_5
    have HR101_6 := m0_ hi101_6
    have HC101_6 := m0_ hl101_6
    clear hi101_6 hl101_6
    have HR101_7 := m0_ hi101_7
    have HC101_7 := m0_ hl101_7
    clear hi101_7 hl101_7
    have HR101_8 := m0_ hi101_8
    have HC101_8 := m0_ hl101_8
    clear hi101_8 hl101_8
    replace p101 := eq_true p101
    replace q101 := eq_true q101
    have p102 : 0 ≤ (x5_1 : Int) := of_decide_eq_true (by first | (with_reducible assumption) | assumption)
    have q102 : x5_1 < (l0.length : Int) := of_decide_eq_true (by first | (with_reducible assumption) | assumption)
    obtain ⟨ad102, A102_3, c102_3, A102_4, c102_4, A102_5, c102_5, A102_6, c102_6, A102_7, c102_7, A102_8, c102_8, e102, hx102_0, hx102_1, hx102_2, hx102_3, hx102_4, hx102_5, hx102_6, hx102_7, hx102_8, hx102_9, hl102_3, hi102_3, hl102_4, hi102_4, hl102_5, hi102_5, hl102_6, hi102_6, hl102_7, hi102_7, hl102_8, hi102_8⟩ := at_T104 HR0.out x5_1 p102 q102
    obtain rfl : ad101 = ad102 := (by injection e102)
    have HR102_3 := m0_ hi102_3
    have HC102_3 := m0_ hl102_3
    clear hi102_3 hl102_3
    have HR102_4 := m0_ hi102_4
    have HC102_4 := m0_ hl102_4
    clear hi102_4 hl102_4
    have HR102_5 := m0_ hi102_5
    have HC102_5 := m0_ hl102_5
    clear hi102_5 hl102_5
    have HR102_6 := m0_ hi102_6
    have HC102_6 := m0_ hl102_6
    clear hi102_6 hl102_6
    have HR102_7 := m0_ hi102_7
    have HC102_7 := m0_ hl102_7
    clear hi102_7 hl102_7
    have HR102_8 := m0_ hi102_8
    have HC102_8 := m0_ hl102_8
    clear hi102_8 hl102_8
    replace p102 := eq_true p102
    replace q102 := eq_true q102
    have ea_ := Option.some.inj (hx101_3.symm.trans hx102_3)
    injection ea_ with ea_ en_ ec_
    subst ea_
    subst ec_
    clear en_
    have ea_ := Option.some.inj (hx101_4.symm.trans hx102_4)
    injection ea_ with ea_ en_ ec_
    subst ea_
    subst ec_
    clear en_
    have ea_ := Option.some.inj (hx101_5.symm.trans hx102_5)
    injection ea_ with ea_ en_ ec_
    subst ea_
    subst ec_
    clear en_
    have ea_ := Option.some.inj (hx101_6.symm.trans hx102_6)
    injection ea_ with ea_ en_ ec_
    subst ea_
    subst ec_
    clear en_
    have ea_ := Option.some.inj (hx101_7.symm.trans hx102_7)
    injection ea_ with ea_ en_ ec_
    subst ea_
    subst ec_
    clear en_
    have ea_ := Option.some.inj (hx101_8.symm.trans hx102_8)
    injection ea_ with ea_ en_ ec_
    subst ea_
    subst ec_
    clear en_
    go_wp2
    go_ret
    exact ⟨by first | rfl | (simp;done) | (simp [*];done), by repeat (first | exact Drawn0.refl _ | apply Drawn0.step)⟩
   rw [if_pos c6] at H
   have c6b0 : (((rd_T104 l0 x5_1).f1) == (wrap64 (x1_1 + 1))) = true := beq_iff_eq.mpr c6
   have c6b1 : (((rd_T104 l0 x5_1).f1) != (wrap64 (x1_1 + 1))) = false := bne_eq_false_iff_eq.mpr c6
   clear c6
   by_cases c7 : ((rd_T104 l0 x5_1).f2) = (wrap64 ((wrap64 (x1_1 + 1)) + 1))
   rotate_left
   ·rw [if_neg c7] at H
    have c7b0 : (((rd_T104 l0 x5_1).f2) == (wrap64 ((wrap64 (x1_1 + 1)) + 1))) = false := beq_eq_false_iff_ne.mpr c7
    have c7b1 : (((rd_T104 l0 x5_1).f2) != (wrap64 ((wrap64 (x1_1 + 1)) + 1))) = true := bne_iff_ne.mpr c7
    obtain rfl := Option.some.inj H
    have p101 : 0 ≤ (x5_1 : Int) := of_decide_eq_true (by first | (with_reducible assumption) | assumption)
    have q101 : x5_1 < (l0.length : Int) := of_decide_eq_true (by first | (with_reducible assumption) | assumption)
    obtain ⟨ad101, A101_3, c101_3, A101_4, c101_4, A101_5, c101_5, A101_6, c101_6, A101_7, c101_7, A101_8, c101_8, e101, hx101_0, hx101_1, hx101_2, hx101_3, hx101_4, hx101_5, hx101_6, hx101_7, hx101_8, hx101_9, hl101_3, hi101_3, hl101_4, hi101_4, hl101_5, hi101_5, hl101_6, hi101_6, hl101_7, hi101_7, hl101_8, hi101_8⟩ := at_T104 HR0.out x5_1 p101 q101
    cases e101
    have HR101_3 := m0_ hi101_3
    have HC101_3 := m0_ hl101_3
    clear hi101_3 hl101_3
    have HR101_4 := m0_ hi101_4
    have HC101_4 := m0_ hl101_4
    clear hi101_4 hl101_4
    have HR101_5 := m0_ hi101_5
    have HC101_5 := m0_ hl101_5
    clear hi101_5 hl101_5
    have HR101_6 := m0_ hi101_6
    have HC101_6 := m0_ hl101_6
    clear hi101_6 hl101_6
    have HR101_7 := m0_ hi101_7
    have HC101_7 := m0_ hl101_7
    clear hi101_7 hl101_7
    have HR101_8 := m0_ hi101_8
    have HC101_8 := m0_ hl101_8
    clear hi101_8 hl101_8
    replace p101 := eq_true p101
    replace q101 := eq_true q101
    have p102 : 0 ≤ (x5_1 : Int) := of_decide_eq_true (by first | (with_reducible assumption) | assumption)
    have q102 : x5_1 < (l0.length : Int) := of_decide_eq_true (by first | (with_reducible assumption) | assumption)
    obtain ⟨ad102, A102_3, c102_3, A102_4, c102_4, A102_5, c102_5, A102_6, c102_6, A102_7, c102_7, A102_8, c102_8, e102, hx102_0, hx102_1, hx102_2, hx102_3, hx102_4, hx102_5, hx102_6, hx102_7, hx102_8, hx102_9, hl102_3, hi102_3, hl102_4, hi102_4, hl102_5, hi102_5, hl102_6, hi102_6, hl102_7, hi102_7, hl102_8, hi102_8⟩ := at_T104 HR0.out x5_1 p102 q102
    obtain rfl : ad101 = ad102 := (by injection e102)
    have HR102_3 := m0_ hi102_3
    have HC102_3 := m0_ hl102_3
    clear hi102_3 hl102_3
    have HR102_4 := m0_ hi102_4
    have HC102_4 := m0_ hl102_4
    clear hi102_4 hl102_4
    have HR102_5 := m0_ hi102_5
    have HC102_5 := m0_ hl102_5
    clear hi102_5 hl102_5
    have HR102_6 := m0_ hi102_6
    have HC102_6 := m0_ hl102_6
    clear hi102_6 hl102_6
    have HR102_7 := m0_ hi102_7
    have HC102_7 := m0_ hl102_7
    clear hi102_7 hl102_7
    have HR102_8 := m0_ hi102_8
    have HC102_8 := m0_ hl102_8
    clear hi102_8 hl102_8
    replace p102 := eq_true p102
    replace q102 := eq_true q102
    have ea_ := Option.some.inj (hx101_3.symm.trans hx102_3)
    injection ea_ with ea_ en_ ec_
    subst ea_
    subst ec_
    clear en_
    have ea_ := Option.some.inj (hx101_4.symm.trans hx102_4)
    injection ea_ with ea_ en_ ec_
    subst ea_
    subst ec_
    clear en_
    have ea_ := Option.some.inj (hx101_5.symm.trans hx102_5)
    injection ea_ with ea_ en_ ec_
    subst ea_
    subst ec_
    clear en_
    have ea_ := Option.some.inj (hx101_6.symm.trans hx102_6)
    injection ea_ with ea_ en_ ec_
    subst ea_
    subst ec_
    clear en_
    have ea_ := Option.some.inj (hx101_7.symm.trans hx102_7)
    injection ea_ with ea_ en_ ec_
    subst ea_
    subst ec_
    clear en_
    have ea_ := Option.some.inj (hx101_8.symm.trans hx102_8)
    injection ea_ with ea_ en_ ec_
    subst ea_
    subst ec_
    clear en_
    have p103 : 0 ≤ (x5_1 : Int) := of_decide_eq_true (by first | (with_reducible assumption) | assumption)
    have q103 : x5_1 < (l0.length : Int) := of_decide_eq_true (by first | (with_reducible assumption) | assumption)
    obtain ⟨ad103, A103_3, c103_3, A103_4, c103_4, A103_5, c103_5, A103_6, c103_6, A103_7, c103_7, A103_8, c103_8, e103, hx103_0, hx103_1, hx103_2, hx103_3, hx103_4, hx103_5, hx103_6, hx103_7, hx103_8, hx103_9, hl103_3, hi103_3, hl103_4, hi103_4, hl103_5, hi103_5, hl103_6, hi103_6, hl103_7, hi103_7, hl103_8, hi103_8⟩ := at_T104 HR0.out x5_1 p103 q103
    obtain rfl : ad101 = ad103 := (by injection e103)
    have HR103_3 := m0_ hi103_3
    have HC103_3 := m0_ hl103_3
    clear hi103_3 hl103_3
    have HR103_4 := m0_ hi103_4
    have HC103_4 := m0_ hl103_4
    clear hi103_4 hl103_4
    have HR103_5 := m0_ hi103_5
    have HC103_5 := m0_ hl103_5
    clear hi103_5 hl103_5
    have HR103_6 := m0_ hi103_6
    have HC103_6 := m0_ hl103_6
    clear hi103_6 hl103_6
    have HR103_7 := m0_ hi103_7
    have HC103_7 := m0_ hl103_7
    clear hi103_7 hl103_7
    have HR103_8 := m0_ hi103_8
    have HC103_8 := m0_ hl103_8
    clear hi103_8 hl103_8
    replace p103 := eq_true p103
    replace q103 := eq_true q103
    have ea_ := Option.some.inj (hx101_3.symm.trans hx103_3)
    injection ea_ with ea_ en_ ec_
    subst ea_
    subst ec_
    clear en_
    have ea_ := Option.some.inj (hx101_4.symm.trans hx103_4)
    injection ea_ with ea_ en_ ec_
    subst ea_
    subst ec_
    clear en_
    have ea_ := Option.some.inj (hx101_5.symm.trans hx103_5)
    injection ea_ with ea_ en_ ec_
    subst ea_
    subst ec_
    clear en_
    have ea_ := Option.some.inj (hx101_6.symm.trans hx103_6)
    injection ea_ with ea_ en_ ec_
    subst ea_
    subst ec_
    clear en_
    have ea_ := Option.some.inj (hx101_7.symm.trans hx103_7)
    injection ea_ with ea_ en_ ec_
    subst ea_
    subst ec_
    clear en_
    have ea_ := Option.some.inj (hx101_8.symm.trans hx103_8)
    injection ea_ with ea_ en_ ec_
    subst ea_
    subst ec_
    clear en_
    go_wp2
    go_ret
    exact ⟨by first | rfl | (simp;done) | (simp [*];done), by repeat (first | exact Drawn0.refl _ | apply Drawn0.step)⟩
   rw [if_pos c7] at H
   have c7b0 : (((rd_T104 l0 x5_1).f2) == (wrap64 ((wrap64 (x1_1 + 1)) + 1))) = true := beq_iff_eq.mpr c7
   have c7b1 : (((rd_T104 l0 x5_1).f2) != (wrap64 ((wrap64 (x1_1 + 1)) + 1))) = false := bne_eq_false_iff_eq.mpr c7
   clear c7
   replace H := Option.bind_eq_some_iff.mp H
   obtain ⟨t105, A80, H⟩ := H
   replace H : (if t105 < 0 then (some (-1)) else ((laws_heldOccS.f k1 ((rd_T104 l0 x5_1).f4.f0) t105).bind fun t107 => (if t107 < 0 then (some (-1)) else ((laws_heldOccS.f k1 ((rd_T104 l0 x5_1).f4.f1) t107).bind fun t109 => (if t109 < 0 then (some (-1)) else ((laws_heldOccS.f k1 ((rd_T104 l0 x5_1).f5.f0) t109).bind fun t111 => (if t111 < 0 then (some (-1)) else ((laws_heldOccS.f k1 ((rd_T104 l0 x5_1).f5.f1) t111).bind fun t113 => (if t113 < 0 then (some (-1)) else ((laws_heldOccS.f k1 ((rd_T104 l0 x5_1).f6) t113).bind fun t115 => (if t115 < 0 then (some (-1)) else (if ((rd_T104 l0 x5_1).f7) = t115 then (laws_heldNodeS.l0 k1 l0 (wrap64 (t115 + 1)) (wrap64 (x5_1 + 1))) else (some (-1)))))))))))))) = some r := H
   have A8 := m0_ A80
   clear A80
   by_cases c9 : t105 < 0
   ·rw [if_pos c9] at H
    have c9b0 : decide (t105 < 0) = true := decide_eq_true c9
    clear c9
    obtain rfl := Option.some.inj H
    have p101 : 0 ≤ (x5_1 : Int) := of_decide_eq_true (by first | (with_reducible assumption) | assumption)
    have q101 : x5_1 < (l0.length : Int) := of_decide_eq_true (by first | (with_reducible assumption) | assumption)
    obtain ⟨ad101, A101_3, c101_3, A101_4, c101_4, A101_5, c101_5, A101_6, c101_6, A101_7, c101_7, A101_8, c101_8, e101, hx101_0, hx101_1, hx101_2, hx101_3, hx101_4, hx101_5, hx101_6, hx101_7, hx101_8, hx101_9, hl101_3, hi101_3, hl101_4, hi101_4, hl101_5, hi101_5, hl101_6, hi101_6, hl101_7, hi101_7, hl101_8, hi101_8⟩ := at_T104 HR0.out x5_1 p101 q101
    cases e101
    have HR101_3 := m0_ hi101_3
    have HC101_3 := m0_ hl101_3
    clear hi101_3 hl101_3
    have HR101_4 := m0_ hi101_4
    have HC101_4 := m0_ hl101_4
    clear hi101_4 hl101_4
    have HR101_5 := m0_ hi101_5
    have HC101_5 := m0_ hl101_5
    clear hi101_5 hl101_5
    have HR101_6 := m0_ hi101_6
    have HC101_6 := m0_ hl101_6
    clear hi101_6 hl101_6
    have HR101_7 := m0_ hi101_7
    have HC101_7 := m0_ hl101_7
    clear hi101_7 hl101_7
    have HR101_8 := m0_ hi101_8
    have HC101_8 := m0_ hl101_8
    clear hi101_8 hl101_8
    replace p101 := eq_true p101
    replace q101 := eq_true q101
    have p102 : 0 ≤ (x5_1 : Int) := of_decide_eq_true (by first | (with_reducible assumption) | assumption)
    have q102 : x5_1 < (l0.length : Int) := of_decide_eq_true (by first | (with_reducible assumption) | assumption)
    obtain ⟨ad102, A102_3, c102_3, A102_4, c102_4, A102_5, c102_5, A102_6, c102_6, A102_7, c102_7, A102_8, c102_8, e102, hx102_0, hx102_1, hx102_2, hx102_3, hx102_4, hx102_5, hx102_6, hx102_7, hx102_8, hx102_9, hl102_3, hi102_3, hl102_4, hi102_4, hl102_5, hi102_5, hl102_6, hi102_6, hl102_7, hi102_7, hl102_8, hi102_8⟩ := at_T104 HR0.out x5_1 p102 q102
    obtain rfl : ad101 = ad102 := (by injection e102)
    have HR102_3 := m0_ hi102_3
    have HC102_3 := m0_ hl102_3
    clear hi102_3 hl102_3
    have HR102_4 := m0_ hi102_4
    have HC102_4 := m0_ hl102_4
    clear hi102_4 hl102_4
    have HR102_5 := m0_ hi102_5
    have HC102_5 := m0_ hl102_5
    clear hi102_5 hl102_5
    have HR102_6 := m0_ hi102_6
    have HC102_6 := m0_ hl102_6
    clear hi102_6 hl102_6
    have HR102_7 := m0_ hi102_7
    have HC102_7 := m0_ hl102_7
    clear hi102_7 hl102_7
    have HR102_8 := m0_ hi102_8
    have HC102_8 := m0_ hl102_8
    clear hi102_8 hl102_8
    replace p102 := eq_true p102
    replace q102 := eq_true q102
    have ea_ := Option.some.inj (hx101_3.symm.trans hx102_3)
    injection ea_ with ea_ en_ ec_
    subst ea_
    subst ec_
    clear en_
    have ea_ := Option.some.inj (hx101_4.symm.trans hx102_4)
    injection ea_ with ea_ en_ ec_
    subst ea_
    subst ec_
    clear en_
    have ea_ := Option.some.inj (hx101_5.symm.trans hx102_5)
    injection ea_ with ea_ en_ ec_
    subst ea_
    subst ec_
    clear en_
    have ea_ := Option.some.inj (hx101_6.symm.trans hx102_6)
    injection ea_ with ea_ en_ ec_
    subst ea_
    subst ec_
    clear en_
    have ea_ := Option.some.inj (hx101_7.symm.trans hx102_7)
    injection ea_ with ea_ en_ ec_
    subst ea_
    subst ec_
    clear en_
    have ea_ := Option.some.inj (hx101_8.symm.trans hx102_8)
    injection ea_ with ea_ en_ ec_
    subst ea_
    subst ec_
    clear en_
    have p103 : 0 ≤ (x5_1 : Int) := of_decide_eq_true (by first | (with_reducible assumption) | assumption)
    have q103 : x5_1 < (l0.length : Int) := of_decide_eq_true (by first | (with_reducible assumption) | assumption)
    obtain ⟨ad103, A103_3, c103_3, A103_4, c103_4, A103_5, c103_5, A103_6, c103_6, A103_7, c103_7, A103_8, c103_8, e103, hx103_0, hx103_1, hx103_2, hx103_3, hx103_4, hx103_5, hx103_6, hx103_7, hx103_8, hx103_9, hl103_3, hi103_3, hl103_4, hi103_4, hl103_5, hi103_5, hl103_6, hi103_6, hl103_7, hi103_7, hl103_8, hi103_8⟩ := at_T104 HR0.out x5_1 p103 q103
    obtain rfl : ad101 = ad103 := (by injection e103)
    have HR103_3 := m0_ hi103_3
    have HC103_3 := m0_ hl103_3
    clear hi103_3 hl103_3
    have HR103_4 := m0_ hi103_4
    have HC103_4 := m0_ hl103_4
    clear hi103_4 hl103_4
    have HR103_5 := m0_ hi103_5
    have HC103_5 := m0_ hl103_5
    clear hi103_5 hl103_5
    have HR103_6 := m0_ hi103_6
    have HC103_6 := m0_ hl103_6
    clear hi103_6 hl103_6
    have HR103_7 := m0_ hi103_7
    have HC103_7 := m0_ hl103_7
    clear hi103_7 hl103_7
    have HR103_8 := m0_ hi103_8
    have HC103_8 := m0_ hl103_8
    clear hi103_8 hl103_8
    replace p103 := eq_true p103
    replace q103 := eq_true q103
    have ea_ := Option.some.inj (hx101_3.symm.trans hx103_3)
    injection ea_ with ea_ en_ ec_
    subst ea_
    subst ec_
    clear en_
    have ea_ := Option.some.inj (hx101_4.symm.trans hx103_4)
    injection ea_ with ea_ en_ ec_
    subst ea_
    subst ec_
    clear en_
    have ea_ := Option.some.inj (hx101_5.symm.trans hx103_5)
    injection ea_ with ea_ en_ ec_
    subst ea_
    subst ec_
    clear en_
    have ea_ := Option.some.inj (hx101_6.symm.trans hx103_6)
    injection ea_ with ea_ en_ ec_
    subst ea_
    subst ec_
    clear en_
    have ea_ := Option.some.inj (hx101_7.symm.trans hx103_7)
    injection ea_ with ea_ en_ ec_
    subst ea_
    subst ec_
    clear en_
    have ea_ := Option.some.inj (hx101_8.symm.trans hx103_8)
    injection ea_ with ea_ en_ ec_
    subst ea_
    subst ec_
    clear en_
    have p104 : 0 ≤ (x5_1 : Int) := of_decide_eq_true (by first | (with_reducible assumption) | assumption)
    have q104 : x5_1 < (l0.length : Int) := of_decide_eq_true (by first | (with_reducible assumption) | assumption)
    obtain ⟨ad104, A104_3, c104_3, A104_4, c104_4, A104_5, c104_5, A104_6, c104_6, A104_7, c104_7, A104_8, c104_8, e104, hx104_0, hx104_1, hx104_2, hx104_3, hx104_4, hx104_5, hx104_6, hx104_7, hx104_8, hx104_9, hl104_3, hi104_3, hl104_4, hi104_4, hl104_5, hi104_5, hl104_6, hi104_6, hl104_7, hi104_7, hl104_8, hi104_8⟩ := at_T104 HR0.out x5_1 p104 q104
    obtain rfl : ad101 = ad104 := (by injection e104)
    have HR104_3 := m0_ hi104_3
    have HC104_3 := m0_ hl104_3
    clear hi104_3 hl104_3
    have HR104_4 := m0_ hi104_4
    have HC104_4 := m0_ hl104_4
    clear hi104_4 hl104_4
    have HR104_5 := m0_ hi104_5
    have HC104_5 := m0_ hl104_5
    clear hi104_5 hl104_5
    have HR104_6 := m0_ hi104_6
    have HC104_6 := m0_ hl104_6
    clear hi104_6 hl104_6
    have HR104_7 := m0_ hi104_7
    have HC104_7 := m0_ hl104_7
    clear hi104_7 hl104_7
    have HR104_8 := m0_ hi104_8
    have HC104_8 := m0_ hl104_8
    clear hi104_8 hl104_8
    replace p104 := eq_true p104
    replace q104 := eq_true q104
    have ea_ := Option.some.inj (hx101_3.symm.trans hx104_3)
    injection ea_ with ea_ en_ ec_
    subst ea_
    subst ec_
    clear en_
    have ea_ := Option.some.inj (hx101_4.symm.trans hx104_4)
    injection ea_ with ea_ en_ ec_
    subst ea_
    subst ec_
    clear en_
    have ea_ := Option.some.inj (hx101_5.symm.trans hx104_5)
    injection ea_ with ea_ en_ ec_
    subst ea_
    subst ec_
    clear en_
    have ea_ := Option.some.inj (hx101_6.symm.trans hx104_6)
    injection ea_ with ea_ en_ ec_
    subst ea_
    subst ec_
    clear en_
    have ea_ := Option.some.inj (hx101_7.symm.trans hx104_7)
    injection ea_ with ea_ en_ ec_
    subst ea_
    subst ec_
    clear en_
    have ea_ := Option.some.inj (hx101_8.symm.trans hx104_8)
    injection ea_ with ea_ en_ ec_
    subst ea_
    subst ec_
    clear en_
    go_wp2_with (first | ((with_reducible refine gate_callee (f := 30) rfl ?_);refine goesL_ (some 45) rfl rfl Try.func30 (by kernel_rfl) rfl #[.slice A101_3 ((rd_T104 l0 x5_1).f3).length c101_3, .int .i64 (wrap64 ((wrap64 ((wrap64 (x1_1 + 1)) + 1)) + 1))] rfl (by (try simp only [List.map_toArray, List.map_cons, List.map_nil]);first | done | rfl | (simp only [List.length_drop, List.length_take];rfl)) ?_;(with_reducible refine (laws_heldIntS.calls k1 _ _ ((rd_T104 l0 x5_1).f3) (wrap64 ((wrap64 ((wrap64 (x1_1 + 1)) + 1)) + 1)) t105 _ ?side1 ?side2 A8.out).mono ?_);(case side1 => repeat (first | exact HR104_3.out | (with_reducible refine Kd.C_alloc ?_ _) | (with_reducible refine Kd.C_drewN ?_ _) | (with_reducible refine Kd.C_drew ?_)));(case side2 => exact HC104_3.out);rintro e w' ⟨rfl, ⟨nd, rfl⟩⟩;refine ⟨_, rfl, ?_⟩))
    go_ret
    exact ⟨by first | rfl | (simp;done) | (simp [*];done), by repeat (first | exact Drawn0.refl _ | apply Drawn0.step)⟩
   rw [if_neg c9] at H
   have c9b0 : decide (t105 < 0) = false := decide_eq_false c9
   clear c9
   replace H := Option.bind_eq_some_iff.mp H
   obtain ⟨t107, A100, H⟩ := H
   replace H : (if t107 < 0 then (some (-1)) else ((laws_heldOccS.f k1 ((rd_T104 l0 x5_1).f4.f1) t107).bind fun t109 => (if t109 < 0 then (some (-1)) else ((laws_heldOccS.f k1 ((rd_T104 l0 x5_1).f5.f0) t109).bind fun t111 => (if t111 < 0 then (some (-1)) else ((laws_heldOccS.f k1 ((rd_T104 l0 x5_1).f5.f1) t111).bind fun t113 => (if t113 < 0 then (some (-1)) else ((laws_heldOccS.f k1 ((rd_T104 l0 x5_1).f6) t113).bind fun t115 => (if t115 < 0 then (some (-1)) else (if ((rd_T104 l0 x5_1).f7) = t115 then (laws_heldNodeS.l0 k1 l0 (wrap64 (t115 + 1)) (wrap64 (x5_1 + 1))) else (some (-1)))))))))))) = some r := H
   have A10 := m0_ A100
   clear A100
   by_cases c11 : t107 < 0
   ·rw [if_pos c11] at H
    have c11b0 : decide (t107 < 0) = true := decide_eq_true c11
    clear c11
    obtain rfl := Option.some.inj H
    have p101 : 0 ≤ (x5_1 : Int) := of_decide_eq_true (by first | (with_reducible assumption) | assumption)
    have q101 : x5_1 < (l0.length : Int) := of_decide_eq_true (by first | (with_reducible assumption) | assumption)
    obtain ⟨ad101, A101_3, c101_3, A101_4, c101_4, A101_5, c101_5, A101_6, c101_6, A101_7, c101_7, A101_8, c101_8, e101, hx101_0, hx101_1, hx101_2, hx101_3, hx101_4, hx101_5, hx101_6, hx101_7, hx101_8, hx101_9, hl101_3, hi101_3, hl101_4, hi101_4, hl101_5, hi101_5, hl101_6, hi101_6, hl101_7, hi101_7, hl101_8, hi101_8⟩ := at_T104 HR0.out x5_1 p101 q101
    cases e101
    have HR101_3 := m0_ hi101_3
    have HC101_3 := m0_ hl101_3
    clear hi101_3 hl101_3
    have HR101_4 := m0_ hi101_4
    have HC101_4 := m0_ hl101_4
    clear hi101_4 hl101_4
    have HR101_5 := m0_ hi101_5
    have HC101_5 := m0_ hl101_5
    clear hi101_5 hl101_5
    have HR101_6 := m0_ hi101_6
    have HC101_6 := m0_ hl101_6
    clear hi101_6 hl101_6
    have HR101_7 := m0_ hi101_7
    have HC101_7 := m0_ hl101_7
    clear hi101_7 hl101_7
    have HR101_8 := m0_ hi101_8
    have HC101_8 := m0_ hl101_8
    clear hi101_8 hl101_8
    replace p101 := eq_true p101
    replace q101 := eq_true q101
    have p102 : 0 ≤ (x5_1 : Int) := of_decide_eq_true (by first | (with_reducible assumption) | assumption)
    have q102 : x5_1 < (l0.length : Int) := of_decide_eq_true (by first | (with_reducible assumption) | assumption)
    obtain ⟨ad102, A102_3, c102_3, A102_4, c102_4, A102_5, c102_5, A102_6, c102_6, A102_7, c102_7, A102_8, c102_8, e102, hx102_0, hx102_1, hx102_2, hx102_3, hx102_4, hx102_5, hx102_6, hx102_7, hx102_8, hx102_9, hl102_3, hi102_3, hl102_4, hi102_4, hl102_5, hi102_5, hl102_6, hi102_6, hl102_7, hi102_7, hl102_8, hi102_8⟩ := at_T104 HR0.out x5_1 p102 q102
    obtain rfl : ad101 = ad102 := (by injection e102)
    have HR102_3 := m0_ hi102_3
    have HC102_3 := m0_ hl102_3
    clear hi102_3 hl102_3
    have HR102_4 := m0_ hi102_4
    have HC102_4 := m0_ hl102_4
    clear hi102_4 hl102_4
    have HR102_5 := m0_ hi102_5
    have HC102_5 := m0_ hl102_5
    clear hi102_5 hl102_5
    have HR102_6 := m0_ hi102_6
    have HC102_6 := m0_ hl102_6
    clear hi102_6 hl102_6
    have HR102_7 := m0_ hi102_7
    have HC102_7 := m0_ hl102_7
    clear hi102_7 hl102_7
    have HR102_8 := m0_ hi102_8
    have HC102_8 := m0_ hl102_8
    clear hi102_8 hl102_8
    replace p102 := eq_true p102
    replace q102 := eq_true q102
    have ea_ := Option.some.inj (hx101_3.symm.trans hx102_3)
    injection ea_ with ea_ en_ ec_
    subst ea_
    subst ec_
    clear en_
    have ea_ := Option.some.inj (hx101_4.symm.trans hx102_4)
    injection ea_ with ea_ en_ ec_
    subst ea_
    subst ec_
    clear en_
    have ea_ := Option.some.inj (hx101_5.symm.trans hx102_5)
    injection ea_ with ea_ en_ ec_
    subst ea_
    subst ec_
    clear en_
    have ea_ := Option.some.inj (hx101_6.symm.trans hx102_6)
    injection ea_ with ea_ en_ ec_
    subst ea_
    subst ec_
    clear en_
    have ea_ := Option.some.inj (hx101_7.symm.trans hx102_7)
    injection ea_ with ea_ en_ ec_
    subst ea_
    subst ec_
    clear en_
    have ea_ := Option.some.inj (hx101_8.symm.trans hx102_8)
    injection ea_ with ea_ en_ ec_
    subst ea_
    subst ec_
    clear en_
    have p103 : 0 ≤ (x5_1 : Int) := of_decide_eq_true (by first | (with_reducible assumption) | assumption)
    have q103 : x5_1 < (l0.length : Int) := of_decide_eq_true (by first | (with_reducible assumption) | assumption)
    obtain ⟨ad103, A103_3, c103_3, A103_4, c103_4, A103_5, c103_5, A103_6, c103_6, A103_7, c103_7, A103_8, c103_8, e103, hx103_0, hx103_1, hx103_2, hx103_3, hx103_4, hx103_5, hx103_6, hx103_7, hx103_8, hx103_9, hl103_3, hi103_3, hl103_4, hi103_4, hl103_5, hi103_5, hl103_6, hi103_6, hl103_7, hi103_7, hl103_8, hi103_8⟩ := at_T104 HR0.out x5_1 p103 q103
    obtain rfl : ad101 = ad103 := (by injection e103)
    have HR103_3 := m0_ hi103_3
    have HC103_3 := m0_ hl103_3
    clear hi103_3 hl103_3
    have HR103_4 := m0_ hi103_4
    have HC103_4 := m0_ hl103_4
    clear hi103_4 hl103_4
    have HR103_5 := m0_ hi103_5
    have HC103_5 := m0_ hl103_5
    clear hi103_5 hl103_5
    have HR103_6 := m0_ hi103_6
    have HC103_6 := m0_ hl103_6
    clear hi103_6 hl103_6
    have HR103_7 := m0_ hi103_7
    have HC103_7 := m0_ hl103_7
    clear hi103_7 hl103_7
    have HR103_8 := m0_ hi103_8
    have HC103_8 := m0_ hl103_8
    clear hi103_8 hl103_8
    replace p103 := eq_true p103
    replace q103 := eq_true q103
    have ea_ := Option.some.inj (hx101_3.symm.trans hx103_3)
    injection ea_ with ea_ en_ ec_
    subst ea_
    subst ec_
    clear en_
    have ea_ := Option.some.inj (hx101_4.symm.trans hx103_4)
    injection ea_ with ea_ en_ ec_
    subst ea_
    subst ec_
    clear en_
    have ea_ := Option.some.inj (hx101_5.symm.trans hx103_5)
    injection ea_ with ea_ en_ ec_
    subst ea_
    subst ec_
    clear en_
    have ea_ := Option.some.inj (hx101_6.symm.trans hx103_6)
    injection ea_ with ea_ en_ ec_
    subst ea_
    subst ec_
    clear en_
    have ea_ := Option.some.inj (hx101_7.symm.trans hx103_7)
    injection ea_ with ea_ en_ ec_
    subst ea_
    subst ec_
    clear en_
    have ea_ := Option.some.inj (hx101_8.symm.trans hx103_8)
    injection ea_ with ea_ en_ ec_
    subst ea_
    subst ec_
    clear en_
    have p104 : 0 ≤ (x5_1 : Int) := of_decide_eq_true (by first | (with_reducible assumption) | assumption)
    have q104 : x5_1 < (l0.length : Int) := of_decide_eq_true (by first | (with_reducible assumption) | assumption)
    obtain ⟨ad104, A104_3, c104_3, A104_4, c104_4, A104_5, c104_5, A104_6, c104_6, A104_7, c104_7, A104_8, c104_8, e104, hx104_0, hx104_1, hx104_2, hx104_3, hx104_4, hx104_5, hx104_6, hx104_7, hx104_8, hx104_9, hl104_3, hi104_3, hl104_4, hi104_4, hl104_5, hi104_5, hl104_6, hi104_6, hl104_7, hi104_7, hl104_8, hi104_8⟩ := at_T104 HR0.out x5_1 p104 q104
    obtain rfl : ad101 = ad104 := (by injection e104)
    have HR104_3 := m0_ hi104_3
    have HC104_3 := m0_ hl104_3
    clear hi104_3 hl104_3
    have HR104_4 := m0_ hi104_4
    have HC104_4 := m0_ hl104_4
    clear hi104_4 hl104_4
    have HR104_5 := m0_ hi104_5
    have HC104_5 := m0_ hl104_5
    clear hi104_5 hl104_5
    have HR104_6 := m0_ hi104_6
    have HC104_6 := m0_ hl104_6
    clear hi104_6 hl104_6
    have HR104_7 := m0_ hi104_7
    have HC104_7 := m0_ hl104_7
    clear hi104_7 hl104_7
    have HR104_8 := m0_ hi104_8
    have HC104_8 := m0_ hl104_8
    clear hi104_8 hl104_8
    replace p104 := eq_true p104
    replace q104 := eq_true q104
    have ea_ := Option.some.inj (hx101_3.symm.trans hx104_3)
    injection ea_ with ea_ en_ ec_
    subst ea_
    subst ec_
    clear en_
    have ea_ := Option.some.inj (hx101_4.symm.trans hx104_4)
    injection ea_ with ea_ en_ ec_
    subst ea_
    subst ec_
    clear en_
    have ea_ := Option.some.inj (hx101_5.symm.trans hx104_5)
    injection ea_ with ea_ en_ ec_
    subst ea_
    subst ec_
    clear en_
    have ea_ := Option.some.inj (hx101_6.symm.trans hx104_6)
    injection ea_ with ea_ en_ ec_
    subst ea_
    subst ec_
    clear en_
    have ea_ := Option.some.inj (hx101_7.symm.trans hx104_7)
    injection ea_ with ea_ en_ ec_
    subst ea_
    subst ec_
    clear en_
    have ea_ := Option.some.inj (hx101_8.symm.trans hx104_8)
    injection ea_ with ea_ en_ ec_
    subst ea_
    subst ec_
    clear en_
    go_wp2_with (first | ((with_reducible refine gate_callee (f := 30) rfl ?_);refine goesL_ (some 45) rfl rfl Try.func30 (by kernel_rfl) rfl #[.slice A101_3 ((rd_T104 l0 x5_1).f3).length c101_3, .int .i64 (wrap64 ((wrap64 ((wrap64 (x1_1 + 1)) + 1)) + 1))] rfl (by (try simp only [List.map_toArray, List.map_cons, List.map_nil]);first | done | rfl | (simp only [List.length_drop, List.length_take];rfl)) ?_;(with_reducible refine (laws_heldIntS.calls k1 _ _ ((rd_T104 l0 x5_1).f3) (wrap64 ((wrap64 ((wrap64 (x1_1 + 1)) + 1)) + 1)) t105 _ ?side1 ?side2 A8.out).mono ?_);(case side1 => repeat (first | exact HR104_3.out | (with_reducible refine Kd.C_alloc ?_ _) | (with_reducible refine Kd.C_drewN ?_ _) | (with_reducible refine Kd.C_drew ?_)));(case side2 => exact HC104_3.out);rintro e w' ⟨rfl, ⟨nd, rfl⟩⟩;refine ⟨_, rfl, ?_⟩;have p106 : 0 ≤ (x5_1 : Int) := of_decide_eq_true (by first | (with_reducible assumption) | assumption);have q106 : x5_1 < (l0.length : Int) := of_decide_eq_true (by first | (with_reducible assumption) | assumption);obtain ⟨ad106, A106_3, c106_3, A106_4, c106_4, A106_5, c106_5, A106_6, c106_6, A106_7, c106_7, A106_8, c106_8, e106, hx106_0, hx106_1, hx106_2, hx106_3, hx106_4, hx106_5, hx106_6, hx106_7, hx106_8, hx106_9, hl106_3, hi106_3, hl106_4, hi106_4, hl106_5, hi106_5, hl106_6, hi106_6, hl106_7, hi106_7, hl106_8, hi106_8⟩ := at_T104 HR0.out x5_1 p106 q106;obtain rfl : ad101 = ad106 := (by injection e106);have HR106_3 := m0_ hi106_3;have HC106_3 := m0_ hl106_3;clear hi106_3 hl106_3;have HR106_4 := m0_ hi106_4;have HC106_4 := m0_ hl106_4;clear hi106_4 hl106_4;have HR106_5 := m0_ hi106_5;have HC106_5 := m0_ hl106_5;clear hi106_5 hl106_5;have HR106_6 := m0_ hi106_6;have HC106_6 := m0_ hl106_6;clear hi106_6 hl106_6;have HR106_7 := m0_ hi106_7;have HC106_7 := m0_ hl106_7;clear hi106_7 hl106_7;have HR106_8 := m0_ hi106_8;have HC106_8 := m0_ hl106_8;clear hi106_8 hl106_8;replace p106 := eq_true p106;replace q106 := eq_true q106;have ea_ := Option.some.inj (hx101_3.symm.trans hx106_3);injection ea_ with ea_ en_ ec_;subst ea_;subst ec_;clear en_;have ea_ := Option.some.inj (hx101_4.symm.trans hx106_4);injection ea_ with ea_ en_ ec_;subst ea_;subst ec_;clear en_;have ea_ := Option.some.inj (hx101_5.symm.trans hx106_5);injection ea_ with ea_ en_ ec_;subst ea_;subst ec_;clear en_;have ea_ := Option.some.inj (hx101_6.symm.trans hx106_6);injection ea_ with ea_ en_ ec_;subst ea_;subst ec_;clear en_;have ea_ := Option.some.inj (hx101_7.symm.trans hx106_7);injection ea_ with ea_ en_ ec_;subst ea_;subst ec_;clear en_;have ea_ := Option.some.inj (hx101_8.symm.trans hx106_8);injection ea_ with ea_ en_ ec_;subst ea_;subst ec_;clear en_) | ((with_reducible refine gate_callee (f := 107) rfl ?_);refine goesL_ (some 55) rfl rfl Try.func107 (by kernel_rfl) rfl #[.slice A101_4 ((rd_T104 l0 x5_1).f4.f0).length c101_4, .int .i64 t105] rfl (by (try simp only [List.map_toArray, List.map_cons, List.map_nil]);first | done | rfl | (simp only [List.length_drop, List.length_take];rfl)) ?_;(with_reducible refine (laws_heldOccS.calls k1 _ _ ((rd_T104 l0 x5_1).f4.f0) t105 t107 _ ?side1 ?side2 A10.out).mono ?_);(case side1 => repeat (first | exact HR106_4.out | (with_reducible refine Kd.C_alloc ?_ _) | (with_reducible refine Kd.C_drewN ?_ _) | (with_reducible refine Kd.C_drew ?_)));(case side2 => exact HC106_4.out);rintro e w' ⟨rfl, ⟨nd, rfl⟩⟩;refine ⟨_, rfl, ?_⟩))
    go_ret
    exact ⟨by first | rfl | (simp;done) | (simp [*];done), by repeat (first | exact Drawn0.refl _ | apply Drawn0.step)⟩
   rw [if_neg c11] at H
   have c11b0 : decide (t107 < 0) = false := decide_eq_false c11
   clear c11
   replace H := Option.bind_eq_some_iff.mp H
   obtain ⟨t109, A120, H⟩ := H
   replace H : (if t109 < 0 then (some (-1)) else ((laws_heldOccS.f k1 ((rd_T104 l0 x5_1).f5.f0) t109).bind fun t111 => (if t111 < 0 then (some (-1)) else ((laws_heldOccS.f k1 ((rd_T104 l0 x5_1).f5.f1) t111).bind fun t113 => (if t113 < 0 then (some (-1)) else ((laws_heldOccS.f k1 ((rd_T104 l0 x5_1).f6) t113).bind fun t115 => (if t115 < 0 then (some (-1)) else (if ((rd_T104 l0 x5_1).f7) = t115 then (laws_heldNodeS.l0 k1 l0 (wrap64 (t115 + 1)) (wrap64 (x5_1 + 1))) else (some (-1)))))))))) = some r := H
   have A12 := m0_ A120
   clear A120
   by_cases c13 : t109 < 0
   ·rw [if_pos c13] at H
    have c13b0 : decide (t109 < 0) = true := decide_eq_true c13
    clear c13
    obtain rfl := Option.some.inj H
    have p101 : 0 ≤ (x5_1 : Int) := of_decide_eq_true (by first | (with_reducible assumption) | assumption)
    have q101 : x5_1 < (l0.length : Int) := of_decide_eq_true (by first | (with_reducible assumption) | assumption)
    obtain ⟨ad101, A101_3, c101_3, A101_4, c101_4, A101_5, c101_5, A101_6, c101_6, A101_7, c101_7, A101_8, c101_8, e101, hx101_0, hx101_1, hx101_2, hx101_3, hx101_4, hx101_5, hx101_6, hx101_7, hx101_8, hx101_9, hl101_3, hi101_3, hl101_4, hi101_4, hl101_5, hi101_5, hl101_6, hi101_6, hl101_7, hi101_7, hl101_8, hi101_8⟩ := at_T104 HR0.out x5_1 p101 q101
    cases e101
    have HR101_3 := m0_ hi101_3
    have HC101_3 := m0_ hl101_3
    clear hi101_3 hl101_3
    have HR101_4 := m0_ hi101_4
    have HC101_4 := m0_ hl101_4
    clear hi101_4 hl101_4
    have HR101_5 := m0_ hi101_5
    have HC101_5 := m0_ hl101_5
    clear hi101_5 hl101_5
    have HR101_6 := m0_ hi101_6
    have HC101_6 := m0_ hl101_6
    clear hi101_6 hl101_6
    have HR101_7 := m0_ hi101_7
    have HC101_7 := m0_ hl101_7
    clear hi101_7 hl101_7
    have HR101_8 := m0_ hi101_8
    have HC101_8 := m0_ hl101_8
    clear hi101_8 hl101_8
    replace p101 := eq_true p101
    replace q101 := eq_true q101
    have p102 : 0 ≤ (x5_1 : Int) := of_decide_eq_true (by first | (with_reducible assumption) | assumption)
    have q102 : x5_1 < (l0.length : Int) := of_decide_eq_true (by first | (with_reducible assumption) | assumption)
    obtain ⟨ad102, A102_3, c102_3, A102_4, c102_4, A102_5, c102_5, A102_6, c102_6, A102_7, c102_7, A102_8, c102_8, e102, hx102_0, hx102_1, hx102_2, hx102_3, hx102_4, hx102_5, hx102_6, hx102_7, hx102_8, hx102_9, hl102_3, hi102_3, hl102_4, hi102_4, hl102_5, hi102_5, hl102_6, hi102_6, hl102_7, hi102_7, hl102_8, hi102_8⟩ := at_T104 HR0.out x5_1 p102 q102
    obtain rfl : ad101 = ad102 := (by injection e102)
    have HR102_3 := m0_ hi102_3
    have HC102_3 := m0_ hl102_3
    clear hi102_3 hl102_3
    have HR102_4 := m0_ hi102_4
    have HC102_4 := m0_ hl102_4
    clear hi102_4 hl102_4
    have HR102_5 := m0_ hi102_5
    have HC102_5 := m0_ hl102_5
    clear hi102_5 hl102_5
    have HR102_6 := m0_ hi102_6
    have HC102_6 := m0_ hl102_6
    clear hi102_6 hl102_6
    have HR102_7 := m0_ hi102_7
    have HC102_7 := m0_ hl102_7
    clear hi102_7 hl102_7
    have HR102_8 := m0_ hi102_8
    have HC102_8 := m0_ hl102_8
    clear hi102_8 hl102_8
    replace p102 := eq_true p102
    replace q102 := eq_true q102
    have ea_ := Option.some.inj (hx101_3.symm.trans hx102_3)
    injection ea_ with ea_ en_ ec_
    subst ea_
    subst ec_
    clear en_
    have ea_ := Option.some.inj (hx101_4.symm.trans hx102_4)
    injection ea_ with ea_ en_ ec_
    subst ea_
    subst ec_
    clear en_
    have ea_ := Option.some.inj (hx101_5.symm.trans hx102_5)
    injection ea_ with ea_ en_ ec_
    subst ea_
    subst ec_
    clear en_
    have ea_ := Option.some.inj (hx101_6.symm.trans hx102_6)
    injection ea_ with ea_ en_ ec_
    subst ea_
    subst ec_
    clear en_
    have ea_ := Option.some.inj (hx101_7.symm.trans hx102_7)
    injection ea_ with ea_ en_ ec_
    subst ea_
    subst ec_
    clear en_
    have ea_ := Option.some.inj (hx101_8.symm.trans hx102_8)
    injection ea_ with ea_ en_ ec_
    subst ea_
    subst ec_
    clear en_
    have p103 : 0 ≤ (x5_1 : Int) := of_decide_eq_true (by first | (with_reducible assumption) | assumption)
    have q103 : x5_1 < (l0.length : Int) := of_decide_eq_true (by first | (with_reducible assumption) | assumption)
    obtain ⟨ad103, A103_3, c103_3, A103_4, c103_4, A103_5, c103_5, A103_6, c103_6, A103_7, c103_7, A103_8, c103_8, e103, hx103_0, hx103_1, hx103_2, hx103_3, hx103_4, hx103_5, hx103_6, hx103_7, hx103_8, hx103_9, hl103_3, hi103_3, hl103_4, hi103_4, hl103_5, hi103_5, hl103_6, hi103_6, hl103_7, hi103_7, hl103_8, hi103_8⟩ := at_T104 HR0.out x5_1 p103 q103
    obtain rfl : ad101 = ad103 := (by injection e103)
    have HR103_3 := m0_ hi103_3
    have HC103_3 := m0_ hl103_3
    clear hi103_3 hl103_3
    have HR103_4 := m0_ hi103_4
    have HC103_4 := m0_ hl103_4
    clear hi103_4 hl103_4
    have HR103_5 := m0_ hi103_5
    have HC103_5 := m0_ hl103_5
    clear hi103_5 hl103_5
    have HR103_6 := m0_ hi103_6
    have HC103_6 := m0_ hl103_6
    clear hi103_6 hl103_6
    have HR103_7 := m0_ hi103_7
    have HC103_7 := m0_ hl103_7
    clear hi103_7 hl103_7
    have HR103_8 := m0_ hi103_8
    have HC103_8 := m0_ hl103_8
    clear hi103_8 hl103_8
    replace p103 := eq_true p103
    replace q103 := eq_true q103
    have ea_ := Option.some.inj (hx101_3.symm.trans hx103_3)
    injection ea_ with ea_ en_ ec_
    subst ea_
    subst ec_
    clear en_
    have ea_ := Option.some.inj (hx101_4.symm.trans hx103_4)
    injection ea_ with ea_ en_ ec_
    subst ea_
    subst ec_
    clear en_
    have ea_ := Option.some.inj (hx101_5.symm.trans hx103_5)
    injection ea_ with ea_ en_ ec_
    subst ea_
    subst ec_
    clear en_
    have ea_ := Option.some.inj (hx101_6.symm.trans hx103_6)
    injection ea_ with ea_ en_ ec_
    subst ea_
    subst ec_
    clear en_
    have ea_ := Option.some.inj (hx101_7.symm.trans hx103_7)
    injection ea_ with ea_ en_ ec_
    subst ea_
    subst ec_
    clear en_
    have ea_ := Option.some.inj (hx101_8.symm.trans hx103_8)
    injection ea_ with ea_ en_ ec_
    subst ea_
    subst ec_
    clear en_
    have p104 : 0 ≤ (x5_1 : Int) := of_decide_eq_true (by first | (with_reducible assumption) | assumption)
    have q104 : x5_1 < (l0.length : Int) := of_decide_eq_true (by first | (with_reducible assumption) | assumption)
    obtain ⟨ad104, A104_3, c104_3, A104_4, c104_4, A104_5, c104_5, A104_6, c104_6, A104_7, c104_7, A104_8, c104_8, e104, hx104_0, hx104_1, hx104_2, hx104_3, hx104_4, hx104_5, hx104_6, hx104_7, hx104_8, hx104_9, hl104_3, hi104_3, hl104_4, hi104_4, hl104_5, hi104_5, hl104_6, hi104_6, hl104_7, hi104_7, hl104_8, hi104_8⟩ := at_T104 HR0.out x5_1 p104 q104
    obtain rfl : ad101 = ad104 := (by injection e104)
    have HR104_3 := m0_ hi104_3
    have HC104_3 := m0_ hl104_3
    clear hi104_3 hl104_3
    have HR104_4 := m0_ hi104_4
    have HC104_4 := m0_ hl104_4
    clear hi104_4 hl104_4
    have HR104_5 := m0_ hi104_5
    have HC104_5 := m0_ hl104_5
    clear hi104_5 hl104_5
    have HR104_6 := m0_ hi104_6
    have HC104_6 := m0_ hl104_6
    clear hi104_6 hl104_6
    have HR104_7 := m0_ hi104_7
    have HC104_7 := m0_ hl104_7
    clear hi104_7 hl104_7
    have HR104_8 := m0_ hi104_8
    have HC104_8 := m0_ hl104_8
    clear hi104_8 hl104_8
    replace p104 := eq_true p104
    replace q104 := eq_true q104
    have ea_ := Option.some.inj (hx101_3.symm.trans hx104_3)
    injection ea_ with ea_ en_ ec_
    subst ea_
    subst ec_
    clear en_
    have ea_ := Option.some.inj (hx101_4.symm.trans hx104_4)
    injection ea_ with ea_ en_ ec_
    subst ea_
    subst ec_
    clear en_
    have ea_ := Option.some.inj (hx101_5.symm.trans hx104_5)
    injection ea_ with ea_ en_ ec_
    subst ea_
    subst ec_
    clear en_
    have ea_ := Option.some.inj (hx101_6.symm.trans hx104_6)
    injection ea_ with ea_ en_ ec_
    subst ea_
    subst ec_
    clear en_
    have ea_ := Option.some.inj (hx101_7.symm.trans hx104_7)
    injection ea_ with ea_ en_ ec_
    subst ea_
    subst ec_
    clear en_
    have ea_ := Option.some.inj (hx101_8.symm.trans hx104_8)
    injection ea_ with ea_ en_ ec_
    subst ea_
    subst ec_
    clear en_
    go_wp2_with (first | ((with_reducible refine gate_callee (f := 30) rfl ?_);refine goesL_ (some 45) rfl rfl Try.func30 (by kernel_rfl) rfl #[.slice A101_3 ((rd_T104 l0 x5_1).f3).length c101_3, .int .i64 (wrap64 ((wrap64 ((wrap64 (x1_1 + 1)) + 1)) + 1))] rfl (by (try simp only [List.map_toArray, List.map_cons, List.map_nil]);first | done | rfl | (simp only [List.length_drop, List.length_take];rfl)) ?_;(with_reducible refine (laws_heldIntS.calls k1 _ _ ((rd_T104 l0 x5_1).f3) (wrap64 ((wrap64 ((wrap64 (x1_1 + 1)) + 1)) + 1)) t105 _ ?side1 ?side2 A8.out).mono ?_);(case side1 => repeat (first | exact HR104_3.out | (with_reducible refine Kd.C_alloc ?_ _) | (with_reducible refine Kd.C_drewN ?_ _) | (with_reducible refine Kd.C_drew ?_)));(case side2 => exact HC104_3.out);rintro e w' ⟨rfl, ⟨nd, rfl⟩⟩;refine ⟨_, rfl, ?_⟩;have p106 : 0 ≤ (x5_1 : Int) := of_decide_eq_true (by first | (with_reducible assumption) | assumption);have q106 : x5_1 < (l0.length : Int) := of_decide_eq_true (by first | (with_reducible assumption) | assumption);obtain ⟨ad106, A106_3, c106_3, A106_4, c106_4, A106_5, c106_5, A106_6, c106_6, A106_7, c106_7, A106_8, c106_8, e106, hx106_0, hx106_1, hx106_2, hx106_3, hx106_4, hx106_5, hx106_6, hx106_7, hx106_8, hx106_9, hl106_3, hi106_3, hl106_4, hi106_4, hl106_5, hi106_5, hl106_6, hi106_6, hl106_7, hi106_7, hl106_8, hi106_8⟩ := at_T104 HR0.out x5_1 p106 q106;obtain rfl : ad101 = ad106 := (by injection e106);have HR106_3 := m0_ hi106_3;have HC106_3 := m0_ hl106_3;clear hi106_3 hl106_3;have HR106_4 := m0_ hi106_4;have HC106_4 := m0_ hl106_4;clear hi106_4 hl106_4;have HR106_5 := m0_ hi106_5;have HC106_5 := m0_ hl106_5;clear hi106_5 hl106_5;have HR106_6 := m0_ hi106_6;have HC106_6 := m0_ hl106_6;clear hi106_6 hl106_6;have HR106_7 := m0_ hi106_7;have HC106_7 := m0_ hl106_7;clear hi106_7 hl106_7;have HR106_8 := m0_ hi106_8;have HC106_8 := m0_ hl106_8;clear hi106_8 hl106_8;replace p106 := eq_true p106;replace q106 := eq_true q106;have ea_ := Option.some.inj (hx101_3.symm.trans hx106_3);injection ea_ with ea_ en_ ec_;subst ea_;subst ec_;clear en_;have ea_ := Option.some.inj (hx101_4.symm.trans hx106_4);injection ea_ with ea_ en_ ec_;subst ea_;subst ec_;clear en_;have ea_ := Option.some.inj (hx101_5.symm.trans hx106_5);injection ea_ with ea_ en_ ec_;subst ea_;subst ec_;clear en_;have ea_ := Option.some.inj (hx101_6.symm.trans hx106_6);injection ea_ with ea_ en_ ec_;subst ea_;subst ec_;clear en_;have ea_ := Option.some.inj (hx101_7.symm.trans hx106_7);injection ea_ with ea_ en_ ec_;subst ea_;subst ec_;clear en_;have ea_ := Option.some.inj (hx101_8.symm.trans hx106_8);injection ea_ with ea_ en_ ec_;subst ea_;subst ec_;clear en_) | ((with_reducible refine gate_callee (f := 107) rfl ?_);refine goesL_ (some 55) rfl rfl Try.func107 (by kernel_rfl) rfl #[.slice A101_4 ((rd_T104 l0 x5_1).f4.f0).length c101_4, .int .i64 t105] rfl (by (try simp only [List.map_toArray, List.map_cons, List.map_nil]);first | done | rfl | (simp only [List.length_drop, List.length_take];rfl)) ?_;(with_reducible refine (laws_heldOccS.calls k1 _ _ ((rd_T104 l0 x5_1).f4.f0) t105 t107 _ ?side1 ?side2 A10.out).mono ?_);(case side1 => repeat (first | exact HR106_4.out | (with_reducible refine Kd.C_alloc ?_ _) | (with_reducible refine Kd.C_drewN ?_ _) | (with_reducible refine Kd.C_drew ?_)));(case side2 => exact HC106_4.out);rintro e w' ⟨rfl, ⟨nd, rfl⟩⟩;refine ⟨_, rfl, ?_⟩;have p108 : 0 ≤ (x5_1 : Int) := of_decide_eq_true (by first | (with_reducible assumption) | assumption);have q108 : x5_1 < (l0.length : Int) := of_decide_eq_true (by first | (with_reducible assumption) | assumption);obtain ⟨ad108, A108_3, c108_3, A108_4, c108_4, A108_5, c108_5, A108_6, c108_6, A108_7, c108_7, A108_8, c108_8, e108, hx108_0, hx108_1, hx108_2, hx108_3, hx108_4, hx108_5, hx108_6, hx108_7, hx108_8, hx108_9, hl108_3, hi108_3, hl108_4, hi108_4, hl108_5, hi108_5, hl108_6, hi108_6, hl108_7, hi108_7, hl108_8, hi108_8⟩ := at_T104 HR0.out x5_1 p108 q108;obtain rfl : ad101 = ad108 := (by injection e108);have HR108_3 := m0_ hi108_3;have HC108_3 := m0_ hl108_3;clear hi108_3 hl108_3;have HR108_4 := m0_ hi108_4;have HC108_4 := m0_ hl108_4;clear hi108_4 hl108_4;have HR108_5 := m0_ hi108_5;have HC108_5 := m0_ hl108_5;clear hi108_5 hl108_5;have HR108_6 := m0_ hi108_6;have HC108_6 := m0_ hl108_6;clear hi108_6 hl108_6;have HR108_7 := m0_ hi108_7;have HC108_7 := m0_ hl108_7;clear hi108_7 hl108_7;have HR108_8 := m0_ hi108_8;have HC108_8 := m0_ hl108_8;clear hi108_8 hl108_8;replace p108 := eq_true p108;replace q108 := eq_true q108;have ea_ := Option.some.inj (hx101_3.symm.trans hx108_3);injection ea_ with ea_ en_ ec_;subst ea_;subst ec_;clear en_;have ea_ := Option.some.inj (hx101_4.symm.trans hx108_4);injection ea_ with ea_ en_ ec_;subst ea_;subst ec_;clear en_;have ea_ := Option.some.inj (hx101_5.symm.trans hx108_5);injection ea_ with ea_ en_ ec_;subst ea_;subst ec_;clear en_;have ea_ := Option.some.inj (hx101_6.symm.trans hx108_6);injection ea_ with ea_ en_ ec_;subst ea_;subst ec_;clear en_;have ea_ := Option.some.inj (hx101_7.symm.trans hx108_7);injection ea_ with ea_ en_ ec_;subst ea_;subst ec_;clear en_;have ea_ := Option.some.inj (hx101_8.symm.trans hx108_8);injection ea_ with ea_ en_ ec_;subst ea_;subst ec_;clear en_) | ((with_reducible refine gate_callee (f := 107) rfl ?_);refine goesL_ (some 65) rfl rfl Try.func107 (by kernel_rfl) rfl #[.slice A101_5 ((rd_T104 l0 x5_1).f4.f1).length c101_5, .int .i64 t107] rfl (by (try simp only [List.map_toArray, List.map_cons, List.map_nil]);first | done | rfl | (simp only [List.length_drop, List.length_take];rfl)) ?_;(with_reducible refine (laws_heldOccS.calls k1 _ _ ((rd_T104 l0 x5_1).f4.f1) t107 t109 _ ?side1 ?side2 A12.out).mono ?_);(case side1 => repeat (first | exact HR108_5.out | (with_reducible refine Kd.C_alloc ?_ _) | (with_reducible refine Kd.C_drewN ?_ _) | (with_reducible refine Kd.C_drew ?_)));(case side2 => exact HC108_5.out);rintro e w' ⟨rfl, ⟨nd, rfl⟩⟩;refine ⟨_, rfl, ?_⟩))
    go_ret
    exact ⟨by first | rfl | (simp;done) | (simp [*];done), by repeat (first | exact Drawn0.refl _ | apply Drawn0.step)⟩
   rw [if_neg c13] at H
   have c13b0 : decide (t109 < 0) = false := decide_eq_false c13
   clear c13
   replace H := Option.bind_eq_some_iff.mp H
   obtain ⟨t111, A140, H⟩ := H
   replace H : (if t111 < 0 then (some (-1)) else ((laws_heldOccS.f k1 ((rd_T104 l0 x5_1).f5.f1) t111).bind fun t113 => (if t113 < 0 then (some (-1)) else ((laws_heldOccS.f k1 ((rd_T104 l0 x5_1).f6) t113).bind fun t115 => (if t115 < 0 then (some (-1)) else (if ((rd_T104 l0 x5_1).f7) = t115 then (laws_heldNodeS.l0 k1 l0 (wrap64 (t115 + 1)) (wrap64 (x5_1 + 1))) else (some (-1)))))))) = some r := H
   have A14 := m0_ A140
   clear A140
   by_cases c15 : t111 < 0
   ·rw [if_pos c15] at H
    have c15b0 : decide (t111 < 0) = true := decide_eq_true c15
    clear c15
    obtain rfl := Option.some.inj H
    have p101 : 0 ≤ (x5_1 : Int) := of_decide_eq_true (by first | (with_reducible assumption) | assumption)
    have q101 : x5_1 < (l0.length : Int) := of_decide_eq_true (by first | (with_reducible assumption) | assumption)
    obtain ⟨ad101, A101_3, c101_3, A101_4, c101_4, A101_5, c101_5, A101_6, c101_6, A101_7, c101_7, A101_8, c101_8, e101, hx101_0, hx101_1, hx101_2, hx101_3, hx101_4, hx101_5, hx101_6, hx101_7, hx101_8, hx101_9, hl101_3, hi101_3, hl101_4, hi101_4, hl101_5, hi101_5, hl101_6, hi101_6, hl101_7, hi101_7, hl101_8, hi101_8⟩ := at_T104 HR0.out x5_1 p101 q101
    cases e101
    have HR101_3 := m0_ hi101_3
    have HC101_3 := m0_ hl101_3
    clear hi101_3 hl101_3
    have HR101_4 := m0_ hi101_4
    have HC101_4 := m0_ hl101_4
    clear hi101_4 hl101_4
    have HR101_5 := m0_ hi101_5
    have HC101_5 := m0_ hl101_5
    clear hi101_5 hl101_5
    have HR101_6 := m0_ hi101_6
    have HC101_6 := m0_ hl101_6
    clear hi101_6 hl101_6
    have HR101_7 := m0_ hi101_7
    have HC101_7 := m0_ hl101_7
    clear hi101_7 hl101_7
    have HR101_8 := m0_ hi101_8
    have HC101_8 := m0_ hl101_8
    clear hi101_8 hl101_8
    replace p101 := eq_true p101
    replace q101 := eq_true q101
    have p102 : 0 ≤ (x5_1 : Int) := of_decide_eq_true (by first | (with_reducible assumption) | assumption)
    have q102 : x5_1 < (l0.length : Int) := of_decide_eq_true (by first | (with_reducible assumption) | assumption)
    obtain ⟨ad102, A102_3, c102_3, A102_4, c102_4, A102_5, c102_5, A102_6, c102_6, A102_7, c102_7, A102_8, c102_8, e102, hx102_0, hx102_1, hx102_2, hx102_3, hx102_4, hx102_5, hx102_6, hx102_7, hx102_8, hx102_9, hl102_3, hi102_3, hl102_4, hi102_4, hl102_5, hi102_5, hl102_6, hi102_6, hl102_7, hi102_7, hl102_8, hi102_8⟩ := at_T104 HR0.out x5_1 p102 q102
    obtain rfl : ad101 = ad102 := (by injection e102)
    have HR102_3 := m0_ hi102_3
    have HC102_3 := m0_ hl102_3
    clear hi102_3 hl102_3
    have HR102_4 := m0_ hi102_4
    have HC102_4 := m0_ hl102_4
    clear hi102_4 hl102_4
    have HR102_5 := m0_ hi102_5
    have HC102_5 := m0_ hl102_5
    clear hi102_5 hl102_5
    have HR102_6 := m0_ hi102_6
    have HC102_6 := m0_ hl102_6
    clear hi102_6 hl102_6
    have HR102_7 := m0_ hi102_7
    have HC102_7 := m0_ hl102_7
    clear hi102_7 hl102_7
    have HR102_8 := m0_ hi102_8
    have HC102_8 := m0_ hl102_8
    clear hi102_8 hl102_8
    replace p102 := eq_true p102
    replace q102 := eq_true q102
    have ea_ := Option.some.inj (hx101_3.symm.trans hx102_3)
    injection ea_ with ea_ en_ ec_
    subst ea_
    subst ec_
    clear en_
    have ea_ := Option.some.inj (hx101_4.symm.trans hx102_4)
    injection ea_ with ea_ en_ ec_
    subst ea_
    subst ec_
    clear en_
    have ea_ := Option.some.inj (hx101_5.symm.trans hx102_5)
    injection ea_ with ea_ en_ ec_
    subst ea_
    subst ec_
    clear en_
    have ea_ := Option.some.inj (hx101_6.symm.trans hx102_6)
    injection ea_ with ea_ en_ ec_
    subst ea_
    subst ec_
    clear en_
    have ea_ := Option.some.inj (hx101_7.symm.trans hx102_7)
    injection ea_ with ea_ en_ ec_
    subst ea_
    subst ec_
    clear en_
    have ea_ := Option.some.inj (hx101_8.symm.trans hx102_8)
    injection ea_ with ea_ en_ ec_
    subst ea_
    subst ec_
    clear en_
    have p103 : 0 ≤ (x5_1 : Int) := of_decide_eq_true (by first | (with_reducible assumption) | assumption)
    have q103 : x5_1 < (l0.length : Int) := of_decide_eq_true (by first | (with_reducible assumption) | assumption)
    obtain ⟨ad103, A103_3, c103_3, A103_4, c103_4, A103_5, c103_5, A103_6, c103_6, A103_7, c103_7, A103_8, c103_8, e103, hx103_0, hx103_1, hx103_2, hx103_3, hx103_4, hx103_5, hx103_6, hx103_7, hx103_8, hx103_9, hl103_3, hi103_3, hl103_4, hi103_4, hl103_5, hi103_5, hl103_6, hi103_6, hl103_7, hi103_7, hl103_8, hi103_8⟩ := at_T104 HR0.out x5_1 p103 q103
    obtain rfl : ad101 = ad103 := (by injection e103)
    have HR103_3 := m0_ hi103_3
    have HC103_3 := m0_ hl103_3
    clear hi103_3 hl103_3
    have HR103_4 := m0_ hi103_4
    have HC103_4 := m0_ hl103_4
    clear hi103_4 hl103_4
    have HR103_5 := m0_ hi103_5
    have HC103_5 := m0_ hl103_5
    clear hi103_5 hl103_5
    have HR103_6 := m0_ hi103_6
    have HC103_6 := m0_ hl103_6
    clear hi103_6 hl103_6
    have HR103_7 := m0_ hi103_7
    have HC103_7 := m0_ hl103_7
    clear hi103_7 hl103_7
    have HR103_8 := m0_ hi103_8
    have HC103_8 := m0_ hl103_8
    clear hi103_8 hl103_8
    replace p103 := eq_true p103
    replace q103 := eq_true q103
    have ea_ := Option.some.inj (hx101_3.symm.trans hx103_3)
    injection ea_ with ea_ en_ ec_
    subst ea_
    subst ec_
    clear en_
    have ea_ := Option.some.inj (hx101_4.symm.trans hx103_4)
    injection ea_ with ea_ en_ ec_
    subst ea_
    subst ec_
    clear en_
    have ea_ := Option.some.inj (hx101_5.symm.trans hx103_5)
    injection ea_ with ea_ en_ ec_
    subst ea_
    subst ec_
    clear en_
    have ea_ := Option.some.inj (hx101_6.symm.trans hx103_6)
    injection ea_ with ea_ en_ ec_
    subst ea_
    subst ec_
    clear en_
    have ea_ := Option.some.inj (hx101_7.symm.trans hx103_7)
    injection ea_ with ea_ en_ ec_
    subst ea_
    subst ec_
    clear en_
    have ea_ := Option.some.inj (hx101_8.symm.trans hx103_8)
    injection ea_ with ea_ en_ ec_
    subst ea_
    subst ec_
    clear en_
    have p104 : 0 ≤ (x5_1 : Int) := of_decide_eq_true (by first | (with_reducible assumption) | assumption)
    have q104 : x5_1 < (l0.length : Int) := of_decide_eq_true (by first | (with_reducible assumption) | assumption)
    obtain ⟨ad104, A104_3, c104_3, A104_4, c104_4, A104_5, c104_5, A104_6, c104_6, A104_7, c104_7, A104_8, c104_8, e104, hx104_0, hx104_1, hx104_2, hx104_3, hx104_4, hx104_5, hx104_6, hx104_7, hx104_8, hx104_9, hl104_3, hi104_3, hl104_4, hi104_4, hl104_5, hi104_5, hl104_6, hi104_6, hl104_7, hi104_7, hl104_8, hi104_8⟩ := at_T104 HR0.out x5_1 p104 q104
    obtain rfl : ad101 = ad104 := (by injection e104)
    have HR104_3 := m0_ hi104_3
    have HC104_3 := m0_ hl104_3
    clear hi104_3 hl104_3
    have HR104_4 := m0_ hi104_4
    have HC104_4 := m0_ hl104_4
    clear hi104_4 hl104_4
    have HR104_5 := m0_ hi104_5
    have HC104_5 := m0_ hl104_5
    clear hi104_5 hl104_5
    have HR104_6 := m0_ hi104_6
    have HC104_6 := m0_ hl104_6
    clear hi104_6 hl104_6
    have HR104_7 := m0_ hi104_7
    have HC104_7 := m0_ hl104_7
    clear hi104_7 hl104_7
    have HR104_8 := m0_ hi104_8
    have HC104_8 := m0_ hl104_8
    clear hi104_8 hl104_8
    replace p104 := eq_true p104
    replace q104 := eq_true q104
    have ea_ := Option.some.inj (hx101_3.symm.trans hx104_3)
    injection ea_ with ea_ en_ ec_
    subst ea_
    subst ec_
    clear en_
    have ea_ := Option.some.inj (hx101_4.symm.trans hx104_4)
    injection ea_ with ea_ en_ ec_
    subst ea_
    subst ec_
    clear en_
    have ea_ := Option.some.inj (hx101_5.symm.trans hx104_5)
    injection ea_ with ea_ en_ ec_
    subst ea_
    subst ec_
    clear en_
    have ea_ := Option.some.inj (hx101_6.symm.trans hx104_6)
    injection ea_ with ea_ en_ ec_
    subst ea_
    subst ec_
    clear en_
    have ea_ := Option.some.inj (hx101_7.symm.trans hx104_7)
    injection ea_ with ea_ en_ ec_
    subst ea_
    subst ec_
    clear en_
    have ea_ := Option.some.inj (hx101_8.symm.trans hx104_8)
    injection ea_ with ea_ en_ ec_
    subst ea_
    subst ec_
    clear en_
    go_wp2_with (first | ((with_reducible refine gate_callee (f := 30) rfl ?_);refine goesL_ (some 45) rfl rfl Try.func30 (by kernel_rfl) rfl #[.slice A101_3 ((rd_T104 l0 x5_1).f3).length c101_3, .int .i64 (wrap64 ((wrap64 ((wrap64 (x1_1 + 1)) + 1)) + 1))] rfl (by (try simp only [List.map_toArray, List.map_cons, List.map_nil]);first | done | rfl | (simp only [List.length_drop, List.length_take];rfl)) ?_;(with_reducible refine (laws_heldIntS.calls k1 _ _ ((rd_T104 l0 x5_1).f3) (wrap64 ((wrap64 ((wrap64 (x1_1 + 1)) + 1)) + 1)) t105 _ ?side1 ?side2 A8.out).mono ?_);(case side1 => repeat (first | exact HR104_3.out | (with_reducible refine Kd.C_alloc ?_ _) | (with_reducible refine Kd.C_drewN ?_ _) | (with_reducible refine Kd.C_drew ?_)));(case side2 => exact HC104_3.out);rintro e w' ⟨rfl, ⟨nd, rfl⟩⟩;refine ⟨_, rfl, ?_⟩;have p106 : 0 ≤ (x5_1 : Int) := of_decide_eq_true (by first | (with_reducible assumption) | assumption);have q106 : x5_1 < (l0.length : Int) := of_decide_eq_true (by first | (with_reducible assumption) | assumption);obtain ⟨ad106, A106_3, c106_3, A106_4, c106_4, A106_5, c106_5, A106_6, c106_6, A106_7, c106_7, A106_8, c106_8, e106, hx106_0, hx106_1, hx106_2, hx106_3, hx106_4, hx106_5, hx106_6, hx106_7, hx106_8, hx106_9, hl106_3, hi106_3, hl106_4, hi106_4, hl106_5, hi106_5, hl106_6, hi106_6, hl106_7, hi106_7, hl106_8, hi106_8⟩ := at_T104 HR0.out x5_1 p106 q106;obtain rfl : ad101 = ad106 := (by injection e106);have HR106_3 := m0_ hi106_3;have HC106_3 := m0_ hl106_3;clear hi106_3 hl106_3;have HR106_4 := m0_ hi106_4;have HC106_4 := m0_ hl106_4;clear hi106_4 hl106_4;have HR106_5 := m0_ hi106_5;have HC106_5 := m0_ hl106_5;clear hi106_5 hl106_5;have HR106_6 := m0_ hi106_6;have HC106_6 := m0_ hl106_6;clear hi106_6 hl106_6;have HR106_7 := m0_ hi106_7;have HC106_7 := m0_ hl106_7;clear hi106_7 hl106_7;have HR106_8 := m0_ hi106_8;have HC106_8 := m0_ hl106_8;clear hi106_8 hl106_8;replace p106 := eq_true p106;replace q106 := eq_true q106;have ea_ := Option.some.inj (hx101_3.symm.trans hx106_3);injection ea_ with ea_ en_ ec_;subst ea_;subst ec_;clear en_;have ea_ := Option.some.inj (hx101_4.symm.trans hx106_4);injection ea_ with ea_ en_ ec_;subst ea_;subst ec_;clear en_;have ea_ := Option.some.inj (hx101_5.symm.trans hx106_5);injection ea_ with ea_ en_ ec_;subst ea_;subst ec_;clear en_;have ea_ := Option.some.inj (hx101_6.symm.trans hx106_6);injection ea_ with ea_ en_ ec_;subst ea_;subst ec_;clear en_;have ea_ := Option.some.inj (hx101_7.symm.trans hx106_7);injection ea_ with ea_ en_ ec_;subst ea_;subst ec_;clear en_;have ea_ := Option.some.inj (hx101_8.symm.trans hx106_8);injection ea_ with ea_ en_ ec_;subst ea_;subst ec_;clear en_) | ((with_reducible refine gate_callee (f := 107) rfl ?_);refine goesL_ (some 55) rfl rfl Try.func107 (by kernel_rfl) rfl #[.slice A101_4 ((rd_T104 l0 x5_1).f4.f0).length c101_4, .int .i64 t105] rfl (by (try simp only [List.map_toArray, List.map_cons, List.map_nil]);first | done | rfl | (simp only [List.length_drop, List.length_take];rfl)) ?_;(with_reducible refine (laws_heldOccS.calls k1 _ _ ((rd_T104 l0 x5_1).f4.f0) t105 t107 _ ?side1 ?side2 A10.out).mono ?_);(case side1 => repeat (first | exact HR106_4.out | (with_reducible refine Kd.C_alloc ?_ _) | (with_reducible refine Kd.C_drewN ?_ _) | (with_reducible refine Kd.C_drew ?_)));(case side2 => exact HC106_4.out);rintro e w' ⟨rfl, ⟨nd, rfl⟩⟩;refine ⟨_, rfl, ?_⟩;have p108 : 0 ≤ (x5_1 : Int) := of_decide_eq_true (by first | (with_reducible assumption) | assumption);have q108 : x5_1 < (l0.length : Int) := of_decide_eq_true (by first | (with_reducible assumption) | assumption);obtain ⟨ad108, A108_3, c108_3, A108_4, c108_4, A108_5, c108_5, A108_6, c108_6, A108_7, c108_7, A108_8, c108_8, e108, hx108_0, hx108_1, hx108_2, hx108_3, hx108_4, hx108_5, hx108_6, hx108_7, hx108_8, hx108_9, hl108_3, hi108_3, hl108_4, hi108_4, hl108_5, hi108_5, hl108_6, hi108_6, hl108_7, hi108_7, hl108_8, hi108_8⟩ := at_T104 HR0.out x5_1 p108 q108;obtain rfl : ad101 = ad108 := (by injection e108);have HR108_3 := m0_ hi108_3;have HC108_3 := m0_ hl108_3;clear hi108_3 hl108_3;have HR108_4 := m0_ hi108_4;have HC108_4 := m0_ hl108_4;clear hi108_4 hl108_4;have HR108_5 := m0_ hi108_5;have HC108_5 := m0_ hl108_5;clear hi108_5 hl108_5;have HR108_6 := m0_ hi108_6;have HC108_6 := m0_ hl108_6;clear hi108_6 hl108_6;have HR108_7 := m0_ hi108_7;have HC108_7 := m0_ hl108_7;clear hi108_7 hl108_7;have HR108_8 := m0_ hi108_8;have HC108_8 := m0_ hl108_8;clear hi108_8 hl108_8;replace p108 := eq_true p108;replace q108 := eq_true q108;have ea_ := Option.some.inj (hx101_3.symm.trans hx108_3);injection ea_ with ea_ en_ ec_;subst ea_;subst ec_;clear en_;have ea_ := Option.some.inj (hx101_4.symm.trans hx108_4);injection ea_ with ea_ en_ ec_;subst ea_;subst ec_;clear en_;have ea_ := Option.some.inj (hx101_5.symm.trans hx108_5);injection ea_ with ea_ en_ ec_;subst ea_;subst ec_;clear en_;have ea_ := Option.some.inj (hx101_6.symm.trans hx108_6);injection ea_ with ea_ en_ ec_;subst ea_;subst ec_;clear en_;have ea_ := Option.some.inj (hx101_7.symm.trans hx108_7);injection ea_ with ea_ en_ ec_;subst ea_;subst ec_;clear en_;have ea_ := Option.some.inj (hx101_8.symm.trans hx108_8);injection ea_ with ea_ en_ ec_;subst ea_;subst ec_;clear en_) | ((with_reducible refine gate_callee (f := 107) rfl ?_);refine goesL_ (some 65) rfl rfl Try.func107 (by kernel_rfl) rfl #[.slice A101_5 ((rd_T104 l0 x5_1).f4.f1).length c101_5, .int .i64 t107] rfl (by (try simp only [List.map_toArray, List.map_cons, List.map_nil]);first | done | rfl | (simp only [List.length_drop, List.length_take];rfl)) ?_;(with_reducible refine (laws_heldOccS.calls k1 _ _ ((rd_T104 l0 x5_1).f4.f1) t107 t109 _ ?side1 ?side2 A12.out).mono ?_);(case side1 => repeat (first | exact HR108_5.out | (with_reducible refine Kd.C_alloc ?_ _) | (with_reducible refine Kd.C_drewN ?_ _) | (with_reducible refine Kd.C_drew ?_)));(case side2 => exact HC108_5.out);rintro e w' ⟨rfl, ⟨nd, rfl⟩⟩;refine ⟨_, rfl, ?_⟩;have p110 : 0 ≤ (x5_1 : Int) := of_decide_eq_true (by first | (with_reducible assumption) | assumption);have q110 : x5_1 < (l0.length : Int) := of_decide_eq_true (by first | (with_reducible assumption) | assumption);obtain ⟨ad110, A110_3, c110_3, A110_4, c110_4, A110_5, c110_5, A110_6, c110_6, A110_7, c110_7, A110_8, c110_8, e110, hx110_0, hx110_1, hx110_2, hx110_3, hx110_4, hx110_5, hx110_6, hx110_7, hx110_8, hx110_9, hl110_3, hi110_3, hl110_4, hi110_4, hl110_5, hi110_5, hl110_6, hi110_6, hl110_7, hi110_7, hl110_8, hi110_8⟩ := at_T104 HR0.out x5_1 p110 q110;obtain rfl : ad101 = ad110 := (by injection e110);have HR110_3 := m0_ hi110_3;have HC110_3 := m0_ hl110_3;clear hi110_3 hl110_3;have HR110_4 := m0_ hi110_4;have HC110_4 := m0_ hl110_4;clear hi110_4 hl110_4;have HR110_5 := m0_ hi110_5;have HC110_5 := m0_ hl110_5;clear hi110_5 hl110_5;have HR110_6 := m0_ hi110_6;have HC110_6 := m0_ hl110_6;clear hi110_6 hl110_6;have HR110_7 := m0_ hi110_7;have HC110_7 := m0_ hl110_7;clear hi110_7 hl110_7;have HR110_8 := m0_ hi110_8;have HC110_8 := m0_ hl110_8;clear hi110_8 hl110_8;replace p110 := eq_true p110;replace q110 := eq_true q110;have ea_ := Option.some.inj (hx101_3.symm.trans hx110_3);injection ea_ with ea_ en_ ec_;subst ea_;subst ec_;clear en_;have ea_ := Option.some.inj (hx101_4.symm.trans hx110_4);injection ea_ with ea_ en_ ec_;subst ea_;subst ec_;clear en_;have ea_ := Option.some.inj (hx101_5.symm.trans hx110_5);injection ea_ with ea_ en_ ec_;subst ea_;subst ec_;clear en_;have ea_ := Option.some.inj (hx101_6.symm.trans hx110_6);injection ea_ with ea_ en_ ec_;subst ea_;subst ec_;clear en_;have ea_ := Option.some.inj (hx101_7.symm.trans hx110_7);injection ea_ with ea_ en_ ec_;subst ea_;subst ec_;clear en_;have ea_ := Option.some.inj (hx101_8.symm.trans hx110_8);injection ea_ with ea_ en_ ec_;subst ea_;subst ec_;clear en_) | ((with_reducible refine gate_callee (f := 107) rfl ?_);refine goesL_ (some 75) rfl rfl Try.func107 (by kernel_rfl) rfl #[.slice A101_6 ((rd_T104 l0 x5_1).f5.f0).length c101_6, .int .i64 t109] rfl (by (try simp only [List.map_toArray, List.map_cons, List.map_nil]);first | done | rfl | (simp only [List.length_drop, List.length_take];rfl)) ?_;(with_reducible refine (laws_heldOccS.calls k1 _ _ ((rd_T104 l0 x5_1).f5.f0) t109 t111 _ ?side1 ?side2 A14.out).mono ?_);(case side1 => repeat (first | exact HR110_6.out | (with_reducible refine Kd.C_alloc ?_ _) | (with_reducible refine Kd.C_drewN ?_ _) | (with_reducible refine Kd.C_drew ?_)));(case side2 => exact HC110_6.out);rintro e w' ⟨rfl, ⟨nd, rfl⟩⟩;refine ⟨_, rfl, ?_⟩))
    go_ret
    exact ⟨by first | rfl | (simp;done) | (simp [*];done), by repeat (first | exact Drawn0.refl _ | apply Drawn0.step)⟩
   rw [if_neg c15] at H
   have c15b0 : decide (t111 < 0) = false := decide_eq_false c15
   clear c15
   replace H := Option.bind_eq_some_iff.mp H
   obtain ⟨t113, A160, H⟩ := H
   replace H : (if t113 < 0 then (some (-1)) else ((laws_heldOccS.f k1 ((rd_T104 l0 x5_1).f6) t113).bind fun t115 => (if t115 < 0 then (some (-1)) else (if ((rd_T104 l0 x5_1).f7) = t115 then (laws_heldNodeS.l0 k1 l0 (wrap64 (t115 + 1)) (wrap64 (x5_1 + 1))) else (some (-1)))))) = some r := H
   have A16 := m0_ A160
   clear A160
   by_cases c17 : t113 < 0
   ·rw [if_pos c17] at H
    have c17b0 : decide (t113 < 0) = true := decide_eq_true c17
    clear c17
    obtain rfl := Option.some.inj H
    have p101 : 0 ≤ (x5_1 : Int) := of_decide_eq_true (by first | (with_reducible assumption) | assumption)
    have q101 : x5_1 < (l0.length : Int) := of_decide_eq_true (by first | (with_reducible assumption) | assumption)
    obtain ⟨ad101, A101_3, c101_3, A101_4, c101_4, A101_5, c101_5, A101_6, c101_6, A101_7, c101_7, A101_8, c101_8, e101, hx101_0, hx101_1, hx101_2, hx101_3, hx101_4, hx101_5, hx101_6, hx101_7, hx101_8, hx101_9, hl101_3, hi101_3, hl101_4, hi101_4, hl101_5, hi101_5, hl101_6, hi101_6, hl101_7, hi101_7, hl101_8, hi101_8⟩ := at_T104 HR0.out x5_1 p101 q101
    cases e101
    have HR101_3 := m0_ hi101_3
    have HC101_3 := m0_ hl101_3
    clear hi101_3 hl101_3
    have HR101_4 := m0_ hi101_4
    have HC101_4 := m0_ hl101_4
    clear hi101_4 hl101_4
    have HR101_5 := m0_ hi101_5
    have HC101_5 := m0_ hl101_5
    clear hi101_5 hl101_5
    have HR101_6 := m0_ hi101_6
    have HC101_6 := m0_ hl101_6
    clear hi101_6 hl101_6
    have HR101_7 := m0_ hi101_7
    have HC101_7 := m0_ hl101_7
    clear hi101_7 hl101_7
    have HR101_8 := m0_ hi101_8
    have HC101_8 := m0_ hl101_8
    clear hi101_8 hl101_8
    replace p101 := eq_true p101
    replace q101 := eq_true q101
    have p102 : 0 ≤ (x5_1 : Int) := of_decide_eq_true (by first | (with_reducible assumption) | assumption)
    have q102 : x5_1 < (l0.length : Int) := of_decide_eq_true (by first | (with_reducible assumption) | assumption)
    obtain ⟨ad102, A102_3, c102_3, A102_4, c102_4, A102_5, c102_5, A102_6, c102_6, A102_7, c102_7, A102_8, c102_8, e102, hx102_0, hx102_1, hx102_2, hx102_3, hx102_4, hx102_5, hx102_6, hx102_7, hx102_8, hx102_9, hl102_3, hi102_3, hl102_4, hi102_4, hl102_5, hi102_5, hl102_6, hi102_6, hl102_7, hi102_7, hl102_8, hi102_8⟩ := at_T104 HR0.out x5_1 p102 q102
    obtain rfl : ad101 = ad102 := (by injection e102)
    have HR102_3 := m0_ hi102_3
    have HC102_3 := m0_ hl102_3
    clear hi102_3 hl102_3
    have HR102_4 := m0_ hi102_4
    have HC102_4 := m0_ hl102_4
    clear hi102_4 hl102_4
    have HR102_5 := m0_ hi102_5
    have HC102_5 := m0_ hl102_5
    clear hi102_5 hl102_5
    have HR102_6 := m0_ hi102_6
    have HC102_6 := m0_ hl102_6
    clear hi102_6 hl102_6
    have HR102_7 := m0_ hi102_7
    have HC102_7 := m0_ hl102_7
    clear hi102_7 hl102_7
    have HR102_8 := m0_ hi102_8
    have HC102_8 := m0_ hl102_8
    clear hi102_8 hl102_8
    replace p102 := eq_true p102
    replace q102 := eq_true q102
    have ea_ := Option.some.inj (hx101_3.symm.trans hx102_3)
    injection ea_ with ea_ en_ ec_
    subst ea_
    subst ec_
    clear en_
    have ea_ := Option.some.inj (hx101_4.symm.trans hx102_4)
    injection ea_ with ea_ en_ ec_
    subst ea_
    subst ec_
    clear en_
    have ea_ := Option.some.inj (hx101_5.symm.trans hx102_5)
    injection ea_ with ea_ en_ ec_
    subst ea_
    subst ec_
    clear en_
    have ea_ := Option.some.inj (hx101_6.symm.trans hx102_6)
    injection ea_ with ea_ en_ ec_
    subst ea_
    subst ec_
    clear en_
    have ea_ := Option.some.inj (hx101_7.symm.trans hx102_7)
    injection ea_ with ea_ en_ ec_
    subst ea_
    subst ec_
    clear en_
    have ea_ := Option.some.inj (hx101_8.symm.trans hx102_8)
    injection ea_ with ea_ en_ ec_
    subst ea_
    subst ec_
    clear en_
    have p103 : 0 ≤ (x5_1 : Int) := of_decide_eq_true (by first | (with_reducible assumption) | assumption)
    have q103 : x5_1 < (l0.length : Int) := of_decide_eq_true (by first | (with_reducible assumption) | assumption)
    obtain ⟨ad103, A103_3, c103_3, A103_4, c103_4, A103_5, c103_5, A103_6, c103_6, A103_7, c103_7, A103_8, c103_8, e103, hx103_0, hx103_1, hx103_2, hx103_3, hx103_4, hx103_5, hx103_6, hx103_7, hx103_8, hx103_9, hl103_3, hi103_3, hl103_4, hi103_4, hl103_5, hi103_5, hl103_6, hi103_6, hl103_7, hi103_7, hl103_8, hi103_8⟩ := at_T104 HR0.out x5_1 p103 q103
    obtain rfl : ad101 = ad103 := (by injection e103)
    have HR103_3 := m0_ hi103_3
    have HC103_3 := m0_ hl103_3
    clear hi103_3 hl103_3
    have HR103_4 := m0_ hi103_4
    have HC103_4 := m0_ hl103_4
    clear hi103_4 hl103_4
    have HR103_5 := m0_ hi103_5
    have HC103_5 := m0_ hl103_5
    clear hi103_5 hl103_5
    have HR103_6 := m0_ hi103_6
    have HC103_6 := m0_ hl103_6
    clear hi103_6 hl103_6
    have HR103_7 := m0_ hi103_7
    have HC103_7 := m0_ hl103_7
    clear hi103_7 hl103_7
    have HR103_8 := m0_ hi103_8
    have HC103_8 := m0_ hl103_8
    clear hi103_8 hl103_8
    replace p103 := eq_true p103
    replace q103 := eq_true q103
    have ea_ := Option.some.inj (hx101_3.symm.trans hx103_3)
    injection ea_ with ea_ en_ ec_
    subst ea_
    subst ec_
    clear en_
    have ea_ := Option.some.inj (hx101_4.symm.trans hx103_4)
    injection ea_ with ea_ en_ ec_
    subst ea_
    subst ec_
    clear en_
    have ea_ := Option.some.inj (hx101_5.symm.trans hx103_5)
    injection ea_ with ea_ en_ ec_
    subst ea_
    subst ec_
    clear en_
    have ea_ := Option.some.inj (hx101_6.symm.trans hx103_6)
    injection ea_ with ea_ en_ ec_
    subst ea_
    subst ec_
    clear en_
    have ea_ := Option.some.inj (hx101_7.symm.trans hx103_7)
    injection ea_ with ea_ en_ ec_
    subst ea_
    subst ec_
    clear en_
    have ea_ := Option.some.inj (hx101_8.symm.trans hx103_8)
    injection ea_ with ea_ en_ ec_
    subst ea_
    subst ec_
    clear en_
    have p104 : 0 ≤ (x5_1 : Int) := of_decide_eq_true (by first | (with_reducible assumption) | assumption)
    have q104 : x5_1 < (l0.length : Int) := of_decide_eq_true (by first | (with_reducible assumption) | assumption)
    obtain ⟨ad104, A104_3, c104_3, A104_4, c104_4, A104_5, c104_5, A104_6, c104_6, A104_7, c104_7, A104_8, c104_8, e104, hx104_0, hx104_1, hx104_2, hx104_3, hx104_4, hx104_5, hx104_6, hx104_7, hx104_8, hx104_9, hl104_3, hi104_3, hl104_4, hi104_4, hl104_5, hi104_5, hl104_6, hi104_6, hl104_7, hi104_7, hl104_8, hi104_8⟩ := at_T104 HR0.out x5_1 p104 q104
    obtain rfl : ad101 = ad104 := (by injection e104)
    have HR104_3 := m0_ hi104_3
    have HC104_3 := m0_ hl104_3
    clear hi104_3 hl104_3
    have HR104_4 := m0_ hi104_4
    have HC104_4 := m0_ hl104_4
    clear hi104_4 hl104_4
    have HR104_5 := m0_ hi104_5
    have HC104_5 := m0_ hl104_5
    clear hi104_5 hl104_5
    have HR104_6 := m0_ hi104_6
    have HC104_6 := m0_ hl104_6
    clear hi104_6 hl104_6
    have HR104_7 := m0_ hi104_7
    have HC104_7 := m0_ hl104_7
    clear hi104_7 hl104_7
    have HR104_8 := m0_ hi104_8
    have HC104_8 := m0_ hl104_8
    clear hi104_8 hl104_8
    replace p104 := eq_true p104
    replace q104 := eq_true q104
    have ea_ := Option.some.inj (hx101_3.symm.trans hx104_3)
    injection ea_ with ea_ en_ ec_
    subst ea_
    subst ec_
    clear en_
    have ea_ := Option.some.inj (hx101_4.symm.trans hx104_4)
    injection ea_ with ea_ en_ ec_
    subst ea_
    subst ec_
    clear en_
    have ea_ := Option.some.inj (hx101_5.symm.trans hx104_5)
    injection ea_ with ea_ en_ ec_
    subst ea_
    subst ec_
    clear en_
    have ea_ := Option.some.inj (hx101_6.symm.trans hx104_6)
    injection ea_ with ea_ en_ ec_
    subst ea_
    subst ec_
    clear en_
    have ea_ := Option.some.inj (hx101_7.symm.trans hx104_7)
    injection ea_ with ea_ en_ ec_
    subst ea_
    subst ec_
    clear en_
    have ea_ := Option.some.inj (hx101_8.symm.trans hx104_8)
    injection ea_ with ea_ en_ ec_
    subst ea_
    subst ec_
    clear en_
    go_wp2_with (first | ((with_reducible refine gate_callee (f := 30) rfl ?_);refine goesL_ (some 45) rfl rfl Try.func30 (by kernel_rfl) rfl #[.slice A101_3 ((rd_T104 l0 x5_1).f3).length c101_3, .int .i64 (wrap64 ((wrap64 ((wrap64 (x1_1 + 1)) + 1)) + 1))] rfl (by (try simp only [List.map_toArray, List.map_cons, List.map_nil]);first | done | rfl | (simp only [List.length_drop, List.length_take];rfl)) ?_;(with_reducible refine (laws_heldIntS.calls k1 _ _ ((rd_T104 l0 x5_1).f3) (wrap64 ((wrap64 ((wrap64 (x1_1 + 1)) + 1)) + 1)) t105 _ ?side1 ?side2 A8.out).mono ?_);(case side1 => repeat (first | exact HR104_3.out | (with_reducible refine Kd.C_alloc ?_ _) | (with_reducible refine Kd.C_drewN ?_ _) | (with_reducible refine Kd.C_drew ?_)));(case side2 => exact HC104_3.out);rintro e w' ⟨rfl, ⟨nd, rfl⟩⟩;refine ⟨_, rfl, ?_⟩;have p106 : 0 ≤ (x5_1 : Int) := of_decide_eq_true (by first | (with_reducible assumption) | assumption);have q106 : x5_1 < (l0.length : Int) := of_decide_eq_true (by first | (with_reducible assumption) | assumption);obtain ⟨ad106, A106_3, c106_3, A106_4, c106_4, A106_5, c106_5, A106_6, c106_6, A106_7, c106_7, A106_8, c106_8, e106, hx106_0, hx106_1, hx106_2, hx106_3, hx106_4, hx106_5, hx106_6, hx106_7, hx106_8, hx106_9, hl106_3, hi106_3, hl106_4, hi106_4, hl106_5, hi106_5, hl106_6, hi106_6, hl106_7, hi106_7, hl106_8, hi106_8⟩ := at_T104 HR0.out x5_1 p106 q106;obtain rfl : ad101 = ad106 := (by injection e106);have HR106_3 := m0_ hi106_3;have HC106_3 := m0_ hl106_3;clear hi106_3 hl106_3;have HR106_4 := m0_ hi106_4;have HC106_4 := m0_ hl106_4;clear hi106_4 hl106_4;have HR106_5 := m0_ hi106_5;have HC106_5 := m0_ hl106_5;clear hi106_5 hl106_5;have HR106_6 := m0_ hi106_6;have HC106_6 := m0_ hl106_6;clear hi106_6 hl106_6;have HR106_7 := m0_ hi106_7;have HC106_7 := m0_ hl106_7;clear hi106_7 hl106_7;have HR106_8 := m0_ hi106_8;have HC106_8 := m0_ hl106_8;clear hi106_8 hl106_8;replace p106 := eq_true p106;replace q106 := eq_true q106;have ea_ := Option.some.inj (hx101_3.symm.trans hx106_3);injection ea_ with ea_ en_ ec_;subst ea_;subst ec_;clear en_;have ea_ := Option.some.inj (hx101_4.symm.trans hx106_4);injection ea_ with ea_ en_ ec_;subst ea_;subst ec_;clear en_;have ea_ := Option.some.inj (hx101_5.symm.trans hx106_5);injection ea_ with ea_ en_ ec_;subst ea_;subst ec_;clear en_;have ea_ := Option.some.inj (hx101_6.symm.trans hx106_6);injection ea_ with ea_ en_ ec_;subst ea_;subst ec_;clear en_;have ea_ := Option.some.inj (hx101_7.symm.trans hx106_7);injection ea_ with ea_ en_ ec_;subst ea_;subst ec_;clear en_;have ea_ := Option.some.inj (hx101_8.symm.trans hx106_8);injection ea_ with ea_ en_ ec_;subst ea_;subst ec_;clear en_) | ((with_reducible refine gate_callee (f := 107) rfl ?_);refine goesL_ (some 55) rfl rfl Try.func107 (by kernel_rfl) rfl #[.slice A101_4 ((rd_T104 l0 x5_1).f4.f0).length c101_4, .int .i64 t105] rfl (by (try simp only [List.map_toArray, List.map_cons, List.map_nil]);first | done | rfl | (simp only [List.length_drop, List.length_take];rfl)) ?_;(with_reducible refine (laws_heldOccS.calls k1 _ _ ((rd_T104 l0 x5_1).f4.f0) t105 t107 _ ?side1 ?side2 A10.out).mono ?_);(case side1 => repeat (first | exact HR106_4.out | (with_reducible refine Kd.C_alloc ?_ _) | (with_reducible refine Kd.C_drewN ?_ _) | (with_reducible refine Kd.C_drew ?_)));(case side2 => exact HC106_4.out);rintro e w' ⟨rfl, ⟨nd, rfl⟩⟩;refine ⟨_, rfl, ?_⟩;have p108 : 0 ≤ (x5_1 : Int) := of_decide_eq_true (by first | (with_reducible assumption) | assumption);have q108 : x5_1 < (l0.length : Int) := of_decide_eq_true (by first | (with_reducible assumption) | assumption);obtain ⟨ad108, A108_3, c108_3, A108_4, c108_4, A108_5, c108_5, A108_6, c108_6, A108_7, c108_7, A108_8, c108_8, e108, hx108_0, hx108_1, hx108_2, hx108_3, hx108_4, hx108_5, hx108_6, hx108_7, hx108_8, hx108_9, hl108_3, hi108_3, hl108_4, hi108_4, hl108_5, hi108_5, hl108_6, hi108_6, hl108_7, hi108_7, hl108_8, hi108_8⟩ := at_T104 HR0.out x5_1 p108 q108;obtain rfl : ad101 = ad108 := (by injection e108);have HR108_3 := m0_ hi108_3;have HC108_3 := m0_ hl108_3;clear hi108_3 hl108_3;have HR108_4 := m0_ hi108_4;have HC108_4 := m0_ hl108_4;clear hi108_4 hl108_4;have HR108_5 := m0_ hi108_5;have HC108_5 := m0_ hl108_5;clear hi108_5 hl108_5;have HR108_6 := m0_ hi108_6;have HC108_6 := m0_ hl108_6;clear hi108_6 hl108_6;have HR108_7 := m0_ hi108_7;have HC108_7 := m0_ hl108_7;clear hi108_7 hl108_7;have HR108_8 := m0_ hi108_8;have HC108_8 := m0_ hl108_8;clear hi108_8 hl108_8;replace p108 := eq_true p108;replace q108 := eq_true q108;have ea_ := Option.some.inj (hx101_3.symm.trans hx108_3);injection ea_ with ea_ en_ ec_;subst ea_;subst ec_;clear en_;have ea_ := Option.some.inj (hx101_4.symm.trans hx108_4);injection ea_ with ea_ en_ ec_;subst ea_;subst ec_;clear en_;have ea_ := Option.some.inj (hx101_5.symm.trans hx108_5);injection ea_ with ea_ en_ ec_;subst ea_;subst ec_;clear en_;have ea_ := Option.some.inj (hx101_6.symm.trans hx108_6);injection ea_ with ea_ en_ ec_;subst ea_;subst ec_;clear en_;have ea_ := Option.some.inj (hx101_7.symm.trans hx108_7);injection ea_ with ea_ en_ ec_;subst ea_;subst ec_;clear en_;have ea_ := Option.some.inj (hx101_8.symm.trans hx108_8);injection ea_ with ea_ en_ ec_;subst ea_;subst ec_;clear en_) | ((with_reducible refine gate_callee (f := 107) rfl ?_);refine goesL_ (some 65) rfl rfl Try.func107 (by kernel_rfl) rfl #[.slice A101_5 ((rd_T104 l0 x5_1).f4.f1).length c101_5, .int .i64 t107] rfl (by (try simp only [List.map_toArray, List.map_cons, List.map_nil]);first | done | rfl | (simp only [List.length_drop, List.length_take];rfl)) ?_;(with_reducible refine (laws_heldOccS.calls k1 _ _ ((rd_T104 l0 x5_1).f4.f1) t107 t109 _ ?side1 ?side2 A12.out).mono ?_);(case side1 => repeat (first | exact HR108_5.out | (with_reducible refine Kd.C_alloc ?_ _) | (with_reducible refine Kd.C_drewN ?_ _) | (with_reducible refine Kd.C_drew ?_)));(case side2 => exact HC108_5.out);rintro e w' ⟨rfl, ⟨nd, rfl⟩⟩;refine ⟨_, rfl, ?_⟩;have p110 : 0 ≤ (x5_1 : Int) := of_decide_eq_true (by first | (with_reducible assumption) | assumption);have q110 : x5_1 < (l0.length : Int) := of_decide_eq_true (by first | (with_reducible assumption) | assumption);obtain ⟨ad110, A110_3, c110_3, A110_4, c110_4, A110_5, c110_5, A110_6, c110_6, A110_7, c110_7, A110_8, c110_8, e110, hx110_0, hx110_1, hx110_2, hx110_3, hx110_4, hx110_5, hx110_6, hx110_7, hx110_8, hx110_9, hl110_3, hi110_3, hl110_4, hi110_4, hl110_5, hi110_5, hl110_6, hi110_6, hl110_7, hi110_7, hl110_8, hi110_8⟩ := at_T104 HR0.out x5_1 p110 q110;obtain rfl : ad101 = ad110 := (by injection e110);have HR110_3 := m0_ hi110_3;have HC110_3 := m0_ hl110_3;clear hi110_3 hl110_3;have HR110_4 := m0_ hi110_4;have HC110_4 := m0_ hl110_4;clear hi110_4 hl110_4;have HR110_5 := m0_ hi110_5;have HC110_5 := m0_ hl110_5;clear hi110_5 hl110_5;have HR110_6 := m0_ hi110_6;have HC110_6 := m0_ hl110_6;clear hi110_6 hl110_6;have HR110_7 := m0_ hi110_7;have HC110_7 := m0_ hl110_7;clear hi110_7 hl110_7;have HR110_8 := m0_ hi110_8;have HC110_8 := m0_ hl110_8;clear hi110_8 hl110_8;replace p110 := eq_true p110;replace q110 := eq_true q110;have ea_ := Option.some.inj (hx101_3.symm.trans hx110_3);injection ea_ with ea_ en_ ec_;subst ea_;subst ec_;clear en_;have ea_ := Option.some.inj (hx101_4.symm.trans hx110_4);injection ea_ with ea_ en_ ec_;subst ea_;subst ec_;clear en_;have ea_ := Option.some.inj (hx101_5.symm.trans hx110_5);injection ea_ with ea_ en_ ec_;subst ea_;subst ec_;clear en_;have ea_ := Option.some.inj (hx101_6.symm.trans hx110_6);injection ea_ with ea_ en_ ec_;subst ea_;subst ec_;clear en_;have ea_ := Option.some.inj (hx101_7.symm.trans hx110_7);injection ea_ with ea_ en_ ec_;subst ea_;subst ec_;clear en_;have ea_ := Option.some.inj (hx101_8.symm.trans hx110_8);injection ea_ with ea_ en_ ec_;subst ea_;subst ec_;clear en_) | ((with_reducible refine gate_callee (f := 107) rfl ?_);refine goesL_ (some 75) rfl rfl Try.func107 (by kernel_rfl) rfl #[.slice A101_6 ((rd_T104 l0 x5_1).f5.f0).length c101_6, .int .i64 t109] rfl (by (try simp only [List.map_toArray, List.map_cons, List.map_nil]);first | done | rfl | (simp only [List.length_drop, List.length_take];rfl)) ?_;(with_reducible refine (laws_heldOccS.calls k1 _ _ ((rd_T104 l0 x5_1).f5.f0) t109 t111 _ ?side1 ?side2 A14.out).mono ?_);(case side1 => repeat (first | exact HR110_6.out | (with_reducible refine Kd.C_alloc ?_ _) | (with_reducible refine Kd.C_drewN ?_ _) | (with_reducible refine Kd.C_drew ?_)));(case side2 => exact HC110_6.out);rintro e w' ⟨rfl, ⟨nd, rfl⟩⟩;refine ⟨_, rfl, ?_⟩;have p112 : 0 ≤ (x5_1 : Int) := of_decide_eq_true (by first | (with_reducible assumption) | assumption);have q112 : x5_1 < (l0.length : Int) := of_decide_eq_true (by first | (with_reducible assumption) | assumption);obtain ⟨ad112, A112_3, c112_3, A112_4, c112_4, A112_5, c112_5, A112_6, c112_6, A112_7, c112_7, A112_8, c112_8, e112, hx112_0, hx112_1, hx112_2, hx112_3, hx112_4, hx112_5, hx112_6, hx112_7, hx112_8, hx112_9, hl112_3, hi112_3, hl112_4, hi112_4, hl112_5, hi112_5, hl112_6, hi112_6, hl112_7, hi112_7, hl112_8, hi112_8⟩ := at_T104 HR0.out x5_1 p112 q112;obtain rfl : ad101 = ad112 := (by injection e112);have HR112_3 := m0_ hi112_3;have HC112_3 := m0_ hl112_3;clear hi112_3 hl112_3;have HR112_4 := m0_ hi112_4;have HC112_4 := m0_ hl112_4;clear hi112_4 hl112_4;have HR112_5 := m0_ hi112_5;have HC112_5 := m0_ hl112_5;clear hi112_5 hl112_5;have HR112_6 := m0_ hi112_6;have HC112_6 := m0_ hl112_6;clear hi112_6 hl112_6;have HR112_7 := m0_ hi112_7;have HC112_7 := m0_ hl112_7;clear hi112_7 hl112_7;have HR112_8 := m0_ hi112_8;have HC112_8 := m0_ hl112_8;clear hi112_8 hl112_8;replace p112 := eq_true p112;replace q112 := eq_true q112;have ea_ := Option.some.inj (hx101_3.symm.trans hx112_3);injection ea_ with ea_ en_ ec_;subst ea_;subst ec_;clear en_;have ea_ := Option.some.inj (hx101_4.symm.trans hx112_4);injection ea_ with ea_ en_ ec_;subst ea_;subst ec_;clear en_;have ea_ := Option.some.inj (hx101_5.symm.trans hx112_5);injection ea_ with ea_ en_ ec_;subst ea_;subst ec_;clear en_;have ea_ := Option.some.inj (hx101_6.symm.trans hx112_6);injection ea_ with ea_ en_ ec_;subst ea_;subst ec_;clear en_;have ea_ := Option.some.inj (hx101_7.symm.trans hx112_7);injection ea_ with ea_ en_ ec_;subst ea_;subst ec_;clear en_;have ea_ := Option.some.inj (hx101_8.symm.trans hx112_8);injection ea_ with ea_ en_ ec_;subst ea_;subst ec_;clear en_) | ((with_reducible refine gate_callee (f := 107) rfl ?_);refine goesL_ (some 85) rfl rfl Try.func107 (by kernel_rfl) rfl #[.slice A101_7 ((rd_T104 l0 x5_1).f5.f1).length c101_7, .int .i64 t111] rfl (by (try simp only [List.map_toArray, List.map_cons, List.map_nil]);first | done | rfl | (simp only [List.length_drop, List.length_take];rfl)) ?_;(with_reducible refine (laws_heldOccS.calls k1 _ _ ((rd_T104 l0 x5_1).f5.f1) t111 t113 _ ?side1 ?side2 A16.out).mono ?_);(case side1 => repeat (first | exact HR112_7.out | (with_reducible refine Kd.C_alloc ?_ _) | (with_reducible refine Kd.C_drewN ?_ _) | (with_reducible refine Kd.C_drew ?_)));(case side2 => exact HC112_7.out);rintro e w' ⟨rfl, ⟨nd, rfl⟩⟩;refine ⟨_, rfl, ?_⟩))
    go_ret
    exact ⟨by first | rfl | (simp;done) | (simp [*];done), by repeat (first | exact Drawn0.refl _ | apply Drawn0.step)⟩
   rw [if_neg c17] at H
   have c17b0 : decide (t113 < 0) = false := decide_eq_false c17
   clear c17
   replace H := Option.bind_eq_some_iff.mp H
   obtain ⟨t115, A180, H⟩ := H
   replace H : (if t115 < 0 then (some (-1)) else (if ((rd_T104 l0 x5_1).f7) = t115 then (laws_heldNodeS.l0 k1 l0 (wrap64 (t115 + 1)) (wrap64 (x5_1 + 1))) else (some (-1)))) = some r := H
   have A18 := m0_ A180
   clear A180
   by_cases c19 : t115 < 0
   ·rw [if_pos c19] at H
    have c19b0 : decide (t115 < 0) = true := decide_eq_true c19
    clear c19
    obtain rfl := Option.some.inj H
    have p101 : 0 ≤ (x5_1 : Int) := of_decide_eq_true (by first | (with_reducible assumption) | assumption)
    have q101 : x5_1 < (l0.length : Int) := of_decide_eq_true (by first | (with_reducible assumption) | assumption)
    obtain ⟨ad101, A101_3, c101_3, A101_4, c101_4, A101_5, c101_5, A101_6, c101_6, A101_7, c101_7, A101_8, c101_8, e101, hx101_0, hx101_1, hx101_2, hx101_3, hx101_4, hx101_5, hx101_6, hx101_7, hx101_8, hx101_9, hl101_3, hi101_3, hl101_4, hi101_4, hl101_5, hi101_5, hl101_6, hi101_6, hl101_7, hi101_7, hl101_8, hi101_8⟩ := at_T104 HR0.out x5_1 p101 q101
    cases e101
    have HR101_3 := m0_ hi101_3
    have HC101_3 := m0_ hl101_3
    clear hi101_3 hl101_3
    have HR101_4 := m0_ hi101_4
    have HC101_4 := m0_ hl101_4
    clear hi101_4 hl101_4
    have HR101_5 := m0_ hi101_5
    have HC101_5 := m0_ hl101_5
    clear hi101_5 hl101_5
    have HR101_6 := m0_ hi101_6
    have HC101_6 := m0_ hl101_6
    clear hi101_6 hl101_6
    have HR101_7 := m0_ hi101_7
    have HC101_7 := m0_ hl101_7
    clear hi101_7 hl101_7
    have HR101_8 := m0_ hi101_8
    have HC101_8 := m0_ hl101_8
    clear hi101_8 hl101_8
    replace p101 := eq_true p101
    replace q101 := eq_true q101
    have p102 : 0 ≤ (x5_1 : Int) := of_decide_eq_true (by first | (with_reducible assumption) | assumption)
    have q102 : x5_1 < (l0.length : Int) := of_decide_eq_true (by first | (with_reducible assumption) | assumption)
    obtain ⟨ad102, A102_3, c102_3, A102_4, c102_4, A102_5, c102_5, A102_6, c102_6, A102_7, c102_7, A102_8, c102_8, e102, hx102_0, hx102_1, hx102_2, hx102_3, hx102_4, hx102_5, hx102_6, hx102_7, hx102_8, hx102_9, hl102_3, hi102_3, hl102_4, hi102_4, hl102_5, hi102_5, hl102_6, hi102_6, hl102_7, hi102_7, hl102_8, hi102_8⟩ := at_T104 HR0.out x5_1 p102 q102
    obtain rfl : ad101 = ad102 := (by injection e102)
    have HR102_3 := m0_ hi102_3
    have HC102_3 := m0_ hl102_3
    clear hi102_3 hl102_3
    have HR102_4 := m0_ hi102_4
    have HC102_4 := m0_ hl102_4
    clear hi102_4 hl102_4
    have HR102_5 := m0_ hi102_5
    have HC102_5 := m0_ hl102_5
    clear hi102_5 hl102_5
    have HR102_6 := m0_ hi102_6
    have HC102_6 := m0_ hl102_6
    clear hi102_6 hl102_6
    have HR102_7 := m0_ hi102_7
    have HC102_7 := m0_ hl102_7
    clear hi102_7 hl102_7
    have HR102_8 := m0_ hi102_8
    have HC102_8 := m0_ hl102_8
    clear hi102_8 hl102_8
    replace p102 := eq_true p102
    replace q102 := eq_true q102
    have ea_ := Option.some.inj (hx101_3.symm.trans hx102_3)
    injection ea_ with ea_ en_ ec_
    subst ea_
    subst ec_
    clear en_
    have ea_ := Option.some.inj (hx101_4.symm.trans hx102_4)
    injection ea_ with ea_ en_ ec_
    subst ea_
    subst ec_
    clear en_
    have ea_ := Option.some.inj (hx101_5.symm.trans hx102_5)
    injection ea_ with ea_ en_ ec_
    subst ea_
    subst ec_
    clear en_
    have ea_ := Option.some.inj (hx101_6.symm.trans hx102_6)
    injection ea_ with ea_ en_ ec_
    subst ea_
    subst ec_
    clear en_
    have ea_ := Option.some.inj (hx101_7.symm.trans hx102_7)
    injection ea_ with ea_ en_ ec_
    subst ea_
    subst ec_
    clear en_
    have ea_ := Option.some.inj (hx101_8.symm.trans hx102_8)
    injection ea_ with ea_ en_ ec_
    subst ea_
    subst ec_
    clear en_
    have p103 : 0 ≤ (x5_1 : Int) := of_decide_eq_true (by first | (with_reducible assumption) | assumption)
    have q103 : x5_1 < (l0.length : Int) := of_decide_eq_true (by first | (with_reducible assumption) | assumption)
    obtain ⟨ad103, A103_3, c103_3, A103_4, c103_4, A103_5, c103_5, A103_6, c103_6, A103_7, c103_7, A103_8, c103_8, e103, hx103_0, hx103_1, hx103_2, hx103_3, hx103_4, hx103_5, hx103_6, hx103_7, hx103_8, hx103_9, hl103_3, hi103_3, hl103_4, hi103_4, hl103_5, hi103_5, hl103_6, hi103_6, hl103_7, hi103_7, hl103_8, hi103_8⟩ := at_T104 HR0.out x5_1 p103 q103
    obtain rfl : ad101 = ad103 := (by injection e103)
    have HR103_3 := m0_ hi103_3
    have HC103_3 := m0_ hl103_3
    clear hi103_3 hl103_3
    have HR103_4 := m0_ hi103_4
    have HC103_4 := m0_ hl103_4
    clear hi103_4 hl103_4
    have HR103_5 := m0_ hi103_5
    have HC103_5 := m0_ hl103_5
    clear hi103_5 hl103_5
    have HR103_6 := m0_ hi103_6
    have HC103_6 := m0_ hl103_6
    clear hi103_6 hl103_6
    have HR103_7 := m0_ hi103_7
    have HC103_7 := m0_ hl103_7
    clear hi103_7 hl103_7
    have HR103_8 := m0_ hi103_8
    have HC103_8 := m0_ hl103_8
    clear hi103_8 hl103_8
    replace p103 := eq_true p103
    replace q103 := eq_true q103
    have ea_ := Option.some.inj (hx101_3.symm.trans hx103_3)
    injection ea_ with ea_ en_ ec_
    subst ea_
    subst ec_
    clear en_
    have ea_ := Option.some.inj (hx101_4.symm.trans hx103_4)
    injection ea_ with ea_ en_ ec_
    subst ea_
    subst ec_
    clear en_
    have ea_ := Option.some.inj (hx101_5.symm.trans hx103_5)
    injection ea_ with ea_ en_ ec_
    subst ea_
    subst ec_
    clear en_
    have ea_ := Option.some.inj (hx101_6.symm.trans hx103_6)
    injection ea_ with ea_ en_ ec_
    subst ea_
    subst ec_
    clear en_
    have ea_ := Option.some.inj (hx101_7.symm.trans hx103_7)
    injection ea_ with ea_ en_ ec_
    subst ea_
    subst ec_
    clear en_
    have ea_ := Option.some.inj (hx101_8.symm.trans hx103_8)
    injection ea_ with ea_ en_ ec_
    subst ea_
    subst ec_
    clear en_
    have p104 : 0 ≤ (x5_1 : Int) := of_decide_eq_true (by first | (with_reducible assumption) | assumption)
    have q104 : x5_1 < (l0.length : Int) := of_decide_eq_true (by first | (with_reducible assumption) | assumption)
    obtain ⟨ad104, A104_3, c104_3, A104_4, c104_4, A104_5, c104_5, A104_6, c104_6, A104_7, c104_7, A104_8, c104_8, e104, hx104_0, hx104_1, hx104_2, hx104_3, hx104_4, hx104_5, hx104_6, hx104_7, hx104_8, hx104_9, hl104_3, hi104_3, hl104_4, hi104_4, hl104_5, hi104_5, hl104_6, hi104_6, hl104_7, hi104_7, hl104_8, hi104_8⟩ := at_T104 HR0.out x5_1 p104 q104
    obtain rfl : ad101 = ad104 := (by injection e104)
    have HR104_3 := m0_ hi104_3
    have HC104_3 := m0_ hl104_3
    clear hi104_3 hl104_3
    have HR104_4 := m0_ hi104_4
    have HC104_4 := m0_ hl104_4
    clear hi104_4 hl104_4
    have HR104_5 := m0_ hi104_5
    have HC104_5 := m0_ hl104_5
    clear hi104_5 hl104_5
    have HR104_6 := m0_ hi104_6
    have HC104_6 := m0_ hl104_6
    clear hi104_6 hl104_6
    have HR104_7 := m0_ hi104_7
    have HC104_7 := m0_ hl104_7
    clear hi104_7 hl104_7
    have HR104_8 := m0_ hi104_8
    have HC104_8 := m0_ hl104_8
    clear hi104_8 hl104_8
    replace p104 := eq_true p104
    replace q104 := eq_true q104
    have ea_ := Option.some.inj (hx101_3.symm.trans hx104_3)
    injection ea_ with ea_ en_ ec_
    subst ea_
    subst ec_
    clear en_
    have ea_ := Option.some.inj (hx101_4.symm.trans hx104_4)
    injection ea_ with ea_ en_ ec_
    subst ea_
    subst ec_
    clear en_
    have ea_ := Option.some.inj (hx101_5.symm.trans hx104_5)
    injection ea_ with ea_ en_ ec_
    subst ea_
    subst ec_
    clear en_
    have ea_ := Option.some.inj (hx101_6.symm.trans hx104_6)
    injection ea_ with ea_ en_ ec_
    subst ea_
    subst ec_
    clear en_
    have ea_ := Option.some.inj (hx101_7.symm.trans hx104_7)
    injection ea_ with ea_ en_ ec_
    subst ea_
    subst ec_
    clear en_
    have ea_ := Option.some.inj (hx101_8.symm.trans hx104_8)
    injection ea_ with ea_ en_ ec_
    subst ea_
    subst ec_
    clear en_
    go_wp2_with (first | ((with_reducible refine gate_callee (f := 30) rfl ?_);refine goesL_ (some 45) rfl rfl Try.func30 (by kernel_rfl) rfl #[.slice A101_3 ((rd_T104 l0 x5_1).f3).length c101_3, .int .i64 (wrap64 ((wrap64 ((wrap64 (x1_1 + 1)) + 1)) + 1))] rfl (by (try simp only [List.map_toArray, List.map_cons, List.map_nil]);first | done | rfl | (simp only [List.length_drop, List.length_take];rfl)) ?_;(with_reducible refine (laws_heldIntS.calls k1 _ _ ((rd_T104 l0 x5_1).f3) (wrap64 ((wrap64 ((wrap64 (x1_1 + 1)) + 1)) + 1)) t105 _ ?side1 ?side2 A8.out).mono ?_);(case side1 => repeat (first | exact HR104_3.out | (with_reducible refine Kd.C_alloc ?_ _) | (with_reducible refine Kd.C_drewN ?_ _) | (with_reducible refine Kd.C_drew ?_)));(case side2 => exact HC104_3.out);rintro e w' ⟨rfl, ⟨nd, rfl⟩⟩;refine ⟨_, rfl, ?_⟩;have p106 : 0 ≤ (x5_1 : Int) := of_decide_eq_true (by first | (with_reducible assumption) | assumption);have q106 : x5_1 < (l0.length : Int) := of_decide_eq_true (by first | (with_reducible assumption) | assumption);obtain ⟨ad106, A106_3, c106_3, A106_4, c106_4, A106_5, c106_5, A106_6, c106_6, A106_7, c106_7, A106_8, c106_8, e106, hx106_0, hx106_1, hx106_2, hx106_3, hx106_4, hx106_5, hx106_6, hx106_7, hx106_8, hx106_9, hl106_3, hi106_3, hl106_4, hi106_4, hl106_5, hi106_5, hl106_6, hi106_6, hl106_7, hi106_7, hl106_8, hi106_8⟩ := at_T104 HR0.out x5_1 p106 q106;obtain rfl : ad101 = ad106 := (by injection e106);have HR106_3 := m0_ hi106_3;have HC106_3 := m0_ hl106_3;clear hi106_3 hl106_3;have HR106_4 := m0_ hi106_4;have HC106_4 := m0_ hl106_4;clear hi106_4 hl106_4;have HR106_5 := m0_ hi106_5;have HC106_5 := m0_ hl106_5;clear hi106_5 hl106_5;have HR106_6 := m0_ hi106_6;have HC106_6 := m0_ hl106_6;clear hi106_6 hl106_6;have HR106_7 := m0_ hi106_7;have HC106_7 := m0_ hl106_7;clear hi106_7 hl106_7;have HR106_8 := m0_ hi106_8;have HC106_8 := m0_ hl106_8;clear hi106_8 hl106_8;replace p106 := eq_true p106;replace q106 := eq_true q106;have ea_ := Option.some.inj (hx101_3.symm.trans hx106_3);injection ea_ with ea_ en_ ec_;subst ea_;subst ec_;clear en_;have ea_ := Option.some.inj (hx101_4.symm.trans hx106_4);injection ea_ with ea_ en_ ec_;subst ea_;subst ec_;clear en_;have ea_ := Option.some.inj (hx101_5.symm.trans hx106_5);injection ea_ with ea_ en_ ec_;subst ea_;subst ec_;clear en_;have ea_ := Option.some.inj (hx101_6.symm.trans hx106_6);injection ea_ with ea_ en_ ec_;subst ea_;subst ec_;clear en_;have ea_ := Option.some.inj (hx101_7.symm.trans hx106_7);injection ea_ with ea_ en_ ec_;subst ea_;subst ec_;clear en_;have ea_ := Option.some.inj (hx101_8.symm.trans hx106_8);injection ea_ with ea_ en_ ec_;subst ea_;subst ec_;clear en_) | ((with_reducible refine gate_callee (f := 107) rfl ?_);refine goesL_ (some 55) rfl rfl Try.func107 (by kernel_rfl) rfl #[.slice A101_4 ((rd_T104 l0 x5_1).f4.f0).length c101_4, .int .i64 t105] rfl (by (try simp only [List.map_toArray, List.map_cons, List.map_nil]);first | done | rfl | (simp only [List.length_drop, List.length_take];rfl)) ?_;(with_reducible refine (laws_heldOccS.calls k1 _ _ ((rd_T104 l0 x5_1).f4.f0) t105 t107 _ ?side1 ?side2 A10.out).mono ?_);(case side1 => repeat (first | exact HR106_4.out | (with_reducible refine Kd.C_alloc ?_ _) | (with_reducible refine Kd.C_drewN ?_ _) | (with_reducible refine Kd.C_drew ?_)));(case side2 => exact HC106_4.out);rintro e w' ⟨rfl, ⟨nd, rfl⟩⟩;refine ⟨_, rfl, ?_⟩;have p108 : 0 ≤ (x5_1 : Int) := of_decide_eq_true (by first | (with_reducible assumption) | assumption);have q108 : x5_1 < (l0.length : Int) := of_decide_eq_true (by first | (with_reducible assumption) | assumption);obtain ⟨ad108, A108_3, c108_3, A108_4, c108_4, A108_5, c108_5, A108_6, c108_6, A108_7, c108_7, A108_8, c108_8, e108, hx108_0, hx108_1, hx108_2, hx108_3, hx108_4, hx108_5, hx108_6, hx108_7, hx108_8, hx108_9, hl108_3, hi108_3, hl108_4, hi108_4, hl108_5, hi108_5, hl108_6, hi108_6, hl108_7, hi108_7, hl108_8, hi108_8⟩ := at_T104 HR0.out x5_1 p108 q108;obtain rfl : ad101 = ad108 := (by injection e108);have HR108_3 := m0_ hi108_3;have HC108_3 := m0_ hl108_3;clear hi108_3 hl108_3;have HR108_4 := m0_ hi108_4;have HC108_4 := m0_ hl108_4;clear hi108_4 hl108_4;have HR108_5 := m0_ hi108_5;have HC108_5 := m0_ hl108_5;clear hi108_5 hl108_5;have HR108_6 := m0_ hi108_6;have HC108_6 := m0_ hl108_6;clear hi108_6 hl108_6;have HR108_7 := m0_ hi108_7;have HC108_7 := m0_ hl108_7;clear hi108_7 hl108_7;have HR108_8 := m0_ hi108_8;have HC108_8 := m0_ hl108_8;clear hi108_8 hl108_8;replace p108 := eq_true p108;replace q108 := eq_true q108;have ea_ := Option.some.inj (hx101_3.symm.trans hx108_3);injection ea_ with ea_ en_ ec_;subst ea_;subst ec_;clear en_;have ea_ := Option.some.inj (hx101_4.symm.trans hx108_4);injection ea_ with ea_ en_ ec_;subst ea_;subst ec_;clear en_;have ea_ := Option.some.inj (hx101_5.symm.trans hx108_5);injection ea_ with ea_ en_ ec_;subst ea_;subst ec_;clear en_;have ea_ := Option.some.inj (hx101_6.symm.trans hx108_6);injection ea_ with ea_ en_ ec_;subst ea_;subst ec_;clear en_;have ea_ := Option.some.inj (hx101_7.symm.trans hx108_7);injection ea_ with ea_ en_ ec_;subst ea_;subst ec_;clear en_;have ea_ := Option.some.inj (hx101_8.symm.trans hx108_8);injection ea_ with ea_ en_ ec_;subst ea_;subst ec_;clear en_) | ((with_reducible refine gate_callee (f := 107) rfl ?_);refine goesL_ (some 65) rfl rfl Try.func107 (by kernel_rfl) rfl #[.slice A101_5 ((rd_T104 l0 x5_1).f4.f1).length c101_5, .int .i64 t107] rfl (by (try simp only [List.map_toArray, List.map_cons, List.map_nil]);first | done | rfl | (simp only [List.length_drop, List.length_take];rfl)) ?_;(with_reducible refine (laws_heldOccS.calls k1 _ _ ((rd_T104 l0 x5_1).f4.f1) t107 t109 _ ?side1 ?side2 A12.out).mono ?_);(case side1 => repeat (first | exact HR108_5.out | (with_reducible refine Kd.C_alloc ?_ _) | (with_reducible refine Kd.C_drewN ?_ _) | (with_reducible refine Kd.C_drew ?_)));(case side2 => exact HC108_5.out);rintro e w' ⟨rfl, ⟨nd, rfl⟩⟩;refine ⟨_, rfl, ?_⟩;have p110 : 0 ≤ (x5_1 : Int) := of_decide_eq_true (by first | (with_reducible assumption) | assumption);have q110 : x5_1 < (l0.length : Int) := of_decide_eq_true (by first | (with_reducible assumption) | assumption);obtain ⟨ad110, A110_3, c110_3, A110_4, c110_4, A110_5, c110_5, A110_6, c110_6, A110_7, c110_7, A110_8, c110_8, e110, hx110_0, hx110_1, hx110_2, hx110_3, hx110_4, hx110_5, hx110_6, hx110_7, hx110_8, hx110_9, hl110_3, hi110_3, hl110_4, hi110_4, hl110_5, hi110_5, hl110_6, hi110_6, hl110_7, hi110_7, hl110_8, hi110_8⟩ := at_T104 HR0.out x5_1 p110 q110;obtain rfl : ad101 = ad110 := (by injection e110);have HR110_3 := m0_ hi110_3;have HC110_3 := m0_ hl110_3;clear hi110_3 hl110_3;have HR110_4 := m0_ hi110_4;have HC110_4 := m0_ hl110_4;clear hi110_4 hl110_4;have HR110_5 := m0_ hi110_5;have HC110_5 := m0_ hl110_5;clear hi110_5 hl110_5;have HR110_6 := m0_ hi110_6;have HC110_6 := m0_ hl110_6;clear hi110_6 hl110_6;have HR110_7 := m0_ hi110_7;have HC110_7 := m0_ hl110_7;clear hi110_7 hl110_7;have HR110_8 := m0_ hi110_8;have HC110_8 := m0_ hl110_8;clear hi110_8 hl110_8;replace p110 := eq_true p110;replace q110 := eq_true q110;have ea_ := Option.some.inj (hx101_3.symm.trans hx110_3);injection ea_ with ea_ en_ ec_;subst ea_;subst ec_;clear en_;have ea_ := Option.some.inj (hx101_4.symm.trans hx110_4);injection ea_ with ea_ en_ ec_;subst ea_;subst ec_;clear en_;have ea_ := Option.some.inj (hx101_5.symm.trans hx110_5);injection ea_ with ea_ en_ ec_;subst ea_;subst ec_;clear en_;have ea_ := Option.some.inj (hx101_6.symm.trans hx110_6);injection ea_ with ea_ en_ ec_;subst ea_;subst ec_;clear en_;have ea_ := Option.some.inj (hx101_7.symm.trans hx110_7);injection ea_ with ea_ en_ ec_;subst ea_;subst ec_;clear en_;have ea_ := Option.some.inj (hx101_8.symm.trans hx110_8);injection ea_ with ea_ en_ ec_;subst ea_;subst ec_;clear en_) | ((with_reducible refine gate_callee (f := 107) rfl ?_);refine goesL_ (some 75) rfl rfl Try.func107 (by kernel_rfl) rfl #[.slice A101_6 ((rd_T104 l0 x5_1).f5.f0).length c101_6, .int .i64 t109] rfl (by (try simp only [List.map_toArray, List.map_cons, List.map_nil]);first | done | rfl | (simp only [List.length_drop, List.length_take];rfl)) ?_;(with_reducible refine (laws_heldOccS.calls k1 _ _ ((rd_T104 l0 x5_1).f5.f0) t109 t111 _ ?side1 ?side2 A14.out).mono ?_);(case side1 => repeat (first | exact HR110_6.out | (with_reducible refine Kd.C_alloc ?_ _) | (with_reducible refine Kd.C_drewN ?_ _) | (with_reducible refine Kd.C_drew ?_)));(case side2 => exact HC110_6.out);rintro e w' ⟨rfl, ⟨nd, rfl⟩⟩;refine ⟨_, rfl, ?_⟩;have p112 : 0 ≤ (x5_1 : Int) := of_decide_eq_true (by first | (with_reducible assumption) | assumption);have q112 : x5_1 < (l0.length : Int) := of_decide_eq_true (by first | (with_reducible assumption) | assumption);obtain ⟨ad112, A112_3, c112_3, A112_4, c112_4, A112_5, c112_5, A112_6, c112_6, A112_7, c112_7, A112_8, c112_8, e112, hx112_0, hx112_1, hx112_2, hx112_3, hx112_4, hx112_5, hx112_6, hx112_7, hx112_8, hx112_9, hl112_3, hi112_3, hl112_4, hi112_4, hl112_5, hi112_5, hl112_6, hi112_6, hl112_7, hi112_7, hl112_8, hi112_8⟩ := at_T104 HR0.out x5_1 p112 q112;obtain rfl : ad101 = ad112 := (by injection e112);have HR112_3 := m0_ hi112_3;have HC112_3 := m0_ hl112_3;clear hi112_3 hl112_3;have HR112_4 := m0_ hi112_4;have HC112_4 := m0_ hl112_4;clear hi112_4 hl112_4;have HR112_5 := m0_ hi112_5;have HC112_5 := m0_ hl112_5;clear hi112_5 hl112_5;have HR112_6 := m0_ hi112_6;have HC112_6 := m0_ hl112_6;clear hi112_6 hl112_6;have HR112_7 := m0_ hi112_7;have HC112_7 := m0_ hl112_7;clear hi112_7 hl112_7;have HR112_8 := m0_ hi112_8;have HC112_8 := m0_ hl112_8;clear hi112_8 hl112_8;replace p112 := eq_true p112;replace q112 := eq_true q112;have ea_ := Option.some.inj (hx101_3.symm.trans hx112_3);injection ea_ with ea_ en_ ec_;subst ea_;subst ec_;clear en_;have ea_ := Option.some.inj (hx101_4.symm.trans hx112_4);injection ea_ with ea_ en_ ec_;subst ea_;subst ec_;clear en_;have ea_ := Option.some.inj (hx101_5.symm.trans hx112_5);injection ea_ with ea_ en_ ec_;subst ea_;subst ec_;clear en_;have ea_ := Option.some.inj (hx101_6.symm.trans hx112_6);injection ea_ with ea_ en_ ec_;subst ea_;subst ec_;clear en_;have ea_ := Option.some.inj (hx101_7.symm.trans hx112_7);injection ea_ with ea_ en_ ec_;subst ea_;subst ec_;clear en_;have ea_ := Option.some.inj (hx101_8.symm.trans hx112_8);injection ea_ with ea_ en_ ec_;subst ea_;subst ec_;clear en_) | ((with_reducible refine gate_callee (f := 107) rfl ?_);refine goesL_ (some 85) rfl rfl Try.func107 (by kernel_rfl) rfl #[.slice A101_7 ((rd_T104 l0 x5_1).f5.f1).length c101_7, .int .i64 t111] rfl (by (try simp only [List.map_toArray, List.map_cons, List.map_nil]);first | done | rfl | (simp only [List.length_drop, List.length_take];rfl)) ?_;(with_reducible refine (laws_heldOccS.calls k1 _ _ ((rd_T104 l0 x5_1).f5.f1) t111 t113 _ ?side1 ?side2 A16.out).mono ?_);(case side1 => repeat (first | exact HR112_7.out | (with_reducible refine Kd.C_alloc ?_ _) | (with_reducible refine Kd.C_drewN ?_ _) | (with_reducible refine Kd.C_drew ?_)));(case side2 => exact HC112_7.out);rintro e w' ⟨rfl, ⟨nd, rfl⟩⟩;refine ⟨_, rfl, ?_⟩;have p114 : 0 ≤ (x5_1 : Int) := of_decide_eq_true (by first | (with_reducible assumption) | assumption);have q114 : x5_1 < (l0.length : Int) := of_decide_eq_true (by first | (with_reducible assumption) | assumption);obtain ⟨ad114, A114_3, c114_3, A114_4, c114_4, A114_5, c114_5, A114_6, c114_6, A114_7, c114_7, A114_8, c114_8, e114, hx114_0, hx114_1, hx114_2, hx114_3, hx114_4, hx114_5, hx114_6, hx114_7, hx114_8, hx114_9, hl114_3, hi114_3, hl114_4, hi114_4, hl114_5, hi114_5, hl114_6, hi114_6, hl114_7, hi114_7, hl114_8, hi114_8⟩ := at_T104 HR0.out x5_1 p114 q114;obtain rfl : ad101 = ad114 := (by injection e114);have HR114_3 := m0_ hi114_3;have HC114_3 := m0_ hl114_3;clear hi114_3 hl114_3;have HR114_4 := m0_ hi114_4;have HC114_4 := m0_ hl114_4;clear hi114_4 hl114_4;have HR114_5 := m0_ hi114_5;have HC114_5 := m0_ hl114_5;clear hi114_5 hl114_5;have HR114_6 := m0_ hi114_6;have HC114_6 := m0_ hl114_6;clear hi114_6 hl114_6;have HR114_7 := m0_ hi114_7;have HC114_7 := m0_ hl114_7;clear hi114_7 hl114_7;have HR114_8 := m0_ hi114_8;have HC114_8 := m0_ hl114_8;clear hi114_8 hl114_8;replace p114 := eq_true p114;replace q114 := eq_true q114;have ea_ := Option.some.inj (hx101_3.symm.trans hx114_3);injection ea_ with ea_ en_ ec_;subst ea_;subst ec_;clear en_;have ea_ := Option.some.inj (hx101_4.symm.trans hx114_4);injection ea_ with ea_ en_ ec_;subst ea_;subst ec_;clear en_;have ea_ := Option.some.inj (hx101_5.symm.trans hx114_5);injection ea_ with ea_ en_ ec_;subst ea_;subst ec_;clear en_;have ea_ := Option.some.inj (hx101_6.symm.trans hx114_6);injection ea_ with ea_ en_ ec_;subst ea_;subst ec_;clear en_;have ea_ := Option.some.inj (hx101_7.symm.trans hx114_7);injection ea_ with ea_ en_ ec_;subst ea_;subst ec_;clear en_;have ea_ := Option.some.inj (hx101_8.symm.trans hx114_8);injection ea_ with ea_ en_ ec_;subst ea_;subst ec_;clear en_) | ((with_reducible refine gate_callee (f := 107) rfl ?_);refine goesL_ (some 94) rfl rfl Try.func107 (by kernel_rfl) rfl #[.slice A101_8 ((rd_T104 l0 x5_1).f6).length c101_8, .int .i64 t113] rfl (by (try simp only [List.map_toArray, List.map_cons, List.map_nil]);first | done | rfl | (simp only [List.length_drop, List.length_take];rfl)) ?_;(with_reducible refine (laws_heldOccS.calls k1 _ _ ((rd_T104 l0 x5_1).f6) t113 t115 _ ?side1 ?side2 A18.out).mono ?_);(case side1 => repeat (first | exact HR114_8.out | (with_reducible refine Kd.C_alloc ?_ _) | (with_reducible refine Kd.C_drewN ?_ _) | (with_reducible refine Kd.C_drew ?_)));(case side2 => exact HC114_8.out);rintro e w' ⟨rfl, ⟨nd, rfl⟩⟩;refine ⟨_, rfl, ?_⟩))
    go_ret
    exact ⟨by first | rfl | (simp;done) | (simp [*];done), by repeat (first | exact Drawn0.refl _ | apply Drawn0.step)⟩
   rw [if_neg c19] at H
   have c19b0 : decide (t115 < 0) = false := decide_eq_false c19
   clear c19
   by_cases c20 : ((rd_T104 l0 x5_1).f7) = t115
   rotate_left
   ·rw [if_neg c20] at H
    have c20b0 : (((rd_T104 l0 x5_1).f7) == t115) = false := beq_eq_false_iff_ne.mpr c20
    have c20b1 : (((rd_T104 l0 x5_1).f7) != t115) = true := bne_iff_ne.mpr c20
    obtain rfl := Option.some.inj H
    have p101 : 0 ≤ (x5_1 : Int) := of_decide_eq_true (by first | (with_reducible assumption) | assumption)
    have q101 : x5_1 < (l0.length : Int) := of_decide_eq_true (by first | (with_reducible assumption) | assumption)
    obtain ⟨ad101, A101_3, c101_3, A101_4, c101_4, A101_5, c101_5, A101_6, c101_6, A101_7, c101_7, A101_8, c101_8, e101, hx101_0, hx101_1, hx101_2, hx101_3, hx101_4, hx101_5, hx101_6, hx101_7, hx101_8, hx101_9, hl101_3, hi101_3, hl101_4, hi101_4, hl101_5, hi101_5, hl101_6, hi101_6, hl101_7, hi101_7, hl101_8, hi101_8⟩ := at_T104 HR0.out x5_1 p101 q101
    cases e101
    have HR101_3 := m0_ hi101_3
    have HC101_3 := m0_ hl101_3
    clear hi101_3 hl101_3
    have HR101_4 := m0_ hi101_4
    have HC101_4 := m0_ hl101_4
    clear hi101_4 hl101_4
    have HR101_5 := m0_ hi101_5
    have HC101_5 := m0_ hl101_5
    clear hi101_5 hl101_5
    have HR101_6 := m0_ hi101_6
    have HC101_6 := m0_ hl101_6
    clear hi101_6 hl101_6
    have HR101_7 := m0_ hi101_7
    have HC101_7 := m0_ hl101_7
    clear hi101_7 hl101_7
    have HR101_8 := m0_ hi101_8
    have HC101_8 := m0_ hl101_8
    clear hi101_8 hl101_8
    replace p101 := eq_true p101
    replace q101 := eq_true q101
    have p102 : 0 ≤ (x5_1 : Int) := of_decide_eq_true (by first | (with_reducible assumption) | assumption)
    have q102 : x5_1 < (l0.length : Int) := of_decide_eq_true (by first | (with_reducible assumption) | assumption)
    obtain ⟨ad102, A102_3, c102_3, A102_4, c102_4, A102_5, c102_5, A102_6, c102_6, A102_7, c102_7, A102_8, c102_8, e102, hx102_0, hx102_1, hx102_2, hx102_3, hx102_4, hx102_5, hx102_6, hx102_7, hx102_8, hx102_9, hl102_3, hi102_3, hl102_4, hi102_4, hl102_5, hi102_5, hl102_6, hi102_6, hl102_7, hi102_7, hl102_8, hi102_8⟩ := at_T104 HR0.out x5_1 p102 q102
    obtain rfl : ad101 = ad102 := (by injection e102)
    have HR102_3 := m0_ hi102_3
    have HC102_3 := m0_ hl102_3
    clear hi102_3 hl102_3
    have HR102_4 := m0_ hi102_4
    have HC102_4 := m0_ hl102_4
    clear hi102_4 hl102_4
    have HR102_5 := m0_ hi102_5
    have HC102_5 := m0_ hl102_5
    clear hi102_5 hl102_5
    have HR102_6 := m0_ hi102_6
    have HC102_6 := m0_ hl102_6
    clear hi102_6 hl102_6
    have HR102_7 := m0_ hi102_7
    have HC102_7 := m0_ hl102_7
    clear hi102_7 hl102_7
    have HR102_8 := m0_ hi102_8
    have HC102_8 := m0_ hl102_8
    clear hi102_8 hl102_8
    replace p102 := eq_true p102
    replace q102 := eq_true q102
    have ea_ := Option.some.inj (hx101_3.symm.trans hx102_3)
    injection ea_ with ea_ en_ ec_
    subst ea_
    subst ec_
    clear en_
    have ea_ := Option.some.inj (hx101_4.symm.trans hx102_4)
    injection ea_ with ea_ en_ ec_
    subst ea_
    subst ec_
    clear en_
    have ea_ := Option.some.inj (hx101_5.symm.trans hx102_5)
    injection ea_ with ea_ en_ ec_
    subst ea_
    subst ec_
    clear en_
    have ea_ := Option.some.inj (hx101_6.symm.trans hx102_6)
    injection ea_ with ea_ en_ ec_
    subst ea_
    subst ec_
    clear en_
    have ea_ := Option.some.inj (hx101_7.symm.trans hx102_7)
    injection ea_ with ea_ en_ ec_
    subst ea_
    subst ec_
    clear en_
    have ea_ := Option.some.inj (hx101_8.symm.trans hx102_8)
    injection ea_ with ea_ en_ ec_
    subst ea_
    subst ec_
    clear en_
    have p103 : 0 ≤ (x5_1 : Int) := of_decide_eq_true (by first | (with_reducible assumption) | assumption)
    have q103 : x5_1 < (l0.length : Int) := of_decide_eq_true (by first | (with_reducible assumption) | assumption)
    obtain ⟨ad103, A103_3, c103_3, A103_4, c103_4, A103_5, c103_5, A103_6, c103_6, A103_7, c103_7, A103_8, c103_8, e103, hx103_0, hx103_1, hx103_2, hx103_3, hx103_4, hx103_5, hx103_6, hx103_7, hx103_8, hx103_9, hl103_3, hi103_3, hl103_4, hi103_4, hl103_5, hi103_5, hl103_6, hi103_6, hl103_7, hi103_7, hl103_8, hi103_8⟩ := at_T104 HR0.out x5_1 p103 q103
    obtain rfl : ad101 = ad103 := (by injection e103)
    have HR103_3 := m0_ hi103_3
    have HC103_3 := m0_ hl103_3
    clear hi103_3 hl103_3
    have HR103_4 := m0_ hi103_4
    have HC103_4 := m0_ hl103_4
    clear hi103_4 hl103_4
    have HR103_5 := m0_ hi103_5
    have HC103_5 := m0_ hl103_5
    clear hi103_5 hl103_5
    have HR103_6 := m0_ hi103_6
    have HC103_6 := m0_ hl103_6
    clear hi103_6 hl103_6
    have HR103_7 := m0_ hi103_7
    have HC103_7 := m0_ hl103_7
    clear hi103_7 hl103_7
    have HR103_8 := m0_ hi103_8
    have HC103_8 := m0_ hl103_8
    clear hi103_8 hl103_8
    replace p103 := eq_true p103
    replace q103 := eq_true q103
    have ea_ := Option.some.inj (hx101_3.symm.trans hx103_3)
    injection ea_ with ea_ en_ ec_
    subst ea_
    subst ec_
    clear en_
    have ea_ := Option.some.inj (hx101_4.symm.trans hx103_4)
    injection ea_ with ea_ en_ ec_
    subst ea_
    subst ec_
    clear en_
    have ea_ := Option.some.inj (hx101_5.symm.trans hx103_5)
    injection ea_ with ea_ en_ ec_
    subst ea_
    subst ec_
    clear en_
    have ea_ := Option.some.inj (hx101_6.symm.trans hx103_6)
    injection ea_ with ea_ en_ ec_
    subst ea_
    subst ec_
    clear en_
    have ea_ := Option.some.inj (hx101_7.symm.trans hx103_7)
    injection ea_ with ea_ en_ ec_
    subst ea_
    subst ec_
    clear en_
    have ea_ := Option.some.inj (hx101_8.symm.trans hx103_8)
    injection ea_ with ea_ en_ ec_
    subst ea_
    subst ec_
    clear en_
    have p104 : 0 ≤ (x5_1 : Int) := of_decide_eq_true (by first | (with_reducible assumption) | assumption)
    have q104 : x5_1 < (l0.length : Int) := of_decide_eq_true (by first | (with_reducible assumption) | assumption)
    obtain ⟨ad104, A104_3, c104_3, A104_4, c104_4, A104_5, c104_5, A104_6, c104_6, A104_7, c104_7, A104_8, c104_8, e104, hx104_0, hx104_1, hx104_2, hx104_3, hx104_4, hx104_5, hx104_6, hx104_7, hx104_8, hx104_9, hl104_3, hi104_3, hl104_4, hi104_4, hl104_5, hi104_5, hl104_6, hi104_6, hl104_7, hi104_7, hl104_8, hi104_8⟩ := at_T104 HR0.out x5_1 p104 q104
    obtain rfl : ad101 = ad104 := (by injection e104)
    have HR104_3 := m0_ hi104_3
    have HC104_3 := m0_ hl104_3
    clear hi104_3 hl104_3
    have HR104_4 := m0_ hi104_4
    have HC104_4 := m0_ hl104_4
    clear hi104_4 hl104_4
    have HR104_5 := m0_ hi104_5
    have HC104_5 := m0_ hl104_5
    clear hi104_5 hl104_5
    have HR104_6 := m0_ hi104_6
    have HC104_6 := m0_ hl104_6
    clear hi104_6 hl104_6
    have HR104_7 := m0_ hi104_7
    have HC104_7 := m0_ hl104_7
    clear hi104_7 hl104_7
    have HR104_8 := m0_ hi104_8
    have HC104_8 := m0_ hl104_8
    clear hi104_8 hl104_8
    replace p104 := eq_true p104
    replace q104 := eq_true q104
    have ea_ := Option.some.inj (hx101_3.symm.trans hx104_3)
    injection ea_ with ea_ en_ ec_
    subst ea_
    subst ec_
    clear en_
    have ea_ := Option.some.inj (hx101_4.symm.trans hx104_4)
    injection ea_ with ea_ en_ ec_
    subst ea_
    subst ec_
    clear en_
    have ea_ := Option.some.inj (hx101_5.symm.trans hx104_5)
    injection ea_ with ea_ en_ ec_
    subst ea_
    subst ec_
    clear en_
    have ea_ := Option.some.inj (hx101_6.symm.trans hx104_6)
    injection ea_ with ea_ en_ ec_
    subst ea_
    subst ec_
    clear en_
    have ea_ := Option.some.inj (hx101_7.symm.trans hx104_7)
    injection ea_ with ea_ en_ ec_
    subst ea_
    subst ec_
    clear en_
    have ea_ := Option.some.inj (hx101_8.symm.trans hx104_8)
    injection ea_ with ea_ en_ ec_
    subst ea_
    subst ec_
    clear en_
    go_wp2_with (first | ((with_reducible refine gate_callee (f := 30) rfl ?_);refine goesL_ (some 45) rfl rfl Try.func30 (by kernel_rfl) rfl #[.slice A101_3 ((rd_T104 l0 x5_1).f3).length c101_3, .int .i64 (wrap64 ((wrap64 ((wrap64 (x1_1 + 1)) + 1)) + 1))] rfl (by (try simp only [List.map_toArray, List.map_cons, List.map_nil]);first | done | rfl | (simp only [List.length_drop, List.length_take];rfl)) ?_;(with_reducible refine (laws_heldIntS.calls k1 _ _ ((rd_T104 l0 x5_1).f3) (wrap64 ((wrap64 ((wrap64 (x1_1 + 1)) + 1)) + 1)) t105 _ ?side1 ?side2 A8.out).mono ?_);(case side1 => repeat (first | exact HR104_3.out | (with_reducible refine Kd.C_alloc ?_ _) | (with_reducible refine Kd.C_drewN ?_ _) | (with_reducible refine Kd.C_drew ?_)));(case side2 => exact HC104_3.out);rintro e w' ⟨rfl, ⟨nd, rfl⟩⟩;refine ⟨_, rfl, ?_⟩;have p106 : 0 ≤ (x5_1 : Int) := of_decide_eq_true (by first | (with_reducible assumption) | assumption);have q106 : x5_1 < (l0.length : Int) := of_decide_eq_true (by first | (with_reducible assumption) | assumption);obtain ⟨ad106, A106_3, c106_3, A106_4, c106_4, A106_5, c106_5, A106_6, c106_6, A106_7, c106_7, A106_8, c106_8, e106, hx106_0, hx106_1, hx106_2, hx106_3, hx106_4, hx106_5, hx106_6, hx106_7, hx106_8, hx106_9, hl106_3, hi106_3, hl106_4, hi106_4, hl106_5, hi106_5, hl106_6, hi106_6, hl106_7, hi106_7, hl106_8, hi106_8⟩ := at_T104 HR0.out x5_1 p106 q106;obtain rfl : ad101 = ad106 := (by injection e106);have HR106_3 := m0_ hi106_3;have HC106_3 := m0_ hl106_3;clear hi106_3 hl106_3;have HR106_4 := m0_ hi106_4;have HC106_4 := m0_ hl106_4;clear hi106_4 hl106_4;have HR106_5 := m0_ hi106_5;have HC106_5 := m0_ hl106_5;clear hi106_5 hl106_5;have HR106_6 := m0_ hi106_6;have HC106_6 := m0_ hl106_6;clear hi106_6 hl106_6;have HR106_7 := m0_ hi106_7;have HC106_7 := m0_ hl106_7;clear hi106_7 hl106_7;have HR106_8 := m0_ hi106_8;have HC106_8 := m0_ hl106_8;clear hi106_8 hl106_8;replace p106 := eq_true p106;replace q106 := eq_true q106;have ea_ := Option.some.inj (hx101_3.symm.trans hx106_3);injection ea_ with ea_ en_ ec_;subst ea_;subst ec_;clear en_;have ea_ := Option.some.inj (hx101_4.symm.trans hx106_4);injection ea_ with ea_ en_ ec_;subst ea_;subst ec_;clear en_;have ea_ := Option.some.inj (hx101_5.symm.trans hx106_5);injection ea_ with ea_ en_ ec_;subst ea_;subst ec_;clear en_;have ea_ := Option.some.inj (hx101_6.symm.trans hx106_6);injection ea_ with ea_ en_ ec_;subst ea_;subst ec_;clear en_;have ea_ := Option.some.inj (hx101_7.symm.trans hx106_7);injection ea_ with ea_ en_ ec_;subst ea_;subst ec_;clear en_;have ea_ := Option.some.inj (hx101_8.symm.trans hx106_8);injection ea_ with ea_ en_ ec_;subst ea_;subst ec_;clear en_) | ((with_reducible refine gate_callee (f := 107) rfl ?_);refine goesL_ (some 55) rfl rfl Try.func107 (by kernel_rfl) rfl #[.slice A101_4 ((rd_T104 l0 x5_1).f4.f0).length c101_4, .int .i64 t105] rfl (by (try simp only [List.map_toArray, List.map_cons, List.map_nil]);first | done | rfl | (simp only [List.length_drop, List.length_take];rfl)) ?_;(with_reducible refine (laws_heldOccS.calls k1 _ _ ((rd_T104 l0 x5_1).f4.f0) t105 t107 _ ?side1 ?side2 A10.out).mono ?_);(case side1 => repeat (first | exact HR106_4.out | (with_reducible refine Kd.C_alloc ?_ _) | (with_reducible refine Kd.C_drewN ?_ _) | (with_reducible refine Kd.C_drew ?_)));(case side2 => exact HC106_4.out);rintro e w' ⟨rfl, ⟨nd, rfl⟩⟩;refine ⟨_, rfl, ?_⟩;have p108 : 0 ≤ (x5_1 : Int) := of_decide_eq_true (by first | (with_reducible assumption) | assumption);have q108 : x5_1 < (l0.length : Int) := of_decide_eq_true (by first | (with_reducible assumption) | assumption);obtain ⟨ad108, A108_3, c108_3, A108_4, c108_4, A108_5, c108_5, A108_6, c108_6, A108_7, c108_7, A108_8, c108_8, e108, hx108_0, hx108_1, hx108_2, hx108_3, hx108_4, hx108_5, hx108_6, hx108_7, hx108_8, hx108_9, hl108_3, hi108_3, hl108_4, hi108_4, hl108_5, hi108_5, hl108_6, hi108_6, hl108_7, hi108_7, hl108_8, hi108_8⟩ := at_T104 HR0.out x5_1 p108 q108;obtain rfl : ad101 = ad108 := (by injection e108);have HR108_3 := m0_ hi108_3;have HC108_3 := m0_ hl108_3;clear hi108_3 hl108_3;have HR108_4 := m0_ hi108_4;have HC108_4 := m0_ hl108_4;clear hi108_4 hl108_4;have HR108_5 := m0_ hi108_5;have HC108_5 := m0_ hl108_5;clear hi108_5 hl108_5;have HR108_6 := m0_ hi108_6;have HC108_6 := m0_ hl108_6;clear hi108_6 hl108_6;have HR108_7 := m0_ hi108_7;have HC108_7 := m0_ hl108_7;clear hi108_7 hl108_7;have HR108_8 := m0_ hi108_8;have HC108_8 := m0_ hl108_8;clear hi108_8 hl108_8;replace p108 := eq_true p108;replace q108 := eq_true q108;have ea_ := Option.some.inj (hx101_3.symm.trans hx108_3);injection ea_ with ea_ en_ ec_;subst ea_;subst ec_;clear en_;have ea_ := Option.some.inj (hx101_4.symm.trans hx108_4);injection ea_ with ea_ en_ ec_;subst ea_;subst ec_;clear en_;have ea_ := Option.some.inj (hx101_5.symm.trans hx108_5);injection ea_ with ea_ en_ ec_;subst ea_;subst ec_;clear en_;have ea_ := Option.some.inj (hx101_6.symm.trans hx108_6);injection ea_ with ea_ en_ ec_;subst ea_;subst ec_;clear en_;have ea_ := Option.some.inj (hx101_7.symm.trans hx108_7);injection ea_ with ea_ en_ ec_;subst ea_;subst ec_;clear en_;have ea_ := Option.some.inj (hx101_8.symm.trans hx108_8);injection ea_ with ea_ en_ ec_;subst ea_;subst ec_;clear en_) | ((with_reducible refine gate_callee (f := 107) rfl ?_);refine goesL_ (some 65) rfl rfl Try.func107 (by kernel_rfl) rfl #[.slice A101_5 ((rd_T104 l0 x5_1).f4.f1).length c101_5, .int .i64 t107] rfl (by (try simp only [List.map_toArray, List.map_cons, List.map_nil]);first | done | rfl | (simp only [List.length_drop, List.length_take];rfl)) ?_;(with_reducible refine (laws_heldOccS.calls k1 _ _ ((rd_T104 l0 x5_1).f4.f1) t107 t109 _ ?side1 ?side2 A12.out).mono ?_);(case side1 => repeat (first | exact HR108_5.out | (with_reducible refine Kd.C_alloc ?_ _) | (with_reducible refine Kd.C_drewN ?_ _) | (with_reducible refine Kd.C_drew ?_)));(case side2 => exact HC108_5.out);rintro e w' ⟨rfl, ⟨nd, rfl⟩⟩;refine ⟨_, rfl, ?_⟩;have p110 : 0 ≤ (x5_1 : Int) := of_decide_eq_true (by first | (with_reducible assumption) | assumption);have q110 : x5_1 < (l0.length : Int) := of_decide_eq_true (by first | (with_reducible assumption) | assumption);obtain ⟨ad110, A110_3, c110_3, A110_4, c110_4, A110_5, c110_5, A110_6, c110_6, A110_7, c110_7, A110_8, c110_8, e110, hx110_0, hx110_1, hx110_2, hx110_3, hx110_4, hx110_5, hx110_6, hx110_7, hx110_8, hx110_9, hl110_3, hi110_3, hl110_4, hi110_4, hl110_5, hi110_5, hl110_6, hi110_6, hl110_7, hi110_7, hl110_8, hi110_8⟩ := at_T104 HR0.out x5_1 p110 q110;obtain rfl : ad101 = ad110 := (by injection e110);have HR110_3 := m0_ hi110_3;have HC110_3 := m0_ hl110_3;clear hi110_3 hl110_3;have HR110_4 := m0_ hi110_4;have HC110_4 := m0_ hl110_4;clear hi110_4 hl110_4;have HR110_5 := m0_ hi110_5;have HC110_5 := m0_ hl110_5;clear hi110_5 hl110_5;have HR110_6 := m0_ hi110_6;have HC110_6 := m0_ hl110_6;clear hi110_6 hl110_6;have HR110_7 := m0_ hi110_7;have HC110_7 := m0_ hl110_7;clear hi110_7 hl110_7;have HR110_8 := m0_ hi110_8;have HC110_8 := m0_ hl110_8;clear hi110_8 hl110_8;replace p110 := eq_true p110;replace q110 := eq_true q110;have ea_ := Option.some.inj (hx101_3.symm.trans hx110_3);injection ea_ with ea_ en_ ec_;subst ea_;subst ec_;clear en_;have ea_ := Option.some.inj (hx101_4.symm.trans hx110_4);injection ea_ with ea_ en_ ec_;subst ea_;subst ec_;clear en_;have ea_ := Option.some.inj (hx101_5.symm.trans hx110_5);injection ea_ with ea_ en_ ec_;subst ea_;subst ec_;clear en_;have ea_ := Option.some.inj (hx101_6.symm.trans hx110_6);injection ea_ with ea_ en_ ec_;subst ea_;subst ec_;clear en_;have ea_ := Option.some.inj (hx101_7.symm.trans hx110_7);injection ea_ with ea_ en_ ec_;subst ea_;subst ec_;clear en_;have ea_ := Option.some.inj (hx101_8.symm.trans hx110_8);injection ea_ with ea_ en_ ec_;subst ea_;subst ec_;clear en_) | ((with_reducible refine gate_callee (f := 107) rfl ?_);refine goesL_ (some 75) rfl rfl Try.func107 (by kernel_rfl) rfl #[.slice A101_6 ((rd_T104 l0 x5_1).f5.f0).length c101_6, .int .i64 t109] rfl (by (try simp only [List.map_toArray, List.map_cons, List.map_nil]);first | done | rfl | (simp only [List.length_drop, List.length_take];rfl)) ?_;(with_reducible refine (laws_heldOccS.calls k1 _ _ ((rd_T104 l0 x5_1).f5.f0) t109 t111 _ ?side1 ?side2 A14.out).mono ?_);(case side1 => repeat (first | exact HR110_6.out | (with_reducible refine Kd.C_alloc ?_ _) | (with_reducible refine Kd.C_drewN ?_ _) | (with_reducible refine Kd.C_drew ?_)));(case side2 => exact HC110_6.out);rintro e w' ⟨rfl, ⟨nd, rfl⟩⟩;refine ⟨_, rfl, ?_⟩;have p112 : 0 ≤ (x5_1 : Int) := of_decide_eq_true (by first | (with_reducible assumption) | assumption);have q112 : x5_1 < (l0.length : Int) := of_decide_eq_true (by first | (with_reducible assumption) | assumption);obtain ⟨ad112, A112_3, c112_3, A112_4, c112_4, A112_5, c112_5, A112_6, c112_6, A112_7, c112_7, A112_8, c112_8, e112, hx112_0, hx112_1, hx112_2, hx112_3, hx112_4, hx112_5, hx112_6, hx112_7, hx112_8, hx112_9, hl112_3, hi112_3, hl112_4, hi112_4, hl112_5, hi112_5, hl112_6, hi112_6, hl112_7, hi112_7, hl112_8, hi112_8⟩ := at_T104 HR0.out x5_1 p112 q112;obtain rfl : ad101 = ad112 := (by injection e112);have HR112_3 := m0_ hi112_3;have HC112_3 := m0_ hl112_3;clear hi112_3 hl112_3;have HR112_4 := m0_ hi112_4;have HC112_4 := m0_ hl112_4;clear hi112_4 hl112_4;have HR112_5 := m0_ hi112_5;have HC112_5 := m0_ hl112_5;clear hi112_5 hl112_5;have HR112_6 := m0_ hi112_6;have HC112_6 := m0_ hl112_6;clear hi112_6 hl112_6;have HR112_7 := m0_ hi112_7;have HC112_7 := m0_ hl112_7;clear hi112_7 hl112_7;have HR112_8 := m0_ hi112_8;have HC112_8 := m0_ hl112_8;clear hi112_8 hl112_8;replace p112 := eq_true p112;replace q112 := eq_true q112;have ea_ := Option.some.inj (hx101_3.symm.trans hx112_3);injection ea_ with ea_ en_ ec_;subst ea_;subst ec_;clear en_;have ea_ := Option.some.inj (hx101_4.symm.trans hx112_4);injection ea_ with ea_ en_ ec_;subst ea_;subst ec_;clear en_;have ea_ := Option.some.inj (hx101_5.symm.trans hx112_5);injection ea_ with ea_ en_ ec_;subst ea_;subst ec_;clear en_;have ea_ := Option.some.inj (hx101_6.symm.trans hx112_6);injection ea_ with ea_ en_ ec_;subst ea_;subst ec_;clear en_;have ea_ := Option.some.inj (hx101_7.symm.trans hx112_7);injection ea_ with ea_ en_ ec_;subst ea_;subst ec_;clear en_;have ea_ := Option.some.inj (hx101_8.symm.trans hx112_8);injection ea_ with ea_ en_ ec_;subst ea_;subst ec_;clear en_) | ((with_reducible refine gate_callee (f := 107) rfl ?_);refine goesL_ (some 85) rfl rfl Try.func107 (by kernel_rfl) rfl #[.slice A101_7 ((rd_T104 l0 x5_1).f5.f1).length c101_7, .int .i64 t111] rfl (by (try simp only [List.map_toArray, List.map_cons, List.map_nil]);first | done | rfl | (simp only [List.length_drop, List.length_take];rfl)) ?_;(with_reducible refine (laws_heldOccS.calls k1 _ _ ((rd_T104 l0 x5_1).f5.f1) t111 t113 _ ?side1 ?side2 A16.out).mono ?_);(case side1 => repeat (first | exact HR112_7.out | (with_reducible refine Kd.C_alloc ?_ _) | (with_reducible refine Kd.C_drewN ?_ _) | (with_reducible refine Kd.C_drew ?_)));(case side2 => exact HC112_7.out);rintro e w' ⟨rfl, ⟨nd, rfl⟩⟩;refine ⟨_, rfl, ?_⟩;have p114 : 0 ≤ (x5_1 : Int) := of_decide_eq_true (by first | (with_reducible assumption) | assumption);have q114 : x5_1 < (l0.length : Int) := of_decide_eq_true (by first | (with_reducible assumption) | assumption);obtain ⟨ad114, A114_3, c114_3, A114_4, c114_4, A114_5, c114_5, A114_6, c114_6, A114_7, c114_7, A114_8, c114_8, e114, hx114_0, hx114_1, hx114_2, hx114_3, hx114_4, hx114_5, hx114_6, hx114_7, hx114_8, hx114_9, hl114_3, hi114_3, hl114_4, hi114_4, hl114_5, hi114_5, hl114_6, hi114_6, hl114_7, hi114_7, hl114_8, hi114_8⟩ := at_T104 HR0.out x5_1 p114 q114;obtain rfl : ad101 = ad114 := (by injection e114);have HR114_3 := m0_ hi114_3;have HC114_3 := m0_ hl114_3;clear hi114_3 hl114_3;have HR114_4 := m0_ hi114_4;have HC114_4 := m0_ hl114_4;clear hi114_4 hl114_4;have HR114_5 := m0_ hi114_5;have HC114_5 := m0_ hl114_5;clear hi114_5 hl114_5;have HR114_6 := m0_ hi114_6;have HC114_6 := m0_ hl114_6;clear hi114_6 hl114_6;have HR114_7 := m0_ hi114_7;have HC114_7 := m0_ hl114_7;clear hi114_7 hl114_7;have HR114_8 := m0_ hi114_8;have HC114_8 := m0_ hl114_8;clear hi114_8 hl114_8;replace p114 := eq_true p114;replace q114 := eq_true q114;have ea_ := Option.some.inj (hx101_3.symm.trans hx114_3);injection ea_ with ea_ en_ ec_;subst ea_;subst ec_;clear en_;have ea_ := Option.some.inj (hx101_4.symm.trans hx114_4);injection ea_ with ea_ en_ ec_;subst ea_;subst ec_;clear en_;have ea_ := Option.some.inj (hx101_5.symm.trans hx114_5);injection ea_ with ea_ en_ ec_;subst ea_;subst ec_;clear en_;have ea_ := Option.some.inj (hx101_6.symm.trans hx114_6);injection ea_ with ea_ en_ ec_;subst ea_;subst ec_;clear en_;have ea_ := Option.some.inj (hx101_7.symm.trans hx114_7);injection ea_ with ea_ en_ ec_;subst ea_;subst ec_;clear en_;have ea_ := Option.some.inj (hx101_8.symm.trans hx114_8);injection ea_ with ea_ en_ ec_;subst ea_;subst ec_;clear en_) | ((with_reducible refine gate_callee (f := 107) rfl ?_);refine goesL_ (some 94) rfl rfl Try.func107 (by kernel_rfl) rfl #[.slice A101_8 ((rd_T104 l0 x5_1).f6).length c101_8, .int .i64 t113] rfl (by (try simp only [List.map_toArray, List.map_cons, List.map_nil]);first | done | rfl | (simp only [List.length_drop, List.length_take];rfl)) ?_;(with_reducible refine (laws_heldOccS.calls k1 _ _ ((rd_T104 l0 x5_1).f6) t113 t115 _ ?side1 ?side2 A18.out).mono ?_);(case side1 => repeat (first | exact HR114_8.out | (with_reducible refine Kd.C_alloc ?_ _) | (with_reducible refine Kd.C_drewN ?_ _) | (with_reducible refine Kd.C_drew ?_)));(case side2 => exact HC114_8.out);rintro e w' ⟨rfl, ⟨nd, rfl⟩⟩;refine ⟨_, rfl, ?_⟩;have p116 : 0 ≤ (x5_1 : Int) := of_decide_eq_true (by first | (with_reducible assumption) | assumption);have q116 : x5_1 < (l0.length : Int) := of_decide_eq_true (by first | (with_reducible assumption) | assumption);obtain ⟨ad116, A116_3, c116_3, A116_4, c116_4, A116_5, c116_5, A116_6, c116_6, A116_7, c116_7, A116_8, c116_8, e116, hx116_0, hx116_1, hx116_2, hx116_3, hx116_4, hx116_5, hx116_6, hx116_7, hx116_8, hx116_9, hl116_3, hi116_3, hl116_4, hi116_4, hl116_5, hi116_5, hl116_6, hi116_6, hl116_7, hi116_7, hl116_8, hi116_8⟩ := at_T104 HR0.out x5_1 p116 q116;obtain rfl : ad101 = ad116 := (by injection e116);have HR116_3 := m0_ hi116_3;have HC116_3 := m0_ hl116_3;clear hi116_3 hl116_3;have HR116_4 := m0_ hi116_4;have HC116_4 := m0_ hl116_4;clear hi116_4 hl116_4;have HR116_5 := m0_ hi116_5;have HC116_5 := m0_ hl116_5;clear hi116_5 hl116_5;have HR116_6 := m0_ hi116_6;have HC116_6 := m0_ hl116_6;clear hi116_6 hl116_6;have HR116_7 := m0_ hi116_7;have HC116_7 := m0_ hl116_7;clear hi116_7 hl116_7;have HR116_8 := m0_ hi116_8;have HC116_8 := m0_ hl116_8;clear hi116_8 hl116_8;replace p116 := eq_true p116;replace q116 := eq_true q116;have ea_ := Option.some.inj (hx101_3.symm.trans hx116_3);injection ea_ with ea_ en_ ec_;subst ea_;subst ec_;clear en_;have ea_ := Option.some.inj (hx101_4.symm.trans hx116_4);injection ea_ with ea_ en_ ec_;subst ea_;subst ec_;clear en_;have ea_ := Option.some.inj (hx101_5.symm.trans hx116_5);injection ea_ with ea_ en_ ec_;subst ea_;subst ec_;clear en_;have ea_ := Option.some.inj (hx101_6.symm.trans hx116_6);injection ea_ with ea_ en_ ec_;subst ea_;subst ec_;clear en_;have ea_ := Option.some.inj (hx101_7.symm.trans hx116_7);injection ea_ with ea_ en_ ec_;subst ea_;subst ec_;clear en_;have ea_ := Option.some.inj (hx101_8.symm.trans hx116_8);injection ea_ with ea_ en_ ec_;subst ea_;subst ec_;clear en_))
    go_ret
    exact ⟨by first | rfl | (simp;done) | (simp [*];done), by repeat (first | exact Drawn0.refl _ | apply Drawn0.step)⟩
   rw [if_pos c20] at H
   have c20b0 : (((rd_T104 l0 x5_1).f7) == t115) = true := beq_iff_eq.mpr c20
   have c20b1 : (((rd_T104 l0 x5_1).f7) != t115) = false := bne_eq_false_iff_eq.mpr c20
   clear c20
   have H' := m0_ H
   clear H
   have p101 : 0 ≤ (x5_1 : Int) := of_decide_eq_true (by first | (with_reducible assumption) | assumption)
   have q101 : x5_1 < (l0.length : Int) := of_decide_eq_true (by first | (with_reducible assumption) | assumption)
   obtain ⟨ad101, A101_3, c101_3, A101_4, c101_4, A101_5, c101_5, A101_6, c101_6, A101_7, c101_7, A101_8, c101_8, e101, hx101_0, hx101_1, hx101_2, hx101_3, hx101_4, hx101_5, hx101_6, hx101_7, hx101_8, hx101_9, hl101_3, hi101_3, hl101_4, hi101_4, hl101_5, hi101_5, hl101_6, hi101_6, hl101_7, hi101_7, hl101_8, hi101_8⟩ := at_T104 HR0.out x5_1 p101 q101
   cases e101
   have HR101_3 := m0_ hi101_3
   have HC101_3 := m0_ hl101_3
   clear hi101_3 hl101_3
   have HR101_4 := m0_ hi101_4
   have HC101_4 := m0_ hl101_4
   clear hi101_4 hl101_4
   have HR101_5 := m0_ hi101_5
   have HC101_5 := m0_ hl101_5
   clear hi101_5 hl101_5
   have HR101_6 := m0_ hi101_6
   have HC101_6 := m0_ hl101_6
   clear hi101_6 hl101_6
   have HR101_7 := m0_ hi101_7
   have HC101_7 := m0_ hl101_7
   clear hi101_7 hl101_7
   have HR101_8 := m0_ hi101_8
   have HC101_8 := m0_ hl101_8
   clear hi101_8 hl101_8
   replace p101 := eq_true p101
   replace q101 := eq_true q101
   have p102 : 0 ≤ (x5_1 : Int) := of_decide_eq_true (by first | (with_reducible assumption) | assumption)
   have q102 : x5_1 < (l0.length : Int) := of_decide_eq_true (by first | (with_reducible assumption) | assumption)
   obtain ⟨ad102, A102_3, c102_3, A102_4, c102_4, A102_5, c102_5, A102_6, c102_6, A102_7, c102_7, A102_8, c102_8, e102, hx102_0, hx102_1, hx102_2, hx102_3, hx102_4, hx102_5, hx102_6, hx102_7, hx102_8, hx102_9, hl102_3, hi102_3, hl102_4, hi102_4, hl102_5, hi102_5, hl102_6, hi102_6, hl102_7, hi102_7, hl102_8, hi102_8⟩ := at_T104 HR0.out x5_1 p102 q102
   obtain rfl : ad101 = ad102 := (by injection e102)
   have HR102_3 := m0_ hi102_3
   have HC102_3 := m0_ hl102_3
   clear hi102_3 hl102_3
   have HR102_4 := m0_ hi102_4
   have HC102_4 := m0_ hl102_4
   clear hi102_4 hl102_4
   have HR102_5 := m0_ hi102_5
   have HC102_5 := m0_ hl102_5
   clear hi102_5 hl102_5
   have HR102_6 := m0_ hi102_6
   have HC102_6 := m0_ hl102_6
   clear hi102_6 hl102_6
   have HR102_7 := m0_ hi102_7
   have HC102_7 := m0_ hl102_7
   clear hi102_7 hl102_7
   have HR102_8 := m0_ hi102_8
   have HC102_8 := m0_ hl102_8
   clear hi102_8 hl102_8
   replace p102 := eq_true p102
   replace q102 := eq_true q102
   have ea_ := Option.some.inj (hx101_3.symm.trans hx102_3)
   injection ea_ with ea_ en_ ec_
   subst ea_
   subst ec_
   clear en_
   have ea_ := Option.some.inj (hx101_4.symm.trans hx102_4)
   injection ea_ with ea_ en_ ec_
   subst ea_
   subst ec_
   clear en_
   have ea_ := Option.some.inj (hx101_5.symm.trans hx102_5)
   injection ea_ with ea_ en_ ec_
   subst ea_
   subst ec_
   clear en_
   have ea_ := Option.some.inj (hx101_6.symm.trans hx102_6)
   injection ea_ with ea_ en_ ec_
   subst ea_
   subst ec_
   clear en_
   have ea_ := Option.some.inj (hx101_7.symm.trans hx102_7)
   injection ea_ with ea_ en_ ec_
   subst ea_
   subst ec_
   clear en_
   have ea_ := Option.some.inj (hx101_8.symm.trans hx102_8)
   injection ea_ with ea_ en_ ec_
   subst ea_
   subst ec_
   clear en_
   have p103 : 0 ≤ (x5_1 : Int) := of_decide_eq_true (by first | (with_reducible assumption) | assumption)
   have q103 : x5_1 < (l0.length : Int) := of_decide_eq_true (by first | (with_reducible assumption) | assumption)
   obtain ⟨ad103, A103_3, c103_3, A103_4, c103_4, A103_5, c103_5, A103_6, c103_6, A103_7, c103_7, A103_8, c103_8, e103, hx103_0, hx103_1, hx103_2, hx103_3, hx103_4, hx103_5, hx103_6, hx103_7, hx103_8, hx103_9, hl103_3, hi103_3, hl103_4, hi103_4, hl103_5, hi103_5, hl103_6, hi103_6, hl103_7, hi103_7, hl103_8, hi103_8⟩ := at_T104 HR0.out x5_1 p103 q103
   obtain rfl : ad101 = ad103 := (by injection e103)
   have HR103_3 := m0_ hi103_3
   have HC103_3 := m0_ hl103_3
   clear hi103_3 hl103_3
   have HR103_4 := m0_ hi103_4
   have HC103_4 := m0_ hl103_4
   clear hi103_4 hl103_4
   have HR103_5 := m0_ hi103_5
   have HC103_5 := m0_ hl103_5
   clear hi103_5 hl103_5
   have HR103_6 := m0_ hi103_6
   have HC103_6 := m0_ hl103_6
   clear hi103_6 hl103_6
   have HR103_7 := m0_ hi103_7
   have HC103_7 := m0_ hl103_7
   clear hi103_7 hl103_7
   have HR103_8 := m0_ hi103_8
   have HC103_8 := m0_ hl103_8
   clear hi103_8 hl103_8
   replace p103 := eq_true p103
   replace q103 := eq_true q103
   have ea_ := Option.some.inj (hx101_3.symm.trans hx103_3)
   injection ea_ with ea_ en_ ec_
   subst ea_
   subst ec_
   clear en_
   have ea_ := Option.some.inj (hx101_4.symm.trans hx103_4)
   injection ea_ with ea_ en_ ec_
   subst ea_
   subst ec_
   clear en_
   have ea_ := Option.some.inj (hx101_5.symm.trans hx103_5)
   injection ea_ with ea_ en_ ec_
   subst ea_
   subst ec_
   clear en_
   have ea_ := Option.some.inj (hx101_6.symm.trans hx103_6)
   injection ea_ with ea_ en_ ec_
   subst ea_
   subst ec_
   clear en_
   have ea_ := Option.some.inj (hx101_7.symm.trans hx103_7)
   injection ea_ with ea_ en_ ec_
   subst ea_
   subst ec_
   clear en_
   have ea_ := Option.some.inj (hx101_8.symm.trans hx103_8)
   injection ea_ with ea_ en_ ec_
   subst ea_
   subst ec_
   clear en_
   have p104 : 0 ≤ (x5_1 : Int) := of_decide_eq_true (by first | (with_reducible assumption) | assumption)
   have q104 : x5_1 < (l0.length : Int) := of_decide_eq_true (by first | (with_reducible assumption) | assumption)
   obtain ⟨ad104, A104_3, c104_3, A104_4, c104_4, A104_5, c104_5, A104_6, c104_6, A104_7, c104_7, A104_8, c104_8, e104, hx104_0, hx104_1, hx104_2, hx104_3, hx104_4, hx104_5, hx104_6, hx104_7, hx104_8, hx104_9, hl104_3, hi104_3, hl104_4, hi104_4, hl104_5, hi104_5, hl104_6, hi104_6, hl104_7, hi104_7, hl104_8, hi104_8⟩ := at_T104 HR0.out x5_1 p104 q104
   obtain rfl : ad101 = ad104 := (by injection e104)
   have HR104_3 := m0_ hi104_3
   have HC104_3 := m0_ hl104_3
   clear hi104_3 hl104_3
   have HR104_4 := m0_ hi104_4
   have HC104_4 := m0_ hl104_4
   clear hi104_4 hl104_4
   have HR104_5 := m0_ hi104_5
   have HC104_5 := m0_ hl104_5
   clear hi104_5 hl104_5
   have HR104_6 := m0_ hi104_6
   have HC104_6 := m0_ hl104_6
   clear hi104_6 hl104_6
   have HR104_7 := m0_ hi104_7
   have HC104_7 := m0_ hl104_7
   clear hi104_7 hl104_7
   have HR104_8 := m0_ hi104_8
   have HC104_8 := m0_ hl104_8
   clear hi104_8 hl104_8
   replace p104 := eq_true p104
   replace q104 := eq_true q104
   have ea_ := Option.some.inj (hx101_3.symm.trans hx104_3)
   injection ea_ with ea_ en_ ec_
   subst ea_
   subst ec_
   clear en_
   have ea_ := Option.some.inj (hx101_4.symm.trans hx104_4)
   injection ea_ with ea_ en_ ec_
   subst ea_
   subst ec_
   clear en_
   have ea_ := Option.some.inj (hx101_5.symm.trans hx104_5)
   injection ea_ with ea_ en_ ec_
   subst ea_
   subst ec_
   clear en_
   have ea_ := Option.some.inj (hx101_6.symm.trans hx104_6)
   injection ea_ with ea_ en_ ec_
   subst ea_
   subst ec_
   clear en_
   have ea_ := Option.some.inj (hx101_7.symm.trans hx104_7)
   injection ea_ with ea_ en_ ec_
   subst ea_
   subst ec_
   clear en_
   have ea_ := Option.some.inj (hx101_8.symm.trans hx104_8)
   injection ea_ with ea_ en_ ec_
   subst ea_
   subst ec_
   clear en_
   go_wp2_with (first | ((with_reducible refine gate_callee (f := 30) rfl ?_);refine goesL_ (some 45) rfl rfl Try.func30 (by kernel_rfl) rfl #[.slice A101_3 ((rd_T104 l0 x5_1).f3).length c101_3, .int .i64 (wrap64 ((wrap64 ((wrap64 (x1_1 + 1)) + 1)) + 1))] rfl (by (try simp only [List.map_toArray, List.map_cons, List.map_nil]);first | done | rfl | (simp only [List.length_drop, List.length_take];rfl)) ?_;(with_reducible refine (laws_heldIntS.calls k1 _ _ ((rd_T104 l0 x5_1).f3) (wrap64 ((wrap64 ((wrap64 (x1_1 + 1)) + 1)) + 1)) t105 _ ?side1 ?side2 A8.out).mono ?_);(case side1 => repeat (first | exact HR104_3.out | (with_reducible refine Kd.C_alloc ?_ _) | (with_reducible refine Kd.C_drewN ?_ _) | (with_reducible refine Kd.C_drew ?_)));(case side2 => exact HC104_3.out);rintro e w' ⟨rfl, ⟨nd, rfl⟩⟩;refine ⟨_, rfl, ?_⟩;have p106 : 0 ≤ (x5_1 : Int) := of_decide_eq_true (by first | (with_reducible assumption) | assumption);have q106 : x5_1 < (l0.length : Int) := of_decide_eq_true (by first | (with_reducible assumption) | assumption);obtain ⟨ad106, A106_3, c106_3, A106_4, c106_4, A106_5, c106_5, A106_6, c106_6, A106_7, c106_7, A106_8, c106_8, e106, hx106_0, hx106_1, hx106_2, hx106_3, hx106_4, hx106_5, hx106_6, hx106_7, hx106_8, hx106_9, hl106_3, hi106_3, hl106_4, hi106_4, hl106_5, hi106_5, hl106_6, hi106_6, hl106_7, hi106_7, hl106_8, hi106_8⟩ := at_T104 HR0.out x5_1 p106 q106;obtain rfl : ad101 = ad106 := (by injection e106);have HR106_3 := m0_ hi106_3;have HC106_3 := m0_ hl106_3;clear hi106_3 hl106_3;have HR106_4 := m0_ hi106_4;have HC106_4 := m0_ hl106_4;clear hi106_4 hl106_4;have HR106_5 := m0_ hi106_5;have HC106_5 := m0_ hl106_5;clear hi106_5 hl106_5;have HR106_6 := m0_ hi106_6;have HC106_6 := m0_ hl106_6;clear hi106_6 hl106_6;have HR106_7 := m0_ hi106_7;have HC106_7 := m0_ hl106_7;clear hi106_7 hl106_7;have HR106_8 := m0_ hi106_8;have HC106_8 := m0_ hl106_8;clear hi106_8 hl106_8;replace p106 := eq_true p106;replace q106 := eq_true q106;have ea_ := Option.some.inj (hx101_3.symm.trans hx106_3);injection ea_ with ea_ en_ ec_;subst ea_;subst ec_;clear en_;have ea_ := Option.some.inj (hx101_4.symm.trans hx106_4);injection ea_ with ea_ en_ ec_;subst ea_;subst ec_;clear en_;have ea_ := Option.some.inj (hx101_5.symm.trans hx106_5);injection ea_ with ea_ en_ ec_;subst ea_;subst ec_;clear en_;have ea_ := Option.some.inj (hx101_6.symm.trans hx106_6);injection ea_ with ea_ en_ ec_;subst ea_;subst ec_;clear en_;have ea_ := Option.some.inj (hx101_7.symm.trans hx106_7);injection ea_ with ea_ en_ ec_;subst ea_;subst ec_;clear en_;have ea_ := Option.some.inj (hx101_8.symm.trans hx106_8);injection ea_ with ea_ en_ ec_;subst ea_;subst ec_;clear en_) | ((with_reducible refine gate_callee (f := 107) rfl ?_);refine goesL_ (some 55) rfl rfl Try.func107 (by kernel_rfl) rfl #[.slice A101_4 ((rd_T104 l0 x5_1).f4.f0).length c101_4, .int .i64 t105] rfl (by (try simp only [List.map_toArray, List.map_cons, List.map_nil]);first | done | rfl | (simp only [List.length_drop, List.length_take];rfl)) ?_;(with_reducible refine (laws_heldOccS.calls k1 _ _ ((rd_T104 l0 x5_1).f4.f0) t105 t107 _ ?side1 ?side2 A10.out).mono ?_);(case side1 => repeat (first | exact HR106_4.out | (with_reducible refine Kd.C_alloc ?_ _) | (with_reducible refine Kd.C_drewN ?_ _) | (with_reducible refine Kd.C_drew ?_)));(case side2 => exact HC106_4.out);rintro e w' ⟨rfl, ⟨nd, rfl⟩⟩;refine ⟨_, rfl, ?_⟩;have p108 : 0 ≤ (x5_1 : Int) := of_decide_eq_true (by first | (with_reducible assumption) | assumption);have q108 : x5_1 < (l0.length : Int) := of_decide_eq_true (by first | (with_reducible assumption) | assumption);obtain ⟨ad108, A108_3, c108_3, A108_4, c108_4, A108_5, c108_5, A108_6, c108_6, A108_7, c108_7, A108_8, c108_8, e108, hx108_0, hx108_1, hx108_2, hx108_3, hx108_4, hx108_5, hx108_6, hx108_7, hx108_8, hx108_9, hl108_3, hi108_3, hl108_4, hi108_4, hl108_5, hi108_5, hl108_6, hi108_6, hl108_7, hi108_7, hl108_8, hi108_8⟩ := at_T104 HR0.out x5_1 p108 q108;obtain rfl : ad101 = ad108 := (by injection e108);have HR108_3 := m0_ hi108_3;have HC108_3 := m0_ hl108_3;clear hi108_3 hl108_3;have HR108_4 := m0_ hi108_4;have HC108_4 := m0_ hl108_4;clear hi108_4 hl108_4;have HR108_5 := m0_ hi108_5;have HC108_5 := m0_ hl108_5;clear hi108_5 hl108_5;have HR108_6 := m0_ hi108_6;have HC108_6 := m0_ hl108_6;clear hi108_6 hl108_6;have HR108_7 := m0_ hi108_7;have HC108_7 := m0_ hl108_7;clear hi108_7 hl108_7;have HR108_8 := m0_ hi108_8;have HC108_8 := m0_ hl108_8;clear hi108_8 hl108_8;replace p108 := eq_true p108;replace q108 := eq_true q108;have ea_ := Option.some.inj (hx101_3.symm.trans hx108_3);injection ea_ with ea_ en_ ec_;subst ea_;subst ec_;clear en_;have ea_ := Option.some.inj (hx101_4.symm.trans hx108_4);injection ea_ with ea_ en_ ec_;subst ea_;subst ec_;clear en_;have ea_ := Option.some.inj (hx101_5.symm.trans hx108_5);injection ea_ with ea_ en_ ec_;subst ea_;subst ec_;clear en_;have ea_ := Option.some.inj (hx101_6.symm.trans hx108_6);injection ea_ with ea_ en_ ec_;subst ea_;subst ec_;clear en_;have ea_ := Option.some.inj (hx101_7.symm.trans hx108_7);injection ea_ with ea_ en_ ec_;subst ea_;subst ec_;clear en_;have ea_ := Option.some.inj (hx101_8.symm.trans hx108_8);injection ea_ with ea_ en_ ec_;subst ea_;subst ec_;clear en_) | ((with_reducible refine gate_callee (f := 107) rfl ?_);refine goesL_ (some 65) rfl rfl Try.func107 (by kernel_rfl) rfl #[.slice A101_5 ((rd_T104 l0 x5_1).f4.f1).length c101_5, .int .i64 t107] rfl (by (try simp only [List.map_toArray, List.map_cons, List.map_nil]);first | done | rfl | (simp only [List.length_drop, List.length_take];rfl)) ?_;(with_reducible refine (laws_heldOccS.calls k1 _ _ ((rd_T104 l0 x5_1).f4.f1) t107 t109 _ ?side1 ?side2 A12.out).mono ?_);(case side1 => repeat (first | exact HR108_5.out | (with_reducible refine Kd.C_alloc ?_ _) | (with_reducible refine Kd.C_drewN ?_ _) | (with_reducible refine Kd.C_drew ?_)));(case side2 => exact HC108_5.out);rintro e w' ⟨rfl, ⟨nd, rfl⟩⟩;refine ⟨_, rfl, ?_⟩;have p110 : 0 ≤ (x5_1 : Int) := of_decide_eq_true (by first | (with_reducible assumption) | assumption);have q110 : x5_1 < (l0.length : Int) := of_decide_eq_true (by first | (with_reducible assumption) | assumption);obtain ⟨ad110, A110_3, c110_3, A110_4, c110_4, A110_5, c110_5, A110_6, c110_6, A110_7, c110_7, A110_8, c110_8, e110, hx110_0, hx110_1, hx110_2, hx110_3, hx110_4, hx110_5, hx110_6, hx110_7, hx110_8, hx110_9, hl110_3, hi110_3, hl110_4, hi110_4, hl110_5, hi110_5, hl110_6, hi110_6, hl110_7, hi110_7, hl110_8, hi110_8⟩ := at_T104 HR0.out x5_1 p110 q110;obtain rfl : ad101 = ad110 := (by injection e110);have HR110_3 := m0_ hi110_3;have HC110_3 := m0_ hl110_3;clear hi110_3 hl110_3;have HR110_4 := m0_ hi110_4;have HC110_4 := m0_ hl110_4;clear hi110_4 hl110_4;have HR110_5 := m0_ hi110_5;have HC110_5 := m0_ hl110_5;clear hi110_5 hl110_5;have HR110_6 := m0_ hi110_6;have HC110_6 := m0_ hl110_6;clear hi110_6 hl110_6;have HR110_7 := m0_ hi110_7;have HC110_7 := m0_ hl110_7;clear hi110_7 hl110_7;have HR110_8 := m0_ hi110_8;have HC110_8 := m0_ hl110_8;clear hi110_8 hl110_8;replace p110 := eq_true p110;replace q110 := eq_true q110;have ea_ := Option.some.inj (hx101_3.symm.trans hx110_3);injection ea_ with ea_ en_ ec_;subst ea_;subst ec_;clear en_;have ea_ := Option.some.inj (hx101_4.symm.trans hx110_4);injection ea_ with ea_ en_ ec_;subst ea_;subst ec_;clear en_;have ea_ := Option.some.inj (hx101_5.symm.trans hx110_5);injection ea_ with ea_ en_ ec_;subst ea_;subst ec_;clear en_;have ea_ := Option.some.inj (hx101_6.symm.trans hx110_6);injection ea_ with ea_ en_ ec_;subst ea_;subst ec_;clear en_;have ea_ := Option.some.inj (hx101_7.symm.trans hx110_7);injection ea_ with ea_ en_ ec_;subst ea_;subst ec_;clear en_;have ea_ := Option.some.inj (hx101_8.symm.trans hx110_8);injection ea_ with ea_ en_ ec_;subst ea_;subst ec_;clear en_) | ((with_reducible refine gate_callee (f := 107) rfl ?_);refine goesL_ (some 75) rfl rfl Try.func107 (by kernel_rfl) rfl #[.slice A101_6 ((rd_T104 l0 x5_1).f5.f0).length c101_6, .int .i64 t109] rfl (by (try simp only [List.map_toArray, List.map_cons, List.map_nil]);first | done | rfl | (simp only [List.length_drop, List.length_take];rfl)) ?_;(with_reducible refine (laws_heldOccS.calls k1 _ _ ((rd_T104 l0 x5_1).f5.f0) t109 t111 _ ?side1 ?side2 A14.out).mono ?_);(case side1 => repeat (first | exact HR110_6.out | (with_reducible refine Kd.C_alloc ?_ _) | (with_reducible refine Kd.C_drewN ?_ _) | (with_reducible refine Kd.C_drew ?_)));(case side2 => exact HC110_6.out);rintro e w' ⟨rfl, ⟨nd, rfl⟩⟩;refine ⟨_, rfl, ?_⟩;have p112 : 0 ≤ (x5_1 : Int) := of_decide_eq_true (by first | (with_reducible assumption) | assumption);have q112 : x5_1 < (l0.length : Int) := of_decide_eq_true (by first | (with_reducible assumption) | assumption);obtain ⟨ad112, A112_3, c112_3, A112_4, c112_4, A112_5, c112_5, A112_6, c112_6, A112_7, c112_7, A112_8, c112_8, e112, hx112_0, hx112_1, hx112_2, hx112_3, hx112_4, hx112_5, hx112_6, hx112_7, hx112_8, hx112_9, hl112_3, hi112_3, hl112_4, hi112_4, hl112_5, hi112_5, hl112_6, hi112_6, hl112_7, hi112_7, hl112_8, hi112_8⟩ := at_T104 HR0.out x5_1 p112 q112;obtain rfl : ad101 = ad112 := (by injection e112);have HR112_3 := m0_ hi112_3;have HC112_3 := m0_ hl112_3;clear hi112_3 hl112_3;have HR112_4 := m0_ hi112_4;have HC112_4 := m0_ hl112_4;clear hi112_4 hl112_4;have HR112_5 := m0_ hi112_5;have HC112_5 := m0_ hl112_5;clear hi112_5 hl112_5;have HR112_6 := m0_ hi112_6;have HC112_6 := m0_ hl112_6;clear hi112_6 hl112_6;have HR112_7 := m0_ hi112_7;have HC112_7 := m0_ hl112_7;clear hi112_7 hl112_7;have HR112_8 := m0_ hi112_8;have HC112_8 := m0_ hl112_8;clear hi112_8 hl112_8;replace p112 := eq_true p112;replace q112 := eq_true q112;have ea_ := Option.some.inj (hx101_3.symm.trans hx112_3);injection ea_ with ea_ en_ ec_;subst ea_;subst ec_;clear en_;have ea_ := Option.some.inj (hx101_4.symm.trans hx112_4);injection ea_ with ea_ en_ ec_;subst ea_;subst ec_;clear en_;have ea_ := Option.some.inj (hx101_5.symm.trans hx112_5);injection ea_ with ea_ en_ ec_;subst ea_;subst ec_;clear en_;have ea_ := Option.some.inj (hx101_6.symm.trans hx112_6);injection ea_ with ea_ en_ ec_;subst ea_;subst ec_;clear en_;have ea_ := Option.some.inj (hx101_7.symm.trans hx112_7);injection ea_ with ea_ en_ ec_;subst ea_;subst ec_;clear en_;have ea_ := Option.some.inj (hx101_8.symm.trans hx112_8);injection ea_ with ea_ en_ ec_;subst ea_;subst ec_;clear en_) | ((with_reducible refine gate_callee (f := 107) rfl ?_);refine goesL_ (some 85) rfl rfl Try.func107 (by kernel_rfl) rfl #[.slice A101_7 ((rd_T104 l0 x5_1).f5.f1).length c101_7, .int .i64 t111] rfl (by (try simp only [List.map_toArray, List.map_cons, List.map_nil]);first | done | rfl | (simp only [List.length_drop, List.length_take];rfl)) ?_;(with_reducible refine (laws_heldOccS.calls k1 _ _ ((rd_T104 l0 x5_1).f5.f1) t111 t113 _ ?side1 ?side2 A16.out).mono ?_);(case side1 => repeat (first | exact HR112_7.out | (with_reducible refine Kd.C_alloc ?_ _) | (with_reducible refine Kd.C_drewN ?_ _) | (with_reducible refine Kd.C_drew ?_)));(case side2 => exact HC112_7.out);rintro e w' ⟨rfl, ⟨nd, rfl⟩⟩;refine ⟨_, rfl, ?_⟩;have p114 : 0 ≤ (x5_1 : Int) := of_decide_eq_true (by first | (with_reducible assumption) | assumption);have q114 : x5_1 < (l0.length : Int) := of_decide_eq_true (by first | (with_reducible assumption) | assumption);obtain ⟨ad114, A114_3, c114_3, A114_4, c114_4, A114_5, c114_5, A114_6, c114_6, A114_7, c114_7, A114_8, c114_8, e114, hx114_0, hx114_1, hx114_2, hx114_3, hx114_4, hx114_5, hx114_6, hx114_7, hx114_8, hx114_9, hl114_3, hi114_3, hl114_4, hi114_4, hl114_5, hi114_5, hl114_6, hi114_6, hl114_7, hi114_7, hl114_8, hi114_8⟩ := at_T104 HR0.out x5_1 p114 q114;obtain rfl : ad101 = ad114 := (by injection e114);have HR114_3 := m0_ hi114_3;have HC114_3 := m0_ hl114_3;clear hi114_3 hl114_3;have HR114_4 := m0_ hi114_4;have HC114_4 := m0_ hl114_4;clear hi114_4 hl114_4;have HR114_5 := m0_ hi114_5;have HC114_5 := m0_ hl114_5;clear hi114_5 hl114_5;have HR114_6 := m0_ hi114_6;have HC114_6 := m0_ hl114_6;clear hi114_6 hl114_6;have HR114_7 := m0_ hi114_7;have HC114_7 := m0_ hl114_7;clear hi114_7 hl114_7;have HR114_8 := m0_ hi114_8;have HC114_8 := m0_ hl114_8;clear hi114_8 hl114_8;replace p114 := eq_true p114;replace q114 := eq_true q114;have ea_ := Option.some.inj (hx101_3.symm.trans hx114_3);injection ea_ with ea_ en_ ec_;subst ea_;subst ec_;clear en_;have ea_ := Option.some.inj (hx101_4.symm.trans hx114_4);injection ea_ with ea_ en_ ec_;subst ea_;subst ec_;clear en_;have ea_ := Option.some.inj (hx101_5.symm.trans hx114_5);injection ea_ with ea_ en_ ec_;subst ea_;subst ec_;clear en_;have ea_ := Option.some.inj (hx101_6.symm.trans hx114_6);injection ea_ with ea_ en_ ec_;subst ea_;subst ec_;clear en_;have ea_ := Option.some.inj (hx101_7.symm.trans hx114_7);injection ea_ with ea_ en_ ec_;subst ea_;subst ec_;clear en_;have ea_ := Option.some.inj (hx101_8.symm.trans hx114_8);injection ea_ with ea_ en_ ec_;subst ea_;subst ec_;clear en_) | ((with_reducible refine gate_callee (f := 107) rfl ?_);refine goesL_ (some 94) rfl rfl Try.func107 (by kernel_rfl) rfl #[.slice A101_8 ((rd_T104 l0 x5_1).f6).length c101_8, .int .i64 t113] rfl (by (try simp only [List.map_toArray, List.map_cons, List.map_nil]);first | done | rfl | (simp only [List.length_drop, List.length_take];rfl)) ?_;(with_reducible refine (laws_heldOccS.calls k1 _ _ ((rd_T104 l0 x5_1).f6) t113 t115 _ ?side1 ?side2 A18.out).mono ?_);(case side1 => repeat (first | exact HR114_8.out | (with_reducible refine Kd.C_alloc ?_ _) | (with_reducible refine Kd.C_drewN ?_ _) | (with_reducible refine Kd.C_drew ?_)));(case side2 => exact HC114_8.out);rintro e w' ⟨rfl, ⟨nd, rfl⟩⟩;refine ⟨_, rfl, ?_⟩;have p116 : 0 ≤ (x5_1 : Int) := of_decide_eq_true (by first | (with_reducible assumption) | assumption);have q116 : x5_1 < (l0.length : Int) := of_decide_eq_true (by first | (with_reducible assumption) | assumption);obtain ⟨ad116, A116_3, c116_3, A116_4, c116_4, A116_5, c116_5, A116_6, c116_6, A116_7, c116_7, A116_8, c116_8, e116, hx116_0, hx116_1, hx116_2, hx116_3, hx116_4, hx116_5, hx116_6, hx116_7, hx116_8, hx116_9, hl116_3, hi116_3, hl116_4, hi116_4, hl116_5, hi116_5, hl116_6, hi116_6, hl116_7, hi116_7, hl116_8, hi116_8⟩ := at_T104 HR0.out x5_1 p116 q116;obtain rfl : ad101 = ad116 := (by injection e116);have HR116_3 := m0_ hi116_3;have HC116_3 := m0_ hl116_3;clear hi116_3 hl116_3;have HR116_4 := m0_ hi116_4;have HC116_4 := m0_ hl116_4;clear hi116_4 hl116_4;have HR116_5 := m0_ hi116_5;have HC116_5 := m0_ hl116_5;clear hi116_5 hl116_5;have HR116_6 := m0_ hi116_6;have HC116_6 := m0_ hl116_6;clear hi116_6 hl116_6;have HR116_7 := m0_ hi116_7;have HC116_7 := m0_ hl116_7;clear hi116_7 hl116_7;have HR116_8 := m0_ hi116_8;have HC116_8 := m0_ hl116_8;clear hi116_8 hl116_8;replace p116 := eq_true p116;replace q116 := eq_true q116;have ea_ := Option.some.inj (hx101_3.symm.trans hx116_3);injection ea_ with ea_ en_ ec_;subst ea_;subst ec_;clear en_;have ea_ := Option.some.inj (hx101_4.symm.trans hx116_4);injection ea_ with ea_ en_ ec_;subst ea_;subst ec_;clear en_;have ea_ := Option.some.inj (hx101_5.symm.trans hx116_5);injection ea_ with ea_ en_ ec_;subst ea_;subst ec_;clear en_;have ea_ := Option.some.inj (hx101_6.symm.trans hx116_6);injection ea_ with ea_ en_ ec_;subst ea_;subst ec_;clear en_;have ea_ := Option.some.inj (hx101_7.symm.trans hx116_7);injection ea_ with ea_ en_ ec_;subst ea_;subst ec_;clear en_;have ea_ := Option.some.inj (hx101_8.symm.trans hx116_8);injection ea_ with ea_ en_ ec_;subst ea_;subst ec_;clear en_))
   go_roundg k1
   case measure => have := HK1.out;omega
   case rel => exact ⟨(wrap64 (t115 + 1)), (wrap64 (x5_1 + 1)), (by first | rfl | (simp;done) | (simp [*];done)), (by first | rfl | (simp;done) | (simp [*];done)), H', ⟨by have := HK1.out;omega⟩, by repeat (first | exact Drawn0.refl _ | apply Drawn0.step)⟩

def laws_heldGraph.f (k : Nat) (a0_0 : Int) (l0_1 : List (S104)) (a0_2 : Int) (a0_3 : Int) (a0_4 : Bool) (a1 : Int) : Option (Int) := (laws_heldNodeS.f k l0_1 a1).bind fun t102 => (if t102 < 0 then (some (-1)) else (some t102))
set_option maxHeartbeats 8000000 in
set_option maxRecDepth 100000 in
theorem laws_heldGraph.calls (k : Nat) (a0_0 : Int) (A0_1 : Option Addr) (c0_1 : Nat) (l0_1 : List (S104)) (a0_2 : Int) (a0_3 : Int) (a0_4 : Bool) (a1 : Int) (r : Int) (w : World) (hr0_1 : Kd.C k104 w A0_1 l0_1.length l0_1) (hc0_1 : l0_1.length ≤ c0_1) (h : laws_heldGraph.f k a0_0 l0_1 a0_2 a0_3 a0_4 a1 = some r) :
  Calls Try.prog 43 #[.agg #[.int .i64 a0_0, .slice A0_1 l0_1.length c0_1, .int .i64 a0_2, .int .i64 a0_3, .bool a0_4], .int .i64 a1] w fun e w' => e = .returned (.int .i64 r) ∧ Below w.heap.size w w' := by
 have hu63 := Try.underlying63
 have HR0_1 := m0_ hr0_1
 have HC0_1 := m0_ hc0_1
 clear hr0_1 hc0_1
 have HB := m0_ (Below.refl w.heap.size w)
 have H : ((laws_heldNodeS.f k l0_1 a1).bind fun t102 => (if t102 < 0 then (some (-1)) else (some t102))) = some r := h
 clear h
 replace H := Option.bind_eq_some_iff.mp H
 obtain ⟨t102, A30, H⟩ := H
 replace H : (if t102 < 0 then (some (-1)) else (some t102)) = some r := H
 have A3 := m0_ A30
 clear A30
 by_cases c4 : t102 < 0
 ·rw [if_pos c4] at H
  have c4b0 : decide (t102 < 0) = true := decide_eq_true c4
  clear c4
  obtain rfl := Option.some.inj H
  go_enter Try.func43, Try.ntmps43
  go_wp2_with (first | ((with_reducible refine gate_dst (N := 2) rfl ?_);refine box_event ?hg (N := 2) ?hd (cs := #[.int .i64 a0_0, .slice A0_1 l0_1.length c0_1, .int .i64 a0_2, .int .i64 a0_3, .bool a0_4]) (t := 63) ?hr ?_;(case hd => rfl);(case hg => rfl);(case hr => first | (go_simp;done) | (go_simp;rfl));intro gb101 hg w5 hbox hb;have BK101 := m0_ (hbox);have GW101 := m0_ ((by rw [hg];exact (below_size (by exact HB.out)) : w.heap.size ≤ gb101));have GE101 := m0_ ((by rw [hg];exact (below_size (by exact HB.out)) : w.heap.size ≤ gb101));replace HB := m0_ (below_step (by exact HB.out) hb);clear hb hbox hg;obtain ⟨hcz6_0, hcz6_1, hcz6_2, hcz6_3, hcz6_4, hfz6_0, hfz6_1, hfz6_2, hfz6_3, hfz6_4⟩ := bx5 BK101.out) | ((with_reducible refine gate_callee (f := 75) rfl ?_);refine goesL_ (some 8) rfl rfl Try.func75 (by kernel_rfl) rfl #[.slice A0_1 l0_1.length c0_1, .int .i64 a1] rfl (by (try simp only [List.map_toArray, List.map_cons, List.map_nil]);first | done | rfl | (simp only [List.length_drop, List.length_take];rfl)) ?_;(with_reducible refine (laws_heldNodeS.calls k _ _ l0_1 a1 t102 _ ?side1 ?side2 A3.out).mono ?_);(case side1 => repeat (first | exact (Kd.C_below HR0_1.out HB.out) | (with_reducible refine Kd.C_alloc ?_ _) | (with_reducible refine Kd.C_drewN ?_ _) | (with_reducible refine Kd.C_drew ?_)));(case side2 => exact HC0_1.out);rintro e w' ⟨rfl, ⟨nd, rfl⟩⟩;refine ⟨_, rfl, ?_⟩))
  go_ret
  exact ⟨by first | rfl | (simp [errW_none, errW_some] <;> rfl) | (simp [*, errW_none, errW_some] <;> rfl), by repeat (first | (with_reducible first | exact HB.out | apply below_alloc | apply pw_below_drewN | apply below_drew1 | refine below_set ?_ GE101.out) | exact HB.out)⟩
 ·rw [if_neg c4] at H
  have c4b0 : decide (t102 < 0) = false := decide_eq_false c4
  clear c4
  obtain rfl := Option.some.inj H
  go_enter Try.func43, Try.ntmps43
  go_wp2_with (first | ((with_reducible refine gate_dst (N := 2) rfl ?_);refine box_event ?hg (N := 2) ?hd (cs := #[.int .i64 a0_0, .slice A0_1 l0_1.length c0_1, .int .i64 a0_2, .int .i64 a0_3, .bool a0_4]) (t := 63) ?hr ?_;(case hd => rfl);(case hg => rfl);(case hr => first | (go_simp;done) | (go_simp;rfl));intro gb101 hg w7 hbox hb;have BK101 := m0_ (hbox);have GW101 := m0_ ((by rw [hg];exact (below_size (by exact HB.out)) : w.heap.size ≤ gb101));have GE101 := m0_ ((by rw [hg];exact (below_size (by exact HB.out)) : w.heap.size ≤ gb101));replace HB := m0_ (below_step (by exact HB.out) hb);clear hb hbox hg;obtain ⟨hcz8_0, hcz8_1, hcz8_2, hcz8_3, hcz8_4, hfz8_0, hfz8_1, hfz8_2, hfz8_3, hfz8_4⟩ := bx5 BK101.out) | ((with_reducible refine gate_callee (f := 75) rfl ?_);refine goesL_ (some 8) rfl rfl Try.func75 (by kernel_rfl) rfl #[.slice A0_1 l0_1.length c0_1, .int .i64 a1] rfl (by (try simp only [List.map_toArray, List.map_cons, List.map_nil]);first | done | rfl | (simp only [List.length_drop, List.length_take];rfl)) ?_;(with_reducible refine (laws_heldNodeS.calls k _ _ l0_1 a1 t102 _ ?side1 ?side2 A3.out).mono ?_);(case side1 => repeat (first | exact (Kd.C_below HR0_1.out HB.out) | (with_reducible refine Kd.C_alloc ?_ _) | (with_reducible refine Kd.C_drewN ?_ _) | (with_reducible refine Kd.C_drew ?_)));(case side2 => exact HC0_1.out);rintro e w' ⟨rfl, ⟨nd, rfl⟩⟩;refine ⟨_, rfl, ?_⟩))
  go_ret
  exact ⟨by first | rfl | (simp [errW_none, errW_some] <;> rfl) | (simp [*, errW_none, errW_some] <;> rfl), by repeat (first | (with_reducible first | exact HB.out | apply below_alloc | apply pw_below_drewN | apply below_drew1 | refine below_set ?_ GE101.out) | exact HB.out)⟩

end Go.Proofs.Ytdljhokealbnnaa.M
namespace Go.Proofs.Ytdljhokealbnnaa.M
set_option linter.unusedVariables false
set_option linter.unusedSimpArgs false
open Go Go.RowKit Go.Proofs.YtdljhokealbnnaaW.PrintWords Go.Proofs.YtdljhokealbnnaaW.PrintLast Go.Proofs.YtdljhokealbnnaaW.PrintMore

theorem S_inner {α : Type} {d : Kd α} {e base : Nat} {W W' : World} {ok oki : Nat → Prop} {v : Value} {xs : List α} {i : Int} {c : List Value} {x' : α} (HH : Kd.H d e W base ok v xs i oki c) (hk : Kept W W' oki) (hM : d.M W' base (fun k => oki k ∨ W.heap.size ≤ k) x' c) (hnew : ∀ k, W.heap.size ≤ k → ok k) : Kd.S d e W' base ok v (xs.set i.toNat x') :=
  Kd.H_back (Kd.H_kept (Kd.H_widen HH) hk (fun _ _ hn h => hn (.inl h))) hM (fun k h => h.elim .inl (fun h => .inr ⟨hnew k h, h⟩))
theorem getD_set {α : Type} (xs : List α) (n : Nat) (x z : α) (h : n < xs.length) : (xs.set n x).getD n z = x := by
  rw [List.getD_eq_getElem?_getD, List.getElem?_set_self h]; rfl
end Go.Proofs.Ytdljhokealbnnaa.M
namespace Go.Proofs.Ytdljhokealbnnaa.M
open Go.RowKit Go.Proofs.YtdljhokealbnnaaW.PrintWords Go.Proofs.YtdljhokealbnnaaW.PrintLast Go.Proofs.YtdljhokealbnnaaW.PrintMore
attribute [local go_sem] max2_int min2_int max_two min_two max_three min_three max_four min_four
set_option linter.unusedVariables false
set_option linter.unusedSimpArgs false

def laws_markIntS.l0 : Nat → List Int → Int → Int → Option (Int × List Int)
 | 0, _, _, _ => none
 | k + 1, x0, x1, x5 => if x5 < (x0.length : Int) then (if 0 ≤ x5 then (laws_markIntS.l0 k (x0.set (x5 : Int).toNat x1) (wrap64 (x1 + 1)) (wrap64 (x5 + 1))) else (none)) else (some (x1, x0))
def laws_markIntS.f (k : Nat) (l0 : List Int) (a1 : Int) : Option (Int × List Int) := laws_markIntS.l0 k l0 a1 0
theorem laws_markIntS.mono_l : ∀ k, (∀ y0 y1 y2, LeO (laws_markIntS.l0 k y0 y1 y2) (laws_markIntS.l0 (k + 1) y0 y1 y2))
 | 0 => fun _ _ _ r h => by simp [laws_markIntS.l0] at h
 | k + 1 => by
  have ih0 := laws_markIntS.mono_l k
  ·intro y0 y1 y2
   unfold laws_markIntS.l0
   repeat' first
   | (with_reducible exact ih0 _ _ _)
   | (with_reducible exact LeO.refl _)
   | (with_reducible exact LeO.none _)
   | (with_reducible refine LeO.ite ?_ ?_)
   | (with_reducible refine LeO.bind ?_ (fun _ => ?_))
   | exact ih0 _ _ _
   | exact LeO.none _
   | refine LeO.ite ?_ ?_
   | refine LeO.bind ?_ (fun _ => ?_)
theorem laws_markIntS.mono : ∀ a0 a1 k, LeO (laws_markIntS.f k a0 a1) (laws_markIntS.f (k + 1) a0 a1) := by
 intro a0 a1 k
 have ih0 := laws_markIntS.mono_l k
 unfold laws_markIntS.f
 repeat' first
   | (with_reducible exact ih0 _ _ _)
   | (with_reducible exact LeO.refl _)
   | (with_reducible exact LeO.none _)
   | (with_reducible refine LeO.ite ?_ ?_)
   | (with_reducible refine LeO.bind ?_ (fun _ => ?_))
   | exact ih0 _ _ _
   | exact LeO.none _
   | refine LeO.ite ?_ ?_
   | refine LeO.bind ?_ (fun _ => ?_)
set_option maxHeartbeats 8000000 in
set_option maxRecDepth 100000 in
theorem laws_markIntS.calls (k : Nat) (P0_ : Nat → Prop) (u9000_ : Value) (l0 : List Int) (a1 : Int) (r1 : Int) (r2 : List Int) (w0 w : World) (hB : Below w0.heap.size w0 w) (ho0 : Kd.R (Kd.int .i64) 3 w w0.heap.size P0_ u9000_ l0) (h : laws_markIntS.f k l0 a1 = some (r1, r2)) :
  Calls Try.prog 29 #[u9000_, .int .i64 a1] w fun e w' => e = .returned (.int .i64 r1) ∧ Kd.R (Kd.int .i64) 3 w' w0.heap.size (fun k_ => (P0_ k_ ∨ w.heap.size ≤ k_)) u9000_ r2 ∧ Below w0.heap.size w0 w' ∧ Kept w w' (fun k_ => P0_ k_) := by
 have HO0 := m0_ (show Kd.R (Kd.int .i64) 3 w w0.heap.size (fun k_ => (P0_ k_ ∨ w.heap.size ≤ k_)) u9000_ l0 from Kd.R_mono ho0 (fun k_ hk => (.inl hk)))
 have HK := m0_ (Kept.refl w (fun k_ => P0_ k_))
 have HW0 := m0_ hB.size
 have HB := m0_ hB
 clear hB
 have H : (laws_markIntS.l0 k l0 a1 0) = some (r1, r2) := h
 clear h
 have H' := m0_ H
 clear H
 go_enter Try.func29, Try.ntmps29
 go_wp2
 go_loopg [1, 5] k (fun kq v1 v5 w' => ∃ (x0_1 : List Int) (x1_1 : Int) (x5_1 : Int), v1 = .int .i64 x1_1 ∧ v5 = .int .i64 x5_1 ∧ Aside0 (laws_markIntS.l0 kq x0_1 x1_1 x5_1 = some (r1, r2)) ∧ Aside0 (kq ≤ k) ∧ Aside0 (Kd.R (Kd.int .i64) 3 w' w0.heap.size (fun k_ => (P0_ k_ ∨ w.heap.size ≤ k_)) u9000_ x0_1) ∧ Aside0 (Kept w w' (fun k_ => P0_ k_)) ∧ Aside0 (Below w0.heap.size w0 w'))
 case atStart => exact ⟨(l0), (a1), (0), (by first | rfl | (simp;done) | (simp [*];done)), (by first | rfl | (simp;done) | (simp [*];done)), H', ⟨Nat.le_refl _⟩, ⟨by (with_reducible repeat (first | apply Kd.R_alloc | apply Kd.R_drewN | apply Kd.R_drew));exact HO0.out⟩, ⟨by repeat (first | (with_reducible first | exact HK.out | apply Kept.alloc | apply Kept.drewN | apply Kept.drew) | exact HK.out)⟩, ⟨by repeat (first | (with_reducible first | exact HB.out | apply below_alloc | apply pw_below_drewN | apply below_drew1) | exact HB.out)⟩⟩
 case round =>
  clear H'
  try clear c2
  try clear p2
  obtain ⟨x0_1, x1_1, x5_1, rfl, rfl, HA, HK1, HO_0, HK, HB⟩ := hrel
  cases gk with
  | zero => exact absurd HA.out (by simp [laws_markIntS.l0])
  | succ k1 =>
   have H := HA.out
   clear HA
   simp only [laws_markIntS.l0] at H
   by_cases c3 : x5_1 < (x0_1.length : Int)
   rotate_left
   ·rw [if_neg c3] at H
    have c3b0 : decide (x5_1 < (x0_1.length : Int)) = false := decide_eq_false c3
    clear c3
    simp only [Option.some.injEq, Prod.mk.injEq] at H
    obtain ⟨rfl, rfl⟩ := H
    obtain ⟨Ao9, co9, eo9⟩ := Kd.R_slice HO_0.out
    subst eo9
    go_wp2
    go_ret
    exact ⟨by first | rfl | (simp [errW_none, errW_some] <;> rfl) | (simp [*, errW_none, errW_some] <;> rfl), by (with_reducible repeat (first | apply Kd.R_alloc | apply Kd.R_drewN | apply Kd.R_drew));exact HO_0.out, by repeat (first | (with_reducible first | exact HB.out | apply below_alloc | apply pw_below_drewN | apply below_drew1) | exact HB.out), by repeat (first | (with_reducible first | exact HK.out | apply Kept.alloc | apply Kept.drewN | apply Kept.drew) | exact HK.out)⟩
   rw [if_pos c3] at H
   have c3b0 : decide (x5_1 < (x0_1.length : Int)) = true := decide_eq_true c3
   clear c3
   by_cases c4 : 0 ≤ x5_1
   rotate_left
   ·rw [if_neg c4] at H
    exact absurd H (by simp)
   rw [if_pos c4] at H
   have c4b0 : decide (0 ≤ x5_1) = true := decide_eq_true c4
   clear c4
   obtain ⟨y101, hy101⟩ : ∃ y_ : List Int, y_ = (x0_1.set (x5_1 : Int).toNat x1_1) := ⟨_, rfl⟩
   replace H : (laws_markIntS.l0 k1 y101 (wrap64 (x1_1 + 1)) (wrap64 (x5_1 + 1))) = some (r1, r2) := by first | (rw [hy101];with_reducible exact H) | (have H2_ := (Option.bind_some _ _).symm.trans H;rw [hy101];with_reducible exact H2_) | (have H2_ := (Option.bind_some _ _).symm.trans H;with_reducible exact H2_) | with_reducible exact H | (rw [hy101];exact H) | exact H
   have Ny101 := m0_ hy101
   clear hy101
   have H' := m0_ H
   clear H
   obtain ⟨Ao6, co6, eo6⟩ := Kd.R_slice HO_0.out
   subst eo6
   have p5 : 0 ≤ (x5_1 : Int) := of_decide_eq_true (by first | (with_reducible assumption) | assumption)
   have q5 : (x5_1 : Int) < ((x0_1.length : Int) : Int) := of_decide_eq_true (by first | (with_reducible assumption) | assumption)
   obtain ⟨go5, co5, eo5, gb5, gl5, cl5, HG5⟩ := Kd.R_form HO_0.out (by omega)
   (first | cases eo5 | (injection eo5 with ea_ en_ ec_;(first | subst ea_ | (injection ea_ with ea_;subst ea_));subst ec_;clear en_))
   have GB5 := m0_ gb5
   have GG5 := m0_ HG5
   clear gb5 gl5 HG5
   have HMgo5 := m0_ (show (P0_ go5 ∨ w.heap.size ≤ go5) from (HO_0.out.1 _ rfl))
   obtain ⟨hx5_0, hf5_0⟩ := Kd.R_celln 0 HO_0.out (x5_1 : Int) p5 q5
   replace p5 := eq_true p5
   replace q5 := eq_true q5
   have HP7 := Kd.R_putg HO_0.out (x5_1 : Int) x1_1
   go_wp2_with (first | ((with_reducible refine gate_store (t := 3) (p := 15) rfl ?_);refine store_event (t := 3) (p := 15) (v := ?vo_w8) (w1 := (wr.setCell ⟨go5, (x5_1 : Int).toNat, none⟩ (.int .i64 x1_1))) ?hg ?ho ?hn ?hr ?_;(case ho => rfl);(case hg => rfl);(case hn => rfl);(case hr => first | (go_simp;done) | (go_simp;rfl));intro w8 hw;have hg : wr.grownBy w8 (some go5) := (by rw [hw];exact HP7.2);have hp_ : Kd.R (Kd.int .i64) 3 w8 w0.heap.size (fun k_ => (P0_ k_ ∨ w.heap.size ≤ k_)) (.slice (some ⟨go5, 0, none⟩) x0_1.length co6) y101 := (by rw [hw, Ny101.out];exact HP7.1);clear HP7;replace HB := m0_ ((by rw [hw];exact below_set (HB.out) GB5.out : Below w0.heap.size w0 w8));replace HK := m0_ (Kept.of_grown (S := (fun k_ => P0_ k_)) hg (by repeat (first | (with_reducible first | exact HK.out | apply Kept.alloc | apply Kept.drewN | apply Kept.drew) | exact HK.out)) (fun k_ e_ => (HO_0.out.1 k_ e_)));replace HO_0 := m0_ (hp_);clear hg hw hp_))
   go_roundg k1
   case measure => have := HK1.out;omega
   case rel => exact ⟨(y101), (wrap64 (x1_1 + 1)), (wrap64 (x5_1 + 1)), (by first | rfl | (simp;done) | (simp [*];done)), (by first | rfl | (simp;done) | (simp [*];done)), H', ⟨by have := HK1.out;omega⟩, ⟨by (with_reducible repeat (first | apply Kd.R_alloc | apply Kd.R_drewN | apply Kd.R_drew));exact HO_0.out⟩, ⟨by repeat (first | (with_reducible first | exact HK.out | apply Kept.alloc | apply Kept.drewN | apply Kept.drew) | exact HK.out)⟩, ⟨by repeat (first | (with_reducible first | exact HB.out | apply below_alloc | apply pw_below_drewN | apply below_drew1) | exact HB.out)⟩⟩

end Go.Proofs.Ytdljhokealbnnaa.M
namespace Go.Proofs.Ytdljhokealbnnaa.M
set_option linter.unusedVariables false
set_option linter.unusedSimpArgs false
open Go Go.RowKit Go.Proofs.YtdljhokealbnnaaW.PrintWords Go.Proofs.YtdljhokealbnnaaW.PrintLast Go.Proofs.YtdljhokealbnnaaW.PrintMore

def mkE (a b c : Int) (ks : List Int) (d : Int) : S104 := ⟨a, b, c, ks, z100, z102, [], d⟩
def Nils (w : World) (base : Nat) (ok : Nat → Prop) (A4 : Option Addr) (c4 : Nat) (A5 : Option Addr) (c5 : Nat) (A6 : Option Addr) (c6 : Nat) (A7 : Option Addr) (c7 : Nat) (A8 : Option Addr) (c8 : Nat) : Prop := k106.R 106 w base ok (.slice A4 0 c4) [] ∧ k106.R 106 w base ok (.slice A5 0 c5) [] ∧ k106.R 106 w base ok (.slice A6 0 c6) [] ∧ k106.R 106 w base ok (.slice A7 0 c7) [] ∧ k106.R 106 w base ok (.slice A8 0 c8) []
theorem mkE_open {w : World} {base : Nat} {ok : Nat → Prop} {a b c d : Int} {ks : List Int} {cs : List Value} (h : k104.M w base ok (mkE a b c ks d) cs) : ∃ v3 A4 c4 A5 c5 A6 c6 A7 c7 A8 c8, cs = [.int .i64 a, .int .i64 b, .int .i64 c, v3, .slice A4 0 c4, .slice A5 0 c5, .slice A6 0 c6, .slice A7 0 c7, .slice A8 0 c8, .int .i64 d] ∧ (Kd.int .i64).R 3 w base ok v3 ks ∧ Nils w base ok A4 c4 A5 c5 A6 c6 A7 c7 A8 c8 := by
  obtain ⟨v3, v4, v5, v6, v7, v8, rfl, h3, h4, h5, h6, h7, h8⟩ := k104_openM h
  obtain ⟨A4, c4, rfl⟩ := Kd.R_slice h4
  obtain ⟨A5, c5, rfl⟩ := Kd.R_slice h5
  obtain ⟨A6, c6, rfl⟩ := Kd.R_slice h6
  obtain ⟨A7, c7, rfl⟩ := Kd.R_slice h7
  obtain ⟨A8, c8, rfl⟩ := Kd.R_slice h8
  exact ⟨v3, A4, c4, A5, c5, A6, c6, A7, c7, A8, c8, rfl, h3, h4, h5, h6, h7, h8⟩
theorem mkE_mk {w : World} {base : Nat} {ok : Nat → Prop} {a b c d : Int} {ks : List Int} {v3 : Value} {A4 : Option Addr} {c4 : Nat} {A5 : Option Addr} {c5 : Nat} {A6 : Option Addr} {c6 : Nat} {A7 : Option Addr} {c7 : Nat} {A8 : Option Addr} {c8 : Nat} (h3 : (Kd.int .i64).R 3 w base ok v3 ks) (h : Nils w base ok A4 c4 A5 c5 A6 c6 A7 c7 A8 c8) : k104.M w base ok (mkE a b c ks d) [.int .i64 a, .int .i64 b, .int .i64 c, v3, .slice A4 0 c4, .slice A5 0 c5, .slice A6 0 c6, .slice A7 0 c7, .slice A8 0 c8, .int .i64 d] :=
  k104_mkM w base ok (mkE a b c ks d) h3 h.1 h.2.1 h.2.2.1 h.2.2.2.1 h.2.2.2.2
theorem R_tight_nil {α : Type} {d : Kd α} {e : Nat} {w : World} {base : Nat} {ok : Nat → Prop} {v : Value} (h : d.R e w base ok v []) : d.R e w base (fun k => some k = v.ownBlock ∧ ok k) v [] := by
  obtain ⟨h0, inner, ho, hr⟩ := h
  exact ⟨fun k hk => ⟨hk.symm, h0 k hk⟩, inner, ho, hr.1, fun j p hj => by simp at hj⟩
theorem nil_kept {w w' : World} {base : Nat} {ok ok' : Nat → Prop} {v v3 : Value} {ks : List Int} (h : k106.R 106 w base ok v []) (h3 : (Kd.int .i64).R 3 w base ok v3 ks) (hk : Kept w w' (fun k => some k = v3.ownBlock)) (hok : ∀ k, ok k → ok' k) : k106.R 106 w' base ok' v [] := by
  refine Kd.R_mono (Kd.R_kept (R_tight_nil h) hk (fun k h1 h2 => ?_)) (fun k hk => hok k hk.2)
  obtain ⟨c1, e1⟩ := Kd.R_typed h k h1.1.symm
  obtain ⟨c2, e2⟩ := Kd.R_typed h3 k h2.symm
  rw [e1] at e2
  injection e2 with e2
  injection e2 with _ e2
  exact absurd e2 (by decide)
set_option maxHeartbeats 4000000 in
set_option maxRecDepth 100000 in
theorem occ_empty (A : Option Addr) (c : Nat) (a : Int) (w : World) : Calls Try.prog 106 #[.slice A 0 c, .int .i64 a] w fun e w' => e = .returned (.int .i64 a) ∧ w = w' := by
  go_enter Try.func106, Try.ntmps106
  go_wp2
  go_loopw [1, 5] (fun v1 v5 w' => v1 = .int .i64 a ∧ v5 = .int .i64 0 ∧ w' = w) (fun _ _ _ => 0)
  case atStart => exact ⟨rfl, rfl, rfl⟩
  case round =>
    obtain ⟨rfl, rfl, rfl⟩ := hrel
    go_wp2
    go_ret
    exact ⟨rfl, rfl⟩
def markN : Nat → List S104 → Int → Int → Option (Int × List S104)
  | 0, _, _, _ => none
  | k + 1, x0, x1, x5 => if x5 < (x0.length : Int) then (if 0 ≤ x5 then ((laws_markIntS.f k (x0.getD x5.toNat z104).f3 (wrap64 (wrap64 (wrap64 (x1 + 1) + 1) + 1))).bind fun t => markN k (x0.set x5.toNat (mkE x1 (wrap64 (x1 + 1)) (wrap64 (wrap64 (x1 + 1) + 1)) t.2 t.1)) (wrap64 (t.1 + 1)) (wrap64 (x5 + 1))) else none) else some (x1, x0)
theorem markN.mono : ∀ k, ∀ y0 y1 y2, LeO (markN k y0 y1 y2) (markN (k + 1) y0 y1 y2)
  | 0 => fun _ _ _ r h => by simp [markN] at h
  | k + 1 => fun y0 y1 y2 => by
    rw [markN.eq_def (k + 1), markN.eq_def (k + 1 + 1)]
    exact LeO.ite (LeO.ite (LeO.bind (laws_markIntS.mono _ _ k) (fun t => markN.mono k _ _ _)) (LeO.refl _)) (LeO.refl _)
def PlainN (l : List S104) : Prop := ∀ m ∈ l, ∃ a b c ks d, m = mkE a b c ks d
theorem PlainN.set {l : List S104} (h : PlainN l) (i : Nat) (a b c : Int) (ks : List Int) (d : Int) : PlainN (l.set i (mkE a b c ks d)) := by
  intro m hm
  rcases List.mem_or_eq_of_mem_set hm with hm | rfl
  · exact h m hm
  · exact ⟨_, _, _, _, _, rfl⟩
set_option maxHeartbeats 8000000 in
set_option maxRecDepth 100000 in
theorem markN_walk (k : Nat) (P0_ : Nat → Prop) (u9000_ : Value) (l0 : List S104) (a1 : Int) (r1 : Int) (r2 : List S104) (w0 w : World) (hB : Below w0.heap.size w0 w) (ho0 : Kd.S k104 104 w w0.heap.size P0_ u9000_ l0) (hpl : PlainN l0) (h : markN k l0 a1 0 = some (r1, r2)) :
    Calls Try.prog 74 #[u9000_, .int .i64 a1] w fun e w' => e = .returned (.int .i64 r1) ∧ Kd.S k104 104 w' w0.heap.size (fun k_ => (P0_ k_ ∨ w.heap.size ≤ k_)) u9000_ r2 ∧ Below w0.heap.size w0 w' ∧ Kept w w' (fun k_ => P0_ k_) := by
  have HO0 := m0_ (show Kd.S k104 104 w w0.heap.size (fun k_ => (P0_ k_ ∨ w.heap.size ≤ k_)) u9000_ l0 from Kd.S_mono ho0 (fun k_ hk => .inl hk))
  have HK0 := m0_ (Kept.refl w (fun k_ => P0_ k_))
  have HB0 := m0_ hB
  have HPL0 := m0_ hpl
  have hu27 := Try.underlying104
  have hu28 := Try.underlying100
  have hu29 := Try.underlying102
  have HP0 := m0_ (show ∀ k_, (u9000_.ownBlock = some k_) → P0_ k_ from fun k_ e_ => (Kd.S_R ho0).1 k_ e_)
  have HH0 := m0_ h
  clear hB ho0 h hpl
  go_enter Try.func74, Try.ntmps74
  go_wp2
  go_loopg [1, 5] k (fun kq v1 v5 w' => ∃ (x0 : List S104) (x1 : Int) (x5 : Int), v1 = .int .i64 x1 ∧ v5 = .int .i64 x5 ∧ Aside0 (markN kq x0 x1 x5 = some (r1, r2)) ∧ Aside0 (kq ≤ k) ∧ Aside0 (Kd.S k104 104 w' w0.heap.size (fun k_ => (P0_ k_ ∨ w.heap.size ≤ k_)) u9000_ x0) ∧ Aside0 (PlainN x0) ∧ Aside0 (Kept w w' (fun k_ => P0_ k_)) ∧ Aside0 (Below w0.heap.size w0 w'))
  case atStart => exact ⟨l0, a1, 0, rfl, rfl, HH0, ⟨Nat.le_refl _⟩, HO0, HPL0, HK0, HB0⟩
  case round =>
    clear HO0 HK0 HB0 HH0 HPL0
    obtain ⟨x0, x1, x5, rfl, rfl, HA, HK1, HO, HPL, HK, HB⟩ := hrel
    cases gk with
    | zero => exact absurd HA.out (by simp [markN])
    | succ k1 =>
      have H := HA.out
      clear HA
      rw [markN.eq_def (k1 + 1)] at H
      simp only at H
      by_cases c1 : x5 < (x0.length : Int)
      rotate_left
      · rw [if_neg c1] at H
        obtain ⟨rfl, rfl⟩ := Prod.mk.inj (Option.some.inj H)
        have c1b : decide (x5 < (x0.length : Int)) = false := decide_eq_false c1
        obtain ⟨Ao, co, eo⟩ := Kd.S_slice HO.out
        subst eo
        go_wp2
        go_ret
        exact ⟨rfl, HO.out, HB.out, HK.out⟩
      rw [if_pos c1] at H
      by_cases c2 : 0 ≤ x5
      rotate_left
      · rw [if_neg c2] at H
        cases H
      rw [if_pos c2] at H
      have hlen : x5.toNat < x0.length := by omega
      obtain ⟨e0, e1, e2, e3, e7, hE⟩ := HPL.out (x0.getD x5.toNat z104) (by rw [List.getD_eq_getElem?_getD, List.getElem?_eq_getElem hlen]; exact List.getElem_mem _)
      rw [hE] at H
      obtain ⟨⟨t1, t2⟩, ht, H⟩ := Option.bind_eq_some_iff.1 H
      have HT := m0_ (show laws_markIntS.f k1 e3 (wrap64 (wrap64 (wrap64 (x1 + 1) + 1) + 1)) = some (t1, t2) from ht)
      have HN := m0_ H
      clear ht H
      obtain ⟨go, co, eo, gb, gl, cl, hg⟩ := Kd.S_form HO.out (by omega)
      have hp0 := HP0.out
      subst eo
      have HMg := m0_ (show P0_ go ∨ w.heap.size ≤ go from .inl (hp0 go rfl))
      clear gb gl hg hp0
      obtain ⟨oki, c, hcl, hM, hcc, hoki, hH⟩ := Kd.S_lend HO.out z104 x5 c2 c1
      rw [hE] at hM
      obtain ⟨v3, A4, c4, A5, c5, A6, c6, A7, c7, A8, c8, rfl, hv3, hnl⟩ := mkE_open hM
      have HH := m0_ hH
      have HV := m0_ hv3
      have HNL := m0_ hnl
      have HI := m0_ hoki
      clear hcl hM hcc hoki hH hv3 hnl HO hE
      have c1b : decide (x5 < (x0.length : Int)) = true := decide_eq_true c1
      have p5 := eq_true c2
      have q5 := eq_true c1
      go_wp2_with (first | ((with_reducible refine gate_store (t := 3) (p := 16) rfl ?_); refine Kd.H_store k104 w0.heap.size rfl rfl 3 (.tmp 16) (.tmp 14) rfl 104 x5 0 x0 (mkE x1 e1 e2 e3 e7) (.int .i64 (x1)) [.int .i64 (x1)] _ _ oki oki rfl ?hoff rfl rfl ?hti ?hone HH.out c2 c1 ?hj ?hM (fun _ h => h) HB.out ?_; (case hoff => rfl); (case hti => rfl); (case hone => (intro q hq; rw [List.mem_singleton.1 hq]; rfl)); (case hj => exact Nat.le_of_ble_eq_true rfl); (case hM => exact mkE_mk HV.out HNL.out); intro w8 hs hb hg; have n1_ := m0_ hb; have n2_ := m0_ (Kept.of_grown (S := (fun k_ => P0_ k_)) hg HK.out (fun k_ e_ => (by injection e_ with e_; rw [← e_]; exact HMg.out))); clear HB HK HH HV HNL HI hb hg oki; have HB := n1_; have HK := n2_; clear n1_ n2_; obtain ⟨oki, cc, hcl, hM, hcc, hoki, hH⟩ := Kd.S_lend hs z104 x5 c2 c1; rw [getD_set _ _ _ _ (by first | exact hlen | (rw [List.length_set]; exact hlen))] at hM; obtain ⟨v3, A4, c4, A5, c5, A6, c6, A7, c7, A8, c8, rfl, hv3, hnl⟩ := mkE_open hM; have HH := m0_ hH; have HV := m0_ hv3; have HNL := m0_ hnl; have HI := m0_ hoki; clear hcl hM hcc hoki hH hv3 hnl hs) | ((with_reducible refine gate_store (t := 3) (p := 23) rfl ?_); refine Kd.H_store k104 w0.heap.size rfl rfl 3 (.tmp 23) (.tmp 21) rfl 104 x5 1 (x0.set x5.toNat (mkE x1 e1 e2 e3 e7)) (mkE x1 (wrap64 (x1 + 1)) e2 e3 e7) (.int .i64 (wrap64 (x1 + 1))) [.int .i64 (wrap64 (x1 + 1))] _ _ oki oki rfl ?hoff rfl rfl ?hti ?hone HH.out c2 c1 ?hj ?hM (fun _ h => h) HB.out ?_; (case hoff => rfl); (case hti => rfl); (case hone => (intro q hq; rw [List.mem_singleton.1 hq]; rfl)); (case hj => exact Nat.le_of_ble_eq_true rfl); (case hM => exact mkE_mk HV.out HNL.out); intro w8 hs hb hg; have n1_ := m0_ hb; have n2_ := m0_ (Kept.of_grown (S := (fun k_ => P0_ k_)) hg HK.out (fun k_ e_ => (by injection e_ with e_; rw [← e_]; exact HMg.out))); clear HB HK HH HV HNL HI hb hg oki; have HB := n1_; have HK := n2_; clear n1_ n2_; rw [List.set_set] at hs; obtain ⟨oki, cc, hcl, hM, hcc, hoki, hH⟩ := Kd.S_lend hs z104 x5 c2 c1; rw [getD_set _ _ _ _ (by first | exact hlen | (rw [List.length_set]; exact hlen))] at hM; obtain ⟨v3, A4, c4, A5, c5, A6, c6, A7, c7, A8, c8, rfl, hv3, hnl⟩ := mkE_open hM; have HH := m0_ hH; have HV := m0_ hv3; have HNL := m0_ hnl; have HI := m0_ hoki; clear hcl hM hcc hoki hH hv3 hnl hs) | ((with_reducible refine gate_store (t := 3) (p := 30) rfl ?_); refine Kd.H_store k104 w0.heap.size rfl rfl 3 (.tmp 30) (.tmp 28) rfl 104 x5 2 (x0.set x5.toNat (mkE x1 (wrap64 (x1 + 1)) e2 e3 e7)) (mkE x1 (wrap64 (x1 + 1)) (wrap64 (wrap64 (x1 + 1) + 1)) e3 e7) (.int .i64 (wrap64 (wrap64 (x1 + 1) + 1))) [.int .i64 (wrap64 (wrap64 (x1 + 1) + 1))] _ _ oki oki rfl ?hoff rfl rfl ?hti ?hone HH.out c2 c1 ?hj ?hM (fun _ h => h) HB.out ?_; (case hoff => rfl); (case hti => rfl); (case hone => (intro q hq; rw [List.mem_singleton.1 hq]; rfl)); (case hj => exact Nat.le_of_ble_eq_true rfl); (case hM => exact mkE_mk HV.out HNL.out); intro w8 hs hb hg; have n1_ := m0_ hb; have n2_ := m0_ (Kept.of_grown (S := (fun k_ => P0_ k_)) hg HK.out (fun k_ e_ => (by injection e_ with e_; rw [← e_]; exact HMg.out))); clear HB HK HH HV HNL HI hb hg oki; have HB := n1_; have HK := n2_; clear n1_ n2_; rw [List.set_set] at hs; obtain ⟨oki, cc, hcl, hM, hcc, hoki, hH⟩ := Kd.S_lend hs z104 x5 c2 c1; rw [getD_set _ _ _ _ (by first | exact hlen | (rw [List.length_set]; exact hlen))] at hM; obtain ⟨v3, A4, c4, A5, c5, A6, c6, A7, c7, A8, c8, rfl, hv3, hnl⟩ := mkE_open hM; have HH := m0_ hH; have HV := m0_ hv3; have HNL := m0_ hnl; have HI := m0_ hoki; have hcell : w8.cell? ⟨go, x5.toNat * 10 + 3, none⟩ = some v3 := hcc 3 _ rfl; clear hcl hM hcc hoki hH hv3 hnl hs) | (go_at_call 29; fail))
      refine (laws_markIntS.calls k1 (fun k_ => some k_ = v3.ownBlock) v3 e3 _ t1 t2 w0 _ HB.out (Kd.R_tight rfl HV.out) HT.out).mono ?_
      rintro e w10 ⟨rfl, hr, hb, hk⟩
      have ho3 : ∀ k_, some k_ = v3.ownBlock → oki k_ := fun k_ e_ => HV.out.1 k_ e_.symm
      have hnl2 : Nils w10 w0.heap.size (fun k_ => oki k_ ∨ w8.heap.size ≤ k_) A4 c4 A5 c5 A6 c6 A7 c7 A8 c8 := ⟨nil_kept HNL.out.1 HV.out hk (fun _ h => .inl h), nil_kept HNL.out.2.1 HV.out hk (fun _ h => .inl h), nil_kept HNL.out.2.2.1 HV.out hk (fun _ h => .inl h), nil_kept HNL.out.2.2.2.1 HV.out hk (fun _ h => .inl h), nil_kept HNL.out.2.2.2.2 HV.out hk (fun _ h => .inl h)⟩
      have hs := S_inner HH.out (Kept.mono hk ho3) (mkE_mk (a := x1) (b := wrap64 (x1 + 1)) (c := wrap64 (wrap64 (x1 + 1) + 1)) (d := e7) (Kd.R_mono hr (fun k_ h_ => h_.elim (fun h_ => .inl (ho3 k_ h_)) .inr)) hnl2) (fun k_ h_ => .inr (Nat.le_trans HK.out.1 h_))
      rw [List.set_set] at hs
      have HB2 := m0_ hb
      have HK2 := m0_ (HK.out.then_ hk (fun k_ h_ => (HI.out k_ (ho3 k_ h_)).1))
      clear hr hb hk HH HV HNL HI HB HK hnl2 ho3 oki
      have HB := HB2
      have HK := HK2
      clear HB2 HK2
      obtain ⟨oki, cc, hcl, hM, hcc, hoki, hH⟩ := Kd.S_lend hs z104 x5 c2 c1
      rw [getD_set _ _ _ _ (by first | exact hlen | (rw [List.length_set] <;> exact hlen))] at hM
      obtain ⟨v3, A4, c4, A5, c5, A6, c6, A7, c7, A8, c8, rfl, hv3, hnl⟩ := mkE_open hM
      have HH := m0_ hH
      have HV := m0_ hv3
      have HNL := m0_ hnl
      have HI := m0_ hoki
      have HC4 := m0_ (show w10.cell? ⟨go, x5.toNat * 10 + 4, none⟩ = some (.slice A4 0 c4) from hcc 4 _ rfl)
      have HC5 := m0_ (show w10.cell? ⟨go, x5.toNat * 10 + 5, none⟩ = some (.slice A5 0 c5) from hcc 5 _ rfl)
      have HC6 := m0_ (show w10.cell? ⟨go, x5.toNat * 10 + 6, none⟩ = some (.slice A6 0 c6) from hcc 6 _ rfl)
      have HC7 := m0_ (show w10.cell? ⟨go, x5.toNat * 10 + 7, none⟩ = some (.slice A7 0 c7) from hcc 7 _ rfl)
      have HC8 := m0_ (show w10.cell? ⟨go, x5.toNat * 10 + 8, none⟩ = some (.slice A8 0 c8) from hcc 8 _ rfl)
      clear hcl hM hcc hoki hH hv3 hnl hs
      have hcell : w10.cell? ⟨go, x5.toNat * 10 + 4, none⟩ = some (.slice A4 0 c4) := HC4.out
      go_wp2_with (go_at_call 106; fail)
      clear hcell
      refine (occ_empty A4 c4 t1 _).mono ?_
      rintro e w11 ⟨rfl, rfl⟩
      have hcell : w10.cell? ⟨go, x5.toNat * 10 + 5, none⟩ = some (.slice A5 0 c5) := HC5.out
      go_wp2_with (go_at_call 106; fail)
      clear hcell
      refine (occ_empty A5 c5 t1 _).mono ?_
      rintro e w11 ⟨rfl, rfl⟩
      have hcell : w10.cell? ⟨go, x5.toNat * 10 + 6, none⟩ = some (.slice A6 0 c6) := HC6.out
      go_wp2_with (go_at_call 106; fail)
      clear hcell
      refine (occ_empty A6 c6 t1 _).mono ?_
      rintro e w11 ⟨rfl, rfl⟩
      have hcell : w10.cell? ⟨go, x5.toNat * 10 + 7, none⟩ = some (.slice A7 0 c7) := HC7.out
      go_wp2_with (go_at_call 106; fail)
      clear hcell
      refine (occ_empty A7 c7 t1 _).mono ?_
      rintro e w11 ⟨rfl, rfl⟩
      have hcell : w10.cell? ⟨go, x5.toNat * 10 + 8, none⟩ = some (.slice A8 0 c8) := HC8.out
      go_wp2_with (go_at_call 106; fail)
      clear hcell
      refine (occ_empty A8 c8 t1 _).mono ?_
      rintro e w11 ⟨rfl, rfl⟩
      go_wp2_with (first | ((with_reducible refine gate_store (t := 3) (p := 83) rfl ?_); refine Kd.H_store k104 w0.heap.size rfl rfl 3 (.tmp 83) (.tmp 81) rfl 104 x5 9 (x0.set x5.toNat (mkE x1 (wrap64 (x1 + 1)) (wrap64 (wrap64 (x1 + 1) + 1)) t2 e7)) (mkE x1 (wrap64 (x1 + 1)) (wrap64 (wrap64 (x1 + 1) + 1)) t2 t1) (.int .i64 (t1)) [.int .i64 (t1)] _ _ oki oki rfl ?hoff rfl rfl ?hti ?hone HH.out c2 c1 ?hj ?hM (fun _ h => h) HB.out ?_; (case hoff => rfl); (case hti => rfl); (case hone => (intro q hq; rw [List.mem_singleton.1 hq]; rfl)); (case hj => exact Nat.le_of_ble_eq_true rfl); (case hM => exact mkE_mk HV.out HNL.out); intro w8 hs hb hg; have n1_ := m0_ hb; have n2_ := m0_ (Kept.of_grown (S := (fun k_ => P0_ k_)) hg HK.out (fun k_ e_ => (by injection e_ with e_; rw [← e_]; exact HMg.out))); clear HB HK HH HV HNL HI hb hg oki; have HB := n1_; have HK := n2_; clear n1_ n2_; rw [List.set_set] at hs; have HO2 := m0_ hs; clear hs))
      go_roundg k1
      case measure => have := HK1.out; omega
      case rel => exact ⟨_, _, _, rfl, rfl, HN, ⟨by have := HK1.out; omega⟩, HO2, ⟨HPL.out.set _ _ _ _ _ _⟩, HK, HB⟩
def SimC (cs cs' : Array Value) : Prop := cs'.size = cs.size ∧ ∀ i : Nat, cs'[i]? = cs[i]? ∨ ∃ a b, cs[i]? = some (.int .i64 a) ∧ cs'[i]? = some (.int .i64 b)
theorem SimC.refl (cs : Array Value) : SimC cs cs := ⟨rfl, fun _ => .inl rfl⟩
theorem SimC.trans {a b c : Array Value} (h : SimC a b) (g : SimC b c) : SimC a c := by
  refine ⟨g.1.trans h.1, fun i => ?_⟩
  rcases g.2 i with e | ⟨p, q, e1, e2⟩
  · rcases h.2 i with e' | ⟨p, q, e1, e2⟩
    · exact .inl (e.trans e')
    · exact .inr ⟨p, q, e1, e.trans e2⟩
  · rcases h.2 i with e' | ⟨p', q', e1', e2'⟩
    · exact .inr ⟨p, q, e'.symm.trans e1, e2⟩
    · exact .inr ⟨p', q, e1', e2⟩
theorem SimC.set {cs : Array Value} {i : Nat} {a : Int} (h : cs[i]? = some (.int .i64 a)) (b : Int) : SimC cs (cs.setIfInBounds i (.int .i64 b)) := by
  obtain ⟨hi, _⟩ := Array.getElem?_eq_some_iff.1 h
  refine ⟨by simp, fun j => ?_⟩
  by_cases e : i = j
  · subst e
    exact .inr ⟨a, b, h, by simp [hi]⟩
  · exact .inl (by simp [Array.getElem?_setIfInBounds, e])
structure Numb (P : Nat → Prop) (W W1 : World) : Prop where
  kept : Kept W W1 P
  sim : ∀ k, P k → ∀ cells t, W.heap[k]? = some (.cells cells t (0, 0)) → ∃ cells', W1.heap[k]? = some (.cells cells' t (0, 0)) ∧ SimC cells cells'
theorem Numb.refl (P : Nat → Prop) (W : World) : Numb P W W := ⟨Kept.refl W P, fun _ _ cells _ h => ⟨cells, h, SimC.refl _⟩⟩
theorem Numb.trans {P : Nat → Prop} {W W1 W2 : World} (h : Numb P W W1) (g : Numb P W1 W2) : Numb P W W2 := by
  refine ⟨⟨Nat.le_trans h.kept.1 g.kept.1, fun i hi hn => (g.kept.2 i (Nat.lt_of_lt_of_le hi h.kept.1) hn).trans (h.kept.2 i hi hn)⟩, fun k hk cells t hc => ?_⟩
  obtain ⟨c1, h1, s1⟩ := h.sim k hk cells t hc
  obtain ⟨c2, h2, s2⟩ := g.sim k hk c1 t h1
  exact ⟨c2, h2, s1.trans s2⟩
theorem Numb.mono {P Q : Nat → Prop} {W W1 : World} (h : Numb P W W1) (hq : ∀ k, P k → Q k) : Numb Q W W1 := by
  refine ⟨⟨h.kept.1, fun i hi hn => h.kept.2 i hi (fun hp => hn (hq i hp))⟩, fun k hk cells t hc => ?_⟩
  by_cases hp : P k
  · exact h.sim k hp cells t hc
  · exact ⟨cells, (h.kept.2 k (blk_lt hc) hp).trans hc, SimC.refl _⟩
theorem Numb.of_below {P : Nat → Prop} {W W1 : World} (hb : Below W.heap.size W W1) : Numb P W W1 := ⟨Kept.of_below hb P, fun k _ cells _ hc => ⟨cells, (hb.block k (blk_lt hc)).trans hc, SimC.refl _⟩⟩
def ShRow (W : World) (P : Nat → Prop) : Nat → Value → List S37 → Prop
  | 0, _, _ => False
  | n + 1, v, xs => (v = .slice none 0 0 ∧ xs = []) ∨ ∃ g cap cells, v = .slice (some ⟨g, 0, none⟩) xs.length cap ∧ P g ∧ xs.length ≤ cap ∧ W.heap[g]? = some (.cells cells 37 (0, 0)) ∧ cells.size = cap * 4 ∧ cap ≤ maxLen ∧
      ∀ i x, xs[i]? = some x → ∃ a b c v3, cells[i * 4]? = some (.int .i64 a) ∧ cells[i * 4 + 1]? = some (.int .i64 b) ∧ cells[i * 4 + 2]? = some (.int .i64 c) ∧ cells[i * 4 + 3]? = some v3 ∧ ShRow W P n v3 x.f3
theorem ShRow.notint {W : World} {P : Nat → Prop} {n : Nat} {v : Value} {xs : List S37} (h : ShRow W P n v xs) (a : Int) : v ≠ .int .i64 a := by
  cases n with
  | zero => exact h.elim
  | succ n =>
    rcases h with ⟨rfl, _⟩ | ⟨g, cap, cells, rfl, _⟩
    · intro e; cases e
    · intro e; cases e
theorem ShRow.numb {P : Nat → Prop} {W W1 : World} (hm : Numb P W W1) : ∀ (n : Nat) (v : Value) (xs : List S37), ShRow W P n v xs → ShRow W1 P n v xs
  | 0, _, _, h => h
  | n + 1, v, xs, h => by
    rcases h with h | ⟨g, cap, cells, hv, hp, hl, hg, hs, hc, hx⟩
    · exact .inl h
    obtain ⟨cells', hg', hsz, hsim⟩ := hm.sim g hp cells _ hg
    refine .inr ⟨g, cap, cells', hv, hp, hl, hg', hsz.trans hs, hc, fun i x hi => ?_⟩
    obtain ⟨a, b, c, v3, h0, h1, h2, h3, hr⟩ := hx i x hi
    have num : ∀ (j : Nat) (p : Int), cells[j]? = some (.int .i64 p) → ∃ q, cells'[j]? = some (.int .i64 q) := by
      intro j p hj
      rcases hsim j with e | ⟨_, q, _, e⟩
      · exact ⟨p, e.trans hj⟩
      · exact ⟨q, e⟩
    obtain ⟨a', h0⟩ := num _ _ h0
    obtain ⟨b', h1⟩ := num _ _ h1
    obtain ⟨c', h2⟩ := num _ _ h2
    refine ⟨a', b', c', v3, h0, h1, h2, ?_, ShRow.numb hm n v3 x.f3 hr⟩
    rcases hsim (i * 4 + 3) with e | ⟨p, q, e, _⟩
    · exact e.trans h3
    · rw [h3] at e
      exact absurd (Option.some.inj e) (hr.notint p)
theorem take4 {cs : List Value} {a b c d : Value} {j : Nat} (h : (cs.drop j).take 4 = [a, b, c, d]) : cs[j]? = some a ∧ cs[j + 1]? = some b ∧ cs[j + 2]? = some c ∧ cs[j + 3]? = some d := by
  have key : ∀ q, q < 4 → cs[j + q]? = [a, b, c, d][q]? := by
    intro q hq
    rw [← h, List.getElem?_take_of_lt hq, List.getElem?_drop]
  exact ⟨key 0 (by omega), key 1 (by omega), key 2 (by omega), key 3 (by omega)⟩
theorem R_ShRow {base : Nat} {W : World} : ∀ (n : Nat) (P : Nat → Prop) (v : Value) (xs : List S37), (Kd.upto F37 4 [37] n).R 37 W base P v xs → ShRow W P (n + 1) v xs := by
  intro n
  induction n with
  | zero =>
    rintro P v xs ⟨h0, inner, ⟨hlen, ho⟩, hr⟩
    cases xs with
    | nil =>
      rcases ho with ⟨rfl, _⟩ | ⟨g, cap, cur, rfl, hg, hh, hl, hm, hs, ht⟩
      · exact .inl ⟨rfl, rfl⟩
      · exact .inr ⟨g, cap, cur, rfl, h0 g rfl, hl, hh, hs, hm, fun i x hi => by simp at hi⟩
    | cons x xs => exact (hr.2 0 x rfl).elim
  | succ n ih =>
    rintro P v xs ⟨h0, inner, ⟨hlen, ho⟩, hr⟩
    rw [sz37] at ho
    rcases ho with ⟨rfl, e⟩ | ⟨g, cap, cur, rfl, hg, hh, hl, hm, hs, ht⟩
    · exact .inl ⟨rfl, List.eq_nil_of_length_eq_zero e⟩
    refine .inr ⟨g, cap, cur, rfl, h0 g rfl, hl, hh, hs, hm, fun i x hi => ?_⟩
    have hM := hr.2 i x hi
    obtain ⟨_, _, e0, rfl, ⟨_, _, rfl, rfl, ⟨_, _, rfl, rfl, ⟨v3, rfl, g3⟩⟩⟩⟩ := hM
    obtain ⟨k0, k1, k2, k3⟩ := take4 e0
    have up : ∀ (j : Nat) (u : Value), inner[j]? = some u → cur[j]? = some u := by
      intro j u hu
      rw [← ht] at hu
      have hlt : j < xs.length * 4 := by
        have := (List.getElem?_eq_some_iff.1 hu).1
        rw [List.length_take] at this
        omega
      rw [List.getElem?_take_of_lt hlt] at hu
      simpa using hu
    exact ⟨_, _, _, v3, up _ _ k0, up _ _ k1, up _ _ k2, up _ _ k3, ih P v3 x.f3 (Kd.R_mono g3 (fun k hk => hk.1))⟩
theorem shape_of {base : Nat} {W : World} {P : Nat → Prop} {v : Value} {xs : List S37} (h : k37.R 37 W base P v xs) : ∃ n, ShRow W P n v xs := by
  obtain ⟨n, h⟩ := Kd.fix_R_back mono37 h
  exact ⟨n + 1, R_ShRow n P v xs h⟩
theorem set_list {cs : Array Value} {off : Nat} {u : Value} (h : off < cs.size) : (cs.toList.take off ++ [u] ++ cs.toList.drop (off + 1)).toArray = cs.setIfInBounds off u := by
  apply Array.ext'
  rw [Array.toList_setIfInBounds, List.set_eq_take_append_cons_drop, if_pos (by simpa using h)]
  simp
theorem store_one {P : Program} {ops : Array Oper} {rest : List Oper} {o : Oper} {a : Act} {Q : Exit → Act → World → Prop} {W w0 : World} {base : Nat} (hgd : o.guard = none) (hN : o.dst = none) {t e : TypeId} {p : Tmp} {v : Operand} (ho : o.op = .store t (.tmp p) v) {g off : Nat} {cur : Array Value} {u : Value}
    (hp : a.eval (.tmp p) = .pointer (some ⟨g, off, none⟩)) (hx : a.eval v = u) (hg : W.heap[g]? = some (.cells cur e (0, 0))) (hu : u.cells.toList = [u]) (ht : (P.info? t).map (·.size) = some 1) (h1 : u.oneCell' = true) (hoff : off < cur.size)
    (hB : Below base w0 W) (hbg : base ≤ g)
    (h : ∀ w', w'.heap[g]? = some (.cells (cur.setIfInBounds off u) e (0, 0)) → KeepBut W w' g none → Below base w0 w' → wpList P ops Q rest a w') : wpList P ops Q (o :: rest) a W :=
  store_blk hgd hN ho hp hx hg hu ht (fun q hq => by rw [List.mem_singleton.1 hq]; exact h1) (show off + 1 ≤ cur.size from hoff) (set_list hoff) hB hbg h
theorem Numb.store {P : Nat → Prop} {W W1 : World} {g off e : Nat} {cur : Array Value} {a b : Int} (hp : P g) (hg : W.heap[g]? = some (.cells cur e (0, 0))) (ho : cur[off]? = some (.int .i64 a)) (h1 : W1.heap[g]? = some (.cells (cur.setIfInBounds off (.int .i64 b)) e (0, 0))) (hk : KeepBut W W1 g none) : Numb P W W1 := by
  refine ⟨⟨hk.1, fun i hi hn => hk.2 i hi (fun e => hn (e ▸ hp)) (by simp)⟩, fun k hk' cells t hc => ?_⟩
  by_cases e : k = g
  · subst e
    rw [hg] at hc
    injection hc with hc
    injection hc with c1 c2
    subst c1
    subst c2
    exact ⟨_, h1, SimC.set ho b⟩
  · exact ⟨cells, (hk.2 k (blk_lt hc) e (by simp)).trans hc, SimC.refl _⟩
theorem ShRow.slice {W : World} {P : Nat → Prop} {n : Nat} {v : Value} {xs : List S37} (h : ShRow W P n v xs) : ∃ A c, v = .slice A xs.length c ∧ xs.length ≤ maxLen := by
  cases n with
  | zero => exact h.elim
  | succ n =>
    rcases h with ⟨rfl, rfl⟩ | ⟨g, cap, cells, rfl, _, hl, _, _, hm, _⟩
    · exact ⟨none, 0, rfl, Nat.zero_le _⟩
    · exact ⟨_, _, rfl, Nat.le_trans hl hm⟩
theorem ShRow.at {W : World} {P : Nat → Prop} {n c : Nat} {A : Option Addr} {xs : List S37} (h : ShRow W P n (.slice A xs.length c) xs) (i : Nat) (hi : i < xs.length) :
    ∃ (g m : Nat) (cells : Array Value) (a b d : Int) (v3 : Value), A = some ⟨g, 0, none⟩ ∧ P g ∧ W.heap[g]? = some (.cells cells 37 (0, 0)) ∧ cells[i * 4]? = some (.int .i64 a) ∧ cells[i * 4 + 1]? = some (.int .i64 b) ∧ cells[i * 4 + 2]? = some (.int .i64 d) ∧ cells[i * 4 + 3]? = some v3 ∧ ShRow W P m v3 (xs.getD i z37).f3 := by
  cases n with
  | zero => exact h.elim
  | succ n =>
    rcases h with ⟨hv, rfl⟩ | ⟨g, cap, cells, hv, hp, hl, hg, hs, hm, hx⟩
    · simp at hi
    obtain ⟨a, b, d, v3, h0, h1, h2, h3, hr⟩ := hx i _ (List.getElem?_eq_getElem hi)
    injection hv with e1 e2 e3
    refine ⟨g, n, cells, a, b, d, v3, e1, hp, hg, h0, h1, h2, h3, ?_⟩
    rw [List.getD_eq_getElem?_getD, List.getElem?_eq_getElem hi]
    exact hr
def marksE : Nat → List S37 → Int → Option Int
  | 0, _, _ => none
  | _ + 1, [], a => some a
  | k + 1, x :: xs, a => (marksE k x.f3 (wrap64 (wrap64 (wrap64 (a + 1) + 1) + 1))).bind fun b => marksE k xs b
set_option maxHeartbeats 4000000 in
set_option maxRecDepth 100000 in
theorem markExS_walk : ∀ (k : Nat) (xs : List S37) (a r : Int) (n : Nat) (P : Nat → Prop) (v : Value) (w0 w : World), marksE k xs a = some r → ShRow w P n v xs → Below w0.heap.size w0 w → (∀ q, P q → w0.heap.size ≤ q) →
    Calls Try.prog 65 #[v, .int .i64 a] w fun e w' => e = .returned (.int .i64 r) ∧ Numb P w w' ∧ Below w0.heap.size w0 w' := by
  intro k
  induction k using Nat.strongRecOn with
  | ind k ih =>
  intro xs a r n P v w0 w hk hs hB hP
  obtain ⟨A, c, rfl, hl⟩ := hs.slice
  have HI := m0_ ih
  have HK := m0_ (show marksE k (xs.drop (0 : Int).toNat) a = some r from hk)
  have HS := m0_ hs
  have HM := m0_ (Numb.refl P w)
  have HB := m0_ hB
  have HP := m0_ hP
  have HX := m0_ hl
  have hu_ := Try.underlying37
  clear ih hk hs hB hP hl
  go_enter Try.func65, Try.ntmps65
  go_wp2
  go_loopg [1, 5] k (fun kq v1 v5 w' => ∃ (x1 : Int) (x5 : Int), v1 = .int .i64 x1 ∧ v5 = .int .i64 x5 ∧ Aside0 (marksE kq (xs.drop x5.toNat) x1 = some r) ∧ Aside0 (0 ≤ x5 ∧ x5.toNat ≤ xs.length) ∧ Aside0 (kq ≤ k) ∧ Aside0 (ShRow w' P n (.slice A xs.length c) xs) ∧ Aside0 (Numb P w w') ∧ Aside0 (Below w0.heap.size w0 w'))
  case atStart => exact ⟨a, 0, rfl, rfl, HK, ⟨Int.le_refl _, Nat.zero_le _⟩, ⟨Nat.le_refl _⟩, HS, HM, HB⟩
  case round =>
    clear HS HM HB HK
    obtain ⟨x1, x5, rfl, rfl, HA, H5, HK1, HS, HM, HB⟩ := hrel
    cases gk with
    | zero => exact absurd HA.out (by simp [marksE])
    | succ k1 =>
      have H := HA.out
      clear HA
      by_cases c1 : x5 < (xs.length : Int)
      rotate_left
      · have hd : xs.drop x5.toNat = [] := List.drop_of_length_le (by omega)
        rw [hd] at H
        unfold marksE at H
        obtain rfl := Option.some.inj H
        have c1b : decide (x5 < (xs.length : Int)) = false := decide_eq_false c1
        go_wp2
        go_ret
        exact ⟨rfl, HM.out, HB.out⟩
      have c2 : 0 ≤ x5 := H5.out.1
      have hlt : x5.toNat < xs.length := by omega
      have HL := m0_ hlt
      have ed : xs.drop x5.toNat = xs.getD x5.toNat z37 :: xs.drop (x5.toNat + 1) := by rw [List.drop_eq_getElem_cons hlt, List.getD_eq_getElem?_getD, List.getElem?_eq_getElem hlt]; rfl
      rw [ed] at H
      clear ed
      unfold marksE at H
      obtain ⟨y, hy⟩ : ∃ y, xs.getD x5.toNat z37 = y := ⟨_, rfl⟩
      rw [hy] at H
      have HY := m0_ hy
      clear hy
      obtain ⟨b, hb, H⟩ := Option.bind_eq_some_iff.1 H
      have HC := m0_ hb
      have HN := m0_ H
      clear H hb
      obtain ⟨go, m_, cells_, a_, b_, d_, v_, eA_, hp_, hg_, h0_, h1_, h2_, h3_, hr_⟩ := ShRow.at HS.out x5.toNat hlt
      subst eA_
      clear hp_ hg_ h0_ h1_ h2_ h3_ hr_ hlt
      have c1b : decide (x5 < (xs.length : Int)) = true := decide_eq_true c1
      have p5 := eq_true c2
      have q5 := eq_true c1
      go_wp2_with (first | ((with_reducible refine gate_store (t := 3) (p := 16) rfl ?_); obtain ⟨g_, m_, cells_, a_, b_, d_, v_, eA_, hp_, hg_, h0_, h1_, h2_, h3_, hr_⟩ := ShRow.at HS.out x5.toNat (by have := HL.out; omega); injection eA_ with eA_; injection eA_ with eA_; subst eA_; refine store_one (w0 := w0) (base := w0.heap.size) (e := 37) (g := go) (off := x5.toNat * 4) (cur := cells_) (u := .int .i64 x1) rfl rfl rfl rfl rfl hg_ rfl (by kernel_rfl) rfl (Array.getElem?_eq_some_iff.1 h0_).1 HB.out (HP.out go hp_) ?_; intro w16 hs_ hk_ hB_; have hm_ := Numb.store hp_ hg_ h0_ hs_ hk_; have n0_ := m0_ (HM.out.trans hm_); have n1_ := m0_ (ShRow.numb hm_ _ _ _ HS.out); have n2_ := m0_ hB_; clear HM HS HB hs_ hk_ hB_ hm_ hp_ hg_ h0_ h1_ h2_ h3_ hr_; have HM := n0_; have HS := n1_; have HB := n2_; clear n0_ n1_ n2_) | ((with_reducible refine gate_store (t := 3) (p := 23) rfl ?_); obtain ⟨g_, m_, cells_, a_, b_, d_, v_, eA_, hp_, hg_, h0_, h1_, h2_, h3_, hr_⟩ := ShRow.at HS.out x5.toNat (by have := HL.out; omega); injection eA_ with eA_; injection eA_ with eA_; subst eA_; refine store_one (w0 := w0) (base := w0.heap.size) (e := 37) (g := go) (off := x5.toNat * 4 + 1) (cur := cells_) (u := .int .i64 (wrap64 (x1 + 1))) rfl rfl rfl rfl rfl hg_ rfl (by kernel_rfl) rfl (Array.getElem?_eq_some_iff.1 h1_).1 HB.out (HP.out go hp_) ?_; intro w23 hs_ hk_ hB_; have hm_ := Numb.store hp_ hg_ h1_ hs_ hk_; have n0_ := m0_ (HM.out.trans hm_); have n1_ := m0_ (ShRow.numb hm_ _ _ _ HS.out); have n2_ := m0_ hB_; clear HM HS HB hs_ hk_ hB_ hm_ hp_ hg_ h0_ h1_ h2_ h3_ hr_; have HM := n0_; have HS := n1_; have HB := n2_; clear n0_ n1_ n2_) | ((with_reducible refine gate_store (t := 3) (p := 30) rfl ?_); obtain ⟨g_, m_, cells_, a_, b_, d_, v_, eA_, hp_, hg_, h0_, h1_, h2_, h3_, hr_⟩ := ShRow.at HS.out x5.toNat (by have := HL.out; omega); injection eA_ with eA_; injection eA_ with eA_; subst eA_; refine store_one (w0 := w0) (base := w0.heap.size) (e := 37) (g := go) (off := x5.toNat * 4 + 2) (cur := cells_) (u := .int .i64 (wrap64 (wrap64 (x1 + 1) + 1))) rfl rfl rfl rfl rfl hg_ rfl (by kernel_rfl) rfl (Array.getElem?_eq_some_iff.1 h2_).1 HB.out (HP.out go hp_) ?_; intro w30 hs_ hk_ hB_; have hm_ := Numb.store hp_ hg_ h2_ hs_ hk_; have n0_ := m0_ (HM.out.trans hm_); have n1_ := m0_ (ShRow.numb hm_ _ _ _ HS.out); have n2_ := m0_ hB_; clear HM HS HB hs_ hk_ hB_ hm_ hp_ hg_ h0_ h1_ h2_ h3_ hr_; have HM := n0_; have HS := n1_; have HB := n2_; clear n0_ n1_ n2_; obtain ⟨g2_, m2_, cells2_, a2_, b2_, d2_, v2_, eA2_, hp2_, hg2_, h02_, h12_, h22_, h32_, hr2_⟩ := ShRow.at HS.out x5.toNat (by have := HL.out; omega); rw [HY.out] at hr2_; injection eA2_ with eA2_; injection eA2_ with eA2_; subst eA2_; obtain ⟨Ak_, ck_, ek_, lk_⟩ := hr2_.slice; subst ek_; have hcell_ : w30.cell? ⟨go, x5.toNat * 4 + 3, none⟩ = some _ := (blk_cell hg2_ _).trans h32_; have HR := m0_ hr2_; clear hp2_ hg2_ h02_ h12_ h22_ h32_ hr2_) | ((with_reducible refine gate_callee (f := 65) rfl ?_); refine goesL_ (some 39) rfl rfl Try.func65 (by kernel_rfl) rfl #[.slice Ak_ y.f3.length ck_, .int .i64 (wrap64 (wrap64 (wrap64 (x1 + 1) + 1) + 1))] rfl (by (try simp only [List.map_toArray, List.map_cons, List.map_nil]); first | done | rfl) ?_; refine (HI.out k1 (by have := HK1.out; omega) _ _ b _ P _ w0 _ HC.out HR.out HB.out HP.out).mono ?_; rintro e w10 ⟨rfl, hm, hb⟩; refine ⟨_, rfl, ?_⟩; have n0_ := m0_ (HM.out.trans hm); have n1_ := m0_ (ShRow.numb hm _ _ _ HS.out); have n2_ := m0_ hb; clear HM HS HB hm hb HR hcell_))
      go_roundg k1
      case measure => have := HK1.out; omega
      case rel =>
        have hw : wrap64 (x5 + 1) = x5 + 1 := by have := HX.out; have hx := HL.out; unfold maxLen at this; unfold wrap64; omega
        have e5 : (x5 + 1).toNat = x5.toNat + 1 := by omega
        refine ⟨_, _, rfl, rfl, ?_, ?_, ⟨by have := HK1.out; omega⟩, n1_, n0_, n2_⟩
        · rw [hw, e5]; exact HN
        · rw [hw, e5]; exact ⟨by omega, HL.out⟩
theorem markEx_walk (k : Nat) (f0 f1 f2 : Int) (xs : List S37) (a r : Int) (n : Nat) (P : Nat → Prop) (v : Value) (w0 w : World) (hk : marksE k xs a = some r) (hs : ShRow w P n v xs) (hB : Below w0.heap.size w0 w) (hP : ∀ q, P q → w0.heap.size ≤ q) :
    Calls Try.prog 41 #[.agg #[.int .i64 f0, .int .i64 f1, .int .i64 f2, v], .int .i64 a] w fun e w' => e = .returned (.int .i64 r) ∧ Numb P w w' ∧ Below w0.heap.size w0 w' := by
  obtain ⟨A, c, rfl, hl⟩ := hs.slice
  have HK := m0_ hk
  have HS := m0_ hs
  have HB := m0_ hB
  have HP := m0_ hP
  clear hk hs hB hP hl
  go_enter Try.func41, Try.ntmps41
  go_wp2_with (first | ((with_reducible refine gate_dst (N := 2) rfl ?_); refine box_event ?hg (N := 2) ?hd (cs := #[.int .i64 f0, .int .i64 f1, .int .i64 f2, .slice A xs.length c]) (t := 37) ?hr ?_; (case hd => rfl); (case hg => rfl); (case hr => first | (go_simp; done) | (go_simp; rfl)); intro gb2 hg wb2 hbox hb; have hm_ := Numb.of_below (P := P) hb; have n0_ := m0_ hm_; have n1_ := m0_ (ShRow.numb hm_ _ _ _ HS.out); have n2_ := m0_ (below_step HB.out hb); clear HS HB; have HM := n0_; have HS := n1_; have HB := n2_; have hz3_ := (blk_cell hbox 3).trans (show _ = some (Value.slice A xs.length c) from rfl); clear n0_ n1_ n2_ hm_ hg hb) | (go_at_call 65; fail))
  refine (markExS_walk k xs a r n P _ w0 _ HK.out HS.out HB.out HP.out).mono ?_
  rintro e w10 ⟨rfl, hm, hb⟩
  have n0_ := m0_ hm
  have n2_ := m0_ hb
  go_wp2
  go_ret
  exact ⟨rfl, HM.out.trans n0_.out, n2_.out⟩
theorem PlainN.nil : PlainN [] := fun m hm => by simp at hm
theorem PlainN.snoc {l : List S104} (h : PlainN l) (a b c : Int) (ks : List Int) : PlainN (l ++ [mkN a b c ks]) := by
  intro m hm
  rcases List.mem_append.1 hm with hm | hm
  · exact h m hm
  · rw [List.mem_singleton.1 hm]
    exact ⟨a, b, c, ks, 0, rfl⟩
theorem addL_plain : ∀ (l : List S37), (∀ x ∈ l, ∀ ns, PlainN ns → PlainN (addX x ns).1) → ∀ (ns : List S104) (ks : List Int), PlainN ns → PlainN (addL l ns ks).1
  | [], _, ns, ks, h => by rw [addL_nil]; exact h
  | x :: l, hx, ns, ks, h => by
    rw [addL_cons]
    exact addL_plain l (fun y hy => hx y (by simp [hy])) _ _ (hx x (by simp) ns h)
theorem addX_plain : ∀ (x : S37) (ns : List S104), PlainN ns → PlainN (addX x ns).1 := by
  refine indI (fun x ih ns h => ?_)
  have h2 := addL_plain x.f3 ih ns [] h
  rw [addX_is]
  unfold putN
  by_cases c : idxN x.f0 x.f1 x.f2 (addL x.f3 ns []).2 (addL x.f3 ns []).1 0 < 0
  · rw [if_pos c]
    exact h2.snoc _ _ _ _
  · rw [if_neg c]
    exact h2
theorem graphF_plain {x : S37} {mo r1 r3 r4 : Int} {r2 : List S104} {r5 : Bool} (h : graphF x mo = some (r1, r2, r3, r4, r5)) : PlainN r2 := by
  obtain ⟨_, _, e, _⟩ := graphF_is h
  rw [e]
  cases graphB x mo with
  | false => exact PlainN.nil
  | true => exact addX_plain x [] PlainN.nil
set_option maxHeartbeats 4000000 in
set_option maxRecDepth 100000 in
theorem markG_walk (k : Nat) (P0_ : Nat → Prop) (t1 t3 t4 : Int) (t5 : Bool) (v : Value) (l0 : List S104) (a1 : Int) (r1 : Int) (r2 : List S104) (w0 w : World) (hB : Below w0.heap.size w0 w) (ho0 : Kd.S k104 104 w w0.heap.size P0_ v l0) (hpl : PlainN l0) (h : markN k l0 a1 0 = some (r1, r2)) :
    Calls Try.prog 42 #[.agg #[.int .i64 t1, v, .int .i64 t3, .int .i64 t4, .bool t5], .int .i64 a1] w fun e w' => e = .returned (.int .i64 r1) ∧ Kd.S k104 104 w' w0.heap.size (fun k_ => (P0_ k_ ∨ w.heap.size ≤ k_)) v r2 ∧ Below w0.heap.size w0 w' ∧ Kept w w' (fun k_ => P0_ k_) := by
  have HS := m0_ ho0
  have HB := m0_ hB
  have HH := m0_ h
  have HP := m0_ hpl
  have hu3_ := Try.underlying63
  clear hB ho0 h hpl
  go_enter Try.func42, Try.ntmps42
  go_wp2_with (first | ((with_reducible refine gate_dst (N := 2) rfl ?_); refine box_event ?hg (N := 2) ?hd (cs := #[.int .i64 t1, v, .int .i64 t3, .int .i64 t4, .bool t5]) (t := 63) ?hr ?_; (case hd => rfl); (case hg => rfl); (case hr => first | (go_simp; done) | (go_simp; rfl)); intro gb2 hg wb2 hbox hb; have n1_ := m0_ (below_step HB.out hb); have n2_ := m0_ (Kd.S_below HS.out hb); have n3_ := m0_ hb; clear HB HS; have HB := n1_; have HS := n2_; have hz1_ := (blk_cell hbox 1).trans (show _ = some v from rfl); clear n1_ n2_ hg hb) | (go_at_call 74; fail))
  refine (markN_walk k P0_ v l0 a1 r1 r2 w0 _ HB.out HS.out HP.out HH.out).mono ?_
  rintro e w10 ⟨rfl, hr, hb, hk⟩
  have n4_ := m0_ hr
  have n5_ := m0_ hb
  have n6_ := m0_ hk
  clear hr hb hk
  go_wp2
  go_ret
  exact ⟨rfl, Kd.S_mono n4_.out (fun k_ hk => hk.elim .inl (fun h => .inr (Nat.le_trans n3_.out.size h))), n5_.out, ⟨Nat.le_trans n3_.out.size n6_.out.1, fun i hi hn => (n6_.out.2 i (Nat.lt_of_lt_of_le hi n3_.out.size) hn).trans (n3_.out.block i hi)⟩⟩
theorem heldG_calls (k : Nat) (t1 t3 t4 : Int) (t5 : Bool) (a r : Int) (n : Nat) (A : Option Addr) (c : Nat) (zs : List S104) (w : World) (hn : n = zs.length) (hc : n ≤ c) (hr : Kd.C k104 w A n zs) (h : laws_heldGraph.f k t1 zs t3 t4 t5 a = some r) :
    Calls Try.prog 43 #[.agg #[.int .i64 t1, .slice A n c, .int .i64 t3, .int .i64 t4, .bool t5], .int .i64 a] w fun e w' => e = .returned (.int .i64 r) ∧ Below w.heap.size w w' := by
  subst hn
  exact laws_heldGraph.calls k t1 A c zs t3 t4 t5 a r w hr hc h
end Go.Proofs.Ytdljhokealbnnaa.M
namespace Go.Proofs.Ytdljhokealbnnaa.M
open Go.RowKit Go.Proofs.YtdljhokealbnnaaW.PrintWords Go.Proofs.YtdljhokealbnnaaW.PrintLast Go.Proofs.YtdljhokealbnnaaW.PrintMore
attribute [local go_sem] max2_int min2_int max_two min_two max_three min_three max_four min_four
set_option linter.unusedVariables false
set_option linter.unusedSimpArgs false

def laws_FnExactGraphOf.f (k : Nat) (a0 a1 a2 : Int) (l : List S30) (mo : Int) : Option Bool := (laws_szEx.f k a0 a1 a2 l 1048576).bind fun t => if t < 0 then some true else (laws_toEx.f k a0 a1 a2 l).bind fun x => (spec_GraphOf.f x.1 x.2.1 x.2.2.1 x.2.2.2 mo).bind fun v => (impl_GraphOf.f x.1 x.2.1 x.2.2.1 x.2.2.2 mo).bind fun g => (laws_eqGraph.f k g.1 g.2.1 g.2.2.1 g.2.2.2.1 g.2.2.2.2 v.1 v.2.1 v.2.2.1 v.2.2.2.1 v.2.2.2.2).bind fun e1 => (laws_eqEx.f k x.1 x.2.1 x.2.2.1 x.2.2.2 x.1 x.2.1 x.2.2.1 x.2.2.2).bind fun e2 =>
 (marksE k x.2.2.2 1).bind fun p1 => (markN k g.2.1 1 0).bind fun m => (laws_heldGraph.f k g.1 m.2 g.2.2.1 g.2.2.2.1 g.2.2.2.2 1).bind fun q => if (e1 = true ∧ e2 = true) ∧ (0 ≤ p1 ∧ 0 ≤ q ∧ q = m.1) then some true else none
def laws_FnExactGraphOf.T10 : Bool × List (List Nat × List Nat) := (true, [([], []), ([], []), ([1], [1]), ([0, 2, 2], [0, 2]), ([3], [3])])
def laws_FnExactGraphOf.B10 : List Nat := [0, 0, 2, 7, 15]
theorem laws_FnExactGraphOf.tab10 : rtab .any (opsOf Try.f10 10) = laws_FnExactGraphOf.T10 := by kernel_rfl
theorem laws_FnExactGraphOf.bits10 : waitsOk laws_FnExactGraphOf.T10.2 laws_FnExactGraphOf.B10 = true := by kernel_rfl
set_option maxHeartbeats 8000000 in
set_option maxRecDepth 100000 in
theorem laws_FnExactGraphOf.calls (k : Nat) (a0 : Int) (a1 : Int) (a2 : Int) (A : Option Addr) (c : Nat) (l : List (S30)) (mo : Int) (r : Bool) (hT_ : Aside0 (r = true)) (w : World) (hr0 : Kd.C k30 w A l.length l) (hc0 : l.length ≤ c) (h : laws_FnExactGraphOf.f k a0 a1 a2 l mo = some r) :
  Calls Try.prog 10 #[.agg #[.int .i64 a0, .int .i64 a1, .int .i64 a2, .slice A l.length c], .int .i64 mo] w fun e w' => e = .returned (.bool r) ∧ Below w.heap.size w w' := by
 obtain rfl := hT_.out
 unfold laws_FnExactGraphOf.f at h
 obtain ⟨t, ht, h_⟩ := Option.bind_eq_some_iff.1 h
 have HT1 := m0_ ht
 have HRA := m0_ hr0
 have HCA := m0_ hc0
 have HH := m0_ h_
 have HB := m0_ (Below.refl w.heap.size w)
 have hu1_ := Try.underlying37
 have hu2_ := Try.underlying30
 have hu3_ := Try.underlying63
 clear ht hr0 hc0 h h_
 go_enter Try.func10, Try.ntmps10
 go_wp2_with (first | ((with_reducible refine gate_dst (N := 2) rfl ?_);refine box_event ?hg (N := 2) ?hd (cs := #[.int .i64 a0, .int .i64 a1, .int .i64 a2, .slice A l.length c]) (t := 30) ?hr ?_;(case hd => rfl);(case hg => rfl);(case hr => first | (go_simp;done) | (go_simp;rfl));intro gb2 hg wb2 hbox hb;have G2 := m0_ (show w.heap.size ≤ gb2 from by rw [hg];exact Nat.le_refl _);have L2 := m0_ (blk_lt hbox);have Zwb2 := m0_ (show w.heap.size ≤ wb2.heap.size from hb.size);replace HB := m0_ (below_step HB.out hb);have BK2 := m0_ hbox;clear hg hbox hb;have hz2_0 := (blk_cell BK2.out 0).trans (show _ = some (Value.int .i64 a0) from rfl);have hz2_1 := (blk_cell BK2.out 1).trans (show _ = some (Value.int .i64 a1) from rfl);have hz2_2 := (blk_cell BK2.out 2).trans (show _ = some (Value.int .i64 a2) from rfl);have hz2_3 := (blk_cell BK2.out 3).trans (show _ = some (Value.slice A l.length c) from rfl)) | (go_at_call 33;fail))
 clear hz2_0 hz2_1 hz2_2 hz2_3
 refine (laws_szEx.calls k a0 a1 a2 _ _ l 1048576 t _ ?s1 ?s2 HT1.out).mono ?_
 (case s1 => exact Kd.C_below HRA.out HB.out)
 (case s2 => exact HCA.out)
 rintro e w1 ⟨rfl, hb⟩
 have Zw1 := m0_ (show wb2.heap.size ≤ w1.heap.size from hb.size)
 replace BK2 := m0_ (blk_below BK2.out hb);replace HB := m0_ (below_step HB.out hb)
 clear hb
 by_cases c1_ : t < 0
 ·have c1b : decide (t < 0) = true := decide_eq_true c1_
  go_wp2
  go_ret
  exact ⟨rfl, HB.out⟩
 have c1b : decide (t < 0) = false := decide_eq_false c1_
 have h := HH.out
 rw [if_neg c1_] at h
 obtain ⟨⟨x0, x1, x2, xs⟩, hx, h_⟩ := Option.bind_eq_some_iff.1 h
 clear h
 have h := h_
 clear h_
 have TA := m0_ hx
 clear hx
 obtain ⟨⟨v0, vs, v2, v3, v4⟩, hx, h_⟩ := Option.bind_eq_some_iff.1 h
 clear h
 have h := h_
 clear h_
 have TV := m0_ hx
 clear hx
 obtain ⟨⟨g0, gs, g2, g3, g4⟩, hx, h_⟩ := Option.bind_eq_some_iff.1 h
 clear h
 have h := h_
 clear h_
 have TG := m0_ hx
 clear hx
 obtain ⟨e1, hx, h_⟩ := Option.bind_eq_some_iff.1 h
 clear h
 have h := h_
 clear h_
 have E1 := m0_ hx
 clear hx
 obtain ⟨e2, hx, h_⟩ := Option.bind_eq_some_iff.1 h
 clear h
 have h := h_
 clear h_
 have E2 := m0_ hx
 clear hx
 obtain ⟨p1, hx, h_⟩ := Option.bind_eq_some_iff.1 h
 clear h
 have h := h_
 clear h_
 have MP := m0_ hx
 clear hx
 obtain ⟨⟨p2, ys⟩, hx, h_⟩ := Option.bind_eq_some_iff.1 h
 clear h
 have h := h_
 clear h_
 have M2 := m0_ hx
 clear hx
 obtain ⟨q, hx, h_⟩ := Option.bind_eq_some_iff.1 h
 clear h
 have h := h_
 clear h_
 have TQ := m0_ hx
 clear hx
 have h2 := Decidable.byContradiction (fun c => by rw [if_neg c] at h;cases h) (p := (e1 = true ∧ e2 = true) ∧ (0 ≤ p1 ∧ 0 ≤ q ∧ q = p2))
 obtain ⟨⟨rfl, rfl⟩, y1_, y2_, y3_⟩ := h2
 subst y3_
 have d1 : decide (p1 < 0) = false := decide_eq_false (by omega)
 have d2 : decide (q < 0) = false := decide_eq_false (by omega)
 have d3 : (q != q) = false := bne_self_eq_false q
 have HPL := m0_ (show PlainN gs from graphF_plain TG.out)
 clear h HH y1_ y2_ c1_ HT1
 have hz2_0 := (blk_cell BK2.out 0).trans (show _ = some (Value.int .i64 a0) from rfl);have hz2_1 := (blk_cell BK2.out 1).trans (show _ = some (Value.int .i64 a1) from rfl);have hz2_2 := (blk_cell BK2.out 2).trans (show _ = some (Value.int .i64 a2) from rfl);have hz2_3 := (blk_cell BK2.out 3).trans (show _ = some (Value.slice A l.length c) from rfl)
 go_wp2_with (first | ((with_reducible refine gate_callee (f := 35) rfl ?_);refine goesL_ (some 19) rfl rfl Try.func35 (by kernel_rfl) rfl #[.agg #[.int .i64 a0, .int .i64 a1, .int .i64 a2, .slice A l.length c]] rfl (by (try simp only [List.map_toArray, List.map_cons, List.map_nil]);first | done | rfl) ?_;(with_reducible refine (laws_toEx.calls k a0 a1 a2 _ _ l x0 x1 x2 xs _ ?s1 ?s2 TA.out).mono ?_);(case s1 => exact Kd.C_below HRA.out HB.out);(case s2 => exact HCA.out);rintro e w2 ⟨v_, rfl, hs, hb⟩;refine ⟨_, rfl, ?_⟩;clear hz2_0 hz2_1 hz2_2 hz2_3;have Zw2 := m0_ (show w1.heap.size ≤ w2.heap.size from hb.size);have hs_ := Kd.R_mono (ok' := fun k_ => w1.heap.size ≤ k_ ∧ k_ < w2.heap.size) (Kd.R_lower (Kd.R_bound hs) (below_size HB.out)) (fun k_ hk => ⟨hk.2.1, hk.2.2.1⟩);obtain ⟨AS, cS, rfl⟩ := Kd.R_slice hs_;have NS_ := m0_ hs_;clear hs_ hs;replace BK2 := m0_ (blk_below BK2.out hb);replace HB := m0_ (below_step HB.out hb);clear hb;have FS := NS_;clear NS_) | ((with_reducible refine gate_callee (f := 38) rfl ?_);refine goesL_ (some 21) rfl rfl Try.func38 (by kernel_rfl) rfl #[.agg #[.int .i64 x0, .int .i64 x1, .int .i64 x2, .slice AS xs.length cS], .int .i64 mo] rfl (by (try simp only [List.map_toArray, List.map_cons, List.map_nil]);first | done | rfl) ?_;(with_reducible refine (spec_GraphOf.calls x0 x1 x2 _ _ xs mo v0 vs v2 v3 v4 _ ?s1 ?s2 TV.out).mono ?_);(case s1 => exact (Kd.R_reads' FS.out).2.2);(case s2 => exact (Kd.R_reads' FS.out).2.1);rintro e w3 ⟨v_, rfl, hs, hb⟩;refine ⟨_, rfl, ?_⟩;have Zw3 := m0_ (show w2.heap.size ≤ w3.heap.size from hb.size);have hs_ := Kd.S_mono (ok' := fun k_ => w2.heap.size ≤ k_ ∧ k_ < w3.heap.size) (Kd.S_lower (Kd.S_bound hs) (below_size HB.out)) (fun k_ hk => ⟨hk.2.1, hk.2.2.1⟩);obtain ⟨AV, cV, rfl⟩ := Kd.S_slice hs_;have NV_ := m0_ hs_;clear hs_ hs;replace FS := m0_ (Kd.R_below FS.out hb);replace BK2 := m0_ (blk_below BK2.out hb);replace HB := m0_ (below_step HB.out hb);clear hb;have FV := NV_;clear NV_) | ((with_reducible refine gate_dst (N := 6) rfl ?_);refine box_event ?hg (N := 6) ?hd (cs := #[.int .i64 0, .slice none 0 0, .int .i64 0, .int .i64 0, .bool false]) (t := 63) ?hr ?_;(case hd => rfl);(case hg => rfl);(case hr => first | (go_simp;done) | (go_simp;rfl));intro gb6 hg wb6 hbox hb;have G6 := m0_ (show w3.heap.size ≤ gb6 from by rw [hg];exact Nat.le_refl _);have L6 := m0_ (blk_lt hbox);have Zwb6 := m0_ (show w3.heap.size ≤ wb6.heap.size from hb.size);replace FS := m0_ (Kd.R_below FS.out hb);replace FV := m0_ (Kd.S_below FV.out hb);replace BK2 := m0_ (blk_below BK2.out hb);replace HB := m0_ (below_step HB.out hb);have BK6 := m0_ hbox;clear hg hbox hb) | ((with_reducible refine gate_store (t := 63) (p := 6) (v := .tmp 21) rfl ?_);refine store_blk (w0 := w) (base := w.heap.size) (e := 63) (g := gb6) (off := 0) (cur := #[.int .i64 0, .slice none 0 0, .int .i64 0, .int .i64 0, .bool false]) (cur' := #[.int .i64 v0, .slice AV vs.length cV, .int .i64 v2, .int .i64 v3, .bool v4]) (u := .agg #[.int .i64 v0, .slice AV vs.length cV, .int .i64 v2, .int .i64 v3, .bool v4]) (seg := [.int .i64 v0, .slice AV vs.length cV, .int .i64 v2, .int .i64 v3, .bool v4]) rfl rfl rfl rfl rfl BK6.out rfl ?ht ?h1 (by simp) rfl HB.out (by have z_wb2 := Zwb2.out;have z_w1 := Zw1.out;have z_w2 := Zw2.out;have z_w3 := Zw3.out;have z_wb6 := Zwb6.out;have g_2 := G2.out;have l_2 := L2.out;have g_6 := G6.out;have l_6 := L6.out;have b_ := below_size HB.out;omega) ?_;(case ht => kernel_rfl);(case h1 => intro q hq;simp only [List.mem_cons, List.not_mem_nil, or_false] at hq;rcases hq with rfl | rfl | rfl | rfl | rfl <;> rfl);intro ws6 hs_ hk_ hB_;replace BK6 := m0_ (hs_);replace HB := m0_ (hB_);replace FS := m0_ (Kd.R_keep FS.out hk_ (fun k_ h1 => by have z_wb2 := Zwb2.out;have z_w1 := Zw1.out;have z_w2 := Zw2.out;have z_w3 := Zw3.out;have z_wb6 := Zwb6.out;have g_2 := G2.out;have l_2 := L2.out;have g_6 := G6.out;have l_6 := L6.out;omega));replace FV := m0_ (Kd.S_keep FV.out hk_ (fun k_ h1 => by have z_wb2 := Zwb2.out;have z_w1 := Zw1.out;have z_w2 := Zw2.out;have z_w3 := Zw3.out;have z_wb6 := Zwb6.out;have g_2 := G2.out;have l_2 := L2.out;have g_6 := G6.out;have l_6 := L6.out;omega));replace BK2 := m0_ (blk_keep BK2.out hk_ (by have z_wb2 := Zwb2.out;have z_w1 := Zw1.out;have z_w2 := Zw2.out;have z_w3 := Zw3.out;have z_wb6 := Zwb6.out;have g_2 := G2.out;have l_2 := L2.out;have g_6 := G6.out;have l_6 := L6.out;omega));have Zws6 := m0_ (hk_.1);clear hs_ hk_ hB_;have hz2_0 := (blk_cell BK2.out 0).trans (show _ = some (Value.int .i64 a0) from rfl);have hz2_1 := (blk_cell BK2.out 1).trans (show _ = some (Value.int .i64 a1) from rfl);have hz2_2 := (blk_cell BK2.out 2).trans (show _ = some (Value.int .i64 a2) from rfl);have hz2_3 := (blk_cell BK2.out 3).trans (show _ = some (Value.slice A l.length c) from rfl)) | ((with_reducible refine gate_callee (f := 35) rfl ?_);refine goesL_ (some 23) rfl rfl Try.func35 (by kernel_rfl) rfl #[.agg #[.int .i64 a0, .int .i64 a1, .int .i64 a2, .slice A l.length c]] rfl (by (try simp only [List.map_toArray, List.map_cons, List.map_nil]);first | done | rfl) ?_;(with_reducible refine (laws_toEx.calls k a0 a1 a2 _ _ l x0 x1 x2 xs _ ?s1 ?s2 TA.out).mono ?_);(case s1 => exact Kd.C_below HRA.out HB.out);(case s2 => exact HCA.out);rintro e w4 ⟨v_, rfl, hs, hb⟩;refine ⟨_, rfl, ?_⟩;clear hz2_0 hz2_1 hz2_2 hz2_3;have Zw4 := m0_ (show ws6.heap.size ≤ w4.heap.size from hb.size);have hs_ := Kd.R_mono (ok' := fun k_ => ws6.heap.size ≤ k_ ∧ k_ < w4.heap.size) (Kd.R_lower (Kd.R_bound hs) (below_size HB.out)) (fun k_ hk => ⟨hk.2.1, hk.2.2.1⟩);obtain ⟨AX, cX, rfl⟩ := Kd.R_slice hs_;have NX_ := m0_ hs_;clear hs_ hs;replace FS := m0_ (Kd.R_below FS.out hb);replace FV := m0_ (Kd.S_below FV.out hb);replace BK2 := m0_ (blk_below BK2.out hb);replace BK6 := m0_ (blk_below BK6.out hb);replace HB := m0_ (below_step HB.out hb);clear hb;have FX := NX_;clear NX_) | ((with_reducible refine gate_dst (N := 7) rfl ?_);refine box_event ?hg (N := 7) ?hd (cs := #[.int .i64 0, .int .i64 0, .int .i64 0, .slice none 0 0]) (t := 37) ?hr ?_;(case hd => rfl);(case hg => rfl);(case hr => first | (go_simp;done) | (go_simp;rfl));intro gb7 hg wb7 hbox hb;have G7 := m0_ (show w4.heap.size ≤ gb7 from by rw [hg];exact Nat.le_refl _);have L7 := m0_ (blk_lt hbox);have Zwb7 := m0_ (show w4.heap.size ≤ wb7.heap.size from hb.size);replace FS := m0_ (Kd.R_below FS.out hb);replace FV := m0_ (Kd.S_below FV.out hb);replace FX := m0_ (Kd.R_below FX.out hb);replace BK2 := m0_ (blk_below BK2.out hb);replace BK6 := m0_ (blk_below BK6.out hb);replace HB := m0_ (below_step HB.out hb);have BK7 := m0_ hbox;clear hg hbox hb) | ((with_reducible refine gate_store (t := 37) (p := 7) (v := .tmp 23) rfl ?_);refine store_blk (w0 := w) (base := w.heap.size) (e := 37) (g := gb7) (off := 0) (cur := #[.int .i64 0, .int .i64 0, .int .i64 0, .slice none 0 0]) (cur' := #[.int .i64 x0, .int .i64 x1, .int .i64 x2, .slice AX xs.length cX]) (u := .agg #[.int .i64 x0, .int .i64 x1, .int .i64 x2, .slice AX xs.length cX]) (seg := [.int .i64 x0, .int .i64 x1, .int .i64 x2, .slice AX xs.length cX]) rfl rfl rfl rfl rfl BK7.out rfl ?ht ?h1 (by simp) rfl HB.out (by have z_wb2 := Zwb2.out;have z_w1 := Zw1.out;have z_w2 := Zw2.out;have z_w3 := Zw3.out;have z_wb6 := Zwb6.out;have z_ws6 := Zws6.out;have z_w4 := Zw4.out;have z_wb7 := Zwb7.out;have g_2 := G2.out;have l_2 := L2.out;have g_6 := G6.out;have l_6 := L6.out;have g_7 := G7.out;have l_7 := L7.out;have b_ := below_size HB.out;omega) ?_;(case ht => kernel_rfl);(case h1 => intro q hq;simp only [List.mem_cons, List.not_mem_nil, or_false] at hq;rcases hq with rfl | rfl | rfl | rfl <;> rfl);intro ws7 hs_ hk_ hB_;replace BK7 := m0_ (hs_);replace HB := m0_ (hB_);replace FS := m0_ (Kd.R_keep FS.out hk_ (fun k_ h1 => by have z_wb2 := Zwb2.out;have z_w1 := Zw1.out;have z_w2 := Zw2.out;have z_w3 := Zw3.out;have z_wb6 := Zwb6.out;have z_ws6 := Zws6.out;have z_w4 := Zw4.out;have z_wb7 := Zwb7.out;have g_2 := G2.out;have l_2 := L2.out;have g_6 := G6.out;have l_6 := L6.out;have g_7 := G7.out;have l_7 := L7.out;omega));replace FV := m0_ (Kd.S_keep FV.out hk_ (fun k_ h1 => by have z_wb2 := Zwb2.out;have z_w1 := Zw1.out;have z_w2 := Zw2.out;have z_w3 := Zw3.out;have z_wb6 := Zwb6.out;have z_ws6 := Zws6.out;have z_w4 := Zw4.out;have z_wb7 := Zwb7.out;have g_2 := G2.out;have l_2 := L2.out;have g_6 := G6.out;have l_6 := L6.out;have g_7 := G7.out;have l_7 := L7.out;omega));replace FX := m0_ (Kd.R_keep FX.out hk_ (fun k_ h1 => by have z_wb2 := Zwb2.out;have z_w1 := Zw1.out;have z_w2 := Zw2.out;have z_w3 := Zw3.out;have z_wb6 := Zwb6.out;have z_ws6 := Zws6.out;have z_w4 := Zw4.out;have z_wb7 := Zwb7.out;have g_2 := G2.out;have l_2 := L2.out;have g_6 := G6.out;have l_6 := L6.out;have g_7 := G7.out;have l_7 := L7.out;omega));replace BK2 := m0_ (blk_keep BK2.out hk_ (by have z_wb2 := Zwb2.out;have z_w1 := Zw1.out;have z_w2 := Zw2.out;have z_w3 := Zw3.out;have z_wb6 := Zwb6.out;have z_ws6 := Zws6.out;have z_w4 := Zw4.out;have z_wb7 := Zwb7.out;have g_2 := G2.out;have l_2 := L2.out;have g_6 := G6.out;have l_6 := L6.out;have g_7 := G7.out;have l_7 := L7.out;omega));replace BK6 := m0_ (blk_keep BK6.out hk_ (by have z_wb2 := Zwb2.out;have z_w1 := Zw1.out;have z_w2 := Zw2.out;have z_w3 := Zw3.out;have z_wb6 := Zwb6.out;have z_ws6 := Zws6.out;have z_w4 := Zw4.out;have z_wb7 := Zwb7.out;have g_2 := G2.out;have l_2 := L2.out;have g_6 := G6.out;have l_6 := L6.out;have g_7 := G7.out;have l_7 := L7.out;omega));have Zws7 := m0_ (hk_.1);clear hs_ hk_ hB_;have hz7_0 := (blk_cell BK7.out 0).trans (show _ = some (Value.int .i64 x0) from rfl);have hz7_1 := (blk_cell BK7.out 1).trans (show _ = some (Value.int .i64 x1) from rfl);have hz7_2 := (blk_cell BK7.out 2).trans (show _ = some (Value.int .i64 x2) from rfl);have hz7_3 := (blk_cell BK7.out 3).trans (show _ = some (Value.slice AX xs.length cX) from rfl)) | ((with_reducible refine gate_callee (f := 39) rfl ?_);refine goesL_ (some 26) rfl rfl Try.func39 (by kernel_rfl) rfl #[.agg #[.int .i64 x0, .int .i64 x1, .int .i64 x2, .slice AX xs.length cX], .int .i64 mo] rfl (by (try simp only [List.map_toArray, List.map_cons, List.map_nil]);first | done | rfl) ?_;(with_reducible refine (impl_GraphOf.calls x0 x1 x2 _ _ xs mo g0 gs g2 g3 g4 _ ?s1 ?s2 TG.out).mono ?_);(case s1 => exact (Kd.R_reads' FX.out).2.2);(case s2 => exact (Kd.R_reads' FX.out).2.1);rintro e w5 ⟨v_, rfl, hs, hb⟩;refine ⟨_, rfl, ?_⟩;clear hz7_0 hz7_1 hz7_2 hz7_3;have Zw5 := m0_ (show ws7.heap.size ≤ w5.heap.size from hb.size);have hs_ := Kd.S_mono (ok' := fun k_ => ws7.heap.size ≤ k_ ∧ k_ < w5.heap.size) (Kd.S_lower (Kd.S_bound hs) (below_size HB.out)) (fun k_ hk => ⟨hk.2.1, hk.2.2.1⟩);obtain ⟨AG, cG, rfl⟩ := Kd.S_slice hs_;have NG_ := m0_ hs_;clear hs_ hs;replace FS := m0_ (Kd.R_below FS.out hb);replace FV := m0_ (Kd.S_below FV.out hb);replace FX := m0_ (Kd.R_below FX.out hb);replace BK2 := m0_ (blk_below BK2.out hb);replace BK6 := m0_ (blk_below BK6.out hb);replace BK7 := m0_ (blk_below BK7.out hb);replace HB := m0_ (below_step HB.out hb);clear hb;have FG := NG_;clear NG_) | ((with_reducible refine gate_dst (N := 8) rfl ?_);refine box_event ?hg (N := 8) ?hd (cs := #[.int .i64 0, .slice none 0 0, .int .i64 0, .int .i64 0, .bool false]) (t := 63) ?hr ?_;(case hd => rfl);(case hg => rfl);(case hr => first | (go_simp;done) | (go_simp;rfl));intro gb8 hg wb8 hbox hb;have G8 := m0_ (show w5.heap.size ≤ gb8 from by rw [hg];exact Nat.le_refl _);have L8 := m0_ (blk_lt hbox);have Zwb8 := m0_ (show w5.heap.size ≤ wb8.heap.size from hb.size);replace FS := m0_ (Kd.R_below FS.out hb);replace FV := m0_ (Kd.S_below FV.out hb);replace FX := m0_ (Kd.R_below FX.out hb);replace FG := m0_ (Kd.S_below FG.out hb);replace BK2 := m0_ (blk_below BK2.out hb);replace BK6 := m0_ (blk_below BK6.out hb);replace BK7 := m0_ (blk_below BK7.out hb);replace HB := m0_ (below_step HB.out hb);have BK8 := m0_ hbox;clear hg hbox hb) | ((with_reducible refine gate_store (t := 63) (p := 8) (v := .tmp 26) rfl ?_);refine store_blk (w0 := w) (base := w.heap.size) (e := 63) (g := gb8) (off := 0) (cur := #[.int .i64 0, .slice none 0 0, .int .i64 0, .int .i64 0, .bool false]) (cur' := #[.int .i64 g0, .slice AG gs.length cG, .int .i64 g2, .int .i64 g3, .bool g4]) (u := .agg #[.int .i64 g0, .slice AG gs.length cG, .int .i64 g2, .int .i64 g3, .bool g4]) (seg := [.int .i64 g0, .slice AG gs.length cG, .int .i64 g2, .int .i64 g3, .bool g4]) rfl rfl rfl rfl rfl BK8.out rfl ?ht ?h1 (by simp) rfl HB.out (by have z_wb2 := Zwb2.out;have z_w1 := Zw1.out;have z_w2 := Zw2.out;have z_w3 := Zw3.out;have z_wb6 := Zwb6.out;have z_ws6 := Zws6.out;have z_w4 := Zw4.out;have z_wb7 := Zwb7.out;have z_ws7 := Zws7.out;have z_w5 := Zw5.out;have z_wb8 := Zwb8.out;have g_2 := G2.out;have l_2 := L2.out;have g_6 := G6.out;have l_6 := L6.out;have g_7 := G7.out;have l_7 := L7.out;have g_8 := G8.out;have l_8 := L8.out;have b_ := below_size HB.out;omega) ?_;(case ht => kernel_rfl);(case h1 => intro q hq;simp only [List.mem_cons, List.not_mem_nil, or_false] at hq;rcases hq with rfl | rfl | rfl | rfl | rfl <;> rfl);intro ws8 hs_ hk_ hB_;replace BK8 := m0_ (hs_);replace HB := m0_ (hB_);replace FS := m0_ (Kd.R_keep FS.out hk_ (fun k_ h1 => by have z_wb2 := Zwb2.out;have z_w1 := Zw1.out;have z_w2 := Zw2.out;have z_w3 := Zw3.out;have z_wb6 := Zwb6.out;have z_ws6 := Zws6.out;have z_w4 := Zw4.out;have z_wb7 := Zwb7.out;have z_ws7 := Zws7.out;have z_w5 := Zw5.out;have z_wb8 := Zwb8.out;have g_2 := G2.out;have l_2 := L2.out;have g_6 := G6.out;have l_6 := L6.out;have g_7 := G7.out;have l_7 := L7.out;have g_8 := G8.out;have l_8 := L8.out;omega));replace FV := m0_ (Kd.S_keep FV.out hk_ (fun k_ h1 => by have z_wb2 := Zwb2.out;have z_w1 := Zw1.out;have z_w2 := Zw2.out;have z_w3 := Zw3.out;have z_wb6 := Zwb6.out;have z_ws6 := Zws6.out;have z_w4 := Zw4.out;have z_wb7 := Zwb7.out;have z_ws7 := Zws7.out;have z_w5 := Zw5.out;have z_wb8 := Zwb8.out;have g_2 := G2.out;have l_2 := L2.out;have g_6 := G6.out;have l_6 := L6.out;have g_7 := G7.out;have l_7 := L7.out;have g_8 := G8.out;have l_8 := L8.out;omega));replace FX := m0_ (Kd.R_keep FX.out hk_ (fun k_ h1 => by have z_wb2 := Zwb2.out;have z_w1 := Zw1.out;have z_w2 := Zw2.out;have z_w3 := Zw3.out;have z_wb6 := Zwb6.out;have z_ws6 := Zws6.out;have z_w4 := Zw4.out;have z_wb7 := Zwb7.out;have z_ws7 := Zws7.out;have z_w5 := Zw5.out;have z_wb8 := Zwb8.out;have g_2 := G2.out;have l_2 := L2.out;have g_6 := G6.out;have l_6 := L6.out;have g_7 := G7.out;have l_7 := L7.out;have g_8 := G8.out;have l_8 := L8.out;omega));replace FG := m0_ (Kd.S_keep FG.out hk_ (fun k_ h1 => by have z_wb2 := Zwb2.out;have z_w1 := Zw1.out;have z_w2 := Zw2.out;have z_w3 := Zw3.out;have z_wb6 := Zwb6.out;have z_ws6 := Zws6.out;have z_w4 := Zw4.out;have z_wb7 := Zwb7.out;have z_ws7 := Zws7.out;have z_w5 := Zw5.out;have z_wb8 := Zwb8.out;have g_2 := G2.out;have l_2 := L2.out;have g_6 := G6.out;have l_6 := L6.out;have g_7 := G7.out;have l_7 := L7.out;have g_8 := G8.out;have l_8 := L8.out;omega));replace BK2 := m0_ (blk_keep BK2.out hk_ (by have z_wb2 := Zwb2.out;have z_w1 := Zw1.out;have z_w2 := Zw2.out;have z_w3 := Zw3.out;have z_wb6 := Zwb6.out;have z_ws6 := Zws6.out;have z_w4 := Zw4.out;have z_wb7 := Zwb7.out;have z_ws7 := Zws7.out;have z_w5 := Zw5.out;have z_wb8 := Zwb8.out;have g_2 := G2.out;have l_2 := L2.out;have g_6 := G6.out;have l_6 := L6.out;have g_7 := G7.out;have l_7 := L7.out;have g_8 := G8.out;have l_8 := L8.out;omega));replace BK6 := m0_ (blk_keep BK6.out hk_ (by have z_wb2 := Zwb2.out;have z_w1 := Zw1.out;have z_w2 := Zw2.out;have z_w3 := Zw3.out;have z_wb6 := Zwb6.out;have z_ws6 := Zws6.out;have z_w4 := Zw4.out;have z_wb7 := Zwb7.out;have z_ws7 := Zws7.out;have z_w5 := Zw5.out;have z_wb8 := Zwb8.out;have g_2 := G2.out;have l_2 := L2.out;have g_6 := G6.out;have l_6 := L6.out;have g_7 := G7.out;have l_7 := L7.out;have g_8 := G8.out;have l_8 := L8.out;omega));replace BK7 := m0_ (blk_keep BK7.out hk_ (by have z_wb2 := Zwb2.out;have z_w1 := Zw1.out;have z_w2 := Zw2.out;have z_w3 := Zw3.out;have z_wb6 := Zwb6.out;have z_ws6 := Zws6.out;have z_w4 := Zw4.out;have z_wb7 := Zwb7.out;have z_ws7 := Zws7.out;have z_w5 := Zw5.out;have z_wb8 := Zwb8.out;have g_2 := G2.out;have l_2 := L2.out;have g_6 := G6.out;have l_6 := L6.out;have g_7 := G7.out;have l_7 := L7.out;have g_8 := G8.out;have l_8 := L8.out;omega));have Zws8 := m0_ (hk_.1);clear hs_ hk_ hB_;have hz8_0 := (blk_cell BK8.out 0).trans (show _ = some (Value.int .i64 g0) from rfl);have hz8_1 := (blk_cell BK8.out 1).trans (show _ = some (Value.slice AG gs.length cG) from rfl);have hz8_2 := (blk_cell BK8.out 2).trans (show _ = some (Value.int .i64 g2) from rfl);have hz8_3 := (blk_cell BK8.out 3).trans (show _ = some (Value.int .i64 g3) from rfl);have hz8_4 := (blk_cell BK8.out 4).trans (show _ = some (Value.bool g4) from rfl);have hz6_0 := (blk_cell BK6.out 0).trans (show _ = some (Value.int .i64 v0) from rfl);have hz6_1 := (blk_cell BK6.out 1).trans (show _ = some (Value.slice AV vs.length cV) from rfl);have hz6_2 := (blk_cell BK6.out 2).trans (show _ = some (Value.int .i64 v2) from rfl);have hz6_3 := (blk_cell BK6.out 3).trans (show _ = some (Value.int .i64 v3) from rfl);have hz6_4 := (blk_cell BK6.out 4).trans (show _ = some (Value.bool v4) from rfl)) | (go_at_call 40;fail))
 clear hz8_0 hz8_1 hz8_2 hz8_3 hz8_4 hz6_0 hz6_1 hz6_2 hz6_3 hz6_4
 refine (laws_eqGraph.calls k g0 _ _ gs g2 g3 g4 v0 _ _ vs v2 v3 v4 true ⟨rfl⟩ _ ?s1 ?s2 ?s3 ?s4 E1.out).mono ?_
 (case s1 => exact (Kd.S_reads' FG.out).2.2)
 (case s2 => exact (Kd.S_reads' FG.out).2.1)
 (case s3 => exact (Kd.S_reads' FV.out).2.2)
 (case s4 => exact (Kd.S_reads' FV.out).2.1)
 rintro e w6 ⟨rfl, hb⟩
 have Zw6 := m0_ (show ws8.heap.size ≤ w6.heap.size from hb.size)
 replace FS := m0_ (Kd.R_below FS.out hb);replace FV := m0_ (Kd.S_below FV.out hb);replace FX := m0_ (Kd.R_below FX.out hb);replace FG := m0_ (Kd.S_below FG.out hb);replace BK2 := m0_ (blk_below BK2.out hb);replace BK6 := m0_ (blk_below BK6.out hb);replace BK7 := m0_ (blk_below BK7.out hb);replace BK8 := m0_ (blk_below BK8.out hb);replace HB := m0_ (below_step HB.out hb)
 clear hb
 clear FS
 go_upto_region 10 with (fail)
 replace FV := m0_ (Kd.S_drew FV.out);replace FX := m0_ (Kd.R_drew FX.out);replace FG := m0_ (Kd.S_drew FG.out);replace BK2 := m0_ (blk_drew BK2.out);replace BK6 := m0_ (blk_drew BK6.out);replace BK7 := m0_ (blk_drew BK7.out);replace BK8 := m0_ (blk_drew BK8.out);replace HB := m0_ (below_drew1 HB.out)
 -- region 10
 refine start_ (n := 5) (S := fun w' => True) (ds := []) #[false, false, false, false, false] (by kernel_rfl) rfl rfl trivial (fun hHeld => ?_)
 refine with_tabW laws_FnExactGraphOf.tab10 laws_FnExactGraphOf.bits10 (fun HT_ HW_ => ?_)
 generalize hWd : w6.drew = u10 at HB FV FX FG BK2 BK6 BK7 BK8 ⊢
 have Zu10 := m0_ (show w6.heap.size ≤ u10.heap.size from by rw [← hWd];exact Nat.le_refl _)
 clear hWd
 refine inv_at [0, 1, 2, 3, 4] (fun a0_ b a w' => ∃ (p2 : Value), a = putSel a0_ b [(0, 31, .agg #[.int .i64 x0, .int .i64 x1, .int .i64 x2, .slice AX xs.length cX]), (1, 32, .agg #[.int .i64 a0, .int .i64 a1, .int .i64 a2, .slice A l.length c]), (2, 33, p2), (3, 34, .bool true), (4, 35, .bool (!true))] ∧ Below u10.heap.size u10 w' ∧ (b 2 = true → ∃ v_ : Value, p2 = .agg #[.int .i64 x0, .int .i64 x1, .int .i64 x2, v_] ∧ Kd.R k37 37 w' 0 (fun _ => True) v_ xs)) HT_.out HW_.out (by kernel_rfl) (by kernel_rfl) ?_ ?_ ?_
 ·exact ⟨.bool true, by simp only [putSel, Bool.false_eq_true, if_false], Below.refl _ _, fun h_ => absurd h_ (by decide)⟩
 ·skip
  refine steps_cons ?_ ?_
  ·rintro b a w' ⟨p2, ha, Q_HB, Q_I2⟩ hb_ hon hoff
   refine ⟨_, rfl, fun K hK => ?_⟩
   have e7 : a.tmps[7]? = some (.pointer (some ⟨gb7, 0, none⟩)) := by rw [ha];exact (putSel_off rfl).trans rfl
   replace ha := m0_ ha
   have hc0_ : w'.cell? ⟨gb7, 0, none⟩ = some (.int .i64 x0) := (blk_cell (blk_below BK7.out Q_HB) 0).trans rfl
   have hc1_ : w'.cell? ⟨gb7, 1, none⟩ = some (.int .i64 x1) := (blk_cell (blk_below BK7.out Q_HB) 1).trans rfl
   have hc2_ : w'.cell? ⟨gb7, 2, none⟩ = some (.int .i64 x2) := (blk_cell (blk_below BK7.out Q_HB) 2).trans rfl
   have hc3_ : w'.cell? ⟨gb7, 3, none⟩ = some (.slice AX xs.length cX) := (blk_cell (blk_below BK7.out Q_HB) 3).trans rfl
   refine value_ (w1 := w') (v := .agg #[.int .i64 x0, .int .i64 x1, .int .i64 x2, .slice AX xs.length cX]) (by rfl) rfl ?_ ?_
   ·go_simp
    (try simp only [i64_w])
    try rfl
   refine hK.out _ _ ⟨p2, (by rw [ha.out];exact putSel_upk 0 hb_ rfl rfl rfl), Q_HB, Q_I2⟩
  refine steps_cons ?_ ?_
  ·rintro b a w' ⟨p2, ha, Q_HB, Q_I2⟩ hb_ hon hoff
   refine ⟨_, rfl, fun K hK => ?_⟩
   have e2 : a.tmps[2]? = some (.pointer (some ⟨gb2, 0, none⟩)) := by rw [ha];exact (putSel_off rfl).trans rfl
   replace ha := m0_ ha
   have hc0_ : w'.cell? ⟨gb2, 0, none⟩ = some (.int .i64 a0) := (blk_cell (blk_below BK2.out Q_HB) 0).trans rfl
   have hc1_ : w'.cell? ⟨gb2, 1, none⟩ = some (.int .i64 a1) := (blk_cell (blk_below BK2.out Q_HB) 1).trans rfl
   have hc2_ : w'.cell? ⟨gb2, 2, none⟩ = some (.int .i64 a2) := (blk_cell (blk_below BK2.out Q_HB) 2).trans rfl
   have hc3_ : w'.cell? ⟨gb2, 3, none⟩ = some (.slice A l.length c) := (blk_cell (blk_below BK2.out Q_HB) 3).trans rfl
   refine value_ (w1 := w') (v := .agg #[.int .i64 a0, .int .i64 a1, .int .i64 a2, .slice A l.length c]) (by rfl) rfl ?_ ?_
   ·go_simp
    (try simp only [i64_w])
    try rfl
   refine hK.out _ _ ⟨p2, (by rw [ha.out];exact putSel_upk 1 hb_ rfl rfl rfl), Q_HB, Q_I2⟩
  refine steps_cons ?_ ?_
  ·rintro b a w' ⟨p2, ha, Q_HB, Q_I2⟩ hb_ hon hoff
   refine ⟨_, rfl, fun K hK => ?_⟩
   have e32 : a.tmps[32]? = some (.agg #[.int .i64 a0, .int .i64 a1, .int .i64 a2, .slice A l.length c]) := by rw [ha];exact putSel_on (e := (1, 32, .agg #[.int .i64 a0, .int .i64 a1, .int .i64 a2, .slice A l.length c])) 1 rfl rfl (hon 1 (by kernel_rfl)) rfl
   replace ha := m0_ ha
   refine goes_ Try.func35 (by kernel_rfl) rfl #[.agg #[.int .i64 a0, .int .i64 a1, .int .i64 a2, .slice A l.length c]] (by rfl) rfl rfl (by first | (simp only [List.map_toArray, List.map_cons, List.map_nil, Act.eval, Array.getD_eq_getD_getElem?, Option.getD_some, e32];done) | (simp only [List.map_toArray, List.map_cons, List.map_nil, Act.eval, Array.getD_eq_getD_getElem?, Option.getD_some, e32];rfl)) ?_
   with_reducible refine (laws_toEx.calls k a0 a1 a2 _ _ l x0 x1 x2 xs _ ?s1 ?s2 TA.out).mono ?_
   (case s1 => exact Kd.C_below (Kd.C_below HRA.out HB.out) Q_HB)
   (case s2 => exact HCA.out)
   rintro e w3 ⟨v_, rfl, hs_, hb⟩
   refine ⟨_, rfl, ?_⟩
   refine hK.out _ _ ⟨_, (by rw [ha.out];exact putSel_upk 2 hb_ rfl rfl rfl), below_step Q_HB hb, fun _ => ⟨_, rfl, Kd.R_lower hs_ (Nat.zero_le _)⟩⟩
  refine steps_cons ?_ ?_
  ·rintro b a w' ⟨p2, ha, Q_HB, Q_I2⟩ hb_ hon hoff
   refine ⟨_, rfl, fun K hK => ?_⟩
   obtain ⟨v3_, rfl, hs3_⟩ := Q_I2 (hon 2 (by kernel_rfl))
   obtain ⟨A3_, c3_, rfl⟩ := Kd.R_slice hs3_
   have hr3_ := Kd.R_reads' hs3_
   have e31 : a.tmps[31]? = some (.agg #[.int .i64 x0, .int .i64 x1, .int .i64 x2, .slice AX xs.length cX]) := by rw [ha];exact putSel_on (e := (0, 31, .agg #[.int .i64 x0, .int .i64 x1, .int .i64 x2, .slice AX xs.length cX])) 0 rfl rfl (hon 0 (by kernel_rfl)) rfl
   have e33 : a.tmps[33]? = some (.agg #[.int .i64 x0, .int .i64 x1, .int .i64 x2, .slice A3_ xs.length c3_]) := by rw [ha];exact putSel_on (e := (2, 33, .agg #[.int .i64 x0, .int .i64 x1, .int .i64 x2, .slice A3_ xs.length c3_])) 2 rfl rfl (hon 2 (by kernel_rfl)) rfl
   replace ha := m0_ ha
   refine goes_ Try.func37 (by kernel_rfl) rfl #[.agg #[.int .i64 x0, .int .i64 x1, .int .i64 x2, .slice AX xs.length cX], .agg #[.int .i64 x0, .int .i64 x1, .int .i64 x2, .slice A3_ xs.length c3_]] (by rfl) rfl rfl (by first | (simp only [List.map_toArray, List.map_cons, List.map_nil, Act.eval, Array.getD_eq_getD_getElem?, Option.getD_some, e31, e33];done) | (simp only [List.map_toArray, List.map_cons, List.map_nil, Act.eval, Array.getD_eq_getD_getElem?, Option.getD_some, e31, e33];rfl)) ?_
   with_reducible refine (laws_eqEx.calls k x0 x1 x2 _ _ xs x0 x1 x2 _ _ xs true _ ?s1 ?s2 ?s3 ?s4 E2.out).mono ?_
   (case s1 => exact Kd.C_below (Kd.R_reads' FX.out).2.2 Q_HB)
   (case s2 => exact (Kd.R_reads' FX.out).2.1)
   (case s3 => exact hr3_.2.2)
   (case s4 => exact hr3_.2.1)
   rintro e w3 ⟨rfl, hb⟩
   refine ⟨_, rfl, ?_⟩
   refine hK.out _ _ ⟨_, (by rw [ha.out];exact putSel_upk 3 hb_ rfl rfl rfl), below_step Q_HB hb, fun h_ => by obtain ⟨v3_, e3_, hs3_⟩ := Q_I2 h_;exact ⟨v3_, e3_, Kd.R_below hs3_ hb⟩⟩
  refine steps_cons ?_ ?_
  ·rintro b a w' ⟨p2, ha, Q_HB, Q_I2⟩ hb_ hon hoff
   refine ⟨_, rfl, fun K hK => ?_⟩
   have e34 : a.tmps[34]? = some (.bool true) := by rw [ha];exact putSel_on (e := (3, 34, .bool true)) 3 rfl rfl (hon 3 (by kernel_rfl)) rfl
   replace ha := m0_ ha
   refine value_ (w1 := w') (v := .bool (!true)) (by rfl) rfl ?_ ?_
   ·go_simp
    (try simp only [i64_w])
    try rfl
   refine hK.out _ _ ⟨p2, (by rw [ha.out];exact putSel_upk 4 hb_ rfl rfl rfl), Q_HB, Q_I2⟩
  exact steps_nil
 rintro b a v10 hall ⟨p2, ha, Q_HB, Q_I2⟩
 have hb0_ := hall 0 (by kernel_rfl)
 have hb1_ := hall 1 (by kernel_rfl)
 have hb2_ := hall 2 (by kernel_rfl)
 have hb3_ := hall 3 (by kernel_rfl)
 have hb4_ := hall 4 (by kernel_rfl)
 subst ha
 simp only [putSel, hb0_, hb1_, hb2_, hb3_, hb4_, if_true, Act.put, List.setIfInBounds_toArray, List.set_cons_zero, List.set_cons_succ]
 replace FV := m0_ (Kd.S_below FV.out Q_HB);replace FX := m0_ (Kd.R_below FX.out Q_HB);replace FG := m0_ (Kd.S_below FG.out Q_HB);replace BK2 := m0_ (blk_below BK2.out Q_HB);replace BK6 := m0_ (blk_below BK6.out Q_HB);replace BK7 := m0_ (blk_below BK7.out Q_HB);replace BK8 := m0_ (blk_below BK8.out Q_HB);replace HB := m0_ (below_step HB.out Q_HB)
 have Zv10 := m0_ (show u10.heap.size ≤ v10.heap.size from Below.size Q_HB)
 clear Q_HB hall Q_I2 hb0_ hb1_ hb2_ hb3_ hb4_
 obtain ⟨nX_, hX_⟩ := shape_of FX.out
 have hz7_0 := (blk_cell BK7.out 0).trans (show _ = some (Value.int .i64 x0) from rfl);have hz7_1 := (blk_cell BK7.out 1).trans (show _ = some (Value.int .i64 x1) from rfl);have hz7_2 := (blk_cell BK7.out 2).trans (show _ = some (Value.int .i64 x2) from rfl);have hz7_3 := (blk_cell BK7.out 3).trans (show _ = some (Value.slice AX xs.length cX) from rfl)
 go_wp2_with (go_at_call 41;fail)
 clear hz7_0 hz7_1 hz7_2 hz7_3
 refine (markEx_walk k x0 x1 x2 xs 1 p1 nX_ _ _ w _ MP.out hX_ HB.out (fun q hq => by have z_wb2 := Zwb2.out;have z_w1 := Zw1.out;have z_w2 := Zw2.out;have z_w3 := Zw3.out;have z_wb6 := Zwb6.out;have z_ws6 := Zws6.out;have z_w4 := Zw4.out;have z_wb7 := Zwb7.out;have z_ws7 := Zws7.out;have z_w5 := Zw5.out;have z_wb8 := Zwb8.out;have z_ws8 := Zws8.out;have z_w6 := Zw6.out;have z_u10 := Zu10.out;have z_v10 := Zv10.out;have g_2 := G2.out;have l_2 := L2.out;have g_6 := G6.out;have l_6 := L6.out;have g_7 := G7.out;have l_7 := L7.out;have g_8 := G8.out;have l_8 := L8.out;have b_ := below_size HB.out;omega)).mono ?_
 rintro e w7 ⟨rfl, hm, hb⟩
 clear hX_
 have hk := hm.kept
 clear hm
 have Zw7 := m0_ (show v10.heap.size ≤ w7.heap.size from hk.1)
 replace FV := m0_ (Kd.S_kept FV.out hk (fun k_ h1 h2 => by have z_wb2 := Zwb2.out;have z_w1 := Zw1.out;have z_w2 := Zw2.out;have z_w3 := Zw3.out;have z_wb6 := Zwb6.out;have z_ws6 := Zws6.out;have z_w4 := Zw4.out;have z_wb7 := Zwb7.out;have z_ws7 := Zws7.out;have z_w5 := Zw5.out;have z_wb8 := Zwb8.out;have z_ws8 := Zws8.out;have z_w6 := Zw6.out;have z_u10 := Zu10.out;have z_v10 := Zv10.out;have z_w7 := Zw7.out;have g_2 := G2.out;have l_2 := L2.out;have g_6 := G6.out;have l_6 := L6.out;have g_7 := G7.out;have l_7 := L7.out;have g_8 := G8.out;have l_8 := L8.out;omega));replace FG := m0_ (Kd.S_kept FG.out hk (fun k_ h1 h2 => by have z_wb2 := Zwb2.out;have z_w1 := Zw1.out;have z_w2 := Zw2.out;have z_w3 := Zw3.out;have z_wb6 := Zwb6.out;have z_ws6 := Zws6.out;have z_w4 := Zw4.out;have z_wb7 := Zwb7.out;have z_ws7 := Zws7.out;have z_w5 := Zw5.out;have z_wb8 := Zwb8.out;have z_ws8 := Zws8.out;have z_w6 := Zw6.out;have z_u10 := Zu10.out;have z_v10 := Zv10.out;have z_w7 := Zw7.out;have g_2 := G2.out;have l_2 := L2.out;have g_6 := G6.out;have l_6 := L6.out;have g_7 := G7.out;have l_7 := L7.out;have g_8 := G8.out;have l_8 := L8.out;omega));replace BK2 := m0_ (blk_kept BK2.out hk (fun h2 => by have z_wb2 := Zwb2.out;have z_w1 := Zw1.out;have z_w2 := Zw2.out;have z_w3 := Zw3.out;have z_wb6 := Zwb6.out;have z_ws6 := Zws6.out;have z_w4 := Zw4.out;have z_wb7 := Zwb7.out;have z_ws7 := Zws7.out;have z_w5 := Zw5.out;have z_wb8 := Zwb8.out;have z_ws8 := Zws8.out;have z_w6 := Zw6.out;have z_u10 := Zu10.out;have z_v10 := Zv10.out;have z_w7 := Zw7.out;have g_2 := G2.out;have l_2 := L2.out;have g_6 := G6.out;have l_6 := L6.out;have g_7 := G7.out;have l_7 := L7.out;have g_8 := G8.out;have l_8 := L8.out;omega));replace BK6 := m0_ (blk_kept BK6.out hk (fun h2 => by have z_wb2 := Zwb2.out;have z_w1 := Zw1.out;have z_w2 := Zw2.out;have z_w3 := Zw3.out;have z_wb6 := Zwb6.out;have z_ws6 := Zws6.out;have z_w4 := Zw4.out;have z_wb7 := Zwb7.out;have z_ws7 := Zws7.out;have z_w5 := Zw5.out;have z_wb8 := Zwb8.out;have z_ws8 := Zws8.out;have z_w6 := Zw6.out;have z_u10 := Zu10.out;have z_v10 := Zv10.out;have z_w7 := Zw7.out;have g_2 := G2.out;have l_2 := L2.out;have g_6 := G6.out;have l_6 := L6.out;have g_7 := G7.out;have l_7 := L7.out;have g_8 := G8.out;have l_8 := L8.out;omega));replace BK7 := m0_ (blk_kept BK7.out hk (fun h2 => by have z_wb2 := Zwb2.out;have z_w1 := Zw1.out;have z_w2 := Zw2.out;have z_w3 := Zw3.out;have z_wb6 := Zwb6.out;have z_ws6 := Zws6.out;have z_w4 := Zw4.out;have z_wb7 := Zwb7.out;have z_ws7 := Zws7.out;have z_w5 := Zw5.out;have z_wb8 := Zwb8.out;have z_ws8 := Zws8.out;have z_w6 := Zw6.out;have z_u10 := Zu10.out;have z_v10 := Zv10.out;have z_w7 := Zw7.out;have g_2 := G2.out;have l_2 := L2.out;have g_6 := G6.out;have l_6 := L6.out;have g_7 := G7.out;have l_7 := L7.out;have g_8 := G8.out;have l_8 := L8.out;omega));replace BK8 := m0_ (blk_kept BK8.out hk (fun h2 => by have z_wb2 := Zwb2.out;have z_w1 := Zw1.out;have z_w2 := Zw2.out;have z_w3 := Zw3.out;have z_wb6 := Zwb6.out;have z_ws6 := Zws6.out;have z_w4 := Zw4.out;have z_wb7 := Zwb7.out;have z_ws7 := Zws7.out;have z_w5 := Zw5.out;have z_wb8 := Zwb8.out;have z_ws8 := Zws8.out;have z_w6 := Zw6.out;have z_u10 := Zu10.out;have z_v10 := Zv10.out;have z_w7 := Zw7.out;have g_2 := G2.out;have l_2 := L2.out;have g_6 := G6.out;have l_6 := L6.out;have g_7 := G7.out;have l_7 := L7.out;have g_8 := G8.out;have l_8 := L8.out;omega));replace HB := m0_ (hb)
 clear FX hk hb
 have hz8_0 := (blk_cell BK8.out 0).trans (show _ = some (Value.int .i64 g0) from rfl);have hz8_1 := (blk_cell BK8.out 1).trans (show _ = some (Value.slice AG gs.length cG) from rfl);have hz8_2 := (blk_cell BK8.out 2).trans (show _ = some (Value.int .i64 g2) from rfl);have hz8_3 := (blk_cell BK8.out 3).trans (show _ = some (Value.int .i64 g3) from rfl);have hz8_4 := (blk_cell BK8.out 4).trans (show _ = some (Value.bool g4) from rfl);have hz6_0 := (blk_cell BK6.out 0).trans (show _ = some (Value.int .i64 v0) from rfl);have hz6_1 := (blk_cell BK6.out 1).trans (show _ = some (Value.slice AV vs.length cV) from rfl);have hz6_2 := (blk_cell BK6.out 2).trans (show _ = some (Value.int .i64 v2) from rfl);have hz6_3 := (blk_cell BK6.out 3).trans (show _ = some (Value.int .i64 v3) from rfl);have hz6_4 := (blk_cell BK6.out 4).trans (show _ = some (Value.bool v4) from rfl)
 go_wp2_with (go_at_call 40;fail)
 clear hz8_0 hz8_1 hz8_2 hz8_3 hz8_4 hz6_0 hz6_1 hz6_2 hz6_3 hz6_4
 refine (laws_eqGraph.calls k g0 _ _ gs g2 g3 g4 v0 _ _ vs v2 v3 v4 true ⟨rfl⟩ _ ?s1 ?s2 ?s3 ?s4 E1.out).mono ?_
 (case s1 => exact (Kd.S_reads' FG.out).2.2)
 (case s2 => exact (Kd.S_reads' FG.out).2.1)
 (case s3 => exact (Kd.S_reads' FV.out).2.2)
 (case s4 => exact (Kd.S_reads' FV.out).2.1)
 rintro e w8 ⟨rfl, hb⟩
 have Zw8 := m0_ (show w7.heap.size ≤ w8.heap.size from hb.size)
 replace FV := m0_ (Kd.S_below FV.out hb);replace FG := m0_ (Kd.S_below FG.out hb);replace BK2 := m0_ (blk_below BK2.out hb);replace BK6 := m0_ (blk_below BK6.out hb);replace BK7 := m0_ (blk_below BK7.out hb);replace BK8 := m0_ (blk_below BK8.out hb);replace HB := m0_ (below_step HB.out hb)
 clear hb
 have hz8_0 := (blk_cell BK8.out 0).trans (show _ = some (Value.int .i64 g0) from rfl);have hz8_1 := (blk_cell BK8.out 1).trans (show _ = some (Value.slice AG gs.length cG) from rfl);have hz8_2 := (blk_cell BK8.out 2).trans (show _ = some (Value.int .i64 g2) from rfl);have hz8_3 := (blk_cell BK8.out 3).trans (show _ = some (Value.int .i64 g3) from rfl);have hz8_4 := (blk_cell BK8.out 4).trans (show _ = some (Value.bool g4) from rfl)
 go_wp2_with (go_at_call 42;fail)
 clear hz8_0 hz8_1 hz8_2 hz8_3 hz8_4
 refine (markG_walk k _ g0 g2 g3 g4 _ gs 1 q ys w _ HB.out FG.out HPL.out M2.out).mono ?_
 rintro e w9 ⟨rfl, hs, hb, hk⟩
 have Zw9 := m0_ (show w8.heap.size ≤ w9.heap.size from hk.1)
 replace FV := m0_ (Kd.S_kept FV.out hk (fun k_ h1 h2 => by have z_wb2 := Zwb2.out;have z_w1 := Zw1.out;have z_w2 := Zw2.out;have z_w3 := Zw3.out;have z_wb6 := Zwb6.out;have z_ws6 := Zws6.out;have z_w4 := Zw4.out;have z_wb7 := Zwb7.out;have z_ws7 := Zws7.out;have z_w5 := Zw5.out;have z_wb8 := Zwb8.out;have z_ws8 := Zws8.out;have z_w6 := Zw6.out;have z_u10 := Zu10.out;have z_v10 := Zv10.out;have z_w7 := Zw7.out;have z_w8 := Zw8.out;have z_w9 := Zw9.out;have g_2 := G2.out;have l_2 := L2.out;have g_6 := G6.out;have l_6 := L6.out;have g_7 := G7.out;have l_7 := L7.out;have g_8 := G8.out;have l_8 := L8.out;omega));replace BK2 := m0_ (blk_kept BK2.out hk (fun h2 => by have z_wb2 := Zwb2.out;have z_w1 := Zw1.out;have z_w2 := Zw2.out;have z_w3 := Zw3.out;have z_wb6 := Zwb6.out;have z_ws6 := Zws6.out;have z_w4 := Zw4.out;have z_wb7 := Zwb7.out;have z_ws7 := Zws7.out;have z_w5 := Zw5.out;have z_wb8 := Zwb8.out;have z_ws8 := Zws8.out;have z_w6 := Zw6.out;have z_u10 := Zu10.out;have z_v10 := Zv10.out;have z_w7 := Zw7.out;have z_w8 := Zw8.out;have z_w9 := Zw9.out;have g_2 := G2.out;have l_2 := L2.out;have g_6 := G6.out;have l_6 := L6.out;have g_7 := G7.out;have l_7 := L7.out;have g_8 := G8.out;have l_8 := L8.out;omega));replace BK6 := m0_ (blk_kept BK6.out hk (fun h2 => by have z_wb2 := Zwb2.out;have z_w1 := Zw1.out;have z_w2 := Zw2.out;have z_w3 := Zw3.out;have z_wb6 := Zwb6.out;have z_ws6 := Zws6.out;have z_w4 := Zw4.out;have z_wb7 := Zwb7.out;have z_ws7 := Zws7.out;have z_w5 := Zw5.out;have z_wb8 := Zwb8.out;have z_ws8 := Zws8.out;have z_w6 := Zw6.out;have z_u10 := Zu10.out;have z_v10 := Zv10.out;have z_w7 := Zw7.out;have z_w8 := Zw8.out;have z_w9 := Zw9.out;have g_2 := G2.out;have l_2 := L2.out;have g_6 := G6.out;have l_6 := L6.out;have g_7 := G7.out;have l_7 := L7.out;have g_8 := G8.out;have l_8 := L8.out;omega));replace BK7 := m0_ (blk_kept BK7.out hk (fun h2 => by have z_wb2 := Zwb2.out;have z_w1 := Zw1.out;have z_w2 := Zw2.out;have z_w3 := Zw3.out;have z_wb6 := Zwb6.out;have z_ws6 := Zws6.out;have z_w4 := Zw4.out;have z_wb7 := Zwb7.out;have z_ws7 := Zws7.out;have z_w5 := Zw5.out;have z_wb8 := Zwb8.out;have z_ws8 := Zws8.out;have z_w6 := Zw6.out;have z_u10 := Zu10.out;have z_v10 := Zv10.out;have z_w7 := Zw7.out;have z_w8 := Zw8.out;have z_w9 := Zw9.out;have g_2 := G2.out;have l_2 := L2.out;have g_6 := G6.out;have l_6 := L6.out;have g_7 := G7.out;have l_7 := L7.out;have g_8 := G8.out;have l_8 := L8.out;omega));replace BK8 := m0_ (blk_kept BK8.out hk (fun h2 => by have z_wb2 := Zwb2.out;have z_w1 := Zw1.out;have z_w2 := Zw2.out;have z_w3 := Zw3.out;have z_wb6 := Zwb6.out;have z_ws6 := Zws6.out;have z_w4 := Zw4.out;have z_wb7 := Zwb7.out;have z_ws7 := Zws7.out;have z_w5 := Zw5.out;have z_wb8 := Zwb8.out;have z_ws8 := Zws8.out;have z_w6 := Zw6.out;have z_u10 := Zu10.out;have z_v10 := Zv10.out;have z_w7 := Zw7.out;have z_w8 := Zw8.out;have z_w9 := Zw9.out;have g_2 := G2.out;have l_2 := L2.out;have g_6 := G6.out;have l_6 := L6.out;have g_7 := G7.out;have l_7 := L7.out;have g_8 := G8.out;have l_8 := L8.out;omega));replace HB := m0_ (hb)
 clear FG
 have hs_ := Kd.S_mono (ok' := fun k_ => k_ < w9.heap.size) (Kd.S_bound hs) (fun k_ hk => hk.2.2.1)
 have FG := m0_ hs_
 clear hs hs_ hb hk
 have hz8_0 := (blk_cell BK8.out 0).trans (show _ = some (Value.int .i64 g0) from rfl);have hz8_1 := (blk_cell BK8.out 1).trans (show _ = some (Value.slice AG gs.length cG) from rfl);have hz8_2 := (blk_cell BK8.out 2).trans (show _ = some (Value.int .i64 g2) from rfl);have hz8_3 := (blk_cell BK8.out 3).trans (show _ = some (Value.int .i64 g3) from rfl);have hz8_4 := (blk_cell BK8.out 4).trans (show _ = some (Value.bool g4) from rfl)
 go_wp2_with (go_at_call 43;fail)
 clear hz8_0 hz8_1 hz8_2 hz8_3 hz8_4
 refine (heldG_calls k g0 g2 g3 g4 1 q _ _ _ ys _ (Kd.S_reads' FG.out).1 (Kd.S_reads' FG.out).2.1 (by have a_ := (Kd.S_reads' FG.out).2.2;have b_ := (Kd.S_reads' FG.out).1;rw [b_];exact a_) TQ.out).mono ?_
 rintro e w10 ⟨rfl, hb⟩
 have Zw10 := m0_ (show w9.heap.size ≤ w10.heap.size from hb.size)
 replace FV := m0_ (Kd.S_below FV.out hb);replace FG := m0_ (Kd.S_below FG.out hb);replace BK2 := m0_ (blk_below BK2.out hb);replace BK6 := m0_ (blk_below BK6.out hb);replace BK7 := m0_ (blk_below BK7.out hb);replace BK8 := m0_ (blk_below BK8.out hb);replace HB := m0_ (below_step HB.out hb)
 clear hb
 have hz2_0 := (blk_cell BK2.out 0).trans (show _ = some (Value.int .i64 a0) from rfl);have hz2_1 := (blk_cell BK2.out 1).trans (show _ = some (Value.int .i64 a1) from rfl);have hz2_2 := (blk_cell BK2.out 2).trans (show _ = some (Value.int .i64 a2) from rfl);have hz2_3 := (blk_cell BK2.out 3).trans (show _ = some (Value.slice A l.length c) from rfl)
 go_wp2_with (first | ((with_reducible refine gate_callee (f := 35) rfl ?_);refine goesL_ (some 59) rfl rfl Try.func35 (by kernel_rfl) rfl #[.agg #[.int .i64 a0, .int .i64 a1, .int .i64 a2, .slice A l.length c]] rfl (by (try simp only [List.map_toArray, List.map_cons, List.map_nil]);first | done | rfl) ?_;(with_reducible refine (laws_toEx.calls k a0 a1 a2 _ _ l x0 x1 x2 xs _ ?s1 ?s2 TA.out).mono ?_);(case s1 => exact Kd.C_below HRA.out HB.out);(case s2 => exact HCA.out);rintro e w11 ⟨v_, rfl, hs, hb⟩;refine ⟨_, rfl, ?_⟩;clear hz2_0 hz2_1 hz2_2 hz2_3;have Zw11 := m0_ (show w10.heap.size ≤ w11.heap.size from hb.size);have hs_ := Kd.R_mono (ok' := fun k_ => w10.heap.size ≤ k_ ∧ k_ < w11.heap.size) (Kd.R_lower (Kd.R_bound hs) (below_size HB.out)) (fun k_ hk => ⟨hk.2.1, hk.2.2.1⟩);obtain ⟨AS, cS, rfl⟩ := Kd.R_slice hs_;have NS_ := m0_ hs_;clear hs_ hs;replace FV := m0_ (Kd.S_below FV.out hb);replace FG := m0_ (Kd.S_below FG.out hb);replace BK2 := m0_ (blk_below BK2.out hb);replace BK6 := m0_ (blk_below BK6.out hb);replace BK7 := m0_ (blk_below BK7.out hb);replace BK8 := m0_ (blk_below BK8.out hb);replace HB := m0_ (below_step HB.out hb);clear hb;have FS := NS_;clear NS_) | ((with_reducible refine gate_callee (f := 39) rfl ?_);refine goesL_ (some 61) rfl rfl Try.func39 (by kernel_rfl) rfl #[.agg #[.int .i64 x0, .int .i64 x1, .int .i64 x2, .slice AS xs.length cS], .int .i64 mo] rfl (by (try simp only [List.map_toArray, List.map_cons, List.map_nil]);first | done | rfl) ?_;(with_reducible refine (impl_GraphOf.calls x0 x1 x2 _ _ xs mo g0 gs g2 g3 g4 _ ?s1 ?s2 TG.out).mono ?_);(case s1 => exact (Kd.R_reads' FS.out).2.2);(case s2 => exact (Kd.R_reads' FS.out).2.1);rintro e w12 ⟨v_, rfl, hs, hb⟩;refine ⟨_, rfl, ?_⟩;have Zw12 := m0_ (show w11.heap.size ≤ w12.heap.size from hb.size);have hs_ := Kd.S_mono (ok' := fun k_ => w11.heap.size ≤ k_ ∧ k_ < w12.heap.size) (Kd.S_lower (Kd.S_bound hs) (below_size HB.out)) (fun k_ hk => ⟨hk.2.1, hk.2.2.1⟩);obtain ⟨AH, cH, rfl⟩ := Kd.S_slice hs_;have NH_ := m0_ hs_;clear hs_ hs;replace FV := m0_ (Kd.S_below FV.out hb);replace FG := m0_ (Kd.S_below FG.out hb);replace FS := m0_ (Kd.R_below FS.out hb);replace BK2 := m0_ (blk_below BK2.out hb);replace BK6 := m0_ (blk_below BK6.out hb);replace BK7 := m0_ (blk_below BK7.out hb);replace BK8 := m0_ (blk_below BK8.out hb);replace HB := m0_ (below_step HB.out hb);clear hb;have FH := NH_;clear NH_) | ((with_reducible refine gate_dst (N := 12) rfl ?_);refine box_event ?hg (N := 12) ?hd (cs := #[.int .i64 0, .slice none 0 0, .int .i64 0, .int .i64 0, .bool false]) (t := 63) ?hr ?_;(case hd => rfl);(case hg => rfl);(case hr => first | (go_simp;done) | (go_simp;rfl));intro gb12 hg wb12 hbox hb;have G12 := m0_ (show w12.heap.size ≤ gb12 from by rw [hg];exact Nat.le_refl _);have L12 := m0_ (blk_lt hbox);have Zwb12 := m0_ (show w12.heap.size ≤ wb12.heap.size from hb.size);replace FV := m0_ (Kd.S_below FV.out hb);replace FG := m0_ (Kd.S_below FG.out hb);replace FS := m0_ (Kd.R_below FS.out hb);replace FH := m0_ (Kd.S_below FH.out hb);replace BK2 := m0_ (blk_below BK2.out hb);replace BK6 := m0_ (blk_below BK6.out hb);replace BK7 := m0_ (blk_below BK7.out hb);replace BK8 := m0_ (blk_below BK8.out hb);replace HB := m0_ (below_step HB.out hb);have BK12 := m0_ hbox;clear hg hbox hb) | ((with_reducible refine gate_store (t := 63) (p := 12) (v := .tmp 61) rfl ?_);refine store_blk (w0 := w) (base := w.heap.size) (e := 63) (g := gb12) (off := 0) (cur := #[.int .i64 0, .slice none 0 0, .int .i64 0, .int .i64 0, .bool false]) (cur' := #[.int .i64 g0, .slice AH gs.length cH, .int .i64 g2, .int .i64 g3, .bool g4]) (u := .agg #[.int .i64 g0, .slice AH gs.length cH, .int .i64 g2, .int .i64 g3, .bool g4]) (seg := [.int .i64 g0, .slice AH gs.length cH, .int .i64 g2, .int .i64 g3, .bool g4]) rfl rfl rfl rfl rfl BK12.out rfl ?ht ?h1 (by simp) rfl HB.out (by have z_wb2 := Zwb2.out;have z_w1 := Zw1.out;have z_w2 := Zw2.out;have z_w3 := Zw3.out;have z_wb6 := Zwb6.out;have z_ws6 := Zws6.out;have z_w4 := Zw4.out;have z_wb7 := Zwb7.out;have z_ws7 := Zws7.out;have z_w5 := Zw5.out;have z_wb8 := Zwb8.out;have z_ws8 := Zws8.out;have z_w6 := Zw6.out;have z_u10 := Zu10.out;have z_v10 := Zv10.out;have z_w7 := Zw7.out;have z_w8 := Zw8.out;have z_w9 := Zw9.out;have z_w10 := Zw10.out;have z_w11 := Zw11.out;have z_w12 := Zw12.out;have z_wb12 := Zwb12.out;have g_2 := G2.out;have l_2 := L2.out;have g_6 := G6.out;have l_6 := L6.out;have g_7 := G7.out;have l_7 := L7.out;have g_8 := G8.out;have l_8 := L8.out;have g_12 := G12.out;have l_12 := L12.out;have b_ := below_size HB.out;omega) ?_;(case ht => kernel_rfl);(case h1 => intro q hq;simp only [List.mem_cons, List.not_mem_nil, or_false] at hq;rcases hq with rfl | rfl | rfl | rfl | rfl <;> rfl);intro ws12 hs_ hk_ hB_;replace BK12 := m0_ (hs_);replace HB := m0_ (hB_);replace FV := m0_ (Kd.S_keep FV.out hk_ (fun k_ h1 => by have z_wb2 := Zwb2.out;have z_w1 := Zw1.out;have z_w2 := Zw2.out;have z_w3 := Zw3.out;have z_wb6 := Zwb6.out;have z_ws6 := Zws6.out;have z_w4 := Zw4.out;have z_wb7 := Zwb7.out;have z_ws7 := Zws7.out;have z_w5 := Zw5.out;have z_wb8 := Zwb8.out;have z_ws8 := Zws8.out;have z_w6 := Zw6.out;have z_u10 := Zu10.out;have z_v10 := Zv10.out;have z_w7 := Zw7.out;have z_w8 := Zw8.out;have z_w9 := Zw9.out;have z_w10 := Zw10.out;have z_w11 := Zw11.out;have z_w12 := Zw12.out;have z_wb12 := Zwb12.out;have g_2 := G2.out;have l_2 := L2.out;have g_6 := G6.out;have l_6 := L6.out;have g_7 := G7.out;have l_7 := L7.out;have g_8 := G8.out;have l_8 := L8.out;have g_12 := G12.out;have l_12 := L12.out;omega));replace FG := m0_ (Kd.S_keep FG.out hk_ (fun k_ h1 => by have z_wb2 := Zwb2.out;have z_w1 := Zw1.out;have z_w2 := Zw2.out;have z_w3 := Zw3.out;have z_wb6 := Zwb6.out;have z_ws6 := Zws6.out;have z_w4 := Zw4.out;have z_wb7 := Zwb7.out;have z_ws7 := Zws7.out;have z_w5 := Zw5.out;have z_wb8 := Zwb8.out;have z_ws8 := Zws8.out;have z_w6 := Zw6.out;have z_u10 := Zu10.out;have z_v10 := Zv10.out;have z_w7 := Zw7.out;have z_w8 := Zw8.out;have z_w9 := Zw9.out;have z_w10 := Zw10.out;have z_w11 := Zw11.out;have z_w12 := Zw12.out;have z_wb12 := Zwb12.out;have g_2 := G2.out;have l_2 := L2.out;have g_6 := G6.out;have l_6 := L6.out;have g_7 := G7.out;have l_7 := L7.out;have g_8 := G8.out;have l_8 := L8.out;have g_12 := G12.out;have l_12 := L12.out;omega));replace FS := m0_ (Kd.R_keep FS.out hk_ (fun k_ h1 => by have z_wb2 := Zwb2.out;have z_w1 := Zw1.out;have z_w2 := Zw2.out;have z_w3 := Zw3.out;have z_wb6 := Zwb6.out;have z_ws6 := Zws6.out;have z_w4 := Zw4.out;have z_wb7 := Zwb7.out;have z_ws7 := Zws7.out;have z_w5 := Zw5.out;have z_wb8 := Zwb8.out;have z_ws8 := Zws8.out;have z_w6 := Zw6.out;have z_u10 := Zu10.out;have z_v10 := Zv10.out;have z_w7 := Zw7.out;have z_w8 := Zw8.out;have z_w9 := Zw9.out;have z_w10 := Zw10.out;have z_w11 := Zw11.out;have z_w12 := Zw12.out;have z_wb12 := Zwb12.out;have g_2 := G2.out;have l_2 := L2.out;have g_6 := G6.out;have l_6 := L6.out;have g_7 := G7.out;have l_7 := L7.out;have g_8 := G8.out;have l_8 := L8.out;have g_12 := G12.out;have l_12 := L12.out;omega));replace FH := m0_ (Kd.S_keep FH.out hk_ (fun k_ h1 => by have z_wb2 := Zwb2.out;have z_w1 := Zw1.out;have z_w2 := Zw2.out;have z_w3 := Zw3.out;have z_wb6 := Zwb6.out;have z_ws6 := Zws6.out;have z_w4 := Zw4.out;have z_wb7 := Zwb7.out;have z_ws7 := Zws7.out;have z_w5 := Zw5.out;have z_wb8 := Zwb8.out;have z_ws8 := Zws8.out;have z_w6 := Zw6.out;have z_u10 := Zu10.out;have z_v10 := Zv10.out;have z_w7 := Zw7.out;have z_w8 := Zw8.out;have z_w9 := Zw9.out;have z_w10 := Zw10.out;have z_w11 := Zw11.out;have z_w12 := Zw12.out;have z_wb12 := Zwb12.out;have g_2 := G2.out;have l_2 := L2.out;have g_6 := G6.out;have l_6 := L6.out;have g_7 := G7.out;have l_7 := L7.out;have g_8 := G8.out;have l_8 := L8.out;have g_12 := G12.out;have l_12 := L12.out;omega));replace BK2 := m0_ (blk_keep BK2.out hk_ (by have z_wb2 := Zwb2.out;have z_w1 := Zw1.out;have z_w2 := Zw2.out;have z_w3 := Zw3.out;have z_wb6 := Zwb6.out;have z_ws6 := Zws6.out;have z_w4 := Zw4.out;have z_wb7 := Zwb7.out;have z_ws7 := Zws7.out;have z_w5 := Zw5.out;have z_wb8 := Zwb8.out;have z_ws8 := Zws8.out;have z_w6 := Zw6.out;have z_u10 := Zu10.out;have z_v10 := Zv10.out;have z_w7 := Zw7.out;have z_w8 := Zw8.out;have z_w9 := Zw9.out;have z_w10 := Zw10.out;have z_w11 := Zw11.out;have z_w12 := Zw12.out;have z_wb12 := Zwb12.out;have g_2 := G2.out;have l_2 := L2.out;have g_6 := G6.out;have l_6 := L6.out;have g_7 := G7.out;have l_7 := L7.out;have g_8 := G8.out;have l_8 := L8.out;have g_12 := G12.out;have l_12 := L12.out;omega));replace BK6 := m0_ (blk_keep BK6.out hk_ (by have z_wb2 := Zwb2.out;have z_w1 := Zw1.out;have z_w2 := Zw2.out;have z_w3 := Zw3.out;have z_wb6 := Zwb6.out;have z_ws6 := Zws6.out;have z_w4 := Zw4.out;have z_wb7 := Zwb7.out;have z_ws7 := Zws7.out;have z_w5 := Zw5.out;have z_wb8 := Zwb8.out;have z_ws8 := Zws8.out;have z_w6 := Zw6.out;have z_u10 := Zu10.out;have z_v10 := Zv10.out;have z_w7 := Zw7.out;have z_w8 := Zw8.out;have z_w9 := Zw9.out;have z_w10 := Zw10.out;have z_w11 := Zw11.out;have z_w12 := Zw12.out;have z_wb12 := Zwb12.out;have g_2 := G2.out;have l_2 := L2.out;have g_6 := G6.out;have l_6 := L6.out;have g_7 := G7.out;have l_7 := L7.out;have g_8 := G8.out;have l_8 := L8.out;have g_12 := G12.out;have l_12 := L12.out;omega));replace BK7 := m0_ (blk_keep BK7.out hk_ (by have z_wb2 := Zwb2.out;have z_w1 := Zw1.out;have z_w2 := Zw2.out;have z_w3 := Zw3.out;have z_wb6 := Zwb6.out;have z_ws6 := Zws6.out;have z_w4 := Zw4.out;have z_wb7 := Zwb7.out;have z_ws7 := Zws7.out;have z_w5 := Zw5.out;have z_wb8 := Zwb8.out;have z_ws8 := Zws8.out;have z_w6 := Zw6.out;have z_u10 := Zu10.out;have z_v10 := Zv10.out;have z_w7 := Zw7.out;have z_w8 := Zw8.out;have z_w9 := Zw9.out;have z_w10 := Zw10.out;have z_w11 := Zw11.out;have z_w12 := Zw12.out;have z_wb12 := Zwb12.out;have g_2 := G2.out;have l_2 := L2.out;have g_6 := G6.out;have l_6 := L6.out;have g_7 := G7.out;have l_7 := L7.out;have g_8 := G8.out;have l_8 := L8.out;have g_12 := G12.out;have l_12 := L12.out;omega));replace BK8 := m0_ (blk_keep BK8.out hk_ (by have z_wb2 := Zwb2.out;have z_w1 := Zw1.out;have z_w2 := Zw2.out;have z_w3 := Zw3.out;have z_wb6 := Zwb6.out;have z_ws6 := Zws6.out;have z_w4 := Zw4.out;have z_wb7 := Zwb7.out;have z_ws7 := Zws7.out;have z_w5 := Zw5.out;have z_wb8 := Zwb8.out;have z_ws8 := Zws8.out;have z_w6 := Zw6.out;have z_u10 := Zu10.out;have z_v10 := Zv10.out;have z_w7 := Zw7.out;have z_w8 := Zw8.out;have z_w9 := Zw9.out;have z_w10 := Zw10.out;have z_w11 := Zw11.out;have z_w12 := Zw12.out;have z_wb12 := Zwb12.out;have g_2 := G2.out;have l_2 := L2.out;have g_6 := G6.out;have l_6 := L6.out;have g_7 := G7.out;have l_7 := L7.out;have g_8 := G8.out;have l_8 := L8.out;have g_12 := G12.out;have l_12 := L12.out;omega));have Zws12 := m0_ (hk_.1);clear hs_ hk_ hB_;have hz12_0 := (blk_cell BK12.out 0).trans (show _ = some (Value.int .i64 g0) from rfl);have hz12_1 := (blk_cell BK12.out 1).trans (show _ = some (Value.slice AH gs.length cH) from rfl);have hz12_2 := (blk_cell BK12.out 2).trans (show _ = some (Value.int .i64 g2) from rfl);have hz12_3 := (blk_cell BK12.out 3).trans (show _ = some (Value.int .i64 g3) from rfl);have hz12_4 := (blk_cell BK12.out 4).trans (show _ = some (Value.bool g4) from rfl);have hz6_0 := (blk_cell BK6.out 0).trans (show _ = some (Value.int .i64 v0) from rfl);have hz6_1 := (blk_cell BK6.out 1).trans (show _ = some (Value.slice AV vs.length cV) from rfl);have hz6_2 := (blk_cell BK6.out 2).trans (show _ = some (Value.int .i64 v2) from rfl);have hz6_3 := (blk_cell BK6.out 3).trans (show _ = some (Value.int .i64 v3) from rfl);have hz6_4 := (blk_cell BK6.out 4).trans (show _ = some (Value.bool v4) from rfl)) | (go_at_call 40;fail))
 clear hz12_0 hz12_1 hz12_2 hz12_3 hz12_4 hz6_0 hz6_1 hz6_2 hz6_3 hz6_4
 refine (laws_eqGraph.calls k g0 _ _ gs g2 g3 g4 v0 _ _ vs v2 v3 v4 true ⟨rfl⟩ _ ?s1 ?s2 ?s3 ?s4 E1.out).mono ?_
 (case s1 => exact (Kd.S_reads' FH.out).2.2)
 (case s2 => exact (Kd.S_reads' FH.out).2.1)
 (case s3 => exact (Kd.S_reads' FV.out).2.2)
 (case s4 => exact (Kd.S_reads' FV.out).2.1)
 rintro e w13 ⟨rfl, hb⟩
 have Zw13 := m0_ (show ws12.heap.size ≤ w13.heap.size from hb.size)
 replace FV := m0_ (Kd.S_below FV.out hb);replace FG := m0_ (Kd.S_below FG.out hb);replace FS := m0_ (Kd.R_below FS.out hb);replace FH := m0_ (Kd.S_below FH.out hb);replace BK2 := m0_ (blk_below BK2.out hb);replace BK6 := m0_ (blk_below BK6.out hb);replace BK7 := m0_ (blk_below BK7.out hb);replace BK8 := m0_ (blk_below BK8.out hb);replace BK12 := m0_ (blk_below BK12.out hb);replace HB := m0_ (below_step HB.out hb)
 clear hb
 clear FS FH
 have hz8_0 := (blk_cell BK8.out 0).trans (show _ = some (Value.int .i64 g0) from rfl);have hz8_1 := (blk_cell BK8.out 1).trans (show _ = some (Value.slice AG gs.length cG) from rfl);have hz8_2 := (blk_cell BK8.out 2).trans (show _ = some (Value.int .i64 g2) from rfl);have hz8_3 := (blk_cell BK8.out 3).trans (show _ = some (Value.int .i64 g3) from rfl);have hz8_4 := (blk_cell BK8.out 4).trans (show _ = some (Value.bool g4) from rfl)
 go_wp2_with (go_at_call 43;fail)
 clear hz8_0 hz8_1 hz8_2 hz8_3 hz8_4
 refine (heldG_calls k g0 g2 g3 g4 1 q _ _ _ ys _ (Kd.S_reads' FG.out).1 (Kd.S_reads' FG.out).2.1 (by have a_ := (Kd.S_reads' FG.out).2.2;have b_ := (Kd.S_reads' FG.out).1;rw [b_];exact a_) TQ.out).mono ?_
 rintro e w14 ⟨rfl, hb⟩
 have Zw14 := m0_ (show w13.heap.size ≤ w14.heap.size from hb.size)
 replace FV := m0_ (Kd.S_below FV.out hb);replace FG := m0_ (Kd.S_below FG.out hb);replace BK2 := m0_ (blk_below BK2.out hb);replace BK6 := m0_ (blk_below BK6.out hb);replace BK7 := m0_ (blk_below BK7.out hb);replace BK8 := m0_ (blk_below BK8.out hb);replace BK12 := m0_ (blk_below BK12.out hb);replace HB := m0_ (below_step HB.out hb)
 clear hb
 go_wp2
 go_ret
 exact ⟨rfl, HB.out⟩

end Go.Proofs.Ytdljhokealbnnaa.M
namespace Go.Proofs.Ytdljhokealbnnaa.M
set_option linter.unusedVariables false
set_option linter.unusedSimpArgs false
open Go.RowKit Go.Proofs.YtdljhokealbnnaaW.PrintWords Go.Proofs.YtdljhokealbnnaaW.PrintLast

theorem marksL_ev : ∀ (l : List S37), (∀ x ∈ l, ∀ a : Int, 0 ≤ a → a + 3 * (allY x : Nat) ≤ 100000000000000 → Ev (fun k => marksE k x.f3 a) (a + 3 * (allY x : Nat))) → ∀ a : Int, 0 ≤ a → a + 3 * (l.length + kidsY l : Nat) ≤ 100000000000000 → Ev (fun k => marksE k l a) (a + 3 * (l.length + kidsY l : Nat))
  | [], _, a, _, _ => Ev.last (fun k => by simp [marksE, kidsY_nil])
  | x :: l, h, a, h0, h1 => by
    rw [kidsY_cons, List.length_cons] at h1 ⊢
    have hx := h x (by simp) (a + 3) (by omega) (by omega)
    have w1 : wrap64 (wrap64 (wrap64 (a + 1) + 1) + 1) = a + 3 := by unfold wrap64; omega
    have hl := marksL_ev l (fun y hy => h y (by simp [hy])) (a + 3 + 3 * (allY x : Nat)) (by omega) (by omega)
    refine Ev.step (fun k => by simp only [marksE]; rw [w1]) (Ev.bind hx (Ev.val hl (by omega)))
theorem marksX_ev : ∀ (x : S37) (a : Int), 0 ≤ a → a + 3 * (allY x : Nat) ≤ 100000000000000 → Ev (fun k => marksE k x.f3 a) (a + 3 * (allY x : Nat)) := by
  refine indI ?_
  intro x ih a h0 h1
  rw [allY_is] at h1 ⊢
  exact marksL_ev x.f3 ih a h0 h1
theorem rd_nat (l : List Int) (n : Nat) : rd l (n : Int) = l.getD n 0 := rfl
def iMarks : Nat → Int → List Int
  | 0, _ => []
  | n + 1, c => c :: iMarks n (c + 1)
theorem iMarks_len : ∀ (n : Nat) (c : Int), (iMarks n c).length = n
  | 0, _ => rfl
  | n + 1, c => by rw [iMarks, List.length_cons, iMarks_len n]
theorem markIntS_l0_ev : ∀ (d n : Nat) (l : List Int) (c : Int), n + d = l.length → l.length ≤ 1099511627776 → 0 ≤ c → c + d ≤ 1152921504606846976 → Ev (fun k => laws_markIntS.l0 k l c (n : Int)) (c + d, l.take n ++ iMarks d c) := by
  intro d
  induction d with
  | zero =>
    intro n l c hn hl h0 h1
    rw [List.take_of_length_le (by omega)]
    exact Ev.last (fun k => by simp only [laws_markIntS.l0]; rw [if_neg (by omega)]; simp [iMarks])
  | succ d ih =>
    intro n l c hn hl h0 h1
    have w1 : wrap64 (c + 1) = c + 1 := w_small (by omega) (by omega)
    have next := ih (n + 1) (l.set n c) (c + 1) (by rw [List.length_set]; omega) (by rw [List.length_set]; omega) (by omega) (by omega)
    rw [take_set l n _ (by omega)] at next
    refine Ev.step (fun k => by
      simp only [laws_markIntS.l0]
      rw [if_pos (by omega), if_pos (by omega), w1, Int.toNat_natCast, w_succ (by omega)]) ?_
    refine Ev.val next ?_
    rw [iMarks, List.append_assoc]
    simp only [Prod.mk.injEq]
    exact ⟨by omega, rfl⟩
theorem markIntS_ev (l : List Int) (c : Int) (hl : l.length ≤ 1099511627776) (h0 : 0 ≤ c) (h1 : c ≤ 1125899906842624) : Ev (fun k => laws_markIntS.f k l c) (c + l.length, iMarks l.length c) := by
  unfold laws_markIntS.f
  exact markIntS_l0_ev l.length 0 l c (by omega) hl h0 (by omega)
theorem heldIntS_l0_ev (m : List Int) (hm : m.length ≤ 1099511627776) : ∀ (d n : Nat) (c : Int), n + d = m.length → m.drop n = iMarks d c → 0 ≤ c → c + d ≤ 1152921504606846976 → Ev (fun k => laws_heldIntS.l0 k m c (n : Int)) (c + d) := by
  intro d
  induction d with
  | zero =>
    intro n c hn hd h0 h1
    exact Ev.last (fun k => by simp only [laws_heldIntS.l0]; rw [if_neg (by omega)]; simp)
  | succ d ih =>
    intro n c hn hd h0 h1
    have w1 : wrap64 (c + 1) = c + 1 := w_small (by omega) (by omega)
    rw [drop_at m 0 n (by omega), iMarks] at hd
    injection hd with hx hd
    have next := ih (n + 1) (c + 1) (by omega) hd (by omega) (by omega)
    refine Ev.step (fun k => by
      simp only [laws_heldIntS.l0]
      rw [if_pos (by omega), if_pos (by omega), rd_nat, hx, w1, if_pos rfl, w_succ (by omega)]) ?_
    refine Ev.val next ?_
    omega
theorem heldIntS_ev (n : Nat) (c : Int) (hn : n ≤ 1099511627776) (h0 : 0 ≤ c) (h1 : c ≤ 1125899906842624) : Ev (fun k => laws_heldIntS.f k (iMarks n c) c) (c + n) := by
  unfold laws_heldIntS.f
  exact heldIntS_l0_ev (iMarks n c) (by rw [iMarks_len]; exact hn) n 0 c (by rw [iMarks_len]; omega) rfl h0 (by omega)
end Go.Proofs.Ytdljhokealbnnaa.M
