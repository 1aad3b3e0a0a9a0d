/- What the claim's law leans on: the program's functions, what they compute, and the law over plain values; no condition is asked. (Part 3 of 4.) -/
import Derived.Test.YtiplpckgmikmeaaCLawsFnOr2
import Derived.Test.YtiplpckgmikmeaaVFnOrRepsOne
import Derived.Test.YtiplpckgmikmeaaVFnOrNEv
import Derived.Laws.BitsAllLaws
import Derived.Laws.BitsLemmas
namespace Go.Proofs.Ytiplpckgmikmeaa.M
open Go.RowKit Go.Proofs.YtiplpckgmikmeaaW.PrintWords Go.Proofs.YtiplpckgmikmeaaW.PrintLast Go.Proofs.YtiplpckgmikmeaaW.PrintMore
attribute [local go_sem] max2_int min2_int max_two min_two max_three min_three max_four min_four
set_option linter.unusedVariables false
set_option linter.unusedSimpArgs false

def spec_l14Rd_pick.j0 : Nat → Int → Bool → List Int → Int → Option (Int × Int)
 | 0, _, _, _, _ => none
 | k + 1, x1, x24, x1000, x1001 => if x24 = true then (some (0, x1001)) else (if (wrap64 (x1001 - 1)) < (x1000.length : Int) then (if 0 ≤ (wrap64 (x1001 - 1)) then (if x1 = 0 then (none) else (some (Int.tmod (wrap64 (rd x1000 (wrap64 (x1001 - 1)))) x1, x1001))) else (none)) else (if (x1000.length : Int) = 0 then (none) else (if 0 ≤ (Int.tmod (wrap64 (x1001 - 1)) (x1000.length : Int)) then (if (Int.tmod (wrap64 (x1001 - 1)) (x1000.length : Int)) < (x1000.length : Int) then (if 0 ≤ (Int.tmod (wrap64 ((wrap64 ((wrap64 (x1001 - 1)) * 7)) + 3)) (x1000.length : Int)) then (if (Int.tmod (wrap64 ((wrap64 ((wrap64 (x1001 - 1)) * 7)) + 3)) (x1000.length : Int)) < (x1000.length : Int) then (if x1 = 0 then (none) else (some (Int.tmod (Go.bits .xor .i64 (wrap64 ((wrap64 ((wrap64 ((wrap64 ((wrap64 (rd x1000 (Int.tmod (wrap64 (x1001 - 1)) (x1000.length : Int)))) * 131)) + (wrap64 ((wrap64 (rd x1000 (Int.tmod (wrap64 ((wrap64 ((wrap64 (x1001 - 1)) * 7)) + 3)) (x1000.length : Int)))) * 1117)))) + (wrap64 ((wrap64 (x1001 - 1)) * 29)))) + (wrap64 ((wrap64 (Int.tdiv (wrap64 (x1001 - 1)) (x1000.length : Int))) * 53)))) (wrap64 (Int.tdiv (wrap64 ((wrap64 ((wrap64 ((wrap64 ((wrap64 (rd x1000 (Int.tmod (wrap64 (x1001 - 1)) (x1000.length : Int)))) * 131)) + (wrap64 ((wrap64 (rd x1000 (Int.tmod (wrap64 ((wrap64 ((wrap64 (x1001 - 1)) * 7)) + 3)) (x1000.length : Int)))) * 1117)))) + (wrap64 ((wrap64 (x1001 - 1)) * 29)))) + (wrap64 ((wrap64 (Int.tdiv (wrap64 (x1001 - 1)) (x1000.length : Int))) * 53)))) 64))) x1, x1001))) else (none)) else (none)) else (none)) else (none))))
def spec_l14Rd_pick.f (k : Nat) (s0_0 : List Int) (s0_1 : Int) (a1 : Int) : Option (Int × Int) := if a1 < 1 then (spec_l14Rd_pick.j0 k a1 true s0_0 (wrap64 (s0_1 + 1))) else (spec_l14Rd_pick.j0 k a1 ((s0_0.length : Int) == 0) s0_0 (wrap64 (s0_1 + 1)))
theorem spec_l14Rd_pick.mono_l : ∀ k, (∀ y0 y1 y2 y3, LeO (spec_l14Rd_pick.j0 k y0 y1 y2 y3) (spec_l14Rd_pick.j0 (k + 1) y0 y1 y2 y3))
 | 0 => fun _ _ _ _ r h => by simp [spec_l14Rd_pick.j0] at h
 | k + 1 => by
  have ih0 := spec_l14Rd_pick.mono_l k
  ·intro y0 y1 y2 y3
   unfold spec_l14Rd_pick.j0
   repeat' first
   | (with_reducible exact ih0 _ _ _ _)
   | (with_reducible exact LeO.refl _)
   | (with_reducible exact LeO.none _)
   | (with_reducible refine LeO.ite ?_ ?_)
   | (with_reducible refine LeO.bind ?_ (fun _ => ?_))
   | exact ih0 _ _ _ _
   | exact LeO.none _
   | refine LeO.ite ?_ ?_
   | refine LeO.bind ?_ (fun _ => ?_)
theorem spec_l14Rd_pick.mono : ∀ a0 a1 a2 k, LeO (spec_l14Rd_pick.f k a0 a1 a2) (spec_l14Rd_pick.f (k + 1) a0 a1 a2) := by
 intro a0 a1 a2 k
 have ih0 := spec_l14Rd_pick.mono_l k
 unfold spec_l14Rd_pick.f
 repeat' first
   | (with_reducible exact ih0 _ _ _ _)
   | (with_reducible exact LeO.refl _)
   | (with_reducible exact LeO.none _)
   | (with_reducible refine LeO.ite ?_ ?_)
   | (with_reducible refine LeO.bind ?_ (fun _ => ?_))
   | exact ih0 _ _ _ _
   | exact LeO.none _
   | refine LeO.ite ?_ ?_
   | refine LeO.bind ?_ (fun _ => ?_)
set_option maxHeartbeats 8000000 in
set_option maxRecDepth 100000 in
theorem spec_l14Rd_pick.calls (k : Nat) (g : Nat) (s0_0 : List Int) (s0_1 : Int) (a1 : Int) (r1 : Int) (r2 : Int) (w0 w : World) (hI : IsS100 w0 w g s0_0 s0_1) (hB : Below w0.heap.size w0 w) (h : spec_l14Rd_pick.f k s0_0 s0_1 a1 = some (r1, r2)) :
  Calls Try.prog 74 #[.pointer (some ⟨g, 0, none⟩), .int .i64 a1] w fun e w' => e = .returned (.int .i64 r1) ∧ IsS100 w0 w' g s0_0 r2 ∧ Below w0.heap.size w0 w' ∧ KeepBut w w' g none := by
 have HI0 := Aside0.mk hI
 have HK := Aside0.mk (KeepBut.refl w g none)
 have HL := Aside0.mk hB.size
 clear hI
 have HW0 := Aside0.mk hB.size
 have HB := Aside0.mk hB
 clear hB
 have H : (if a1 < 1 then (spec_l14Rd_pick.j0 k a1 true s0_0 (wrap64 (s0_1 + 1))) else (spec_l14Rd_pick.j0 k a1 ((s0_0.length : Int) == 0) s0_0 (wrap64 (s0_1 + 1)))) = some (r1, r2) := h
 clear h
 have HC3 := Aside0.mk H
 clear H
 obtain ⟨ASz4_0, cSz4_0, HGz4, hgz4, HSz4_0⟩ := HI0.out
 have hcz4_0 := cellS100_0 HGz4
 have hcz4_1 := cellS100_1 HGz4
 have hfz4_1 := blk_frozen HGz4 1
 clear HGz4 hgz4
 go_enter Try.func74, Try.ntmps74
 go_upto_region 2 with (fail)
 repeat (go_quiet (fail);go_upto_region 2 with (fail))
 go_cut [24] (fun v24 wc => ∃ (kq : Nat) (x24_2 : Bool), v24 = .bool x24_2 ∧ Aside0 (spec_l14Rd_pick.j0 kq a1 x24_2 s0_0 (wrap64 (s0_1 + 1)) = some (r1, r2)) ∧ Aside0 (kq ≤ k) ∧ Aside0 (IsS100 w0 wc g s0_0 (wrap64 (s0_1 + 1))) ∧ Aside0 (KeepBut w wc g none) ∧ Aside0 (Below w0.heap.size w0 wc))
 case first =>
  have H := HC3.out
  clear HC3
  by_cases c5 : a1 < 1
  ·rw [if_pos c5] at H
   have c5b0 : decide (a1 < 1) = true := decide_eq_true c5
   clear c5
   (first | rw [c5b0] | (simp only [i64_w, i32_w];rw [c5b0]) | skip)
   have H' := Aside0.mk H
   clear H
   go_wp2
   repeat (go_quiet (fail);try go_wp2)
   go_meet
   case rel => exact ⟨_, (true), (by first | rfl | (simp;done) | (simp [*];done)), H', ⟨by first | omega | exact Nat.le_refl _⟩, ⟨by repeat (first | (with_reducible first | exact HI0.out | apply IsS100.alloc | apply IsS100.drewN | apply IsS100.drew | apply IsS100.set_1) | exact HI0.out)⟩, ⟨by repeat (first | (with_reducible first | exact HK.out | apply KeepBut.set_ | apply keep_drewN | apply keep_drew | apply keep_alloc) | exact HK.out)⟩, ⟨by repeat (first | (with_reducible first | exact HB.out | apply below_alloc | apply pw_below_drewN | apply below_drew1 | refine below_set ?_ (IsS100.ge HI0.out)) | exact HB.out)⟩⟩
  ·rw [if_neg c5] at H
   have c5b0 : decide (a1 < 1) = false := decide_eq_false c5
   clear c5
   (first | rw [c5b0] | (simp only [i64_w, i32_w];rw [c5b0]) | skip)
   have H' := Aside0.mk H
   clear H
   obtain ⟨ASz6_0, cSz6_0, HGz6, hgz6, HSz6_0⟩ := HI0.out
   have hcz6_0 := cellS100_0 HGz6
   have hcz6_1 := cellS100_1 HGz6
   have hfz6_1 := blk_frozen HGz6 1
   clear HGz6 hgz6
   go_wp2
   repeat (go_quiet (fail);try go_wp2)
   go_meet
   case rel => exact ⟨_, (((s0_0.length : Int) == 0)), (by first | rfl | (simp;done) | (simp [*];done)), H', ⟨by first | omega | exact Nat.le_refl _⟩, ⟨by repeat (first | (with_reducible first | exact HI0.out | apply IsS100.alloc | apply IsS100.drewN | apply IsS100.drew | apply IsS100.set_1) | exact HI0.out)⟩, ⟨by repeat (first | (with_reducible first | exact HK.out | apply KeepBut.set_ | apply keep_drewN | apply keep_drew | apply keep_alloc) | exact HK.out)⟩, ⟨by repeat (first | (with_reducible first | exact HB.out | apply below_alloc | apply pw_below_drewN | apply below_drew1 | refine below_set ?_ (IsS100.ge HI0.out)) | exact HB.out)⟩⟩
 case rest =>
  clear HC3
  try clear p2
  try clear c5
  try clear c5b0
  try clear p6
  try clear hcz4_0
  try clear hcz4_1
  try clear hcz6_0
  try clear hcz6_1
  try clear hfz4_1
  try clear hfz6_1
  obtain ⟨kq, x24_2, rfl, HA, HJ2, HI0, HK, HB⟩ := hcut
  cases kq with
  | zero => exact absurd HA.out (by simp [spec_l14Rd_pick.j0])
  | succ kj2 =>
   have H := HA.out
   clear HA
   simp only [spec_l14Rd_pick.j0] at H
   by_cases c7 : x24_2 = true
   ·subst c7
    have H1 : (some (0, (wrap64 (s0_1 + 1)))) = some (r1, r2) := by rw [if_pos rfl] at H;exact H
    clear H
    have H := H1
    clear H1
    simp only [Option.some.injEq, Prod.mk.injEq] at H
    obtain ⟨rfl, rfl⟩ := H
    go_wp2
    repeat (go_quiet (fail);try go_wp2)
    go_ret
    exact ⟨by first | rfl | (simp [errW_none, errW_some] <;> rfl) | (simp [*, errW_none, errW_some] <;> rfl), by repeat (first | (with_reducible first | exact HI0.out | apply IsS100.alloc | apply IsS100.drewN | apply IsS100.drew | apply IsS100.set_1) | exact HI0.out), by repeat (first | (with_reducible first | exact HB.out | apply below_alloc | apply pw_below_drewN | apply below_drew1 | refine below_set ?_ (IsS100.ge HI0.out)) | exact HB.out), by repeat (first | (with_reducible first | exact HK.out | apply KeepBut.set_ | apply keep_drewN | apply keep_drew | apply keep_alloc) | exact HK.out)⟩
   ·replace c7 := Bool.eq_false_iff.mpr c7
    subst c7
    have H1 : (if (wrap64 ((wrap64 (s0_1 + 1)) - 1)) < (s0_0.length : Int) then (if 0 ≤ (wrap64 ((wrap64 (s0_1 + 1)) - 1)) then (if a1 = 0 then (none) else (some (Int.tmod (wrap64 (rd s0_0 (wrap64 ((wrap64 (s0_1 + 1)) - 1)))) a1, (wrap64 (s0_1 + 1))))) else (none)) else (if (s0_0.length : Int) = 0 then (none) else (if 0 ≤ (Int.tmod (wrap64 ((wrap64 (s0_1 + 1)) - 1)) (s0_0.length : Int)) then (if (Int.tmod (wrap64 ((wrap64 (s0_1 + 1)) - 1)) (s0_0.length : Int)) < (s0_0.length : Int) then (if 0 ≤ (Int.tmod (wrap64 ((wrap64 ((wrap64 ((wrap64 (s0_1 + 1)) - 1)) * 7)) + 3)) (s0_0.length : Int)) then (if (Int.tmod (wrap64 ((wrap64 ((wrap64 ((wrap64 (s0_1 + 1)) - 1)) * 7)) + 3)) (s0_0.length : Int)) < (s0_0.length : Int) then (if a1 = 0 then (none) else (some (Int.tmod (Go.bits .xor .i64 (wrap64 ((wrap64 ((wrap64 ((wrap64 ((wrap64 (rd s0_0 (Int.tmod (wrap64 ((wrap64 (s0_1 + 1)) - 1)) (s0_0.length : Int)))) * 131)) + (wrap64 ((wrap64 (rd s0_0 (Int.tmod (wrap64 ((wrap64 ((wrap64 ((wrap64 (s0_1 + 1)) - 1)) * 7)) + 3)) (s0_0.length : Int)))) * 1117)))) + (wrap64 ((wrap64 ((wrap64 (s0_1 + 1)) - 1)) * 29)))) + (wrap64 ((wrap64 (Int.tdiv (wrap64 ((wrap64 (s0_1 + 1)) - 1)) (s0_0.length : Int))) * 53)))) (wrap64 (Int.tdiv (wrap64 ((wrap64 ((wrap64 ((wrap64 ((wrap64 (rd s0_0 (Int.tmod (wrap64 ((wrap64 (s0_1 + 1)) - 1)) (s0_0.length : Int)))) * 131)) + (wrap64 ((wrap64 (rd s0_0 (Int.tmod (wrap64 ((wrap64 ((wrap64 ((wrap64 (s0_1 + 1)) - 1)) * 7)) + 3)) (s0_0.length : Int)))) * 1117)))) + (wrap64 ((wrap64 ((wrap64 (s0_1 + 1)) - 1)) * 29)))) + (wrap64 ((wrap64 (Int.tdiv (wrap64 ((wrap64 (s0_1 + 1)) - 1)) (s0_0.length : Int))) * 53)))) 64))) a1, (wrap64 (s0_1 + 1))))) else (none)) else (none)) else (none)) else (none)))) = some (r1, r2) := by rw [if_neg (show ¬ (false = true) by decide)] at H;exact H
    clear H
    have H := H1
    clear H1
    by_cases c8 : (wrap64 ((wrap64 (s0_1 + 1)) - 1)) < (s0_0.length : Int)
    ·rw [if_pos c8] at H
     have c8b0 : decide ((wrap64 ((wrap64 (s0_1 + 1)) - 1)) < (s0_0.length : Int)) = true := decide_eq_true c8
     clear c8
     obtain ⟨ji9, hji9⟩ : ∃ j_ : Int, (wrap64 ((wrap64 (s0_1 + 1)) - 1)) = j_ := ⟨_, rfl⟩
     replace H : (if 0 ≤ (ji9) then (if a1 = 0 then (none) else (some (Int.tmod (wrap64 (rd s0_0 (ji9))) a1, (wrap64 (s0_1 + 1))))) else (none)) = some (r1, r2) := by first | (rw [hji9] at H;exact H) | (simp only [hji9] at H ⊢;exact H)
     (try rw [hji9] at c8b0)
     have hji9w : (IntKind.i64.wrap ((wrap64 (s0_1 + 1)) - 1)) = ji9 := (i64_w _).trans hji9
     by_cases c10 : 0 ≤ (ji9)
     ·rw [if_pos c10] at H
      have c10b0 : decide (0 ≤ (ji9)) = true := decide_eq_true c10
      clear c10
      by_cases c11 : a1 = 0
      ·rw [if_pos c11] at H
       exact absurd H (by simp)
      ·rw [if_neg c11] at H
       have c11b0 : (a1 == 0) = false := beq_eq_false_iff_ne.mpr c11
       have c11b1 : (a1 != 0) = true := bne_iff_ne.mpr c11
       simp only [Option.some.injEq, Prod.mk.injEq] at H
       obtain ⟨rfl, rfl⟩ := H
       obtain ⟨ASz12_0, cSz12_0, HGz12, hgz12, HSz12_0⟩ := HI0.out
       have hcz12_0 := cellS100_0 HGz12
       have hcz12_1 := cellS100_1 HGz12
       have hfz12_1 := blk_frozen HGz12 1
       clear HGz12 hgz12
       have p101 : 0 ≤ ((ji9) : Int) := of_decide_eq_true (by first | (with_reducible assumption) | assumption)
       have q101 : (ji9) < (s0_0.length : Int) := of_decide_eq_true (by first | (with_reducible assumption) | assumption)
       obtain ⟨ad101, e101, hx101_0⟩ := Kd.at_int HSz12_0 (ji9) p101 q101
       cases e101
       replace hx101_0 := pw_cell_below HB.out hx101_0
       replace p101 := eq_true p101
       replace q101 := eq_true q101
       go_wp2
       repeat (go_quiet (fail);try go_wp2)
       go_ret
       exact ⟨by first | rfl | (simp [errW_none, errW_some] <;> rfl) | (simp only [← hji9];first | rfl | (simp [errW_none, errW_some] <;> rfl)) | (simp [*, errW_none, errW_some] <;> rfl), by repeat (first | (with_reducible first | exact HI0.out | apply IsS100.alloc | apply IsS100.drewN | apply IsS100.drew | apply IsS100.set_1) | exact HI0.out), by repeat (first | (with_reducible first | exact HB.out | apply below_alloc | apply pw_below_drewN | apply below_drew1 | refine below_set ?_ (IsS100.ge HI0.out)) | exact HB.out), by repeat (first | (with_reducible first | exact HK.out | apply KeepBut.set_ | apply keep_drewN | apply keep_drew | apply keep_alloc) | exact HK.out)⟩
     ·rw [if_neg c10] at H
      exact absurd H (by simp)
    ·rw [if_neg c8] at H
     have c8b0 : decide ((wrap64 ((wrap64 (s0_1 + 1)) - 1)) < (s0_0.length : Int)) = false := decide_eq_false c8
     clear c8
     by_cases c13 : (s0_0.length : Int) = 0
     ·rw [if_pos c13] at H
      exact absurd H (by simp)
     ·rw [if_neg c13] at H
      have c13b0 : ((s0_0.length : Int) == 0) = false := beq_eq_false_iff_ne.mpr c13
      have c13b1 : ((s0_0.length : Int) != 0) = true := bne_iff_ne.mpr c13
      have c13b2 : ¬ (s0_0 = []) := fun h_ => c13 (by rw [h_];rfl)
      obtain ⟨ji14, hji14⟩ : ∃ j_ : Int, (Int.tmod (wrap64 ((wrap64 (s0_1 + 1)) - 1)) (s0_0.length : Int)) = j_ := ⟨_, rfl⟩
      replace H : (if 0 ≤ (ji14) then (if (ji14) < (s0_0.length : Int) then (if 0 ≤ (Int.tmod (wrap64 ((wrap64 ((wrap64 ((wrap64 (s0_1 + 1)) - 1)) * 7)) + 3)) (s0_0.length : Int)) then (if (Int.tmod (wrap64 ((wrap64 ((wrap64 ((wrap64 (s0_1 + 1)) - 1)) * 7)) + 3)) (s0_0.length : Int)) < (s0_0.length : Int) then (if a1 = 0 then (none) else (some (Int.tmod (Go.bits .xor .i64 (wrap64 ((wrap64 ((wrap64 ((wrap64 ((wrap64 (rd s0_0 (ji14))) * 131)) + (wrap64 ((wrap64 (rd s0_0 (Int.tmod (wrap64 ((wrap64 ((wrap64 ((wrap64 (s0_1 + 1)) - 1)) * 7)) + 3)) (s0_0.length : Int)))) * 1117)))) + (wrap64 ((wrap64 ((wrap64 (s0_1 + 1)) - 1)) * 29)))) + (wrap64 ((wrap64 (Int.tdiv (wrap64 ((wrap64 (s0_1 + 1)) - 1)) (s0_0.length : Int))) * 53)))) (wrap64 (Int.tdiv (wrap64 ((wrap64 ((wrap64 ((wrap64 ((wrap64 (rd s0_0 (ji14))) * 131)) + (wrap64 ((wrap64 (rd s0_0 (Int.tmod (wrap64 ((wrap64 ((wrap64 ((wrap64 (s0_1 + 1)) - 1)) * 7)) + 3)) (s0_0.length : Int)))) * 1117)))) + (wrap64 ((wrap64 ((wrap64 (s0_1 + 1)) - 1)) * 29)))) + (wrap64 ((wrap64 (Int.tdiv (wrap64 ((wrap64 (s0_1 + 1)) - 1)) (s0_0.length : Int))) * 53)))) 64))) a1, (wrap64 (s0_1 + 1))))) else (none)) else (none)) else (none)) else (none)) = some (r1, r2) := by first | (rw [hji14] at H;exact H) | (simp only [hji14] at H ⊢;exact H)
      by_cases c15 : 0 ≤ (ji14)
      ·rw [if_pos c15] at H
       have c15b0 : decide (0 ≤ (ji14)) = true := decide_eq_true c15
       clear c15
       by_cases c16 : (ji14) < (s0_0.length : Int)
       ·rw [if_pos c16] at H
        have c16b0 : decide ((ji14) < (s0_0.length : Int)) = true := decide_eq_true c16
        clear c16
        obtain ⟨ji17, hji17⟩ : ∃ j_ : Int, (Int.tmod (wrap64 ((wrap64 ((wrap64 ((wrap64 (s0_1 + 1)) - 1)) * 7)) + 3)) (s0_0.length : Int)) = j_ := ⟨_, rfl⟩
        replace H : (if 0 ≤ (ji17) then (if (ji17) < (s0_0.length : Int) then (if a1 = 0 then (none) else (some (Int.tmod (Go.bits .xor .i64 (wrap64 ((wrap64 ((wrap64 ((wrap64 ((wrap64 (rd s0_0 (ji14))) * 131)) + (wrap64 ((wrap64 (rd s0_0 (ji17))) * 1117)))) + (wrap64 ((wrap64 ((wrap64 (s0_1 + 1)) - 1)) * 29)))) + (wrap64 ((wrap64 (Int.tdiv (wrap64 ((wrap64 (s0_1 + 1)) - 1)) (s0_0.length : Int))) * 53)))) (wrap64 (Int.tdiv (wrap64 ((wrap64 ((wrap64 ((wrap64 ((wrap64 (rd s0_0 (ji14))) * 131)) + (wrap64 ((wrap64 (rd s0_0 (ji17))) * 1117)))) + (wrap64 ((wrap64 ((wrap64 (s0_1 + 1)) - 1)) * 29)))) + (wrap64 ((wrap64 (Int.tdiv (wrap64 ((wrap64 (s0_1 + 1)) - 1)) (s0_0.length : Int))) * 53)))) 64))) a1, (wrap64 (s0_1 + 1))))) else (none)) else (none)) = some (r1, r2) := by first | (rw [hji17] at H;exact H) | (simp only [hji17] at H ⊢;exact H)
        by_cases c18 : 0 ≤ (ji17)
        ·rw [if_pos c18] at H
         have c18b0 : decide (0 ≤ (ji17)) = true := decide_eq_true c18
         clear c18
         by_cases c19 : (ji17) < (s0_0.length : Int)
         ·rw [if_pos c19] at H
          have c19b0 : decide ((ji17) < (s0_0.length : Int)) = true := decide_eq_true c19
          clear c19
          by_cases c20 : a1 = 0
          ·rw [if_pos c20] at H
           exact absurd H (by simp)
          ·rw [if_neg c20] at H
           have c20b0 : (a1 == 0) = false := beq_eq_false_iff_ne.mpr c20
           have c20b1 : (a1 != 0) = true := bne_iff_ne.mpr c20
           simp only [Option.some.injEq, Prod.mk.injEq] at H
           obtain ⟨rfl, rfl⟩ := H
           obtain ⟨ASz21_0, cSz21_0, HGz21, hgz21, HSz21_0⟩ := HI0.out
           have hcz21_0 := cellS100_0 HGz21
           have hcz21_1 := cellS100_1 HGz21
           have hfz21_1 := blk_frozen HGz21 1
           clear HGz21 hgz21
           have p102 : 0 ≤ ((ji14) : Int) := of_decide_eq_true (by first | (with_reducible assumption) | assumption)
           have q102 : (ji14) < (s0_0.length : Int) := of_decide_eq_true (by first | (with_reducible assumption) | assumption)
           obtain ⟨ad102, e102, hx102_0⟩ := Kd.at_int HSz21_0 (ji14) p102 q102
           cases e102
           replace hx102_0 := pw_cell_below HB.out hx102_0
           replace p102 := eq_true p102
           replace q102 := eq_true q102
           have p103 : 0 ≤ ((ji17) : Int) := of_decide_eq_true (by first | (with_reducible assumption) | assumption)
           have q103 : (ji17) < (s0_0.length : Int) := of_decide_eq_true (by first | (with_reducible assumption) | assumption)
           obtain ⟨ad103, e103, hx103_0⟩ := Kd.at_int HSz21_0 (ji17) p103 q103
           obtain rfl : ad102 = ad103 := (by injection e103)
           replace hx103_0 := pw_cell_below HB.out hx103_0
           replace p103 := eq_true p103
           replace q103 := eq_true q103
           go_wp2
           repeat (go_quiet (fail);try go_wp2)
           go_ret
           exact ⟨by first | rfl | (simp [errW_none, errW_some] <;> rfl) | (simp only [← hji14, ← hji17];first | rfl | (simp [errW_none, errW_some] <;> rfl)) | (simp [*, errW_none, errW_some] <;> rfl), by repeat (first | (with_reducible first | exact HI0.out | apply IsS100.alloc | apply IsS100.drewN | apply IsS100.drew | apply IsS100.set_1) | exact HI0.out), by repeat (first | (with_reducible first | exact HB.out | apply below_alloc | apply pw_below_drewN | apply below_drew1 | refine below_set ?_ (IsS100.ge HI0.out)) | exact HB.out), by repeat (first | (with_reducible first | exact HK.out | apply KeepBut.set_ | apply keep_drewN | apply keep_drew | apply keep_alloc) | exact HK.out)⟩
         ·rw [if_neg c19] at H
          exact absurd H (by simp)
        ·rw [if_neg c18] at H
         exact absurd H (by simp)
       ·rw [if_neg c16] at H
        exact absurd H (by simp)
      ·rw [if_neg c15] at H
       exact absurd H (by simp)

end Go.Proofs.Ytiplpckgmikmeaa.M
namespace Go.Proofs.Ytiplpckgmikmeaa.M
open Go.RowKit Go.Proofs.YtiplpckgmikmeaaW.PrintWords Go.Proofs.YtiplpckgmikmeaaW.PrintLast Go.Proofs.YtiplpckgmikmeaaW.PrintMore
attribute [local go_sem] max2_int min2_int max_two min_two max_three min_three max_four min_four
set_option linter.unusedVariables false
set_option linter.unusedSimpArgs false

def spec_l14Rd_num.f (k : Nat) (s0_0 : List Int) (s0_1 : Int) (l1 : List Int) : Option (Int × Int) := (spec_l14Rd_pick.f k s0_0 s0_1 (l1.length : Int)).bind fun bt101 => (if 0 ≤ bt101.1 then (if bt101.1 < (l1.length : Int) then (some (rd l1 bt101.1, bt101.2)) else (none)) else (none))
theorem spec_l14Rd_num.mono : ∀ a0 a1 a2 k, LeO (spec_l14Rd_num.f k a0 a1 a2) (spec_l14Rd_num.f (k + 1) a0 a1 a2) := by
 intro a0 a1 a2 k
 unfold spec_l14Rd_num.f
 repeat' first
   | (with_reducible exact spec_l14Rd_pick.mono _ _ _ _)
   | (with_reducible exact LeO.refl _)
   | (with_reducible exact LeO.none _)
   | (with_reducible refine LeO.ite ?_ ?_)
   | (with_reducible refine LeO.bind ?_ (fun _ => ?_))
   | exact spec_l14Rd_pick.mono _ _ _ _
   | exact LeO.none _
   | refine LeO.ite ?_ ?_
   | refine LeO.bind ?_ (fun _ => ?_)
set_option maxHeartbeats 8000000 in
set_option maxRecDepth 100000 in
theorem spec_l14Rd_num.calls (k : Nat) (g : Nat) (s0_0 : List Int) (s0_1 : Int) (A1 : Option Addr) (c1 : Nat) (l1 : List Int) (r1 : Int) (r2 : Int) (w0 w : World) (hI : IsS100 w0 w g s0_0 s0_1) (hB : Below w0.heap.size w0 w) (hr1 : Kd.C (Kd.int .i64) w A1 l1.length l1) (hc1 : l1.length ≤ c1) (hf1 : ∀ ad, A1 = some ad → 0 < l1.length → ad.block ≠ g) (h : spec_l14Rd_num.f k s0_0 s0_1 l1 = some (r1, r2)) :
  Calls Try.prog 91 #[.pointer (some ⟨g, 0, none⟩), .slice A1 l1.length c1] w fun e w' => e = .returned (.int .i64 r1) ∧ IsS100 w0 w' g s0_0 r2 ∧ Below w0.heap.size w0 w' ∧ KeepBut w w' g none := by
 have HR1 := Aside0.mk hr1
 have HC1 := Aside0.mk hc1
 clear hr1 hc1
 have HI0 := Aside0.mk hI
 have HK := Aside0.mk (KeepBut.refl w g none)
 have HL := Aside0.mk hB.size
 clear hI
 have HW0 := Aside0.mk hB.size
 have HB := Aside0.mk hB
 clear hB
 have H : ((spec_l14Rd_pick.f k s0_0 s0_1 (l1.length : Int)).bind fun bt101 => (if 0 ≤ bt101.1 then (if bt101.1 < (l1.length : Int) then (some (rd l1 bt101.1, bt101.2)) else (none)) else (none))) = some (r1, r2) := h
 clear h
 replace H := Option.bind_eq_some_iff.mp H
 obtain ⟨⟨t101, t102⟩, A30, H⟩ := H
 replace H : (if 0 ≤ t101 then (if t101 < (l1.length : Int) then (some (rd l1 t101, t102)) else (none)) else (none)) = some (r1, r2) := H
 have A3 := Aside0.mk A30
 clear A30
 by_cases c4 : 0 ≤ t101
 ·rw [if_pos c4] at H
  have c4b0 : decide (0 ≤ t101) = true := decide_eq_true c4
  clear c4
  by_cases c5 : t101 < (l1.length : Int)
  ·rw [if_pos c5] at H
   have c5b0 : decide (t101 < (l1.length : Int)) = true := decide_eq_true c5
   clear c5
   simp only [Option.some.injEq, Prod.mk.injEq] at H
   obtain ⟨rfl, rfl⟩ := H
   go_enter Try.func91, Try.ntmps91
   go_wp2_with (first | ((with_reducible refine gate_callee (f := 74) rfl ?_);refine goesL_ (some 9) rfl rfl Try.func74 (by kernel_rfl) rfl #[.pointer (some ⟨g, 0, none⟩), .int .i64 (l1.length : Int)] rfl (by (try simp only [List.map_toArray, List.map_cons, List.map_nil]);first | done | rfl | (simp only [List.length_drop, List.length_take];rfl)) ?_;(with_reducible refine (spec_l14Rd_pick.calls k g s0_0 s0_1 (l1.length : Int) t101 t102 w0 _ ?side1 ?side2 A3.out).mono ?_);(case side1 => repeat (first | (with_reducible first | exact HI0.out | apply IsS100.alloc | apply IsS100.drewN | apply IsS100.drew | apply IsS100.set_1) | exact HI0.out));(case side2 => repeat (first | (with_reducible first | exact HB.out | apply below_alloc | apply pw_below_drewN | apply below_drew1 | refine below_set ?_ (IsS100.ge HI0.out)) | exact HB.out));rintro e w6 ⟨rfl, hi, hb, hk⟩;refine ⟨_, rfl, ?_⟩;replace HK := Aside0.mk (KeepBut.trans (by repeat (first | (with_reducible first | exact HK.out | apply KeepBut.set_ | apply keep_drewN | apply keep_drew | apply keep_alloc) | exact HK.out)) hk (.inl rfl));replace HB := Aside0.mk (hb);replace HI0 := Aside0.mk (hi);(try clear hb);(try clear hb2);(try clear hk);(try clear hi);have p103 : 0 ≤ (t101 : Int) := of_decide_eq_true (by first | (with_reducible assumption) | assumption);have q103 : t101 < (l1.length : Int) := of_decide_eq_true (by first | (with_reducible assumption) | assumption);obtain ⟨ad103, e103, hx103_0⟩ := Kd.at_int HR1.out t101 p103 q103;cases e103;replace hx103_0 := keep_cell HK.out hx103_0 (by first | (rw [add_block];exact hf1 _ rfl (by omega)) | exact hf1 _ rfl (by omega) | exact hf1 ad103 rfl (by omega));replace p103 := eq_true p103;replace q103 := eq_true q103))
   go_ret
   exact ⟨by first | rfl | (simp [errW_none, errW_some] <;> rfl) | (simp [*, errW_none, errW_some] <;> rfl), by repeat (first | (with_reducible first | exact HI0.out | apply IsS100.alloc | apply IsS100.drewN | apply IsS100.drew | apply IsS100.set_1) | exact HI0.out), by repeat (first | (with_reducible first | exact HB.out | apply below_alloc | apply pw_below_drewN | apply below_drew1 | refine below_set ?_ (IsS100.ge HI0.out)) | exact HB.out), by repeat (first | (with_reducible first | exact HK.out | apply KeepBut.set_ | apply keep_drewN | apply keep_drew | apply keep_alloc) | exact HK.out)⟩
  ·rw [if_neg c5] at H
   exact absurd H (by simp)
 ·rw [if_neg c4] at H
  exact absurd H (by simp)

end Go.Proofs.Ytiplpckgmikmeaa.M
namespace Go.Proofs.Ytiplpckgmikmeaa.M
open Go.RowKit Go.Proofs.YtiplpckgmikmeaaW.PrintWords Go.Proofs.YtiplpckgmikmeaaW.PrintLast Go.Proofs.YtiplpckgmikmeaaW.PrintMore
attribute [local go_sem] max2_int min2_int max_two min_two max_three min_three max_four min_four
set_option linter.unusedVariables false
set_option linter.unusedSimpArgs false

def spec_l3Any.l0 : Nat → Int → Int → List Int → Int → Int → Int → List Int → Option (Int × Int × List Int × Int)
 | 0, _, _, _, _, _, _, _ => none
 | k + 1, x5, x6, x1000, x1001, x110000, x110001, x110002 => if x6 > 0 then (if x110002.length < 17592186044416 then ((spec_l14Rd_pick.f k x1000 x1001 3).bind fun bt117 => (spec_l3Any.l0 k (wrap64 ((wrap64 (x5 + 1)) + bt117.1)) (wrap64 (x6 - 1)) x1000 bt117.2 x110000 x110001 (x110002 ++ [x5]))) else (none)) else (some (x110000, x110001, x110002, x1001))
def spec_l3Any.f (k : Nat) (s0_0 : List Int) (s0_1 : Int) : Option (Int × Int × List Int × Int) := (spec_l14Rd_pick.f k s0_0 s0_1 9).bind fun bt102 => ((spec_l14Rd_num.f k s0_0 bt102.2 (([0, 0, 1, 2, 5] : List Int))).bind fun bt107 => ((spec_l14Rd_pick.f k s0_0 bt107.2 3).bind fun bt110 => ((spec_l14Rd_pick.f k s0_0 bt110.2 3).bind fun bt112 => (spec_l3Any.l0 k bt110.1 (wrap64 (1 + bt112.1)) s0_0 bt112.2 (wrap64 (1 + bt102.1)) (wrap64 ((wrap64 (1 + bt102.1)) + bt107.1)) ([] : List Int)))))
theorem spec_l3Any.mono_l : ∀ k, (∀ y0 y1 y2 y3 y4 y5 y6, LeO (spec_l3Any.l0 k y0 y1 y2 y3 y4 y5 y6) (spec_l3Any.l0 (k + 1) y0 y1 y2 y3 y4 y5 y6))
 | 0 => fun _ _ _ _ _ _ _ r h => by simp [spec_l3Any.l0] at h
 | k + 1 => by
  have ih0 := spec_l3Any.mono_l k
  ·intro y0 y1 y2 y3 y4 y5 y6
   unfold spec_l3Any.l0
   repeat' first
   | (with_reducible exact ih0 _ _ _ _ _ _ _)
   | (with_reducible exact spec_l14Rd_num.mono _ _ _ _)
   | (with_reducible exact spec_l14Rd_pick.mono _ _ _ _)
   | (with_reducible exact LeO.refl _)
   | (with_reducible exact LeO.none _)
   | (with_reducible refine LeO.ite ?_ ?_)
   | (with_reducible refine LeO.bind ?_ (fun _ => ?_))
   | exact ih0 _ _ _ _ _ _ _
   | exact spec_l14Rd_num.mono _ _ _ _
   | exact spec_l14Rd_pick.mono _ _ _ _
   | exact LeO.none _
   | refine LeO.ite ?_ ?_
   | refine LeO.bind ?_ (fun _ => ?_)
theorem spec_l3Any.mono : ∀ a0 a1 k, LeO (spec_l3Any.f k a0 a1) (spec_l3Any.f (k + 1) a0 a1) := by
 intro a0 a1 k
 have ih0 := spec_l3Any.mono_l k
 unfold spec_l3Any.f
 repeat' first
   | (with_reducible exact ih0 _ _ _ _ _ _ _)
   | (with_reducible exact spec_l14Rd_num.mono _ _ _ _)
   | (with_reducible exact spec_l14Rd_pick.mono _ _ _ _)
   | (with_reducible exact LeO.refl _)
   | (with_reducible exact LeO.none _)
   | (with_reducible refine LeO.ite ?_ ?_)
   | (with_reducible refine LeO.bind ?_ (fun _ => ?_))
   | exact ih0 _ _ _ _ _ _ _
   | exact spec_l14Rd_num.mono _ _ _ _
   | exact spec_l14Rd_pick.mono _ _ _ _
   | exact LeO.none _
   | refine LeO.ite ?_ ?_
   | refine LeO.bind ?_ (fun _ => ?_)
set_option maxHeartbeats 8000000 in
set_option maxRecDepth 100000 in
theorem spec_l3Any.calls (k : Nat) (g : Nat) (s0_0 : List Int) (s0_1 : Int) (r1 : Int) (r2 : Int) (r3 : List Int) (r4 : Int) (w0 w : World) (hI : IsS100 w0 w g s0_0 s0_1) (hB : Below w0.heap.size w0 w) (h : spec_l3Any.f k s0_0 s0_1 = some (r1, r2, r3, r4)) :
  Calls Try.prog 73 #[.pointer (some ⟨g, 0, none⟩)] w fun e w' => ∃ v2_ : Value, e = .returned (.agg #[.int .i64 r1, .int .i64 r2, v2_]) ∧ Kd.R (Kd.int .i64) 3 w' w.heap.size (fun _ => True) v2_ r3 ∧ IsS100 w0 w' g s0_0 r4 ∧ Below w0.heap.size w0 w' ∧ KeepBut w w' g none := by
 have hu27 := Try.underlying27
 have HI0 := Aside0.mk hI
 have HK := Aside0.mk (KeepBut.refl w g none)
 have HL := Aside0.mk hB.size
 clear hI
 have HW0 := Aside0.mk hB.size
 have HB := Aside0.mk hB
 clear hB
 have H : ((spec_l14Rd_pick.f k s0_0 s0_1 9).bind fun bt102 => ((spec_l14Rd_num.f k s0_0 bt102.2 (([0, 0, 1, 2, 5] : List Int))).bind fun bt107 => ((spec_l14Rd_pick.f k s0_0 bt107.2 3).bind fun bt110 => ((spec_l14Rd_pick.f k s0_0 bt110.2 3).bind fun bt112 => (spec_l3Any.l0 k bt110.1 (wrap64 (1 + bt112.1)) s0_0 bt112.2 (wrap64 (1 + bt102.1)) (wrap64 ((wrap64 (1 + bt102.1)) + bt107.1)) ([] : List Int)))))) = some (r1, r2, r3, r4) := h
 clear h
 replace H := Option.bind_eq_some_iff.mp H
 obtain ⟨⟨t102, t103⟩, A20, H⟩ := H
 replace H : ((spec_l14Rd_num.f k s0_0 t103 (([0, 0, 1, 2, 5] : List Int))).bind fun bt107 => ((spec_l14Rd_pick.f k s0_0 bt107.2 3).bind fun bt110 => ((spec_l14Rd_pick.f k s0_0 bt110.2 3).bind fun bt112 => (spec_l3Any.l0 k bt110.1 (wrap64 (1 + bt112.1)) s0_0 bt112.2 (wrap64 (1 + t102)) (wrap64 ((wrap64 (1 + t102)) + bt107.1)) ([] : List Int))))) = some (r1, r2, r3, r4) := H
 have A2 := Aside0.mk A20
 clear A20
 obtain ⟨y104, hy104⟩ : ∃ y_ : List Int, y_ = (([0, 0, 1, 2, 5] : List Int)) := ⟨_, rfl⟩
 replace H : ((spec_l14Rd_num.f k s0_0 t103 y104).bind fun bt107 => ((spec_l14Rd_pick.f k s0_0 bt107.2 3).bind fun bt110 => ((spec_l14Rd_pick.f k s0_0 bt110.2 3).bind fun bt112 => (spec_l3Any.l0 k bt110.1 (wrap64 (1 + bt112.1)) s0_0 bt112.2 (wrap64 (1 + t102)) (wrap64 ((wrap64 (1 + t102)) + bt107.1)) ([] : List Int))))) = some (r1, r2, r3, r4) := by first | (rw [hy104];with_reducible exact H) | (have H2_ := (Option.bind_some _ _).symm.trans H;rw [hy104];with_reducible exact H2_) | (have H2_ := (Option.bind_some _ _).symm.trans H;with_reducible exact H2_) | with_reducible exact H | (rw [hy104];exact H) | exact H
 have Ny104 := Aside0.mk hy104
 clear hy104
 replace H := Option.bind_eq_some_iff.mp H
 obtain ⟨⟨t107, t108⟩, A30, H⟩ := H
 replace H : ((spec_l14Rd_pick.f k s0_0 t108 3).bind fun bt110 => ((spec_l14Rd_pick.f k s0_0 bt110.2 3).bind fun bt112 => (spec_l3Any.l0 k bt110.1 (wrap64 (1 + bt112.1)) s0_0 bt112.2 (wrap64 (1 + t102)) (wrap64 ((wrap64 (1 + t102)) + t107)) ([] : List Int)))) = some (r1, r2, r3, r4) := H
 have A3 := Aside0.mk A30
 clear A30
 replace H := Option.bind_eq_some_iff.mp H
 obtain ⟨⟨t110, t111⟩, A40, H⟩ := H
 replace H : ((spec_l14Rd_pick.f k s0_0 t111 3).bind fun bt112 => (spec_l3Any.l0 k t110 (wrap64 (1 + bt112.1)) s0_0 bt112.2 (wrap64 (1 + t102)) (wrap64 ((wrap64 (1 + t102)) + t107)) ([] : List Int))) = some (r1, r2, r3, r4) := H
 have A4 := Aside0.mk A40
 clear A40
 replace H := Option.bind_eq_some_iff.mp H
 obtain ⟨⟨t112, t113⟩, A50, H⟩ := H
 replace H : (spec_l3Any.l0 k t110 (wrap64 (1 + t112)) s0_0 t113 (wrap64 (1 + t102)) (wrap64 ((wrap64 (1 + t102)) + t107)) ([] : List Int)) = some (r1, r2, r3, r4) := H
 have A5 := Aside0.mk A50
 clear A50
 have H' := Aside0.mk H
 clear H
 go_enter Try.func73, Try.ntmps73
 go_wp2_with (first | ((with_reducible refine gate_dst (N := 2) rfl ?_);refine box_event ?hg (N := 2) ?hd (cs := #[.int .i64 0, .int .i64 0, .slice none 0 0]) (t := 27) ?hr ?_;(case hd => rfl);(case hg => rfl);(case hr => first | (go_simp;done) | (go_simp;rfl));intro gb101 hg w6 hbox hb;replace HB := Aside0.mk (below_step (by repeat (first | (with_reducible first | exact HB.out | apply below_alloc | apply pw_below_drewN | apply below_drew1 | refine below_set ?_ (IsS100.ge HI0.out)) | exact HB.out)) hb);have BK101 := Aside0.mk (hbox);have GW101 := Aside0.mk ((by rw [hg];exact (keep_size (w := w) (g := g) (row := none) (by repeat (first | (with_reducible first | exact HK.out | apply KeepBut.set_ | apply keep_drewN | apply keep_drew | apply keep_alloc) | exact HK.out))) : w.heap.size ≤ gb101));have GE101 := Aside0.mk ((Nat.le_trans HW0.out (by rw [hg];exact (keep_size (w := w) (g := g) (row := none) (by repeat (first | (with_reducible first | exact HK.out | apply KeepBut.set_ | apply keep_drewN | apply keep_drew | apply keep_alloc) | exact HK.out))) : w.heap.size ≤ gb101) : w0.heap.size ≤ gb101));replace HK := Aside0.mk (KeepBut.trans (by repeat (first | (with_reducible first | exact HK.out | apply KeepBut.set_ | apply keep_drewN | apply keep_drew | apply keep_alloc) | exact HK.out)) (KeepBut.of_below hb g none) (.inl rfl));have NB0_101 := Aside0.mk ((by rw [hg];exact Nat.ne_of_lt (IsS100.lt (show IsS100 w0 _ g s0_0 s0_1 from by repeat (first | (with_reducible first | exact HI0.out | apply IsS100.alloc | apply IsS100.drewN | apply IsS100.drew | apply IsS100.set_1) | exact HI0.out))) : g ≠ gb101));have NB101_0 := Aside0.mk ((by rw [hg];exact Nat.ne_of_gt (IsS100.lt (show IsS100 w0 _ g s0_0 s0_1 from by repeat (first | (with_reducible first | exact HI0.out | apply IsS100.alloc | apply IsS100.drewN | apply IsS100.drew | apply IsS100.set_1) | exact HI0.out))) : gb101 ≠ g));replace HI0 := Aside0.mk (IsS100.below (by repeat (first | (with_reducible first | exact HI0.out | apply IsS100.alloc | apply IsS100.drewN | apply IsS100.drew | apply IsS100.set_1) | exact HI0.out)) hb);clear hb hbox hg) | ((with_reducible refine gate_callee (f := 74) rfl ?_);refine goesL_ (some 8) rfl rfl Try.func74 (by kernel_rfl) rfl #[.pointer (some ⟨g, 0, none⟩), .int .i64 9] rfl (by (try simp only [List.map_toArray, List.map_cons, List.map_nil]);first | done | rfl | (simp only [List.length_drop, List.length_take];rfl)) ?_;(with_reducible refine (spec_l14Rd_pick.calls k g s0_0 s0_1 9 t102 t103 w0 _ ?side1 ?side2 A2.out).mono ?_);(case side1 => repeat (first | (with_reducible first | exact HI0.out | apply IsS100.alloc | apply IsS100.drewN | apply IsS100.drew | apply IsS100.set_1 | refine IsS100.far ?_ NB0_101.out _) | exact HI0.out));(case side2 => repeat (first | (with_reducible first | exact HB.out | apply below_alloc | apply pw_below_drewN | apply below_drew1 | refine below_set ?_ (IsS100.ge HI0.out) | refine below_set ?_ GE101.out) | exact HB.out));rintro e w7 ⟨rfl, hi, hb, hk⟩;refine ⟨_, rfl, ?_⟩;replace BK101 := Aside0.mk (KeepBut.blk hk (g' := gb101) (o := .cells #[.int .i64 0, .int .i64 0, .slice none 0 0] 27 (0, 0)) (by (with_reducible repeat (first | refine blk_drewN ?_ _ | refine blk_drew ?_ | refine blk_alloc ?_ _));exact BK101.out) NB101_0.out (by simp));replace HK := Aside0.mk (KeepBut.trans (by repeat (first | (with_reducible first | exact HK.out | apply KeepBut.set_ | apply keep_drewN | apply keep_drew | apply keep_alloc | refine keep_far ?_ GW101.out _) | exact HK.out)) hk (.inl rfl));replace HB := Aside0.mk (hb);replace HI0 := Aside0.mk (hi);(try clear hb);(try clear hb2);(try clear hk);(try clear hi)) | ((with_reducible refine gate_dst (N := 13) rfl ?_);refine Kd.R_lit (Kd.int .i64) _ 3 ?hg (N := 13) ?hd (xs := ([0, 0, 1, 2, 5] : List Int)) (inner := [.int .i64 0, .int .i64 0, .int .i64 1, .int .i64 2, .int .i64 5]) (ok := fun _ => True) (okp := fun _ => True) ?hr ?hp (fun _ hk => hk) trivial (Below.refl _ _) (Nat.le_refl _) (by simp) ?_;(case hd => rfl);(case hg => rfl);(case hr => first | (go_simp;done) | (go_simp;rfl));(case hp => exact (Reps.one (show Kd.M (Kd.int .i64) _ _ _ 0 [.int .i64 0] from rfl) (Reps.one (show Kd.M (Kd.int .i64) _ _ _ 0 [.int .i64 0] from rfl) (Reps.one (show Kd.M (Kd.int .i64) _ _ _ 1 [.int .i64 1] from rfl) (Reps.one (show Kd.M (Kd.int .i64) _ _ _ 2 [.int .i64 2] from rfl) (Reps.one (show Kd.M (Kd.int .i64) _ _ _ 5 [.int .i64 5] from rfl) (Reps.none _ _)))))));intro v105 w8 ho9 hb hg_ hnew_;clear hg_ hnew_;(first | rw [← Ny104.out] at ho9 | (simp only [Int.reduceToNat] at ho9;rw [← Ny104.out] at ho9));have HO106 := Aside0.mk (Kd.R_lower ho9 (keep_size (w := w) (g := g) (row := none) (by repeat (first | (with_reducible first | exact HK.out | apply KeepBut.set_ | apply keep_drewN | apply keep_drew | apply keep_alloc | refine keep_far ?_ GW101.out _) | exact HK.out))));replace BK101 := Aside0.mk (blk_below BK101.out hb);replace HK := Aside0.mk (KeepBut.trans (by repeat (first | (with_reducible first | exact HK.out | apply KeepBut.set_ | apply keep_drewN | apply keep_drew | apply keep_alloc | refine keep_far ?_ GW101.out _) | exact HK.out)) (KeepBut.of_below hb g none) (.inl rfl));replace HB := Aside0.mk (below_step (by repeat (first | (with_reducible first | exact HB.out | apply below_alloc | apply pw_below_drewN | apply below_drew1 | refine below_set ?_ (IsS100.ge HI0.out) | refine below_set ?_ GE101.out) | exact HB.out)) hb);replace HI0 := Aside0.mk (IsS100.below (by repeat (first | (with_reducible first | exact HI0.out | apply IsS100.alloc | apply IsS100.drewN | apply IsS100.drew | apply IsS100.set_1 | refine IsS100.far ?_ NB0_101.out _) | exact HI0.out)) hb);clear hb ho9;obtain ⟨Ao10, co10, eo10⟩ := Kd.R_slice HO106.out;subst eo10) | ((with_reducible refine gate_callee (f := 91) rfl ?_);refine goesL_ (some 14) rfl rfl Try.func91 (by kernel_rfl) rfl #[.pointer (some ⟨g, 0, none⟩), .slice Ao10 y104.length co10] rfl (by (try simp only [List.map_toArray, List.map_cons, List.map_nil]);first | done | rfl | (simp only [List.length_drop, List.length_take];rfl)) ?_;(with_reducible refine (spec_l14Rd_num.calls k g s0_0 t103 _ _ y104 t107 t108 w0 _ ?side1 ?side2 ?side3 ?side4 ?side5 A3.out).mono ?_);(case side1 => repeat (first | (with_reducible first | exact HI0.out | apply IsS100.alloc | apply IsS100.drewN | apply IsS100.drew | apply IsS100.set_1 | refine IsS100.far ?_ NB0_101.out _) | exact HI0.out));(case side2 => repeat (first | (with_reducible first | exact HB.out | apply below_alloc | apply pw_below_drewN | apply below_drew1 | refine below_set ?_ (IsS100.ge HI0.out) | refine below_set ?_ GE101.out) | exact HB.out));(case side3 => repeat (first | exact (Kd.R_reads' HO106.out).2.2 | (with_reducible refine Kd.C_alloc ?_ _) | (with_reducible refine Kd.C_drewN ?_ _) | (with_reducible refine Kd.C_drew ?_)));(case side4 => exact (Kd.R_reads' HO106.out).2.1);(case side5 => exact far_slice (IsS100.own_ne HI0.out HO106.out (by decide)));rintro e w11 ⟨rfl, hi, hb, hk⟩;refine ⟨_, rfl, ?_⟩;replace BK101 := Aside0.mk (KeepBut.blk hk (g' := gb101) (o := .cells #[.int .i64 0, .int .i64 0, .slice none 0 0] 27 (0, 0)) (by (with_reducible repeat (first | refine blk_drewN ?_ _ | refine blk_drew ?_ | refine blk_alloc ?_ _));exact BK101.out) NB101_0.out (by simp));replace HO106 := Aside0.mk (Kd.R_mono (Kd.R_keep (IsS100.apart (show IsS100 w0 _ g s0_0 t103 from by repeat (first | (with_reducible first | exact HI0.out | apply IsS100.alloc | apply IsS100.drewN | apply IsS100.drew | apply IsS100.set_1 | refine IsS100.far ?_ NB0_101.out _) | exact HI0.out)) (by exact HO106.out) (by decide)) hk (fun _ h => h.2)) (fun _ h => h.1));replace HK := Aside0.mk (KeepBut.trans (by repeat (first | (with_reducible first | exact HK.out | apply KeepBut.set_ | apply keep_drewN | apply keep_drew | apply keep_alloc | refine keep_far ?_ GW101.out _) | exact HK.out)) hk (.inl rfl));replace HB := Aside0.mk (hb);replace HI0 := Aside0.mk (hi);(try clear hb);(try clear hb2);(try clear hk);(try clear hi)) | ((with_reducible refine gate_dst (N := 4) rfl ?_);refine box_event ?hg (N := 4) ?hd (cs := #[.int .i64 0, .int .i64 0, .slice none 0 0]) (t := 27) ?hr ?_;(case hd => rfl);(case hg => rfl);(case hr => first | (go_simp;done) | (go_simp;rfl));intro gb109 hg w12 hbox hb;replace HO106 := Aside0.mk (Kd.R_below (by exact HO106.out) hb);replace HB := Aside0.mk (below_step (by repeat (first | (with_reducible first | exact HB.out | apply below_alloc | apply pw_below_drewN | apply below_drew1 | refine below_set ?_ (IsS100.ge HI0.out) | refine below_set ?_ GE101.out) | exact HB.out)) hb);have BK109 := Aside0.mk (hbox);have GW109 := Aside0.mk ((by rw [hg];exact (keep_size (w := w) (g := g) (row := none) (by repeat (first | (with_reducible first | exact HK.out | apply KeepBut.set_ | apply keep_drewN | apply keep_drew | apply keep_alloc | refine keep_far ?_ GW101.out _) | exact HK.out))) : w.heap.size ≤ gb109));have GE109 := Aside0.mk ((Nat.le_trans HW0.out (by rw [hg];exact (keep_size (w := w) (g := g) (row := none) (by repeat (first | (with_reducible first | exact HK.out | apply KeepBut.set_ | apply keep_drewN | apply keep_drew | apply keep_alloc | refine keep_far ?_ GW101.out _) | exact HK.out))) : w.heap.size ≤ gb109) : w0.heap.size ≤ gb109));replace HK := Aside0.mk (KeepBut.trans (by repeat (first | (with_reducible first | exact HK.out | apply KeepBut.set_ | apply keep_drewN | apply keep_drew | apply keep_alloc | refine keep_far ?_ GW101.out _) | exact HK.out)) (KeepBut.of_below hb g none) (.inl rfl));have NB101_109 := Aside0.mk ((by rw [hg];exact Nat.ne_of_lt (blk_lt BK101.out) : gb101 ≠ gb109));have NB109_101 := Aside0.mk ((by rw [hg];exact Nat.ne_of_gt (blk_lt BK101.out) : gb109 ≠ gb101));replace BK101 := Aside0.mk (blk_below BK101.out hb);have NB0_109 := Aside0.mk ((by rw [hg];exact Nat.ne_of_lt (IsS100.lt (show IsS100 w0 _ g s0_0 t108 from by repeat (first | (with_reducible first | exact HI0.out | apply IsS100.alloc | apply IsS100.drewN | apply IsS100.drew | apply IsS100.set_1 | refine IsS100.far ?_ NB0_101.out _) | exact HI0.out))) : g ≠ gb109));have NB109_0 := Aside0.mk ((by rw [hg];exact Nat.ne_of_gt (IsS100.lt (show IsS100 w0 _ g s0_0 t108 from by repeat (first | (with_reducible first | exact HI0.out | apply IsS100.alloc | apply IsS100.drewN | apply IsS100.drew | apply IsS100.set_1 | refine IsS100.far ?_ NB0_101.out _) | exact HI0.out))) : gb109 ≠ g));replace HI0 := Aside0.mk (IsS100.below (by repeat (first | (with_reducible first | exact HI0.out | apply IsS100.alloc | apply IsS100.drewN | apply IsS100.drew | apply IsS100.set_1 | refine IsS100.far ?_ NB0_101.out _) | exact HI0.out)) hb);clear hb hbox hg;have hnb13 := NB109_101.out;have hnc13 := NB101_109.out;have hnb14 := NB109_0.out;have hnc14 := NB0_109.out;obtain ⟨hcz15_0, hcz15_1, hcz15_2, hfz15_0, hfz15_1, hfz15_2⟩ := bx3 BK109.out) | ((with_reducible refine gate_callee (f := 74) rfl ?_);refine goesL_ (some 18) rfl rfl Try.func74 (by kernel_rfl) rfl #[.pointer (some ⟨g, 0, none⟩), .int .i64 3] rfl (by (try simp only [List.map_toArray, List.map_cons, List.map_nil]);first | done | rfl | (simp only [List.length_drop, List.length_take];rfl)) ?_;(with_reducible refine (spec_l14Rd_pick.calls k g s0_0 t108 3 t110 t111 w0 _ ?side1 ?side2 A4.out).mono ?_);(case side1 => repeat (first | (with_reducible first | exact HI0.out | apply IsS100.alloc | apply IsS100.drewN | apply IsS100.drew | apply IsS100.set_1 | refine IsS100.far ?_ NB0_101.out _ | refine IsS100.far ?_ NB0_109.out _) | exact HI0.out));(case side2 => repeat (first | (with_reducible first | exact HB.out | apply below_alloc | apply pw_below_drewN | apply below_drew1 | refine below_set ?_ (IsS100.ge HI0.out) | refine below_set ?_ GE101.out | refine below_set ?_ GE109.out) | exact HB.out));rintro e w16 ⟨rfl, hi, hb, hk⟩;refine ⟨_, rfl, ?_⟩;replace BK101 := Aside0.mk (KeepBut.blk hk (g' := gb101) (o := .cells #[.int .i64 0, .int .i64 0, .slice none 0 0] 27 (0, 0)) (by (with_reducible repeat (first | refine blk_drewN ?_ _ | refine blk_drew ?_ | refine blk_alloc ?_ _));refine blk_far ?_ NB101_109.out _;(with_reducible repeat (first | refine blk_drewN ?_ _ | refine blk_drew ?_ | refine blk_alloc ?_ _));refine blk_far ?_ NB101_109.out _;(with_reducible repeat (first | refine blk_drewN ?_ _ | refine blk_drew ?_ | refine blk_alloc ?_ _));refine blk_far ?_ NB101_109.out _;(with_reducible repeat (first | refine blk_drewN ?_ _ | refine blk_drew ?_ | refine blk_alloc ?_ _));exact BK101.out) NB101_0.out (by simp));replace HO106 := Aside0.mk (Kd.R_mono (Kd.R_keep (IsS100.apart (show IsS100 w0 _ g s0_0 t108 from by repeat (first | (with_reducible first | exact HI0.out | apply IsS100.alloc | apply IsS100.drewN | apply IsS100.drew | apply IsS100.set_1 | refine IsS100.far ?_ NB0_101.out _ | refine IsS100.far ?_ NB0_109.out _) | exact HI0.out)) (by (with_reducible repeat (first | apply Kd.R_alloc | apply Kd.R_drewN | apply Kd.R_drew));exact (Kd.R_mono (Kd.R_far (p := ⟨gb109, 2, none⟩) (Kd.R_far (p := ⟨gb109, 1, none⟩) (Kd.R_far (p := ⟨gb109, 0, none⟩) (Kd.R_types HO106.out BK109.out (by decide)) (fun _ hk => hk.2) (.int .i64 (wrap64 (1 + t102)))) (fun _ hk => hk.2) (.int .i64 (wrap64 ((wrap64 (1 + t102)) + t107)))) (fun _ hk => hk.2) (.slice none 0 0)) (fun _ h_ => h_.1))) (by decide)) hk (fun _ h => h.2)) (fun _ h => h.1));replace BK109 := Aside0.mk (KeepBut.blk hk (g' := gb109) (o := .cells #[.int .i64 (wrap64 (1 + t102)), .int .i64 (wrap64 ((wrap64 (1 + t102)) + t107)), .slice none 0 0] 27 (0, 0)) (by (with_reducible repeat (first | refine blk_drewN ?_ _ | refine blk_drew ?_ | refine blk_alloc ?_ _));refine blk_put (cs := #[.int .i64 (wrap64 (1 + t102)), .int .i64 (wrap64 ((wrap64 (1 + t102)) + t107)), .slice none 0 0]) ?_ 2 _ rfl;(with_reducible repeat (first | refine blk_drewN ?_ _ | refine blk_drew ?_ | refine blk_alloc ?_ _));refine blk_put (cs := #[.int .i64 (wrap64 (1 + t102)), .int .i64 0, .slice none 0 0]) ?_ 1 _ rfl;(with_reducible repeat (first | refine blk_drewN ?_ _ | refine blk_drew ?_ | refine blk_alloc ?_ _));refine blk_put (cs := #[.int .i64 0, .int .i64 0, .slice none 0 0]) ?_ 0 _ rfl;(with_reducible repeat (first | refine blk_drewN ?_ _ | refine blk_drew ?_ | refine blk_alloc ?_ _));exact BK109.out) NB109_0.out (by simp));replace HK := Aside0.mk (KeepBut.trans (by repeat (first | (with_reducible first | exact HK.out | apply KeepBut.set_ | apply keep_drewN | apply keep_drew | apply keep_alloc | refine keep_far ?_ GW101.out _ | refine keep_far ?_ GW109.out _) | exact HK.out)) hk (.inl rfl));replace HB := Aside0.mk (hb);replace HI0 := Aside0.mk (hi);(try clear hb);(try clear hb2);(try clear hk);(try clear hi)) | ((with_reducible refine gate_callee (f := 74) rfl ?_);refine goesL_ (some 20) rfl rfl Try.func74 (by kernel_rfl) rfl #[.pointer (some ⟨g, 0, none⟩), .int .i64 3] rfl (by (try simp only [List.map_toArray, List.map_cons, List.map_nil]);first | done | rfl | (simp only [List.length_drop, List.length_take];rfl)) ?_;(with_reducible refine (spec_l14Rd_pick.calls k g s0_0 t111 3 t112 t113 w0 _ ?side1 ?side2 A5.out).mono ?_);(case side1 => repeat (first | (with_reducible first | exact HI0.out | apply IsS100.alloc | apply IsS100.drewN | apply IsS100.drew | apply IsS100.set_1 | refine IsS100.far ?_ NB0_101.out _ | refine IsS100.far ?_ NB0_109.out _) | exact HI0.out));(case side2 => repeat (first | (with_reducible first | exact HB.out | apply below_alloc | apply pw_below_drewN | apply below_drew1 | refine below_set ?_ (IsS100.ge HI0.out) | refine below_set ?_ GE101.out | refine below_set ?_ GE109.out) | exact HB.out));rintro e w17 ⟨rfl, hi, hb, hk⟩;refine ⟨_, rfl, ?_⟩;replace BK101 := Aside0.mk (KeepBut.blk hk (g' := gb101) (o := .cells #[.int .i64 0, .int .i64 0, .slice none 0 0] 27 (0, 0)) (by (with_reducible repeat (first | refine blk_drewN ?_ _ | refine blk_drew ?_ | refine blk_alloc ?_ _));exact BK101.out) NB101_0.out (by simp));replace HO106 := Aside0.mk (Kd.R_mono (Kd.R_keep (IsS100.apart (show IsS100 w0 _ g s0_0 t111 from by repeat (first | (with_reducible first | exact HI0.out | apply IsS100.alloc | apply IsS100.drewN | apply IsS100.drew | apply IsS100.set_1 | refine IsS100.far ?_ NB0_101.out _ | refine IsS100.far ?_ NB0_109.out _) | exact HI0.out)) (by exact HO106.out) (by decide)) hk (fun _ h => h.2)) (fun _ h => h.1));replace BK109 := Aside0.mk (KeepBut.blk hk (g' := gb109) (o := .cells #[.int .i64 (wrap64 (1 + t102)), .int .i64 (wrap64 ((wrap64 (1 + t102)) + t107)), .slice none 0 0] 27 (0, 0)) (by (with_reducible repeat (first | refine blk_drewN ?_ _ | refine blk_drew ?_ | refine blk_alloc ?_ _));exact BK109.out) NB109_0.out (by simp));replace HK := Aside0.mk (KeepBut.trans (by repeat (first | (with_reducible first | exact HK.out | apply KeepBut.set_ | apply keep_drewN | apply keep_drew | apply keep_alloc | refine keep_far ?_ GW101.out _ | refine keep_far ?_ GW109.out _) | exact HK.out)) hk (.inl rfl));replace HB := Aside0.mk (hb);replace HI0 := Aside0.mk (hi);(try clear hb);(try clear hb2);(try clear hk);(try clear hi)))
 go_loopg [5, 6] k (fun kq v5 v6 w' => ∃ (x5_1 : Int) (x6_1 : Int) (x1001_1 : Int) (x110002_1 : List Int) (u110002 : Value), v5 = .int .i64 x5_1 ∧ v6 = .int .i64 x6_1 ∧ Aside0 (spec_l3Any.l0 kq x5_1 x6_1 s0_0 x1001_1 (wrap64 (1 + t102)) (wrap64 ((wrap64 (1 + t102)) + t107)) x110002_1 = some (r1, r2, r3, r4)) ∧ Aside0 (kq ≤ k) ∧ Aside0 (Kd.R (Kd.int .i64) 3 w' w.heap.size (fun _ => True) u110002 x110002_1) ∧ Aside0 (w'.heap[gb101]? = some (.cells #[.int .i64 0, .int .i64 0, (.slice none 0 0)] 27 (0, 0))) ∧ Aside0 (w'.heap[gb109]? = some (.cells #[.int .i64 (wrap64 (1 + t102)), .int .i64 (wrap64 ((wrap64 (1 + t102)) + t107)), u110002] 27 (0, 0))) ∧ Aside0 (IsS100 w0 w' g s0_0 x1001_1) ∧ Aside0 (KeepBut w w' g none) ∧ Aside0 (Below w0.heap.size w0 w'))
 case atStart => exact ⟨(t110), (wrap64 (1 + t112)), (t113), (([] : List Int)), (.slice none 0 0), (by first | rfl | (simp;done) | (simp [*];done)), (by first | rfl | (simp;done) | (simp [*];done)), H', ⟨Nat.le_refl _⟩, ⟨by first | exact Kd.R_nil _ _ _ _ _ | exact Kd.N_nil _ _ _ _ _ | exact Kd.V_nil _ _ _ _ _ | exact Kd.Q_nil _ _ _ _ _ | exact Kd.S_nil _ _ _ _ _⟩, ⟨by (with_reducible repeat (first | refine blk_drewN ?_ _ | refine blk_drew ?_ | refine blk_alloc ?_ _));exact BK101.out⟩, ⟨by (with_reducible repeat (first | refine blk_drewN ?_ _ | refine blk_drew ?_ | refine blk_alloc ?_ _));exact BK109.out⟩, ⟨by repeat (first | (with_reducible first | exact HI0.out | apply IsS100.alloc | apply IsS100.drewN | apply IsS100.drew | apply IsS100.set_1 | refine IsS100.far ?_ NB0_101.out _ | refine IsS100.far ?_ NB0_109.out _) | exact HI0.out)⟩, ⟨by repeat (first | (with_reducible first | exact HK.out | apply KeepBut.set_ | apply keep_drewN | apply keep_drew | apply keep_alloc | refine keep_far ?_ GW101.out _ | refine keep_far ?_ GW109.out _) | exact HK.out)⟩, ⟨by repeat (first | (with_reducible first | exact HB.out | apply below_alloc | apply pw_below_drewN | apply below_drew1 | refine below_set ?_ (IsS100.ge HI0.out) | refine below_set ?_ GE101.out | refine below_set ?_ GE109.out) | exact HB.out)⟩⟩
 case round =>
  clear H'
  try clear c1
  try clear p2
  try clear p6
  try clear c7
  try clear c9
  try clear c13
  try clear c14
  try clear hcz15_0
  try clear hcz15_1
  try clear hcz15_2
  try clear hfz15_0
  try clear hfz15_1
  try clear hfz15_2
  obtain ⟨x5_1, x6_1, x1001_1, x110002_1, u110002, rfl, rfl, HA, HK1, HO_110002, BK101, BK109, HI0, HK, HB⟩ := hrel
  cases gk with
  | zero => exact absurd HA.out (by simp [spec_l3Any.l0])
  | succ k1 =>
   have H := HA.out
   clear HA
   simp only [spec_l3Any.l0] at H
   by_cases c18 : x6_1 > 0
   ·rw [if_pos c18] at H
    have c18b0 : decide (0 < x6_1) = true := decide_eq_true c18
    clear c18
    by_cases c19 : x110002_1.length < 17592186044416
    ·rw [if_pos c19] at H
     have LMc19 := Aside0.mk c19
     clear c19
     obtain ⟨y114, hy114⟩ : ∃ y_ : List Int, y_ = (x110002_1 ++ [x5_1]) := ⟨_, rfl⟩
     replace H : ((spec_l14Rd_pick.f k1 s0_0 x1001_1 3).bind fun bt117 => (spec_l3Any.l0 k1 (wrap64 ((wrap64 (x5_1 + 1)) + bt117.1)) (wrap64 (x6_1 - 1)) s0_0 bt117.2 (wrap64 (1 + t102)) (wrap64 ((wrap64 (1 + t102)) + t107)) y114)) = some (r1, r2, r3, r4) := by first | (rw [hy114];with_reducible exact H) | (have H2_ := (Option.bind_some _ _).symm.trans H;rw [hy114];with_reducible exact H2_) | (have H2_ := (Option.bind_some _ _).symm.trans H;with_reducible exact H2_) | with_reducible exact H | (rw [hy114];exact H) | exact H
     have Ny114 := Aside0.mk hy114
     clear hy114
     replace H := Option.bind_eq_some_iff.mp H
     obtain ⟨⟨t117, t118⟩, A200, H⟩ := H
     replace H : (spec_l3Any.l0 k1 (wrap64 ((wrap64 (x5_1 + 1)) + t117)) (wrap64 (x6_1 - 1)) s0_0 t118 (wrap64 (1 + t102)) (wrap64 ((wrap64 (1 + t102)) + t107)) y114) = some (r1, r2, r3, r4) := H
     have A20 := Aside0.mk A200
     clear A200
     have H' := Aside0.mk H
     clear H
     have hnb21 := NB109_101.out
     have hnc21 := NB101_109.out
     have hnb22 := NB109_0.out
     have hnc22 := NB0_109.out
     obtain ⟨hcz23_0, hcz23_1, hcz23_2, hfz23_0, hfz23_1, hfz23_2⟩ := bx3 BK109.out
     go_wp2_with (first | ((with_reducible refine gate_builtin (b := .append) (xs := #[.tmp 27, .tmp 29]) rfl ?_);at_builtin;refine Kd.R_append (Kd.int .i64) w.heap.size rfl (.tmp 27) (.tmp 29) 22 3 (.int .i64 0) 8 rfl Try.underlying22 info3 rfl (by decide) (by omega) u110002 x110002_1 x5_1 [.int .i64 x5_1] (fun _ => True) (fun _ => False) rfl rfl ?aP (fun _ hk => hk.elim) ?aF ?aO (Below.refl _ _) ?aS ?aL ?_;(case aP => exact rfl);(case aF => exact (fun _ _ => trivial));(case aO => exact (by exact HO_110002.out));(case aS => exact (keep_size (w := w) (g := g) (row := none) (by repeat (first | (with_reducible first | exact HK.out | apply KeepBut.set_ | apply keep_drewN | apply keep_drew | apply keep_alloc | refine keep_far ?_ GW101.out _ | refine keep_far ?_ GW109.out _) | exact HK.out))));(case aL => have := LMc19.out;omega);intro v115 w24 ho hb hg hat;rw [← Ny114.out] at ho;have n0_ := Aside0.mk (blk_grown BK101.out hg (Kd.R_ne HO_110002.out BK101.out (by decide)));have n1_ := Aside0.mk (blk_grown BK109.out hg (Kd.R_ne HO_110002.out BK109.out (by decide)));have n2_ := Aside0.mk (IsS100.grown (by repeat (first | (with_reducible first | exact HI0.out | apply IsS100.alloc | apply IsS100.drewN | apply IsS100.drew | apply IsS100.set_1 | refine IsS100.far ?_ NB0_101.out _ | refine IsS100.far ?_ NB0_109.out _) | exact HI0.out)) hg (IsS100.own_ne HI0.out HO_110002.out (by decide)));have n3_ := Aside0.mk (below_weaken (by repeat (first | (with_reducible first | exact HB.out | apply below_alloc | apply pw_below_drewN | apply below_drew1 | refine below_set ?_ (IsS100.ge HI0.out) | refine below_set ?_ GE101.out | refine below_set ?_ GE109.out) | exact HB.out)) HL.out hb);have n4_ := Aside0.mk (KeepBut.trans (by repeat (first | (with_reducible first | exact HK.out | apply KeepBut.set_ | apply keep_drewN | apply keep_drew | apply keep_alloc | refine keep_far ?_ GW101.out _ | refine keep_far ?_ GW109.out _) | exact HK.out)) (KeepBut.of_grown hg g) (Kd.R_base2 HO_110002.out));have n5_ := Aside0.mk (ho);clear BK101;clear BK109;clear HI0;clear HB;clear HK;clear HO_110002;have BK101 := n0_;have BK109 := n1_;have HI0 := n2_;have HB := n3_;have HK := n4_;have HO116 := n5_;clear n0_ n1_ n2_ n3_ n4_ n5_;clear ho hb hg hat;obtain ⟨Ao25, co25, eo25⟩ := Kd.R_slice HO116.out;subst eo25;obtain ⟨hcz26_0, hcz26_1, hcz26_2, hfz26_0, hfz26_1, hfz26_2⟩ := bx3 BK109.out) | ((with_reducible refine gate_callee (f := 74) rfl ?_);refine goesL_ (some 35) rfl rfl Try.func74 (by kernel_rfl) rfl #[.pointer (some ⟨g, 0, none⟩), .int .i64 3] rfl (by (try simp only [List.map_toArray, List.map_cons, List.map_nil]);first | done | rfl | (simp only [List.length_drop, List.length_take];rfl)) ?_;(with_reducible refine (spec_l14Rd_pick.calls k1 g s0_0 x1001_1 3 t117 t118 w0 _ ?side1 ?side2 A20.out).mono ?_);(case side1 => repeat (first | (with_reducible first | exact HI0.out | apply IsS100.alloc | apply IsS100.drewN | apply IsS100.drew | apply IsS100.set_1 | refine IsS100.far ?_ NB0_101.out _ | refine IsS100.far ?_ NB0_109.out _) | exact HI0.out));(case side2 => repeat (first | (with_reducible first | exact HB.out | apply below_alloc | apply pw_below_drewN | apply below_drew1 | refine below_set ?_ (IsS100.ge HI0.out) | refine below_set ?_ GE101.out | refine below_set ?_ GE109.out) | exact HB.out));rintro e w27 ⟨rfl, hi, hb, hk⟩;refine ⟨_, rfl, ?_⟩;replace BK101 := Aside0.mk (KeepBut.blk hk (g' := gb101) (o := .cells #[.int .i64 0, .int .i64 0, .slice none 0 0] 27 (0, 0)) (by (with_reducible repeat (first | refine blk_drewN ?_ _ | refine blk_drew ?_ | refine blk_alloc ?_ _));refine blk_far ?_ NB101_109.out _;(with_reducible repeat (first | refine blk_drewN ?_ _ | refine blk_drew ?_ | refine blk_alloc ?_ _));exact BK101.out) NB101_0.out (by simp));replace HO116 := Aside0.mk (Kd.R_mono (Kd.R_keep (IsS100.apart (show IsS100 w0 _ g s0_0 x1001_1 from by repeat (first | (with_reducible first | exact HI0.out | apply IsS100.alloc | apply IsS100.drewN | apply IsS100.drew | apply IsS100.set_1 | refine IsS100.far ?_ NB0_101.out _ | refine IsS100.far ?_ NB0_109.out _) | exact HI0.out)) (by (with_reducible repeat (first | apply Kd.R_alloc | apply Kd.R_drewN | apply Kd.R_drew));exact (Kd.R_mono (Kd.R_far (p := ⟨gb109, 2, none⟩) (Kd.R_types HO116.out BK109.out (by decide)) (fun _ hk => hk.2) (.slice Ao25 y114.length co25)) (fun _ h_ => h_.1))) (by decide)) hk (fun _ h => h.2)) (fun _ h => h.1));replace BK109 := Aside0.mk (KeepBut.blk hk (g' := gb109) (o := .cells #[.int .i64 (wrap64 (1 + t102)), .int .i64 (wrap64 ((wrap64 (1 + t102)) + t107)), .slice Ao25 y114.length co25] 27 (0, 0)) (by (with_reducible repeat (first | refine blk_drewN ?_ _ | refine blk_drew ?_ | refine blk_alloc ?_ _));refine blk_put (cs := #[.int .i64 (wrap64 (1 + t102)), .int .i64 (wrap64 ((wrap64 (1 + t102)) + t107)), u110002]) ?_ 2 _ rfl;(with_reducible repeat (first | refine blk_drewN ?_ _ | refine blk_drew ?_ | refine blk_alloc ?_ _));exact BK109.out) NB109_0.out (by simp));replace HK := Aside0.mk (KeepBut.trans (by repeat (first | (with_reducible first | exact HK.out | apply KeepBut.set_ | apply keep_drewN | apply keep_drew | apply keep_alloc | refine keep_far ?_ GW101.out _ | refine keep_far ?_ GW109.out _) | exact HK.out)) hk (.inl rfl));replace HB := Aside0.mk (hb);replace HI0 := Aside0.mk (hi);(try clear hb);(try clear hb2);(try clear hk);(try clear hi)))
     go_roundg k1
     case measure => have := HK1.out;omega
     case rel => exact ⟨(wrap64 ((wrap64 (x5_1 + 1)) + t117)), (wrap64 (x6_1 - 1)), (t118), (y114), (.slice Ao25 y114.length co25), (by first | rfl | (simp;done) | (simp [*];done)), (by first | rfl | (simp;done) | (simp [*];done)), H', ⟨by have := HK1.out;omega⟩, ⟨by (with_reducible repeat (first | apply Kd.R_alloc | apply Kd.R_drewN | apply Kd.R_drew));exact HO116.out⟩, ⟨by (with_reducible repeat (first | refine blk_drewN ?_ _ | refine blk_drew ?_ | refine blk_alloc ?_ _));exact BK101.out⟩, ⟨by (with_reducible repeat (first | refine blk_drewN ?_ _ | refine blk_drew ?_ | refine blk_alloc ?_ _));exact BK109.out⟩, ⟨by repeat (first | (with_reducible first | exact HI0.out | apply IsS100.alloc | apply IsS100.drewN | apply IsS100.drew | apply IsS100.set_1 | refine IsS100.far ?_ NB0_101.out _ | refine IsS100.far ?_ NB0_109.out _) | exact HI0.out)⟩, ⟨by repeat (first | (with_reducible first | exact HK.out | apply KeepBut.set_ | apply keep_drewN | apply keep_drew | apply keep_alloc | refine keep_far ?_ GW101.out _ | refine keep_far ?_ GW109.out _) | exact HK.out)⟩, ⟨by repeat (first | (with_reducible first | exact HB.out | apply below_alloc | apply pw_below_drewN | apply below_drew1 | refine below_set ?_ (IsS100.ge HI0.out) | refine below_set ?_ GE101.out | refine below_set ?_ GE109.out) | exact HB.out)⟩⟩
    ·rw [if_neg c19] at H
     exact absurd H (by simp)
   ·rw [if_neg c18] at H
    have c18b0 : decide (0 < x6_1) = false := decide_eq_false c18
    clear c18
    simp only [Option.some.injEq, Prod.mk.injEq] at H
    obtain ⟨rfl, rfl, rfl, rfl⟩ := H
    have hnb28 := NB109_101.out
    have hnc28 := NB101_109.out
    have hnb29 := NB109_0.out
    have hnc29 := NB0_109.out
    obtain ⟨hcz30_0, hcz30_1, hcz30_2, hfz30_0, hfz30_1, hfz30_2⟩ := bx3 BK109.out
    have hnb31 := NB101_0.out
    have hnc31 := NB0_101.out
    obtain ⟨hcz32_0, hcz32_1, hcz32_2, hfz32_0, hfz32_1, hfz32_2⟩ := bx3 BK101.out
    obtain ⟨Ao33, co33, eo33⟩ := Kd.R_slice HO_110002.out
    subst eo33
    go_wp2
    refine bodyPost_ret (results_cell_row rfl _ _ gb101 27 #[.int .i64 (wrap64 (1 + t102)), .int .i64 (wrap64 ((wrap64 (1 + t102)) + t107)), .slice Ao33 x110002_1.length co33] (0, 0) _ rfl (by (with_reducible repeat (first | refine blk_drewN ?_ _ | refine blk_drew ?_ | refine blk_alloc ?_ _));refine blk_put (cs := #[.int .i64 (wrap64 (1 + t102)), .int .i64 (wrap64 ((wrap64 (1 + t102)) + t107)), .slice none 0 0]) ?_ 2 _ rfl;(with_reducible repeat (first | refine blk_drewN ?_ _ | refine blk_drew ?_ | refine blk_alloc ?_ _));refine blk_put (cs := #[.int .i64 (wrap64 (1 + t102)), .int .i64 0, .slice none 0 0]) ?_ 1 _ rfl;(with_reducible repeat (first | refine blk_drewN ?_ _ | refine blk_drew ?_ | refine blk_alloc ?_ _));refine blk_put (cs := #[.int .i64 0, .int .i64 0, .slice none 0 0]) ?_ 0 _ rfl;(with_reducible repeat (first | refine blk_drewN ?_ _ | refine blk_drew ?_ | refine blk_alloc ?_ _));exact BK101.out) Try.underlying27 rfl (by kernel_rfl)) rfl ?_
    exact ⟨_, by first | rfl | (simp [errW_none, errW_some] <;> rfl) | (simp [*, errW_none, errW_some] <;> rfl), by (with_reducible repeat (first | apply Kd.R_alloc | apply Kd.R_drewN | apply Kd.R_drew));exact Kd.R_mono (Kd.R_far (p := ⟨gb101, 2, none⟩) (Kd.R_far (p := ⟨gb101, 1, none⟩) (Kd.R_far (p := ⟨gb101, 0, none⟩) (Kd.R_types HO_110002.out BK101.out (by decide)) (fun _ hk => hk.2) (.int .i64 (wrap64 (1 + t102)))) (fun _ hk => hk.2) (.int .i64 (wrap64 ((wrap64 (1 + t102)) + t107)))) (fun _ hk => hk.2) (.slice Ao33 x110002_1.length co33)) (fun _ hk => trivial), by repeat (first | (with_reducible first | exact HI0.out | apply IsS100.alloc | apply IsS100.drewN | apply IsS100.drew | apply IsS100.set_1 | refine IsS100.far ?_ NB0_101.out _ | refine IsS100.far ?_ NB0_109.out _) | exact HI0.out), by repeat (first | (with_reducible first | exact HB.out | apply below_alloc | apply pw_below_drewN | apply below_drew1 | refine below_set ?_ (IsS100.ge HI0.out) | refine below_set ?_ GE101.out | refine below_set ?_ GE109.out) | exact HB.out), by repeat (first | (with_reducible first | exact HK.out | apply KeepBut.set_ | apply keep_drewN | apply keep_drew | apply keep_alloc | refine keep_far ?_ GW101.out _ | refine keep_far ?_ GW109.out _) | exact HK.out)⟩

end Go.Proofs.Ytiplpckgmikmeaa.M
namespace Go.Proofs.Ytiplpckgmikmeaa.M
set_option linter.unusedVariables false
set_option linter.unusedSimpArgs false
end Go.Proofs.Ytiplpckgmikmeaa.M
namespace Go.Proofs.Ytiplpckgmikmeaa.M
open Go.RowKit Go.Proofs.YtiplpckgmikmeaaW.PrintWords Go.Proofs.YtiplpckgmikmeaaW.PrintLast Go.Proofs.YtiplpckgmikmeaaW.PrintMore
attribute [local go_sem] max2_int min2_int max_two min_two max_three min_three max_four min_four
set_option linter.unusedVariables false
set_option linter.unusedSimpArgs false

def spec_l4Merge.l0 : Nat → List S27 → List S27 → Int → Option (List S27)
 | 0, _, _, _ => none
 | k + 1, a, b, i => if i < (b.length : Int) then (if 0 ≤ i then (spec_l3Put.f k a (rd_T27 b i).f0 (rd_T27 b i).f1 (rd_T27 b i).f2).bind fun a2 => spec_l4Merge.l0 k a2 b (wrap64 (i + 1)) else none) else some a
def spec_l4Merge.f (k : Nat) (l0 l1 : List S27) : Option (List S27) := spec_l4Merge.l0 k l0 l1 0
theorem spec_l4Merge.mono_l : ∀ k a b i, LeO (spec_l4Merge.l0 k a b i) (spec_l4Merge.l0 (k + 1) a b i)
 | 0, _, _, _ => fun r h => by simp [spec_l4Merge.l0] at h
 | k + 1, a, b, i => by
  unfold spec_l4Merge.l0
  exact LeO.ite (LeO.ite (LeO.bind (spec_l3Put.mono _ _ _ _ k) (fun _ => spec_l4Merge.mono_l k _ _ _)) (LeO.refl _)) (LeO.refl _)
theorem spec_l4Merge.mono : ∀ a0 a1 k, LeO (spec_l4Merge.f k a0 a1) (spec_l4Merge.f (k + 1) a0 a1) := fun a0 a1 k => spec_l4Merge.mono_l k a0 a1 0
set_option maxHeartbeats 4000000 in
set_option maxRecDepth 100000 in
theorem spec_l4Merge.calls (k : Nat) (u : Value) (l0 : List S27) (A1 : Option Addr) (c1 : Nat) (l1 : List S27) (r : List S27) (wb w : World) (hB : Below wb.heap.size wb w) (hS : Kd.S k27 27 w wb.heap.size (fun _ => True) u l0) (hR : Kd.C k27 wb A1 l1.length l1) (hc : l1.length ≤ c1) (h : spec_l4Merge.f k l0 l1 = some r) :
  Calls Try.prog 87 #[u, .slice A1 l1.length c1] w fun e w' => ∃ v0_ : Value, e = .returned (v0_) ∧ Kd.S k27 27 w' wb.heap.size (fun _ => True) v0_ r ∧ Below wb.heap.size wb w' := by
 have HH := Aside0.mk (show spec_l4Merge.l0 k l0 l1 0 = some r from h)
 have HS := Aside0.mk hS
 have HR := Aside0.mk hR
 have HC := Aside0.mk hc
 have HB := Aside0.mk hB
 clear h hS hR hc hB
 go_enter Try.func87, Try.ntmps87
 go_wp2
 go_loopg [0, 5] k (fun kq v0 v5 w' => ∃ (a : List S27) (i : Int), v5 = .int .i64 i ∧ Aside0 (spec_l4Merge.l0 kq a l1 i = some r) ∧ Aside0 (kq ≤ k) ∧ Aside0 (Kd.S k27 27 w' wb.heap.size (fun _ => True) v0 a) ∧ Aside0 (Below wb.heap.size wb w'))
 case atStart => exact ⟨l0, 0, rfl, HH, ⟨Nat.le_refl _⟩, HS, HB⟩
 case round =>
  clear HS HB HH
  obtain ⟨a, i, rfl, HA, HK1, HS, HB⟩ := hrel
  cases gk with
  | zero => exact absurd HA.out (by simp [spec_l4Merge.l0])
  | succ k1 =>
   have H := HA.out
   clear HA
   simp only [spec_l4Merge.l0] at H
   by_cases c : i < (l1.length : Int)
   ·rw [if_pos c] at H
    by_cases c0 : 0 ≤ i
    ·rw [if_pos c0] at H
     obtain ⟨a2, hP, H⟩ := Option.bind_eq_some_iff.1 H
     obtain ⟨ad, A2, c2, e, h0, h1, h2, hl2, hg2⟩ := at_T27 HR.out i c0 c
     subst e
     have HP := Aside0.mk hP
     have HH := Aside0.mk H
     have HL2 := Aside0.mk hl2
     have HG2 := Aside0.mk (Kd.C_below hg2 HB.out)
     clear hP H hl2 hg2
     replace h0 := (HB.out.cell (World.block_lt_of_cell? wb _ h0)).trans h0
     replace h1 := (HB.out.cell (World.block_lt_of_cell? wb _ h1)).trans h1
     replace h2 := (HB.out.cell (World.block_lt_of_cell? wb _ h2)).trans h2
     have p1 : (0 ≤ i) = True := eq_true c0
     have q1 : (i < (l1.length : Int)) = True := eq_true c
     go_wp2_with (go_at_call 82;fail)
     refine (spec_l3Put.calls_base k1 (fun _ => True) _ a (rd_T27 l1 i).f0 (rd_T27 l1 i).f1 A2 c2 (rd_T27 l1 i).f2 a2 wb.heap.size wb _ HB.out HB.out.size HS.out HG2.out HL2.out HP.out).mono ?_
     rintro e w4 ⟨v4, rfl, hs4, hb4, _⟩
     have n0_ := Aside0.mk (Kd.S_mono (ok' := fun _ => True) hs4 (fun _ _ => trivial))
     have n1_ := Aside0.mk hb4
     clear HS HB hs4 hb4 h0 h1 h2 HG2
     have HS := n0_
     have HB := n1_
     clear n0_ n1_
     go_wp2
     go_roundg k1
     case measure => have := HK1.out;omega
     case rel => exact ⟨a2, wrap64 (i + 1), rfl, HH, ⟨by have := HK1.out;omega⟩, HS, HB⟩
    ·rw [if_neg c0] at H
     cases H
   ·rw [if_neg c] at H
    obtain rfl := Option.some.inj H
    have q1 : (i < (l1.length : Int)) = False := eq_false c
    go_wp2
    go_ret
    exact ⟨_, rfl, HS.out, HB.out⟩

end Go.Proofs.Ytiplpckgmikmeaa.M
namespace Go.Proofs.Ytiplpckgmikmeaa.M
open Go.RowKit Go.Proofs.YtiplpckgmikmeaaW.PrintWords Go.Proofs.YtiplpckgmikmeaaW.PrintLast Go.Proofs.YtiplpckgmikmeaaW.PrintMore
attribute [local go_sem] max2_int min2_int max_two min_two max_three min_three max_four min_four
set_option linter.unusedVariables false
set_option linter.unusedSimpArgs false

def spec_OrOf.f (k : Nat) (l0 l1 : List S27) : Option (List S27 × Bool) := (spec_OccsOk.f k l0).bind fun t => if t = true then (spec_OccsOk.f k l1).bind fun u => (if u = true then (spec_l3List.f k l0).bind fun l => (spec_l4Merge.f k l l1).bind fun m => spec_l4Told.f k m else some ([], false)) else some ([], false)
theorem spec_OrOf.mono : ∀ a0 a1 k, LeO (spec_OrOf.f k a0 a1) (spec_OrOf.f (k + 1) a0 a1) := by
 intro a0 a1 k
 unfold spec_OrOf.f
 exact LeO.bind (spec_OccsOk.mono _ k) (fun _ => LeO.ite (LeO.bind (spec_OccsOk.mono _ k) (fun _ => LeO.ite (LeO.bind (spec_l3List.mono _ k) (fun _ => LeO.bind (spec_l4Merge.mono _ _ k) (fun _ => spec_l4Told.mono _ k))) (LeO.refl _))) (LeO.refl _))
set_option maxHeartbeats 4000000 in
set_option maxRecDepth 100000 in
theorem spec_OrOf.calls (k : Nat) (A0 : Option Addr) (c0 : Nat) (l0 : List (S27)) (A1 : Option Addr) (c1 : Nat) (l1 : List (S27)) (r1 : List (S27)) (r2 : Bool) (w : World) (hr0 : Kd.C k27 w A0 l0.length l0) (hc0 : l0.length ≤ c0) (hr1 : Kd.C k27 w A1 l1.length l1) (hc1 : l1.length ≤ c1) (h : spec_OrOf.f k l0 l1 = some (r1, r2)) :
  Calls Try.prog 57 #[.slice A0 l0.length c0, .slice A1 l1.length c1] w fun e w' => ∃ v0_ : Value, e = .returned (.tuple #[v0_, .bool r2]) ∧ Kd.S k27 27 w' w.heap.size (fun _ => True) v0_ r1 ∧ Below w.heap.size w w' := by
 unfold spec_OrOf.f at h
 obtain ⟨t, ht, h⟩ := Option.bind_eq_some_iff.1 h
 have HT := Aside0.mk ht
 have HH := Aside0.mk h
 have HR0 := Aside0.mk hr0
 have HC0 := Aside0.mk hc0
 have HR1 := Aside0.mk hr1
 have HC1 := Aside0.mk hc1
 clear ht h hr0 hc0 hr1 hc1
 go_enter Try.func57, Try.ntmps57
 go_wp2_with (go_at_call 28;fail)
 refine (spec_OccsOk.calls k A0 c0 l0 t _ HR0.out HC0.out HT.out).mono ?_
 rintro e w1 ⟨rfl, hb⟩
 have HB := Aside0.mk hb
 clear hb
 cases t with
 | false =>
  go_wp2_with (first | ((with_reducible refine gate_dst (N := 14) rfl ?_);refine Kd.S_lit k27 _ 27 ?hg (N := 14) ?hd (xs := ([] : List (S27))) (inner := []) (ok := fun _ => True) (okp := fun _ => True) ?hr ?hp (fun _ hk => hk) trivial (Below.refl _ _) (Nat.le_refl _) (by simp) ?_;(case hd => rfl);(case hg => rfl);(case hr => first | (go_simp;done) | (go_simp;rfl));(case hp => exact (Reps.none _ _));intro v13 wl hol hb hg_ hnew_;clear hg_ hnew_;have HS := Aside0.mk (Kd.S_lower hol HB.out.size);have n0_ := Aside0.mk (below_step HB.out hb);clear HB hol hb;have HB := n0_;clear n0_))
  go_ret2
  have h1 : ([], false) = (r1, r2) := Option.some.inj HH.out
  simp only [Prod.mk.injEq] at h1
  obtain ⟨rfl, rfl⟩ := h1
  exact ⟨_, rfl, HS.out, HB.out⟩
 | true =>
  obtain ⟨u, hu, h⟩ := Option.bind_eq_some_iff.1 (show ((spec_OccsOk.f k l1).bind fun u => (if u = true then (spec_l3List.f k l0).bind fun l => (spec_l4Merge.f k l l1).bind fun m => spec_l4Told.f k m else some ([], false))) = some (r1, r2) from by have := HH.out;rw [if_pos rfl] at this;exact this)
  have HU := Aside0.mk hu
  clear HH
  have HH := Aside0.mk h
  clear hu h
  go_wp2_with (go_at_call 28;fail)
  refine (spec_OccsOk.calls k A1 c1 l1 u _ (Kd.C_below HR1.out HB.out) HC1.out HU.out).mono ?_
  rintro e w2 ⟨rfl, hb⟩
  have n0_ := Aside0.mk (below_step HB.out hb)
  clear HB hb
  have HB := n0_
  clear n0_
  cases u with
  | false =>
   go_wp2_with (first | ((with_reducible refine gate_dst (N := 14) rfl ?_);refine Kd.S_lit k27 _ 27 ?hg (N := 14) ?hd (xs := ([] : List (S27))) (inner := []) (ok := fun _ => True) (okp := fun _ => True) ?hr ?hp (fun _ hk => hk) trivial (Below.refl _ _) (Nat.le_refl _) (by simp) ?_;(case hd => rfl);(case hg => rfl);(case hr => first | (go_simp;done) | (go_simp;rfl));(case hp => exact (Reps.none _ _));intro v13 wl hol hb hg_ hnew_;clear hg_ hnew_;have HS := Aside0.mk (Kd.S_lower hol HB.out.size);have n0_ := Aside0.mk (below_step HB.out hb);clear HB hol hb;have HB := n0_;clear n0_))
   go_ret2
   have h1 : ([], false) = (r1, r2) := Option.some.inj HH.out
   simp only [Prod.mk.injEq] at h1
   obtain ⟨rfl, rfl⟩ := h1
   exact ⟨_, rfl, HS.out, HB.out⟩
  | true =>
   obtain ⟨l, hl, h⟩ := Option.bind_eq_some_iff.1 (show ((spec_l3List.f k l0).bind fun l => (spec_l4Merge.f k l l1).bind fun m => spec_l4Told.f k m) = some (r1, r2) from by have := HH.out;rw [if_pos rfl] at this;exact this)
   obtain ⟨m, hm, h⟩ := Option.bind_eq_some_iff.1 h
   have HL := Aside0.mk hl
   have HM := Aside0.mk hm
   have HF := Aside0.mk h
   clear hl hm h
   go_wp2_with (go_at_call 83;fail)
   refine (spec_l3List.calls k A0 c0 l0 l _ (Kd.C_below HR0.out HB.out) HC0.out HL.out).mono ?_
   rintro e w3 ⟨v3, rfl, hs, hb⟩
   have HS := Aside0.mk (Kd.S_lower hs HB.out.size)
   have n0_ := Aside0.mk (below_step HB.out hb)
   clear HB hs hb
   have HB := n0_
   clear n0_
   go_wp2_with (go_at_call 87;fail)
   refine (spec_l4Merge.calls k v3 l A1 c1 l1 m w w3 HB.out HS.out HR1.out HC1.out HM.out).mono ?_
   rintro e w4 ⟨v4, rfl, hs, hb⟩
   clear HS HB
   have HB := Aside0.mk hb
   obtain ⟨A4, c4, e4, hl4, hr4⟩ := Kd.S_reads hs
   subst e4
   have HR4 := Aside0.mk hr4
   have HC4 := Aside0.mk hl4
   clear hs hb hl4 hr4
   go_wp2_with (go_at_call 86;fail)
   refine (spec_l4Told.calls k A4 c4 m r1 r2 w4 HR4.out HC4.out HF.out).mono ?_
   rintro e w5 ⟨v5, rfl, hs, hb⟩
   have HS := Aside0.mk (Kd.S_lower hs HB.out.size)
   have n0_ := Aside0.mk (below_step HB.out hb)
   clear HB hs hb
   have HB := n0_
   clear n0_
   go_wp2
   go_ret2
   exact ⟨_, rfl, HS.out, HB.out⟩

end Go.Proofs.Ytiplpckgmikmeaa.M
namespace Go.Proofs.Ytiplpckgmikmeaa.M
open Go.RowKit Go.Proofs.YtiplpckgmikmeaaW.PrintWords Go.Proofs.YtiplpckgmikmeaaW.PrintLast Go.Proofs.YtiplpckgmikmeaaW.PrintMore
attribute [local go_sem] max2_int min2_int max_two min_two max_three min_three max_four min_four
set_option linter.unusedVariables false
set_option linter.unusedSimpArgs false

def impl_few.f (k : Nat) (l0 : List (S27)) : Option ((List (S27)) × Bool) := if (l0.length : Int) > 40 then (some (([] : List (S27)), false)) else ((impl_cloneOccs.f k l0).bind fun t101 => (some (t101, true)))
theorem impl_few.mono : ∀ a0 k, LeO (impl_few.f k a0) (impl_few.f (k + 1) a0) := by
 intro a0 k
 unfold impl_few.f
 repeat' first
   | (with_reducible exact impl_cloneOccs.mono _ _)
   | (with_reducible exact LeO.refl _)
   | (with_reducible exact LeO.none _)
   | (with_reducible refine LeO.ite ?_ ?_)
   | (with_reducible refine LeO.bind ?_ (fun _ => ?_))
   | exact impl_cloneOccs.mono _ _
   | exact LeO.none _
   | refine LeO.ite ?_ ?_
   | refine LeO.bind ?_ (fun _ => ?_)
set_option maxHeartbeats 8000000 in
set_option maxRecDepth 100000 in
theorem impl_few.calls (k : Nat) (A0 : Option Addr) (c0 : Nat) (l0 : List (S27)) (r1 : List (S27)) (r2 : Bool) (w : World) (hr0 : Kd.C k27 w A0 l0.length l0) (hc0 : l0.length ≤ c0) (h : impl_few.f k l0 = some (r1, r2)) :
  Calls Try.prog 88 #[.slice A0 l0.length c0] w fun e w' => ∃ v0_ : Value, e = .returned (.tuple #[v0_, .bool r2]) ∧ Kd.S k27 27 w' w.heap.size (fun _ => True) v0_ r1 ∧ Below w.heap.size w w' := by
 have HR0 := Aside0.mk hr0
 have HC0 := Aside0.mk hc0
 clear hr0 hc0
 have HB := Aside0.mk (Below.refl w.heap.size w)
 have H : (if (l0.length : Int) > 40 then (some (([] : List (S27)), false)) else ((impl_cloneOccs.f k l0).bind fun t101 => (some (t101, true)))) = some (r1, r2) := h
 clear h
 by_cases c2 : (l0.length : Int) > 40
 ·rw [if_pos c2] at H
  have c2b0 : decide (40 < (l0.length : Int)) = true := decide_eq_true c2
  have c2b1 : decide (40 < l0.length) = true := decide_eq_true (by omega)
  clear c2
  simp only [Option.some.injEq, Prod.mk.injEq] at H
  obtain ⟨rfl, rfl⟩ := H
  go_enter Try.func88, Try.ntmps88
  go_wp2
  go_ret2
  exact ⟨_, by first | rfl | (simp [errW_none, errW_some] <;> rfl) | (simp [*, errW_none, errW_some] <;> rfl), by first | exact Kd.S_nil _ _ _ _ _ | exact Kd.N_nil _ _ _ _ _ | exact Kd.V_nil _ _ _ _ _ | exact Kd.Q_nil _ _ _ _ _ | exact Kd.R_nil _ _ _ _ _, by repeat (first | (with_reducible first | exact HB.out | apply below_alloc | apply pw_below_drewN | apply below_drew1) | exact HB.out)⟩
 ·rw [if_neg c2] at H
  have c2b0 : decide (40 < (l0.length : Int)) = false := decide_eq_false c2
  have c2b1 : decide (40 < l0.length) = false := decide_eq_false (by omega)
  clear c2
  replace H := Option.bind_eq_some_iff.mp H
  obtain ⟨t101, A30, H⟩ := H
  replace H : (some (t101, true)) = some (r1, r2) := H
  have A3 := Aside0.mk A30
  clear A30
  simp only [Option.some.injEq, Prod.mk.injEq] at H
  obtain ⟨rfl, rfl⟩ := H
  go_enter Try.func88, Try.ntmps88
  go_wp2_with (first | ((with_reducible refine gate_callee (f := 84) rfl ?_);refine goesL_ (some 8) rfl rfl Try.func84 (by kernel_rfl) rfl #[.slice A0 l0.length c0] rfl (by (try simp only [List.map_toArray, List.map_cons, List.map_nil]);first | done | rfl | (simp only [List.length_drop, List.length_take];rfl)) ?_;(with_reducible refine (impl_cloneOccs.calls k _ _ l0 t101 _ ?side1 ?side2 A3.out).mono ?_);(case side1 => repeat (first | exact HR0.out | (with_reducible refine Kd.C_alloc ?_ _) | (with_reducible refine Kd.C_drewN ?_ _) | (with_reducible refine Kd.C_drew ?_)));(case side2 => exact HC0.out);rintro e w4 ⟨v102, rfl, ho0, hb⟩;refine ⟨_, rfl, ?_⟩;have HO103 := Aside0.mk (Kd.S_lower ho0 (below_size (by exact HB.out)));replace HB := Aside0.mk (below_step (by exact HB.out) hb);(try clear hb);(try clear hb2);(try clear hk);(try clear hi);(try clear ho0)))
  go_ret2
  exact ⟨_, by first | rfl | (simp [errW_none, errW_some] <;> rfl) | (simp [*, errW_none, errW_some] <;> rfl), by (with_reducible repeat (first | apply Kd.S_alloc | apply Kd.S_drewN | apply Kd.S_drew));exact HO103.out, by repeat (first | (with_reducible first | exact HB.out | apply below_alloc | apply pw_below_drewN | apply below_drew1) | exact HB.out)⟩

end Go.Proofs.Ytiplpckgmikmeaa.M
namespace Go.Proofs.Ytiplpckgmikmeaa.M
open Go.RowKit Go.Proofs.YtiplpckgmikmeaaW.PrintWords Go.Proofs.YtiplpckgmikmeaaW.PrintLast Go.Proofs.YtiplpckgmikmeaaW.PrintMore
attribute [local go_sem] max2_int min2_int max_two min_two max_three min_three max_four min_four
set_option linter.unusedVariables false
set_option linter.unusedSimpArgs false

def impl_OrOf.f (k : Nat) (l0 l1 : List (S27)) : Option (List (S27) × Bool) := (impl_OccsOk.f k l0).bind fun t => if t = true then (impl_OccsOk.f k l1).bind fun u => (if u = true then (impl_putAll.f k l0 l1).bind fun m => impl_few.f k m else some ([], false)) else some ([], false)
theorem impl_OrOf.mono : ∀ a0 a1 k, LeO (impl_OrOf.f k a0 a1) (impl_OrOf.f (k + 1) a0 a1) := by
 intro a0 a1 k
 unfold impl_OrOf.f
 exact LeO.bind (impl_OccsOk.mono _ k) (fun _ => LeO.ite (LeO.bind (impl_OccsOk.mono _ k) (fun _ => LeO.ite (LeO.bind (impl_putAll.mono _ _ k) (fun _ => impl_few.mono _ k)) (LeO.refl _))) (LeO.refl _))
set_option maxHeartbeats 4000000 in
set_option maxRecDepth 100000 in
theorem impl_OrOf.calls (k : Nat) (A0 : Option Addr) (c0 : Nat) (l0 : List (S27)) (A1 : Option Addr) (c1 : Nat) (l1 : List (S27)) (r1 : List (S27)) (r2 : Bool) (w : World) (hr0 : Kd.C k27 w A0 l0.length l0) (hc0 : l0.length ≤ c0) (hr1 : Kd.C k27 w A1 l1.length l1) (hc1 : l1.length ≤ c1) (h : impl_OrOf.f k l0 l1 = some (r1, r2)) :
  Calls Try.prog 58 #[.slice A0 l0.length c0, .slice A1 l1.length c1] w fun e w' => ∃ v0_ : Value, e = .returned (.tuple #[v0_, .bool r2]) ∧ Kd.S k27 27 w' w.heap.size (fun _ => True) v0_ r1 ∧ Below w.heap.size w w' := by
 unfold impl_OrOf.f at h
 obtain ⟨t, ht, h⟩ := Option.bind_eq_some_iff.1 h
 have HT := Aside0.mk ht
 have HH := Aside0.mk h
 have HR0 := Aside0.mk hr0
 have HC0 := Aside0.mk hc0
 have HR1 := Aside0.mk hr1
 have HC1 := Aside0.mk hc1
 have HB := Aside0.mk (Below.refl w.heap.size w)
 clear ht h hr0 hc0 hr1 hc1
 go_enter Try.func58, Try.ntmps58
 go_wp2_with (go_at_call 29;fail)
 refine (impl_OccsOk.calls k A0 c0 l0 t _ (Kd.C_below HR0.out HB.out) HC0.out HT.out).mono ?_
 rintro e w' ⟨rfl, hb⟩
 have n0_ := Aside0.mk (below_step HB.out hb)
 clear HB hb
 have HB := n0_
 clear n0_
 cases t with
 | false =>
  go_wp2
  go_ret2
  have h1 : (([] : List S27), false) = (r1, r2) := Option.some.inj HH.out
  simp only [Prod.mk.injEq] at h1
  obtain ⟨rfl, rfl⟩ := h1
  exact ⟨_, rfl, Kd.S_nil _ _ _ _ _, HB.out⟩
 | true =>
  obtain ⟨u, hu, h⟩ := Option.bind_eq_some_iff.1 (show ((impl_OccsOk.f k l1).bind fun u => (if u = true then (impl_putAll.f k l0 l1).bind fun m => impl_few.f k m else some ([], false))) = some (r1, r2) from by have := HH.out;rw [if_pos rfl] at this;exact this)
  have HU := Aside0.mk hu
  clear HH
  have HH := Aside0.mk h
  clear hu h
  go_wp2_with (go_at_call 29;fail)
  refine (impl_OccsOk.calls k A1 c1 l1 u _ (Kd.C_below HR1.out HB.out) HC1.out HU.out).mono ?_
  rintro e w' ⟨rfl, hb⟩
  have n0_ := Aside0.mk (below_step HB.out hb)
  clear HB hb
  have HB := n0_
  clear n0_
  cases u with
  | false =>
   go_wp2
   go_ret2
   have h1 : (([] : List S27), false) = (r1, r2) := Option.some.inj HH.out
   simp only [Prod.mk.injEq] at h1
   obtain ⟨rfl, rfl⟩ := h1
   exact ⟨_, rfl, Kd.S_nil _ _ _ _ _, HB.out⟩
  | true =>
   obtain ⟨m, hm, hp⟩ := Option.bind_eq_some_iff.1 (show ((impl_putAll.f k l0 l1).bind fun m => impl_few.f k m) = some (r1, r2) from by have := HH.out;rw [if_pos rfl] at this;exact this)
   have HM := Aside0.mk hm
   have HP := Aside0.mk hp
   clear hm hp
   go_wp2_with (go_at_call 89;fail)
   refine (impl_putAll.calls k A0 c0 l0 A1 c1 l1 m _ (Kd.C_below HR0.out HB.out) HC0.out (Kd.C_below HR1.out HB.out) HC1.out HM.out).mono ?_
   rintro e w4 ⟨A4, c4, rfl, hl4, hr4, hb⟩
   have HL4 := Aside0.mk hl4
   have HR4 := Aside0.mk hr4
   clear hl4 hr4
   have n0_ := Aside0.mk (below_step HB.out hb)
   clear HB hb
   have HB := n0_
   clear n0_
   go_wp2_with (go_at_call 88;fail)
   refine (impl_few.calls k A4 c4 m r1 r2 _ HR4.out HL4.out HP.out).mono ?_
   rintro e w5 ⟨v5, rfl, hs, hb⟩
   have HS := Aside0.mk (Kd.S_lower hs HB.out.size)
   clear hs
   have n0_ := Aside0.mk (below_step HB.out hb)
   clear HB hb
   have HB := n0_
   clear n0_
   go_wp2
   go_ret2
   exact ⟨_, rfl, HS.out, HB.out⟩

end Go.Proofs.Ytiplpckgmikmeaa.M
namespace Go.Proofs.Ytiplpckgmikmeaa.M
open Go.RowKit Go.Proofs.YtiplpckgmikmeaaW.PrintWords Go.Proofs.YtiplpckgmikmeaaW.PrintLast Go.Proofs.YtiplpckgmikmeaaW.PrintMore
attribute [local go_sem] max2_int min2_int max_two min_two max_three min_three max_four min_four
set_option linter.unusedVariables false
set_option linter.unusedSimpArgs false

def spec_l4Draw.f (k : Nat) (s0_0 : List Int) (s0_1 : Int) : Option (Int × Int) := (spec_l14Rd_num.f k s0_0 s0_1 (([0, 1, 2, 3, 4, 0, 1, 2, 3, 4, 0, 1, 2, 3, 4, (-1), 5] : List Int))).bind fun bt104 => (some (bt104.1, bt104.2))
theorem spec_l4Draw.mono : ∀ a0 a1 k, LeO (spec_l4Draw.f k a0 a1) (spec_l4Draw.f (k + 1) a0 a1) := by
 intro a0 a1 k
 unfold spec_l4Draw.f
 repeat' first
   | (with_reducible exact spec_l14Rd_num.mono _ _ _ _)
   | (with_reducible exact LeO.refl _)
   | (with_reducible exact LeO.none _)
   | (with_reducible refine LeO.ite ?_ ?_)
   | (with_reducible refine LeO.bind ?_ (fun _ => ?_))
   | exact spec_l14Rd_num.mono _ _ _ _
   | exact LeO.none _
   | refine LeO.ite ?_ ?_
   | refine LeO.bind ?_ (fun _ => ?_)
set_option maxHeartbeats 8000000 in
set_option maxRecDepth 100000 in
theorem spec_l4Draw.calls (k : Nat) (g : Nat) (s0_0 : List Int) (s0_1 : Int) (r1 : Int) (r2 : Int) (w0 w : World) (hI : IsS100 w0 w g s0_0 s0_1) (hB : Below w0.heap.size w0 w) (h : spec_l4Draw.f k s0_0 s0_1 = some (r1, r2)) :
  Calls Try.prog 108 #[.pointer (some ⟨g, 0, none⟩)] w fun e w' => e = .returned (.int .i64 r1) ∧ IsS100 w0 w' g s0_0 r2 ∧ Below w0.heap.size w0 w' ∧ KeepBut w w' g none := by
 have HI0 := Aside0.mk hI
 have HK := Aside0.mk (KeepBut.refl w g none)
 have HL := Aside0.mk hB.size
 clear hI
 have HW0 := Aside0.mk hB.size
 have HB := Aside0.mk hB
 clear hB
 have H : ((spec_l14Rd_num.f k s0_0 s0_1 (([0, 1, 2, 3, 4, 0, 1, 2, 3, 4, 0, 1, 2, 3, 4, (-1), 5] : List Int))).bind fun bt104 => (some (bt104.1, bt104.2))) = some (r1, r2) := h
 clear h
 obtain ⟨y101, hy101⟩ : ∃ y_ : List Int, y_ = (([0, 1, 2, 3, 4, 0, 1, 2, 3, 4, 0, 1, 2, 3, 4, (-1), 5] : List Int)) := ⟨_, rfl⟩
 replace H : ((spec_l14Rd_num.f k s0_0 s0_1 y101).bind fun bt104 => (some (bt104.1, bt104.2))) = some (r1, r2) := by first | (rw [hy101];with_reducible exact H) | (have H2_ := (Option.bind_some _ _).symm.trans H;rw [hy101];with_reducible exact H2_) | (have H2_ := (Option.bind_some _ _).symm.trans H;with_reducible exact H2_) | with_reducible exact H | (rw [hy101];exact H) | exact H
 have Ny101 := Aside0.mk hy101
 clear hy101
 replace H := Option.bind_eq_some_iff.mp H
 obtain ⟨⟨t104, t105⟩, A20, H⟩ := H
 replace H : (some (t104, t105)) = some (r1, r2) := H
 have A2 := Aside0.mk A20
 clear A20
 simp only [Option.some.injEq, Prod.mk.injEq] at H
 obtain ⟨rfl, rfl⟩ := H
 go_enter Try.func108, Try.ntmps108
 go_wp2_with (first | ((with_reducible refine gate_dst (N := 4) rfl ?_);refine Kd.R_lit (Kd.int .i64) _ 3 ?hg (N := 4) ?hd (xs := ([0, 1, 2, 3, 4, 0, 1, 2, 3, 4, 0, 1, 2, 3, 4, (-1), 5] : List Int)) (inner := [.int .i64 0, .int .i64 1, .int .i64 2, .int .i64 3, .int .i64 4, .int .i64 0, .int .i64 1, .int .i64 2, .int .i64 3, .int .i64 4, .int .i64 0, .int .i64 1, .int .i64 2, .int .i64 3, .int .i64 4, .int .i64 (-1), .int .i64 5]) (ok := fun _ => True) (okp := fun _ => True) ?hr ?hp (fun _ hk => hk) trivial (Below.refl _ _) (Nat.le_refl _) (by simp) ?_;(case hd => rfl);(case hg => rfl);(case hr => first | (go_simp;done) | (go_simp;rfl));(case hp => exact (Reps.one (show Kd.M (Kd.int .i64) _ _ _ 0 [.int .i64 0] from rfl) (Reps.one (show Kd.M (Kd.int .i64) _ _ _ 1 [.int .i64 1] from rfl) (Reps.one (show Kd.M (Kd.int .i64) _ _ _ 2 [.int .i64 2] from rfl) (Reps.one (show Kd.M (Kd.int .i64) _ _ _ 3 [.int .i64 3] from rfl) (Reps.one (show Kd.M (Kd.int .i64) _ _ _ 4 [.int .i64 4] from rfl) (Reps.one (show Kd.M (Kd.int .i64) _ _ _ 0 [.int .i64 0] from rfl) (Reps.one (show Kd.M (Kd.int .i64) _ _ _ 1 [.int .i64 1] from rfl) (Reps.one (show Kd.M (Kd.int .i64) _ _ _ 2 [.int .i64 2] from rfl) (Reps.one (show Kd.M (Kd.int .i64) _ _ _ 3 [.int .i64 3] from rfl) (Reps.one (show Kd.M (Kd.int .i64) _ _ _ 4 [.int .i64 4] from rfl) (Reps.one (show Kd.M (Kd.int .i64) _ _ _ 0 [.int .i64 0] from rfl) (Reps.one (show Kd.M (Kd.int .i64) _ _ _ 1 [.int .i64 1] from rfl) (Reps.one (show Kd.M (Kd.int .i64) _ _ _ 2 [.int .i64 2] from rfl) (Reps.one (show Kd.M (Kd.int .i64) _ _ _ 3 [.int .i64 3] from rfl) (Reps.one (show Kd.M (Kd.int .i64) _ _ _ 4 [.int .i64 4] from rfl) (Reps.one (show Kd.M (Kd.int .i64) _ _ _ (-1) [.int .i64 (-1)] from rfl) (Reps.one (show Kd.M (Kd.int .i64) _ _ _ 5 [.int .i64 5] from rfl) (Reps.none _ _)))))))))))))))))));intro v102 w3 ho4 hb hg_ hnew_;clear hg_ hnew_;(first | rw [← Ny101.out] at ho4 | (simp only [Int.reduceToNat] at ho4;rw [← Ny101.out] at ho4));have HO103 := Aside0.mk (Kd.R_lower ho4 (keep_size (w := w) (g := g) (row := none) (by repeat (first | (with_reducible first | exact HK.out | apply KeepBut.set_ | apply keep_drewN | apply keep_drew | apply keep_alloc) | exact HK.out))));replace HK := Aside0.mk (KeepBut.trans (by repeat (first | (with_reducible first | exact HK.out | apply KeepBut.set_ | apply keep_drewN | apply keep_drew | apply keep_alloc) | exact HK.out)) (KeepBut.of_below hb g none) (.inl rfl));replace HB := Aside0.mk (below_step (by repeat (first | (with_reducible first | exact HB.out | apply below_alloc | apply pw_below_drewN | apply below_drew1 | refine below_set ?_ (IsS100.ge HI0.out)) | exact HB.out)) hb);replace HI0 := Aside0.mk (IsS100.below (by repeat (first | (with_reducible first | exact HI0.out | apply IsS100.alloc | apply IsS100.drewN | apply IsS100.drew | apply IsS100.set_1) | exact HI0.out)) hb);clear hb ho4;obtain ⟨Ao5, co5, eo5⟩ := Kd.R_slice HO103.out;subst eo5) | ((with_reducible refine gate_callee (f := 91) rfl ?_);refine goesL_ (some 5) rfl rfl Try.func91 (by kernel_rfl) rfl #[.pointer (some ⟨g, 0, none⟩), .slice Ao5 y101.length co5] rfl (by (try simp only [List.map_toArray, List.map_cons, List.map_nil]);first | done | rfl | (simp only [List.length_drop, List.length_take];rfl)) ?_;(with_reducible refine (spec_l14Rd_num.calls k g s0_0 s0_1 _ _ y101 t104 t105 w0 _ ?side1 ?side2 ?side3 ?side4 ?side5 A2.out).mono ?_);(case side1 => repeat (first | (with_reducible first | exact HI0.out | apply IsS100.alloc | apply IsS100.drewN | apply IsS100.drew | apply IsS100.set_1) | exact HI0.out));(case side2 => repeat (first | (with_reducible first | exact HB.out | apply below_alloc | apply pw_below_drewN | apply below_drew1 | refine below_set ?_ (IsS100.ge HI0.out)) | exact HB.out));(case side3 => repeat (first | exact (Kd.R_reads' HO103.out).2.2 | (with_reducible refine Kd.C_alloc ?_ _) | (with_reducible refine Kd.C_drewN ?_ _) | (with_reducible refine Kd.C_drew ?_)));(case side4 => exact (Kd.R_reads' HO103.out).2.1);(case side5 => exact far_slice (IsS100.own_ne HI0.out HO103.out (by decide)));rintro e w6 ⟨rfl, hi, hb, hk⟩;refine ⟨_, rfl, ?_⟩;replace HO103 := Aside0.mk (Kd.R_mono (Kd.R_keep (IsS100.apart (show IsS100 w0 _ g s0_0 s0_1 from by repeat (first | (with_reducible first | exact HI0.out | apply IsS100.alloc | apply IsS100.drewN | apply IsS100.drew | apply IsS100.set_1) | exact HI0.out)) (by exact HO103.out) (by decide)) hk (fun _ h => h.2)) (fun _ h => h.1));replace HK := Aside0.mk (KeepBut.trans (by repeat (first | (with_reducible first | exact HK.out | apply KeepBut.set_ | apply keep_drewN | apply keep_drew | apply keep_alloc) | exact HK.out)) hk (.inl rfl));replace HB := Aside0.mk (hb);replace HI0 := Aside0.mk (hi);(try clear hb);(try clear hb2);(try clear hk);(try clear hi)))
 go_ret
 exact ⟨by first | rfl | (simp [errW_none, errW_some] <;> rfl) | (simp [*, errW_none, errW_some] <;> rfl), by repeat (first | (with_reducible first | exact HI0.out | apply IsS100.alloc | apply IsS100.drewN | apply IsS100.drew | apply IsS100.set_1) | exact HI0.out), by repeat (first | (with_reducible first | exact HB.out | apply below_alloc | apply pw_below_drewN | apply below_drew1 | refine below_set ?_ (IsS100.ge HI0.out)) | exact HB.out), by repeat (first | (with_reducible first | exact HK.out | apply KeepBut.set_ | apply keep_drewN | apply keep_drew | apply keep_alloc) | exact HK.out)⟩

end Go.Proofs.Ytiplpckgmikmeaa.M
namespace Go.Proofs.Ytiplpckgmikmeaa.M
open Go.RowKit Go.Proofs.YtiplpckgmikmeaaW.PrintWords Go.Proofs.YtiplpckgmikmeaaW.PrintLast Go.Proofs.YtiplpckgmikmeaaW.PrintMore
attribute [local go_sem] max2_int min2_int max_two min_two max_three min_three max_four min_four
set_option linter.unusedVariables false
set_option linter.unusedSimpArgs false

def spec_l3Some.l0 : Nat → List Int → Int → List S27 → Int → Option (List S27 × Int)
 | 0, _, _, _, _ => none
 | k + 1, s0, i, out, s1 => if i > 0 then (spec_l3Any.f k s0 s1).bind fun t => (spec_l3Put.f k out t.1 t.2.1 t.2.2.1).bind fun out2 => spec_l3Some.l0 k s0 (wrap64 (i - 1)) out2 t.2.2.2 else some (out, s1)
def spec_l3Some.f (k : Nat) (s0_0 : List Int) (s0_1 : Int) (a1 : Int) : Option (List S27 × Int) := (spec_l14Rd_pick.f k s0_0 s0_1 (wrap64 (a1 + 1))).bind fun t => spec_l3Some.l0 k s0_0 t.1 [] t.2
theorem spec_l3Some.mono_l : ∀ k s0 i out s1, LeO (spec_l3Some.l0 k s0 i out s1) (spec_l3Some.l0 (k + 1) s0 i out s1)
 | 0, _, _, _, _ => fun r h => by simp [spec_l3Some.l0] at h
 | k + 1, s0, i, out, s1 => by
  unfold spec_l3Some.l0
  exact LeO.ite (LeO.bind (spec_l3Any.mono _ _ k) (fun _ => LeO.bind (spec_l3Put.mono _ _ _ _ k) (fun _ => spec_l3Some.mono_l k _ _ _ _))) (LeO.refl _)
theorem spec_l3Some.mono : ∀ a0 a1 a2 k, LeO (spec_l3Some.f k a0 a1 a2) (spec_l3Some.f (k + 1) a0 a1 a2) := by
 intro a0 a1 a2 k
 unfold spec_l3Some.f
 exact LeO.bind (spec_l14Rd_pick.mono _ _ _ k) (fun _ => spec_l3Some.mono_l k _ _ _ _)
set_option maxHeartbeats 4000000 in
set_option maxRecDepth 100000 in
theorem spec_l3Some.calls (k : Nat) (g : Nat) (s0_0 : List Int) (s0_1 : Int) (a1 : Int) (r1 : List (S27)) (r2 : Int) (w0 w : World) (hI : IsS100 w0 w g s0_0 s0_1) (hB : Below w0.heap.size w0 w) (h : spec_l3Some.f k s0_0 s0_1 a1 = some (r1, r2)) :
  Calls Try.prog 96 #[.pointer (some ⟨g, 0, none⟩), .int .i64 a1] w fun e w' => ∃ v0_ : Value, e = .returned (v0_) ∧ Kd.S k27 27 w' w.heap.size (fun _ => True) v0_ r1 ∧ IsS100 w0 w' g s0_0 r2 ∧ Below w0.heap.size w0 w' ∧ KeepBut w w' g none := by
 unfold spec_l3Some.f at h
 obtain ⟨⟨n, s1⟩, hp, h⟩ := Option.bind_eq_some_iff.1 h
 have HP := Aside0.mk hp
 have HH := Aside0.mk h
 have HGW := Aside0.mk hI.lt
 have HWW := Aside0.mk hB.size
 have HI := Aside0.mk hI
 have HB0 := Aside0.mk hB
 clear hp h hI hB
 go_enter Try.func96, Try.ntmps96
 go_wp2_with (first
  | ((with_reducible refine gate_dst (N := 7) rfl ?_);refine Kd.S_lit k27 _ 27 ?hg (N := 7) ?hd (xs := ([] : List (S27))) (inner := []) (ok := fun k_ => w.heap.size ≤ k_) (okp := fun _ => False) ?hr ?hp (fun _ h => h.elim) (Nat.le_refl _) (Below.refl _ _) (Nat.le_refl _) (by simp) ?_;(case hd => rfl);(case hg => rfl);(case hr => first | (go_simp;done) | (go_simp;rfl));(case hp => exact (Reps.none _ _));intro v7 wl hol hb hg_ hnew_;clear hg_ hnew_)
  | (go_at_call 74;fail))
 have n0_ := Aside0.mk (IsS100.below HI.out hb)
 have n1_ := Aside0.mk (below_step HB0.out hb)
 have HS := Aside0.mk hol
 have HBL := Aside0.mk hb
 clear HI HB0 hol hb
 have HI := n0_
 have HB0 := n1_
 clear n0_ n1_
 refine (spec_l14Rd_pick.calls k g s0_0 s0_1 (wrap64 (a1 + 1)) n s1 w0 wl HI.out HB0.out HP.out).mono ?_
 rintro e w2 ⟨rfl, hi, hb0, hk⟩
 have n0_ := Aside0.mk (Kd.S_keep HS.out hk (fun k_ h_ e_ => by have := HGW.out;have h_' : w.heap.size ≤ k_ := h_;omega))
 have n1_ := Aside0.mk hi
 have n2_ := Aside0.mk hb0
 have n3_ := Aside0.mk (show KeepBut w w2 g none from ⟨Nat.le_trans HBL.out.size hk.1, fun i h1 h2 h3 => (hk.2 i (Nat.lt_of_lt_of_le h1 HBL.out.size) h2 h3).trans (HBL.out.block i h1)⟩)
 clear HI HB0 HS HBL hi hb0 hk HP
 have HS := n0_
 have HI := n1_
 have HB0 := n2_
 have HK := n3_
 clear n0_ n1_ n2_ n3_
 go_wp2
 go_loopg [5, 6] k (fun kq v5 v6 w' => ∃ (out : List S27) (i s1 : Int), v6 = .int .i64 i ∧ Aside0 (spec_l3Some.l0 kq s0_0 i out s1 = some (r1, r2)) ∧ Aside0 (kq ≤ k) ∧ Aside0 (Kd.S k27 27 w' w.heap.size (fun k_ => w.heap.size ≤ k_) v5 out) ∧ Aside0 (IsS100 w0 w' g s0_0 s1) ∧ Aside0 (Below w0.heap.size w0 w') ∧ Aside0 (KeepBut w w' g none))
 case atStart => exact ⟨[], n, s1, rfl, HH, ⟨Nat.le_refl _⟩, HS, HI, HB0, HK⟩
 case round =>
  clear HS HI HB0 HK HH
  obtain ⟨out, i, s2, rfl, HA, HK1, HS, HI, HB0, HK⟩ := hrel
  cases gk with
  | zero => exact absurd HA.out (by simp [spec_l3Some.l0])
  | succ k1 =>
   have H := HA.out
   clear HA
   simp only [spec_l3Some.l0] at H
   by_cases c : i > 0
   ·rw [if_pos c] at H
    obtain ⟨⟨a, b, l, s3⟩, hA, H⟩ := Option.bind_eq_some_iff.1 H
    obtain ⟨out2, hP, H⟩ := Option.bind_eq_some_iff.1 H
    have HA := Aside0.mk hA
    have HP := Aside0.mk hP
    have HH := Aside0.mk H
    clear hA hP H
    go_wp2_with (go_at_call 73;fail)
    refine (spec_l3Any.calls k1 g s0_0 s2 a b l s3 w0 _ HI.out HB0.out HA.out).mono ?_
    rintro e w3 ⟨v2, rfl, hv, hi, hb0, hk⟩
    have n0_ := Aside0.mk (Kd.S_keep HS.out hk (fun k_ h_ e_ => by have := HGW.out;have h_' : w.heap.size ≤ k_ := h_;omega))
    have n1_ := Aside0.mk hi
    have n2_ := Aside0.mk hb0
    have n3_ := Aside0.mk (KeepBut.trans HK.out hk (.inl rfl))
    have HV := Aside0.mk hv
    have HWR := Aside0.mk hk.1
    have HWR0 := Aside0.mk HK.out.1
    clear HI HB0 HS HK hi hb0 hk HA hv
    have HS := n0_
    have HI := n1_
    have HB0 := n2_
    have HK := n3_
    clear n0_ n1_ n2_ n3_
    obtain ⟨Av, cv, ev⟩ := Kd.R_slice HV.out
    subst ev
    go_wp2_with (go_at_call 82;fail)
    refine (spec_l3Put.calls_base k1 (fun k_ => w.heap.size ≤ k_) _ out a b Av cv l out2 w.heap.size w3 w3 (Below.refl _ _) (Nat.le_trans HWR0.out HWR.out) HS.out ?_ ?_ HP.out).mono ?_
    ·exact (Kd.R_reads' HV.out).2.2
    ·have := Kd.R_reads' HV.out
     omega
    rintro e w4 ⟨v4, rfl, hs4, hb4, hk4⟩
    have n0_ := Aside0.mk (Kd.S_mono (ok' := fun k_ => w.heap.size ≤ k_) hs4 (fun k_ h_ => h_.elim (fun h => h) (fun h => Nat.le_trans (Nat.le_trans HWR0.out HWR.out) h)))
    have n1_ := Aside0.mk (IsS100.kept HI.out hk4 (fun h_ => by have := HGW.out;have h_' : w.heap.size ≤ g := h_;omega))
    have n2_ := Aside0.mk (below_weaken HB0.out HWW.out hb4)
    have n3_ := Aside0.mk (Kept.keep HK.out hk4 (fun _ h => h))
    clear HI HB0 HS HK hs4 hb4 hk4 HP HV HWR HWR0
    have HS := n0_
    have HI := n1_
    have HB0 := n2_
    have HK := n3_
    clear n0_ n1_ n2_ n3_
    go_wp2
    go_roundg k1
    case measure => have := HK1.out;omega
    case rel => exact ⟨out2, wrap64 (i - 1), s3, rfl, HH, ⟨by have := HK1.out;omega⟩, HS, HI, HB0, HK⟩
   ·rw [if_neg c] at H
    simp only [Option.some.injEq, Prod.mk.injEq] at H
    obtain ⟨rfl, rfl⟩ := H
    go_wp2
    go_ret
    exact ⟨_, rfl, Kd.S_mono HS.out (fun _ _ => trivial), HI.out, HB0.out, HK.out⟩

end Go.Proofs.Ytiplpckgmikmeaa.M
namespace Go.Proofs.Ytiplpckgmikmeaa.M
open Go.RowKit Go.Proofs.YtiplpckgmikmeaaW.PrintWords Go.Proofs.YtiplpckgmikmeaaW.PrintLast Go.Proofs.YtiplpckgmikmeaaW.PrintMore
attribute [local go_sem] max2_int min2_int max_two min_two max_three min_three max_four min_four
set_option linter.unusedVariables false
set_option linter.unusedSimpArgs false

def spec_r0Ids.f (k : Nat) (s0_0 : List Int) (s0_1 : Int) : Option (List Int × Int) := (spec_l14Rd_pick.f k s0_0 s0_1 3).bind fun bt101 => (if bt101.1 = 0 then (some ((([] : List Int)), bt101.2)) else (if bt101.1 = 1 then (some ((([2, 2] : List Int)), bt101.2)) else (some ((([24] : List Int)), bt101.2))))
theorem spec_r0Ids.mono : ∀ a0 a1 k, LeO (spec_r0Ids.f k a0 a1) (spec_r0Ids.f (k + 1) a0 a1) := by
 intro a0 a1 k
 unfold spec_r0Ids.f
 repeat' first
   | (with_reducible exact spec_l14Rd_pick.mono _ _ _ _)
   | (with_reducible exact LeO.refl _)
   | (with_reducible exact LeO.none _)
   | (with_reducible refine LeO.ite ?_ ?_)
   | (with_reducible refine LeO.bind ?_ (fun _ => ?_))
   | exact spec_l14Rd_pick.mono _ _ _ _
   | exact LeO.none _
   | refine LeO.ite ?_ ?_
   | refine LeO.bind ?_ (fun _ => ?_)
set_option maxHeartbeats 8000000 in
set_option maxRecDepth 100000 in
theorem spec_r0Ids.calls (k : Nat) (g : Nat) (s0_0 : List Int) (s0_1 : Int) (r1 : List Int) (r2 : Int) (w0 w : World) (hI : IsS100 w0 w g s0_0 s0_1) (hB : Below w0.heap.size w0 w) (h : spec_r0Ids.f k s0_0 s0_1 = some (r1, r2)) :
  Calls Try.prog 97 #[.pointer (some ⟨g, 0, none⟩)] w fun e w' => ∃ v0_ : Value, e = .returned (v0_) ∧ Kd.R (Kd.int .i64) 3 w' w.heap.size (fun _ => True) v0_ r1 ∧ IsS100 w0 w' g s0_0 r2 ∧ Below w0.heap.size w0 w' ∧ KeepBut w w' g none := by
 have HI0 := Aside0.mk hI
 have HK := Aside0.mk (KeepBut.refl w g none)
 have HL := Aside0.mk hB.size
 clear hI
 have HW0 := Aside0.mk hB.size
 have HB := Aside0.mk hB
 clear hB
 have H : ((spec_l14Rd_pick.f k s0_0 s0_1 3).bind fun bt101 => (if bt101.1 = 0 then (some ((([] : List Int)), bt101.2)) else (if bt101.1 = 1 then (some ((([2, 2] : List Int)), bt101.2)) else (some ((([24] : List Int)), bt101.2))))) = some (r1, r2) := h
 clear h
 replace H := Option.bind_eq_some_iff.mp H
 obtain ⟨⟨t101, t102⟩, A20, H⟩ := H
 replace H : (if t101 = 0 then (some ((([] : List Int)), t102)) else (if t101 = 1 then (some ((([2, 2] : List Int)), t102)) else (some ((([24] : List Int)), t102)))) = some (r1, r2) := H
 have A2 := Aside0.mk A20
 clear A20
 by_cases c3 : t101 = 0
 ·rw [if_pos c3] at H
  have c3b0 : (t101 == 0) = true := beq_iff_eq.mpr c3
  have c3b1 : (t101 != 0) = false := bne_eq_false_iff_eq.mpr c3
  clear c3
  obtain ⟨y103, hy103⟩ : ∃ y_ : List Int, y_ = (([] : List Int)) := ⟨_, rfl⟩
  replace H : (some (y103, t102)) = some (r1, r2) := by first | (rw [hy103];with_reducible exact H) | (have H2_ := (Option.bind_some _ _).symm.trans H;rw [hy103];with_reducible exact H2_) | (have H2_ := (Option.bind_some _ _).symm.trans H;with_reducible exact H2_) | with_reducible exact H | (rw [hy103];exact H) | exact H
  have Ny103 := Aside0.mk hy103
  clear hy103
  simp only [Option.some.injEq, Prod.mk.injEq] at H
  obtain ⟨rfl, rfl⟩ := H
  go_enter Try.func97, Try.ntmps97
  go_wp2_with (first | ((with_reducible refine gate_callee (f := 74) rfl ?_);refine goesL_ (some 4) rfl rfl Try.func74 (by kernel_rfl) rfl #[.pointer (some ⟨g, 0, none⟩), .int .i64 3] rfl (by (try simp only [List.map_toArray, List.map_cons, List.map_nil]);first | done | rfl | (simp only [List.length_drop, List.length_take];rfl)) ?_;(with_reducible refine (spec_l14Rd_pick.calls k g s0_0 s0_1 3 t101 t102 w0 _ ?side1 ?side2 A2.out).mono ?_);(case side1 => repeat (first | (with_reducible first | exact HI0.out | apply IsS100.alloc | apply IsS100.drewN | apply IsS100.drew | apply IsS100.set_1) | exact HI0.out));(case side2 => repeat (first | (with_reducible first | exact HB.out | apply below_alloc | apply pw_below_drewN | apply below_drew1 | refine below_set ?_ (IsS100.ge HI0.out)) | exact HB.out));rintro e w4 ⟨rfl, hi, hb, hk⟩;refine ⟨_, rfl, ?_⟩;replace HK := Aside0.mk (KeepBut.trans (by repeat (first | (with_reducible first | exact HK.out | apply KeepBut.set_ | apply keep_drewN | apply keep_drew | apply keep_alloc) | exact HK.out)) hk (.inl rfl));replace HB := Aside0.mk (hb);replace HI0 := Aside0.mk (hi);(try clear hb);(try clear hb2);(try clear hk);(try clear hi)) | ((with_reducible refine gate_dst (N := 7) rfl ?_);refine Kd.R_lit (Kd.int .i64) _ 3 ?hg (N := 7) ?hd (xs := ([] : List Int)) (inner := []) (ok := fun _ => True) (okp := fun _ => True) ?hr ?hp (fun _ hk => hk) trivial (Below.refl _ _) (Nat.le_refl _) (by simp) ?_;(case hd => rfl);(case hg => rfl);(case hr => first | (go_simp;done) | (go_simp;rfl));(case hp => exact (Reps.none _ _));intro v104 w5 ho6 hb hg_ hnew_;clear hg_ hnew_;(first | rw [← Ny103.out] at ho6 | (simp only [Int.reduceToNat] at ho6;rw [← Ny103.out] at ho6));have HO105 := Aside0.mk (Kd.R_lower ho6 (keep_size (w := w) (g := g) (row := none) (by repeat (first | (with_reducible first | exact HK.out | apply KeepBut.set_ | apply keep_drewN | apply keep_drew | apply keep_alloc) | exact HK.out))));replace HK := Aside0.mk (KeepBut.trans (by repeat (first | (with_reducible first | exact HK.out | apply KeepBut.set_ | apply keep_drewN | apply keep_drew | apply keep_alloc) | exact HK.out)) (KeepBut.of_below hb g none) (.inl rfl));replace HB := Aside0.mk (below_step (by repeat (first | (with_reducible first | exact HB.out | apply below_alloc | apply pw_below_drewN | apply below_drew1 | refine below_set ?_ (IsS100.ge HI0.out)) | exact HB.out)) hb);replace HI0 := Aside0.mk (IsS100.below (by repeat (first | (with_reducible first | exact HI0.out | apply IsS100.alloc | apply IsS100.drewN | apply IsS100.drew | apply IsS100.set_1) | exact HI0.out)) hb);clear hb ho6))
  go_ret
  exact ⟨_, by first | rfl | (simp [errW_none, errW_some] <;> rfl) | (simp [*, errW_none, errW_some] <;> rfl), by (with_reducible repeat (first | apply Kd.R_alloc | apply Kd.R_drewN | apply Kd.R_drew));exact HO105.out, by repeat (first | (with_reducible first | exact HI0.out | apply IsS100.alloc | apply IsS100.drewN | apply IsS100.drew | apply IsS100.set_1) | exact HI0.out), by repeat (first | (with_reducible first | exact HB.out | apply below_alloc | apply pw_below_drewN | apply below_drew1 | refine below_set ?_ (IsS100.ge HI0.out)) | exact HB.out), by repeat (first | (with_reducible first | exact HK.out | apply KeepBut.set_ | apply keep_drewN | apply keep_drew | apply keep_alloc) | exact HK.out)⟩
 ·rw [if_neg c3] at H
  have c3b0 : (t101 == 0) = false := beq_eq_false_iff_ne.mpr c3
  have c3b1 : (t101 != 0) = true := bne_iff_ne.mpr c3
  by_cases c7 : t101 = 1
  ·rw [if_pos c7] at H
   have c7b0 : (t101 == 1) = true := beq_iff_eq.mpr c7
   have c7b1 : (t101 != 1) = false := bne_eq_false_iff_eq.mpr c7
   clear c7
   obtain ⟨y106, hy106⟩ : ∃ y_ : List Int, y_ = (([2, 2] : List Int)) := ⟨_, rfl⟩
   replace H : (some (y106, t102)) = some (r1, r2) := by first | (rw [hy106];with_reducible exact H) | (have H2_ := (Option.bind_some _ _).symm.trans H;rw [hy106];with_reducible exact H2_) | (have H2_ := (Option.bind_some _ _).symm.trans H;with_reducible exact H2_) | with_reducible exact H | (rw [hy106];exact H) | exact H
   have Ny106 := Aside0.mk hy106
   clear hy106
   simp only [Option.some.injEq, Prod.mk.injEq] at H
   obtain ⟨rfl, rfl⟩ := H
   go_enter Try.func97, Try.ntmps97
   go_wp2_with (first | ((with_reducible refine gate_callee (f := 74) rfl ?_);refine goesL_ (some 4) rfl rfl Try.func74 (by kernel_rfl) rfl #[.pointer (some ⟨g, 0, none⟩), .int .i64 3] rfl (by (try simp only [List.map_toArray, List.map_cons, List.map_nil]);first | done | rfl | (simp only [List.length_drop, List.length_take];rfl)) ?_;(with_reducible refine (spec_l14Rd_pick.calls k g s0_0 s0_1 3 t101 t102 w0 _ ?side1 ?side2 A2.out).mono ?_);(case side1 => repeat (first | (with_reducible first | exact HI0.out | apply IsS100.alloc | apply IsS100.drewN | apply IsS100.drew | apply IsS100.set_1) | exact HI0.out));(case side2 => repeat (first | (with_reducible first | exact HB.out | apply below_alloc | apply pw_below_drewN | apply below_drew1 | refine below_set ?_ (IsS100.ge HI0.out)) | exact HB.out));rintro e w8 ⟨rfl, hi, hb, hk⟩;refine ⟨_, rfl, ?_⟩;replace HK := Aside0.mk (KeepBut.trans (by repeat (first | (with_reducible first | exact HK.out | apply KeepBut.set_ | apply keep_drewN | apply keep_drew | apply keep_alloc) | exact HK.out)) hk (.inl rfl));replace HB := Aside0.mk (hb);replace HI0 := Aside0.mk (hi);(try clear hb);(try clear hb2);(try clear hk);(try clear hi)) | ((with_reducible refine gate_dst (N := 10) rfl ?_);refine Kd.R_lit (Kd.int .i64) _ 3 ?hg (N := 10) ?hd (xs := ([2, 2] : List Int)) (inner := [.int .i64 2, .int .i64 2]) (ok := fun _ => True) (okp := fun _ => True) ?hr ?hp (fun _ hk => hk) trivial (Below.refl _ _) (Nat.le_refl _) (by simp) ?_;(case hd => rfl);(case hg => rfl);(case hr => first | (go_simp;done) | (go_simp;rfl));(case hp => exact (Reps.one (show Kd.M (Kd.int .i64) _ _ _ 2 [.int .i64 2] from rfl) (Reps.one (show Kd.M (Kd.int .i64) _ _ _ 2 [.int .i64 2] from rfl) (Reps.none _ _))));intro v107 w9 ho10 hb hg_ hnew_;clear hg_ hnew_;(first | rw [← Ny106.out] at ho10 | (simp only [Int.reduceToNat] at ho10;rw [← Ny106.out] at ho10));have HO108 := Aside0.mk (Kd.R_lower ho10 (keep_size (w := w) (g := g) (row := none) (by repeat (first | (with_reducible first | exact HK.out | apply KeepBut.set_ | apply keep_drewN | apply keep_drew | apply keep_alloc) | exact HK.out))));replace HK := Aside0.mk (KeepBut.trans (by repeat (first | (with_reducible first | exact HK.out | apply KeepBut.set_ | apply keep_drewN | apply keep_drew | apply keep_alloc) | exact HK.out)) (KeepBut.of_below hb g none) (.inl rfl));replace HB := Aside0.mk (below_step (by repeat (first | (with_reducible first | exact HB.out | apply below_alloc | apply pw_below_drewN | apply below_drew1 | refine below_set ?_ (IsS100.ge HI0.out)) | exact HB.out)) hb);replace HI0 := Aside0.mk (IsS100.below (by repeat (first | (with_reducible first | exact HI0.out | apply IsS100.alloc | apply IsS100.drewN | apply IsS100.drew | apply IsS100.set_1) | exact HI0.out)) hb);clear hb ho10))
   go_ret
   exact ⟨_, by first | rfl | (simp [errW_none, errW_some] <;> rfl) | (simp [*, errW_none, errW_some] <;> rfl), by (with_reducible repeat (first | apply Kd.R_alloc | apply Kd.R_drewN | apply Kd.R_drew));exact HO108.out, by repeat (first | (with_reducible first | exact HI0.out | apply IsS100.alloc | apply IsS100.drewN | apply IsS100.drew | apply IsS100.set_1) | exact HI0.out), by repeat (first | (with_reducible first | exact HB.out | apply below_alloc | apply pw_below_drewN | apply below_drew1 | refine below_set ?_ (IsS100.ge HI0.out)) | exact HB.out), by repeat (first | (with_reducible first | exact HK.out | apply KeepBut.set_ | apply keep_drewN | apply keep_drew | apply keep_alloc) | exact HK.out)⟩
  ·rw [if_neg c7] at H
   have c7b0 : (t101 == 1) = false := beq_eq_false_iff_ne.mpr c7
   have c7b1 : (t101 != 1) = true := bne_iff_ne.mpr c7
   obtain ⟨y109, hy109⟩ : ∃ y_ : List Int, y_ = (([24] : List Int)) := ⟨_, rfl⟩
   replace H : (some (y109, t102)) = some (r1, r2) := by first | (rw [hy109];with_reducible exact H) | (have H2_ := (Option.bind_some _ _).symm.trans H;rw [hy109];with_reducible exact H2_) | (have H2_ := (Option.bind_some _ _).symm.trans H;with_reducible exact H2_) | with_reducible exact H | (rw [hy109];exact H) | exact H
   have Ny109 := Aside0.mk hy109
   clear hy109
   simp only [Option.some.injEq, Prod.mk.injEq] at H
   obtain ⟨rfl, rfl⟩ := H
   go_enter Try.func97, Try.ntmps97
   go_wp2_with (first | ((with_reducible refine gate_callee (f := 74) rfl ?_);refine goesL_ (some 4) rfl rfl Try.func74 (by kernel_rfl) rfl #[.pointer (some ⟨g, 0, none⟩), .int .i64 3] rfl (by (try simp only [List.map_toArray, List.map_cons, List.map_nil]);first | done | rfl | (simp only [List.length_drop, List.length_take];rfl)) ?_;(with_reducible refine (spec_l14Rd_pick.calls k g s0_0 s0_1 3 t101 t102 w0 _ ?side1 ?side2 A2.out).mono ?_);(case side1 => repeat (first | (with_reducible first | exact HI0.out | apply IsS100.alloc | apply IsS100.drewN | apply IsS100.drew | apply IsS100.set_1) | exact HI0.out));(case side2 => repeat (first | (with_reducible first | exact HB.out | apply below_alloc | apply pw_below_drewN | apply below_drew1 | refine below_set ?_ (IsS100.ge HI0.out)) | exact HB.out));rintro e w11 ⟨rfl, hi, hb, hk⟩;refine ⟨_, rfl, ?_⟩;replace HK := Aside0.mk (KeepBut.trans (by repeat (first | (with_reducible first | exact HK.out | apply KeepBut.set_ | apply keep_drewN | apply keep_drew | apply keep_alloc) | exact HK.out)) hk (.inl rfl));replace HB := Aside0.mk (hb);replace HI0 := Aside0.mk (hi);(try clear hb);(try clear hb2);(try clear hk);(try clear hi)) | ((with_reducible refine gate_dst (N := 11) rfl ?_);refine Kd.R_lit (Kd.int .i64) _ 3 ?hg (N := 11) ?hd (xs := ([24] : List Int)) (inner := [.int .i64 24]) (ok := fun _ => True) (okp := fun _ => True) ?hr ?hp (fun _ hk => hk) trivial (Below.refl _ _) (Nat.le_refl _) (by simp) ?_;(case hd => rfl);(case hg => rfl);(case hr => first | (go_simp;done) | (go_simp;rfl));(case hp => exact (Reps.one (show Kd.M (Kd.int .i64) _ _ _ 24 [.int .i64 24] from rfl) (Reps.none _ _)));intro v110 w12 ho13 hb hg_ hnew_;clear hg_ hnew_;(first | rw [← Ny109.out] at ho13 | (simp only [Int.reduceToNat] at ho13;rw [← Ny109.out] at ho13));have HO111 := Aside0.mk (Kd.R_lower ho13 (keep_size (w := w) (g := g) (row := none) (by repeat (first | (with_reducible first | exact HK.out | apply KeepBut.set_ | apply keep_drewN | apply keep_drew | apply keep_alloc) | exact HK.out))));replace HK := Aside0.mk (KeepBut.trans (by repeat (first | (with_reducible first | exact HK.out | apply KeepBut.set_ | apply keep_drewN | apply keep_drew | apply keep_alloc) | exact HK.out)) (KeepBut.of_below hb g none) (.inl rfl));replace HB := Aside0.mk (below_step (by repeat (first | (with_reducible first | exact HB.out | apply below_alloc | apply pw_below_drewN | apply below_drew1 | refine below_set ?_ (IsS100.ge HI0.out)) | exact HB.out)) hb);replace HI0 := Aside0.mk (IsS100.below (by repeat (first | (with_reducible first | exact HI0.out | apply IsS100.alloc | apply IsS100.drewN | apply IsS100.drew | apply IsS100.set_1) | exact HI0.out)) hb);clear hb ho13))
   go_ret
   exact ⟨_, by first | rfl | (simp [errW_none, errW_some] <;> rfl) | (simp [*, errW_none, errW_some] <;> rfl), by (with_reducible repeat (first | apply Kd.R_alloc | apply Kd.R_drewN | apply Kd.R_drew));exact HO111.out, by repeat (first | (with_reducible first | exact HI0.out | apply IsS100.alloc | apply IsS100.drewN | apply IsS100.drew | apply IsS100.set_1) | exact HI0.out), by repeat (first | (with_reducible first | exact HB.out | apply below_alloc | apply pw_below_drewN | apply below_drew1 | refine below_set ?_ (IsS100.ge HI0.out)) | exact HB.out), by repeat (first | (with_reducible first | exact HK.out | apply KeepBut.set_ | apply keep_drewN | apply keep_drew | apply keep_alloc) | exact HK.out)⟩

end Go.Proofs.Ytiplpckgmikmeaa.M
namespace Go.Proofs.Ytiplpckgmikmeaa.M
open Go.RowKit Go.Proofs.YtiplpckgmikmeaaW.PrintWords Go.Proofs.YtiplpckgmikmeaaW.PrintLast Go.Proofs.YtiplpckgmikmeaaW.PrintMore
attribute [local go_sem] max2_int min2_int max_two min_two max_three min_three max_four min_four
set_option linter.unusedVariables false
set_option linter.unusedSimpArgs false

def spec_l3Bent.f (k : Nat) (s0_0 : List Int) (s0_1 : Int) : Option ((List (S27)) × Int) := (spec_l3Some.f k s0_0 s0_1 6).bind fun bt101 => (if (bt101.1.length : Int) = 0 then (some (bt101.1, bt101.2)) else ((spec_l14Rd_pick.f k s0_0 bt101.2 (bt101.1.length : Int)).bind fun bt105 => ((spec_l14Rd_pick.f k s0_0 bt105.2 40).bind fun bt107 => (if bt107.1 = 0 then (if 0 ≤ bt105.1 then (if bt105.1 < (bt101.1.length : Int) then ((spec_l14Rd_num.f k s0_0 bt107.2 (([0, wrap64 (((rd_T27 bt101.1 bt105.1).f1) + 1)] : List Int))).bind fun bt113 => (some ((bt101.1.set (bt105.1 : Int).toNat (⟨bt113.1, (rd_T27 bt101.1 bt105.1).f1, (rd_T27 bt101.1 bt105.1).f2⟩ : S27)), bt113.2))) else (none)) else (none)) else (if bt107.1 = 1 then ((spec_r0Ids.f k s0_0 bt107.2).bind fun bt116 => (if 0 ≤ bt105.1 then (if bt105.1 < (bt101.1.length : Int) then (some ((bt101.1.set (bt105.1 : Int).toNat (⟨(rd_T27 bt101.1 bt105.1).f0, (rd_T27 bt101.1 bt105.1).f1, bt116.1⟩ : S27)), bt116.2)) else (none)) else (none))) else (if bt107.1 = 2 then (if 0 < (bt101.1.length : Int) then (if bt101.1.length < 3518437208883 then (some ((bt101.1 ++ [(⟨(rd_T27 bt101.1 0).f0, (rd_T27 bt101.1 0).f1, (rd_T27 bt101.1 0).f2⟩ : S27)]), bt107.2)) else (none)) else (none)) else (if bt107.1 = 3 then (if 0 ≤ bt105.1 then (if bt105.1 < (bt101.1.length : Int) then (some ((bt101.1.set (bt105.1 : Int).toNat (⟨(rd_T27 bt101.1 bt105.1).f0, 2001, (rd_T27 bt101.1 bt105.1).f2⟩ : S27)), bt107.2)) else (none)) else (none)) else (some (bt101.1, bt107.2)))))))))
theorem spec_l3Bent.mono : ∀ a0 a1 k, LeO (spec_l3Bent.f k a0 a1) (spec_l3Bent.f (k + 1) a0 a1) := by
 intro a0 a1 k
 unfold spec_l3Bent.f
 repeat' first
   | (with_reducible exact spec_l14Rd_num.mono _ _ _ _)
   | (with_reducible exact spec_l14Rd_pick.mono _ _ _ _)
   | (with_reducible exact spec_l3Some.mono _ _ _ _)
   | (with_reducible exact spec_r0Ids.mono _ _ _)
   | (with_reducible exact LeO.refl _)
   | (with_reducible exact LeO.none _)
   | (with_reducible refine LeO.ite ?_ ?_)
   | (with_reducible refine LeO.bind ?_ (fun _ => ?_))
   | exact spec_l14Rd_num.mono _ _ _ _
   | exact spec_l14Rd_pick.mono _ _ _ _
   | exact spec_l3Some.mono _ _ _ _
   | exact spec_r0Ids.mono _ _ _
   | exact LeO.none _
   | refine LeO.ite ?_ ?_
   | refine LeO.bind ?_ (fun _ => ?_)
set_option maxHeartbeats 8000000 in
set_option maxRecDepth 100000 in
theorem spec_l3Bent.calls (k : Nat) (g : Nat) (s0_0 : List Int) (s0_1 : Int) (r1 : List (S27)) (r2 : Int) (w0 w : World) (hI : IsS100 w0 w g s0_0 s0_1) (hB : Below w0.heap.size w0 w) (h : spec_l3Bent.f k s0_0 s0_1 = some (r1, r2)) :
  Calls Try.prog 77 #[.pointer (some ⟨g, 0, none⟩)] w fun e w' => ∃ v0_ : Value, e = .returned (v0_) ∧ Kd.N k27 27 w' w.heap.size (fun k_ => (w.heap.size ≤ k_)) v0_ r1 ∧ IsS100 w0 w' g s0_0 r2 ∧ Below w0.heap.size w0 w' ∧ KeepBut w w' g none := by
 have hu27 := Try.underlying27
 have HI0 := Aside0.mk hI
 have HK := Aside0.mk (KeepBut.refl w g none)
 have HL := Aside0.mk hB.size
 clear hI
 have HW0 := Aside0.mk hB.size
 have HB := Aside0.mk hB
 clear hB
 have H : ((spec_l3Some.f k s0_0 s0_1 6).bind fun bt101 => (if (bt101.1.length : Int) = 0 then (some (bt101.1, bt101.2)) else ((spec_l14Rd_pick.f k s0_0 bt101.2 (bt101.1.length : Int)).bind fun bt105 => ((spec_l14Rd_pick.f k s0_0 bt105.2 40).bind fun bt107 => (if bt107.1 = 0 then (if 0 ≤ bt105.1 then (if bt105.1 < (bt101.1.length : Int) then ((spec_l14Rd_num.f k s0_0 bt107.2 (([0, wrap64 (((rd_T27 bt101.1 bt105.1).f1) + 1)] : List Int))).bind fun bt113 => (some ((bt101.1.set (bt105.1 : Int).toNat (⟨bt113.1, (rd_T27 bt101.1 bt105.1).f1, (rd_T27 bt101.1 bt105.1).f2⟩ : S27)), bt113.2))) else (none)) else (none)) else (if bt107.1 = 1 then ((spec_r0Ids.f k s0_0 bt107.2).bind fun bt116 => (if 0 ≤ bt105.1 then (if bt105.1 < (bt101.1.length : Int) then (some ((bt101.1.set (bt105.1 : Int).toNat (⟨(rd_T27 bt101.1 bt105.1).f0, (rd_T27 bt101.1 bt105.1).f1, bt116.1⟩ : S27)), bt116.2)) else (none)) else (none))) else (if bt107.1 = 2 then (if 0 < (bt101.1.length : Int) then (if bt101.1.length < 3518437208883 then (some ((bt101.1 ++ [(⟨(rd_T27 bt101.1 0).f0, (rd_T27 bt101.1 0).f1, (rd_T27 bt101.1 0).f2⟩ : S27)]), bt107.2)) else (none)) else (none)) else (if bt107.1 = 3 then (if 0 ≤ bt105.1 then (if bt105.1 < (bt101.1.length : Int) then (some ((bt101.1.set (bt105.1 : Int).toNat (⟨(rd_T27 bt101.1 bt105.1).f0, 2001, (rd_T27 bt101.1 bt105.1).f2⟩ : S27)), bt107.2)) else (none)) else (none)) else (some (bt101.1, bt107.2)))))))))) = some (r1, r2) := h
 clear h
 replace H := Option.bind_eq_some_iff.mp H
 obtain ⟨⟨t101, t104⟩, A20, H⟩ := H
 replace H : (if (t101.length : Int) = 0 then (some (t101, t104)) else ((spec_l14Rd_pick.f k s0_0 t104 (t101.length : Int)).bind fun bt105 => ((spec_l14Rd_pick.f k s0_0 bt105.2 40).bind fun bt107 => (if bt107.1 = 0 then (if 0 ≤ bt105.1 then (if bt105.1 < (t101.length : Int) then ((spec_l14Rd_num.f k s0_0 bt107.2 (([0, wrap64 (((rd_T27 t101 bt105.1).f1) + 1)] : List Int))).bind fun bt113 => (some ((t101.set (bt105.1 : Int).toNat (⟨bt113.1, (rd_T27 t101 bt105.1).f1, (rd_T27 t101 bt105.1).f2⟩ : S27)), bt113.2))) else (none)) else (none)) else (if bt107.1 = 1 then ((spec_r0Ids.f k s0_0 bt107.2).bind fun bt116 => (if 0 ≤ bt105.1 then (if bt105.1 < (t101.length : Int) then (some ((t101.set (bt105.1 : Int).toNat (⟨(rd_T27 t101 bt105.1).f0, (rd_T27 t101 bt105.1).f1, bt116.1⟩ : S27)), bt116.2)) else (none)) else (none))) else (if bt107.1 = 2 then (if 0 < (t101.length : Int) then (if t101.length < 3518437208883 then (some ((t101 ++ [(⟨(rd_T27 t101 0).f0, (rd_T27 t101 0).f1, (rd_T27 t101 0).f2⟩ : S27)]), bt107.2)) else (none)) else (none)) else (if bt107.1 = 3 then (if 0 ≤ bt105.1 then (if bt105.1 < (t101.length : Int) then (some ((t101.set (bt105.1 : Int).toNat (⟨(rd_T27 t101 bt105.1).f0, 2001, (rd_T27 t101 bt105.1).f2⟩ : S27)), bt107.2)) else (none)) else (none)) else (some (t101, bt107.2))))))))) = some (r1, r2) := H
 have A2 := Aside0.mk A20
 clear A20
 by_cases c3 : (t101.length : Int) = 0
 ·rw [if_pos c3] at H
  have c3b0 : ((t101.length : Int) == 0) = true := beq_iff_eq.mpr c3
  have c3b1 : ((t101.length : Int) != 0) = false := bne_eq_false_iff_eq.mpr c3
  clear c3
  simp only [Option.some.injEq, Prod.mk.injEq] at H
  obtain ⟨rfl, rfl⟩ := H
  go_enter Try.func77, Try.ntmps77
  go_wp2_with (first | ((with_reducible refine gate_callee (f := 96) rfl ?_);refine goesL_ (some 6) rfl rfl Try.func96 (by kernel_rfl) rfl #[.pointer (some ⟨g, 0, none⟩), .int .i64 6] rfl (by (try simp only [List.map_toArray, List.map_cons, List.map_nil]);first | done | rfl | (simp only [List.length_drop, List.length_take];rfl)) ?_;(with_reducible refine (spec_l3Some.calls k g s0_0 s0_1 6 t101 t104 w0 _ ?side1 ?side2 A2.out).mono ?_);(case side1 => repeat (first | (with_reducible first | exact HI0.out | apply IsS100.alloc | apply IsS100.drewN | apply IsS100.drew | apply IsS100.set_1) | exact HI0.out));(case side2 => repeat (first | (with_reducible first | exact HB.out | apply below_alloc | apply pw_below_drewN | apply below_drew1 | refine below_set ?_ (IsS100.ge HI0.out)) | exact HB.out));rintro e w4 ⟨v102, rfl, ho0, hi, hb, hk⟩;refine ⟨_, rfl, ?_⟩;have HO103 := Aside0.mk (Kd.N_lower (Kd.N_mono (ok' := fun k_ => (w.heap.size ≤ k_) ∧ k_ ≠ g) (Kd.S_N (Kd.S_bound ho0)) (fun k_ hk_ => ⟨(Nat.le_trans (keep_size (w := w) (g := g) (row := none) (by repeat (first | (with_reducible first | exact HK.out | apply KeepBut.set_ | apply keep_drewN | apply keep_drew | apply keep_alloc) | exact HK.out))) hk_.2.1), (IsS100.fresh (by repeat (first | (with_reducible first | exact HI0.out | apply IsS100.alloc | apply IsS100.drewN | apply IsS100.drew | apply IsS100.set_1) | exact HI0.out)) k_ hk_.2.1)⟩)) (keep_size (w := w) (g := g) (row := none) (by repeat (first | (with_reducible first | exact HK.out | apply KeepBut.set_ | apply keep_drewN | apply keep_drew | apply keep_alloc) | exact HK.out))));replace HK := Aside0.mk (KeepBut.trans (by repeat (first | (with_reducible first | exact HK.out | apply KeepBut.set_ | apply keep_drewN | apply keep_drew | apply keep_alloc) | exact HK.out)) hk (.inl rfl));replace HB := Aside0.mk (hb);replace HI0 := Aside0.mk (hi);(try clear hb);(try clear hb2);(try clear hk);(try clear hi);(try clear ho0);obtain ⟨Ao5, co5, eo5⟩ := Kd.N_slice HO103.out;subst eo5))
  go_ret
  exact ⟨_, by first | rfl | (simp [errW_none, errW_some] <;> rfl) | (simp [*, errW_none, errW_some] <;> rfl), by (with_reducible repeat (first | apply Kd.N_alloc | apply Kd.N_drewN | apply Kd.N_drew));exact Kd.N_mono HO103.out (fun _ hk => hk.1), by repeat (first | (with_reducible first | exact HI0.out | apply IsS100.alloc | apply IsS100.drewN | apply IsS100.drew | apply IsS100.set_1) | exact HI0.out), by repeat (first | (with_reducible first | exact HB.out | apply below_alloc | apply pw_below_drewN | apply below_drew1 | refine below_set ?_ (IsS100.ge HI0.out)) | exact HB.out), by repeat (first | (with_reducible first | exact HK.out | apply KeepBut.set_ | apply keep_drewN | apply keep_drew | apply keep_alloc) | exact HK.out)⟩
 ·rw [if_neg c3] at H
  have c3b0 : ((t101.length : Int) == 0) = false := beq_eq_false_iff_ne.mpr c3
  have c3b1 : ((t101.length : Int) != 0) = true := bne_iff_ne.mpr c3
  have c3b2 : ¬ (t101 = []) := fun h_ => c3 (by rw [h_];rfl)
  replace H := Option.bind_eq_some_iff.mp H
  obtain ⟨⟨t105, t106⟩, A60, H⟩ := H
  replace H : ((spec_l14Rd_pick.f k s0_0 t106 40).bind fun bt107 => (if bt107.1 = 0 then (if 0 ≤ t105 then (if t105 < (t101.length : Int) then ((spec_l14Rd_num.f k s0_0 bt107.2 (([0, wrap64 (((rd_T27 t101 t105).f1) + 1)] : List Int))).bind fun bt113 => (some ((t101.set (t105 : Int).toNat (⟨bt113.1, (rd_T27 t101 t105).f1, (rd_T27 t101 t105).f2⟩ : S27)), bt113.2))) else (none)) else (none)) else (if bt107.1 = 1 then ((spec_r0Ids.f k s0_0 bt107.2).bind fun bt116 => (if 0 ≤ t105 then (if t105 < (t101.length : Int) then (some ((t101.set (t105 : Int).toNat (⟨(rd_T27 t101 t105).f0, (rd_T27 t101 t105).f1, bt116.1⟩ : S27)), bt116.2)) else (none)) else (none))) else (if bt107.1 = 2 then (if 0 < (t101.length : Int) then (if t101.length < 3518437208883 then (some ((t101 ++ [(⟨(rd_T27 t101 0).f0, (rd_T27 t101 0).f1, (rd_T27 t101 0).f2⟩ : S27)]), bt107.2)) else (none)) else (none)) else (if bt107.1 = 3 then (if 0 ≤ t105 then (if t105 < (t101.length : Int) then (some ((t101.set (t105 : Int).toNat (⟨(rd_T27 t101 t105).f0, 2001, (rd_T27 t101 t105).f2⟩ : S27)), bt107.2)) else (none)) else (none)) else (some (t101, bt107.2))))))) = some (r1, r2) := H
  have A6 := Aside0.mk A60
  clear A60
  replace H := Option.bind_eq_some_iff.mp H
  obtain ⟨⟨t107, t108⟩, A70, H⟩ := H
  replace H : (if t107 = 0 then (if 0 ≤ t105 then (if t105 < (t101.length : Int) then ((spec_l14Rd_num.f k s0_0 t108 (([0, wrap64 (((rd_T27 t101 t105).f1) + 1)] : List Int))).bind fun bt113 => (some ((t101.set (t105 : Int).toNat (⟨bt113.1, (rd_T27 t101 t105).f1, (rd_T27 t101 t105).f2⟩ : S27)), bt113.2))) else (none)) else (none)) else (if t107 = 1 then ((spec_r0Ids.f k s0_0 t108).bind fun bt116 => (if 0 ≤ t105 then (if t105 < (t101.length : Int) then (some ((t101.set (t105 : Int).toNat (⟨(rd_T27 t101 t105).f0, (rd_T27 t101 t105).f1, bt116.1⟩ : S27)), bt116.2)) else (none)) else (none))) else (if t107 = 2 then (if 0 < (t101.length : Int) then (if t101.length < 3518437208883 then (some ((t101 ++ [(⟨(rd_T27 t101 0).f0, (rd_T27 t101 0).f1, (rd_T27 t101 0).f2⟩ : S27)]), t108)) else (none)) else (none)) else (if t107 = 3 then (if 0 ≤ t105 then (if t105 < (t101.length : Int) then (some ((t101.set (t105 : Int).toNat (⟨(rd_T27 t101 t105).f0, 2001, (rd_T27 t101 t105).f2⟩ : S27)), t108)) else (none)) else (none)) else (some (t101, t108)))))) = some (r1, r2) := H
  have A7 := Aside0.mk A70
  clear A70
  by_cases c8 : t107 = 0
  ·rw [if_pos c8] at H
   have c8b0 : (t107 == 0) = true := beq_iff_eq.mpr c8
   have c8b1 : (t107 != 0) = false := bne_eq_false_iff_eq.mpr c8
   clear c8
   by_cases c9 : 0 ≤ t105
   ·rw [if_pos c9] at H
    have c9b0 : decide (0 ≤ t105) = true := decide_eq_true c9
    clear c9
    by_cases c10 : t105 < (t101.length : Int)
    ·rw [if_pos c10] at H
     have c10b0 : decide (t105 < (t101.length : Int)) = true := decide_eq_true c10
     clear c10
     obtain ⟨y110, hy110⟩ : ∃ y_ : List Int, y_ = (([0, wrap64 (((rd_T27 t101 t105).f1) + 1)] : List Int)) := ⟨_, rfl⟩
     replace H : ((spec_l14Rd_num.f k s0_0 t108 y110).bind fun bt113 => (some ((t101.set (t105 : Int).toNat (⟨bt113.1, (rd_T27 t101 t105).f1, (rd_T27 t101 t105).f2⟩ : S27)), bt113.2))) = some (r1, r2) := by first | (rw [hy110];with_reducible exact H) | (have H2_ := (Option.bind_some _ _).symm.trans H;rw [hy110];with_reducible exact H2_) | (have H2_ := (Option.bind_some _ _).symm.trans H;with_reducible exact H2_) | with_reducible exact H | (rw [hy110];exact H) | exact H
     have Ny110 := Aside0.mk hy110
     clear hy110
     replace H := Option.bind_eq_some_iff.mp H
     obtain ⟨⟨t113, t114⟩, A110, H⟩ := H
     replace H : (some ((t101.set (t105 : Int).toNat (⟨t113, (rd_T27 t101 t105).f1, (rd_T27 t101 t105).f2⟩ : S27)), t114)) = some (r1, r2) := H
     have A11 := Aside0.mk A110
     clear A110
     obtain ⟨y115, hy115⟩ : ∃ y_ : List (S27), y_ = (t101.set (t105 : Int).toNat (⟨t113, (rd_T27 t101 t105).f1, (rd_T27 t101 t105).f2⟩ : S27)) := ⟨_, rfl⟩
     replace H : (some (y115, t114)) = some (r1, r2) := by first | (rw [hy115];with_reducible exact H) | (have H2_ := (Option.bind_some _ _).symm.trans H;rw [hy115];with_reducible exact H2_) | (have H2_ := (Option.bind_some _ _).symm.trans H;with_reducible exact H2_) | with_reducible exact H | (rw [hy115];exact H) | exact H
     have Ny115 := Aside0.mk hy115
     clear hy115
     simp only [Option.some.injEq, Prod.mk.injEq] at H
     obtain ⟨rfl, rfl⟩ := H
     go_enter Try.func77, Try.ntmps77
     go_wp2_with (first | ((with_reducible refine gate_callee (f := 96) rfl ?_);refine goesL_ (some 6) rfl rfl Try.func96 (by kernel_rfl) rfl #[.pointer (some ⟨g, 0, none⟩), .int .i64 6] rfl (by (try simp only [List.map_toArray, List.map_cons, List.map_nil]);first | done | rfl | (simp only [List.length_drop, List.length_take];rfl)) ?_;(with_reducible refine (spec_l3Some.calls k g s0_0 s0_1 6 t101 t104 w0 _ ?side1 ?side2 A2.out).mono ?_);(case side1 => repeat (first | (with_reducible first | exact HI0.out | apply IsS100.alloc | apply IsS100.drewN | apply IsS100.drew | apply IsS100.set_1) | exact HI0.out));(case side2 => repeat (first | (with_reducible first | exact HB.out | apply below_alloc | apply pw_below_drewN | apply below_drew1 | refine below_set ?_ (IsS100.ge HI0.out)) | exact HB.out));rintro e w13 ⟨v102, rfl, ho0, hi, hb, hk⟩;refine ⟨_, rfl, ?_⟩;have HO103 := Aside0.mk (Kd.N_lower (Kd.N_mono (ok' := fun k_ => (w.heap.size ≤ k_) ∧ k_ ≠ g) (Kd.S_N (Kd.S_bound ho0)) (fun k_ hk_ => ⟨(Nat.le_trans (keep_size (w := w) (g := g) (row := none) (by repeat (first | (with_reducible first | exact HK.out | apply KeepBut.set_ | apply keep_drewN | apply keep_drew | apply keep_alloc) | exact HK.out))) hk_.2.1), (IsS100.fresh (by repeat (first | (with_reducible first | exact HI0.out | apply IsS100.alloc | apply IsS100.drewN | apply IsS100.drew | apply IsS100.set_1) | exact HI0.out)) k_ hk_.2.1)⟩)) (keep_size (w := w) (g := g) (row := none) (by repeat (first | (with_reducible first | exact HK.out | apply KeepBut.set_ | apply keep_drewN | apply keep_drew | apply keep_alloc) | exact HK.out))));replace HK := Aside0.mk (KeepBut.trans (by repeat (first | (with_reducible first | exact HK.out | apply KeepBut.set_ | apply keep_drewN | apply keep_drew | apply keep_alloc) | exact HK.out)) hk (.inl rfl));replace HB := Aside0.mk (hb);replace HI0 := Aside0.mk (hi);(try clear hb);(try clear hb2);(try clear hk);(try clear hi);(try clear ho0);obtain ⟨Ao14, co14, eo14⟩ := Kd.N_slice HO103.out;subst eo14) | ((with_reducible refine gate_callee (f := 74) rfl ?_);refine goesL_ (some 14) rfl rfl Try.func74 (by kernel_rfl) rfl #[.pointer (some ⟨g, 0, none⟩), .int .i64 (t101.length : Int)] rfl (by (try simp only [List.map_toArray, List.map_cons, List.map_nil]);first | done | rfl | (simp only [List.length_drop, List.length_take];rfl)) ?_;(with_reducible refine (spec_l14Rd_pick.calls k g s0_0 t104 (t101.length : Int) t105 t106 w0 _ ?side1 ?side2 A6.out).mono ?_);(case side1 => repeat (first | (with_reducible first | exact HI0.out | apply IsS100.alloc | apply IsS100.drewN | apply IsS100.drew | apply IsS100.set_1) | exact HI0.out));(case side2 => repeat (first | (with_reducible first | exact HB.out | apply below_alloc | apply pw_below_drewN | apply below_drew1 | refine below_set ?_ (IsS100.ge HI0.out)) | exact HB.out));rintro e w15 ⟨rfl, hi, hb, hk⟩;refine ⟨_, rfl, ?_⟩;replace HO103 := Aside0.mk (Kd.N_mono (Kd.N_keep (Kd.N_mono (ok := fun k_ => (((w.heap.size ≤ k_)) ∧ k_ ≠ g)) (by exact HO103.out) (fun k_ hk_ => (⟨hk_, hk_.2⟩ : _ ∧ k_ ≠ g))) hk (fun _ h => h.2)) (fun _ h => h.1));replace HK := Aside0.mk (KeepBut.trans (by repeat (first | (with_reducible first | exact HK.out | apply KeepBut.set_ | apply keep_drewN | apply keep_drew | apply keep_alloc) | exact HK.out)) hk (.inl rfl));replace HB := Aside0.mk (hb);replace HI0 := Aside0.mk (hi);(try clear hb);(try clear hb2);(try clear hk);(try clear hi)) | ((with_reducible refine gate_callee (f := 74) rfl ?_);refine goesL_ (some 16) rfl rfl Try.func74 (by kernel_rfl) rfl #[.pointer (some ⟨g, 0, none⟩), .int .i64 40] rfl (by (try simp only [List.map_toArray, List.map_cons, List.map_nil]);first | done | rfl | (simp only [List.length_drop, List.length_take];rfl)) ?_;(with_reducible refine (spec_l14Rd_pick.calls k g s0_0 t106 40 t107 t108 w0 _ ?side1 ?side2 A7.out).mono ?_);(case side1 => repeat (first | (with_reducible first | exact HI0.out | apply IsS100.alloc | apply IsS100.drewN | apply IsS100.drew | apply IsS100.set_1) | exact HI0.out));(case side2 => repeat (first | (with_reducible first | exact HB.out | apply below_alloc | apply pw_below_drewN | apply below_drew1 | refine below_set ?_ (IsS100.ge HI0.out)) | exact HB.out));rintro e w16 ⟨rfl, hi, hb, hk⟩;refine ⟨_, rfl, ?_⟩;replace HO103 := Aside0.mk (Kd.N_mono (Kd.N_keep (Kd.N_mono (ok := fun k_ => (((w.heap.size ≤ k_)) ∧ k_ ≠ g)) (by exact HO103.out) (fun k_ hk_ => (⟨hk_, hk_.2⟩ : _ ∧ k_ ≠ g))) hk (fun _ h => h.2)) (fun _ h => h.1));replace HK := Aside0.mk (KeepBut.trans (by repeat (first | (with_reducible first | exact HK.out | apply KeepBut.set_ | apply keep_drewN | apply keep_drew | apply keep_alloc) | exact HK.out)) hk (.inl rfl));replace HB := Aside0.mk (hb);replace HI0 := Aside0.mk (hi);(try clear hb);(try clear hb2);(try clear hk);(try clear hi);have p109 : 0 ≤ (t105 : Int) := of_decide_eq_true (by first | (with_reducible assumption) | assumption);have q109 : t105 < (t101.length : Int) := of_decide_eq_true (by first | (with_reducible assumption) | assumption);obtain ⟨ad109, A109_2, c109_2, e109, hx109_0, hx109_1, hx109_2, hl109_2, hi109_2⟩ := at_T27 (Kd.N_reads' HO103.out).2.2 t105 p109 q109;cases e109;obtain ⟨ce109, hce109, hMe109, hcc109⟩ := Kd.N_get HO103.out z27 t105 p109 (by first | exact q109 | exact of_decide_eq_true (by first | (with_reducible assumption) | assumption) | (have e_ := (Kd.N_reads' HO103.out).1;omega));obtain ⟨ua109_2, uc109_2, rfl, ul109_2, ge109_2⟩ := k27_openF hMe109;have hv109_2 := hcc109 2 _ rfl;rw [add_field _ _ 2 (by omega)] at hv109_2;replace hv109_2 := Option.some.inj (hv109_2.symm.trans hx109_2);injection hv109_2 with hva_ hvn_ hvc_;rw [hva_] at ge109_2;rw [hvc_] at ul109_2;have HL109_2 := Aside0.mk (show Kd.V (Kd.int .i64) 3 _ w.heap.size _ _ ((rd_T27 t101 t105).f2) from Kd.V_mk ul109_2 ge109_2);clear hva_ hvn_ hvc_ ge109_2 ul109_2;clear hcc109 hce109;have HR109_2 := Aside0.mk hi109_2;have HC109_2 := Aside0.mk hl109_2;clear hi109_2 hl109_2;replace p109 := eq_true p109;replace q109 := eq_true q109) | ((with_reducible refine gate_dst (N := 28) rfl ?_);refine Kd.R_lit (Kd.int .i64) _ 3 ?hg (N := 28) ?hd (xs := ([0, wrap64 (((rd_T27 t101 t105).f1) + 1)] : List Int)) (inner := [.int .i64 0, .int .i64 (wrap64 (((rd_T27 t101 t105).f1) + 1))]) (ok := fun _ => True) (okp := fun _ => True) ?hr ?hp (fun _ hk => hk) trivial (Below.refl _ _) (Nat.le_refl _) (by simp) ?_;(case hd => rfl);(case hg => rfl);(case hr => first | (go_simp;done) | (go_simp;rfl));(case hp => exact (Reps.one (show Kd.M (Kd.int .i64) _ _ _ 0 [.int .i64 0] from rfl) (Reps.one (show Kd.M (Kd.int .i64) _ _ _ (wrap64 (((rd_T27 t101 t105).f1) + 1)) [.int .i64 (wrap64 (((rd_T27 t101 t105).f1) + 1))] from rfl) (Reps.none _ _))));intro v111 w17 ho18 hb hg_ hnew_;clear hg_ hnew_;(first | rw [← Ny110.out] at ho18 | (simp only [Int.reduceToNat] at ho18;rw [← Ny110.out] at ho18));replace HO103 := Aside0.mk (Kd.N_elder' (by exact HO103.out) (Kd.R_base ho18) hb);replace HL109_2 := Aside0.mk (Kd.V_elder' (by exact HL109_2.out) (Kd.R_base ho18) hb);have HO112 := Aside0.mk (Kd.R_lower (Kd.R_newM (M := fun k_ => (w.heap.size ≤ k_)) ho18 (keep_size (w := w) (g := g) (row := none) (by repeat (first | (with_reducible first | exact HK.out | apply KeepBut.set_ | apply keep_drewN | apply keep_drew | apply keep_alloc) | exact HK.out))) (fun k_ h_ => h_)) (keep_size (w := w) (g := g) (row := none) (by repeat (first | (with_reducible first | exact HK.out | apply KeepBut.set_ | apply keep_drewN | apply keep_drew | apply keep_alloc) | exact HK.out))));replace HR109_2 := Aside0.mk (Kd.C_below (by repeat (first | (with_reducible exact HR109_2.out) | (with_reducible refine Kd.C_alloc ?_ _) | (with_reducible refine Kd.C_drewN ?_ _) | (with_reducible refine Kd.C_drew ?_) | exact HR109_2.out)) hb);replace HK := Aside0.mk (KeepBut.trans (by repeat (first | (with_reducible first | exact HK.out | apply KeepBut.set_ | apply keep_drewN | apply keep_drew | apply keep_alloc) | exact HK.out)) (KeepBut.of_below hb g none) (.inl rfl));replace HB := Aside0.mk (below_step (by repeat (first | (with_reducible first | exact HB.out | apply below_alloc | apply pw_below_drewN | apply below_drew1 | refine below_set ?_ (IsS100.ge HI0.out)) | exact HB.out)) hb);replace HI0 := Aside0.mk (IsS100.below (by repeat (first | (with_reducible first | exact HI0.out | apply IsS100.alloc | apply IsS100.drewN | apply IsS100.drew | apply IsS100.set_1) | exact HI0.out)) hb);clear hb ho18;obtain ⟨Ao19, co19, eo19⟩ := Kd.R_slice HO112.out;subst eo19) | ((with_reducible refine gate_callee (f := 91) rfl ?_);refine goesL_ (some 29) rfl rfl Try.func91 (by kernel_rfl) rfl #[.pointer (some ⟨g, 0, none⟩), .slice Ao19 y110.length co19] rfl (by (try simp only [List.map_toArray, List.map_cons, List.map_nil]);first | done | rfl | (simp only [List.length_drop, List.length_take];rfl)) ?_;(with_reducible refine (spec_l14Rd_num.calls k g s0_0 t108 _ _ y110 t113 t114 w0 _ ?side1 ?side2 ?side3 ?side4 ?side5 A11.out).mono ?_);(case side1 => repeat (first | (with_reducible first | exact HI0.out | apply IsS100.alloc | apply IsS100.drewN | apply IsS100.drew | apply IsS100.set_1) | exact HI0.out));(case side2 => repeat (first | (with_reducible first | exact HB.out | apply below_alloc | apply pw_below_drewN | apply below_drew1 | refine below_set ?_ (IsS100.ge HI0.out)) | exact HB.out));(case side3 => repeat (first | exact (Kd.R_reads' HO112.out).2.2 | (with_reducible refine Kd.C_alloc ?_ _) | (with_reducible refine Kd.C_drewN ?_ _) | (with_reducible refine Kd.C_drew ?_)));(case side4 => exact (Kd.R_reads' HO112.out).2.1);(case side5 => exact far_slice (IsS100.own_ne HI0.out HO112.out (by decide)));rintro e w20 ⟨rfl, hi, hb, hk⟩;refine ⟨_, rfl, ?_⟩;replace HO103 := Aside0.mk (Kd.N_mono (Kd.N_keep (Kd.N_mono (ok := fun k_ => ((((w.heap.size ≤ k_)) ∧ k_ ≠ g) ∧ some k_ ≠ (.slice Ao19 y110.length co19 : Value).ownBlock)) (by exact HO103.out) (fun k_ hk_ => (⟨hk_, hk_.1.2⟩ : _ ∧ k_ ≠ g))) hk (fun _ h => h.2)) (fun _ h => h.1));replace HL109_2 := Aside0.mk (Kd.V_mono (Kd.V_keep (Kd.V_mono (ok := fun k_ => (((((w.heap.size ≤ k_)) ∧ k_ ≠ g) ∧ some k_ ≠ (.slice (some ad109) t101.length co14 : Value).ownBlock) ∧ some k_ ≠ (.slice Ao19 y110.length co19 : Value).ownBlock)) (by exact HL109_2.out) (fun k_ hk_ => (⟨hk_, hk_.1.1.2⟩ : _ ∧ k_ ≠ g))) hk (fun _ h => h.2)) (fun _ h => h.1));replace HO112 := Aside0.mk (Kd.R_mono (Kd.R_keep (IsS100.apart (show IsS100 w0 _ g s0_0 t108 from by repeat (first | (with_reducible first | exact HI0.out | apply IsS100.alloc | apply IsS100.drewN | apply IsS100.drew | apply IsS100.set_1) | exact HI0.out)) (by exact HO112.out) (by decide)) hk (fun _ h => h.2)) (fun _ h => h.1));replace HK := Aside0.mk (KeepBut.trans (by repeat (first | (with_reducible first | exact HK.out | apply KeepBut.set_ | apply keep_drewN | apply keep_drew | apply keep_alloc) | exact HK.out)) hk (.inl rfl));replace HB := Aside0.mk (hb);replace HI0 := Aside0.mk (hi);(try clear hb);(try clear hb2);(try clear hk);(try clear hi);have p12 : 0 ≤ (t105 : Int) := of_decide_eq_true (by first | (with_reducible assumption) | assumption);have q12 : (t105 : Int) < ((t101.length : Int) : Int) := of_decide_eq_true (by first | (with_reducible assumption) | assumption);obtain ⟨go12, co12, eo12, gb12, gl12, cl12, HG12⟩ := Kd.N_form HO103.out (by omega);(first | cases eo12 | (injection eo12 with ea_ en_ ec_;(first | subst ea_ | (injection ea_ with ea_;subst ea_));subst ec_;clear en_));have GB12 := Aside0.mk gb12;have GG12 := Aside0.mk HG12;clear gb12 gl12 HG12;(first | simp only [add_plain] at hx109_0 | skip);(first | simp only [add_plain] at hx109_1 | skip);(first | simp only [add_plain] at hx109_2 | skip);obtain ⟨ce12, hcl12, hM12, hcc12, hfr12⟩ := Kd.N_elem HO103.out z27 (t105 : Int) p12 q12;obtain ⟨ua12_2, uc12_2, rfl, ul12_2, ge12_2⟩ := k27_openF hM12;have hx12_0 : w20.cell? ⟨go12, (t105 : Int).toNat * 3, none⟩ = some (.int .i64 ((rd_T27 t101 t105).f0)) := hcc12 0 _ rfl;have hx12_1 : w20.cell? ⟨go12, (t105 : Int).toNat * 3 + 1, none⟩ = some (.int .i64 ((rd_T27 t101 t105).f1)) := hcc12 1 _ rfl;have hx12_2 : w20.cell? ⟨go12, (t105 : Int).toNat * 3 + 2, none⟩ = some (.slice ua12_2 ((rd_T27 t101 t105).f2).length uc12_2) := hcc12 2 _ rfl;have hf12_0 : w20.frozen? ⟨go12, (t105 : Int).toNat * 3, none⟩ = false := hfr12 0;have hf12_1 : w20.frozen? ⟨go12, (t105 : Int).toNat * 3 + 1, none⟩ = false := hfr12 1;have hf12_2 : w20.frozen? ⟨go12, (t105 : Int).toNat * 3 + 2, none⟩ = false := hfr12 2;clear hcl12 hcc12 hfr12 hM12;replace p12 := eq_true p12;replace q12 := eq_true q12;have n_ := Aside0.mk (Kd.N_mono (ok' := (fun k_ => (w.heap.size ≤ k_) ∧ some k_ ≠ (.slice Ao19 y110.length co19 : Value).ownBlock)) HO103.out (fun k_ hk => ⟨hk.1.1, hk.2⟩));clear HO103;have HO103 := n_;clear n_;have HX21 := Aside0.mk (show Kd.N k27 27 w20 w.heap.size (fun k_ => (w.heap.size ≤ k_) ∧ some k_ ≠ (.slice Ao19 y110.length co19 : Value).ownBlock) (.slice (some ⟨go12, 0, none⟩) t101.length co14) t101 from (by exact HO103.out));obtain ⟨ce21, hcl21, hM21, hcc21, hfr21⟩ := Kd.N_elem HX21.out z27 (t105 : Int) (of_decide_eq_true (by first | (with_reducible assumption) | assumption)) (by have h_ : (t105 : Int) < ((t101.length : Int) : Int) := of_decide_eq_true (by first | (with_reducible assumption) | assumption);first | exact h_ | (have e_ := (Kd.N_reads' HO103.out).1;omega) | simpa using h_);obtain ⟨ua21_2, uc21_2, rfl, ul21_2, ge21_2⟩ := k27_openF hM21;have HP21 := Kd.N_seg HX21.out (t105 : Int) (of_decide_eq_true (by first | (with_reducible assumption) | assumption)) (by have h_ : (t105 : Int) < ((t101.length : Int) : Int) := of_decide_eq_true (by first | (with_reducible assumption) | assumption);first | exact h_ | (have e_ := (Kd.N_reads' HO103.out).1;omega) | simpa using h_) (seg := [.int .i64 t113]) (j := 0) hcl21 hcc21 (show 1 ≤ 3 from by decide) (x' := (⟨t113, (rd_T27 t101 t105).f1, (rd_T27 t101 t105).f2⟩ : S27)) (k27_mkF _ _ (⟨t113, (rd_T27 t101 t105).f1, (rd_T27 t101 t105).f2⟩ : S27) ul21_2 ge21_2) (fun _ hk => hk);have hx21_0 := hcc21 0 _ rfl;(try simp only [show (k27).sz = 3 from rfl, Nat.mul_one, Nat.add_zero] at hx21_0);have hf21_0 := hfr21 0;(try simp only [show (k27).sz = 3 from rfl, Nat.mul_one, Nat.add_zero] at hf21_0);clear hcl21 hcc21 hfr21 hM21) | ((with_reducible refine gate_store (t := 3) (p := 31) rfl ?_);refine store_event (t := 3) (p := 31) (v := ?vo_w22) (w1 := (w20.setCell ⟨go12, (t105 : Int).toNat * 3, none⟩ (.int .i64 t113))) ?hg ?ho ?hn ?hr ?_;(case ho => rfl);(case hg => rfl);(case hn => rfl);(case hr => first | (go_simp;done) | (go_simp;rfl));intro w22 hw;have hg : w20.grownBy w22 (some go12) := (by rw [hw];exact HP21.2);have hp_ : Kd.N k27 27 w22 w.heap.size (fun k_ => (w.heap.size ≤ k_) ∧ some k_ ≠ (.slice Ao19 y110.length co19 : Value).ownBlock) (.slice (some ⟨go12, 0, none⟩) t101.length co14) y115 := (by rw [hw, Ny115.out];exact HP21.1);clear HP21;replace HI0 := Aside0.mk (IsS100.grown (by repeat (first | (with_reducible first | exact HI0.out | apply IsS100.alloc | apply IsS100.drewN | apply IsS100.drew | apply IsS100.set_1) | exact HI0.out)) hg (IsS100.own_neN HI0.out HO103.out (by decide)));replace HL109_2 := Aside0.mk (Kd.V_afterv (v := (.slice (some ⟨go12, 0, none⟩) t101.length co14)) (v1 := (.slice (some ⟨go12, 0, none⟩) t101.length co14)) (ok := (fun k_ => (w.heap.size ≤ k_) ∧ some k_ ≠ (.slice Ao19 y110.length co19 : Value).ownBlock ∧ k_ ≠ g)) (by (with_reducible repeat (first | apply Kd.V_alloc | apply Kd.V_drewN | apply Kd.V_drew));exact Kd.V_mono HL109_2.out (fun _ hk => ⟨⟨hk.1.1.1, ⟨hk.2, hk.1.1.2⟩⟩, hk.1.2⟩)) hg (.inl rfl));replace HO112 := Aside0.mk (Kd.R_over' (v := (.slice (some ⟨go12, 0, none⟩) t101.length co14)) (by exact HO112.out) (Kd.N_typed HO103.out) (by decide) hg);replace HB := Aside0.mk ((by rw [hw];exact below_set (HB.out) (Nat.le_trans HL.out GB12.out) : Below w0.heap.size w0 w22));replace HK := Aside0.mk (KeepBut.trans (by repeat (first | (with_reducible first | exact HK.out | apply KeepBut.set_ | apply keep_drewN | apply keep_drew | apply keep_alloc) | exact HK.out)) (KeepBut.of_grown hg g) (Kd.N_base2 HO103.out));replace HO103 := Aside0.mk (hp_);clear hg hw hp_))
     go_ret
     exact ⟨_, by first | rfl | (simp [errW_none, errW_some] <;> rfl) | (simp [*, errW_none, errW_some] <;> rfl), by (with_reducible repeat (first | apply Kd.N_alloc | apply Kd.N_drewN | apply Kd.N_drew));exact Kd.N_mono HO103.out (fun _ hk => hk.1), by repeat (first | (with_reducible first | exact HI0.out | apply IsS100.alloc | apply IsS100.drewN | apply IsS100.drew | apply IsS100.set_1) | exact HI0.out), by repeat (first | (with_reducible first | exact HB.out | apply below_alloc | apply pw_below_drewN | apply below_drew1 | refine below_set ?_ (IsS100.ge HI0.out)) | exact HB.out), by repeat (first | (with_reducible first | exact HK.out | apply KeepBut.set_ | apply keep_drewN | apply keep_drew | apply keep_alloc) | exact HK.out)⟩
    ·rw [if_neg c10] at H
     exact absurd H (by simp)
   ·rw [if_neg c9] at H
    exact absurd H (by simp)
  ·rw [if_neg c8] at H
   have c8b0 : (t107 == 0) = false := beq_eq_false_iff_ne.mpr c8
   have c8b1 : (t107 != 0) = true := bne_iff_ne.mpr c8
   by_cases c23 : t107 = 1
   ·rw [if_pos c23] at H
    have c23b0 : (t107 == 1) = true := beq_iff_eq.mpr c23
    have c23b1 : (t107 != 1) = false := bne_eq_false_iff_eq.mpr c23
    clear c23
    replace H := Option.bind_eq_some_iff.mp H
    obtain ⟨⟨t116, t119⟩, A240, H⟩ := H
    replace H : (if 0 ≤ t105 then (if t105 < (t101.length : Int) then (some ((t101.set (t105 : Int).toNat (⟨(rd_T27 t101 t105).f0, (rd_T27 t101 t105).f1, t116⟩ : S27)), t119)) else (none)) else (none)) = some (r1, r2) := H
    have A24 := Aside0.mk A240
    clear A240
    by_cases c25 : 0 ≤ t105
    ·rw [if_pos c25] at H
     have c25b0 : decide (0 ≤ t105) = true := decide_eq_true c25
     clear c25
     by_cases c26 : t105 < (t101.length : Int)
     ·rw [if_pos c26] at H
      have c26b0 : decide (t105 < (t101.length : Int)) = true := decide_eq_true c26
      clear c26
      obtain ⟨y120, hy120⟩ : ∃ y_ : List (S27), y_ = (t101.set (t105 : Int).toNat (⟨(rd_T27 t101 t105).f0, (rd_T27 t101 t105).f1, t116⟩ : S27)) := ⟨_, rfl⟩
      replace H : (some (y120, t119)) = some (r1, r2) := by first | (rw [hy120];with_reducible exact H) | (have H2_ := (Option.bind_some _ _).symm.trans H;rw [hy120];with_reducible exact H2_) | (have H2_ := (Option.bind_some _ _).symm.trans H;with_reducible exact H2_) | with_reducible exact H | (rw [hy120];exact H) | exact H
      have Ny120 := Aside0.mk hy120
      clear hy120
      simp only [Option.some.injEq, Prod.mk.injEq] at H
      obtain ⟨rfl, rfl⟩ := H
      go_enter Try.func77, Try.ntmps77
      go_wp2_with (first | ((with_reducible refine gate_callee (f := 96) rfl ?_);refine goesL_ (some 6) rfl rfl Try.func96 (by kernel_rfl) rfl #[.pointer (some ⟨g, 0, none⟩), .int .i64 6] rfl (by (try simp only [List.map_toArray, List.map_cons, List.map_nil]);first | done | rfl | (simp only [List.length_drop, List.length_take];rfl)) ?_;(with_reducible refine (spec_l3Some.calls k g s0_0 s0_1 6 t101 t104 w0 _ ?side1 ?side2 A2.out).mono ?_);(case side1 => repeat (first | (with_reducible first | exact HI0.out | apply IsS100.alloc | apply IsS100.drewN | apply IsS100.drew | apply IsS100.set_1) | exact HI0.out));(case side2 => repeat (first | (with_reducible first | exact HB.out | apply below_alloc | apply pw_below_drewN | apply below_drew1 | refine below_set ?_ (IsS100.ge HI0.out)) | exact HB.out));rintro e w28 ⟨v102, rfl, ho0, hi, hb, hk⟩;refine ⟨_, rfl, ?_⟩;have HO103 := Aside0.mk (Kd.N_lower (Kd.N_mono (ok' := fun k_ => (w.heap.size ≤ k_) ∧ k_ ≠ g) (Kd.S_N (Kd.S_bound ho0)) (fun k_ hk_ => ⟨(Nat.le_trans (keep_size (w := w) (g := g) (row := none) (by repeat (first | (with_reducible first | exact HK.out | apply KeepBut.set_ | apply keep_drewN | apply keep_drew | apply keep_alloc) | exact HK.out))) hk_.2.1), (IsS100.fresh (by repeat (first | (with_reducible first | exact HI0.out | apply IsS100.alloc | apply IsS100.drewN | apply IsS100.drew | apply IsS100.set_1) | exact HI0.out)) k_ hk_.2.1)⟩)) (keep_size (w := w) (g := g) (row := none) (by repeat (first | (with_reducible first | exact HK.out | apply KeepBut.set_ | apply keep_drewN | apply keep_drew | apply keep_alloc) | exact HK.out))));replace HK := Aside0.mk (KeepBut.trans (by repeat (first | (with_reducible first | exact HK.out | apply KeepBut.set_ | apply keep_drewN | apply keep_drew | apply keep_alloc) | exact HK.out)) hk (.inl rfl));replace HB := Aside0.mk (hb);replace HI0 := Aside0.mk (hi);(try clear hb);(try clear hb2);(try clear hk);(try clear hi);(try clear ho0);obtain ⟨Ao29, co29, eo29⟩ := Kd.N_slice HO103.out;subst eo29) | ((with_reducible refine gate_callee (f := 74) rfl ?_);refine goesL_ (some 14) rfl rfl Try.func74 (by kernel_rfl) rfl #[.pointer (some ⟨g, 0, none⟩), .int .i64 (t101.length : Int)] rfl (by (try simp only [List.map_toArray, List.map_cons, List.map_nil]);first | done | rfl | (simp only [List.length_drop, List.length_take];rfl)) ?_;(with_reducible refine (spec_l14Rd_pick.calls k g s0_0 t104 (t101.length : Int) t105 t106 w0 _ ?side1 ?side2 A6.out).mono ?_);(case side1 => repeat (first | (with_reducible first | exact HI0.out | apply IsS100.alloc | apply IsS100.drewN | apply IsS100.drew | apply IsS100.set_1) | exact HI0.out));(case side2 => repeat (first | (with_reducible first | exact HB.out | apply below_alloc | apply pw_below_drewN | apply below_drew1 | refine below_set ?_ (IsS100.ge HI0.out)) | exact HB.out));rintro e w30 ⟨rfl, hi, hb, hk⟩;refine ⟨_, rfl, ?_⟩;replace HO103 := Aside0.mk (Kd.N_mono (Kd.N_keep (Kd.N_mono (ok := fun k_ => (((w.heap.size ≤ k_)) ∧ k_ ≠ g)) (by exact HO103.out) (fun k_ hk_ => (⟨hk_, hk_.2⟩ : _ ∧ k_ ≠ g))) hk (fun _ h => h.2)) (fun _ h => h.1));replace HK := Aside0.mk (KeepBut.trans (by repeat (first | (with_reducible first | exact HK.out | apply KeepBut.set_ | apply keep_drewN | apply keep_drew | apply keep_alloc) | exact HK.out)) hk (.inl rfl));replace HB := Aside0.mk (hb);replace HI0 := Aside0.mk (hi);(try clear hb);(try clear hb2);(try clear hk);(try clear hi)) | ((with_reducible refine gate_callee (f := 74) rfl ?_);refine goesL_ (some 16) rfl rfl Try.func74 (by kernel_rfl) rfl #[.pointer (some ⟨g, 0, none⟩), .int .i64 40] rfl (by (try simp only [List.map_toArray, List.map_cons, List.map_nil]);first | done | rfl | (simp only [List.length_drop, List.length_take];rfl)) ?_;(with_reducible refine (spec_l14Rd_pick.calls k g s0_0 t106 40 t107 t108 w0 _ ?side1 ?side2 A7.out).mono ?_);(case side1 => repeat (first | (with_reducible first | exact HI0.out | apply IsS100.alloc | apply IsS100.drewN | apply IsS100.drew | apply IsS100.set_1) | exact HI0.out));(case side2 => repeat (first | (with_reducible first | exact HB.out | apply below_alloc | apply pw_below_drewN | apply below_drew1 | refine below_set ?_ (IsS100.ge HI0.out)) | exact HB.out));rintro e w31 ⟨rfl, hi, hb, hk⟩;refine ⟨_, rfl, ?_⟩;replace HO103 := Aside0.mk (Kd.N_mono (Kd.N_keep (Kd.N_mono (ok := fun k_ => (((w.heap.size ≤ k_)) ∧ k_ ≠ g)) (by exact HO103.out) (fun k_ hk_ => (⟨hk_, hk_.2⟩ : _ ∧ k_ ≠ g))) hk (fun _ h => h.2)) (fun _ h => h.1));replace HK := Aside0.mk (KeepBut.trans (by repeat (first | (with_reducible first | exact HK.out | apply KeepBut.set_ | apply keep_drewN | apply keep_drew | apply keep_alloc) | exact HK.out)) hk (.inl rfl));replace HB := Aside0.mk (hb);replace HI0 := Aside0.mk (hi);(try clear hb);(try clear hb2);(try clear hk);(try clear hi)) | ((with_reducible refine gate_callee (f := 97) rfl ?_);refine goesL_ (some 37) rfl rfl Try.func97 (by kernel_rfl) rfl #[.pointer (some ⟨g, 0, none⟩)] rfl (by (try simp only [List.map_toArray, List.map_cons, List.map_nil]);first | done | rfl | (simp only [List.length_drop, List.length_take];rfl)) ?_;(with_reducible refine (spec_r0Ids.calls k g s0_0 t108 t116 t119 w0 _ ?side1 ?side2 A24.out).mono ?_);(case side1 => repeat (first | (with_reducible first | exact HI0.out | apply IsS100.alloc | apply IsS100.drewN | apply IsS100.drew | apply IsS100.set_1) | exact HI0.out));(case side2 => repeat (first | (with_reducible first | exact HB.out | apply below_alloc | apply pw_below_drewN | apply below_drew1 | refine below_set ?_ (IsS100.ge HI0.out)) | exact HB.out));rintro e w32 ⟨v117, rfl, ho0, hi, hb, hk⟩;refine ⟨_, rfl, ?_⟩;replace HO103 := Aside0.mk (Kd.N_mono (Kd.N_told (Kd.N_oldK (Kd.N_mono (ok := fun k_ => (((w.heap.size ≤ k_)) ∧ k_ ≠ g)) (by exact HO103.out) (fun k_ hk_ => (⟨hk_, hk_.2⟩ : _ ∧ k_ ≠ g))) hk) (Kd.R_base ho0)) (fun _ h_ => h_.1));have HO118 := Aside0.mk (Kd.R_lower (Kd.R_newM (M := fun k_ => (w.heap.size ≤ k_)) ho0 (keep_size (w := w) (g := g) (row := none) (by repeat (first | (with_reducible first | exact HK.out | apply KeepBut.set_ | apply keep_drewN | apply keep_drew | apply keep_alloc) | exact HK.out))) (fun k_ h_ => h_)) (keep_size (w := w) (g := g) (row := none) (by repeat (first | (with_reducible first | exact HK.out | apply KeepBut.set_ | apply keep_drewN | apply keep_drew | apply keep_alloc) | exact HK.out))));replace HK := Aside0.mk (KeepBut.trans (by repeat (first | (with_reducible first | exact HK.out | apply KeepBut.set_ | apply keep_drewN | apply keep_drew | apply keep_alloc) | exact HK.out)) hk (.inl rfl));replace HB := Aside0.mk (hb);replace HI0 := Aside0.mk (hi);(try clear hb);(try clear hb2);(try clear hk);(try clear hi);(try clear ho0);have p27 : 0 ≤ (t105 : Int) := of_decide_eq_true (by first | (with_reducible assumption) | assumption);have q27 : (t105 : Int) < ((t101.length : Int) : Int) := of_decide_eq_true (by first | (with_reducible assumption) | assumption);obtain ⟨go27, co27, eo27, gb27, gl27, cl27, HG27⟩ := Kd.N_form HO103.out (by omega);(first | cases eo27 | (injection eo27 with ea_ en_ ec_;(first | subst ea_ | (injection ea_ with ea_;subst ea_));subst ec_;clear en_));have GB27 := Aside0.mk gb27;have GG27 := Aside0.mk HG27;clear gb27 gl27 HG27;obtain ⟨ce27, hcl27, hM27, hcc27, hfr27⟩ := Kd.N_elem HO103.out z27 (t105 : Int) p27 q27;obtain ⟨ua27_2, uc27_2, rfl, ul27_2, ge27_2⟩ := k27_openF hM27;have hx27_0 : w32.cell? ⟨go27, (t105 : Int).toNat * 3, none⟩ = some (.int .i64 ((rd_T27 t101 t105).f0)) := hcc27 0 _ rfl;have hx27_1 : w32.cell? ⟨go27, (t105 : Int).toNat * 3 + 1, none⟩ = some (.int .i64 ((rd_T27 t101 t105).f1)) := hcc27 1 _ rfl;have hx27_2 : w32.cell? ⟨go27, (t105 : Int).toNat * 3 + 2, none⟩ = some (.slice ua27_2 ((rd_T27 t101 t105).f2).length uc27_2) := hcc27 2 _ rfl;have hf27_0 : w32.frozen? ⟨go27, (t105 : Int).toNat * 3, none⟩ = false := hfr27 0;have hf27_1 : w32.frozen? ⟨go27, (t105 : Int).toNat * 3 + 1, none⟩ = false := hfr27 1;have hf27_2 : w32.frozen? ⟨go27, (t105 : Int).toNat * 3 + 2, none⟩ = false := hfr27 2;clear hcl27 hcc27 hfr27 hM27;replace p27 := eq_true p27;replace q27 := eq_true q27;obtain ⟨Ao35, co35, eo35⟩ := Kd.R_slice HO118.out;subst eo35;have n_ := Aside0.mk (Kd.N_mono (ok' := (fun k_ => (w.heap.size ≤ k_) ∧ some k_ ≠ (.slice Ao35 t116.length co35 : Value).ownBlock)) HO103.out (fun k_ hk => ⟨hk.1.1, hk.2⟩));clear HO103;have HO103 := n_;clear n_;have HX33 := Aside0.mk (show Kd.N k27 27 w32 w.heap.size (fun k_ => (w.heap.size ≤ k_)) (.slice (some ⟨go27, 0, none⟩) t101.length co29) t101 from (by (with_reducible repeat (first | apply Kd.N_alloc | apply Kd.N_drewN | apply Kd.N_drew));exact Kd.N_mono HO103.out (fun _ hk => hk.1)));obtain ⟨ce33, hcl33, hM33, hcc33, hfr33⟩ := Kd.N_elem HX33.out z27 (t105 : Int) (of_decide_eq_true (by first | (with_reducible assumption) | assumption)) (by have h_ : (t105 : Int) < ((t101.length : Int) : Int) := of_decide_eq_true (by first | (with_reducible assumption) | assumption);first | exact h_ | (have e_ := (Kd.N_reads' HO103.out).1;omega) | simpa using h_);obtain ⟨ua33_2, uc33_2, rfl, ul33_2, ge33_2⟩ := k27_openF hM33;have HP33 := Kd.N_seg HX33.out (t105 : Int) (of_decide_eq_true (by first | (with_reducible assumption) | assumption)) (by have h_ : (t105 : Int) < ((t101.length : Int) : Int) := of_decide_eq_true (by first | (with_reducible assumption) | assumption);first | exact h_ | (have e_ := (Kd.N_reads' HO103.out).1;omega) | simpa using h_) (seg := [.slice Ao35 t116.length co35]) (j := 2) hcl33 hcc33 (show 3 ≤ 3 from by decide) (x' := (⟨(rd_T27 t101 t105).f0, (rd_T27 t101 t105).f1, t116⟩ : S27)) (k27_mkF _ _ (⟨(rd_T27 t101 t105).f0, (rd_T27 t101 t105).f1, t116⟩ : S27) (Kd.R_reads' (Kd.R_mono (ok' := (fun k_ => ((fun k_ => (w.heap.size ≤ k_))) k_ ∧ k_ ≠ go27)) (Kd.R_apart' (HO118.out) (Kd.N_typed HO103.out) (by decide)) (fun k_ hk => ⟨hk.1.1, fun e_ => (hk.2) (by rw [e_];rfl)⟩))).2.1 (Kd.R_F (Kd.R_mono (ok' := (fun k_ => ((fun k_ => (w.heap.size ≤ k_))) k_ ∧ k_ ≠ go27)) (Kd.R_apart' (HO118.out) (Kd.N_typed HO103.out) (by decide)) (fun k_ hk => ⟨hk.1.1, fun e_ => (hk.2) (by rw [e_];rfl)⟩)))) (fun _ hk => hk);have hx33_2 := hcc33 2 _ rfl;(try simp only [show (k27).sz = 3 from rfl, Nat.mul_one, Nat.add_zero] at hx33_2);have hf33_2 := hfr33 2;(try simp only [show (k27).sz = 3 from rfl, Nat.mul_one, Nat.add_zero] at hf33_2);clear hcl33 hcc33 hfr33 hM33) | ((with_reducible refine gate_store (t := 22) (p := 39) rfl ?_);refine store_event (t := 22) (p := 39) (v := ?vo_w34) (w1 := (w32.setCell ⟨go27, (t105 : Int).toNat * 3 + 2, none⟩ (.slice Ao35 t116.length co35))) ?hg ?ho ?hn ?hr ?_;(case ho => rfl);(case hg => rfl);(case hn => rfl);(case hr => first | (go_simp;done) | (go_simp;rfl));intro w34 hw;have hg : w32.grownBy w34 (some go27) := (by rw [hw];exact HP33.2);have hp_ : Kd.N k27 27 w34 w.heap.size (fun k_ => (w.heap.size ≤ k_)) (.slice (some ⟨go27, 0, none⟩) t101.length co29) y120 := (by rw [hw, Ny120.out];exact HP33.1);clear HP33;have n0_ := Aside0.mk (IsS100.grown (by repeat (first | (with_reducible first | exact HI0.out | apply IsS100.alloc | apply IsS100.drewN | apply IsS100.drew | apply IsS100.set_1) | exact HI0.out)) hg (IsS100.own_neN HI0.out HO103.out (by decide)));have n1_ := Aside0.mk (hp_);have n2_ := Aside0.mk ((by rw [hw];exact below_set (HB.out) (Nat.le_trans HL.out GB27.out) : Below w0.heap.size w0 w34));have n3_ := Aside0.mk (KeepBut.trans (by repeat (first | (with_reducible first | exact HK.out | apply KeepBut.set_ | apply keep_drewN | apply keep_drew | apply keep_alloc) | exact HK.out)) (KeepBut.of_grown hg g) (Kd.N_base2 HO103.out));clear HI0;clear HO103;clear HB;clear HK;clear HO118;have HI0 := n0_;have HO103 := n1_;have HB := n2_;have HK := n3_;clear n0_ n1_ n2_ n3_;clear hg hw hp_))
      go_ret
      exact ⟨_, by first | rfl | (simp [errW_none, errW_some] <;> rfl) | (simp [*, errW_none, errW_some] <;> rfl), by (with_reducible repeat (first | apply Kd.N_alloc | apply Kd.N_drewN | apply Kd.N_drew));exact HO103.out, by repeat (first | (with_reducible first | exact HI0.out | apply IsS100.alloc | apply IsS100.drewN | apply IsS100.drew | apply IsS100.set_1) | exact HI0.out), by repeat (first | (with_reducible first | exact HB.out | apply below_alloc | apply pw_below_drewN | apply below_drew1 | refine below_set ?_ (IsS100.ge HI0.out)) | exact HB.out), by repeat (first | (with_reducible first | exact HK.out | apply KeepBut.set_ | apply keep_drewN | apply keep_drew | apply keep_alloc) | exact HK.out)⟩
     ·rw [if_neg c26] at H
      exact absurd H (by simp)
    ·rw [if_neg c25] at H
     exact absurd H (by simp)
   ·rw [if_neg c23] at H
    have c23b0 : (t107 == 1) = false := beq_eq_false_iff_ne.mpr c23
    have c23b1 : (t107 != 1) = true := bne_iff_ne.mpr c23
    by_cases c36 : t107 = 2
    ·rw [if_pos c36] at H
     have c36b0 : (t107 == 2) = true := beq_iff_eq.mpr c36
     have c36b1 : (t107 != 2) = false := bne_eq_false_iff_eq.mpr c36
     clear c36
     by_cases c37 : 0 < (t101.length : Int)
     ·rw [if_pos c37] at H
      have c37b0 : decide (0 < (t101.length : Int)) = true := decide_eq_true c37
      have c37b1 : decide (0 < t101.length) = true := decide_eq_true (by omega)
      clear c37
      by_cases c38 : t101.length < 3518437208883
      ·rw [if_pos c38] at H
       have LMc38 := Aside0.mk c38
       clear c38
       obtain ⟨y122, hy122⟩ : ∃ y_ : List (S27), y_ = (t101 ++ [(⟨(rd_T27 t101 0).f0, (rd_T27 t101 0).f1, (rd_T27 t101 0).f2⟩ : S27)]) := ⟨_, rfl⟩
       replace H : (some (y122, t108)) = some (r1, r2) := by first | (rw [hy122];with_reducible exact H) | (have H2_ := (Option.bind_some _ _).symm.trans H;rw [hy122];with_reducible exact H2_) | (have H2_ := (Option.bind_some _ _).symm.trans H;with_reducible exact H2_) | with_reducible exact H | (rw [hy122];exact H) | exact H
       have Ny122 := Aside0.mk hy122
       clear hy122
       simp only [Option.some.injEq, Prod.mk.injEq] at H
       obtain ⟨rfl, rfl⟩ := H
       go_enter Try.func77, Try.ntmps77
       go_wp2_with (first | ((with_reducible refine gate_callee (f := 96) rfl ?_);refine goesL_ (some 6) rfl rfl Try.func96 (by kernel_rfl) rfl #[.pointer (some ⟨g, 0, none⟩), .int .i64 6] rfl (by (try simp only [List.map_toArray, List.map_cons, List.map_nil]);first | done | rfl | (simp only [List.length_drop, List.length_take];rfl)) ?_;(with_reducible refine (spec_l3Some.calls k g s0_0 s0_1 6 t101 t104 w0 _ ?side1 ?side2 A2.out).mono ?_);(case side1 => repeat (first | (with_reducible first | exact HI0.out | apply IsS100.alloc | apply IsS100.drewN | apply IsS100.drew | apply IsS100.set_1) | exact HI0.out));(case side2 => repeat (first | (with_reducible first | exact HB.out | apply below_alloc | apply pw_below_drewN | apply below_drew1 | refine below_set ?_ (IsS100.ge HI0.out)) | exact HB.out));rintro e w39 ⟨v102, rfl, ho0, hi, hb, hk⟩;refine ⟨_, rfl, ?_⟩;have HO103 := Aside0.mk (Kd.N_lower (Kd.N_mono (ok' := fun k_ => (w.heap.size ≤ k_) ∧ k_ ≠ g) (Kd.S_N (Kd.S_bound ho0)) (fun k_ hk_ => ⟨(Nat.le_trans (keep_size (w := w) (g := g) (row := none) (by repeat (first | (with_reducible first | exact HK.out | apply KeepBut.set_ | apply keep_drewN | apply keep_drew | apply keep_alloc) | exact HK.out))) hk_.2.1), (IsS100.fresh (by repeat (first | (with_reducible first | exact HI0.out | apply IsS100.alloc | apply IsS100.drewN | apply IsS100.drew | apply IsS100.set_1) | exact HI0.out)) k_ hk_.2.1)⟩)) (keep_size (w := w) (g := g) (row := none) (by repeat (first | (with_reducible first | exact HK.out | apply KeepBut.set_ | apply keep_drewN | apply keep_drew | apply keep_alloc) | exact HK.out))));replace HK := Aside0.mk (KeepBut.trans (by repeat (first | (with_reducible first | exact HK.out | apply KeepBut.set_ | apply keep_drewN | apply keep_drew | apply keep_alloc) | exact HK.out)) hk (.inl rfl));replace HB := Aside0.mk (hb);replace HI0 := Aside0.mk (hi);(try clear hb);(try clear hb2);(try clear hk);(try clear hi);(try clear ho0);obtain ⟨Ao40, co40, eo40⟩ := Kd.N_slice HO103.out;subst eo40) | ((with_reducible refine gate_callee (f := 74) rfl ?_);refine goesL_ (some 14) rfl rfl Try.func74 (by kernel_rfl) rfl #[.pointer (some ⟨g, 0, none⟩), .int .i64 (t101.length : Int)] rfl (by (try simp only [List.map_toArray, List.map_cons, List.map_nil]);first | done | rfl | (simp only [List.length_drop, List.length_take];rfl)) ?_;(with_reducible refine (spec_l14Rd_pick.calls k g s0_0 t104 (t101.length : Int) t105 t106 w0 _ ?side1 ?side2 A6.out).mono ?_);(case side1 => repeat (first | (with_reducible first | exact HI0.out | apply IsS100.alloc | apply IsS100.drewN | apply IsS100.drew | apply IsS100.set_1) | exact HI0.out));(case side2 => repeat (first | (with_reducible first | exact HB.out | apply below_alloc | apply pw_below_drewN | apply below_drew1 | refine below_set ?_ (IsS100.ge HI0.out)) | exact HB.out));rintro e w41 ⟨rfl, hi, hb, hk⟩;refine ⟨_, rfl, ?_⟩;replace HO103 := Aside0.mk (Kd.N_mono (Kd.N_keep (Kd.N_mono (ok := fun k_ => (((w.heap.size ≤ k_)) ∧ k_ ≠ g)) (by exact HO103.out) (fun k_ hk_ => (⟨hk_, hk_.2⟩ : _ ∧ k_ ≠ g))) hk (fun _ h => h.2)) (fun _ h => h.1));replace HK := Aside0.mk (KeepBut.trans (by repeat (first | (with_reducible first | exact HK.out | apply KeepBut.set_ | apply keep_drewN | apply keep_drew | apply keep_alloc) | exact HK.out)) hk (.inl rfl));replace HB := Aside0.mk (hb);replace HI0 := Aside0.mk (hi);(try clear hb);(try clear hb2);(try clear hk);(try clear hi)) | ((with_reducible refine gate_callee (f := 74) rfl ?_);refine goesL_ (some 16) rfl rfl Try.func74 (by kernel_rfl) rfl #[.pointer (some ⟨g, 0, none⟩), .int .i64 40] rfl (by (try simp only [List.map_toArray, List.map_cons, List.map_nil]);first | done | rfl | (simp only [List.length_drop, List.length_take];rfl)) ?_;(with_reducible refine (spec_l14Rd_pick.calls k g s0_0 t106 40 t107 t108 w0 _ ?side1 ?side2 A7.out).mono ?_);(case side1 => repeat (first | (with_reducible first | exact HI0.out | apply IsS100.alloc | apply IsS100.drewN | apply IsS100.drew | apply IsS100.set_1) | exact HI0.out));(case side2 => repeat (first | (with_reducible first | exact HB.out | apply below_alloc | apply pw_below_drewN | apply below_drew1 | refine below_set ?_ (IsS100.ge HI0.out)) | exact HB.out));rintro e w42 ⟨rfl, hi, hb, hk⟩;refine ⟨_, rfl, ?_⟩;replace HO103 := Aside0.mk (Kd.N_mono (Kd.N_keep (Kd.N_mono (ok := fun k_ => (((w.heap.size ≤ k_)) ∧ k_ ≠ g)) (by exact HO103.out) (fun k_ hk_ => (⟨hk_, hk_.2⟩ : _ ∧ k_ ≠ g))) hk (fun _ h => h.2)) (fun _ h => h.1));replace HK := Aside0.mk (KeepBut.trans (by repeat (first | (with_reducible first | exact HK.out | apply KeepBut.set_ | apply keep_drewN | apply keep_drew | apply keep_alloc) | exact HK.out)) hk (.inl rfl));replace HB := Aside0.mk (hb);replace HI0 := Aside0.mk (hi);(try clear hb);(try clear hb2);(try clear hk);(try clear hi);have p121 : 0 ≤ (0 : Int) := (by omega);have q121 : 0 < (t101.length : Int) := of_decide_eq_true (by first | (with_reducible assumption) | assumption);obtain ⟨ad121, A121_2, c121_2, e121, hx121_0, hx121_1, hx121_2, hl121_2, hi121_2⟩ := at_T27 (Kd.N_reads' HO103.out).2.2 0 p121 q121;cases e121;obtain ⟨ce121, hce121, hMe121, hcc121⟩ := Kd.N_get HO103.out z27 0 p121 (by first | exact q121 | exact of_decide_eq_true (by first | (with_reducible assumption) | assumption) | (have e_ := (Kd.N_reads' HO103.out).1;omega));obtain ⟨ua121_2, uc121_2, rfl, ul121_2, ge121_2⟩ := k27_openF hMe121;have hv121_2 := hcc121 2 _ rfl;rw [add_field _ _ 2 (by omega)] at hv121_2;replace hv121_2 := Option.some.inj (hv121_2.symm.trans hx121_2);injection hv121_2 with hva_ hvn_ hvc_;rw [hva_] at ge121_2;rw [hvc_] at ul121_2;have HL121_2 := Aside0.mk (show Kd.V (Kd.int .i64) 3 _ w.heap.size _ _ ((rd_T27 t101 0).f2) from Kd.V_mk ul121_2 ge121_2);clear hva_ hvn_ hvc_ ge121_2 ul121_2;clear hcc121 hce121;have qi121 : (0 < t101.length) = True := eq_true (by omega);(try rw [show ((0 : Int)).toNat = 0 from rfl] at hx121_0);(try rw [show 0 * 3 = 0 from rfl] at hx121_0);(try rw [Addr.add_zero'] at hx121_0);(try rw [show ((0 : Int)).toNat = 0 from rfl] at hx121_1);(try rw [show 0 * 3 = 0 from rfl] at hx121_1);(try rw [Addr.add_zero'] at hx121_1);(try rw [show ((0 : Int)).toNat = 0 from rfl] at hx121_2);(try rw [show 0 * 3 = 0 from rfl] at hx121_2);(try rw [Addr.add_zero'] at hx121_2);have HR121_2 := Aside0.mk hi121_2;have HC121_2 := Aside0.mk hl121_2;clear hi121_2 hl121_2;replace p121 := eq_true p121;replace q121 := eq_true q121) | ((with_reducible refine gate_builtin (b := .append) (xs := #[.tmp 42, .tmp 46]) rfl ?_);at_builtin;refine Kd.N_append k27 w.heap.size rfl (.tmp 42) (.tmp 46) 34 27 (.agg #[(.int .i64 0), (.int .i64 0), (.slice none 0 0)]) 40 rfl Try.underlying34 info27 rfl (by decide) (by omega) (.slice (some ad121) t101.length co40) t101 (⟨(rd_T27 t101 0).f0, (rd_T27 t101 0).f1, (rd_T27 t101 0).f2⟩ : S27) [.int .i64 ((rd_T27 t101 0).f0), .int .i64 ((rd_T27 t101 0).f1), .slice A121_2 ((rd_T27 t101 0).f2).length c121_2] (fun k_ => (w.heap.size ≤ k_) ∧ k_ ≠ g) (fun k_ => ((fun k_ => (w.heap.size ≤ k_) ∧ k_ ≠ g)) k_ ∧ some k_ ≠ (.slice (some ad121) t101.length co40 : Value).ownBlock) rfl rfl ?aP (fun _ hk => hk) ?aF ?aO (Below.refl _ _) ?aS ?aL ?_;(case aP => exact (k27_mkF _ _ (⟨(rd_T27 t101 0).f0, (rd_T27 t101 0).f1, (rd_T27 t101 0).f2⟩ : S27) (Kd.V_reads' (Kd.V_mono (ok' := (fun k_ => ((fun k_ => (w.heap.size ≤ k_) ∧ k_ ≠ g)) k_ ∧ some k_ ≠ (.slice (some ad121) t101.length co40 : Value).ownBlock)) (HL121_2.out) (fun k_ hk => ⟨⟨hk.1.1, hk.1.2⟩, hk.2⟩))).2.1 (Kd.V_F (Kd.V_mono (ok' := (fun k_ => ((fun k_ => (w.heap.size ≤ k_) ∧ k_ ≠ g)) k_ ∧ some k_ ≠ (.slice (some ad121) t101.length co40 : Value).ownBlock)) (HL121_2.out) (fun k_ hk => ⟨⟨hk.1.1, hk.1.2⟩, hk.2⟩)))));(case aF => exact (fun k_ hk => ⟨(Nat.le_trans (keep_size (w := w) (g := g) (row := none) (by repeat (first | (with_reducible first | exact HK.out | apply KeepBut.set_ | apply keep_drewN | apply keep_drew | apply keep_alloc) | exact HK.out))) hk), IsS100.fresh (by repeat (first | (with_reducible first | exact HI0.out | apply IsS100.alloc | apply IsS100.drewN | apply IsS100.drew | apply IsS100.set_1) | exact HI0.out)) k_ hk⟩));(case aO => exact (by exact HO103.out));(case aS => exact (keep_size (w := w) (g := g) (row := none) (by repeat (first | (with_reducible first | exact HK.out | apply KeepBut.set_ | apply keep_drewN | apply keep_drew | apply keep_alloc) | exact HK.out))));(case aL => have := LMc38.out;omega);intro v123 w43 ho hb hg hat;rw [← Ny122.out] at ho;have n0_ := Aside0.mk (IsS100.grown (by repeat (first | (with_reducible first | exact HI0.out | apply IsS100.alloc | apply IsS100.drewN | apply IsS100.drew | apply IsS100.set_1) | exact HI0.out)) hg (IsS100.own_neN HI0.out HO103.out (by decide)));have n1_ := Aside0.mk (Kd.V_afterv (ok := (fun k_ => (w.heap.size ≤ k_) ∧ k_ ≠ g)) (by exact HL121_2.out) hg hat);have n2_ := Aside0.mk (below_weaken (by repeat (first | (with_reducible first | exact HB.out | apply below_alloc | apply pw_below_drewN | apply below_drew1 | refine below_set ?_ (IsS100.ge HI0.out)) | exact HB.out)) HL.out hb);have n3_ := Aside0.mk (KeepBut.trans (by repeat (first | (with_reducible first | exact HK.out | apply KeepBut.set_ | apply keep_drewN | apply keep_drew | apply keep_alloc) | exact HK.out)) (KeepBut.of_grown hg g) (Kd.N_base2 HO103.out));have n4_ := Aside0.mk (ho);clear HI0;clear HL121_2;clear HB;clear HK;clear HO103;have HI0 := n0_;have HL121_2 := n1_;have HB := n2_;have HK := n3_;have HO124 := n4_;clear n0_ n1_ n2_ n3_ n4_;clear ho hb hg hat))
       go_ret
       exact ⟨_, by first | rfl | (simp [errW_none, errW_some] <;> rfl) | (simp [*, errW_none, errW_some] <;> rfl), by (with_reducible repeat (first | apply Kd.N_alloc | apply Kd.N_drewN | apply Kd.N_drew));exact Kd.N_mono HO124.out (fun _ hk => hk.1), by repeat (first | (with_reducible first | exact HI0.out | apply IsS100.alloc | apply IsS100.drewN | apply IsS100.drew | apply IsS100.set_1) | exact HI0.out), by repeat (first | (with_reducible first | exact HB.out | apply below_alloc | apply pw_below_drewN | apply below_drew1 | refine below_set ?_ (IsS100.ge HI0.out)) | exact HB.out), by repeat (first | (with_reducible first | exact HK.out | apply KeepBut.set_ | apply keep_drewN | apply keep_drew | apply keep_alloc) | exact HK.out)⟩
      ·rw [if_neg c38] at H
       exact absurd H (by simp)
     ·rw [if_neg c37] at H
      exact absurd H (by simp)
    ·rw [if_neg c36] at H
     have c36b0 : (t107 == 2) = false := beq_eq_false_iff_ne.mpr c36
     have c36b1 : (t107 != 2) = true := bne_iff_ne.mpr c36
     by_cases c44 : t107 = 3
     ·rw [if_pos c44] at H
      have c44b0 : (t107 == 3) = true := beq_iff_eq.mpr c44
      have c44b1 : (t107 != 3) = false := bne_eq_false_iff_eq.mpr c44
      clear c44
      by_cases c45 : 0 ≤ t105
      ·rw [if_pos c45] at H
       have c45b0 : decide (0 ≤ t105) = true := decide_eq_true c45
       clear c45
       by_cases c46 : t105 < (t101.length : Int)
       ·rw [if_pos c46] at H
        have c46b0 : decide (t105 < (t101.length : Int)) = true := decide_eq_true c46
        clear c46
        obtain ⟨y125, hy125⟩ : ∃ y_ : List (S27), y_ = (t101.set (t105 : Int).toNat (⟨(rd_T27 t101 t105).f0, 2001, (rd_T27 t101 t105).f2⟩ : S27)) := ⟨_, rfl⟩
        replace H : (some (y125, t108)) = some (r1, r2) := by first | (rw [hy125];with_reducible exact H) | (have H2_ := (Option.bind_some _ _).symm.trans H;rw [hy125];with_reducible exact H2_) | (have H2_ := (Option.bind_some _ _).symm.trans H;with_reducible exact H2_) | with_reducible exact H | (rw [hy125];exact H) | exact H
        have Ny125 := Aside0.mk hy125
        clear hy125
        simp only [Option.some.injEq, Prod.mk.injEq] at H
        obtain ⟨rfl, rfl⟩ := H
        go_enter Try.func77, Try.ntmps77
        go_wp2_with (first | ((with_reducible refine gate_callee (f := 96) rfl ?_);refine goesL_ (some 6) rfl rfl Try.func96 (by kernel_rfl) rfl #[.pointer (some ⟨g, 0, none⟩), .int .i64 6] rfl (by (try simp only [List.map_toArray, List.map_cons, List.map_nil]);first | done | rfl | (simp only [List.length_drop, List.length_take];rfl)) ?_;(with_reducible refine (spec_l3Some.calls k g s0_0 s0_1 6 t101 t104 w0 _ ?side1 ?side2 A2.out).mono ?_);(case side1 => repeat (first | (with_reducible first | exact HI0.out | apply IsS100.alloc | apply IsS100.drewN | apply IsS100.drew | apply IsS100.set_1) | exact HI0.out));(case side2 => repeat (first | (with_reducible first | exact HB.out | apply below_alloc | apply pw_below_drewN | apply below_drew1 | refine below_set ?_ (IsS100.ge HI0.out)) | exact HB.out));rintro e w48 ⟨v102, rfl, ho0, hi, hb, hk⟩;refine ⟨_, rfl, ?_⟩;have HO103 := Aside0.mk (Kd.N_lower (Kd.N_mono (ok' := fun k_ => (w.heap.size ≤ k_) ∧ k_ ≠ g) (Kd.S_N (Kd.S_bound ho0)) (fun k_ hk_ => ⟨(Nat.le_trans (keep_size (w := w) (g := g) (row := none) (by repeat (first | (with_reducible first | exact HK.out | apply KeepBut.set_ | apply keep_drewN | apply keep_drew | apply keep_alloc) | exact HK.out))) hk_.2.1), (IsS100.fresh (by repeat (first | (with_reducible first | exact HI0.out | apply IsS100.alloc | apply IsS100.drewN | apply IsS100.drew | apply IsS100.set_1) | exact HI0.out)) k_ hk_.2.1)⟩)) (keep_size (w := w) (g := g) (row := none) (by repeat (first | (with_reducible first | exact HK.out | apply KeepBut.set_ | apply keep_drewN | apply keep_drew | apply keep_alloc) | exact HK.out))));replace HK := Aside0.mk (KeepBut.trans (by repeat (first | (with_reducible first | exact HK.out | apply KeepBut.set_ | apply keep_drewN | apply keep_drew | apply keep_alloc) | exact HK.out)) hk (.inl rfl));replace HB := Aside0.mk (hb);replace HI0 := Aside0.mk (hi);(try clear hb);(try clear hb2);(try clear hk);(try clear hi);(try clear ho0);obtain ⟨Ao49, co49, eo49⟩ := Kd.N_slice HO103.out;subst eo49) | ((with_reducible refine gate_callee (f := 74) rfl ?_);refine goesL_ (some 14) rfl rfl Try.func74 (by kernel_rfl) rfl #[.pointer (some ⟨g, 0, none⟩), .int .i64 (t101.length : Int)] rfl (by (try simp only [List.map_toArray, List.map_cons, List.map_nil]);first | done | rfl | (simp only [List.length_drop, List.length_take];rfl)) ?_;(with_reducible refine (spec_l14Rd_pick.calls k g s0_0 t104 (t101.length : Int) t105 t106 w0 _ ?side1 ?side2 A6.out).mono ?_);(case side1 => repeat (first | (with_reducible first | exact HI0.out | apply IsS100.alloc | apply IsS100.drewN | apply IsS100.drew | apply IsS100.set_1) | exact HI0.out));(case side2 => repeat (first | (with_reducible first | exact HB.out | apply below_alloc | apply pw_below_drewN | apply below_drew1 | refine below_set ?_ (IsS100.ge HI0.out)) | exact HB.out));rintro e w50 ⟨rfl, hi, hb, hk⟩;refine ⟨_, rfl, ?_⟩;replace HO103 := Aside0.mk (Kd.N_mono (Kd.N_keep (Kd.N_mono (ok := fun k_ => (((w.heap.size ≤ k_)) ∧ k_ ≠ g)) (by exact HO103.out) (fun k_ hk_ => (⟨hk_, hk_.2⟩ : _ ∧ k_ ≠ g))) hk (fun _ h => h.2)) (fun _ h => h.1));replace HK := Aside0.mk (KeepBut.trans (by repeat (first | (with_reducible first | exact HK.out | apply KeepBut.set_ | apply keep_drewN | apply keep_drew | apply keep_alloc) | exact HK.out)) hk (.inl rfl));replace HB := Aside0.mk (hb);replace HI0 := Aside0.mk (hi);(try clear hb);(try clear hb2);(try clear hk);(try clear hi)) | ((with_reducible refine gate_callee (f := 74) rfl ?_);refine goesL_ (some 16) rfl rfl Try.func74 (by kernel_rfl) rfl #[.pointer (some ⟨g, 0, none⟩), .int .i64 40] rfl (by (try simp only [List.map_toArray, List.map_cons, List.map_nil]);first | done | rfl | (simp only [List.length_drop, List.length_take];rfl)) ?_;(with_reducible refine (spec_l14Rd_pick.calls k g s0_0 t106 40 t107 t108 w0 _ ?side1 ?side2 A7.out).mono ?_);(case side1 => repeat (first | (with_reducible first | exact HI0.out | apply IsS100.alloc | apply IsS100.drewN | apply IsS100.drew | apply IsS100.set_1) | exact HI0.out));(case side2 => repeat (first | (with_reducible first | exact HB.out | apply below_alloc | apply pw_below_drewN | apply below_drew1 | refine below_set ?_ (IsS100.ge HI0.out)) | exact HB.out));rintro e w51 ⟨rfl, hi, hb, hk⟩;refine ⟨_, rfl, ?_⟩;replace HO103 := Aside0.mk (Kd.N_mono (Kd.N_keep (Kd.N_mono (ok := fun k_ => (((w.heap.size ≤ k_)) ∧ k_ ≠ g)) (by exact HO103.out) (fun k_ hk_ => (⟨hk_, hk_.2⟩ : _ ∧ k_ ≠ g))) hk (fun _ h => h.2)) (fun _ h => h.1));replace HK := Aside0.mk (KeepBut.trans (by repeat (first | (with_reducible first | exact HK.out | apply KeepBut.set_ | apply keep_drewN | apply keep_drew | apply keep_alloc) | exact HK.out)) hk (.inl rfl));replace HB := Aside0.mk (hb);replace HI0 := Aside0.mk (hi);(try clear hb);(try clear hb2);(try clear hk);(try clear hi);have p47 : 0 ≤ (t105 : Int) := of_decide_eq_true (by first | (with_reducible assumption) | assumption);have q47 : (t105 : Int) < ((t101.length : Int) : Int) := of_decide_eq_true (by first | (with_reducible assumption) | assumption);obtain ⟨go47, co47, eo47, gb47, gl47, cl47, HG47⟩ := Kd.N_form HO103.out (by omega);(first | cases eo47 | (injection eo47 with ea_ en_ ec_;(first | subst ea_ | (injection ea_ with ea_;subst ea_));subst ec_;clear en_));have GB47 := Aside0.mk gb47;have GG47 := Aside0.mk HG47;clear gb47 gl47 HG47;obtain ⟨ce47, hcl47, hM47, hcc47, hfr47⟩ := Kd.N_elem HO103.out z27 (t105 : Int) p47 q47;obtain ⟨ua47_2, uc47_2, rfl, ul47_2, ge47_2⟩ := k27_openF hM47;have hx47_0 : w51.cell? ⟨go47, (t105 : Int).toNat * 3, none⟩ = some (.int .i64 ((rd_T27 t101 t105).f0)) := hcc47 0 _ rfl;have hx47_1 : w51.cell? ⟨go47, (t105 : Int).toNat * 3 + 1, none⟩ = some (.int .i64 ((rd_T27 t101 t105).f1)) := hcc47 1 _ rfl;have hx47_2 : w51.cell? ⟨go47, (t105 : Int).toNat * 3 + 2, none⟩ = some (.slice ua47_2 ((rd_T27 t101 t105).f2).length uc47_2) := hcc47 2 _ rfl;have hf47_0 : w51.frozen? ⟨go47, (t105 : Int).toNat * 3, none⟩ = false := hfr47 0;have hf47_1 : w51.frozen? ⟨go47, (t105 : Int).toNat * 3 + 1, none⟩ = false := hfr47 1;have hf47_2 : w51.frozen? ⟨go47, (t105 : Int).toNat * 3 + 2, none⟩ = false := hfr47 2;clear hcl47 hcc47 hfr47 hM47;replace p47 := eq_true p47;replace q47 := eq_true q47;have HX52 := Aside0.mk (show Kd.N k27 27 w51 w.heap.size (fun k_ => (w.heap.size ≤ k_) ∧ k_ ≠ g) (.slice (some ⟨go47, 0, none⟩) t101.length co49) t101 from (by exact HO103.out));obtain ⟨ce52, hcl52, hM52, hcc52, hfr52⟩ := Kd.N_elem HX52.out z27 (t105 : Int) (of_decide_eq_true (by first | (with_reducible assumption) | assumption)) (by have h_ : (t105 : Int) < ((t101.length : Int) : Int) := of_decide_eq_true (by first | (with_reducible assumption) | assumption);first | exact h_ | (have e_ := (Kd.N_reads' HO103.out).1;omega) | simpa using h_);obtain ⟨ua52_2, uc52_2, rfl, ul52_2, ge52_2⟩ := k27_openF hM52;have HP52 := Kd.N_seg HX52.out (t105 : Int) (of_decide_eq_true (by first | (with_reducible assumption) | assumption)) (by have h_ : (t105 : Int) < ((t101.length : Int) : Int) := of_decide_eq_true (by first | (with_reducible assumption) | assumption);first | exact h_ | (have e_ := (Kd.N_reads' HO103.out).1;omega) | simpa using h_) (seg := [.int .i64 2001]) (j := 1) hcl52 hcc52 (show 2 ≤ 3 from by decide) (x' := (⟨(rd_T27 t101 t105).f0, 2001, (rd_T27 t101 t105).f2⟩ : S27)) (k27_mkF _ _ (⟨(rd_T27 t101 t105).f0, 2001, (rd_T27 t101 t105).f2⟩ : S27) ul52_2 ge52_2) (fun _ hk => hk);have hx52_1 := hcc52 1 _ rfl;(try simp only [show (k27).sz = 3 from rfl, Nat.mul_one, Nat.add_zero] at hx52_1);have hf52_1 := hfr52 1;(try simp only [show (k27).sz = 3 from rfl, Nat.mul_one, Nat.add_zero] at hf52_1);clear hcl52 hcc52 hfr52 hM52) | ((with_reducible refine gate_store (t := 3) (p := 53) rfl ?_);refine store_event (t := 3) (p := 53) (v := ?vo_w53) (w1 := (w51.setCell ⟨go47, (t105 : Int).toNat * 3 + 1, none⟩ (.int .i64 2001))) ?hg ?ho ?hn ?hr ?_;(case ho => rfl);(case hg => rfl);(case hn => rfl);(case hr => first | (go_simp;done) | (go_simp;rfl));intro w53 hw;have hg : w51.grownBy w53 (some go47) := (by rw [hw];exact HP52.2);have hp_ : Kd.N k27 27 w53 w.heap.size (fun k_ => (w.heap.size ≤ k_) ∧ k_ ≠ g) (.slice (some ⟨go47, 0, none⟩) t101.length co49) y125 := (by rw [hw, Ny125.out];exact HP52.1);clear HP52;replace HI0 := Aside0.mk (IsS100.grown (by repeat (first | (with_reducible first | exact HI0.out | apply IsS100.alloc | apply IsS100.drewN | apply IsS100.drew | apply IsS100.set_1) | exact HI0.out)) hg (IsS100.own_neN HI0.out HO103.out (by decide)));replace HB := Aside0.mk ((by rw [hw];exact below_set (HB.out) (Nat.le_trans HL.out GB47.out) : Below w0.heap.size w0 w53));replace HK := Aside0.mk (KeepBut.trans (by repeat (first | (with_reducible first | exact HK.out | apply KeepBut.set_ | apply keep_drewN | apply keep_drew | apply keep_alloc) | exact HK.out)) (KeepBut.of_grown hg g) (Kd.N_base2 HO103.out));replace HO103 := Aside0.mk (hp_);clear hg hw hp_))
        go_ret
        exact ⟨_, by first | rfl | (simp [errW_none, errW_some] <;> rfl) | (simp [*, errW_none, errW_some] <;> rfl), by (with_reducible repeat (first | apply Kd.N_alloc | apply Kd.N_drewN | apply Kd.N_drew));exact Kd.N_mono HO103.out (fun _ hk => hk.1), by repeat (first | (with_reducible first | exact HI0.out | apply IsS100.alloc | apply IsS100.drewN | apply IsS100.drew | apply IsS100.set_1) | exact HI0.out), by repeat (first | (with_reducible first | exact HB.out | apply below_alloc | apply pw_below_drewN | apply below_drew1 | refine below_set ?_ (IsS100.ge HI0.out)) | exact HB.out), by repeat (first | (with_reducible first | exact HK.out | apply KeepBut.set_ | apply keep_drewN | apply keep_drew | apply keep_alloc) | exact HK.out)⟩
       ·rw [if_neg c46] at H
        exact absurd H (by simp)
      ·rw [if_neg c45] at H
       exact absurd H (by simp)
     ·rw [if_neg c44] at H
      have c44b0 : (t107 == 3) = false := beq_eq_false_iff_ne.mpr c44
      have c44b1 : (t107 != 3) = true := bne_iff_ne.mpr c44
      simp only [Option.some.injEq, Prod.mk.injEq] at H
      obtain ⟨rfl, rfl⟩ := H
      go_enter Try.func77, Try.ntmps77
      go_wp2_with (first | ((with_reducible refine gate_callee (f := 96) rfl ?_);refine goesL_ (some 6) rfl rfl Try.func96 (by kernel_rfl) rfl #[.pointer (some ⟨g, 0, none⟩), .int .i64 6] rfl (by (try simp only [List.map_toArray, List.map_cons, List.map_nil]);first | done | rfl | (simp only [List.length_drop, List.length_take];rfl)) ?_;(with_reducible refine (spec_l3Some.calls k g s0_0 s0_1 6 t101 t104 w0 _ ?side1 ?side2 A2.out).mono ?_);(case side1 => repeat (first | (with_reducible first | exact HI0.out | apply IsS100.alloc | apply IsS100.drewN | apply IsS100.drew | apply IsS100.set_1) | exact HI0.out));(case side2 => repeat (first | (with_reducible first | exact HB.out | apply below_alloc | apply pw_below_drewN | apply below_drew1 | refine below_set ?_ (IsS100.ge HI0.out)) | exact HB.out));rintro e w54 ⟨v102, rfl, ho0, hi, hb, hk⟩;refine ⟨_, rfl, ?_⟩;have HO103 := Aside0.mk (Kd.N_lower (Kd.N_mono (ok' := fun k_ => (w.heap.size ≤ k_) ∧ k_ ≠ g) (Kd.S_N (Kd.S_bound ho0)) (fun k_ hk_ => ⟨(Nat.le_trans (keep_size (w := w) (g := g) (row := none) (by repeat (first | (with_reducible first | exact HK.out | apply KeepBut.set_ | apply keep_drewN | apply keep_drew | apply keep_alloc) | exact HK.out))) hk_.2.1), (IsS100.fresh (by repeat (first | (with_reducible first | exact HI0.out | apply IsS100.alloc | apply IsS100.drewN | apply IsS100.drew | apply IsS100.set_1) | exact HI0.out)) k_ hk_.2.1)⟩)) (keep_size (w := w) (g := g) (row := none) (by repeat (first | (with_reducible first | exact HK.out | apply KeepBut.set_ | apply keep_drewN | apply keep_drew | apply keep_alloc) | exact HK.out))));replace HK := Aside0.mk (KeepBut.trans (by repeat (first | (with_reducible first | exact HK.out | apply KeepBut.set_ | apply keep_drewN | apply keep_drew | apply keep_alloc) | exact HK.out)) hk (.inl rfl));replace HB := Aside0.mk (hb);replace HI0 := Aside0.mk (hi);(try clear hb);(try clear hb2);(try clear hk);(try clear hi);(try clear ho0);obtain ⟨Ao55, co55, eo55⟩ := Kd.N_slice HO103.out;subst eo55) | ((with_reducible refine gate_callee (f := 74) rfl ?_);refine goesL_ (some 14) rfl rfl Try.func74 (by kernel_rfl) rfl #[.pointer (some ⟨g, 0, none⟩), .int .i64 (t101.length : Int)] rfl (by (try simp only [List.map_toArray, List.map_cons, List.map_nil]);first | done | rfl | (simp only [List.length_drop, List.length_take];rfl)) ?_;(with_reducible refine (spec_l14Rd_pick.calls k g s0_0 t104 (t101.length : Int) t105 t106 w0 _ ?side1 ?side2 A6.out).mono ?_);(case side1 => repeat (first | (with_reducible first | exact HI0.out | apply IsS100.alloc | apply IsS100.drewN | apply IsS100.drew | apply IsS100.set_1) | exact HI0.out));(case side2 => repeat (first | (with_reducible first | exact HB.out | apply below_alloc | apply pw_below_drewN | apply below_drew1 | refine below_set ?_ (IsS100.ge HI0.out)) | exact HB.out));rintro e w56 ⟨rfl, hi, hb, hk⟩;refine ⟨_, rfl, ?_⟩;replace HO103 := Aside0.mk (Kd.N_mono (Kd.N_keep (Kd.N_mono (ok := fun k_ => (((w.heap.size ≤ k_)) ∧ k_ ≠ g)) (by exact HO103.out) (fun k_ hk_ => (⟨hk_, hk_.2⟩ : _ ∧ k_ ≠ g))) hk (fun _ h => h.2)) (fun _ h => h.1));replace HK := Aside0.mk (KeepBut.trans (by repeat (first | (with_reducible first | exact HK.out | apply KeepBut.set_ | apply keep_drewN | apply keep_drew | apply keep_alloc) | exact HK.out)) hk (.inl rfl));replace HB := Aside0.mk (hb);replace HI0 := Aside0.mk (hi);(try clear hb);(try clear hb2);(try clear hk);(try clear hi)) | ((with_reducible refine gate_callee (f := 74) rfl ?_);refine goesL_ (some 16) rfl rfl Try.func74 (by kernel_rfl) rfl #[.pointer (some ⟨g, 0, none⟩), .int .i64 40] rfl (by (try simp only [List.map_toArray, List.map_cons, List.map_nil]);first | done | rfl | (simp only [List.length_drop, List.length_take];rfl)) ?_;(with_reducible refine (spec_l14Rd_pick.calls k g s0_0 t106 40 t107 t108 w0 _ ?side1 ?side2 A7.out).mono ?_);(case side1 => repeat (first | (with_reducible first | exact HI0.out | apply IsS100.alloc | apply IsS100.drewN | apply IsS100.drew | apply IsS100.set_1) | exact HI0.out));(case side2 => repeat (first | (with_reducible first | exact HB.out | apply below_alloc | apply pw_below_drewN | apply below_drew1 | refine below_set ?_ (IsS100.ge HI0.out)) | exact HB.out));rintro e w57 ⟨rfl, hi, hb, hk⟩;refine ⟨_, rfl, ?_⟩;replace HO103 := Aside0.mk (Kd.N_mono (Kd.N_keep (Kd.N_mono (ok := fun k_ => (((w.heap.size ≤ k_)) ∧ k_ ≠ g)) (by exact HO103.out) (fun k_ hk_ => (⟨hk_, hk_.2⟩ : _ ∧ k_ ≠ g))) hk (fun _ h => h.2)) (fun _ h => h.1));replace HK := Aside0.mk (KeepBut.trans (by repeat (first | (with_reducible first | exact HK.out | apply KeepBut.set_ | apply keep_drewN | apply keep_drew | apply keep_alloc) | exact HK.out)) hk (.inl rfl));replace HB := Aside0.mk (hb);replace HI0 := Aside0.mk (hi);(try clear hb);(try clear hb2);(try clear hk);(try clear hi)))
      go_ret
      exact ⟨_, by first | rfl | (simp [errW_none, errW_some] <;> rfl) | (simp [*, errW_none, errW_some] <;> rfl), by (with_reducible repeat (first | apply Kd.N_alloc | apply Kd.N_drewN | apply Kd.N_drew));exact Kd.N_mono HO103.out (fun _ hk => hk.1), by repeat (first | (with_reducible first | exact HI0.out | apply IsS100.alloc | apply IsS100.drewN | apply IsS100.drew | apply IsS100.set_1) | exact HI0.out), by repeat (first | (with_reducible first | exact HB.out | apply below_alloc | apply pw_below_drewN | apply below_drew1 | refine below_set ?_ (IsS100.ge HI0.out)) | exact HB.out), by repeat (first | (with_reducible first | exact HK.out | apply KeepBut.set_ | apply keep_drewN | apply keep_drew | apply keep_alloc) | exact HK.out)⟩

end Go.Proofs.Ytiplpckgmikmeaa.M
namespace Go.Proofs.Ytiplpckgmikmeaa.M
open Go.RowKit Go.Proofs.YtiplpckgmikmeaaW.PrintWords Go.Proofs.YtiplpckgmikmeaaW.PrintLast Go.Proofs.YtiplpckgmikmeaaW.PrintMore
attribute [local go_sem] max2_int min2_int max_two min_two max_three min_three max_four min_four
set_option linter.unusedVariables false
set_option linter.unusedSimpArgs false

def spec_DrawSeqOf.f (k : Nat) (l0 : List Int) : Option (Int × (List (S27)) × (List (S27))) := (spec_l14Open.f l0).bind fun bt101 => ((spec_l4Draw.f k bt101.1 bt101.2).bind fun bt104 => ((spec_l3Bent.f k bt101.1 bt104.2).bind fun bt106 => ((spec_l3Bent.f k bt101.1 bt106.2).bind fun bt110 => (some (bt104.1, bt106.1, bt110.1)))))
theorem spec_DrawSeqOf.mono : ∀ a0 k, LeO (spec_DrawSeqOf.f k a0) (spec_DrawSeqOf.f (k + 1) a0) := by
 intro a0 k
 unfold spec_DrawSeqOf.f
 repeat' first
   | (with_reducible exact spec_l3Bent.mono _ _ _)
   | (with_reducible exact spec_l4Draw.mono _ _ _)
   | (with_reducible exact LeO.refl _)
   | (with_reducible exact LeO.none _)
   | (with_reducible refine LeO.ite ?_ ?_)
   | (with_reducible refine LeO.bind ?_ (fun _ => ?_))
   | exact spec_l3Bent.mono _ _ _
   | exact spec_l4Draw.mono _ _ _
   | exact LeO.none _
   | refine LeO.ite ?_ ?_
   | refine LeO.bind ?_ (fun _ => ?_)
set_option maxHeartbeats 8000000 in
set_option maxRecDepth 100000 in
theorem spec_DrawSeqOf.calls (k : Nat) (A0 : Option Addr) (c0 : Nat) (l0 : List Int) (r1 : Int) (r2 : List (S27)) (r3 : List (S27)) (w : World) (hr0 : Kd.C (Kd.int .u8) w A0 l0.length l0) (hc0 : l0.length ≤ c0) (h : spec_DrawSeqOf.f k l0 = some (r1, r2, r3)) :
  Calls Try.prog 90 #[.slice A0 l0.length c0] w fun e w' => ∃ v1_ v2_ : Value, e = .returned (.tuple #[.int .i64 r1, v1_, v2_]) ∧ Kd.N k27 27 w' w.heap.size (fun k_ => (w.heap.size ≤ k_) ∧ some k_ ≠ (v2_ : Value).ownBlock) v1_ r2 ∧ Kd.N k27 27 w' w.heap.size (fun k_ => (w.heap.size ≤ k_) ∧ some k_ ≠ (v1_ : Value).ownBlock) v2_ r3 ∧ Below w.heap.size w w' := by
 have HR0 := Aside0.mk hr0
 have HC0 := Aside0.mk hc0
 clear hr0 hc0
 have HB := Aside0.mk (Below.refl w.heap.size w)
 have H : ((spec_l14Open.f l0).bind fun bt101 => ((spec_l4Draw.f k bt101.1 bt101.2).bind fun bt104 => ((spec_l3Bent.f k bt101.1 bt104.2).bind fun bt106 => ((spec_l3Bent.f k bt101.1 bt106.2).bind fun bt110 => (some (bt104.1, bt106.1, bt110.1)))))) = some (r1, r2, r3) := h
 clear h
 replace H := Option.bind_eq_some_iff.mp H
 obtain ⟨⟨t101, t102⟩, A20, H⟩ := H
 replace H : ((spec_l4Draw.f k t101 t102).bind fun bt104 => ((spec_l3Bent.f k t101 bt104.2).bind fun bt106 => ((spec_l3Bent.f k t101 bt106.2).bind fun bt110 => (some (bt104.1, bt106.1, bt110.1))))) = some (r1, r2, r3) := H
 have A2 := Aside0.mk A20
 clear A20
 replace H := Option.bind_eq_some_iff.mp H
 obtain ⟨⟨t104, t105⟩, A30, H⟩ := H
 replace H : ((spec_l3Bent.f k t101 t105).bind fun bt106 => ((spec_l3Bent.f k t101 bt106.2).bind fun bt110 => (some (t104, bt106.1, bt110.1)))) = some (r1, r2, r3) := H
 have A3 := Aside0.mk A30
 clear A30
 replace H := Option.bind_eq_some_iff.mp H
 obtain ⟨⟨t106, t109⟩, A40, H⟩ := H
 replace H : ((spec_l3Bent.f k t101 t109).bind fun bt110 => (some (t104, t106, bt110.1))) = some (r1, r2, r3) := H
 have A4 := Aside0.mk A40
 clear A40
 replace H := Option.bind_eq_some_iff.mp H
 obtain ⟨⟨t110, t113⟩, A50, H⟩ := H
 replace H : (some (t104, t106, t110)) = some (r1, r2, r3) := H
 have A5 := Aside0.mk A50
 clear A50
 simp only [Option.some.injEq, Prod.mk.injEq] at H
 obtain ⟨rfl, rfl, rfl⟩ := H
 go_enter Try.func90, Try.ntmps90
 go_wp2_with (first | ((with_reducible refine gate_callee (f := 72) rfl ?_);refine goesL_ (some 9) rfl rfl Try.func72 (by kernel_rfl) rfl #[.slice A0 l0.length c0] rfl (by (try simp only [List.map_toArray, List.map_cons, List.map_nil]);first | done | rfl | (simp only [List.length_drop, List.length_take];rfl)) ?_;(with_reducible refine (spec_l14Open.calls _ _ l0 t101 t102 w _ ?side1 ?side2 ?side3 A2.out).mono ?_);(case side1 => repeat (first | (with_reducible first | exact HB.out | apply below_alloc | apply pw_below_drewN | apply below_drew1) | exact HB.out));(case side2 => exact HR0.out);(case side3 => exact HC0.out);rintro e w6 ⟨g103, rfl, hi, hb, hb2⟩;refine ⟨_, rfl, ?_⟩;replace HB := Aside0.mk (hb);have HI103 := Aside0.mk (hi);(try clear hb);(try clear hb2);(try clear hk);(try clear hi)) | ((with_reducible refine gate_callee (f := 108) rfl ?_);refine goesL_ (some 11) rfl rfl Try.func108 (by kernel_rfl) rfl #[.pointer (some ⟨g103, 0, none⟩)] rfl (by (try simp only [List.map_toArray, List.map_cons, List.map_nil]);first | done | rfl | (simp only [List.length_drop, List.length_take];rfl)) ?_;(with_reducible refine (spec_l4Draw.calls k g103 t101 t102 t104 t105 w _ ?side1 ?side2 A3.out).mono ?_);(case side1 => repeat (first | (with_reducible first | exact HI103.out | apply IsS100.alloc | apply IsS100.drewN | apply IsS100.drew | apply IsS100.set_1) | exact HI103.out));(case side2 => repeat (first | (with_reducible first | exact HB.out | apply below_alloc | apply pw_below_drewN | apply below_drew1 | refine below_set ?_ (IsS100.ge HI103.out)) | exact HB.out));rintro e w7 ⟨rfl, hi, hb, hk⟩;refine ⟨_, rfl, ?_⟩;replace HB := Aside0.mk (hb);replace HI103 := Aside0.mk (hi);(try clear hb);(try clear hb2);(try clear hk);(try clear hi)) | ((with_reducible refine gate_callee (f := 77) rfl ?_);refine goesL_ (some 13) rfl rfl Try.func77 (by kernel_rfl) rfl #[.pointer (some ⟨g103, 0, none⟩)] rfl (by (try simp only [List.map_toArray, List.map_cons, List.map_nil]);first | done | rfl | (simp only [List.length_drop, List.length_take];rfl)) ?_;(with_reducible refine (spec_l3Bent.calls k g103 t101 t105 t106 t109 w _ ?side1 ?side2 A4.out).mono ?_);(case side1 => repeat (first | (with_reducible first | exact HI103.out | apply IsS100.alloc | apply IsS100.drewN | apply IsS100.drew | apply IsS100.set_1) | exact HI103.out));(case side2 => repeat (first | (with_reducible first | exact HB.out | apply below_alloc | apply pw_below_drewN | apply below_drew1 | refine below_set ?_ (IsS100.ge HI103.out)) | exact HB.out));rintro e w8 ⟨v107, rfl, ho0, hi, hb, hk⟩;refine ⟨_, rfl, ?_⟩;have HO108 := Aside0.mk (Kd.N_lower (Kd.N_mono (ok' := fun k_ => (w.heap.size ≤ k_) ∧ k_ ≠ g103) ho0 (fun k_ hk_ => ⟨(Nat.le_trans (below_size (by repeat (first | (with_reducible first | exact HB.out | apply below_alloc | apply pw_below_drewN | apply below_drew1 | refine below_set ?_ (IsS100.ge HI103.out)) | exact HB.out))) hk_), (IsS100.fresh (by repeat (first | (with_reducible first | exact HI103.out | apply IsS100.alloc | apply IsS100.drewN | apply IsS100.drew | apply IsS100.set_1) | exact HI103.out)) k_ hk_)⟩)) (below_size (by repeat (first | (with_reducible first | exact HB.out | apply below_alloc | apply pw_below_drewN | apply below_drew1 | refine below_set ?_ (IsS100.ge HI103.out)) | exact HB.out))));replace HB := Aside0.mk (hb);replace HI103 := Aside0.mk (hi);(try clear hb);(try clear hb2);(try clear hk);(try clear hi);(try clear ho0)) | ((with_reducible refine gate_callee (f := 77) rfl ?_);refine goesL_ (some 17) rfl rfl Try.func77 (by kernel_rfl) rfl #[.pointer (some ⟨g103, 0, none⟩)] rfl (by (try simp only [List.map_toArray, List.map_cons, List.map_nil]);first | done | rfl | (simp only [List.length_drop, List.length_take];rfl)) ?_;(with_reducible refine (spec_l3Bent.calls k g103 t101 t109 t110 t113 w _ ?side1 ?side2 A5.out).mono ?_);(case side1 => repeat (first | (with_reducible first | exact HI103.out | apply IsS100.alloc | apply IsS100.drewN | apply IsS100.drew | apply IsS100.set_1) | exact HI103.out));(case side2 => repeat (first | (with_reducible first | exact HB.out | apply below_alloc | apply pw_below_drewN | apply below_drew1 | refine below_set ?_ (IsS100.ge HI103.out)) | exact HB.out));rintro e w9 ⟨v111, rfl, ho0, hi, hb, hk⟩;refine ⟨_, rfl, ?_⟩;have HO112 := Aside0.mk (Kd.N_lower (Kd.N_mono (ok' := fun k_ => (w.heap.size ≤ k_) ∧ some k_ ≠ (v107 : Value).ownBlock ∧ k_ ≠ g103) ho0 (fun k_ hk_ => ⟨(Nat.le_trans (below_size (by repeat (first | (with_reducible first | exact HB.out | apply below_alloc | apply pw_below_drewN | apply below_drew1 | refine below_set ?_ (IsS100.ge HI103.out)) | exact HB.out))) hk_), (Kd.fresh' (Kd.N_lt (by exact HO108.out)) k_ hk_), (IsS100.fresh (by repeat (first | (with_reducible first | exact HI103.out | apply IsS100.alloc | apply IsS100.drewN | apply IsS100.drew | apply IsS100.set_1) | exact HI103.out)) k_ hk_)⟩)) (below_size (by repeat (first | (with_reducible first | exact HB.out | apply below_alloc | apply pw_below_drewN | apply below_drew1 | refine below_set ?_ (IsS100.ge HI103.out)) | exact HB.out))));replace HO108 := Aside0.mk (Kd.N_mono (Kd.N_told (Kd.N_oldK (Kd.N_mono (ok := fun k_ => (((w.heap.size ≤ k_)) ∧ k_ ≠ g103)) (by exact HO108.out) (fun k_ hk_ => (⟨hk_, hk_.2⟩ : _ ∧ k_ ≠ g103))) hk) (by first | exact Kd.N_base ho0 | exact Kd.S_base ho0)) (fun _ h_ => h_.1));replace HB := Aside0.mk (hb);replace HI103 := Aside0.mk (hi);(try clear hb);(try clear hb2);(try clear hk);(try clear hi);(try clear ho0)))
 go_ret3
 exact ⟨_, _, by first | rfl | (simp [errW_none, errW_some] <;> rfl) | (simp [*, errW_none, errW_some] <;> rfl), by (with_reducible repeat (first | apply Kd.N_alloc | apply Kd.N_drewN | apply Kd.N_drew));exact Kd.N_mono HO108.out (fun _ hk => ⟨hk.1.1, hk.2⟩), by (with_reducible repeat (first | apply Kd.N_alloc | apply Kd.N_drewN | apply Kd.N_drew));exact Kd.N_mono HO112.out (fun _ hk => ⟨hk.1, hk.2.1⟩), by repeat (first | (with_reducible first | exact HB.out | apply below_alloc | apply pw_below_drewN | apply below_drew1 | refine below_set ?_ (IsS100.ge HI103.out)) | exact HB.out)⟩

end Go.Proofs.Ytiplpckgmikmeaa.M
namespace Go.Proofs.Ytiplpckgmikmeaa.M
open Go.RowKit Go.Proofs.YtiplpckgmikmeaaW.PrintWords Go.Proofs.YtiplpckgmikmeaaW.PrintLast Go.Proofs.YtiplpckgmikmeaaW.PrintMore
attribute [local go_sem] max2_int min2_int max_two min_two max_three min_three max_four min_four
set_option linter.unusedVariables false
set_option linter.unusedSimpArgs false

def spec_DrawOrOf.f (k : Nat) (l0 : List Int) : Option ((List (S27)) × (List (S27))) := (spec_DrawSeqOf.f k l0).bind fun bt101 => (some (bt101.2.1, bt101.2.2))
theorem spec_DrawOrOf.mono : ∀ a0 k, LeO (spec_DrawOrOf.f k a0) (spec_DrawOrOf.f (k + 1) a0) := by
 intro a0 k
 unfold spec_DrawOrOf.f
 repeat' first
   | (with_reducible exact spec_DrawSeqOf.mono _ _)
   | (with_reducible exact LeO.refl _)
   | (with_reducible exact LeO.none _)
   | (with_reducible refine LeO.ite ?_ ?_)
   | (with_reducible refine LeO.bind ?_ (fun _ => ?_))
   | exact spec_DrawSeqOf.mono _ _
   | exact LeO.none _
   | refine LeO.ite ?_ ?_
   | refine LeO.bind ?_ (fun _ => ?_)
set_option maxHeartbeats 8000000 in
set_option maxRecDepth 100000 in
theorem spec_DrawOrOf.calls (k : Nat) (A0 : Option Addr) (c0 : Nat) (l0 : List Int) (r1 : List (S27)) (r2 : List (S27)) (w : World) (hr0 : Kd.C (Kd.int .u8) w A0 l0.length l0) (hc0 : l0.length ≤ c0) (h : spec_DrawOrOf.f k l0 = some (r1, r2)) :
  Calls Try.prog 59 #[.slice A0 l0.length c0] w fun e w' => ∃ v0_ v1_ : Value, e = .returned (.tuple #[v0_, v1_]) ∧ Kd.N k27 27 w' w.heap.size (fun k_ => (w.heap.size ≤ k_) ∧ some k_ ≠ (v1_ : Value).ownBlock) v0_ r1 ∧ Kd.N k27 27 w' w.heap.size (fun k_ => (w.heap.size ≤ k_) ∧ some k_ ≠ (v0_ : Value).ownBlock) v1_ r2 ∧ Below w.heap.size w w' := by
 have HR0 := Aside0.mk hr0
 have HC0 := Aside0.mk hc0
 clear hr0 hc0
 have HB := Aside0.mk (Below.refl w.heap.size w)
 have H : ((spec_DrawSeqOf.f k l0).bind fun bt101 => (some (bt101.2.1, bt101.2.2))) = some (r1, r2) := h
 clear h
 replace H := Option.bind_eq_some_iff.mp H
 obtain ⟨⟨t101, t102, t105⟩, A20, H⟩ := H
 replace H : (some (t102, t105)) = some (r1, r2) := H
 have A2 := Aside0.mk A20
 clear A20
 simp only [Option.some.injEq, Prod.mk.injEq] at H
 obtain ⟨rfl, rfl⟩ := H
 go_enter Try.func59, Try.ntmps59
 go_wp2_with (first | ((with_reducible refine gate_callee (f := 90) rfl ?_);refine goesL_ (some 9) rfl rfl Try.func90 (by kernel_rfl) rfl #[.slice A0 l0.length c0] rfl (by (try simp only [List.map_toArray, List.map_cons, List.map_nil]);first | done | rfl | (simp only [List.length_drop, List.length_take];rfl)) ?_;(with_reducible refine (spec_DrawSeqOf.calls k _ _ l0 t101 t102 t105 _ ?side1 ?side2 A2.out).mono ?_);(case side1 => repeat (first | exact HR0.out | (with_reducible refine Kd.C_alloc ?_ _) | (with_reducible refine Kd.C_drewN ?_ _) | (with_reducible refine Kd.C_drew ?_)));(case side2 => exact HC0.out);rintro e w3 ⟨v103, v106, rfl, ho0, ho1, hb⟩;refine ⟨_, rfl, ?_⟩;have HO104 := Aside0.mk (Kd.N_lower (Kd.N_mono (ok' := fun k_ => (w.heap.size ≤ k_) ∧ some k_ ≠ (v106 : Value).ownBlock) ho0 (fun k_ hk_ => ⟨(Nat.le_trans (below_size (by exact HB.out)) hk_.1), hk_.2⟩)) (below_size (by exact HB.out)));have HO107 := Aside0.mk (Kd.N_lower (Kd.N_mono (ok' := fun k_ => (w.heap.size ≤ k_) ∧ some k_ ≠ (v103 : Value).ownBlock) ho1 (fun k_ hk_ => ⟨(Nat.le_trans (below_size (by exact HB.out)) hk_.1), hk_.2⟩)) (below_size (by exact HB.out)));replace HB := Aside0.mk (below_step (by exact HB.out) hb);(try clear hb);(try clear hb2);(try clear hk);(try clear hi);(try clear ho0);(try clear ho1)))
 go_ret2
 exact ⟨_, _, by first | rfl | (simp [errW_none, errW_some] <;> rfl) | (simp [*, errW_none, errW_some] <;> rfl), by (with_reducible repeat (first | apply Kd.N_alloc | apply Kd.N_drewN | apply Kd.N_drew));exact HO104.out, by (with_reducible repeat (first | apply Kd.N_alloc | apply Kd.N_drewN | apply Kd.N_drew));exact HO107.out, by repeat (first | (with_reducible first | exact HB.out | apply below_alloc | apply pw_below_drewN | apply below_drew1) | exact HB.out)⟩

end Go.Proofs.Ytiplpckgmikmeaa.M
namespace Go.Proofs.Ytiplpckgmikmeaa.M
open Go.RowKit Go.Proofs.YtiplpckgmikmeaaW.PrintWords Go.Proofs.YtiplpckgmikmeaaW.PrintLast Go.Proofs.YtiplpckgmikmeaaW.PrintMore
attribute [local go_sem] max2_int min2_int max_two min_two max_three min_three max_four min_four
set_option linter.unusedVariables false
set_option linter.unusedSimpArgs false

mutual
def laws_FnOr.j0 : Nat → List (S27) → List (S27) → List (S27) → Bool → Bool → Option (Bool)
 | 0, _, _, _, _, _ => none
 | k + 1, x3, x4, x5, x6, x42 => if x42 = true then (some false) else (if x6 = true then ((impl_OrOf.f k x4 x3).bind fun bt116 => ((impl_OrOf.f k x3 x3).bind fun bt120 => (laws_FnOr.l0 k x3 x4 x5 bt116.1 bt116.2 bt120.1 bt120.2 0))) else (some ((x5.length : Int) == 0)))
def laws_FnOr.l0 : Nat → List (S27) → List (S27) → List (S27) → List (S27) → Bool → List (S27) → Bool → Int → Option (Bool)
 | 0, _, _, _, _, _, _, _, _ => none
 | k + 1, x3, x4, x5, x9, x10, x11, x12, x13 => if x13 < (x3.length : Int) then (if 0 ≤ x13 then ((impl_OccsPut.f k x5 ((rd_T27 x3 x13).f0) ((rd_T27 x3 x13).f1) ((rd_T27 x3 x13).f2)).bind fun t125 => (if (t125.length : Int) = (x5.length : Int) then (laws_FnOr.l0 k x3 x4 x5 x9 x10 x11 x12 (wrap64 (x13 + 1))) else (some false))) else (none)) else (if x10 = true then (if x12 = true then ((impl_OccsSame.f k x9 x5).bind fun t128 => (if t128 = true then ((impl_OccsSame.f k x11 x3).bind fun t129 => (if t129 = true then (if (x5.length : Int) ≤ (wrap64 ((x3.length : Int) + (x4.length : Int))) then ((impl_OccsOk.f k x5).bind fun t130 => (some t130)) else (some false)) else (some false))) else (some false))) else (some false)) else (some false))
end
def laws_FnOr.f (k : Nat) (l0 : List Int) : Option (Bool) := if (l0.length : Int) > 1048576 then (some true) else ((spec_DrawOrOf.f k l0).bind fun bt101 => ((impl_OrOf.f k bt101.1 bt101.2).bind fun bt107 => ((spec_OrOf.f k bt101.1 bt101.2).bind fun bt111 => (if (bt107.2 != bt111.2) = true then (laws_FnOr.j0 k bt101.1 bt101.2 bt107.1 bt107.2 true) else ((impl_OccsSame.f k bt107.1 bt111.1).bind fun t115 => (laws_FnOr.j0 k bt101.1 bt101.2 bt107.1 bt107.2 (!t115)))))))
theorem laws_FnOr.mono_l : ∀ k, (∀ y0 y1 y2 y3 y4, LeO (laws_FnOr.j0 k y0 y1 y2 y3 y4) (laws_FnOr.j0 (k + 1) y0 y1 y2 y3 y4)) ∧ (∀ y0 y1 y2 y3 y4 y5 y6 y7, LeO (laws_FnOr.l0 k y0 y1 y2 y3 y4 y5 y6 y7) (laws_FnOr.l0 (k + 1) y0 y1 y2 y3 y4 y5 y6 y7))
 | 0 => ⟨fun _ _ _ _ _ r h => by simp [laws_FnOr.j0] at h, fun _ _ _ _ _ _ _ _ r h => by simp [laws_FnOr.l0] at h⟩
 | k + 1 => by
  obtain ⟨ih0, ih1⟩ := laws_FnOr.mono_l k
  refine ⟨?_, ?_⟩
  ·intro y0 y1 y2 y3 y4
   unfold laws_FnOr.j0
   repeat' first
   | (with_reducible exact ih0 _ _ _ _ _)
   | (with_reducible exact ih1 _ _ _ _ _ _ _ _)
   | (with_reducible exact impl_OccsOk.mono _ _)
   | (with_reducible exact impl_OccsPut.mono _ _ _ _ _)
   | (with_reducible exact impl_OccsSame.mono _ _ _)
   | (with_reducible exact impl_OrOf.mono _ _ _)
   | (with_reducible exact spec_DrawOrOf.mono _ _)
   | (with_reducible exact spec_OrOf.mono _ _ _)
   | (with_reducible exact LeO.refl _)
   | (with_reducible exact LeO.none _)
   | (with_reducible refine LeO.ite ?_ ?_)
   | (with_reducible refine LeO.bind ?_ (fun _ => ?_))
   | exact ih0 _ _ _ _ _
   | exact ih1 _ _ _ _ _ _ _ _
   | exact impl_OccsOk.mono _ _
   | exact impl_OccsPut.mono _ _ _ _ _
   | exact impl_OccsSame.mono _ _ _
   | exact impl_OrOf.mono _ _ _
   | exact spec_DrawOrOf.mono _ _
   | exact spec_OrOf.mono _ _ _
   | exact LeO.none _
   | refine LeO.ite ?_ ?_
   | refine LeO.bind ?_ (fun _ => ?_)
  ·intro y0 y1 y2 y3 y4 y5 y6 y7
   unfold laws_FnOr.l0
   repeat' first
   | (with_reducible exact ih0 _ _ _ _ _)
   | (with_reducible exact ih1 _ _ _ _ _ _ _ _)
   | (with_reducible exact impl_OccsOk.mono _ _)
   | (with_reducible exact impl_OccsPut.mono _ _ _ _ _)
   | (with_reducible exact impl_OccsSame.mono _ _ _)
   | (with_reducible exact impl_OrOf.mono _ _ _)
   | (with_reducible exact spec_DrawOrOf.mono _ _)
   | (with_reducible exact spec_OrOf.mono _ _ _)
   | (with_reducible exact LeO.refl _)
   | (with_reducible exact LeO.none _)
   | (with_reducible refine LeO.ite ?_ ?_)
   | (with_reducible refine LeO.bind ?_ (fun _ => ?_))
   | exact ih0 _ _ _ _ _
   | exact ih1 _ _ _ _ _ _ _ _
   | exact impl_OccsOk.mono _ _
   | exact impl_OccsPut.mono _ _ _ _ _
   | exact impl_OccsSame.mono _ _ _
   | exact impl_OrOf.mono _ _ _
   | exact spec_DrawOrOf.mono _ _
   | exact spec_OrOf.mono _ _ _
   | exact LeO.none _
   | refine LeO.ite ?_ ?_
   | refine LeO.bind ?_ (fun _ => ?_)
theorem laws_FnOr.mono : ∀ a0 k, LeO (laws_FnOr.f k a0) (laws_FnOr.f (k + 1) a0) := by
 intro a0 k
 obtain ⟨ih0, ih1⟩ := laws_FnOr.mono_l k
 unfold laws_FnOr.f
 repeat' first
   | (with_reducible exact ih0 _ _ _ _ _)
   | (with_reducible exact ih1 _ _ _ _ _ _ _ _)
   | (with_reducible exact impl_OccsOk.mono _ _)
   | (with_reducible exact impl_OccsPut.mono _ _ _ _ _)
   | (with_reducible exact impl_OccsSame.mono _ _ _)
   | (with_reducible exact impl_OrOf.mono _ _ _)
   | (with_reducible exact spec_DrawOrOf.mono _ _)
   | (with_reducible exact spec_OrOf.mono _ _ _)
   | (with_reducible exact LeO.refl _)
   | (with_reducible exact LeO.none _)
   | (with_reducible refine LeO.ite ?_ ?_)
   | (with_reducible refine LeO.bind ?_ (fun _ => ?_))
   | exact ih0 _ _ _ _ _
   | exact ih1 _ _ _ _ _ _ _ _
   | exact impl_OccsOk.mono _ _
   | exact impl_OccsPut.mono _ _ _ _ _
   | exact impl_OccsSame.mono _ _ _
   | exact impl_OrOf.mono _ _ _
   | exact spec_DrawOrOf.mono _ _
   | exact spec_OrOf.mono _ _ _
   | exact LeO.none _
   | refine LeO.ite ?_ ?_
   | refine LeO.bind ?_ (fun _ => ?_)
set_option maxHeartbeats 8000000 in
set_option maxRecDepth 100000 in
theorem laws_FnOr.calls (k : Nat) (A0 : Option Addr) (c0 : Nat) (l0 : List Int) (r : Bool) (hT_ : Aside0 (r = true)) (w : World) (hr0 : Kd.C (Kd.int .u8) w A0 l0.length l0) (hc0 : l0.length ≤ c0) (h : laws_FnOr.f k l0 = some r) :
  Calls Try.prog 15 #[.slice A0 l0.length c0] w fun e w' => e = .returned (.bool r) ∧ Below w.heap.size w w' := by
 have hu27 := Try.underlying27
 have HR0 := Aside0.mk hr0
 have HC0 := Aside0.mk hc0
 clear hr0 hc0
 have HB := Aside0.mk (Below.refl w.heap.size w)
 have H : (if (l0.length : Int) > 1048576 then (some true) else ((spec_DrawOrOf.f k l0).bind fun bt101 => ((impl_OrOf.f k bt101.1 bt101.2).bind fun bt107 => ((spec_OrOf.f k bt101.1 bt101.2).bind fun bt111 => (if (bt107.2 != bt111.2) = true then (laws_FnOr.j0 k bt101.1 bt101.2 bt107.1 bt107.2 true) else ((impl_OccsSame.f k bt107.1 bt111.1).bind fun t115 => (laws_FnOr.j0 k bt101.1 bt101.2 bt107.1 bt107.2 (!t115)))))))) = some r := h
 clear h
 by_cases c2 : (l0.length : Int) > 1048576
 ·rw [if_pos c2] at H
  have c2b0 : decide (1048576 < (l0.length : Int)) = true := decide_eq_true c2
  have c2b1 : decide (1048576 < l0.length) = true := decide_eq_true (by omega)
  clear c2
  obtain rfl := Option.some.inj H
  go_enter Try.func15, Try.ntmps15
  go_wp2
  go_ret
  exact ⟨by first | rfl | (simp [errW_none, errW_some] <;> rfl) | (simp [*, errW_none, errW_some] <;> rfl), by repeat (first | (with_reducible first | exact HB.out | apply below_alloc | apply pw_below_drewN | apply below_drew1) | exact HB.out)⟩
 ·rw [if_neg c2] at H
  have c2b0 : decide (1048576 < (l0.length : Int)) = false := decide_eq_false c2
  have c2b1 : decide (1048576 < l0.length) = false := decide_eq_false (by omega)
  clear c2
  replace H := Option.bind_eq_some_iff.mp H
  obtain ⟨⟨t101, t104⟩, A30, H⟩ := H
  replace H : ((impl_OrOf.f k t101 t104).bind fun bt107 => ((spec_OrOf.f k t101 t104).bind fun bt111 => (if (bt107.2 != bt111.2) = true then (laws_FnOr.j0 k t101 t104 bt107.1 bt107.2 true) else ((impl_OccsSame.f k bt107.1 bt111.1).bind fun t115 => (laws_FnOr.j0 k t101 t104 bt107.1 bt107.2 (!t115)))))) = some r := H
  have A3 := Aside0.mk A30
  clear A30
  replace H := Option.bind_eq_some_iff.mp H
  obtain ⟨⟨t107, t108⟩, A40, H⟩ := H
  replace H : ((spec_OrOf.f k t101 t104).bind fun bt111 => (if (t108 != bt111.2) = true then (laws_FnOr.j0 k t101 t104 t107 t108 true) else ((impl_OccsSame.f k t107 bt111.1).bind fun t115 => (laws_FnOr.j0 k t101 t104 t107 t108 (!t115))))) = some r := H
  have A4 := Aside0.mk A40
  clear A40
  replace H := Option.bind_eq_some_iff.mp H
  obtain ⟨⟨t111, t112⟩, A50, H⟩ := H
  replace H : (if (t108 != t112) = true then (laws_FnOr.j0 k t101 t104 t107 t108 true) else ((impl_OccsSame.f k t107 t111).bind fun t115 => (laws_FnOr.j0 k t101 t104 t107 t108 (!t115)))) = some r := H
  have A5 := Aside0.mk A50
  clear A50
  have HC6 := Aside0.mk H
  clear H
  go_enter Try.func15, Try.ntmps15
  go_upto_region 6 with (first | ((with_reducible refine gate_callee (f := 59) rfl ?_);refine goesL_ (some 19) rfl rfl Try.func59 (by kernel_rfl) rfl #[.slice A0 l0.length c0] rfl (by (try simp only [List.map_toArray, List.map_cons, List.map_nil]);first | done | rfl | (simp only [List.length_drop, List.length_take];rfl)) ?_;(with_reducible refine (spec_DrawOrOf.calls k _ _ l0 t101 t104 _ ?side1 ?side2 A3.out).mono ?_);(case side1 => repeat (first | exact HR0.out | (with_reducible refine Kd.C_alloc ?_ _) | (with_reducible refine Kd.C_drewN ?_ _) | (with_reducible refine Kd.C_drew ?_)));(case side2 => exact HC0.out);rintro e w7 ⟨v102, v105, rfl, ho0, ho1, hb⟩;refine ⟨_, rfl, ?_⟩;have n0_ := Aside0.mk (Kd.N_lower (Kd.N_mono (ok' := fun k_ => some k_ ≠ (v105 : Value).ownBlock) ho0 (fun k_ hk_ => hk_.2)) (below_size (by exact HB.out)));have n1_ := Aside0.mk (Kd.N_lower (Kd.N_mono (ok' := fun k_ => some k_ ≠ (v102 : Value).ownBlock) ho1 (fun k_ hk_ => hk_.2)) (below_size (by exact HB.out)));have n2_ := Aside0.mk (below_step (by exact HB.out) hb);clear HB;have HO103 := n0_;have HO106 := n1_;have HB := n2_;clear n0_ n1_ n2_;(try clear hb);(try clear hb2);(try clear hk);(try clear hi);(try clear ho0);(try clear ho1);obtain ⟨Ao8, co8, eo8⟩ := Kd.N_slice HO103.out;subst eo8;obtain ⟨Ao9, co9, eo9⟩ := Kd.N_slice HO106.out;subst eo9) | ((with_reducible refine gate_callee (f := 58) rfl ?_);refine goesL_ (some 25) rfl rfl Try.func58 (by kernel_rfl) rfl #[.slice Ao8 t101.length co8, .slice Ao9 t104.length co9] rfl (by (try simp only [List.map_toArray, List.map_cons, List.map_nil]);first | done | rfl | (simp only [List.length_drop, List.length_take];rfl)) ?_;(with_reducible refine (impl_OrOf.calls k _ _ t101 _ _ t104 t107 t108 _ ?side1 ?side2 ?side3 ?side4 A4.out).mono ?_);(case side1 => repeat (first | exact (Kd.N_reads' HO103.out).2.2 | (with_reducible refine Kd.C_alloc ?_ _) | (with_reducible refine Kd.C_drewN ?_ _) | (with_reducible refine Kd.C_drew ?_)));(case side2 => exact (Kd.N_reads' HO103.out).2.1);(case side3 => repeat (first | exact (Kd.N_reads' HO106.out).2.2 | (with_reducible refine Kd.C_alloc ?_ _) | (with_reducible refine Kd.C_drewN ?_ _) | (with_reducible refine Kd.C_drew ?_)));(case side4 => exact (Kd.N_reads' HO106.out).2.1);rintro e w10 ⟨v109, rfl, ho0, hb⟩;refine ⟨_, rfl, ?_⟩;have n0_ := Aside0.mk (Kd.N_elder' (by (with_reducible repeat (first | apply Kd.N_alloc | apply Kd.N_drewN | apply Kd.N_drew));exact HO103.out) (by first | exact Kd.N_base ho0 | exact Kd.S_base ho0) hb);have n1_ := Aside0.mk (Kd.N_elder' (by (with_reducible repeat (first | apply Kd.N_alloc | apply Kd.N_drewN | apply Kd.N_drew));exact HO106.out) (by first | exact Kd.N_base ho0 | exact Kd.S_base ho0) hb);have n2_ := Aside0.mk (Kd.N_lower (Kd.N_mono (ok' := fun k_ => some k_ ≠ (.slice Ao8 t101.length co8 : Value).ownBlock ∧ some k_ ≠ (.slice Ao9 t104.length co9 : Value).ownBlock) (Kd.S_N (Kd.S_bound ho0)) (fun k_ hk_ => ⟨(Kd.fresh' (Kd.N_lt (by (with_reducible repeat (first | apply Kd.N_alloc | apply Kd.N_drewN | apply Kd.N_drew));exact HO103.out)) k_ hk_.2.1), (Kd.fresh' (Kd.N_lt (by (with_reducible repeat (first | apply Kd.N_alloc | apply Kd.N_drewN | apply Kd.N_drew));exact HO106.out)) k_ hk_.2.1)⟩)) (below_size (by exact HB.out)));have n3_ := Aside0.mk (below_step (by exact HB.out) hb);clear HO103;clear HO106;clear HB;have HO103 := n0_;have HO106 := n1_;have HO110 := n2_;have HB := n3_;clear n0_ n1_ n2_ n3_;(try clear hb);(try clear hb2);(try clear hk);(try clear hi);(try clear ho0)) | ((with_reducible refine gate_callee (f := 57) rfl ?_);refine goesL_ (some 31) rfl rfl Try.func57 (by kernel_rfl) rfl #[.slice Ao8 t101.length co8, .slice Ao9 t104.length co9] rfl (by (try simp only [List.map_toArray, List.map_cons, List.map_nil]);first | done | rfl | (simp only [List.length_drop, List.length_take];rfl)) ?_;(with_reducible refine (spec_OrOf.calls k _ _ t101 _ _ t104 t111 t112 _ ?side1 ?side2 ?side3 ?side4 A5.out).mono ?_);(case side1 => repeat (first | exact (Kd.N_reads' HO103.out).2.2 | (with_reducible refine Kd.C_alloc ?_ _) | (with_reducible refine Kd.C_drewN ?_ _) | (with_reducible refine Kd.C_drew ?_)));(case side2 => exact (Kd.N_reads' HO103.out).2.1);(case side3 => repeat (first | exact (Kd.N_reads' HO106.out).2.2 | (with_reducible refine Kd.C_alloc ?_ _) | (with_reducible refine Kd.C_drewN ?_ _) | (with_reducible refine Kd.C_drew ?_)));(case side4 => exact (Kd.N_reads' HO106.out).2.1);rintro e w11 ⟨v113, rfl, ho0, hb⟩;refine ⟨_, rfl, ?_⟩;have n0_ := Aside0.mk (Kd.N_elder' (by (with_reducible repeat (first | apply Kd.N_alloc | apply Kd.N_drewN | apply Kd.N_drew));exact HO103.out) (by first | exact Kd.N_base ho0 | exact Kd.S_base ho0) hb);have n1_ := Aside0.mk (Kd.N_elder' (by (with_reducible repeat (first | apply Kd.N_alloc | apply Kd.N_drewN | apply Kd.N_drew));exact HO106.out) (by first | exact Kd.N_base ho0 | exact Kd.S_base ho0) hb);have n2_ := Aside0.mk (Kd.N_elder' (by (with_reducible repeat (first | apply Kd.N_alloc | apply Kd.N_drewN | apply Kd.N_drew));exact HO110.out) (by first | exact Kd.N_base ho0 | exact Kd.S_base ho0) hb);have n3_ := Aside0.mk (Kd.N_lower (Kd.N_mono (ok' := fun k_ => some k_ ≠ (.slice Ao8 t101.length co8 : Value).ownBlock ∧ some k_ ≠ (.slice Ao9 t104.length co9 : Value).ownBlock ∧ some k_ ≠ (v109 : Value).ownBlock) (Kd.S_N (Kd.S_bound ho0)) (fun k_ hk_ => ⟨(Kd.fresh' (Kd.N_lt (by (with_reducible repeat (first | apply Kd.N_alloc | apply Kd.N_drewN | apply Kd.N_drew));exact HO103.out)) k_ hk_.2.1), (Kd.fresh' (Kd.N_lt (by (with_reducible repeat (first | apply Kd.N_alloc | apply Kd.N_drewN | apply Kd.N_drew));exact HO106.out)) k_ hk_.2.1), (Kd.fresh' (Kd.N_lt (by (with_reducible repeat (first | apply Kd.N_alloc | apply Kd.N_drewN | apply Kd.N_drew));exact HO110.out)) k_ hk_.2.1)⟩)) (below_size (by exact HB.out)));have n4_ := Aside0.mk (below_step (by exact HB.out) hb);clear HO103;clear HO106;clear HO110;clear HB;have HO103 := n0_;have HO106 := n1_;have HO110 := n2_;have HO114 := n3_;have HB := n4_;clear n0_ n1_ n2_ n3_ n4_;(try clear hb);(try clear hb2);(try clear hk);(try clear hi);(try clear ho0)))
  (try simp only [Act.put, List.setIfInBounds_toArray, List.set_cons_zero, List.set_cons_succ])
  go_cut [42] (fun v42 wc => ∃ (kq : Nat) (x42_5 : Bool), v42 = .bool x42_5 ∧ Aside0 (laws_FnOr.j0 kq t101 t104 t107 t108 x42_5 = some r) ∧ Aside0 (kq ≤ k) ∧ Aside0 (Kd.N k27 27 wc w.heap.size (fun k_ => some k_ ≠ ((.slice Ao9 t104.length co9) : Value).ownBlock ∧ some k_ ≠ (v109 : Value).ownBlock) (.slice Ao8 t101.length co8) t101) ∧ Aside0 (Kd.N k27 27 wc w.heap.size (fun k_ => some k_ ≠ ((.slice Ao8 t101.length co8) : Value).ownBlock ∧ some k_ ≠ (v109 : Value).ownBlock) (.slice Ao9 t104.length co9) t104) ∧ Aside0 (Kd.N k27 27 wc w.heap.size (fun k_ => some k_ ≠ ((.slice Ao8 t101.length co8) : Value).ownBlock ∧ some k_ ≠ ((.slice Ao9 t104.length co9) : Value).ownBlock) v109 t107) ∧ Aside0 (Below w.heap.size w wc))
  case first =>
   have H := HC6.out
   clear HC6
   by_cases c12 : (t108 != t112) = true
   ·rw [if_pos c12] at H
    have c12b0 : (t108 != t112) = true := c12
    (try (have c12b1 : decide (t108 = t112) = false := by simpa using c12))
    (try (have c12b2 : (t108 == t112) = false := by simpa using c12))
    (try (have c12b3 : ¬ (t108 = t112) := by simpa using c12))
    clear c12
    (first | rw [c12b0] | (simp only [i64_w, i32_w];rw [c12b0]) | skip)
    have H' := Aside0.mk H
    clear H
    go_wp2
    go_meet
    case rel => exact ⟨_, (true), (by first | rfl | (simp;done) | (simp [*];done)), H', ⟨by first | omega | exact Nat.le_refl _⟩, ⟨by (with_reducible repeat (first | apply Kd.N_alloc | apply Kd.N_drewN | apply Kd.N_drew));exact Kd.N_mono HO103.out (fun _ hk => ⟨hk.1.1, hk.1.2⟩)⟩, ⟨by (with_reducible repeat (first | apply Kd.N_alloc | apply Kd.N_drewN | apply Kd.N_drew));exact Kd.N_mono HO106.out (fun _ hk => ⟨hk.1.1, hk.1.2⟩)⟩, ⟨by (with_reducible repeat (first | apply Kd.N_alloc | apply Kd.N_drewN | apply Kd.N_drew));exact Kd.N_mono HO110.out (fun _ hk => ⟨hk.1.1, hk.1.2⟩)⟩, ⟨by repeat (first | (with_reducible first | exact HB.out | apply below_alloc | apply pw_below_drewN | apply below_drew1) | exact HB.out)⟩⟩
   ·rw [if_neg c12] at H
    have c12b0 : (t108 != t112) = false := by simpa using c12
    (try (have c12b1 : decide (t108 = t112) = true := by simpa using c12))
    (try (have c12b2 : (t108 == t112) = true := by simpa using c12))
    clear c12
    (first | rw [c12b0] | (simp only [i64_w, i32_w];rw [c12b0]) | skip)
    replace H := Option.bind_eq_some_iff.mp H
    obtain ⟨t115, A130, H⟩ := H
    replace H : (laws_FnOr.j0 k t101 t104 t107 t108 (!t115)) = some r := H
    have A13 := Aside0.mk A130
    clear A130
    have H' := Aside0.mk H
    clear H
    obtain ⟨Ao14, co14, eo14⟩ := Kd.N_slice HO110.out
    subst eo14
    obtain ⟨Ao15, co15, eo15⟩ := Kd.N_slice HO114.out
    subst eo15
    go_wp2_with (first | (go_at_call 26;(with_reducible refine (impl_OccsSame.calls k _ _ t107 _ _ t111 t115 _ ?side1 ?side2 ?side3 ?side4 A13.out).mono ?_);(case side1 => repeat (first | exact (Kd.N_reads' HO110.out).2.2 | (with_reducible refine Kd.C_alloc ?_ _) | (with_reducible refine Kd.C_drewN ?_ _) | (with_reducible refine Kd.C_drew ?_)));(case side2 => exact (Kd.N_reads' HO110.out).2.1);(case side3 => repeat (first | exact (Kd.N_reads' HO114.out).2.2 | (with_reducible refine Kd.C_alloc ?_ _) | (with_reducible refine Kd.C_drewN ?_ _) | (with_reducible refine Kd.C_drew ?_)));(case side4 => exact (Kd.N_reads' HO114.out).2.1);rintro e w16 ⟨rfl, hb⟩;have n0_ := Aside0.mk (Kd.N_below (by (with_reducible repeat (first | apply Kd.N_alloc | apply Kd.N_drewN | apply Kd.N_drew));exact HO103.out) hb);have n1_ := Aside0.mk (Kd.N_below (by (with_reducible repeat (first | apply Kd.N_alloc | apply Kd.N_drewN | apply Kd.N_drew));exact HO106.out) hb);have n2_ := Aside0.mk (Kd.N_below (by (with_reducible repeat (first | apply Kd.N_alloc | apply Kd.N_drewN | apply Kd.N_drew));exact HO110.out) hb);have n3_ := Aside0.mk (Kd.N_below (by (with_reducible repeat (first | apply Kd.N_alloc | apply Kd.N_drewN | apply Kd.N_drew));exact HO114.out) hb);have n4_ := Aside0.mk (below_step (by exact HB.out) hb);clear HO103;clear HO106;clear HO110;clear HO114;clear HB;have HO103 := n0_;have HO106 := n1_;have HO110 := n2_;have HO114 := n3_;have HB := n4_;clear n0_ n1_ n2_ n3_ n4_;(try clear hb);(try clear hb2);(try clear hk);(try clear hi)))
    go_meet
    case rel => exact ⟨_, (!t115), (by first | rfl | (simp;done) | (simp [*];done)), H', ⟨by first | omega | exact Nat.le_refl _⟩, ⟨by (with_reducible repeat (first | apply Kd.N_alloc | apply Kd.N_drewN | apply Kd.N_drew));exact Kd.N_mono HO103.out (fun _ hk => ⟨hk.1.1, hk.1.2⟩)⟩, ⟨by (with_reducible repeat (first | apply Kd.N_alloc | apply Kd.N_drewN | apply Kd.N_drew));exact Kd.N_mono HO106.out (fun _ hk => ⟨hk.1.1, hk.1.2⟩)⟩, ⟨by (with_reducible repeat (first | apply Kd.N_alloc | apply Kd.N_drewN | apply Kd.N_drew));exact Kd.N_mono HO110.out (fun _ hk => ⟨hk.1.1, hk.1.2⟩)⟩, ⟨by repeat (first | (with_reducible first | exact HB.out | apply below_alloc | apply pw_below_drewN | apply below_drew1) | exact HB.out)⟩⟩
  case rest =>
   clear HC6
   try clear c1
   try clear c2
   try clear c2b0
   try clear c2b1
   try clear p2
   try clear c5
   try clear c12
   try clear c12b0
   try clear c12b1
   try clear c12b2
   try clear c15
   obtain ⟨kq, x42_5, rfl, HA, HJ5, HO_3, HO_4, HO_5, HB⟩ := hcut
   cases kq with
   | zero => exact absurd HA.out (by simp [laws_FnOr.j0])
   | succ kj5 =>
    have H := HA.out
    clear HA
    simp only [laws_FnOr.j0] at H
    by_cases c17 : x42_5 = true
    ·subst c17
     have H1 : (some false) = some r := by rw [if_pos rfl] at H;exact H
     clear H
     have H := H1
     clear H1
     exact absurd (Option.some.inj H) (by rw [hT_.out];decide)
    ·replace c17 := Bool.eq_false_iff.mpr c17
     subst c17
     have H1 : (if t108 = true then ((impl_OrOf.f kj5 t104 t101).bind fun bt116 => ((impl_OrOf.f kj5 t101 t101).bind fun bt120 => (laws_FnOr.l0 kj5 t101 t104 t107 bt116.1 bt116.2 bt120.1 bt120.2 0))) else (some ((t107.length : Int) == 0))) = some r := by rw [if_neg (show ¬ (false = true) by decide)] at H;exact H
     clear H
     have H := H1
     clear H1
     by_cases c18 : t108 = true
     ·subst c18
      have H1 : ((impl_OrOf.f kj5 t104 t101).bind fun bt116 => ((impl_OrOf.f kj5 t101 t101).bind fun bt120 => (laws_FnOr.l0 kj5 t101 t104 t107 bt116.1 bt116.2 bt120.1 bt120.2 0))) = some r := by rw [if_pos rfl] at H;exact H
      clear H
      have H := H1
      clear H1
      replace H := Option.bind_eq_some_iff.mp H
      obtain ⟨⟨t116, t117⟩, A190, H⟩ := H
      replace H : ((impl_OrOf.f kj5 t101 t101).bind fun bt120 => (laws_FnOr.l0 kj5 t101 t104 t107 t116 t117 bt120.1 bt120.2 0)) = some r := H
      have A19 := Aside0.mk A190
      clear A190
      replace H := Option.bind_eq_some_iff.mp H
      obtain ⟨⟨t120, t121⟩, A200, H⟩ := H
      replace H : (laws_FnOr.l0 kj5 t101 t104 t107 t116 t117 t120 t121 0) = some r := H
      have A20 := Aside0.mk A200
      clear A200
      have H' := Aside0.mk H
      clear H
      go_wp2_with (first | ((with_reducible refine gate_callee (f := 58) rfl ?_);refine goesL_ (some 51) rfl rfl Try.func58 (by kernel_rfl) rfl #[.slice Ao9 t104.length co9, .slice Ao8 t101.length co8] rfl (by (try simp only [List.map_toArray, List.map_cons, List.map_nil]);first | done | rfl | (simp only [List.length_drop, List.length_take];rfl)) ?_;(with_reducible refine (impl_OrOf.calls kj5 _ _ t104 _ _ t101 t116 t117 _ ?side1 ?side2 ?side3 ?side4 A19.out).mono ?_);(case side1 => repeat (first | exact (Kd.N_reads' HO_4.out).2.2 | (with_reducible refine Kd.C_alloc ?_ _) | (with_reducible refine Kd.C_drewN ?_ _) | (with_reducible refine Kd.C_drew ?_)));(case side2 => exact (Kd.N_reads' HO_4.out).2.1);(case side3 => repeat (first | exact (Kd.N_reads' HO_3.out).2.2 | (with_reducible refine Kd.C_alloc ?_ _) | (with_reducible refine Kd.C_drewN ?_ _) | (with_reducible refine Kd.C_drew ?_)));(case side4 => exact (Kd.N_reads' HO_3.out).2.1);rintro e w21 ⟨v118, rfl, ho0, hb⟩;refine ⟨_, rfl, ?_⟩;have n0_ := Aside0.mk (Kd.N_elder' (by (with_reducible repeat (first | apply Kd.N_alloc | apply Kd.N_drewN | apply Kd.N_drew));exact HO_3.out) (by first | exact Kd.N_base ho0 | exact Kd.S_base ho0) hb);have n1_ := Aside0.mk (Kd.N_elder' (by (with_reducible repeat (first | apply Kd.N_alloc | apply Kd.N_drewN | apply Kd.N_drew));exact HO_4.out) (by first | exact Kd.N_base ho0 | exact Kd.S_base ho0) hb);have n2_ := Aside0.mk (Kd.N_elder' (by (with_reducible repeat (first | apply Kd.N_alloc | apply Kd.N_drewN | apply Kd.N_drew));exact HO_5.out) (by first | exact Kd.N_base ho0 | exact Kd.S_base ho0) hb);have n3_ := Aside0.mk (Kd.N_lower (Kd.N_mono (ok' := fun k_ => some k_ ≠ (.slice Ao8 t101.length co8 : Value).ownBlock ∧ some k_ ≠ (.slice Ao9 t104.length co9 : Value).ownBlock ∧ some k_ ≠ (v109 : Value).ownBlock) (Kd.S_N (Kd.S_bound ho0)) (fun k_ hk_ => ⟨(Kd.fresh' (Kd.N_lt (by (with_reducible repeat (first | apply Kd.N_alloc | apply Kd.N_drewN | apply Kd.N_drew));exact HO_3.out)) k_ hk_.2.1), (Kd.fresh' (Kd.N_lt (by (with_reducible repeat (first | apply Kd.N_alloc | apply Kd.N_drewN | apply Kd.N_drew));exact HO_4.out)) k_ hk_.2.1), (Kd.fresh' (Kd.N_lt (by (with_reducible repeat (first | apply Kd.N_alloc | apply Kd.N_drewN | apply Kd.N_drew));exact HO_5.out)) k_ hk_.2.1)⟩)) (below_size (by exact HB.out)));have n4_ := Aside0.mk (below_step (by exact HB.out) hb);clear HO_3;clear HO_4;clear HO_5;clear HB;have HO_3 := n0_;have HO_4 := n1_;have HO_5 := n2_;have HO119 := n3_;have HB := n4_;clear n0_ n1_ n2_ n3_ n4_;(try clear hb);(try clear hb2);(try clear hk);(try clear hi);(try clear ho0)) | ((with_reducible refine gate_callee (f := 58) rfl ?_);refine goesL_ (some 57) rfl rfl Try.func58 (by kernel_rfl) rfl #[.slice Ao8 t101.length co8, .slice Ao8 t101.length co8] rfl (by (try simp only [List.map_toArray, List.map_cons, List.map_nil]);first | done | rfl | (simp only [List.length_drop, List.length_take];rfl)) ?_;(with_reducible refine (impl_OrOf.calls kj5 _ _ t101 _ _ t101 t120 t121 _ ?side1 ?side2 ?side3 ?side4 A20.out).mono ?_);(case side1 => repeat (first | exact (Kd.N_reads' HO_3.out).2.2 | (with_reducible refine Kd.C_alloc ?_ _) | (with_reducible refine Kd.C_drewN ?_ _) | (with_reducible refine Kd.C_drew ?_)));(case side2 => exact (Kd.N_reads' HO_3.out).2.1);(case side3 => repeat (first | exact (Kd.N_reads' HO_3.out).2.2 | (with_reducible refine Kd.C_alloc ?_ _) | (with_reducible refine Kd.C_drewN ?_ _) | (with_reducible refine Kd.C_drew ?_)));(case side4 => exact (Kd.N_reads' HO_3.out).2.1);rintro e w22 ⟨v122, rfl, ho0, hb⟩;refine ⟨_, rfl, ?_⟩;have n0_ := Aside0.mk (Kd.N_elder' (by (with_reducible repeat (first | apply Kd.N_alloc | apply Kd.N_drewN | apply Kd.N_drew));exact HO_3.out) (by first | exact Kd.N_base ho0 | exact Kd.S_base ho0) hb);have n1_ := Aside0.mk (Kd.N_elder' (by (with_reducible repeat (first | apply Kd.N_alloc | apply Kd.N_drewN | apply Kd.N_drew));exact HO_4.out) (by first | exact Kd.N_base ho0 | exact Kd.S_base ho0) hb);have n2_ := Aside0.mk (Kd.N_elder' (by (with_reducible repeat (first | apply Kd.N_alloc | apply Kd.N_drewN | apply Kd.N_drew));exact HO_5.out) (by first | exact Kd.N_base ho0 | exact Kd.S_base ho0) hb);have n3_ := Aside0.mk (Kd.N_elder' (by (with_reducible repeat (first | apply Kd.N_alloc | apply Kd.N_drewN | apply Kd.N_drew));exact HO119.out) (by first | exact Kd.N_base ho0 | exact Kd.S_base ho0) hb);have n4_ := Aside0.mk (Kd.N_lower (Kd.N_mono (ok' := fun k_ => some k_ ≠ (.slice Ao8 t101.length co8 : Value).ownBlock ∧ some k_ ≠ (.slice Ao9 t104.length co9 : Value).ownBlock ∧ some k_ ≠ (v109 : Value).ownBlock ∧ some k_ ≠ (v118 : Value).ownBlock) (Kd.S_N (Kd.S_bound ho0)) (fun k_ hk_ => ⟨(Kd.fresh' (Kd.N_lt (by (with_reducible repeat (first | apply Kd.N_alloc | apply Kd.N_drewN | apply Kd.N_drew));exact HO_3.out)) k_ hk_.2.1), (Kd.fresh' (Kd.N_lt (by (with_reducible repeat (first | apply Kd.N_alloc | apply Kd.N_drewN | apply Kd.N_drew));exact HO_4.out)) k_ hk_.2.1), (Kd.fresh' (Kd.N_lt (by (with_reducible repeat (first | apply Kd.N_alloc | apply Kd.N_drewN | apply Kd.N_drew));exact HO_5.out)) k_ hk_.2.1), (Kd.fresh' (Kd.N_lt (by (with_reducible repeat (first | apply Kd.N_alloc | apply Kd.N_drewN | apply Kd.N_drew));exact HO119.out)) k_ hk_.2.1)⟩)) (below_size (by exact HB.out)));have n5_ := Aside0.mk (below_step (by exact HB.out) hb);clear HO_3;clear HO_4;clear HO_5;clear HO119;clear HB;have HO_3 := n0_;have HO_4 := n1_;have HO_5 := n2_;have HO119 := n3_;have HO123 := n4_;have HB := n5_;clear n0_ n1_ n2_ n3_ n4_ n5_;(try clear hb);(try clear hb2);(try clear hk);(try clear hi);(try clear ho0)))
      go_loopg [13] kj5 (fun kq v13 w' => ∃ (x13_2 : Int), v13 = .int .i64 x13_2 ∧ Aside0 (laws_FnOr.l0 kq t101 t104 t107 t116 t117 t120 t121 x13_2 = some r) ∧ Aside0 (kq ≤ kj5) ∧ Aside0 (Kd.N k27 27 w' w.heap.size (fun k_ => some k_ ≠ ((.slice Ao9 t104.length co9) : Value).ownBlock ∧ some k_ ≠ (v109 : Value).ownBlock ∧ some k_ ≠ (v118 : Value).ownBlock ∧ some k_ ≠ (v122 : Value).ownBlock) (.slice Ao8 t101.length co8) t101) ∧ Aside0 (Kd.N k27 27 w' w.heap.size (fun k_ => some k_ ≠ ((.slice Ao8 t101.length co8) : Value).ownBlock ∧ some k_ ≠ (v109 : Value).ownBlock ∧ some k_ ≠ (v118 : Value).ownBlock ∧ some k_ ≠ (v122 : Value).ownBlock) (.slice Ao9 t104.length co9) t104) ∧ Aside0 (Kd.N k27 27 w' w.heap.size (fun k_ => some k_ ≠ ((.slice Ao8 t101.length co8) : Value).ownBlock ∧ some k_ ≠ ((.slice Ao9 t104.length co9) : Value).ownBlock ∧ some k_ ≠ (v118 : Value).ownBlock ∧ some k_ ≠ (v122 : Value).ownBlock) v109 t107) ∧ Aside0 (Kd.N k27 27 w' w.heap.size (fun k_ => some k_ ≠ ((.slice Ao8 t101.length co8) : Value).ownBlock ∧ some k_ ≠ ((.slice Ao9 t104.length co9) : Value).ownBlock ∧ some k_ ≠ (v109 : Value).ownBlock ∧ some k_ ≠ (v122 : Value).ownBlock) v118 t116) ∧ Aside0 (Kd.N k27 27 w' w.heap.size (fun k_ => some k_ ≠ ((.slice Ao8 t101.length co8) : Value).ownBlock ∧ some k_ ≠ ((.slice Ao9 t104.length co9) : Value).ownBlock ∧ some k_ ≠ (v109 : Value).ownBlock ∧ some k_ ≠ (v118 : Value).ownBlock) v122 t120) ∧ Aside0 (Below w.heap.size w w'))
      case atStart => exact ⟨(0), (by first | rfl | (simp;done) | (simp [*];done)), H', ⟨Nat.le_refl _⟩, ⟨by (with_reducible repeat (first | apply Kd.N_alloc | apply Kd.N_drewN | apply Kd.N_drew));exact Kd.N_mono HO_3.out (fun _ hk => ⟨hk.1.1.1, ⟨hk.1.1.2, ⟨hk.1.2, hk.2⟩⟩⟩)⟩, ⟨by (with_reducible repeat (first | apply Kd.N_alloc | apply Kd.N_drewN | apply Kd.N_drew));exact Kd.N_mono HO_4.out (fun _ hk => ⟨hk.1.1.1, ⟨hk.1.1.2, ⟨hk.1.2, hk.2⟩⟩⟩)⟩, ⟨by (with_reducible repeat (first | apply Kd.N_alloc | apply Kd.N_drewN | apply Kd.N_drew));exact Kd.N_mono HO_5.out (fun _ hk => ⟨hk.1.1.1, ⟨hk.1.1.2, ⟨hk.1.2, hk.2⟩⟩⟩)⟩, ⟨by (with_reducible repeat (first | apply Kd.N_alloc | apply Kd.N_drewN | apply Kd.N_drew));exact Kd.N_mono HO119.out (fun _ hk => ⟨hk.1.1, ⟨hk.1.2.1, ⟨hk.1.2.2, hk.2⟩⟩⟩)⟩, ⟨by (with_reducible repeat (first | apply Kd.N_alloc | apply Kd.N_drewN | apply Kd.N_drew));exact HO123.out⟩, ⟨by repeat (first | (with_reducible first | exact HB.out | apply below_alloc | apply pw_below_drewN | apply below_drew1) | exact HB.out)⟩⟩
      case round =>
       clear H'
       try clear c1
       try clear c2
       try clear c2b0
       try clear c2b1
       try clear p2
       try clear c5
       try clear c12
       try clear c12b0
       try clear c12b1
       try clear c12b2
       try clear c15
       try clear c17
       try clear c18
       try clear p2
       obtain ⟨x13_2, rfl, HA, HK2, HO_3, HO_4, HO_5, HO_9, HO_11, HB⟩ := hrel
       cases gk with
       | zero => exact absurd HA.out (by simp [laws_FnOr.l0])
       | succ k2 =>
        have H := HA.out
        clear HA
        simp only [laws_FnOr.l0] at H
        by_cases c23 : x13_2 < (t101.length : Int)
        ·rw [if_pos c23] at H
         have c23b0 : decide (x13_2 < (t101.length : Int)) = true := decide_eq_true c23
         clear c23
         by_cases c24 : 0 ≤ x13_2
         ·rw [if_pos c24] at H
          have c24b0 : decide (0 ≤ x13_2) = true := decide_eq_true c24
          clear c24
          replace H := Option.bind_eq_some_iff.mp H
          obtain ⟨t125, A250, H⟩ := H
          replace H : (if (t125.length : Int) = (t107.length : Int) then (laws_FnOr.l0 k2 t101 t104 t107 t116 t117 t120 t121 (wrap64 (x13_2 + 1))) else (some false)) = some r := H
          have A25 := Aside0.mk A250
          clear A250
          by_cases c26 : (t125.length : Int) = (t107.length : Int)
          ·rw [if_pos c26] at H
           have c26b0 : ((t125.length : Int) == (t107.length : Int)) = true := beq_iff_eq.mpr c26
           have c26b1 : ((t125.length : Int) != (t107.length : Int)) = false := bne_eq_false_iff_eq.mpr c26
           have c26b2 : (t125.length == t107.length) = true := by first | simpa using c26 | (simp at c26 ⊢;omega)
           clear c26
           have H' := Aside0.mk H
           clear H
           have p124 : 0 ≤ (x13_2 : Int) := of_decide_eq_true (by first | (with_reducible assumption) | assumption)
           have q124 : x13_2 < (t101.length : Int) := of_decide_eq_true (by first | (with_reducible assumption) | assumption)
           obtain ⟨ad124, A124_2, c124_2, e124, hx124_0, hx124_1, hx124_2, hl124_2, hi124_2⟩ := at_T27 (Kd.N_reads' HO_3.out).2.2 x13_2 p124 q124
           cases e124
           obtain ⟨ce124, hce124, hMe124, hcc124⟩ := Kd.N_get HO_3.out z27 x13_2 p124 (by first | exact q124 | exact of_decide_eq_true (by first | (with_reducible assumption) | assumption) | (have e_ := (Kd.N_reads' HO_3.out).1;omega))
           obtain ⟨ua124_2, uc124_2, rfl, ul124_2, ge124_2⟩ := k27_openF hMe124
           have hv124_2 := hcc124 2 _ rfl
           rw [add_field _ _ 2 (by omega)] at hv124_2
           replace hv124_2 := Option.some.inj (hv124_2.symm.trans hx124_2)
           injection hv124_2 with hva_ hvn_ hvc_
           rw [hva_] at ge124_2
           rw [hvc_] at ul124_2
           have HL124_2 := Aside0.mk (show Kd.V (Kd.int .i64) 3 _ w.heap.size _ _ ((rd_T27 t101 x13_2).f2) from Kd.V_mk ul124_2 ge124_2)
           clear hva_ hvn_ hvc_ ge124_2 ul124_2
           clear hcc124 hce124
           have HR124_2 := Aside0.mk hi124_2
           have HC124_2 := Aside0.mk hl124_2
           clear hi124_2 hl124_2
           replace p124 := eq_true p124
           replace q124 := eq_true q124
           obtain ⟨Ao27, co27, eo27⟩ := Kd.N_slice HO_5.out
           subst eo27
           go_wp2_with (first | ((with_reducible refine gate_callee (f := 54) rfl ?_);refine goesL_ (some 71) rfl rfl Try.func54 (by kernel_rfl) rfl #[.slice Ao27 t107.length co27, .agg #[.int .i64 ((rd_T27 t101 x13_2).f0), .int .i64 ((rd_T27 t101 x13_2).f1), .slice A124_2 ((rd_T27 t101 x13_2).f2).length c124_2]] rfl (by (try simp only [List.map_toArray, List.map_cons, List.map_nil]);first | done | rfl | (simp only [List.length_drop, List.length_take];rfl)) ?_;(with_reducible refine (impl_OccsPut.calls k2 _ _ t107 ((rd_T27 t101 x13_2).f0) ((rd_T27 t101 x13_2).f1) _ _ ((rd_T27 t101 x13_2).f2) t125 _ ?side1 ?side2 ?side3 ?side4 A25.out).mono ?_);(case side1 => repeat (first | exact (Kd.N_reads' HO_5.out).2.2 | (with_reducible refine Kd.C_alloc ?_ _) | (with_reducible refine Kd.C_drewN ?_ _) | (with_reducible refine Kd.C_drew ?_)));(case side2 => exact (Kd.N_reads' HO_5.out).2.1);(case side3 => repeat (first | exact (by repeat (first | (with_reducible exact HR124_2.out) | (with_reducible refine Kd.C_alloc ?_ _) | (with_reducible refine Kd.C_drewN ?_ _) | (with_reducible refine Kd.C_drew ?_) | exact HR124_2.out)) | (with_reducible refine Kd.C_alloc ?_ _) | (with_reducible refine Kd.C_drewN ?_ _) | (with_reducible refine Kd.C_drew ?_)));(case side4 => exact HC124_2.out);rintro e w28 ⟨v126, rfl, ho0, hb⟩;refine ⟨_, rfl, ?_⟩;have n0_ := Aside0.mk (Kd.N_elder' (by (with_reducible repeat (first | apply Kd.N_alloc | apply Kd.N_drewN | apply Kd.N_drew));exact HO_3.out) (by first | exact Kd.N_base ho0 | exact Kd.S_base ho0) hb);have n1_ := Aside0.mk (Kd.N_elder' (by (with_reducible repeat (first | apply Kd.N_alloc | apply Kd.N_drewN | apply Kd.N_drew));exact HO_4.out) (by first | exact Kd.N_base ho0 | exact Kd.S_base ho0) hb);have n2_ := Aside0.mk (Kd.N_elder' (by (with_reducible repeat (first | apply Kd.N_alloc | apply Kd.N_drewN | apply Kd.N_drew));exact HO_5.out) (by first | exact Kd.N_base ho0 | exact Kd.S_base ho0) hb);have n3_ := Aside0.mk (Kd.N_elder' (by (with_reducible repeat (first | apply Kd.N_alloc | apply Kd.N_drewN | apply Kd.N_drew));exact HO_9.out) (by first | exact Kd.N_base ho0 | exact Kd.S_base ho0) hb);have n4_ := Aside0.mk (Kd.N_elder' (by (with_reducible repeat (first | apply Kd.N_alloc | apply Kd.N_drewN | apply Kd.N_drew));exact HO_11.out) (by first | exact Kd.N_base ho0 | exact Kd.S_base ho0) hb);have n5_ := Aside0.mk (Kd.V_elder' (by (with_reducible repeat (first | apply Kd.V_alloc | apply Kd.V_drewN | apply Kd.V_drew));exact HL124_2.out) (by first | exact Kd.N_base ho0 | exact Kd.S_base ho0) hb);have n6_ := Aside0.mk (Kd.N_lower (Kd.N_mono (ok' := fun k_ => some k_ ≠ (.slice (some ad124) t101.length co8 : Value).ownBlock ∧ some k_ ≠ (.slice Ao9 t104.length co9 : Value).ownBlock ∧ some k_ ≠ (.slice Ao27 t107.length co27 : Value).ownBlock ∧ some k_ ≠ (v118 : Value).ownBlock ∧ some k_ ≠ (v122 : Value).ownBlock) (Kd.S_N (Kd.S_bound ho0)) (fun k_ hk_ => ⟨(Kd.fresh' (Kd.N_lt (by (with_reducible repeat (first | apply Kd.N_alloc | apply Kd.N_drewN | apply Kd.N_drew));exact HO_3.out)) k_ hk_.2.1), (Kd.fresh' (Kd.N_lt (by (with_reducible repeat (first | apply Kd.N_alloc | apply Kd.N_drewN | apply Kd.N_drew));exact HO_4.out)) k_ hk_.2.1), (Kd.fresh' (Kd.N_lt (by (with_reducible repeat (first | apply Kd.N_alloc | apply Kd.N_drewN | apply Kd.N_drew));exact HO_5.out)) k_ hk_.2.1), (Kd.fresh' (Kd.N_lt (by (with_reducible repeat (first | apply Kd.N_alloc | apply Kd.N_drewN | apply Kd.N_drew));exact HO_9.out)) k_ hk_.2.1), (Kd.fresh' (Kd.N_lt (by (with_reducible repeat (first | apply Kd.N_alloc | apply Kd.N_drewN | apply Kd.N_drew));exact HO_11.out)) k_ hk_.2.1)⟩)) (below_size (by exact HB.out)));have n7_ := Aside0.mk (Kd.C_below (by repeat (first | (with_reducible exact HR124_2.out) | (with_reducible refine Kd.C_alloc ?_ _) | (with_reducible refine Kd.C_drewN ?_ _) | (with_reducible refine Kd.C_drew ?_) | exact HR124_2.out)) hb);have n8_ := Aside0.mk (below_step (by exact HB.out) hb);clear HO_3;clear HO_4;clear HO_5;clear HO_9;clear HO_11;clear HL124_2;clear HR124_2;clear HB;have HO_3 := n0_;have HO_4 := n1_;have HO_5 := n2_;have HO_9 := n3_;have HO_11 := n4_;have HL124_2 := n5_;have HO127 := n6_;have HR124_2 := n7_;have HB := n8_;clear n0_ n1_ n2_ n3_ n4_ n5_ n6_ n7_ n8_;(try clear hb);(try clear hb2);(try clear hk);(try clear hi);(try clear ho0);obtain ⟨Ao29, co29, eo29⟩ := Kd.N_slice HO127.out;subst eo29))
           go_roundg k2
           case measure => have := HJ5.out;have := HK2.out;omega
           case rel => exact ⟨(wrap64 (x13_2 + 1)), (by first | rfl | (simp;done) | (simp [*];done)), H', ⟨by have := HJ5.out;have := HK2.out;omega⟩, ⟨by (with_reducible repeat (first | apply Kd.N_alloc | apply Kd.N_drewN | apply Kd.N_drew));exact Kd.N_mono HO_3.out (fun _ hk => ⟨hk.1.1, ⟨hk.1.2.1, ⟨hk.1.2.2.1, hk.1.2.2.2⟩⟩⟩)⟩, ⟨by (with_reducible repeat (first | apply Kd.N_alloc | apply Kd.N_drewN | apply Kd.N_drew));exact Kd.N_mono HO_4.out (fun _ hk => ⟨hk.1.1, ⟨hk.1.2.1, ⟨hk.1.2.2.1, hk.1.2.2.2⟩⟩⟩)⟩, ⟨by (with_reducible repeat (first | apply Kd.N_alloc | apply Kd.N_drewN | apply Kd.N_drew));exact Kd.N_mono HO_5.out (fun _ hk => ⟨hk.1.1, ⟨hk.1.2.1, ⟨hk.1.2.2.1, hk.1.2.2.2⟩⟩⟩)⟩, ⟨by (with_reducible repeat (first | apply Kd.N_alloc | apply Kd.N_drewN | apply Kd.N_drew));exact Kd.N_mono HO_9.out (fun _ hk => ⟨hk.1.1, ⟨hk.1.2.1, ⟨hk.1.2.2.1, hk.1.2.2.2⟩⟩⟩)⟩, ⟨by (with_reducible repeat (first | apply Kd.N_alloc | apply Kd.N_drewN | apply Kd.N_drew));exact Kd.N_mono HO_11.out (fun _ hk => ⟨hk.1.1, ⟨hk.1.2.1, ⟨hk.1.2.2.1, hk.1.2.2.2⟩⟩⟩)⟩, ⟨by repeat (first | (with_reducible first | exact HB.out | apply below_alloc | apply pw_below_drewN | apply below_drew1) | exact HB.out)⟩⟩
          ·rw [if_neg c26] at H
           have c26b0 : ((t125.length : Int) == (t107.length : Int)) = false := beq_eq_false_iff_ne.mpr c26
           have c26b1 : ((t125.length : Int) != (t107.length : Int)) = true := bne_iff_ne.mpr c26
           have c26b2 : (t125.length == t107.length) = false := by first | simpa using c26 | (simp at c26 ⊢;omega)
           exact absurd (Option.some.inj H) (by rw [hT_.out];decide)
         ·rw [if_neg c24] at H
          exact absurd H (by simp)
        ·rw [if_neg c23] at H
         have c23b0 : decide (x13_2 < (t101.length : Int)) = false := decide_eq_false c23
         clear c23
         by_cases c30 : t117 = true
         ·subst c30
          have H1 : (if t121 = true then ((impl_OccsSame.f k2 t116 t107).bind fun t128 => (if t128 = true then ((impl_OccsSame.f k2 t120 t101).bind fun t129 => (if t129 = true then (if (t107.length : Int) ≤ (wrap64 ((t101.length : Int) + (t104.length : Int))) then ((impl_OccsOk.f k2 t107).bind fun t130 => (some t130)) else (some false)) else (some false))) else (some false))) else (some false)) = some r := by rw [if_pos rfl] at H;exact H
          clear H
          have H := H1
          clear H1
          by_cases c31 : t121 = true
          ·subst c31
           have H1 : ((impl_OccsSame.f k2 t116 t107).bind fun t128 => (if t128 = true then ((impl_OccsSame.f k2 t120 t101).bind fun t129 => (if t129 = true then (if (t107.length : Int) ≤ (wrap64 ((t101.length : Int) + (t104.length : Int))) then ((impl_OccsOk.f k2 t107).bind fun t130 => (some t130)) else (some false)) else (some false))) else (some false))) = some r := by rw [if_pos rfl] at H;exact H
           clear H
           have H := H1
           clear H1
           replace H := Option.bind_eq_some_iff.mp H
           obtain ⟨t128, A320, H⟩ := H
           replace H : (if t128 = true then ((impl_OccsSame.f k2 t120 t101).bind fun t129 => (if t129 = true then (if (t107.length : Int) ≤ (wrap64 ((t101.length : Int) + (t104.length : Int))) then ((impl_OccsOk.f k2 t107).bind fun t130 => (some t130)) else (some false)) else (some false))) else (some false)) = some r := H
           have A32 := Aside0.mk A320
           clear A320
           by_cases c33 : t128 = true
           ·subst c33
            have H1 : ((impl_OccsSame.f k2 t120 t101).bind fun t129 => (if t129 = true then (if (t107.length : Int) ≤ (wrap64 ((t101.length : Int) + (t104.length : Int))) then ((impl_OccsOk.f k2 t107).bind fun t130 => (some t130)) else (some false)) else (some false))) = some r := by rw [if_pos rfl] at H;exact H
            clear H
            have H := H1
            clear H1
            replace H := Option.bind_eq_some_iff.mp H
            obtain ⟨t129, A340, H⟩ := H
            replace H : (if t129 = true then (if (t107.length : Int) ≤ (wrap64 ((t101.length : Int) + (t104.length : Int))) then ((impl_OccsOk.f k2 t107).bind fun t130 => (some t130)) else (some false)) else (some false)) = some r := H
            have A34 := Aside0.mk A340
            clear A340
            by_cases c35 : t129 = true
            ·subst c35
             have H1 : (if (t107.length : Int) ≤ (wrap64 ((t101.length : Int) + (t104.length : Int))) then ((impl_OccsOk.f k2 t107).bind fun t130 => (some t130)) else (some false)) = some r := by rw [if_pos rfl] at H;exact H
             clear H
             have H := H1
             clear H1
             by_cases c36 : (t107.length : Int) ≤ (wrap64 ((t101.length : Int) + (t104.length : Int)))
             ·rw [if_pos c36] at H
              have c36b0 : decide ((t107.length : Int) ≤ (wrap64 ((t101.length : Int) + (t104.length : Int)))) = true := decide_eq_true c36
              clear c36
              replace H := Option.bind_eq_some_iff.mp H
              obtain ⟨t130, A370, H⟩ := H
              replace H : (some t130) = some r := H
              have A37 := Aside0.mk A370
              clear A370
              obtain rfl := Option.some.inj H
              obtain ⟨Ao38, co38, eo38⟩ := Kd.N_slice HO_9.out
              subst eo38
              obtain ⟨Ao39, co39, eo39⟩ := Kd.N_slice HO_5.out
              subst eo39
              go_wp2_with (first | (go_at_call 26;(with_reducible refine (impl_OccsSame.calls k2 _ _ t116 _ _ t107 true _ ?side1 ?side2 ?side3 ?side4 A32.out).mono ?_);(case side1 => repeat (first | exact (Kd.N_reads' HO_9.out).2.2 | (with_reducible refine Kd.C_alloc ?_ _) | (with_reducible refine Kd.C_drewN ?_ _) | (with_reducible refine Kd.C_drew ?_)));(case side2 => exact (Kd.N_reads' HO_9.out).2.1);(case side3 => repeat (first | exact (Kd.N_reads' HO_5.out).2.2 | (with_reducible refine Kd.C_alloc ?_ _) | (with_reducible refine Kd.C_drewN ?_ _) | (with_reducible refine Kd.C_drew ?_)));(case side4 => exact (Kd.N_reads' HO_5.out).2.1);rintro e w40 ⟨rfl, hb⟩;have n0_ := Aside0.mk (Kd.N_below (by (with_reducible repeat (first | apply Kd.N_alloc | apply Kd.N_drewN | apply Kd.N_drew));exact HO_3.out) hb);have n1_ := Aside0.mk (Kd.N_below (by (with_reducible repeat (first | apply Kd.N_alloc | apply Kd.N_drewN | apply Kd.N_drew));exact HO_4.out) hb);have n2_ := Aside0.mk (Kd.N_below (by (with_reducible repeat (first | apply Kd.N_alloc | apply Kd.N_drewN | apply Kd.N_drew));exact HO_5.out) hb);have n3_ := Aside0.mk (Kd.N_below (by (with_reducible repeat (first | apply Kd.N_alloc | apply Kd.N_drewN | apply Kd.N_drew));exact HO_9.out) hb);have n4_ := Aside0.mk (Kd.N_below (by (with_reducible repeat (first | apply Kd.N_alloc | apply Kd.N_drewN | apply Kd.N_drew));exact HO_11.out) hb);have n5_ := Aside0.mk (below_step (by exact HB.out) hb);clear HO_3;clear HO_4;clear HO_5;clear HO_9;clear HO_11;clear HB;have HO_3 := n0_;have HO_4 := n1_;have HO_5 := n2_;have HO_9 := n3_;have HO_11 := n4_;have HB := n5_;clear n0_ n1_ n2_ n3_ n4_ n5_;(try clear hb);(try clear hb2);(try clear hk);(try clear hi);obtain ⟨Ao41, co41, eo41⟩ := Kd.N_slice HO_11.out;subst eo41) | (go_at_call 26;(with_reducible refine (impl_OccsSame.calls k2 _ _ t120 _ _ t101 true _ ?side1 ?side2 ?side3 ?side4 A34.out).mono ?_);(case side1 => repeat (first | exact (Kd.N_reads' HO_11.out).2.2 | (with_reducible refine Kd.C_alloc ?_ _) | (with_reducible refine Kd.C_drewN ?_ _) | (with_reducible refine Kd.C_drew ?_)));(case side2 => exact (Kd.N_reads' HO_11.out).2.1);(case side3 => repeat (first | exact (Kd.N_reads' HO_3.out).2.2 | (with_reducible refine Kd.C_alloc ?_ _) | (with_reducible refine Kd.C_drewN ?_ _) | (with_reducible refine Kd.C_drew ?_)));(case side4 => exact (Kd.N_reads' HO_3.out).2.1);rintro e w42 ⟨rfl, hb⟩;have n0_ := Aside0.mk (Kd.N_below (by (with_reducible repeat (first | apply Kd.N_alloc | apply Kd.N_drewN | apply Kd.N_drew));exact HO_3.out) hb);have n1_ := Aside0.mk (Kd.N_below (by (with_reducible repeat (first | apply Kd.N_alloc | apply Kd.N_drewN | apply Kd.N_drew));exact HO_4.out) hb);have n2_ := Aside0.mk (Kd.N_below (by (with_reducible repeat (first | apply Kd.N_alloc | apply Kd.N_drewN | apply Kd.N_drew));exact HO_5.out) hb);have n3_ := Aside0.mk (Kd.N_below (by (with_reducible repeat (first | apply Kd.N_alloc | apply Kd.N_drewN | apply Kd.N_drew));exact HO_9.out) hb);have n4_ := Aside0.mk (Kd.N_below (by (with_reducible repeat (first | apply Kd.N_alloc | apply Kd.N_drewN | apply Kd.N_drew));exact HO_11.out) hb);have n5_ := Aside0.mk (below_step (by exact HB.out) hb);clear HO_3;clear HO_4;clear HO_5;clear HO_9;clear HO_11;clear HB;have HO_3 := n0_;have HO_4 := n1_;have HO_5 := n2_;have HO_9 := n3_;have HO_11 := n4_;have HB := n5_;clear n0_ n1_ n2_ n3_ n4_ n5_;(try clear hb);(try clear hb2);(try clear hk);(try clear hi)) | (go_at_call 29;(with_reducible refine (impl_OccsOk.calls k2 _ _ t107 t130 _ ?side1 ?side2 A37.out).mono ?_);(case side1 => repeat (first | exact (Kd.N_reads' HO_5.out).2.2 | (with_reducible refine Kd.C_alloc ?_ _) | (with_reducible refine Kd.C_drewN ?_ _) | (with_reducible refine Kd.C_drew ?_)));(case side2 => exact (Kd.N_reads' HO_5.out).2.1);rintro e w43 ⟨rfl, hb⟩;have n0_ := Aside0.mk (Kd.N_below (by (with_reducible repeat (first | apply Kd.N_alloc | apply Kd.N_drewN | apply Kd.N_drew));exact HO_3.out) hb);have n1_ := Aside0.mk (Kd.N_below (by (with_reducible repeat (first | apply Kd.N_alloc | apply Kd.N_drewN | apply Kd.N_drew));exact HO_4.out) hb);have n2_ := Aside0.mk (Kd.N_below (by (with_reducible repeat (first | apply Kd.N_alloc | apply Kd.N_drewN | apply Kd.N_drew));exact HO_5.out) hb);have n3_ := Aside0.mk (Kd.N_below (by (with_reducible repeat (first | apply Kd.N_alloc | apply Kd.N_drewN | apply Kd.N_drew));exact HO_9.out) hb);have n4_ := Aside0.mk (Kd.N_below (by (with_reducible repeat (first | apply Kd.N_alloc | apply Kd.N_drewN | apply Kd.N_drew));exact HO_11.out) hb);have n5_ := Aside0.mk (below_step (by exact HB.out) hb);clear HO_3;clear HO_4;clear HO_5;clear HO_9;clear HO_11;clear HB;have HO_3 := n0_;have HO_4 := n1_;have HO_5 := n2_;have HO_9 := n3_;have HO_11 := n4_;have HB := n5_;clear n0_ n1_ n2_ n3_ n4_ n5_;(try clear hb);(try clear hb2);(try clear hk);(try clear hi)))
              go_ret
              exact ⟨by first | rfl | (simp [errW_none, errW_some] <;> rfl) | (simp [*, errW_none, errW_some] <;> rfl), by repeat (first | (with_reducible first | exact HB.out | apply below_alloc | apply pw_below_drewN | apply below_drew1) | exact HB.out)⟩
             ·rw [if_neg c36] at H
              have c36b0 : decide ((t107.length : Int) ≤ (wrap64 ((t101.length : Int) + (t104.length : Int)))) = false := decide_eq_false c36
              clear c36
              exact absurd (Option.some.inj H) (by rw [hT_.out];decide)
            ·replace c35 := Bool.eq_false_iff.mpr c35
             subst c35
             have H1 : (some false) = some r := by rw [if_neg (show ¬ (false = true) by decide)] at H;exact H
             clear H
             have H := H1
             clear H1
             exact absurd (Option.some.inj H) (by rw [hT_.out];decide)
           ·replace c33 := Bool.eq_false_iff.mpr c33
            subst c33
            have H1 : (some false) = some r := by rw [if_neg (show ¬ (false = true) by decide)] at H;exact H
            clear H
            have H := H1
            clear H1
            exact absurd (Option.some.inj H) (by rw [hT_.out];decide)
          ·replace c31 := Bool.eq_false_iff.mpr c31
           subst c31
           have H1 : (some false) = some r := by rw [if_neg (show ¬ (false = true) by decide)] at H;exact H
           clear H
           have H := H1
           clear H1
           exact absurd (Option.some.inj H) (by rw [hT_.out];decide)
         ·replace c30 := Bool.eq_false_iff.mpr c30
          subst c30
          have H1 : (some false) = some r := by rw [if_neg (show ¬ (false = true) by decide)] at H;exact H
          clear H
          have H := H1
          clear H1
          exact absurd (Option.some.inj H) (by rw [hT_.out];decide)
     ·replace c18 := Bool.eq_false_iff.mpr c18
      subst c18
      have H1 : (some ((t107.length : Int) == 0)) = some r := by rw [if_neg (show ¬ (false = true) by decide)] at H;exact H
      clear H
      have H := H1
      clear H1
      obtain rfl := Option.some.inj H
      obtain ⟨Ao44, co44, eo44⟩ := Kd.N_slice HO_5.out
      subst eo44
      go_wp2
      go_ret
      exact ⟨by first | rfl | (simp [errW_none, errW_some] <;> rfl) | (simp [*, errW_none, errW_some] <;> rfl), by repeat (first | (with_reducible first | exact HB.out | apply below_alloc | apply pw_below_drewN | apply below_drew1) | exact HB.out)⟩

end Go.Proofs.Ytiplpckgmikmeaa.M
namespace Go.Proofs.Ytiplpckgmikmeaa.M
set_option linter.unusedVariables false
set_option linter.unusedSimpArgs false
open Go.RowKit Go.Proofs.YtiplpckgmikmeaaW.PrintWords Go.Proofs.YtiplpckgmikmeaaW.PrintLast

theorem ofInt_small (a : Nat) (ha : a < 9223372036854775808) : (BitVec.ofInt 64 (a : Int)).toNat = a := by
  rw [BitVec.ofInt_natCast, BitVec.toNat_ofNat]; exact Nat.mod_eq_of_lt (by omega)
theorem xor_small (a b : Nat) (ha : a < 9223372036854775808) (hb : b < 9223372036854775808) : bits .xor .i64 (a : Int) (b : Int) = ((a ^^^ b : Nat) : Int) := by
  have hx : a ^^^ b < 2 ^ 63 := Nat.xor_lt_two_pow (by omega) (by omega)
  show IntKind.i64.wrap ((BitVec.ofInt 64 (a : Int) ^^^ BitVec.ofInt 64 (b : Int)).toNat : Int) = _
  rw [BitVec.toNat_xor, ofInt_small a ha, ofInt_small b hb, IntKind.wrap_i64]
  omega
theorem mix_small (x : Int) (h0 : 0 ≤ x) (h1 : x ≤ 1099511627776) : 0 ≤ bits .xor .i64 x (wrap64 (Int.tdiv x 64)) := by
  obtain ⟨n, rfl⟩ := Int.eq_ofNat_of_zero_le h0
  have : Int.tdiv (n : Int) 64 = ((n / 64 : Nat) : Int) := rfl
  rw [this, w_small (by omega) (by omega), xor_small n (n / 64) (by omega) (by omega)]
  exact Int.natCast_nonneg _

def Bytes (bs : List Int) : Prop := bs.length ≤ 2000 ∧ ∀ x ∈ bs, 0 ≤ x ∧ x ≤ 255
theorem bytes_of {l : List Int} (h : ∀ x ∈ l, (Lit.int .u8 x).wf = true) : ∀ x ∈ l, 0 ≤ x ∧ x ≤ 255 := by
  intro x hx
  have := h x hx
  simp only [Lit.wf, Bool.and_eq_true, decide_eq_true_eq] at this
  exact this
theorem Bytes.rdLe {bs : List Int} (h : Bytes bs) (i : Int) : 0 ≤ rd bs i ∧ rd bs i ≤ 255 := by
  unfold rd
  rw [List.getD_eq_getElem?_getD]
  rcases Nat.lt_or_ge i.toNat bs.length with hi | hi
  · rw [List.getElem?_eq_getElem hi]
    exact h.2 _ (List.getElem_mem hi)
  · rw [List.getElem?_eq_none hi]
    simp

theorem l14Open_is (l : List Int) (hl : l.length ≤ 9223372036854775807) : spec_l14Open.f l = some (l.take 2000, 0) := by
  unfold spec_l14Open.f
  by_cases h : (l.length : Int) > 2000
  · rw [if_pos h, if_pos (by omega)]
  · rw [if_neg h, List.take_of_length_le (by omega)]
theorem open_bytes {l : List Int} (h : ∀ x ∈ l, (Lit.int .u8 x).wf = true) : Bytes (l.take 2000) :=
  ⟨by rw [List.length_take]; omega, fun x hx => bytes_of h x (List.mem_of_mem_take hx)⟩

theorem tmod_lt (a n : Int) (h0 : 0 ≤ a) (h1 : 1 ≤ n) : 0 ≤ Int.tmod a n ∧ Int.tmod a n < n := by
  rw [Int.tmod_eq_emod_of_nonneg h0]
  exact ⟨Int.emod_nonneg _ (by omega), Int.emod_lt_of_pos _ (by omega)⟩

theorem pick_ev (bs : List Int) (hb : Bytes bs) (p n : Int) (h0 : 0 ≤ p) (h1 : p ≤ 1000000) : ∃ r, Ev (fun k => spec_l14Rd_pick.f k bs p n) (r, p + 1) ∧ 0 ≤ r ∧ (r < n ∨ n < 1 ∧ r = 0) := by
  have w1 : wrap64 (p + 1) = p + 1 := w_small (by omega) (by omega)
  by_cases hn : n < 1
  · refine ⟨0, ?_, by omega, .inr ⟨hn, rfl⟩⟩
    unfold spec_l14Rd_pick.f
    refine Ev.pos hn (Ev.last (fun k => ?_))
    simp only [spec_l14Rd_pick.j0]
    rw [if_pos trivial, w1]
  · by_cases he : (bs.length : Int) = 0
    · refine ⟨0, ?_, by omega, .inl (by omega)⟩
      unfold spec_l14Rd_pick.f
      refine Ev.neg hn (Ev.last (fun k => ?_))
      simp only [spec_l14Rd_pick.j0]
      rw [beq_iff_eq.2 he, if_pos rfl, w1]
    · have w2 : wrap64 (p + 1 - 1) = p := by rw [show p + 1 - 1 = p by omega]; exact w_small (by omega) (by omega)
      have hne : ((bs.length : Int) == 0) = false := beq_eq_false_iff_ne.2 he
      have hlen := hb.1
      by_cases hk : p < (bs.length : Int)
      · have hr := hb.rdLe p
        have hm := tmod_lt (rd bs p) n hr.1 (by omega)
        refine ⟨Int.tmod (rd bs p) n, ?_, hm.1, .inl hm.2⟩
        unfold spec_l14Rd_pick.f
        refine Ev.neg hn (Ev.last (fun k => ?_))
        simp only [spec_l14Rd_pick.j0]
        rw [hne, if_neg (by decide), w1, w2, if_pos hk, if_pos h0, if_neg (by omega), w_small (by omega) (by omega)]
      · have t1 := tmod_lt p (bs.length : Int) h0 (by omega)
        have w3 : wrap64 (p * 7) = p * 7 := w_small (by omega) (by omega)
        have w4 : wrap64 (p * 7 + 3) = p * 7 + 3 := w_small (by omega) (by omega)
        have t2 := tmod_lt (p * 7 + 3) (bs.length : Int) (by omega) (by omega)
        have r1 := hb.rdLe (Int.tmod p (bs.length : Int))
        have r2 := hb.rdLe (Int.tmod (p * 7 + 3) (bs.length : Int))
        have hd : 0 ≤ Int.tdiv p (bs.length : Int) ∧ Int.tdiv p (bs.length : Int) ≤ p := by
          rw [Int.tdiv_eq_ediv_of_nonneg h0]
          exact ⟨Int.ediv_nonneg h0 (by omega), Int.ediv_le_self _ h0⟩
        have w5 : wrap64 (Int.tdiv p (bs.length : Int)) = Int.tdiv p (bs.length : Int) := w_small (by omega) (by omega)
        generalize hq : Int.tdiv p (bs.length : Int) = q at *
        generalize ha : rd bs (Int.tmod p (bs.length : Int)) = a at *
        generalize hb' : rd bs (Int.tmod (p * 7 + 3) (bs.length : Int)) = b at *
        have x1 : wrap64 a = a := w_small (by omega) (by omega)
        have x2 : wrap64 b = b := w_small (by omega) (by omega)
        have x3 : wrap64 (a * 131) = a * 131 := w_small (by omega) (by omega)
        have x4 : wrap64 (b * 1117) = b * 1117 := w_small (by omega) (by omega)
        have x5 : wrap64 (a * 131 + b * 1117) = a * 131 + b * 1117 := w_small (by omega) (by omega)
        have x6 : wrap64 (p * 29) = p * 29 := w_small (by omega) (by omega)
        have x7 : wrap64 (a * 131 + b * 1117 + p * 29) = a * 131 + b * 1117 + p * 29 := w_small (by omega) (by omega)
        have x8 : wrap64 (q * 53) = q * 53 := w_small (by omega) (by omega)
        have x9 : wrap64 (a * 131 + b * 1117 + p * 29 + q * 53) = a * 131 + b * 1117 + p * 29 + q * 53 := w_small (by omega) (by omega)
        have hx := mix_small (a * 131 + b * 1117 + p * 29 + q * 53) (by omega) (by omega)
        generalize hX : bits .xor .i64 (a * 131 + b * 1117 + p * 29 + q * 53) (wrap64 (Int.tdiv (a * 131 + b * 1117 + p * 29 + q * 53) 64)) = X at *
        have hm := tmod_lt X n hx (by omega)
        refine ⟨Int.tmod X n, ?_, hm.1, .inl hm.2⟩
        unfold spec_l14Rd_pick.f
        refine Ev.neg hn (Ev.last (fun k => ?_))
        simp only [spec_l14Rd_pick.j0]
        rw [hne, if_neg (by decide), w1, w2, if_neg hk, if_neg he, if_pos t1.1, if_pos t1.2, w3, w4, if_pos t2.1, if_pos t2.2, if_neg (by omega), hq, ha, hb', w5, x1, x2, x3, x4, x5, x6, x7, x8, x9, hX]

theorem num_ev (bs : List Int) (hb : Bytes bs) (p : Int) (l : List Int) (hl : l ≠ []) (hm : l.length ≤ 1000000) (h0 : 0 ≤ p) (h1 : p ≤ 1000000) : ∃ r, Ev (fun k => spec_l14Rd_num.f k bs p l) (r, p + 1) ∧ r ∈ l := by
  obtain ⟨r, hr, h2, h3⟩ := pick_ev bs hb p (l.length : Int) h0 h1
  have hpos : 0 < l.length := List.length_pos_iff.2 hl
  have hlt : r < (l.length : Int) := by omega
  refine ⟨rd l r, ?_, ?_⟩
  · unfold spec_l14Rd_num.f
    exact Ev.bind hr (Ev.pos h2 (Ev.pos hlt (Ev.now _)))
  · unfold rd
    rw [List.getD_eq_getElem?_getD, List.getElem?_eq_getElem (show r.toNat < l.length by omega)]
    exact List.getElem_mem _
end Go.Proofs.Ytiplpckgmikmeaa.M
namespace Go.Proofs.Ytiplpckgmikmeaa.M
set_option linter.unusedVariables false
set_option linter.unusedSimpArgs false
open Go.RowKit Go.Proofs.YtiplpckgmikmeaaW.PrintWords Go.Proofs.YtiplpckgmikmeaaW.PrintLast

theorem impl_in_is (a b c : Int) : impl_in.f a b c = some (decide (b ≤ a) && decide (a ≤ c)) := by
  unfold impl_in.f
  by_cases h : b ≤ a
  · rw [if_pos h]; simp [h]
  · rw [if_neg h]; simp [h]

def cmpI : List Int → List Int → Int
  | [], [] => 0
  | [], _ :: _ => -1
  | _ :: _, [] => 1
  | a :: xs, b :: ys => if a < b then -1 else if a > b then 1 else cmpI xs ys
def sgn (b : Bool) : Int := if b then -1 else 1
def cmpO (a b : S27) : Int := if a.f1 = b.f1 then (if a.f0 = b.f0 then cmpI a.f2 b.f2 else sgn (decide (a.f0 < b.f0))) else sgn (decide (a.f1 < b.f1))
def lessO (a b : S27) : Bool := decide (cmpO a b < 0)

theorem l3Ids_l0_ev (a b : List Int) (ha : a.length ≤ 9223372036854775806) (hb : b.length ≤ 9223372036854775806) : ∀ d n : Nat, n + d = a.length → n ≤ b.length → Ev (fun k => spec_l3Ids.l0 k a b (n : Int)) (cmpI (a.drop n) (b.drop n)) := by
  intro d
  have ends : ∀ (n : Nat), n ≤ a.length → n ≤ b.length → (n = a.length ∨ n = b.length) → Ev (fun k => spec_l3Ids.j1 k a b (n : Int) false) (cmpI (a.drop n) (b.drop n)) := by
    intro n h1 h2 h3
    refine Ev.last (fun k => ?_)
    simp only [spec_l3Ids.j1]
    rw [if_neg (by decide)]
    rcases Nat.lt_or_ge n a.length with ha' | ha'
    · have hbn : n = b.length := by omega
      rw [if_neg (by omega), if_pos (by omega), List.drop_eq_getElem_cons ha', List.drop_of_length_le (show b.length ≤ n by omega)]
      rfl
    · rw [List.drop_of_length_le ha']
      rcases Nat.lt_or_ge n b.length with hb' | hb'
      · rw [if_pos (by omega), List.drop_eq_getElem_cons hb']
        rfl
      · rw [if_neg (by omega), if_neg (by omega), List.drop_of_length_le hb']
        rfl
  induction d with
  | zero =>
    intro n hn hb'
    refine Ev.step (fun k => by simp only [spec_l3Ids.l0]; rw [if_neg (by omega)]) ?_
    exact ends n (by omega) hb' (by omega)
  | succ d ih =>
    intro n hn hb'
    refine Ev.step (fun k => by simp only [spec_l3Ids.l0]; rw [if_pos (by omega)]) ?_
    rcases Nat.lt_or_ge n b.length with hlt | hge
    · rw [decide_eq_true (show (n : Int) < (b.length : Int) by omega)]
      refine Ev.step (fun k => by simp only [spec_l3Ids.j1]; rw [if_pos trivial, if_pos (by omega), if_pos (by omega), if_pos (by omega), w_succ (by omega)]) ?_
      rw [drop_at a 0 n (by omega), drop_at b 0 n (by omega)]
      have next := ih (n + 1) (by omega) (by omega)
      have ra : rd a (n : Int) = a.getD n 0 := rfl
      have rb : rd b (n : Int) = b.getD n 0 := rfl
      rw [ra, rb]
      generalize a.getD n 0 = x at *
      generalize b.getD n 0 = y at *
      unfold cmpI
      by_cases h1 : x < y
      · rw [if_pos h1]
        exact Ev.pos h1 (Ev.now _)
      · rw [if_neg h1]
        refine Ev.neg h1 ?_
        by_cases h2 : x > y
        · rw [if_pos h2]
          exact Ev.pos h2 (Ev.now _)
        · rw [if_neg h2]
          exact Ev.neg h2 next
    · rw [decide_eq_false (show ¬ (n : Int) < (b.length : Int) by omega)]
      exact ends n (by omega) hb' (by omega)
theorem l3Ids_ev (a b : List Int) (ha : a.length ≤ 9223372036854775806) (hb : b.length ≤ 9223372036854775806) : Ev (fun k => spec_l3Ids.f k a b) (cmpI a b) := by
  unfold spec_l3Ids.f
  exact l3Ids_l0_ev a b ha hb a.length 0 (by omega) (by omega)

theorem spec_OccLess_ev (a b : S27) (ha : a.f2.length ≤ 9223372036854775806) (hb : b.f2.length ≤ 9223372036854775806) : Ev (fun k => spec_OccLess.f k a.f0 a.f1 a.f2 b.f0 b.f1 b.f2) (lessO a b) := by
  unfold spec_OccLess.f lessO cmpO
  by_cases h1 : a.f1 = b.f1
  · rw [if_pos h1]
    refine Ev.pos h1 ?_
    by_cases h2 : a.f0 = b.f0
    · rw [if_pos h2]
      exact Ev.pos h2 (Ev.bindS (l3Ids_ev _ _ ha hb) rfl)
    · rw [if_neg h2]
      refine Ev.neg h2 (Ev.one (fun _ => ?_))
      by_cases h3 : a.f0 < b.f0 <;> simp [h3, sgn]
  · rw [if_neg h1]
    refine Ev.neg h1 (Ev.one (fun _ => ?_))
    by_cases h3 : a.f1 < b.f1 <;> simp [h3, sgn]

def idsGo : Int → List Int → Bool
  | _, [] => true
  | p, x :: xs => decide (p < x) && decide (x < 24) && idsGo x xs
theorem idsGo_len : ∀ (l : List Int) (p : Int), idsGo p l = true → p ≤ 23 → (l.length : Int) + p ≤ 23
  | [], p, _, hp => by simp; exact hp
  | x :: xs, p, h, _ => by
    unfold idsGo at h
    simp only [Bool.and_eq_true, decide_eq_true_eq] at h
    have := idsGo_len xs x h.2 (by omega)
    rw [List.length_cons]
    omega
def occOkB (o : S27) : Bool := decide (1 ≤ o.f0) && decide (o.f0 ≤ o.f1) && decide (o.f1 ≤ 2000) && decide (1 ≤ o.f2.length) && idsGo (-1) o.f2
def idPrev (l : List Int) (n : Nat) : Int := if n = 0 then -1 else l.getD (n - 1) 0
theorem idPrev_succ (l : List Int) (n : Nat) : idPrev l (n + 1) = l.getD n 0 := by simp [idPrev]

theorem spec_OccOk_l0_ev (a b : Int) (l : List Int) (hl : l.length ≤ 9223372036854775806) : ∀ d n : Nat, n + d = l.length → -1 ≤ idPrev l n → Ev (fun k => spec_OccOk.l0 k (n : Int) a b l) (idsGo (idPrev l n) (l.drop n)) := by
  intro d
  induction d with
  | zero =>
    intro n hn hp
    rw [List.drop_of_length_le (by omega)]
    exact Ev.last (fun k => by simp only [spec_OccOk.l0]; rw [if_neg (by omega)]; rfl)
  | succ d ih =>
    intro n hn hp
    have hrd : rd l (n : Int) = l.getD n 0 := rfl
    rw [drop_at l 0 n (by omega)]
    refine Ev.step (fun k => by simp only [spec_OccOk.l0]; rw [if_pos (by omega), if_pos (by omega), w_succ (by omega), hrd]) ?_
    have next := ih (n + 1) (by omega)
    rw [idPrev_succ] at next
    generalize l.getD n 0 = x at *
    unfold idsGo
    by_cases h0 : x < 0
    · rw [decide_eq_false (show ¬ idPrev l n < x by omega)]
      exact Ev.pos h0 (Ev.now _)
    · refine Ev.neg h0 ?_
      by_cases h1 : x ≥ 24
      · rw [decide_eq_false (show ¬ x < 24 by omega), Bool.and_false]
        exact Ev.pos h1 (Ev.now _)
      · refine Ev.neg h1 ?_
        rw [decide_eq_true (show x < 24 by omega), Bool.and_true]
        rcases Nat.eq_zero_or_pos n with hz | hpos
        · subst hz
          rw [show idPrev l 0 = -1 from rfl, decide_eq_true (show (-1 : Int) < x by omega)]
          exact Ev.neg (by omega) (next (by omega))
        · obtain ⟨m, rfl⟩ : ∃ m, n = m + 1 := ⟨n - 1, by omega⟩
          have hw : wrap64 (((m + 1 : Nat) : Int) - 1) = (m : Int) := by rw [w_small (by omega) (by omega)]; omega
          refine Ev.pos (by omega) ?_
          rw [hw]
          refine Ev.pos (by omega) (Ev.pos (by omega) ?_)
          have hr2 : rd l (m : Int) = l.getD m 0 := rfl
          rw [hr2, idPrev_succ]
          by_cases hc : x ≤ l.getD m 0
          · rw [decide_eq_false (show ¬ l.getD m 0 < x by omega)]
            exact Ev.pos hc (Ev.now _)
          · rw [decide_eq_true (show l.getD m 0 < x by omega)]
            exact Ev.neg hc (next (by omega))

theorem spec_OccOk_ev (o : S27) (hl : o.f2.length ≤ 9223372036854775806) : Ev (fun k => spec_OccOk.f k o.f0 o.f1 o.f2) (occOkB o) := by
  have bad : ∀ b : Bool, b = true → Ev (fun k => spec_OccOk.j0 k b o.f0 o.f1 o.f2) false := by
    intro b hb
    subst hb
    exact Ev.last (fun k => by simp only [spec_OccOk.j0]; rw [if_pos trivial])
  unfold spec_OccOk.f occOkB
  by_cases h0 : o.f0 < 1
  · rw [decide_eq_false (show ¬ 1 ≤ o.f0 by omega)]
    exact Ev.pos h0 (bad _ rfl)
  · rw [decide_eq_true (show 1 ≤ o.f0 by omega)]
    refine Ev.neg h0 ?_
    by_cases h1 : o.f1 < o.f0
    · rw [decide_eq_false (show ¬ o.f0 ≤ o.f1 by omega)]
      exact Ev.pos h1 (bad _ rfl)
    · rw [decide_eq_true (show o.f0 ≤ o.f1 by omega)]
      refine Ev.neg h1 ?_
      by_cases h2 : o.f1 > 2000
      · rw [decide_eq_false (show ¬ o.f1 ≤ 2000 by omega)]
        exact Ev.pos h2 (bad _ rfl)
      · rw [decide_eq_true (show o.f1 ≤ 2000 by omega)]
        refine Ev.neg h2 ?_
        by_cases h3 : (o.f2.length : Int) < 1
        · rw [decide_eq_false (show ¬ 1 ≤ o.f2.length by omega)]
          exact Ev.pos h3 (bad _ rfl)
        · rw [decide_eq_true (show 1 ≤ o.f2.length by omega)]
          refine Ev.neg h3 ?_
          by_cases h4 : (o.f2.length : Int) > 24
          · have : idsGo (-1) o.f2 = false := by
              rw [Bool.eq_false_iff]
              intro e
              have := idsGo_len o.f2 (-1) e (by omega)
              omega
            rw [this]
            exact bad _ (decide_eq_true h4)
          · rw [decide_eq_false h4]
            refine Ev.step (fun k => by simp only [spec_OccOk.j0]; rfl) ?_
            exact Ev.neg (by decide) (spec_OccOk_l0_ev o.f0 o.f1 o.f2 hl o.f2.length 0 (by omega) (by simp [idPrev]))

theorem impl_OccOk_l0_ev (o : S27) (l : List Int) (hl : l.length ≤ 9223372036854775806) : ∀ (d n : Nat) (p : Int), n + d = l.length → -1 ≤ p → p ≤ 23 → Ev (fun k => impl_OccOk.l0 k p l (l.length : Int) (n : Int) o.f0 o.f1 o.f2) (idsGo p (l.drop n) && (decide (1 ≤ o.f0) && (decide (o.f0 ≤ o.f1) && decide (o.f1 ≤ 2000) && decide (1 ≤ o.f2.length)))) := by
  intro d
  induction d with
  | zero =>
    intro n p hn h0 h1
    rw [List.drop_of_length_le (by omega), idsGo, Bool.true_and]
    refine Ev.last (fun k => ?_)
    simp only [impl_OccOk.l0, impl_in_is]
    rw [if_neg (by omega)]
    by_cases a : 1 ≤ o.f0
    · rw [if_pos a, decide_eq_true a]
      simp only [Option.bind_some]
      by_cases b : (decide (o.f0 ≤ o.f1) && decide (o.f1 ≤ 2000)) = true
      · rw [if_pos b, b]
        have e : ((o.f2.length : Int) ≥ 1) = (1 ≤ o.f2.length) := by rw [eq_iff_iff]; omega
        simp only [e, Bool.true_and]
      · rw [if_neg b]
        simp only [Bool.not_eq_true] at b
        rw [b]
        rfl
    · rw [if_neg a, decide_eq_false a]
      rfl
  | succ d ih =>
    intro n p hn h0 h1
    have hrd : rd l (n : Int) = l.getD n 0 := rfl
    rw [drop_at l 0 n (by omega)]
    have w1 : wrap64 (p + 1) = p + 1 := w_small (by omega) (by omega)
    refine Ev.step (fun k => by simp only [impl_OccOk.l0]; rw [if_pos (by omega), if_pos (by omega), if_pos (by omega), w_succ (by omega), hrd, w1, impl_in_is, Option.bind_some]) ?_
    have next := ih (n + 1) (l.getD n 0) (by omega)
    generalize l.getD n 0 = x at *
    unfold idsGo
    by_cases hc : p + 1 ≤ x ∧ x ≤ 23
    · rw [decide_eq_true (show p < x by omega), decide_eq_true (show x < 24 by omega), decide_eq_true hc.1, decide_eq_true hc.2]
      exact Ev.pos rfl (next (by omega) (by omega))
    · have e1 : (decide (p + 1 ≤ x) && decide (x ≤ 23)) = false := by
        rw [Bool.eq_false_iff]
        simp only [ne_eq, Bool.and_eq_true, decide_eq_true_eq]
        exact hc
      have e2 : (decide (p < x) && decide (x < 24)) = false := by
        rw [Bool.eq_false_iff]
        simp only [ne_eq, Bool.and_eq_true, decide_eq_true_eq]
        omega
      rw [e1, e2]
      exact Ev.neg (by decide) (Ev.now _)
theorem impl_OccOk_ev (o : S27) (hl : o.f2.length ≤ 9223372036854775806) : Ev (fun k => impl_OccOk.f k o.f0 o.f1 o.f2) (occOkB o) := by
  unfold impl_OccOk.f
  refine Ev.val (impl_OccOk_l0_ev o o.f2 hl o.f2.length 0 (-1) (by omega) (by omega) (by omega)) ?_
  rw [List.drop_zero, occOkB, Bool.and_comm]
  simp only [Bool.and_assoc]

theorem cmp_Compare_is (a b : Int) : cmp_Compare_int.f a b = some (if a < b then -1 else if a > b then 1 else 0) := by
  unfold cmp_Compare_int.f cmp_isNaN_int.f
  simp only [Option.bind_some, bne_self_eq_false]
  rw [if_neg (by decide), if_neg (by decide)]
  by_cases h : a < b
  · rw [if_pos h, if_pos h]
  · rw [if_neg h, if_neg h]
    by_cases h2 : a > b
    · rw [if_pos h2, if_pos h2]
    · rw [if_neg h2, if_neg h2]
theorem impl_Compare_l0_ev (a b : List Int) (ha : a.length ≤ 9223372036854775806) (hb : b.length ≤ 9223372036854775806) : ∀ d n : Nat, n + d = a.length → n ≤ b.length → Ev (fun k => slices_Compare_int_int.l0 k a b a (a.length : Int) (n : Int)) (cmpI (a.drop n) (b.drop n)) := by
  intro d
  induction d with
  | zero =>
    intro n hn hb'
    refine Ev.last (fun k => ?_)
    simp only [slices_Compare_int_int.l0]
    rw [if_neg (by omega), List.drop_of_length_le (show a.length ≤ n by omega)]
    rcases Nat.lt_or_ge n b.length with hlt | hge
    · rw [if_pos (by omega), List.drop_eq_getElem_cons hlt]
      rfl
    · rw [if_neg (by omega), List.drop_of_length_le hge]
      rfl
  | succ d ih =>
    intro n hn hb'
    have ra : rd a (n : Int) = a.getD n 0 := rfl
    have rb : rd b (n : Int) = b.getD n 0 := rfl
    refine Ev.step (fun k => by simp only [slices_Compare_int_int.l0]; rw [if_pos (by omega), if_pos (by omega), if_pos (by omega), w_succ (by omega), ra, rb, cmp_Compare_is]) ?_
    rcases Nat.lt_or_ge n b.length with hlt | hge
    · refine Ev.neg (by omega) (Ev.pos (by omega) ?_)
      rw [drop_at a 0 n (by omega), drop_at b 0 n (by omega)]
      have next := ih (n + 1) (by omega) (by omega)
      generalize a.getD n 0 = x at *
      generalize b.getD n 0 = y at *
      refine Ev.bind (Ev.now _) ?_
      unfold cmpI
      by_cases h1 : x < y
      · rw [if_pos h1, if_pos h1]
        exact Ev.neg (by decide) (Ev.now _)
      · rw [if_neg h1, if_neg h1]
        by_cases h2 : x > y
        · rw [if_pos h2, if_pos h2]
          exact Ev.neg (by decide) (Ev.now _)
        · rw [if_neg h2, if_neg h2]
          exact Ev.pos rfl next
    · refine Ev.pos (by omega) ?_
      rw [drop_at a 0 n (by omega), List.drop_of_length_le hge]
      exact Ev.now _
theorem impl_compare_ev (a b : S27) (ha : a.f2.length ≤ 9223372036854775806) (hb : b.f2.length ≤ 9223372036854775806) : Ev (fun k => impl_compare.f k a.f0 a.f1 a.f2 b.f0 b.f1 b.f2) (cmpO a b) := by
  unfold impl_compare.f cmpO impl_sign.f
  by_cases h1 : a.f1 = b.f1
  · rw [if_pos h1]
    refine Ev.pos h1 ?_
    by_cases h2 : a.f0 = b.f0
    · rw [if_pos h2]
      exact Ev.pos h2 (Ev.bindS (impl_Compare_l0_ev a.f2 b.f2 ha hb a.f2.length 0 (by omega) (by omega)) rfl)
    · rw [if_neg h2]
      refine Ev.neg h2 (Ev.one (fun _ => ?_))
      by_cases h3 : a.f0 < b.f0 <;> simp [h3, sgn]
  · rw [if_neg h1]
    refine Ev.neg h1 (Ev.one (fun _ => ?_))
    by_cases h3 : a.f1 < b.f1 <;> simp [h3, sgn]
theorem impl_OccLess_ev (a b : S27) (ha : a.f2.length ≤ 9223372036854775806) (hb : b.f2.length ≤ 9223372036854775806) : Ev (fun k => impl_OccLess.f k a.f0 a.f1 a.f2 b.f0 b.f1 b.f2) (lessO a b) := by
  unfold impl_OccLess.f
  exact Ev.bindS (impl_compare_ev a b ha hb) rfl

def occsGo : Option S27 → List S27 → Bool
  | _, [] => true
  | none, x :: xs => occOkB x && occsGo (some x) xs
  | some p, x :: xs => occOkB x && (lessO p x && occsGo (some x) xs)
def occsOkB (l : List S27) : Bool := occsGo none l && decide (l.length ≤ 40)
def occPrev (l : List S27) (n : Nat) : Option S27 := if n = 0 then none else some (l.getD (n - 1) z27)
def Short (l : List S27) : Prop := ∀ x ∈ l, x.f2.length ≤ 9223372036854775806
theorem Short.at_ {l : List S27} (h : Short l) (n : Nat) : (l.getD n z27).f2.length ≤ 9223372036854775806 := by
  rw [List.getD_eq_getElem?_getD]
  rcases Nat.lt_or_ge n l.length with hn | hn
  · rw [List.getElem?_eq_getElem hn]
    exact h _ (List.getElem_mem hn)
  · rw [List.getElem?_eq_none hn]
    show (z27).f2.length ≤ _
    simp [z27]
theorem occPrev_succ (l : List S27) (n : Nat) : occPrev l (n + 1) = some (l.getD n z27) := by simp [occPrev]

theorem spec_OccsOk_l0_ev (l : List S27) (hl : l.length ≤ 9223372036854775806) (hs : Short l) : ∀ d n : Nat, n + d = l.length → Ev (fun k => spec_OccsOk.l0 k l (n : Int)) (occsGo (occPrev l n) (l.drop n)) := by
  intro d
  induction d with
  | zero =>
    intro n hn
    rw [List.drop_of_length_le (by omega)]
    exact Ev.last (fun k => by simp only [spec_OccsOk.l0]; rw [if_neg (by omega)]; cases occPrev l n <;> rfl)
  | succ d ih =>
    intro n hn
    have hrd : rd_T27 l (n : Int) = l.getD n z27 := rfl
    have hx := hs.at_ n
    rw [drop_at l z27 n (by omega)]
    refine Ev.step (fun k => by simp only [spec_OccsOk.l0]; rw [if_pos (by omega), if_pos (by omega), w_succ (by omega), hrd]) ?_
    have next := ih (n + 1) (by omega)
    rw [occPrev_succ] at next
    generalize l.getD n z27 = x at *
    refine Ev.bind (spec_OccOk_ev x hx) ?_
    rcases Nat.eq_zero_or_pos n with hz | hpos
    · subst hz
      rw [show occPrev l 0 = none from rfl, occsGo]
      by_cases hk : occOkB x = true
      · rw [hk]
        exact Ev.pos rfl (Ev.neg (by omega) next)
      · refine Ev.neg hk ?_
        simp only [Bool.not_eq_true] at hk
        rw [hk]
        exact Ev.now _
    · obtain ⟨m, rfl⟩ : ∃ m, n = m + 1 := ⟨n - 1, by omega⟩
      have hw : wrap64 (((m + 1 : Nat) : Int) - 1) = (m : Int) := by rw [w_small (by omega) (by omega)]; omega
      have hr2 : rd_T27 l (m : Int) = l.getD m z27 := rfl
      rw [occPrev_succ, occsGo, hw, hr2]
      by_cases hk : occOkB x = true
      · rw [hk]
        refine Ev.pos rfl (Ev.pos (by omega) (Ev.pos (by omega) (Ev.pos (by omega) (Ev.bind (spec_OccLess_ev _ x (hs.at_ m) hx) ?_))))
        by_cases hls : lessO (l.getD m z27) x = true
        · rw [hls]
          exact Ev.pos rfl next
        · refine Ev.neg hls ?_
          simp only [Bool.not_eq_true] at hls
          rw [hls]
          exact Ev.now _
      · refine Ev.neg hk ?_
        simp only [Bool.not_eq_true] at hk
        rw [hk]
        exact Ev.now _
theorem spec_OccsOk_ev (l : List S27) (hl : l.length ≤ 9223372036854775806) (hs : Short l) : Ev (fun k => spec_OccsOk.f k l) (occsOkB l) := by
  unfold spec_OccsOk.f occsOkB
  by_cases h : (l.length : Int) > 40
  · refine Ev.pos h ?_
    rw [decide_eq_false (by omega), Bool.and_false]
    exact Ev.now _
  · refine Ev.neg h ?_
    rw [decide_eq_true (by omega), Bool.and_true]
    exact spec_OccsOk_l0_ev l hl hs l.length 0 (by omega)

theorem impl_OccsOk_l0_ev (l : List S27) (hl : l.length ≤ 9223372036854775806) (hs : Short l) : ∀ d n : Nat, n + d = l.length → Ev (fun k => impl_OccsOk.l0 k l l (l.length : Int) (n : Int)) (occsGo (occPrev l n) (l.drop n) && decide (l.length ≤ 40)) := by
  intro d
  induction d with
  | zero =>
    intro n hn
    rw [List.drop_of_length_le (by omega)]
    refine Ev.last (fun k => ?_)
    simp only [impl_OccsOk.l0]
    rw [if_neg (by omega)]
    have e : ((l.length : Int) ≤ 40) = (l.length ≤ 40) := by rw [eq_iff_iff]; omega
    simp only [e]
    cases occPrev l n <;> rfl
  | succ d ih =>
    intro n hn
    have hrd : rd_T27 l (n : Int) = l.getD n z27 := rfl
    have hx := hs.at_ n
    rw [drop_at l z27 n (by omega)]
    refine Ev.step (fun k => by simp only [impl_OccsOk.l0]; rw [if_pos (by omega), if_pos (by omega), if_pos (by omega), w_succ (by omega), hrd]) ?_
    have next := ih (n + 1) (by omega)
    rw [occPrev_succ] at next
    generalize l.getD n z27 = x at *
    refine Ev.bind (impl_OccOk_ev x hx) ?_
    rcases Nat.eq_zero_or_pos n with hz | hpos
    · subst hz
      rw [show occPrev l 0 = none from rfl, occsGo]
      by_cases hk : occOkB x = true
      · rw [hk]
        exact Ev.pos rfl (Ev.neg (by omega) next)
      · refine Ev.neg hk ?_
        simp only [Bool.not_eq_true] at hk
        rw [hk]
        exact Ev.now _
    · obtain ⟨m, rfl⟩ : ∃ m, n = m + 1 := ⟨n - 1, by omega⟩
      have hw : wrap64 (((m + 1 : Nat) : Int) - 1) = (m : Int) := by rw [w_small (by omega) (by omega)]; omega
      have hr2 : rd_T27 l (m : Int) = l.getD m z27 := rfl
      rw [occPrev_succ, occsGo, hw, hr2]
      by_cases hk : occOkB x = true
      · rw [hk]
        refine Ev.pos rfl (Ev.pos (by omega) (Ev.pos (by omega) (Ev.pos (by omega) (Ev.bind (impl_OccLess_ev _ x (hs.at_ m) hx) ?_))))
        by_cases hls : lessO (l.getD m z27) x = true
        · rw [hls]
          exact Ev.pos rfl next
        · refine Ev.neg hls ?_
          simp only [Bool.not_eq_true] at hls
          rw [hls]
          exact Ev.now _
      · refine Ev.neg hk ?_
        simp only [Bool.not_eq_true] at hk
        rw [hk]
        exact Ev.now _
theorem impl_OccsOk_ev (l : List S27) (hl : l.length ≤ 9223372036854775806) (hs : Short l) : Ev (fun k => impl_OccsOk.f k l) (occsOkB l) := impl_OccsOk_l0_ev l hl hs l.length 0 (by omega)
end Go.Proofs.Ytiplpckgmikmeaa.M
namespace Go.Proofs.Ytiplpckgmikmeaa.M
open Go.RowKit Go.Proofs.YtiplpckgmikmeaaW.PrintWords Go.Proofs.YtiplpckgmikmeaaW.PrintLast Go.Proofs.YtiplpckgmikmeaaW.PrintMore
attribute [local go_sem] max2_int min2_int max_two min_two max_three min_three max_four min_four
set_option linter.unusedVariables false
set_option linter.unusedSimpArgs false

def laws_szIntS.f (l0 : List Int) (a1 : Int) : Option (Int) := if (wrap64 (a1 - (l0.length : Int))) < 0 then (some (-1)) else (some (wrap64 (a1 - (l0.length : Int))))
set_option maxHeartbeats 8000000 in
set_option maxRecDepth 100000 in
theorem laws_szIntS.calls (A0 : Option Addr) (c0 : Nat) (l0 : List Int) (a1 : Int) (r : Int) (w : World) (hr0 : Kd.C (Kd.int .i64) w A0 l0.length l0) (hc0 : l0.length ≤ c0) (h : laws_szIntS.f l0 a1 = some r) :
  Calls Try.prog 64 #[.slice A0 l0.length c0, .int .i64 a1] w fun e w' => e = .returned (.int .i64 r) ∧ Drawn0 w w' := by
 have HR0 := Aside0.mk hr0
 have HC0 := Aside0.mk hc0
 clear hr0 hc0
 have H : (if (wrap64 (a1 - (l0.length : Int))) < 0 then (some (-1)) else (some (wrap64 (a1 - (l0.length : Int))))) = some r := h
 clear h
 by_cases c3 : (wrap64 (a1 - (l0.length : Int))) < 0
 ·rw [if_pos c3] at H
  have c3b0 : decide ((wrap64 (a1 - (l0.length : Int))) < 0) = true := decide_eq_true c3
  clear c3
  obtain rfl := Option.some.inj H
  go_enter Try.func64, Try.ntmps64
  go_wp2
  go_ret
  exact ⟨by first | rfl | (simp;done) | (simp [*];done), by repeat (first | exact Drawn0.refl _ | apply Drawn0.step)⟩
 ·rw [if_neg c3] at H
  have c3b0 : decide ((wrap64 (a1 - (l0.length : Int))) < 0) = false := decide_eq_false c3
  clear c3
  obtain rfl := Option.some.inj H
  go_enter Try.func64, Try.ntmps64
  go_wp2
  go_ret
  exact ⟨by first | rfl | (simp;done) | (simp [*];done), by repeat (first | exact Drawn0.refl _ | apply Drawn0.step)⟩

end Go.Proofs.Ytiplpckgmikmeaa.M
