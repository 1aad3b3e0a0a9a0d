/- What the claim's law leans on: the program's functions, what they compute, and the law over plain values; no condition is asked. (Part 4 of 4.) -/
import Derived.Test.YtiplpckgmikmeaaCLawsFnOr3
namespace Go.Proofs.Ytiplpckgmikmeaa.M
open Go.RowKit Go.Proofs.YtiplpckgmikmeaaW.PrintWords Go.Proofs.YtiplpckgmikmeaaW.PrintLast Go.Proofs.YtiplpckgmikmeaaW.PrintMore
attribute [local go_sem] max2_int min2_int max_two min_two max_three min_three max_four min_four
set_option linter.unusedVariables false
set_option linter.unusedSimpArgs false

def laws_toIntS.l0 : Nat → List Int → List Int → Int → Option (List Int)
 | 0, _, _, _ => none
 | k + 1, x0, x3, x4 => if x4 < (x0.length : Int) then (if 0 ≤ x4 then (if x4 < (x3.length : Int) then (laws_toIntS.l0 k x0 (x3.set (x4 : Int).toNat (rd x0 x4)) (wrap64 (x4 + 1))) else (none)) else (none)) else (some x3)
def laws_toIntS.f (k : Nat) (l0 : List Int) : Option (List Int) := if 0 ≤ (l0.length : Int) then (if ((l0.length : Int) : Int).toNat ≤ 35184372088832 then (laws_toIntS.l0 k l0 (List.replicate ((l0.length : Int) : Int).toNat 0) 0) else (none)) else (none)
theorem laws_toIntS.mono_l : ∀ k, (∀ y0 y1 y2, LeO (laws_toIntS.l0 k y0 y1 y2) (laws_toIntS.l0 (k + 1) y0 y1 y2))
 | 0 => fun _ _ _ r h => by simp [laws_toIntS.l0] at h
 | k + 1 => by
  have ih0 := laws_toIntS.mono_l k
  ·intro y0 y1 y2
   unfold laws_toIntS.l0
   repeat' first
   | (with_reducible exact ih0 _ _ _)
   | (with_reducible exact LeO.refl _)
   | (with_reducible exact LeO.none _)
   | (with_reducible refine LeO.ite ?_ ?_)
   | (with_reducible refine LeO.bind ?_ (fun _ => ?_))
   | exact ih0 _ _ _
   | exact LeO.none _
   | refine LeO.ite ?_ ?_
   | refine LeO.bind ?_ (fun _ => ?_)
theorem laws_toIntS.mono : ∀ a0 k, LeO (laws_toIntS.f k a0) (laws_toIntS.f (k + 1) a0) := by
 intro a0 k
 have ih0 := laws_toIntS.mono_l k
 unfold laws_toIntS.f
 repeat' first
   | (with_reducible exact ih0 _ _ _)
   | (with_reducible exact LeO.refl _)
   | (with_reducible exact LeO.none _)
   | (with_reducible refine LeO.ite ?_ ?_)
   | (with_reducible refine LeO.bind ?_ (fun _ => ?_))
   | exact ih0 _ _ _
   | exact LeO.none _
   | refine LeO.ite ?_ ?_
   | refine LeO.bind ?_ (fun _ => ?_)
set_option maxHeartbeats 8000000 in
set_option maxRecDepth 100000 in
theorem laws_toIntS.calls (k : Nat) (A0 : Option Addr) (c0 : Nat) (l0 : List Int) (r : List Int) (w : World) (hr0 : Kd.C (Kd.int .i64) w A0 l0.length l0) (hc0 : l0.length ≤ c0) (h : laws_toIntS.f k l0 = some r) :
  Calls Try.prog 65 #[.slice A0 l0.length c0] w fun e w' => ∃ v0_ : Value, e = .returned (v0_) ∧ Kd.R (Kd.int .i64) 3 w' w.heap.size (fun _ => True) v0_ r ∧ Below w.heap.size w w' := by
 have HR0 := Aside0.mk hr0
 have HC0 := Aside0.mk hc0
 clear hr0 hc0
 have HB := Aside0.mk (Below.refl w.heap.size w)
 have H : (if 0 ≤ (l0.length : Int) then (if ((l0.length : Int) : Int).toNat ≤ 35184372088832 then (laws_toIntS.l0 k l0 (List.replicate ((l0.length : Int) : Int).toNat 0) 0) else (none)) else (none)) = some r := h
 clear h
 by_cases c2 : 0 ≤ (l0.length : Int)
 ·rw [if_pos c2] at H
  have c2b0 := eq_true c2
  have c2b1 : decide (0 ≤ (l0.length : Int)) = true := decide_eq_true c2
  clear c2
  by_cases c3 : ((l0.length : Int) : Int).toNat ≤ 35184372088832
  ·rw [if_pos c3] at H
   have c3b0 := eq_true c3
   have c3b1 : decide (((l0.length : Int) : Int).toNat ≤ 35184372088832) = true := decide_eq_true c3
   clear c3
   obtain ⟨y101, hy101⟩ : ∃ y_ : List Int, y_ = (List.replicate ((l0.length : Int) : Int).toNat 0) := ⟨_, rfl⟩
   replace H : (laws_toIntS.l0 k l0 y101 0) = some r := by first | (rw [hy101];with_reducible exact H) | (have H2_ := (Option.bind_some _ _).symm.trans H;rw [hy101];with_reducible exact H2_) | (have H2_ := (Option.bind_some _ _).symm.trans H;with_reducible exact H2_) | with_reducible exact H | (rw [hy101];exact H) | exact H
   have Ny101 := Aside0.mk hy101
   clear hy101
   have H' := Aside0.mk H
   clear H
   go_enter Try.func65, Try.ntmps65
   go_wp2_with (first | ((with_reducible refine gate_dst (N := 7) rfl ?_);refine Kd.R_make (Kd.int .i64) _ 3 rfl (N := 7) rfl 22 _ _ rfl (l0.length : Int) rfl rfl Try.underlying22 (.int .i64 0) 8 info3 rfl (by decide) (by omega) 0 (ok := fun _ => True) (okp := fun _ => True) rfl (fun _ hk => hk) trivial (of_decide_eq_true (by first | (with_reducible assumption) | assumption)) (Nat.le_trans (Nat.mul_le_mul_right _ (of_decide_eq_true (by first | (with_reducible assumption) | assumption) : (l0.length : Int).toNat ≤ 35184372088832)) (by omega)) (Below.refl _ _) (Nat.le_refl _) ?_;intro v102 w4 ho5 hb hg_ hnew_;clear hg_ hnew_;(first | rw [← Ny101.out] at ho5 | (simp only [Int.reduceToNat] at ho5;rw [← Ny101.out] at ho5));have HO103 := Aside0.mk (Kd.R_lower ho5 (below_size (by exact HB.out)));replace HB := Aside0.mk (below_step (by exact HB.out) hb);clear hb ho5))
   go_loopg [4] k (fun kq v4 w' => ∃ (x3_1 : List Int) (x4_1 : Int), v4 = .int .i64 x4_1 ∧ Aside0 (laws_toIntS.l0 kq l0 x3_1 x4_1 = some r) ∧ Aside0 (kq ≤ k) ∧ Aside0 (Kd.R (Kd.int .i64) 3 w' w.heap.size (fun _ => True) v102 x3_1) ∧ Aside0 (Below w.heap.size w w'))
   case atStart => exact ⟨(y101), (0), (by first | rfl | (simp;done) | (simp [*];done)), H', ⟨Nat.le_refl _⟩, ⟨by (with_reducible repeat (first | apply Kd.R_alloc | apply Kd.R_drewN | apply Kd.R_drew));exact HO103.out⟩, ⟨by repeat (first | (with_reducible first | exact HB.out | apply below_alloc | apply pw_below_drewN | apply below_drew1) | exact HB.out)⟩⟩
   case round =>
    clear H'
    try clear c2
    try clear c2b0
    try clear c2b1
    try clear p2
    try clear c3
    try clear c3b0
    try clear c3b1
    obtain ⟨x3_1, x4_1, rfl, HA, HK1, HO_3, HB⟩ := hrel
    cases gk with
    | zero => exact absurd HA.out (by simp [laws_toIntS.l0])
    | succ k1 =>
     have H := HA.out
     clear HA
     simp only [laws_toIntS.l0] at H
     by_cases c6 : x4_1 < (l0.length : Int)
     ·rw [if_pos c6] at H
      have c6b0 : decide (x4_1 < (l0.length : Int)) = true := decide_eq_true c6
      clear c6
      by_cases c7 : 0 ≤ x4_1
      ·rw [if_pos c7] at H
       have c7b0 : decide (0 ≤ x4_1) = true := decide_eq_true c7
       clear c7
       by_cases c8 : x4_1 < (x3_1.length : Int)
       ·rw [if_pos c8] at H
        have c8b0 : decide (x4_1 < (x3_1.length : Int)) = true := decide_eq_true c8
        clear c8
        obtain ⟨y105, hy105⟩ : ∃ y_ : List Int, y_ = (x3_1.set (x4_1 : Int).toNat (rd l0 x4_1)) := ⟨_, rfl⟩
        replace H : (laws_toIntS.l0 k1 l0 y105 (wrap64 (x4_1 + 1))) = some r := by first | (rw [hy105];with_reducible exact H) | (have H2_ := (Option.bind_some _ _).symm.trans H;rw [hy105];with_reducible exact H2_) | (have H2_ := (Option.bind_some _ _).symm.trans H;with_reducible exact H2_) | with_reducible exact H | (rw [hy105];exact H) | exact H
        have Ny105 := Aside0.mk hy105
        clear hy105
        have H' := Aside0.mk H
        clear H
        have p104 : 0 ≤ (x4_1 : Int) := of_decide_eq_true (by first | (with_reducible assumption) | assumption)
        have q104 : x4_1 < (l0.length : Int) := of_decide_eq_true (by first | (with_reducible assumption) | assumption)
        obtain ⟨ad104, e104, hx104_0⟩ := Kd.at_int HR0.out x4_1 p104 q104
        cases e104
        replace hx104_0 := (HB.out.cell (World.block_lt_of_cell? w _ hx104_0)).trans hx104_0
        replace p104 := eq_true p104
        replace q104 := eq_true q104
        have p9 : 0 ≤ (x4_1 : Int) := of_decide_eq_true (by first | (with_reducible assumption) | assumption)
        have q9 : (x4_1 : Int) < ((x3_1.length : Int) : Int) := of_decide_eq_true (by first | (with_reducible assumption) | assumption)
        obtain ⟨go9, co9, eo9, gb9, gl9, cl9, HG9⟩ := Kd.R_form HO_3.out (by omega)
        (first | cases eo9 | (injection eo9 with ea_ en_ ec_;(first | subst ea_ | (injection ea_ with ea_;subst ea_));subst ec_;clear en_))
        have GB9 := Aside0.mk gb9
        have GG9 := Aside0.mk HG9
        clear gb9 gl9 HG9
        obtain ⟨hx9_0, hf9_0⟩ := Kd.R_celln 0 HO_3.out (x4_1 : Int) p9 q9
        replace p9 := eq_true p9
        replace q9 := eq_true q9
        have HP10 := Kd.R_putg HO_3.out (x4_1 : Int) (rd l0 x4_1)
        go_wp2_with (first | ((with_reducible refine gate_store (t := 3) (p := 20) rfl ?_);refine store_event (t := 3) (p := 20) (v := ?vo_w11) (w1 := (wr.setCell ⟨go9, (x4_1 : Int).toNat, none⟩ (.int .i64 (rd l0 x4_1)))) ?hg ?ho ?hn ?hr ?_;(case ho => rfl);(case hg => rfl);(case hn => rfl);(case hr => first | (go_simp;done) | (go_simp;rfl));intro w11 hw;have hg : wr.grownBy w11 (some go9) := (by rw [hw];exact HP10.2);have hp_ : Kd.R (Kd.int .i64) 3 w11 w.heap.size (fun _ => True) (.slice (some ⟨go9, 0, none⟩) x3_1.length co9) y105 := (by rw [hw, Ny105.out];exact HP10.1);clear HP10;replace HO_3 := Aside0.mk (hp_);replace HB := Aside0.mk ((by rw [hw];exact below_set (HB.out) GB9.out : Below w.heap.size w w11));clear hg hw hp_))
        go_roundg k1
        case measure => have := HK1.out;omega
        case rel => exact ⟨(y105), (wrap64 (x4_1 + 1)), (by first | rfl | (simp;done) | (simp [*];done)), H', ⟨by have := HK1.out;omega⟩, ⟨by (with_reducible repeat (first | apply Kd.R_alloc | apply Kd.R_drewN | apply Kd.R_drew));exact HO_3.out⟩, ⟨by repeat (first | (with_reducible first | exact HB.out | apply below_alloc | apply pw_below_drewN | apply below_drew1) | exact HB.out)⟩⟩
       ·rw [if_neg c8] at H
        exact absurd H (by simp)
      ·rw [if_neg c7] at H
       exact absurd H (by simp)
     ·rw [if_neg c6] at H
      have c6b0 : decide (x4_1 < (l0.length : Int)) = false := decide_eq_false c6
      clear c6
      obtain rfl := Option.some.inj H
      go_wp2
      go_ret
      exact ⟨_, by first | rfl | (simp [errW_none, errW_some] <;> rfl) | (simp [*, errW_none, errW_some] <;> rfl), by (with_reducible repeat (first | apply Kd.R_alloc | apply Kd.R_drewN | apply Kd.R_drew));exact HO_3.out, by repeat (first | (with_reducible first | exact HB.out | apply below_alloc | apply pw_below_drewN | apply below_drew1) | exact HB.out)⟩
  ·rw [if_neg c3] at H
   exact absurd H (by simp)
 ·rw [if_neg c2] at H
  exact absurd H (by simp)

end Go.Proofs.Ytiplpckgmikmeaa.M
namespace Go.Proofs.Ytiplpckgmikmeaa.M
open Go.RowKit Go.Proofs.YtiplpckgmikmeaaW.PrintWords Go.Proofs.YtiplpckgmikmeaaW.PrintLast Go.Proofs.YtiplpckgmikmeaaW.PrintMore
attribute [local go_sem] max2_int min2_int max_two min_two max_three min_three max_four min_four
set_option linter.unusedVariables false
set_option linter.unusedSimpArgs false

def laws_eqIntS.l0 : Nat → List Int → List Int → Int → Option (Bool)
 | 0, _, _, _ => none
 | k + 1, x0, x1, x5 => if x5 < (x0.length : Int) then (if 0 ≤ x5 then (if x5 < (x1.length : Int) then (if (rd x0 x5) = (rd x1 x5) then (laws_eqIntS.l0 k x0 x1 (wrap64 (x5 + 1))) else (some false)) else (none)) else (none)) else (some true)
def laws_eqIntS.f (k : Nat) (l0 : List Int) (l1 : List Int) : Option (Bool) := if (l0.length : Int) = (l1.length : Int) then (laws_eqIntS.l0 k l0 l1 0) else (some false)
theorem laws_eqIntS.mono_l : ∀ k, (∀ y0 y1 y2, LeO (laws_eqIntS.l0 k y0 y1 y2) (laws_eqIntS.l0 (k + 1) y0 y1 y2))
 | 0 => fun _ _ _ r h => by simp [laws_eqIntS.l0] at h
 | k + 1 => by
  have ih0 := laws_eqIntS.mono_l k
  ·intro y0 y1 y2
   unfold laws_eqIntS.l0
   repeat' first
   | (with_reducible exact ih0 _ _ _)
   | (with_reducible exact LeO.refl _)
   | (with_reducible exact LeO.none _)
   | (with_reducible refine LeO.ite ?_ ?_)
   | (with_reducible refine LeO.bind ?_ (fun _ => ?_))
   | exact ih0 _ _ _
   | exact LeO.none _
   | refine LeO.ite ?_ ?_
   | refine LeO.bind ?_ (fun _ => ?_)
theorem laws_eqIntS.mono : ∀ a0 a1 k, LeO (laws_eqIntS.f k a0 a1) (laws_eqIntS.f (k + 1) a0 a1) := by
 intro a0 a1 k
 have ih0 := laws_eqIntS.mono_l k
 unfold laws_eqIntS.f
 repeat' first
   | (with_reducible exact ih0 _ _ _)
   | (with_reducible exact LeO.refl _)
   | (with_reducible exact LeO.none _)
   | (with_reducible refine LeO.ite ?_ ?_)
   | (with_reducible refine LeO.bind ?_ (fun _ => ?_))
   | exact ih0 _ _ _
   | exact LeO.none _
   | refine LeO.ite ?_ ?_
   | refine LeO.bind ?_ (fun _ => ?_)
set_option maxHeartbeats 8000000 in
set_option maxRecDepth 100000 in
theorem laws_eqIntS.calls (k : Nat) (A0 : Option Addr) (c0 : Nat) (l0 : List Int) (A1 : Option Addr) (c1 : Nat) (l1 : List Int) (r : Bool) (hT_ : Aside0 (r = true)) (w : World) (hr0 : Kd.C (Kd.int .i64) w A0 l0.length l0) (hc0 : l0.length ≤ c0) (hr1 : Kd.C (Kd.int .i64) w A1 l1.length l1) (hc1 : l1.length ≤ c1) (h : laws_eqIntS.f k l0 l1 = some r) :
  Calls Try.prog 67 #[.slice A0 l0.length c0, .slice A1 l1.length c1] w fun e w' => e = .returned (.bool r) ∧ Drawn0 w w' := by
 have HR0 := Aside0.mk hr0
 have HC0 := Aside0.mk hc0
 clear hr0 hc0
 have HR1 := Aside0.mk hr1
 have HC1 := Aside0.mk hc1
 clear hr1 hc1
 have H : (if (l0.length : Int) = (l1.length : Int) then (laws_eqIntS.l0 k l0 l1 0) else (some false)) = some r := h
 clear h
 by_cases c3 : (l0.length : Int) = (l1.length : Int)
 ·rw [if_pos c3] at H
  have c3b0 : ((l0.length : Int) == (l1.length : Int)) = true := beq_iff_eq.mpr c3
  have c3b1 : ((l0.length : Int) != (l1.length : Int)) = false := bne_eq_false_iff_eq.mpr c3
  have c3b2 : (l0.length == l1.length) = true := by first | simpa using c3 | (simp at c3 ⊢;omega)
  clear c3
  have H' := Aside0.mk H
  clear H
  go_enter Try.func67, Try.ntmps67
  go_wp2
  repeat (go_quiet (fail);try go_wp2)
  go_loopg [5] k (fun kq v5 w' => ∃ (x5_1 : Int), v5 = .int .i64 x5_1 ∧ Aside0 (laws_eqIntS.l0 kq l0 l1 x5_1 = some r) ∧ Aside0 (kq ≤ k) ∧ Drawn0 w w')
  case atStart => exact ⟨(0), (by first | rfl | (simp;done) | (simp [*];done)), H', ⟨Nat.le_refl _⟩, by repeat (first | exact Drawn0.refl _ | apply Drawn0.step)⟩
  case round =>
   clear H'
   try clear c1
   try clear p2
   try clear c3
   try clear c3b0
   try clear c3b1
   try clear c3b2
   obtain ⟨x5_1, rfl, HA, HK1, ⟨m1, rfl⟩⟩ := hrel
   cases gk with
   | zero => exact absurd HA.out (by simp [laws_eqIntS.l0])
   | succ k1 =>
    have H := HA.out
    clear HA
    simp only [laws_eqIntS.l0] at H
    by_cases c4 : x5_1 < (l0.length : Int)
    ·rw [if_pos c4] at H
     have c4b0 : decide (x5_1 < (l0.length : Int)) = true := decide_eq_true c4
     clear c4
     by_cases c5 : 0 ≤ x5_1
     ·rw [if_pos c5] at H
      have c5b0 : decide (0 ≤ x5_1) = true := decide_eq_true c5
      clear c5
      by_cases c6 : x5_1 < (l1.length : Int)
      ·rw [if_pos c6] at H
       have c6b0 : decide (x5_1 < (l1.length : Int)) = true := decide_eq_true c6
       clear c6
       by_cases c7 : (rd l0 x5_1) = (rd l1 x5_1)
       ·rw [if_pos c7] at H
        have c7b0 : ((rd l0 x5_1) == (rd l1 x5_1)) = true := beq_iff_eq.mpr c7
        have c7b1 : ((rd l0 x5_1) != (rd l1 x5_1)) = false := bne_eq_false_iff_eq.mpr c7
        clear c7
        have H' := Aside0.mk H
        clear H
        have p101 : 0 ≤ (x5_1 : Int) := of_decide_eq_true (by first | (with_reducible assumption) | assumption)
        have q101 : x5_1 < (l0.length : Int) := of_decide_eq_true (by first | (with_reducible assumption) | assumption)
        obtain ⟨ad101, e101, hx101_0⟩ := Kd.at_int HR0.out x5_1 p101 q101
        cases e101
        replace p101 := eq_true p101
        replace q101 := eq_true q101
        have p102 : 0 ≤ (x5_1 : Int) := of_decide_eq_true (by first | (with_reducible assumption) | assumption)
        have q102 : x5_1 < (l1.length : Int) := of_decide_eq_true (by first | (with_reducible assumption) | assumption)
        obtain ⟨ad102, e102, hx102_0⟩ := Kd.at_int HR1.out x5_1 p102 q102
        cases e102
        replace p102 := eq_true p102
        replace q102 := eq_true q102
        go_wp2
        repeat (go_quiet (fail);try go_wp2)
        go_roundg k1
        case measure => have := HK1.out;omega
        case rel => exact ⟨(wrap64 (x5_1 + 1)), (by first | rfl | (simp;done) | (simp [*];done)), H', ⟨by have := HK1.out;omega⟩, by repeat (first | exact Drawn0.refl _ | apply Drawn0.step)⟩
       ·rw [if_neg c7] at H
        have c7b0 : ((rd l0 x5_1) == (rd l1 x5_1)) = false := beq_eq_false_iff_ne.mpr c7
        have c7b1 : ((rd l0 x5_1) != (rd l1 x5_1)) = true := bne_iff_ne.mpr c7
        exact absurd (Option.some.inj H) (by rw [hT_.out];decide)
      ·rw [if_neg c6] at H
       exact absurd H (by simp)
     ·rw [if_neg c5] at H
      exact absurd H (by simp)
    ·rw [if_neg c4] at H
     have c4b0 : decide (x5_1 < (l0.length : Int)) = false := decide_eq_false c4
     clear c4
     obtain rfl := Option.some.inj H
     go_wp2
     repeat (go_quiet (fail);try go_wp2)
     go_ret
     exact ⟨by first | rfl | (simp;done) | (simp [*];done), by repeat (first | exact Drawn0.refl _ | apply Drawn0.step)⟩
 ·rw [if_neg c3] at H
  have c3b0 : ((l0.length : Int) == (l1.length : Int)) = false := beq_eq_false_iff_ne.mpr c3
  have c3b1 : ((l0.length : Int) != (l1.length : Int)) = true := bne_iff_ne.mpr c3
  have c3b2 : (l0.length == l1.length) = false := by first | simpa using c3 | (simp at c3 ⊢;omega)
  exact absurd (Option.some.inj H) (by rw [hT_.out];decide)

end Go.Proofs.Ytiplpckgmikmeaa.M
namespace Go.Proofs.Ytiplpckgmikmeaa.M
set_option linter.unusedVariables false
set_option linter.unusedSimpArgs false
open Go.RowKit Go.Proofs.YtiplpckgmikmeaaW.PrintWords Go.Proofs.YtiplpckgmikmeaaW.PrintLast

theorem rd_nat (l : List Int) (n : Nat) : rd l (n : Int) = l.getD n 0 := rfl

theorem szIntS_ok (l : List Int) (a : Int) (h0 : 0 ≤ a) (h1 : a ≤ 1048576) (hl : l.length ≤ 9223372036854775807) : laws_szIntS.f l a = some (if (l.length : Int) ≤ a then a - l.length else -1) := by
  unfold laws_szIntS.f
  rw [w_small (by omega) (by omega)]
  by_cases h : (l.length : Int) ≤ a
  · rw [if_neg (by omega), if_pos h]
  · rw [if_pos (by omega), if_neg h]

theorem toIntS_l0_ev (l : List Int) (hl : l.length ≤ 9223372036854775807) : ∀ (d n : Nat) (a : List Int), n + d = l.length → a.length = l.length → Ev (fun k => laws_toIntS.l0 k l a (n : Int)) (a.take n ++ l.drop n) := by
  intro d
  induction d with
  | zero =>
    intro n a hn ha
    rw [List.drop_of_length_le (by omega), List.take_of_length_le (by omega), List.append_nil]
    exact Ev.last (fun k => by simp only [laws_toIntS.l0]; rw [if_neg (by omega)])
  | succ d ih =>
    intro n a hn ha
    rw [drop_at l 0 n (by omega)]
    have next := ih (n + 1) (a.set n (l.getD n 0)) (by omega) (by rw [List.length_set]; exact ha)
    rw [take_set a n _ (by omega), List.append_assoc] at next
    refine Ev.step (fun k => by simp only [laws_toIntS.l0]; rw [if_pos (by omega), if_pos (by omega), if_pos (by omega), w_succ (by omega), rd_nat, Int.toNat_natCast]) ?_
    exact next
theorem toIntS_ev (l : List Int) (hl : l.length ≤ 1048576) : Ev (fun k => laws_toIntS.f k l) l := by
  unfold laws_toIntS.f
  refine Ev.pos (by omega) (Ev.pos (by omega) ?_)
  have := toIntS_l0_ev l (by omega) l.length 0 (List.replicate l.length 0) (by omega) (by simp)
  rw [Int.toNat_natCast]
  exact this

theorem eqIntS_l0_ev (l : List Int) (hl : l.length ≤ 9223372036854775807) : ∀ d n : Nat, n + d = l.length → Ev (fun k => laws_eqIntS.l0 k l l (n : Int)) true := by
  intro d
  induction d with
  | zero =>
    intro n hn
    exact Ev.last (fun k => by simp only [laws_eqIntS.l0]; rw [if_neg (by omega)])
  | succ d ih =>
    intro n hn
    refine Ev.step (fun k => by simp only [laws_eqIntS.l0]; rw [if_pos (by omega), if_pos (by omega), if_pos (by omega), if_pos trivial, w_succ (by omega)]) ?_
    exact ih (n + 1) (by omega)
theorem eqIntS_ev (l : List Int) (hl : l.length ≤ 9223372036854775807) : Ev (fun k => laws_eqIntS.f k l l) true := by
  unfold laws_eqIntS.f
  exact Ev.pos rfl (eqIntS_l0_ev l hl l.length 0 (by omega))
end Go.Proofs.Ytiplpckgmikmeaa.M
namespace Go.Proofs.Ytiplpckgmikmeaa.M
set_option linter.unusedVariables false
set_option linter.unusedSimpArgs false
open Go.RowKit Go.Proofs.YtiplpckgmikmeaaW.PrintWords Go.Proofs.YtiplpckgmikmeaaW.PrintLast

theorem maxLen_le {n : Nat} (h : n ≤ maxLen) : n ≤ 9223372036854775807 := by unfold maxLen at h; omega
def leftOf (a : Int) (n : Nat) : Int := if (n : Int) ≤ a then a - n else -1
theorem leftOf_neg {a : Int} {n : Nat} (h : ¬ (n : Int) ≤ a) : leftOf a n = -1 := if_neg h
theorem leftOf_pos {a : Int} {n : Nat} (h : (n : Int) ≤ a) : leftOf a n = a - n := if_pos h
def sumW {α : Type} (w : α → Nat) : List α → Nat
  | [] => 0
  | x :: xs => w x + sumW w xs
theorem sumW_mem {α : Type} (w : α → Nat) : ∀ (l : List α) (x : α), x ∈ l → w x ≤ sumW w l
  | [], _, h => by simp at h
  | y :: ys, x, h => by
    rw [sumW]
    rcases List.mem_cons.1 h with rfl | h
    · omega
    · have := sumW_mem w ys x h
      omega
theorem getD_in {α : Type} {l : List α} {z : α} {n : Nat} (h : n < l.length) : l.getD n z = l[n] := by
  rw [List.getD_eq_getElem?_getD, List.getElem?_eq_getElem h]
  rfl

theorem left_more {a : Int} {m n : Nat} : (if (m : Int) ≤ a then leftOf (a - m) n else -1) = leftOf a (m + n) := by
  unfold leftOf
  by_cases h : (m : Int) ≤ a
  · rw [if_pos h]
    by_cases h2 : (n : Int) ≤ a - m
    · rw [if_pos h2, if_pos (by omega)]
      omega
    · rw [if_neg h2, if_neg (by omega)]
  · rw [if_neg h, if_neg (by omega)]
theorem left_two {g : Nat → Option Int} {f : Int → Nat → Option Int} {a : Int} {m n : Nat} (h0 : 0 ≤ a) (hg : Ev g (leftOf a m)) (hf : (m : Int) ≤ a → Ev (f (a - m)) (leftOf (a - m) n)) : Ev (fun k => (g k).bind fun t => if t < 0 then some (-1) else f t k) (leftOf a (m + n)) := by
  refine Ev.bind hg ?_
  rw [← left_more]
  by_cases h : (m : Int) ≤ a
  · rw [leftOf_pos h, if_pos h]
    exact Ev.neg (by omega) (hf h)
  · rw [leftOf_neg h, if_neg h]
    exact Ev.pos (by omega) (Ev.now _)
theorem left_last {g : Nat → Option Int} {a : Int} {m : Nat} (h0 : 0 ≤ a) (hg : Ev g (leftOf a m)) : Ev (fun k => (g k).bind fun t => if t < 0 then some (-1) else some t) (leftOf a m) := by
  refine Ev.bind hg ?_
  by_cases h : (m : Int) ≤ a
  · rw [leftOf_pos h]
    exact Ev.neg (by omega) (Ev.now _)
  · rw [leftOf_neg h]
    exact Ev.pos (by omega) (Ev.now _)
theorem left_own {f : Int → Nat → Option Int} {a : Int} {m n : Nat} (h0 : 0 ≤ a) (h1 : a ≤ 1048576) (hm : m ≤ 9223372036854775807) (hf : (m : Int) ≤ a → Ev (f (a - m)) (leftOf (a - m) n)) : Ev (fun k => if wrap64 (a - (m : Int)) < 0 then some (-1) else f (wrap64 (a - (m : Int))) k) (leftOf a (m + n)) := by
  have hw : wrap64 (a - (m : Int)) = a - m := w_small (by omega) (by omega)
  rw [hw, ← left_more]
  by_cases h : (m : Int) ≤ a
  · rw [if_pos h]
    exact Ev.neg (by omega) (hf h)
  · rw [if_neg h]
    exact Ev.pos (by omega) (Ev.now _)

theorem gen_sz {α : Type} (z : α) (w : α → Nat) (e : Nat → α → Int → Option Int) (L : Nat → List α → Int → Int → Option Int)
    (hL : ∀ k l a n, L (k + 1) l a n = if n < (l.length : Int) then (if 0 ≤ n then ((e k (l.getD n.toNat z) a).bind fun t => (if t < 0 then (some (-1)) else (L k l t (wrap64 (n + 1))))) else none) else some a)
    (l : List α) (hl : l.length ≤ 9223372036854775807) (he : ∀ x ∈ l, ∀ a : Int, 0 ≤ a → a ≤ 1048576 → Ev (fun k => e k x a) (leftOf a (w x))) :
    ∀ (d n : Nat) (a : Int), n + d = l.length → 0 ≤ a → a ≤ 1048576 → Ev (fun k => L k l a (n : Int)) (leftOf a (sumW w (l.drop n))) := by
  intro d
  induction d with
  | zero =>
    intro n a hn h0 h1
    rw [List.drop_of_length_le (by omega), sumW, leftOf_pos (by omega)]
    exact Ev.last (fun k => by rw [hL, if_neg (by omega)]; simp)
  | succ d ih =>
    intro n a hn h0 h1
    have hlt : n < l.length := by omega
    rw [List.drop_eq_getElem_cons hlt, sumW]
    refine Ev.step (fun k => by rw [hL, if_pos (by omega), if_pos (by omega), Int.toNat_natCast, getD_in hlt, w_succ (by omega)]) ?_
    exact left_two (f := fun t k => L k l t ((n + 1 : Nat) : Int)) h0 (he _ (List.getElem_mem _) a h0 h1) (fun h => ih (n + 1) _ (by omega) (by omega) (by omega))
def allW {α : Type} (w : α → Nat) (l : List α) : Nat := l.length + sumW w l
theorem gen_szS {α : Type} (z : α) (w : α → Nat) (e : Nat → α → Int → Option Int) (L : Nat → List α → Int → Int → Option Int)
    (hL : ∀ k l a n, L (k + 1) l a n = if n < (l.length : Int) then (if 0 ≤ n then ((e k (l.getD n.toNat z) a).bind fun t => (if t < 0 then (some (-1)) else (L k l t (wrap64 (n + 1))))) else none) else some a)
    (l : List α) (hl : l.length ≤ 9223372036854775807) (he : ∀ x ∈ l, ∀ a : Int, 0 ≤ a → a ≤ 1048576 → Ev (fun k => e k x a) (leftOf a (w x))) (a : Int) (h0 : 0 ≤ a) (h1 : a ≤ 1048576) :
    Ev (fun k => if wrap64 (a - (l.length : Int)) < 0 then some (-1) else L k l (wrap64 (a - (l.length : Int))) 0) (leftOf a (allW w l)) :=
  left_own (f := fun t k => L k l t 0) h0 h1 hl (fun h => gen_sz z w e L hL l hl he l.length 0 _ (by omega) (by omega) (by omega))
theorem allW_mem {α : Type} {w : α → Nat} {l : List α} {x : α} (h : x ∈ l) : w x ≤ allW w l := by
  have := sumW_mem w l x h
  unfold allW
  omega
theorem allW_len {α : Type} {w : α → Nat} {l : List α} : l.length ≤ allW w l := by unfold allW; omega

theorem gen_to {α β γ : Type} (z : α) (cv : α → β) (u : α → γ) (pack : γ → β) (hp : ∀ x, pack (u x) = cv x) (e : Nat → α → Option γ) (L : Nat → List α → List β → Int → Option (List β))
    (hL : ∀ k l m n, L (k + 1) l m n = if n < (l.length : Int) then (if 0 ≤ n then ((e k (l.getD n.toNat z)).bind fun t => (if n < (m.length : Int) then (L k l (m.set n.toNat (pack t)) (wrap64 (n + 1))) else none)) else none) else some m)
    (l : List α) (hl : l.length ≤ 1048576) (he : ∀ x ∈ l, Ev (fun k => e k x) (u x)) :
    ∀ (d n : Nat) (m : List β), n + d = l.length → m.length = l.length → m.take n = (l.take n).map cv → Ev (fun k => L k l m (n : Int)) (l.map cv) := by
  intro d
  induction d with
  | zero =>
    intro n m hn hm ht
    refine Ev.last (fun k => by rw [hL, if_neg (by omega)]; rw [List.take_of_length_le (by omega), List.take_of_length_le (by omega)] at ht; rw [ht])
  | succ d ih =>
    intro n m hn hm ht
    have hlt : n < l.length := by omega
    refine Ev.step (fun k => by rw [hL, if_pos (by omega), if_pos (by omega), Int.toNat_natCast, getD_in hlt, w_succ (by omega)]) ?_
    refine Ev.bind (he _ (List.getElem_mem _)) (Ev.pos (by omega) ?_)
    refine ih (n + 1) _ (by omega) (by simp [hm]) ?_
    rw [take_set _ _ _ (by omega), ht, List.take_succ_eq_append_getElem hlt, List.map_append, hp]
    rfl
theorem gen_toS {α β γ : Type} (z : α) (zb : β) (cap : Nat) (hcap : 1048576 ≤ cap) (cv : α → β) (u : α → γ) (pack : γ → β) (hp : ∀ x, pack (u x) = cv x) (e : Nat → α → Option γ) (L : Nat → List α → List β → Int → Option (List β))
    (hL : ∀ k l m n, L (k + 1) l m n = if n < (l.length : Int) then (if 0 ≤ n then ((e k (l.getD n.toNat z)).bind fun t => (if n < (m.length : Int) then (L k l (m.set n.toNat (pack t)) (wrap64 (n + 1))) else none)) else none) else some m)
    (l : List α) (hl : l.length ≤ 1048576) (he : ∀ x ∈ l, Ev (fun k => e k x) (u x)) :
    Ev (fun k => if 0 ≤ (l.length : Int) then (if ((l.length : Int) : Int).toNat ≤ cap then (L k l (List.replicate ((l.length : Int) : Int).toNat zb) 0) else none) else none) (l.map cv) := by
  refine Ev.pos (by omega) (Ev.pos (by omega) ?_)
  rw [Int.toNat_natCast]
  exact gen_to z cv u pack hp e L hL l hl he l.length 0 _ (by omega) (by simp) (by simp)

theorem gen_eq {β : Type} (z : β) (e : Nat → β → β → Option Bool) (L : Nat → List β → List β → Int → Option Bool)
    (hL : ∀ k l m n, L (k + 1) l m n = if n < (l.length : Int) then (if 0 ≤ n then (if n < (m.length : Int) then ((e k (l.getD n.toNat z) (m.getD n.toNat z)).bind fun t => (if t = true then (L k l m (wrap64 (n + 1))) else some false)) else none) else none) else some true)
    (l : List β) (hl : l.length ≤ 1048576) (he : ∀ x ∈ l, Ev (fun k => e k x x) true) :
    ∀ (d n : Nat), n + d = l.length → Ev (fun k => L k l l (n : Int)) true := by
  intro d
  induction d with
  | zero =>
    intro n hn
    exact Ev.last (fun k => by rw [hL, if_neg (by omega)])
  | succ d ih =>
    intro n hn
    have hlt : n < l.length := by omega
    refine Ev.step (fun k => by rw [hL, if_pos (by omega), if_pos (by omega), if_pos (by omega), Int.toNat_natCast, getD_in hlt, w_succ (by omega)]) ?_
    exact Ev.bind (he _ (List.getElem_mem _)) (Ev.pos rfl (ih (n + 1) (by omega)))
theorem gen_eqS {β : Type} (z : β) (e : Nat → β → β → Option Bool) (L : Nat → List β → List β → Int → Option Bool)
    (hL : ∀ k l m n, L (k + 1) l m n = if n < (l.length : Int) then (if 0 ≤ n then (if n < (m.length : Int) then ((e k (l.getD n.toNat z) (m.getD n.toNat z)).bind fun t => (if t = true then (L k l m (wrap64 (n + 1))) else some false)) else none) else none) else some true)
    (l : List β) (hl : l.length ≤ 1048576) (he : ∀ x ∈ l, Ev (fun k => e k x x) true) :
    Ev (fun k => if (l.length : Int) = (l.length : Int) then L k l l 0 else some false) true :=
  Ev.pos rfl (gen_eq z e L hL l hl he l.length 0 (by omega))

theorem gen_two {β : Type} (z : β) (e f : Nat → β → β → Option Bool) (L M : Nat → List β → List β → Int → Option Bool)
    (hL : ∀ k l m n, L (k + 1) l m n = if n < (l.length : Int) then (if 0 ≤ n then (if n < (m.length : Int) then ((e k (l.getD n.toNat z) (m.getD n.toNat z)).bind fun t => (if t = true then (L k l m (wrap64 (n + 1))) else some false)) else none) else none) else some true)
    (hM : ∀ k l m n, M (k + 1) l m n = if n < (l.length : Int) then (if 0 ≤ n then (if n < (l.length : Int) then (if n < (m.length : Int) then ((f k (l.getD n.toNat z) (m.getD n.toNat z)).bind fun t => (if t = true then (M k l m (wrap64 (n + 1))) else some false)) else none) else none) else none) else some true)
    (l m : List β) (hl : l.length ≤ 1048576) (hm : l.length = m.length) (he : ∀ x ∈ l, ∀ y, ∃ v, Ev (fun k => e k x y) v ∧ Ev (fun k => f k x y) v) :
    ∀ (d n : Nat), n + d = l.length → ∃ v, Ev (fun k => L k l m (n : Int)) v ∧ Ev (fun k => M k l m (n : Int)) v := by
  intro d
  induction d with
  | zero =>
    intro n hn
    exact ⟨true, Ev.last (fun k => by rw [hL, if_neg (by omega)]), Ev.last (fun k => by rw [hM, if_neg (by omega)])⟩
  | succ d ih =>
    intro n hn
    have hlt : n < l.length := by omega
    have hlt2 : n < m.length := by omega
    obtain ⟨v, h1, h2⟩ := he l[n] (List.getElem_mem _) m[n]
    obtain ⟨v', h3, h4⟩ := ih (n + 1) (by omega)
    have sL : ∀ k, L (k + 1) l m (n : Int) = (e k l[n] m[n]).bind fun t => (if t = true then (L k l m ((n + 1 : Nat) : Int)) else some false) := fun k => by rw [hL, if_pos (by omega), if_pos (by omega), if_pos (by omega), Int.toNat_natCast, getD_in hlt, getD_in hlt2, w_succ (by omega)]
    have sM : ∀ k, M (k + 1) l m (n : Int) = (f k l[n] m[n]).bind fun t => (if t = true then (M k l m ((n + 1 : Nat) : Int)) else some false) := fun k => by rw [hM, if_pos (by omega), if_pos (by omega), if_pos (by omega), if_pos (by omega), Int.toNat_natCast, getD_in hlt, getD_in hlt2, w_succ (by omega)]
    cases v with
    | true => exact ⟨v', Ev.step sL (Ev.bind h1 (Ev.pos rfl h3)), Ev.step sM (Ev.bind h2 (Ev.pos rfl h4))⟩
    | false => exact ⟨false, Ev.step sL (Ev.bind h1 (Ev.neg (by decide) (Ev.now _))), Ev.step sM (Ev.bind h2 (Ev.neg (by decide) (Ev.now _)))⟩
theorem gen_twoS {β : Type} (z : β) (e f : Nat → β → β → Option Bool) (L M : Nat → List β → List β → Int → Option Bool)
    (hL : ∀ k l m n, L (k + 1) l m n = if n < (l.length : Int) then (if 0 ≤ n then (if n < (m.length : Int) then ((e k (l.getD n.toNat z) (m.getD n.toNat z)).bind fun t => (if t = true then (L k l m (wrap64 (n + 1))) else some false)) else none) else none) else some true)
    (hM : ∀ k l m n, M (k + 1) l m n = if n < (l.length : Int) then (if 0 ≤ n then (if n < (l.length : Int) then (if n < (m.length : Int) then ((f k (l.getD n.toNat z) (m.getD n.toNat z)).bind fun t => (if t = true then (M k l m (wrap64 (n + 1))) else some false)) else none) else none) else none) else some true)
    (l m : List β) (hl : l.length ≤ 1048576) (he : ∀ x ∈ l, ∀ y, ∃ v, Ev (fun k => e k x y) v ∧ Ev (fun k => f k x y) v) :
    ∃ v, Ev (fun k => if (l.length : Int) = (m.length : Int) then L k l m 0 else some false) v ∧ Ev (fun k => if (l.length : Int) = (m.length : Int) then M k l m 0 else some false) v := by
  by_cases h : l.length = m.length
  · obtain ⟨v, h1, h2⟩ := gen_two z e f L M hL hM l m hl h he l.length 0 (by omega)
    exact ⟨v, Ev.pos (by omega) h1, Ev.pos (by omega) h2⟩
  · exact ⟨false, Ev.neg (by omega) (Ev.now _), Ev.neg (by omega) (Ev.now _)⟩
end Go.Proofs.Ytiplpckgmikmeaa.M
namespace Go.Proofs.Ytiplpckgmikmeaa.M
open Go.RowKit Go.Proofs.YtiplpckgmikmeaaW.PrintWords Go.Proofs.YtiplpckgmikmeaaW.PrintLast Go.Proofs.YtiplpckgmikmeaaW.PrintMore
attribute [local go_sem] max2_int min2_int max_two min_two max_three min_three max_four min_four
set_option linter.unusedVariables false
set_option linter.unusedSimpArgs false

def laws_szOcc.f (a0_0 : Int) (a0_1 : Int) (l0_2 : List Int) (a1 : Int) : Option (Int) := (laws_szIntS.f l0_2 a1).bind fun t102 => (if t102 < 0 then (some (-1)) else (some t102))
set_option maxHeartbeats 8000000 in
set_option maxRecDepth 100000 in
theorem laws_szOcc.calls (a0_0 : Int) (a0_1 : Int) (A0_2 : Option Addr) (c0_2 : Nat) (l0_2 : List Int) (a1 : Int) (r : Int) (w : World) (hr0_2 : Kd.C (Kd.int .i64) w A0_2 l0_2.length l0_2) (hc0_2 : l0_2.length ≤ c0_2) (h : laws_szOcc.f a0_0 a0_1 l0_2 a1 = some r) :
  Calls Try.prog 18 #[.agg #[.int .i64 a0_0, .int .i64 a0_1, .slice A0_2 l0_2.length c0_2], .int .i64 a1] w fun e w' => e = .returned (.int .i64 r) ∧ Below w.heap.size w w' := by
 have hu24 := Try.underlying24
 have HR0_2 := Aside0.mk hr0_2
 have HC0_2 := Aside0.mk hc0_2
 clear hr0_2 hc0_2
 have HB := Aside0.mk (Below.refl w.heap.size w)
 have H : ((laws_szIntS.f l0_2 a1).bind fun t102 => (if t102 < 0 then (some (-1)) else (some t102))) = some r := h
 clear h
 replace H := Option.bind_eq_some_iff.mp H
 obtain ⟨t102, A30, H⟩ := H
 replace H : (if t102 < 0 then (some (-1)) else (some t102)) = some r := H
 have A3 := Aside0.mk A30
 clear A30
 by_cases c4 : t102 < 0
 ·rw [if_pos c4] at H
  have c4b0 : decide (t102 < 0) = true := decide_eq_true c4
  clear c4
  obtain rfl := Option.some.inj H
  go_enter Try.func18, Try.ntmps18
  go_wp2_with (first | ((with_reducible refine gate_dst (N := 2) rfl ?_);refine box_event ?hg (N := 2) ?hd (cs := #[.int .i64 a0_0, .int .i64 a0_1, .slice A0_2 l0_2.length c0_2]) (t := 24) ?hr ?_;(case hd => rfl);(case hg => rfl);(case hr => first | (go_simp;done) | (go_simp;rfl));intro gb101 hg w5 hbox hb;have BK101 := Aside0.mk (hbox);have GW101 := Aside0.mk ((by rw [hg];exact (below_size (by exact HB.out)) : w.heap.size ≤ gb101));have GE101 := Aside0.mk ((by rw [hg];exact (below_size (by exact HB.out)) : w.heap.size ≤ gb101));replace HB := Aside0.mk (below_step (by exact HB.out) hb);clear hb hbox hg;obtain ⟨hcz6_0, hcz6_1, hcz6_2, hfz6_0, hfz6_1, hfz6_2⟩ := bx3 BK101.out) | ((with_reducible refine gate_callee (f := 64) rfl ?_);refine goesL_ (some 8) rfl rfl Try.func64 (by kernel_rfl) rfl #[.slice A0_2 l0_2.length c0_2, .int .i64 a1] rfl (by (try simp only [List.map_toArray, List.map_cons, List.map_nil]);first | done | rfl | (simp only [List.length_drop, List.length_take];rfl)) ?_;(with_reducible refine (laws_szIntS.calls _ _ l0_2 a1 t102 _ ?side1 ?side2 A3.out).mono ?_);(case side1 => repeat (first | exact (Kd.C_below HR0_2.out HB.out) | (with_reducible refine Kd.C_alloc ?_ _) | (with_reducible refine Kd.C_drewN ?_ _) | (with_reducible refine Kd.C_drew ?_)));(case side2 => exact HC0_2.out);rintro e w' ⟨rfl, ⟨nd, rfl⟩⟩;refine ⟨_, rfl, ?_⟩))
  go_ret
  exact ⟨by first | rfl | (simp [errW_none, errW_some] <;> rfl) | (simp [*, errW_none, errW_some] <;> rfl), by repeat (first | (with_reducible first | exact HB.out | apply below_alloc | apply pw_below_drewN | apply below_drew1 | refine below_set ?_ GE101.out) | exact HB.out)⟩
 ·rw [if_neg c4] at H
  have c4b0 : decide (t102 < 0) = false := decide_eq_false c4
  clear c4
  obtain rfl := Option.some.inj H
  go_enter Try.func18, Try.ntmps18
  go_wp2_with (first | ((with_reducible refine gate_dst (N := 2) rfl ?_);refine box_event ?hg (N := 2) ?hd (cs := #[.int .i64 a0_0, .int .i64 a0_1, .slice A0_2 l0_2.length c0_2]) (t := 24) ?hr ?_;(case hd => rfl);(case hg => rfl);(case hr => first | (go_simp;done) | (go_simp;rfl));intro gb101 hg w7 hbox hb;have BK101 := Aside0.mk (hbox);have GW101 := Aside0.mk ((by rw [hg];exact (below_size (by exact HB.out)) : w.heap.size ≤ gb101));have GE101 := Aside0.mk ((by rw [hg];exact (below_size (by exact HB.out)) : w.heap.size ≤ gb101));replace HB := Aside0.mk (below_step (by exact HB.out) hb);clear hb hbox hg;obtain ⟨hcz8_0, hcz8_1, hcz8_2, hfz8_0, hfz8_1, hfz8_2⟩ := bx3 BK101.out) | ((with_reducible refine gate_callee (f := 64) rfl ?_);refine goesL_ (some 8) rfl rfl Try.func64 (by kernel_rfl) rfl #[.slice A0_2 l0_2.length c0_2, .int .i64 a1] rfl (by (try simp only [List.map_toArray, List.map_cons, List.map_nil]);first | done | rfl | (simp only [List.length_drop, List.length_take];rfl)) ?_;(with_reducible refine (laws_szIntS.calls _ _ l0_2 a1 t102 _ ?side1 ?side2 A3.out).mono ?_);(case side1 => repeat (first | exact (Kd.C_below HR0_2.out HB.out) | (with_reducible refine Kd.C_alloc ?_ _) | (with_reducible refine Kd.C_drewN ?_ _) | (with_reducible refine Kd.C_drew ?_)));(case side2 => exact HC0_2.out);rintro e w' ⟨rfl, ⟨nd, rfl⟩⟩;refine ⟨_, rfl, ?_⟩))
  go_ret
  exact ⟨by first | rfl | (simp [errW_none, errW_some] <;> rfl) | (simp [*, errW_none, errW_some] <;> rfl), by repeat (first | (with_reducible first | exact HB.out | apply below_alloc | apply pw_below_drewN | apply below_drew1 | refine below_set ?_ GE101.out) | exact HB.out)⟩

end Go.Proofs.Ytiplpckgmikmeaa.M
namespace Go.Proofs.Ytiplpckgmikmeaa.M
open Go.RowKit Go.Proofs.YtiplpckgmikmeaaW.PrintWords Go.Proofs.YtiplpckgmikmeaaW.PrintLast Go.Proofs.YtiplpckgmikmeaaW.PrintMore
attribute [local go_sem] max2_int min2_int max_two min_two max_three min_three max_four min_four
set_option linter.unusedVariables false
set_option linter.unusedSimpArgs false

def laws_szOccS.l0 : Nat → List (S24) → Int → Int → Option (Int)
 | 0, _, _, _ => none
 | k + 1, x0, x1, x5 => if x5 < (x0.length : Int) then (if 0 ≤ x5 then ((laws_szOcc.f ((rd_T24 x0 x5).f0) ((rd_T24 x0 x5).f1) ((rd_T24 x0 x5).f2) x1).bind fun t102 => (if t102 < 0 then (some (-1)) else (laws_szOccS.l0 k x0 t102 (wrap64 (x5 + 1))))) else (none)) else (some x1)
def laws_szOccS.f (k : Nat) (l0 : List (S24)) (a1 : Int) : Option (Int) := if (wrap64 (a1 - (l0.length : Int))) < 0 then (some (-1)) else (laws_szOccS.l0 k l0 (wrap64 (a1 - (l0.length : Int))) 0)
theorem laws_szOccS.mono_l : ∀ k, (∀ y0 y1 y2, LeO (laws_szOccS.l0 k y0 y1 y2) (laws_szOccS.l0 (k + 1) y0 y1 y2))
 | 0 => fun _ _ _ r h => by simp [laws_szOccS.l0] at h
 | k + 1 => by
  have ih0 := laws_szOccS.mono_l k
  ·intro y0 y1 y2
   unfold laws_szOccS.l0
   repeat' first
   | (with_reducible exact ih0 _ _ _)
   | (with_reducible exact LeO.refl _)
   | (with_reducible exact LeO.none _)
   | (with_reducible refine LeO.ite ?_ ?_)
   | (with_reducible refine LeO.bind ?_ (fun _ => ?_))
   | exact ih0 _ _ _
   | exact LeO.none _
   | refine LeO.ite ?_ ?_
   | refine LeO.bind ?_ (fun _ => ?_)
theorem laws_szOccS.mono : ∀ a0 a1 k, LeO (laws_szOccS.f k a0 a1) (laws_szOccS.f (k + 1) a0 a1) := by
 intro a0 a1 k
 have ih0 := laws_szOccS.mono_l k
 unfold laws_szOccS.f
 repeat' first
   | (with_reducible exact ih0 _ _ _)
   | (with_reducible exact LeO.refl _)
   | (with_reducible exact LeO.none _)
   | (with_reducible refine LeO.ite ?_ ?_)
   | (with_reducible refine LeO.bind ?_ (fun _ => ?_))
   | exact ih0 _ _ _
   | exact LeO.none _
   | refine LeO.ite ?_ ?_
   | refine LeO.bind ?_ (fun _ => ?_)
set_option maxHeartbeats 8000000 in
set_option maxRecDepth 100000 in
theorem laws_szOccS.calls (k : Nat) (A0 : Option Addr) (c0 : Nat) (l0 : List (S24)) (a1 : Int) (r : Int) (w : World) (hr0 : Kd.C k24 w A0 l0.length l0) (hc0 : l0.length ≤ c0) (h : laws_szOccS.f k l0 a1 = some r) :
  Calls Try.prog 23 #[.slice A0 l0.length c0, .int .i64 a1] w fun e w' => e = .returned (.int .i64 r) ∧ Below w.heap.size w w' := by
 have hu24 := Try.underlying24
 have HR0 := Aside0.mk hr0
 have HC0 := Aside0.mk hc0
 clear hr0 hc0
 have HB := Aside0.mk (Below.refl w.heap.size w)
 have H : (if (wrap64 (a1 - (l0.length : Int))) < 0 then (some (-1)) else (laws_szOccS.l0 k l0 (wrap64 (a1 - (l0.length : Int))) 0)) = some r := h
 clear h
 by_cases c3 : (wrap64 (a1 - (l0.length : Int))) < 0
 ·rw [if_pos c3] at H
  have c3b0 : decide ((wrap64 (a1 - (l0.length : Int))) < 0) = true := decide_eq_true c3
  clear c3
  obtain rfl := Option.some.inj H
  go_enter Try.func23, Try.ntmps23
  go_wp2
  go_ret
  exact ⟨by first | rfl | (simp [errW_none, errW_some] <;> rfl) | (simp [*, errW_none, errW_some] <;> rfl), by repeat (first | (with_reducible first | exact HB.out | apply below_alloc | apply pw_below_drewN | apply below_drew1) | exact HB.out)⟩
 ·rw [if_neg c3] at H
  have c3b0 : decide ((wrap64 (a1 - (l0.length : Int))) < 0) = false := decide_eq_false c3
  clear c3
  have H' := Aside0.mk H
  clear H
  go_enter Try.func23, Try.ntmps23
  go_wp2
  go_loopg [1, 5] k (fun kq v1 v5 w' => ∃ (x1_1 : Int) (x5_1 : Int), v1 = .int .i64 x1_1 ∧ v5 = .int .i64 x5_1 ∧ Aside0 (laws_szOccS.l0 kq l0 x1_1 x5_1 = some r) ∧ Aside0 (kq ≤ k) ∧ Aside0 (Below w.heap.size w w'))
  case atStart => exact ⟨(wrap64 (a1 - (l0.length : Int))), (0), (by first | rfl | (simp;done) | (simp [*];done)), (by first | rfl | (simp;done) | (simp [*];done)), H', ⟨Nat.le_refl _⟩, ⟨by repeat (first | (with_reducible first | exact HB.out | apply below_alloc | apply pw_below_drewN | apply below_drew1) | exact HB.out)⟩⟩
  case round =>
   clear H'
   try clear c2
   try clear p2
   try clear c3
   try clear c3b0
   obtain ⟨x1_1, x5_1, rfl, rfl, HA, HK1, HB⟩ := hrel
   cases gk with
   | zero => exact absurd HA.out (by simp [laws_szOccS.l0])
   | succ k1 =>
    have H := HA.out
    clear HA
    simp only [laws_szOccS.l0] at H
    by_cases c4 : x5_1 < (l0.length : Int)
    ·rw [if_pos c4] at H
     have c4b0 : decide (x5_1 < (l0.length : Int)) = true := decide_eq_true c4
     clear c4
     by_cases c5 : 0 ≤ x5_1
     ·rw [if_pos c5] at H
      have c5b0 : decide (0 ≤ x5_1) = true := decide_eq_true c5
      clear c5
      replace H := Option.bind_eq_some_iff.mp H
      obtain ⟨t102, A60, H⟩ := H
      replace H : (if t102 < 0 then (some (-1)) else (laws_szOccS.l0 k1 l0 t102 (wrap64 (x5_1 + 1)))) = some r := H
      have A6 := Aside0.mk A60
      clear A60
      by_cases c7 : t102 < 0
      ·rw [if_pos c7] at H
       have c7b0 : decide (t102 < 0) = true := decide_eq_true c7
       clear c7
       obtain rfl := Option.some.inj H
       have p101 : 0 ≤ (x5_1 : Int) := of_decide_eq_true (by first | (with_reducible assumption) | assumption)
       have q101 : x5_1 < (l0.length : Int) := of_decide_eq_true (by first | (with_reducible assumption) | assumption)
       obtain ⟨ad101, A101_2, c101_2, e101, hx101_0, hx101_1, hx101_2, hl101_2, hi101_2⟩ := at_T24 HR0.out x5_1 p101 q101
       cases e101
       replace hx101_0 := (HB.out.cell (World.block_lt_of_cell? w _ hx101_0)).trans hx101_0
       replace hx101_1 := (HB.out.cell (World.block_lt_of_cell? w _ hx101_1)).trans hx101_1
       replace hx101_2 := (HB.out.cell (World.block_lt_of_cell? w _ hx101_2)).trans hx101_2
       have HR101_2 := Aside0.mk hi101_2
       have HC101_2 := Aside0.mk hl101_2
       clear hi101_2 hl101_2
       replace p101 := eq_true p101
       replace q101 := eq_true q101
       go_wp2_with (first | ((with_reducible refine gate_callee (f := 18) rfl ?_);refine goesL_ (some 23) rfl rfl Try.func18 (by kernel_rfl) rfl #[.agg #[.int .i64 ((rd_T24 l0 x5_1).f0), .int .i64 ((rd_T24 l0 x5_1).f1), .slice A101_2 ((rd_T24 l0 x5_1).f2).length c101_2], .int .i64 x1_1] rfl (by (try simp only [List.map_toArray, List.map_cons, List.map_nil]);first | done | rfl | (simp only [List.length_drop, List.length_take];rfl)) ?_;(with_reducible refine (laws_szOcc.calls ((rd_T24 l0 x5_1).f0) ((rd_T24 l0 x5_1).f1) _ _ ((rd_T24 l0 x5_1).f2) x1_1 t102 _ ?side1 ?side2 A6.out).mono ?_);(case side1 => repeat (first | exact (Kd.C_below HR101_2.out HB.out) | (with_reducible refine Kd.C_alloc ?_ _) | (with_reducible refine Kd.C_drewN ?_ _) | (with_reducible refine Kd.C_drew ?_)));(case side2 => exact HC101_2.out);rintro e w8 ⟨rfl, hb⟩;refine ⟨_, rfl, ?_⟩;replace HB := Aside0.mk (below_step (by exact HB.out) hb);(try clear hb);(try clear hb2);(try clear hk);(try clear hi)))
       go_ret
       exact ⟨by first | rfl | (simp [errW_none, errW_some] <;> rfl) | (simp [*, errW_none, errW_some] <;> rfl), by repeat (first | (with_reducible first | exact HB.out | apply below_alloc | apply pw_below_drewN | apply below_drew1) | exact HB.out)⟩
      ·rw [if_neg c7] at H
       have c7b0 : decide (t102 < 0) = false := decide_eq_false c7
       clear c7
       have H' := Aside0.mk H
       clear H
       have p101 : 0 ≤ (x5_1 : Int) := of_decide_eq_true (by first | (with_reducible assumption) | assumption)
       have q101 : x5_1 < (l0.length : Int) := of_decide_eq_true (by first | (with_reducible assumption) | assumption)
       obtain ⟨ad101, A101_2, c101_2, e101, hx101_0, hx101_1, hx101_2, hl101_2, hi101_2⟩ := at_T24 HR0.out x5_1 p101 q101
       cases e101
       replace hx101_0 := (HB.out.cell (World.block_lt_of_cell? w _ hx101_0)).trans hx101_0
       replace hx101_1 := (HB.out.cell (World.block_lt_of_cell? w _ hx101_1)).trans hx101_1
       replace hx101_2 := (HB.out.cell (World.block_lt_of_cell? w _ hx101_2)).trans hx101_2
       have HR101_2 := Aside0.mk hi101_2
       have HC101_2 := Aside0.mk hl101_2
       clear hi101_2 hl101_2
       replace p101 := eq_true p101
       replace q101 := eq_true q101
       go_wp2_with (first | ((with_reducible refine gate_callee (f := 18) rfl ?_);refine goesL_ (some 23) rfl rfl Try.func18 (by kernel_rfl) rfl #[.agg #[.int .i64 ((rd_T24 l0 x5_1).f0), .int .i64 ((rd_T24 l0 x5_1).f1), .slice A101_2 ((rd_T24 l0 x5_1).f2).length c101_2], .int .i64 x1_1] rfl (by (try simp only [List.map_toArray, List.map_cons, List.map_nil]);first | done | rfl | (simp only [List.length_drop, List.length_take];rfl)) ?_;(with_reducible refine (laws_szOcc.calls ((rd_T24 l0 x5_1).f0) ((rd_T24 l0 x5_1).f1) _ _ ((rd_T24 l0 x5_1).f2) x1_1 t102 _ ?side1 ?side2 A6.out).mono ?_);(case side1 => repeat (first | exact (Kd.C_below HR101_2.out HB.out) | (with_reducible refine Kd.C_alloc ?_ _) | (with_reducible refine Kd.C_drewN ?_ _) | (with_reducible refine Kd.C_drew ?_)));(case side2 => exact HC101_2.out);rintro e w9 ⟨rfl, hb⟩;refine ⟨_, rfl, ?_⟩;replace HB := Aside0.mk (below_step (by exact HB.out) hb);(try clear hb);(try clear hb2);(try clear hk);(try clear hi)))
       go_roundg k1
       case measure => have := HK1.out;omega
       case rel => exact ⟨(t102), (wrap64 (x5_1 + 1)), (by first | rfl | (simp;done) | (simp [*];done)), (by first | rfl | (simp;done) | (simp [*];done)), H', ⟨by have := HK1.out;omega⟩, ⟨by repeat (first | (with_reducible first | exact HB.out | apply below_alloc | apply pw_below_drewN | apply below_drew1) | exact HB.out)⟩⟩
     ·rw [if_neg c5] at H
      exact absurd H (by simp)
    ·rw [if_neg c4] at H
     have c4b0 : decide (x5_1 < (l0.length : Int)) = false := decide_eq_false c4
     clear c4
     obtain rfl := Option.some.inj H
     go_wp2
     go_ret
     exact ⟨by first | rfl | (simp [errW_none, errW_some] <;> rfl) | (simp [*, errW_none, errW_some] <;> rfl), by repeat (first | (with_reducible first | exact HB.out | apply below_alloc | apply pw_below_drewN | apply below_drew1) | exact HB.out)⟩

end Go.Proofs.Ytiplpckgmikmeaa.M
namespace Go.Proofs.Ytiplpckgmikmeaa.M
open Go.RowKit Go.Proofs.YtiplpckgmikmeaaW.PrintWords Go.Proofs.YtiplpckgmikmeaaW.PrintLast Go.Proofs.YtiplpckgmikmeaaW.PrintMore
attribute [local go_sem] max2_int min2_int max_two min_two max_three min_three max_four min_four
set_option linter.unusedVariables false
set_option linter.unusedSimpArgs false

def laws_toOcc.f (k : Nat) (a0_0 : Int) (a0_1 : Int) (l0_2 : List Int) : Option (Int × Int × List Int) := (laws_toIntS.f k l0_2).bind fun t104 => (some (a0_0, a0_1, t104))
theorem laws_toOcc.mono : ∀ a0 a1 a2 k, LeO (laws_toOcc.f k a0 a1 a2) (laws_toOcc.f (k + 1) a0 a1 a2) := by
 intro a0 a1 a2 k
 unfold laws_toOcc.f
 repeat' first
   | (with_reducible exact laws_toIntS.mono _ _)
   | (with_reducible exact LeO.refl _)
   | (with_reducible exact LeO.none _)
   | (with_reducible refine LeO.ite ?_ ?_)
   | (with_reducible refine LeO.bind ?_ (fun _ => ?_))
   | exact laws_toIntS.mono _ _
   | exact LeO.none _
   | refine LeO.ite ?_ ?_
   | refine LeO.bind ?_ (fun _ => ?_)
set_option maxHeartbeats 8000000 in
set_option maxRecDepth 100000 in
theorem laws_toOcc.calls (k : Nat) (a0_0 : Int) (a0_1 : Int) (A0_2 : Option Addr) (c0_2 : Nat) (l0_2 : List Int) (r1 : Int) (r2 : Int) (r3 : List Int) (w : World) (hr0_2 : Kd.C (Kd.int .i64) w A0_2 l0_2.length l0_2) (hc0_2 : l0_2.length ≤ c0_2) (h : laws_toOcc.f k a0_0 a0_1 l0_2 = some (r1, r2, r3)) :
  Calls Try.prog 20 #[.agg #[.int .i64 a0_0, .int .i64 a0_1, .slice A0_2 l0_2.length c0_2]] w fun e w' => ∃ v2_ : Value, e = .returned (.agg #[.int .i64 r1, .int .i64 r2, v2_]) ∧ Kd.R (Kd.int .i64) 3 w' w.heap.size (fun _ => True) v2_ r3 ∧ Below w.heap.size w w' := by
 have hu24 := Try.underlying24
 have hu27 := Try.underlying27
 have HR0_2 := Aside0.mk hr0_2
 have HC0_2 := Aside0.mk hc0_2
 clear hr0_2 hc0_2
 have HB := Aside0.mk (Below.refl w.heap.size w)
 have H : ((laws_toIntS.f k l0_2).bind fun t104 => (some (a0_0, a0_1, t104))) = some (r1, r2, r3) := h
 clear h
 replace H := Option.bind_eq_some_iff.mp H
 obtain ⟨t104, A20, H⟩ := H
 replace H : (some (a0_0, a0_1, t104)) = some (r1, r2, r3) := H
 have A2 := Aside0.mk A20
 clear A20
 simp only [Option.some.injEq, Prod.mk.injEq] at H
 obtain ⟨rfl, rfl, rfl⟩ := H
 go_enter Try.func20, Try.ntmps20
 go_wp2_with (first | ((with_reducible refine gate_dst (N := 1) rfl ?_);refine box_event ?hg (N := 1) ?hd (cs := #[.int .i64 a0_0, .int .i64 a0_1, .slice A0_2 l0_2.length c0_2]) (t := 24) ?hr ?_;(case hd => rfl);(case hg => rfl);(case hr => first | (go_simp;done) | (go_simp;rfl));intro gb101 hg w3 hbox hb;have n0_ := Aside0.mk (below_step (by repeat (first | (with_reducible first | exact HB.out | apply below_alloc | apply pw_below_drewN | apply below_drew1) | exact HB.out)) hb);have n1_ := Aside0.mk (hbox);have n2_ := Aside0.mk ((by rw [hg];exact (below_size (by repeat (first | (with_reducible first | exact HB.out | apply below_alloc | apply pw_below_drewN | apply below_drew1) | exact HB.out))) : w.heap.size ≤ gb101));have n3_ := Aside0.mk ((by rw [hg];exact (below_size (by repeat (first | (with_reducible first | exact HB.out | apply below_alloc | apply pw_below_drewN | apply below_drew1) | exact HB.out))) : w.heap.size ≤ gb101));clear HB;have HB := n0_;have BK101 := n1_;have GW101 := n2_;have GE101 := n3_;clear n0_ n1_ n2_ n3_;clear hb hbox hg) | ((with_reducible refine gate_dst (N := 2) rfl ?_);refine box_event ?hg (N := 2) ?hd (cs := #[.int .i64 0, .int .i64 0, .slice none 0 0]) (t := 27) ?hr ?_;(case hd => rfl);(case hg => rfl);(case hr => first | (go_simp;done) | (go_simp;rfl));intro gb102 hg w4 hbox hb;have n0_ := Aside0.mk (blk_below BK101.out hb);have n1_ := Aside0.mk (below_step (by repeat (first | (with_reducible first | exact HB.out | apply below_alloc | apply pw_below_drewN | apply below_drew1 | refine below_set ?_ GE101.out) | exact HB.out)) hb);have n2_ := Aside0.mk (hbox);have n3_ := Aside0.mk ((by rw [hg];exact (below_size (by repeat (first | (with_reducible first | exact HB.out | apply below_alloc | apply pw_below_drewN | apply below_drew1 | refine below_set ?_ GE101.out) | exact HB.out))) : w.heap.size ≤ gb102));have n4_ := Aside0.mk ((by rw [hg];exact (below_size (by repeat (first | (with_reducible first | exact HB.out | apply below_alloc | apply pw_below_drewN | apply below_drew1 | refine below_set ?_ GE101.out) | exact HB.out))) : w.heap.size ≤ gb102));have n5_ := Aside0.mk ((by rw [hg];exact Nat.ne_of_lt (blk_lt BK101.out) : gb101 ≠ gb102));have n6_ := Aside0.mk ((by rw [hg];exact Nat.ne_of_gt (blk_lt BK101.out) : gb102 ≠ gb101));clear BK101;clear HB;have BK101 := n0_;have HB := n1_;have BK102 := n2_;have GW102 := n3_;have GE102 := n4_;have NB101_102 := n5_;have NB102_101 := n6_;clear n0_ n1_ n2_ n3_ n4_ n5_ n6_;clear hb hbox hg) | ((with_reducible refine gate_dst (N := 3) rfl ?_);refine box_event ?hg (N := 3) ?hd (cs := #[.int .i64 0, .int .i64 0, .slice none 0 0]) (t := 27) ?hr ?_;(case hd => rfl);(case hg => rfl);(case hr => first | (go_simp;done) | (go_simp;rfl));intro gb103 hg w5 hbox hb;have n0_ := Aside0.mk (blk_below BK101.out hb);have n1_ := Aside0.mk (blk_below BK102.out hb);have n2_ := Aside0.mk (below_step (by repeat (first | (with_reducible first | exact HB.out | apply below_alloc | apply pw_below_drewN | apply below_drew1 | refine below_set ?_ GE101.out | refine below_set ?_ GE102.out) | exact HB.out)) hb);have n3_ := Aside0.mk (hbox);have n4_ := Aside0.mk ((by rw [hg];exact (below_size (by repeat (first | (with_reducible first | exact HB.out | apply below_alloc | apply pw_below_drewN | apply below_drew1 | refine below_set ?_ GE101.out | refine below_set ?_ GE102.out) | exact HB.out))) : w.heap.size ≤ gb103));have n5_ := Aside0.mk ((by rw [hg];exact (below_size (by repeat (first | (with_reducible first | exact HB.out | apply below_alloc | apply pw_below_drewN | apply below_drew1 | refine below_set ?_ GE101.out | refine below_set ?_ GE102.out) | exact HB.out))) : w.heap.size ≤ gb103));have n6_ := Aside0.mk ((by rw [hg];exact Nat.ne_of_lt (blk_lt BK101.out) : gb101 ≠ gb103));have n7_ := Aside0.mk ((by rw [hg];exact Nat.ne_of_gt (blk_lt BK101.out) : gb103 ≠ gb101));have n8_ := Aside0.mk ((by rw [hg];exact Nat.ne_of_lt (blk_lt BK102.out) : gb102 ≠ gb103));have n9_ := Aside0.mk ((by rw [hg];exact Nat.ne_of_gt (blk_lt BK102.out) : gb103 ≠ gb102));clear BK101;clear BK102;clear HB;have BK101 := n0_;have BK102 := n1_;have HB := n2_;have BK103 := n3_;have GW103 := n4_;have GE103 := n5_;have NB101_103 := n6_;have NB103_101 := n7_;have NB102_103 := n8_;have NB103_102 := n9_;clear n0_ n1_ n2_ n3_ n4_ n5_ n6_ n7_ n8_ n9_;clear hb hbox hg;have hnb6 := NB101_102.out;have hnc6 := NB102_101.out;have hnb7 := NB101_103.out;have hnc7 := NB103_101.out;have hcz8_0 : w5.cell? ⟨gb101, 0, none⟩ = some (.int .i64 a0_0) := (blk_cell BK101.out 0).trans rfl;have hcz8_1 : w5.cell? ⟨gb101, 1, none⟩ = some (.int .i64 a0_1) := (blk_cell BK101.out 1).trans rfl;have hcz8_2 : w5.cell? ⟨gb101, 2, none⟩ = some (.slice A0_2 l0_2.length c0_2) := (blk_cell BK101.out 2).trans rfl;have hfz8_0 := blk_frozen BK101.out 0;have hfz8_1 := blk_frozen BK101.out 1;have hfz8_2 := blk_frozen BK101.out 2;have hnb9 := NB103_102.out;have hnc9 := NB102_103.out;have hcz10_0 : w5.cell? ⟨gb103, 0, none⟩ = some (.int .i64 0) := (blk_cell BK103.out 0).trans rfl;have hcz10_1 : w5.cell? ⟨gb103, 1, none⟩ = some (.int .i64 0) := (blk_cell BK103.out 1).trans rfl;have hcz10_2 : w5.cell? ⟨gb103, 2, none⟩ = some (.slice none 0 0) := (blk_cell BK103.out 2).trans rfl;have hfz10_0 := blk_frozen BK103.out 0;have hfz10_1 := blk_frozen BK103.out 1;have hfz10_2 := blk_frozen BK103.out 2) | ((with_reducible refine gate_callee (f := 65) rfl ?_);refine goesL_ (some 12) rfl rfl Try.func65 (by kernel_rfl) rfl #[.slice A0_2 l0_2.length c0_2] rfl (by (try simp only [List.map_toArray, List.map_cons, List.map_nil]);first | done | rfl | (simp only [List.length_drop, List.length_take];rfl)) ?_;(with_reducible refine (laws_toIntS.calls k _ _ l0_2 t104 _ ?side1 ?side2 A2.out).mono ?_);(case side1 => exact Kd.C_below HR0_2.out (by repeat (first | (with_reducible first | exact HB.out | apply below_alloc | apply pw_below_drewN | apply below_drew1 | refine below_set ?_ GE101.out | refine below_set ?_ GE102.out | refine below_set ?_ GE103.out) | exact HB.out)));(case side2 => exact HC0_2.out);rintro e w11 ⟨v105, rfl, ho0, hb⟩;refine ⟨_, rfl, ?_⟩;have n0_ := Aside0.mk (Kd.R_lower ho0 (below_size (by repeat (first | (with_reducible first | exact HB.out | apply below_alloc | apply pw_below_drewN | apply below_drew1 | refine below_set ?_ GE101.out | refine below_set ?_ GE102.out | refine below_set ?_ GE103.out) | exact HB.out))));have n1_ := Aside0.mk (blk_below (g := gb101) (o := .cells #[.int .i64 a0_0, .int .i64 a0_1, .slice A0_2 l0_2.length c0_2] 24 (0, 0)) (by (with_reducible repeat (first | refine blk_drewN ?_ _ | refine blk_drew ?_ | refine blk_alloc ?_ _));refine blk_far ?_ NB101_103.out _;(with_reducible repeat (first | refine blk_drewN ?_ _ | refine blk_drew ?_ | refine blk_alloc ?_ _));refine blk_far ?_ NB101_103.out _;(with_reducible repeat (first | refine blk_drewN ?_ _ | refine blk_drew ?_ | refine blk_alloc ?_ _));exact BK101.out) hb);have n2_ := Aside0.mk (blk_below (g := gb102) (o := .cells #[.int .i64 0, .int .i64 0, .slice none 0 0] 27 (0, 0)) (by (with_reducible repeat (first | refine blk_drewN ?_ _ | refine blk_drew ?_ | refine blk_alloc ?_ _));refine blk_far ?_ NB102_103.out _;(with_reducible repeat (first | refine blk_drewN ?_ _ | refine blk_drew ?_ | refine blk_alloc ?_ _));refine blk_far ?_ NB102_103.out _;(with_reducible repeat (first | refine blk_drewN ?_ _ | refine blk_drew ?_ | refine blk_alloc ?_ _));exact BK102.out) hb);have n3_ := Aside0.mk (blk_below (g := gb103) (o := .cells #[.int .i64 a0_0, .int .i64 a0_1, .slice none 0 0] 27 (0, 0)) (by (with_reducible repeat (first | refine blk_drewN ?_ _ | refine blk_drew ?_ | refine blk_alloc ?_ _));refine blk_put (cs := #[.int .i64 a0_0, .int .i64 0, .slice none 0 0]) ?_ 1 _ rfl;(with_reducible repeat (first | refine blk_drewN ?_ _ | refine blk_drew ?_ | refine blk_alloc ?_ _));refine blk_put (cs := #[.int .i64 0, .int .i64 0, .slice none 0 0]) ?_ 0 _ rfl;(with_reducible repeat (first | refine blk_drewN ?_ _ | refine blk_drew ?_ | refine blk_alloc ?_ _));exact BK103.out) hb);have n4_ := Aside0.mk (below_step (by repeat (first | (with_reducible first | exact HB.out | apply below_alloc | apply pw_below_drewN | apply below_drew1 | refine below_set ?_ GE101.out | refine below_set ?_ GE102.out | refine below_set ?_ GE103.out) | exact HB.out)) hb);clear BK101;clear BK102;clear BK103;clear HB;have HO106 := n0_;have BK101 := n1_;have BK102 := n2_;have BK103 := n3_;have HB := n4_;clear n0_ n1_ n2_ n3_ n4_;(try clear hb);(try clear hb2);(try clear hk);(try clear hi);(try clear ho0);obtain ⟨Ao12, co12, eo12⟩ := Kd.R_slice HO106.out;subst eo12;have hcz13_0 : w11.cell? ⟨gb103, 0, none⟩ = some (.int .i64 a0_0) := (blk_cell BK103.out 0).trans rfl;have hcz13_1 : w11.cell? ⟨gb103, 1, none⟩ = some (.int .i64 a0_1) := (blk_cell BK103.out 1).trans rfl;have hcz13_2 : w11.cell? ⟨gb103, 2, none⟩ = some (.slice none 0 0) := (blk_cell BK103.out 2).trans rfl;have hfz13_0 := blk_frozen BK103.out 0;have hfz13_1 := blk_frozen BK103.out 1;have hfz13_2 := blk_frozen BK103.out 2;have hcz14_0 : w11.cell? ⟨gb102, 0, none⟩ = some (.int .i64 0) := (blk_cell BK102.out 0).trans rfl;have hcz14_1 : w11.cell? ⟨gb102, 1, none⟩ = some (.int .i64 0) := (blk_cell BK102.out 1).trans rfl;have hcz14_2 : w11.cell? ⟨gb102, 2, none⟩ = some (.slice none 0 0) := (blk_cell BK102.out 2).trans rfl;have hfz14_0 := blk_frozen BK102.out 0;have hfz14_1 := blk_frozen BK102.out 1;have hfz14_2 := blk_frozen BK102.out 2))
 refine bodyPost_ret (results_cell_row rfl _ _ gb102 27 #[.int .i64 a0_0, .int .i64 a0_1, .slice Ao12 t104.length co12] (0, 0) _ rfl (by (with_reducible repeat (first | refine blk_drewN ?_ _ | refine blk_drew ?_ | refine blk_alloc ?_ _));refine blk_put (cs := #[.int .i64 a0_0, .int .i64 a0_1, .slice none 0 0]) ?_ 2 _ rfl;(with_reducible repeat (first | refine blk_drewN ?_ _ | refine blk_drew ?_ | refine blk_alloc ?_ _));refine blk_put (cs := #[.int .i64 a0_0, .int .i64 0, .slice none 0 0]) ?_ 1 _ rfl;(with_reducible repeat (first | refine blk_drewN ?_ _ | refine blk_drew ?_ | refine blk_alloc ?_ _));refine blk_put (cs := #[.int .i64 0, .int .i64 0, .slice none 0 0]) ?_ 0 _ rfl;(with_reducible repeat (first | refine blk_drewN ?_ _ | refine blk_drew ?_ | refine blk_alloc ?_ _));refine blk_far ?_ NB102_103.out _;(with_reducible repeat (first | refine blk_drewN ?_ _ | refine blk_drew ?_ | refine blk_alloc ?_ _));exact BK102.out) Try.underlying27 rfl (by kernel_rfl)) rfl ?_
 exact ⟨_, by first | rfl | (simp [errW_none, errW_some] <;> rfl) | (simp [*, errW_none, errW_some] <;> rfl), by (with_reducible repeat (first | apply Kd.R_alloc | apply Kd.R_drewN | apply Kd.R_drew));exact Kd.R_mono (Kd.R_far (p := ⟨gb102, 2, none⟩) (Kd.R_far (p := ⟨gb102, 1, none⟩) (Kd.R_far (p := ⟨gb102, 0, none⟩) (Kd.R_far (p := ⟨gb103, 2, none⟩) (Kd.R_types (Kd.R_types HO106.out BK103.out (by decide)) BK102.out (by decide)) (fun _ hk => hk.1.2) (.slice Ao12 t104.length co12)) (fun _ hk => hk.2) (.int .i64 a0_0)) (fun _ hk => hk.2) (.int .i64 a0_1)) (fun _ hk => hk.2) (.slice Ao12 t104.length co12)) (fun _ hk => trivial), by repeat (first | (with_reducible first | exact HB.out | apply below_alloc | apply pw_below_drewN | apply below_drew1 | refine below_set ?_ GE101.out | refine below_set ?_ GE102.out | refine below_set ?_ GE103.out) | exact HB.out)⟩

end Go.Proofs.Ytiplpckgmikmeaa.M
namespace Go.Proofs.Ytiplpckgmikmeaa.M
open Go.RowKit Go.Proofs.YtiplpckgmikmeaaW.PrintWords Go.Proofs.YtiplpckgmikmeaaW.PrintLast Go.Proofs.YtiplpckgmikmeaaW.PrintMore
attribute [local go_sem] max2_int min2_int max_two min_two max_three min_three max_four min_four
set_option linter.unusedVariables false
set_option linter.unusedSimpArgs false

def laws_toOccS.l0 : Nat → List (S24) → List (S27) → Int → Option ((List (S27)))
 | 0, _, _, _ => none
 | k + 1, x0, x3, x4 => if x4 < (x0.length : Int) then (if 0 ≤ x4 then ((laws_toOcc.f k ((rd_T24 x0 x4).f0) ((rd_T24 x0 x4).f1) ((rd_T24 x0 x4).f2)).bind fun bt105 => (if x4 < (x3.length : Int) then (laws_toOccS.l0 k x0 (x3.set (x4 : Int).toNat (⟨bt105.1, bt105.2.1, bt105.2.2⟩ : S27)) (wrap64 (x4 + 1))) else (none))) else (none)) else (some x3)
def laws_toOccS.f (k : Nat) (l0 : List (S24)) : Option ((List (S27))) := if 0 ≤ (l0.length : Int) then (if ((l0.length : Int) : Int).toNat ≤ 7036874417766 then (laws_toOccS.l0 k l0 (List.replicate ((l0.length : Int) : Int).toNat z27) 0) else (none)) else (none)
theorem laws_toOccS.mono_l : ∀ k, (∀ y0 y1 y2, LeO (laws_toOccS.l0 k y0 y1 y2) (laws_toOccS.l0 (k + 1) y0 y1 y2))
 | 0 => fun _ _ _ r h => by simp [laws_toOccS.l0] at h
 | k + 1 => by
  have ih0 := laws_toOccS.mono_l k
  ·intro y0 y1 y2
   unfold laws_toOccS.l0
   repeat' first
   | (with_reducible exact ih0 _ _ _)
   | (with_reducible exact laws_toOcc.mono _ _ _ _)
   | (with_reducible exact LeO.refl _)
   | (with_reducible exact LeO.none _)
   | (with_reducible refine LeO.ite ?_ ?_)
   | (with_reducible refine LeO.bind ?_ (fun _ => ?_))
   | exact ih0 _ _ _
   | exact laws_toOcc.mono _ _ _ _
   | exact LeO.none _
   | refine LeO.ite ?_ ?_
   | refine LeO.bind ?_ (fun _ => ?_)
theorem laws_toOccS.mono : ∀ a0 k, LeO (laws_toOccS.f k a0) (laws_toOccS.f (k + 1) a0) := by
 intro a0 k
 have ih0 := laws_toOccS.mono_l k
 unfold laws_toOccS.f
 repeat' first
   | (with_reducible exact ih0 _ _ _)
   | (with_reducible exact laws_toOcc.mono _ _ _ _)
   | (with_reducible exact LeO.refl _)
   | (with_reducible exact LeO.none _)
   | (with_reducible refine LeO.ite ?_ ?_)
   | (with_reducible refine LeO.bind ?_ (fun _ => ?_))
   | exact ih0 _ _ _
   | exact laws_toOcc.mono _ _ _ _
   | exact LeO.none _
   | refine LeO.ite ?_ ?_
   | refine LeO.bind ?_ (fun _ => ?_)
set_option maxHeartbeats 8000000 in
set_option maxRecDepth 100000 in
theorem laws_toOccS.calls (k : Nat) (A0 : Option Addr) (c0 : Nat) (l0 : List (S24)) (r : List (S27)) (w : World) (hr0 : Kd.C k24 w A0 l0.length l0) (hc0 : l0.length ≤ c0) (h : laws_toOccS.f k l0 = some r) :
  Calls Try.prog 25 #[.slice A0 l0.length c0] w fun e w' => ∃ v0_ : Value, e = .returned (v0_) ∧ Kd.S k27 27 w' w.heap.size (fun _ => True) v0_ r ∧ Below w.heap.size w w' := by
 have hu24 := Try.underlying24
 have hu27 := Try.underlying27
 have HR0 := Aside0.mk hr0
 have HC0 := Aside0.mk hc0
 clear hr0 hc0
 have HB := Aside0.mk (Below.refl w.heap.size w)
 have H : (if 0 ≤ (l0.length : Int) then (if ((l0.length : Int) : Int).toNat ≤ 7036874417766 then (laws_toOccS.l0 k l0 (List.replicate ((l0.length : Int) : Int).toNat z27) 0) else (none)) else (none)) = some r := h
 clear h
 by_cases c2 : 0 ≤ (l0.length : Int)
 ·rw [if_pos c2] at H
  have c2b0 := eq_true c2
  have c2b1 : decide (0 ≤ (l0.length : Int)) = true := decide_eq_true c2
  clear c2
  by_cases c3 : ((l0.length : Int) : Int).toNat ≤ 7036874417766
  ·rw [if_pos c3] at H
   have c3b0 := eq_true c3
   have c3b1 : decide (((l0.length : Int) : Int).toNat ≤ 7036874417766) = true := decide_eq_true c3
   clear c3
   obtain ⟨y101, hy101⟩ : ∃ y_ : List (S27), y_ = (List.replicate ((l0.length : Int) : Int).toNat z27) := ⟨_, rfl⟩
   replace H : (laws_toOccS.l0 k l0 y101 0) = some r := by first | (rw [hy101];with_reducible exact H) | (have H2_ := (Option.bind_some _ _).symm.trans H;rw [hy101];with_reducible exact H2_) | (have H2_ := (Option.bind_some _ _).symm.trans H;with_reducible exact H2_) | with_reducible exact H | (rw [hy101];exact H) | exact H
   have Ny101 := Aside0.mk hy101
   clear hy101
   have H' := Aside0.mk H
   clear H
   go_enter Try.func25, Try.ntmps25
   go_wp2_with (first | ((with_reducible refine gate_dst (N := 7) rfl ?_);refine Kd.S_make k27 _ 27 rfl (N := 7) rfl 34 _ _ rfl (l0.length : Int) rfl rfl Try.underlying34 (.agg #[(.int .i64 0), (.int .i64 0), (.slice none 0 0)]) 40 info27 rfl (by decide) (by omega) z27 (ok := fun _ => True) (okp := fun _ => True) (k27_mkM _ _ _ z27 (Kd.R_nil _ _ _ _ _)) (fun _ hk => hk) trivial (of_decide_eq_true (by first | (with_reducible assumption) | assumption)) (Nat.le_trans (Nat.mul_le_mul_right _ (of_decide_eq_true (by first | (with_reducible assumption) | assumption) : (l0.length : Int).toNat ≤ 7036874417766)) (by omega)) (Below.refl _ _) (Nat.le_refl _) ?_;intro v102 w4 ho5 hb hg_ hnew_;clear hg_ hnew_;(first | rw [← Ny101.out] at ho5 | (simp only [Int.reduceToNat] at ho5;rw [← Ny101.out] at ho5));have HO103 := Aside0.mk (Kd.S_lower ho5 (below_size (by exact HB.out)));replace HB := Aside0.mk (below_step (by exact HB.out) hb);clear hb ho5))
   go_loopg [4] k (fun kq v4 w' => ∃ (x3_1 : List (S27)) (x4_1 : Int), v4 = .int .i64 x4_1 ∧ Aside0 (laws_toOccS.l0 kq l0 x3_1 x4_1 = some r) ∧ Aside0 (kq ≤ k) ∧ Aside0 (Kd.S k27 27 w' w.heap.size (fun _ => True) v102 x3_1) ∧ Aside0 (Below w.heap.size w w'))
   case atStart => exact ⟨(y101), (0), (by first | rfl | (simp;done) | (simp [*];done)), H', ⟨Nat.le_refl _⟩, ⟨by (with_reducible repeat (first | apply Kd.S_alloc | apply Kd.S_drewN | apply Kd.S_drew));exact HO103.out⟩, ⟨by repeat (first | (with_reducible first | exact HB.out | apply below_alloc | apply pw_below_drewN | apply below_drew1) | exact HB.out)⟩⟩
   case round =>
    clear H'
    try clear c2
    try clear c2b0
    try clear c2b1
    try clear p2
    try clear c3
    try clear c3b0
    try clear c3b1
    obtain ⟨x3_1, x4_1, rfl, HA, HK1, HO_3, HB⟩ := hrel
    cases gk with
    | zero => exact absurd HA.out (by simp [laws_toOccS.l0])
    | succ k1 =>
     have H := HA.out
     clear HA
     simp only [laws_toOccS.l0] at H
     by_cases c6 : x4_1 < (l0.length : Int)
     ·rw [if_pos c6] at H
      have c6b0 : decide (x4_1 < (l0.length : Int)) = true := decide_eq_true c6
      clear c6
      by_cases c7 : 0 ≤ x4_1
      ·rw [if_pos c7] at H
       have c7b0 : decide (0 ≤ x4_1) = true := decide_eq_true c7
       clear c7
       replace H := Option.bind_eq_some_iff.mp H
       obtain ⟨⟨t105, t106, t107⟩, A80, H⟩ := H
       replace H : (if x4_1 < (x3_1.length : Int) then (laws_toOccS.l0 k1 l0 (x3_1.set (x4_1 : Int).toNat (⟨t105, t106, t107⟩ : S27)) (wrap64 (x4_1 + 1))) else (none)) = some r := H
       have A8 := Aside0.mk A80
       clear A80
       by_cases c9 : x4_1 < (x3_1.length : Int)
       ·rw [if_pos c9] at H
        have c9b0 : decide (x4_1 < (x3_1.length : Int)) = true := decide_eq_true c9
        clear c9
        obtain ⟨y110, hy110⟩ : ∃ y_ : List (S27), y_ = (x3_1.set (x4_1 : Int).toNat (⟨t105, t106, t107⟩ : S27)) := ⟨_, rfl⟩
        replace H : (laws_toOccS.l0 k1 l0 y110 (wrap64 (x4_1 + 1))) = some r := by first | (rw [hy110];with_reducible exact H) | (have H2_ := (Option.bind_some _ _).symm.trans H;rw [hy110];with_reducible exact H2_) | (have H2_ := (Option.bind_some _ _).symm.trans H;with_reducible exact H2_) | with_reducible exact H | (rw [hy110];exact H) | exact H
        have Ny110 := Aside0.mk hy110
        clear hy110
        have H' := Aside0.mk H
        clear H
        have p104 : 0 ≤ (x4_1 : Int) := of_decide_eq_true (by first | (with_reducible assumption) | assumption)
        have q104 : x4_1 < (l0.length : Int) := of_decide_eq_true (by first | (with_reducible assumption) | assumption)
        obtain ⟨ad104, A104_2, c104_2, e104, hx104_0, hx104_1, hx104_2, hl104_2, hi104_2⟩ := at_T24 HR0.out x4_1 p104 q104
        cases e104
        replace hx104_0 := (HB.out.cell (World.block_lt_of_cell? w _ hx104_0)).trans hx104_0
        replace hx104_1 := (HB.out.cell (World.block_lt_of_cell? w _ hx104_1)).trans hx104_1
        replace hx104_2 := (HB.out.cell (World.block_lt_of_cell? w _ hx104_2)).trans hx104_2
        have HR104_2 := Aside0.mk hi104_2
        have HC104_2 := Aside0.mk hl104_2
        clear hi104_2 hl104_2
        replace p104 := eq_true p104
        replace q104 := eq_true q104
        go_wp2_with (first | ((with_reducible refine gate_callee (f := 20) rfl ?_);refine goesL_ (some 20) rfl rfl Try.func20 (by kernel_rfl) rfl #[.agg #[.int .i64 ((rd_T24 l0 x4_1).f0), .int .i64 ((rd_T24 l0 x4_1).f1), .slice A104_2 ((rd_T24 l0 x4_1).f2).length c104_2]] rfl (by (try simp only [List.map_toArray, List.map_cons, List.map_nil]);first | done | rfl | (simp only [List.length_drop, List.length_take];rfl)) ?_;(with_reducible refine (laws_toOcc.calls k1 ((rd_T24 l0 x4_1).f0) ((rd_T24 l0 x4_1).f1) _ _ ((rd_T24 l0 x4_1).f2) t105 t106 t107 _ ?side1 ?side2 A8.out).mono ?_);(case side1 => repeat (first | exact (Kd.C_below HR104_2.out HB.out) | (with_reducible refine Kd.C_alloc ?_ _) | (with_reducible refine Kd.C_drewN ?_ _) | (with_reducible refine Kd.C_drew ?_)));(case side2 => exact HC104_2.out);rintro e w11 ⟨v108, rfl, ho0, hb⟩;refine ⟨_, rfl, ?_⟩;replace HO_3 := Aside0.mk (Kd.S_elder' (by exact HO_3.out) (Kd.R_base ho0) hb);have HO109 := Aside0.mk (Kd.R_lower ho0 (below_size (by exact HB.out)));replace HB := Aside0.mk (below_step (by exact HB.out) hb);(try clear hb);(try clear hb2);(try clear hk);(try clear hi);(try clear ho0);have p10 : 0 ≤ (x4_1 : Int) := of_decide_eq_true (by first | (with_reducible assumption) | assumption);have q10 : (x4_1 : Int) < ((x3_1.length : Int) : Int) := of_decide_eq_true (by first | (with_reducible assumption) | assumption);obtain ⟨go10, co10, eo10, gb10, gl10, cl10, HG10⟩ := Kd.S_form HO_3.out (by omega);(first | cases eo10 | (injection eo10 with ea_ en_ ec_;(first | subst ea_ | (injection ea_ with ea_;subst ea_));subst ec_;clear en_));have GB10 := Aside0.mk gb10;have GG10 := Aside0.mk HG10;clear gb10 gl10 HG10;obtain ⟨_, ce10, hcl10, hM10, hcc10, hfr10, _, _⟩ := Kd.S_elem HO_3.out z27 (x4_1 : Int) p10 q10;obtain ⟨ve10_2, rfl, ge10_2⟩ := k27_openM hM10;have hx10_0 : w11.cell? ⟨go10, (x4_1 : Int).toNat * 3, none⟩ = some (.int .i64 ((rd_T27 x3_1 x4_1).f0)) := hcc10 0 _ rfl;have hx10_1 : w11.cell? ⟨go10, (x4_1 : Int).toNat * 3 + 1, none⟩ = some (.int .i64 ((rd_T27 x3_1 x4_1).f1)) := hcc10 1 _ rfl;have hx10_2 : w11.cell? ⟨go10, (x4_1 : Int).toNat * 3 + 2, none⟩ = some (ve10_2) := hcc10 2 _ rfl;have hf10_0 : w11.frozen? ⟨go10, (x4_1 : Int).toNat * 3, none⟩ = false := hfr10 0;have hf10_1 : w11.frozen? ⟨go10, (x4_1 : Int).toNat * 3 + 1, none⟩ = false := hfr10 1;have hf10_2 : w11.frozen? ⟨go10, (x4_1 : Int).toNat * 3 + 2, none⟩ = false := hfr10 2;clear hcl10 hcc10 hfr10 hM10;replace p10 := eq_true p10;replace q10 := eq_true q10;obtain ⟨Ao14, co14, eo14⟩ := Kd.R_slice HO109.out;subst eo14;have n_ := Aside0.mk (Kd.S_mono (ok' := (fun k_ => some k_ ≠ (.slice Ao14 t107.length co14 : Value).ownBlock)) HO_3.out (fun k_ hk => hk.2));clear HO_3;have HO_3 := n_;clear n_;have HX12 := Aside0.mk (show Kd.S k27 27 w11 w.heap.size (fun k_ => ((fun _ => True)) k_ ∧ ¬ ((fun k_ => some k_ = (.slice Ao14 t107.length co14 : Value).ownBlock)) k_) (.slice (some ⟨go10, 0, none⟩) x3_1.length co10) x3_1 from (by (with_reducible repeat (first | apply Kd.S_alloc | apply Kd.S_drewN | apply Kd.S_drew));exact Kd.S_mono HO_3.out (fun k_ hk => ⟨trivial, fun e_ => hk e_⟩)));obtain ⟨oki12, ce12, hcl12, hM12, hcc12, hfr12, hoki12, hH12⟩ := Kd.S_elem HX12.out z27 (x4_1 : Int) (of_decide_eq_true (by first | (with_reducible assumption) | assumption)) (by have h_ : (x4_1 : Int) < ((x3_1.length : Int) : Int) := of_decide_eq_true (by first | (with_reducible assumption) | assumption);first | exact h_ | (have e_ := (Kd.S_reads' HO_3.out).1;omega) | simpa using h_);obtain ⟨ve12_2, rfl, ge12_2⟩ := k27_openM hM12;have HP12 := Kd.S_seg hH12 (of_decide_eq_true (by first | (with_reducible assumption) | assumption)) (by have h_ : (x4_1 : Int) < ((x3_1.length : Int) : Int) := of_decide_eq_true (by first | (with_reducible assumption) | assumption);first | exact h_ | (have e_ := (Kd.S_reads' HO_3.out).1;omega) | simpa using h_) (seg := [.int .i64 t105, .int .i64 t106, .slice Ao14 t107.length co14]) (j := 0) (show 3 ≤ 3 from by decide) (x' := (⟨t105, t106, t107⟩ : S27)) (k27_mkM _ _ _ (⟨t105, t106, t107⟩ : S27) (Kd.R_mono (Kd.R_tight rfl (Kd.R_mono (ok' := fun k_ => ((fun _ => True)) k_ ∧ k_ ≠ go10) (Kd.R_apart' (HO109.out) (Kd.S_typed HO_3.out) (by decide)) (fun k_ hk => ⟨trivial, fun e_ => (hk.2) (by rw [e_];rfl)⟩))) (fun _ h_ => Or.inr (h_)))) (fun _ hk => hk) (fun k_ hk_ => ((Kd.R_mono (ok' := fun k_ => ((fun _ => True)) k_ ∧ k_ ≠ go10) (Kd.R_apart' (HO109.out) (Kd.S_typed HO_3.out) (by decide)) (fun k_ hk => ⟨trivial, fun e_ => (hk.2) (by rw [e_];rfl)⟩))).1 k_ hk_.symm);have hx12_0 := hcc12 0 _ rfl;(try simp only [show (k27).sz = 3 from rfl, Nat.mul_one, Nat.add_zero] at hx12_0);have hf12_0 := hfr12 0;(try simp only [show (k27).sz = 3 from rfl, Nat.mul_one, Nat.add_zero] at hf12_0);have hx12_1 := hcc12 1 _ rfl;(try simp only [show (k27).sz = 3 from rfl, Nat.mul_one, Nat.add_zero] at hx12_1);have hf12_1 := hfr12 1;(try simp only [show (k27).sz = 3 from rfl, Nat.mul_one, Nat.add_zero] at hf12_1);have hx12_2 := hcc12 2 _ rfl;(try simp only [show (k27).sz = 3 from rfl, Nat.mul_one, Nat.add_zero] at hx12_2);have hf12_2 := hfr12 2;(try simp only [show (k27).sz = 3 from rfl, Nat.mul_one, Nat.add_zero] at hf12_2);clear hcl12 hcc12 hfr12 hM12 hoki12 hH12) | ((with_reducible refine gate_store (t := 27) (p := 21) rfl ?_);refine store_event (t := 27) (p := 21) (v := ?vo_w13) (w1 := (((w11.setCell ⟨go10, (x4_1 : Int).toNat * 3, none⟩ (.int .i64 t105)).setCell ⟨go10, (x4_1 : Int).toNat * 3 + 1, none⟩ (.int .i64 t106)).setCell ⟨go10, (x4_1 : Int).toNat * 3 + 2, none⟩ (.slice Ao14 t107.length co14))) ?hg ?ho ?hn ?hr ?_;(case ho => rfl);(case hg => rfl);(case hn => rfl);(case hr => first | (go_simp;done) | (go_simp;rfl));intro w13 hw;have hg : w11.grownBy w13 (some go10) := (by rw [hw];exact HP12.2);have hp_ : Kd.S k27 27 w13 w.heap.size (fun _ => True) (.slice (some ⟨go10, 0, none⟩) x3_1.length co10) y110 := (by rw [hw, Ny110.out];exact HP12.1);clear HP12;have n0_ := Aside0.mk (hp_);have n1_ := Aside0.mk ((by rw [hw];exact below_set (below_set (below_set (HB.out) GB10.out) GB10.out) GB10.out : Below w.heap.size w w13));clear HO_3;clear HB;clear HO109;have HO_3 := n0_;have HB := n1_;clear n0_ n1_;clear hg hw hp_))
        go_roundg k1
        case measure => have := HK1.out;omega
        case rel => exact ⟨(y110), (wrap64 (x4_1 + 1)), (by first | rfl | (simp;done) | (simp [*];done)), H', ⟨by have := HK1.out;omega⟩, ⟨by (with_reducible repeat (first | apply Kd.S_alloc | apply Kd.S_drewN | apply Kd.S_drew));exact HO_3.out⟩, ⟨by repeat (first | (with_reducible first | exact HB.out | apply below_alloc | apply pw_below_drewN | apply below_drew1) | exact HB.out)⟩⟩
       ·rw [if_neg c9] at H
        exact absurd H (by simp)
      ·rw [if_neg c7] at H
       exact absurd H (by simp)
     ·rw [if_neg c6] at H
      have c6b0 : decide (x4_1 < (l0.length : Int)) = false := decide_eq_false c6
      clear c6
      obtain rfl := Option.some.inj H
      go_wp2
      go_ret
      exact ⟨_, by first | rfl | (simp [errW_none, errW_some] <;> rfl) | (simp [*, errW_none, errW_some] <;> rfl), by (with_reducible repeat (first | apply Kd.S_alloc | apply Kd.S_drewN | apply Kd.S_drew));exact HO_3.out, by repeat (first | (with_reducible first | exact HB.out | apply below_alloc | apply pw_below_drewN | apply below_drew1) | exact HB.out)⟩
  ·rw [if_neg c3] at H
   exact absurd H (by simp)
 ·rw [if_neg c2] at H
  exact absurd H (by simp)

end Go.Proofs.Ytiplpckgmikmeaa.M
namespace Go.Proofs.Ytiplpckgmikmeaa.M
open Go.RowKit Go.Proofs.YtiplpckgmikmeaaW.PrintWords Go.Proofs.YtiplpckgmikmeaaW.PrintLast Go.Proofs.YtiplpckgmikmeaaW.PrintMore
attribute [local go_sem] max2_int min2_int max_two min_two max_three min_three max_four min_four
set_option linter.unusedVariables false
set_option linter.unusedSimpArgs false

def laws_eqOcc.f (k : Nat) (a0_0 : Int) (a0_1 : Int) (l0_2 : List Int) (a1_0 : Int) (a1_1 : Int) (l1_2 : List Int) : Option (Bool) := if a0_0 = a1_0 then (if a0_1 = a1_1 then ((laws_eqIntS.f k l0_2 l1_2).bind fun t103 => (if t103 = true then (some true) else (some false))) else (some false)) else (some false)
theorem laws_eqOcc.mono : ∀ a0 a1 a2 a3 a4 a5 k, LeO (laws_eqOcc.f k a0 a1 a2 a3 a4 a5) (laws_eqOcc.f (k + 1) a0 a1 a2 a3 a4 a5) := by
 intro a0 a1 a2 a3 a4 a5 k
 unfold laws_eqOcc.f
 repeat' first
   | (with_reducible exact laws_eqIntS.mono _ _ _)
   | (with_reducible exact LeO.refl _)
   | (with_reducible exact LeO.none _)
   | (with_reducible refine LeO.ite ?_ ?_)
   | (with_reducible refine LeO.bind ?_ (fun _ => ?_))
   | exact laws_eqIntS.mono _ _ _
   | exact LeO.none _
   | refine LeO.ite ?_ ?_
   | refine LeO.bind ?_ (fun _ => ?_)
set_option maxHeartbeats 8000000 in
set_option maxRecDepth 100000 in
theorem laws_eqOcc.calls (k : Nat) (a0_0 : Int) (a0_1 : Int) (A0_2 : Option Addr) (c0_2 : Nat) (l0_2 : List Int) (a1_0 : Int) (a1_1 : Int) (A1_2 : Option Addr) (c1_2 : Nat) (l1_2 : List Int) (r : Bool) (hT_ : Aside0 (r = true)) (w : World) (hr0_2 : Kd.C (Kd.int .i64) w A0_2 l0_2.length l0_2) (hc0_2 : l0_2.length ≤ c0_2) (hr1_2 : Kd.C (Kd.int .i64) w A1_2 l1_2.length l1_2) (hc1_2 : l1_2.length ≤ c1_2) (h : laws_eqOcc.f k a0_0 a0_1 l0_2 a1_0 a1_1 l1_2 = some r) :
  Calls Try.prog 22 #[.agg #[.int .i64 a0_0, .int .i64 a0_1, .slice A0_2 l0_2.length c0_2], .agg #[.int .i64 a1_0, .int .i64 a1_1, .slice A1_2 l1_2.length c1_2]] w fun e w' => e = .returned (.bool r) ∧ Below w.heap.size w w' := by
 have hu27 := Try.underlying27
 have HR0_2 := Aside0.mk hr0_2
 have HC0_2 := Aside0.mk hc0_2
 clear hr0_2 hc0_2
 have HR1_2 := Aside0.mk hr1_2
 have HC1_2 := Aside0.mk hc1_2
 clear hr1_2 hc1_2
 have HB := Aside0.mk (Below.refl w.heap.size w)
 have H : (if a0_0 = a1_0 then (if a0_1 = a1_1 then ((laws_eqIntS.f k l0_2 l1_2).bind fun t103 => (if t103 = true then (some true) else (some false))) else (some false)) else (some false)) = some r := h
 clear h
 by_cases c3 : a0_0 = a1_0
 ·rw [if_pos c3] at H
  have c3b0 : (a0_0 == a1_0) = true := beq_iff_eq.mpr c3
  have c3b1 : (a0_0 != a1_0) = false := bne_eq_false_iff_eq.mpr c3
  clear c3
  by_cases c4 : a0_1 = a1_1
  ·rw [if_pos c4] at H
   have c4b0 : (a0_1 == a1_1) = true := beq_iff_eq.mpr c4
   have c4b1 : (a0_1 != a1_1) = false := bne_eq_false_iff_eq.mpr c4
   clear c4
   replace H := Option.bind_eq_some_iff.mp H
   obtain ⟨t103, A50, H⟩ := H
   replace H : (if t103 = true then (some true) else (some false)) = some r := H
   have A5 := Aside0.mk A50
   clear A50
   by_cases c6 : t103 = true
   ·subst c6
    have H1 : (some true) = some r := by rw [if_pos rfl] at H;exact H
    clear H
    have H := H1
    clear H1
    obtain rfl := Option.some.inj H
    go_enter Try.func22, Try.ntmps22
    go_wp2_with (first | ((with_reducible refine gate_dst (N := 2) rfl ?_);refine box_event ?hg (N := 2) ?hd (cs := #[.int .i64 a0_0, .int .i64 a0_1, .slice A0_2 l0_2.length c0_2]) (t := 27) ?hr ?_;(case hd => rfl);(case hg => rfl);(case hr => first | (go_simp;done) | (go_simp;rfl));intro gb101 hg w7 hbox hb;have BK101 := Aside0.mk (hbox);have GW101 := Aside0.mk ((by rw [hg];exact (below_size (by exact HB.out)) : w.heap.size ≤ gb101));have GE101 := Aside0.mk ((by rw [hg];exact (below_size (by exact HB.out)) : w.heap.size ≤ gb101));replace HB := Aside0.mk (below_step (by exact HB.out) hb);clear hb hbox hg) | ((with_reducible refine gate_dst (N := 3) rfl ?_);refine box_event ?hg (N := 3) ?hd (cs := #[.int .i64 a1_0, .int .i64 a1_1, .slice A1_2 l1_2.length c1_2]) (t := 27) ?hr ?_;(case hd => rfl);(case hg => rfl);(case hr => first | (go_simp;done) | (go_simp;rfl));intro gb102 hg w8 hbox hb;have BK102 := Aside0.mk (hbox);have GW102 := Aside0.mk ((by rw [hg];exact (below_size (by exact HB.out)) : w.heap.size ≤ gb102));have GE102 := Aside0.mk ((by rw [hg];exact (below_size (by exact HB.out)) : w.heap.size ≤ gb102));replace HB := Aside0.mk (below_step (by exact HB.out) hb);have NB101_102 := Aside0.mk ((by rw [hg];exact Nat.ne_of_lt (blk_lt BK101.out) : gb101 ≠ gb102));have NB102_101 := Aside0.mk ((by rw [hg];exact Nat.ne_of_gt (blk_lt BK101.out) : gb102 ≠ gb101));replace BK101 := Aside0.mk (blk_below BK101.out hb);clear hb hbox hg;have hnb9 := NB101_102.out;have hnc9 := NB102_101.out;obtain ⟨hcz10_0, hcz10_1, hcz10_2, hfz10_0, hfz10_1, hfz10_2⟩ := bx3 BK101.out;obtain ⟨hcz11_0, hcz11_1, hcz11_2, hfz11_0, hfz11_1, hfz11_2⟩ := bx3 BK102.out) | ((with_reducible refine gate_callee (f := 67) rfl ?_);refine goesL_ (some 19) rfl rfl Try.func67 (by kernel_rfl) rfl #[.slice A0_2 l0_2.length c0_2, .slice A1_2 l1_2.length c1_2] rfl (by (try simp only [List.map_toArray, List.map_cons, List.map_nil]);first | done | rfl | (simp only [List.length_drop, List.length_take];rfl)) ?_;(with_reducible refine (laws_eqIntS.calls k _ _ l0_2 _ _ l1_2 true ⟨rfl⟩ _ ?side1 ?side2 ?side3 ?side4 A5.out).mono ?_);(case side1 => repeat (first | exact (Kd.C_below HR0_2.out HB.out) | (with_reducible refine Kd.C_alloc ?_ _) | (with_reducible refine Kd.C_drewN ?_ _) | (with_reducible refine Kd.C_drew ?_)));(case side2 => exact HC0_2.out);(case side3 => repeat (first | exact (Kd.C_below HR1_2.out HB.out) | (with_reducible refine Kd.C_alloc ?_ _) | (with_reducible refine Kd.C_drewN ?_ _) | (with_reducible refine Kd.C_drew ?_)));(case side4 => exact HC1_2.out);rintro e w' ⟨rfl, ⟨nd, rfl⟩⟩;refine ⟨_, rfl, ?_⟩))
    go_ret
    exact ⟨by first | rfl | (simp [errW_none, errW_some] <;> rfl) | (simp [*, errW_none, errW_some] <;> rfl), by repeat (first | (with_reducible first | exact HB.out | apply below_alloc | apply pw_below_drewN | apply below_drew1 | refine below_set ?_ GE101.out | refine below_set ?_ GE102.out) | exact HB.out)⟩
   ·replace c6 := Bool.eq_false_iff.mpr c6
    subst c6
    have H1 : (some false) = some r := by rw [if_neg (show ¬ (false = true) by decide)] at H;exact H
    clear H
    have H := H1
    clear H1
    exact absurd (Option.some.inj H) (by rw [hT_.out];decide)
  ·rw [if_neg c4] at H
   have c4b0 : (a0_1 == a1_1) = false := beq_eq_false_iff_ne.mpr c4
   have c4b1 : (a0_1 != a1_1) = true := bne_iff_ne.mpr c4
   exact absurd (Option.some.inj H) (by rw [hT_.out];decide)
 ·rw [if_neg c3] at H
  have c3b0 : (a0_0 == a1_0) = false := beq_eq_false_iff_ne.mpr c3
  have c3b1 : (a0_0 != a1_0) = true := bne_iff_ne.mpr c3
  exact absurd (Option.some.inj H) (by rw [hT_.out];decide)

end Go.Proofs.Ytiplpckgmikmeaa.M
namespace Go.Proofs.Ytiplpckgmikmeaa.M
open Go.RowKit Go.Proofs.YtiplpckgmikmeaaW.PrintWords Go.Proofs.YtiplpckgmikmeaaW.PrintLast Go.Proofs.YtiplpckgmikmeaaW.PrintMore
attribute [local go_sem] max2_int min2_int max_two min_two max_three min_three max_four min_four
set_option linter.unusedVariables false
set_option linter.unusedSimpArgs false

def laws_eqOccS.l0 : Nat → List (S27) → List (S27) → Int → Option (Bool)
 | 0, _, _, _ => none
 | k + 1, x0, x1, x5 => if x5 < (x0.length : Int) then (if 0 ≤ x5 then (if x5 < (x1.length : Int) then ((laws_eqOcc.f k ((rd_T27 x0 x5).f0) ((rd_T27 x0 x5).f1) ((rd_T27 x0 x5).f2) ((rd_T27 x1 x5).f0) ((rd_T27 x1 x5).f1) ((rd_T27 x1 x5).f2)).bind fun t103 => (if t103 = true then (laws_eqOccS.l0 k x0 x1 (wrap64 (x5 + 1))) else (some false))) else (none)) else (none)) else (some true)
def laws_eqOccS.f (k : Nat) (l0 : List (S27)) (l1 : List (S27)) : Option (Bool) := if (l0.length : Int) = (l1.length : Int) then (laws_eqOccS.l0 k l0 l1 0) else (some false)
theorem laws_eqOccS.mono_l : ∀ k, (∀ y0 y1 y2, LeO (laws_eqOccS.l0 k y0 y1 y2) (laws_eqOccS.l0 (k + 1) y0 y1 y2))
 | 0 => fun _ _ _ r h => by simp [laws_eqOccS.l0] at h
 | k + 1 => by
  have ih0 := laws_eqOccS.mono_l k
  ·intro y0 y1 y2
   unfold laws_eqOccS.l0
   repeat' first
   | (with_reducible exact ih0 _ _ _)
   | (with_reducible exact laws_eqOcc.mono _ _ _ _ _ _ _)
   | (with_reducible exact LeO.refl _)
   | (with_reducible exact LeO.none _)
   | (with_reducible refine LeO.ite ?_ ?_)
   | (with_reducible refine LeO.bind ?_ (fun _ => ?_))
   | exact ih0 _ _ _
   | exact laws_eqOcc.mono _ _ _ _ _ _ _
   | exact LeO.none _
   | refine LeO.ite ?_ ?_
   | refine LeO.bind ?_ (fun _ => ?_)
theorem laws_eqOccS.mono : ∀ a0 a1 k, LeO (laws_eqOccS.f k a0 a1) (laws_eqOccS.f (k + 1) a0 a1) := by
 intro a0 a1 k
 have ih0 := laws_eqOccS.mono_l k
 unfold laws_eqOccS.f
 repeat' first
   | (with_reducible exact ih0 _ _ _)
   | (with_reducible exact laws_eqOcc.mono _ _ _ _ _ _ _)
   | (with_reducible exact LeO.refl _)
   | (with_reducible exact LeO.none _)
   | (with_reducible refine LeO.ite ?_ ?_)
   | (with_reducible refine LeO.bind ?_ (fun _ => ?_))
   | exact ih0 _ _ _
   | exact laws_eqOcc.mono _ _ _ _ _ _ _
   | exact LeO.none _
   | refine LeO.ite ?_ ?_
   | refine LeO.bind ?_ (fun _ => ?_)
def laws_eqOccS.T6 : Bool × List (List Nat × List Nat) := (true, [([], []), ([], []), ([0, 1], [0, 1]), ([2], [2]), ([], []), ([], []), ([4, 5], [4, 5]), ([6], [6]), ([3, 7], [3, 7]), ([8], [8])])
def laws_eqOccS.B6 : List Nat := [0, 0, 3, 7, 0, 0, 48, 112, 255, 511]
theorem laws_eqOccS.tab6 : rtab .any (opsOf Try.f27 6) = laws_eqOccS.T6 := by kernel_rfl
theorem laws_eqOccS.bits6 : waitsOk laws_eqOccS.T6.2 laws_eqOccS.B6 = true := by kernel_rfl
set_option maxHeartbeats 8000000 in
set_option maxRecDepth 100000 in
theorem laws_eqOccS.calls (k : Nat) (A0 : Option Addr) (c0 : Nat) (l0 : List (S27)) (A1 : Option Addr) (c1 : Nat) (l1 : List (S27)) (r : Bool) (hT_ : Aside0 (r = true)) (w : World) (hr0 : Kd.C k27 w A0 l0.length l0) (hc0 : l0.length ≤ c0) (hr1 : Kd.C k27 w A1 l1.length l1) (hc1 : l1.length ≤ c1) (h : laws_eqOccS.f k l0 l1 = some r) :
  Calls Try.prog 27 #[.slice A0 l0.length c0, .slice A1 l1.length c1] w fun e w' => e = .returned (.bool r) ∧ Below w.heap.size w w' := by
 have hu27 := Try.underlying27
 have HR0 := Aside0.mk hr0
 have HC0 := Aside0.mk hc0
 clear hr0 hc0
 have HR1 := Aside0.mk hr1
 have HC1 := Aside0.mk hc1
 clear hr1 hc1
 have HB := Aside0.mk (Below.refl w.heap.size w)
 have H : (if (l0.length : Int) = (l1.length : Int) then (laws_eqOccS.l0 k l0 l1 0) else (some false)) = some r := h
 clear h
 by_cases c3 : (l0.length : Int) = (l1.length : Int)
 ·rw [if_pos c3] at H
  have c3b0 : ((l0.length : Int) == (l1.length : Int)) = true := beq_iff_eq.mpr c3
  have c3b1 : ((l0.length : Int) != (l1.length : Int)) = false := bne_eq_false_iff_eq.mpr c3
  have c3b2 : (l0.length == l1.length) = true := by first | simpa using c3 | (simp at c3 ⊢;omega)
  clear c3
  have H' := Aside0.mk H
  clear H
  go_enter Try.func27, Try.ntmps27
  go_wp2
  go_loopg [5] k (fun kq v5 w' => ∃ (x5_1 : Int), v5 = .int .i64 x5_1 ∧ Aside0 (laws_eqOccS.l0 kq l0 l1 x5_1 = some r) ∧ Aside0 (kq ≤ k) ∧ Aside0 (Below w.heap.size w w'))
  case atStart => exact ⟨(0), (by first | rfl | (simp;done) | (simp [*];done)), H', ⟨Nat.le_refl _⟩, ⟨by repeat (first | (with_reducible first | exact HB.out | apply below_alloc | apply pw_below_drewN | apply below_drew1) | exact HB.out)⟩⟩
  case round =>
   clear H'
   try clear c1
   try clear c2
   try clear p2
   try clear c3
   try clear c3b0
   try clear c3b1
   try clear c3b2
   obtain ⟨x5_1, rfl, HA, HK1, HB⟩ := hrel
   cases gk with
   | zero => exact absurd HA.out (by simp [laws_eqOccS.l0])
   | succ k1 =>
    have H := HA.out
    clear HA
    simp only [laws_eqOccS.l0] at H
    by_cases c4 : x5_1 < (l0.length : Int)
    ·rw [if_pos c4] at H
     have c4b0 : decide (x5_1 < (l0.length : Int)) = true := decide_eq_true c4
     clear c4
     by_cases c5 : 0 ≤ x5_1
     ·rw [if_pos c5] at H
      have c5b0 : decide (0 ≤ x5_1) = true := decide_eq_true c5
      clear c5
      by_cases c6 : x5_1 < (l1.length : Int)
      ·rw [if_pos c6] at H
       have c6b0 : decide (x5_1 < (l1.length : Int)) = true := decide_eq_true c6
       clear c6
       replace H := Option.bind_eq_some_iff.mp H
       obtain ⟨t103, A70, H⟩ := H
       replace H : (if t103 = true then (laws_eqOccS.l0 k1 l0 l1 (wrap64 (x5_1 + 1))) else (some false)) = some r := H
       have A7 := Aside0.mk A70
       clear A70
       by_cases c8 : t103 = true
       ·subst c8
        have H1 : (laws_eqOccS.l0 k1 l0 l1 (wrap64 (x5_1 + 1))) = some r := by rw [if_pos rfl] at H;exact H
        clear H
        have H := H1
        clear H1
        have H' := Aside0.mk H
        clear H
        try go_wp2
        replace HB := Aside0.mk (below_drew1 HB.out)
        have p101 : 0 ≤ (x5_1 : Int) := of_decide_eq_true (by first | (with_reducible assumption) | assumption)
        have q101 : x5_1 < (l0.length : Int) := of_decide_eq_true (by first | (with_reducible assumption) | assumption)
        obtain ⟨ad101, A101_2, c101_2, e101, hx101_0, hx101_1, hx101_2, hl101_2, hi101_2⟩ := at_T27 HR0.out x5_1 p101 q101
        have hw101_2 := hx101_2
        have hw101_1 := hx101_1
        have hw101_0 := hx101_0
        cases e101
        replace hx101_0 := (HB.out.cell (World.block_lt_of_cell? w _ hx101_0)).trans hx101_0
        replace hx101_1 := (HB.out.cell (World.block_lt_of_cell? w _ hx101_1)).trans hx101_1
        replace hx101_2 := (HB.out.cell (World.block_lt_of_cell? w _ hx101_2)).trans hx101_2
        have HR101_2 := Aside0.mk hi101_2
        have HC101_2 := Aside0.mk hl101_2
        clear hi101_2 hl101_2
        replace p101 := eq_true p101
        replace q101 := eq_true q101
        have p102 : 0 ≤ (x5_1 : Int) := of_decide_eq_true (by first | (with_reducible assumption) | assumption)
        have q102 : x5_1 < (l1.length : Int) := of_decide_eq_true (by first | (with_reducible assumption) | assumption)
        obtain ⟨ad102, A102_2, c102_2, e102, hx102_0, hx102_1, hx102_2, hl102_2, hi102_2⟩ := at_T27 HR1.out x5_1 p102 q102
        have hw102_2 := hx102_2
        have hw102_1 := hx102_1
        have hw102_0 := hx102_0
        cases e102
        replace hx102_0 := (HB.out.cell (World.block_lt_of_cell? w _ hx102_0)).trans hx102_0
        replace hx102_1 := (HB.out.cell (World.block_lt_of_cell? w _ hx102_1)).trans hx102_1
        replace hx102_2 := (HB.out.cell (World.block_lt_of_cell? w _ hx102_2)).trans hx102_2
        have HR102_2 := Aside0.mk hi102_2
        have HC102_2 := Aside0.mk hl102_2
        clear hi102_2 hl102_2
        replace p102 := eq_true p102
        replace q102 := eq_true q102
        refine start_ (n := 10) (S := fun w' => w'.cell? (ad101.add ((x5_1).toNat * 3)) = some (.int .i64 ((rd_T27 l0 x5_1).f0)) ∧ w'.cell? ⟨(ad101.add ((x5_1).toNat * 3)).block, (ad101.add ((x5_1).toNat * 3)).off + 1, none⟩ = some (.int .i64 ((rd_T27 l0 x5_1).f1)) ∧ w'.cell? ⟨(ad101.add ((x5_1).toNat * 3)).block, (ad101.add ((x5_1).toNat * 3)).off + 2, none⟩ = some (.slice A101_2 ((rd_T27 l0 x5_1).f2).length c101_2) ∧ w'.cell? (ad102.add ((x5_1).toNat * 3)) = some (.int .i64 ((rd_T27 l1 x5_1).f0)) ∧ w'.cell? ⟨(ad102.add ((x5_1).toNat * 3)).block, (ad102.add ((x5_1).toNat * 3)).off + 1, none⟩ = some (.int .i64 ((rd_T27 l1 x5_1).f1)) ∧ w'.cell? ⟨(ad102.add ((x5_1).toNat * 3)).block, (ad102.add ((x5_1).toNat * 3)).off + 2, none⟩ = some (.slice A102_2 ((rd_T27 l1 x5_1).f2).length c102_2)) (ds := []) #[false, false, false, false, false, false, false, false, false, false] (by kernel_rfl) rfl rfl ⟨((HB.out.cell (World.block_lt_of_cell? w _ hw101_0)).trans hw101_0), ((HB.out.cell (World.block_lt_of_cell? w _ hw101_1)).trans hw101_1), ((HB.out.cell (World.block_lt_of_cell? w _ hw101_2)).trans hw101_2), ((HB.out.cell (World.block_lt_of_cell? w _ hw102_0)).trans hw102_0), ((HB.out.cell (World.block_lt_of_cell? w _ hw102_1)).trans hw102_1), ((HB.out.cell (World.block_lt_of_cell? w _ hw102_2)).trans hw102_2)⟩ (fun hHeld => ?_);refine with_tabW laws_eqOccS.tab6 laws_eqOccS.bits6 (fun HT_ HW_ => ?_)
        generalize wr.drew = w9 at HB HR101_2 HR102_2 hx101_0 hx101_1 hx101_2 hx102_0 hx102_1 hx102_2 hHeld ⊢
        refine pv_ 0 17 #[true, false, false, false, false, false, false, false, false, false] (any_of HT_.out (by kernel_rfl)) ?_
        refine pv_ 1 18 #[true, true, false, false, false, false, false, false, false, false] (any_of HT_.out (by kernel_rfl)) ?_
        refine pv_ 2 19 #[true, true, true, false, false, false, false, false, false, false] (any_of HT_.out (by kernel_rfl)) ?_
        refine pv_ 4 21 #[true, true, true, false, true, false, false, false, false, false] (any_of HT_.out (by kernel_rfl)) ?_
        refine pv_ 5 22 #[true, true, true, false, true, true, false, false, false, false] (any_of HT_.out (by kernel_rfl)) ?_
        refine pv_ 6 23 #[true, true, true, false, true, true, true, false, false, false] (any_of HT_.out (by kernel_rfl)) ?_
        refine take_ (i := 3) (N := some 20) (v := ?_) (a' := ?_) #[true, true, true, true, true, true, true, false, false, false] rfl rfl (take_ofW HT_.out HW_.out (by kernel_rfl)) (fun _ _ _ h => h) (Or.inl ⟨by rfl, ?_⟩) hHeld ?_ ?_
        rotate_left
        ·rintro w' ⟨s0, s1, s2, s3, s4, s5⟩
         go_simp
         with_reducible rfl
        rotate_left
        ·simp only [Act.put, List.setIfInBounds_toArray, List.set_cons_zero, List.set_cons_succ, i64_w, i32_w]
         rfl
        refine take_ (i := 7) (N := some 24) (v := ?_) (a' := ?_) #[true, true, true, true, true, true, true, true, false, false] rfl rfl (take_ofW HT_.out HW_.out (by kernel_rfl)) (fun _ _ _ h => h) (Or.inl ⟨by rfl, ?_⟩) hHeld ?_ ?_
        rotate_left
        ·rintro w' ⟨s0, s1, s2, s3, s4, s5⟩
         go_simp
         with_reducible rfl
        rotate_left
        ·simp only [Act.put, List.setIfInBounds_toArray, List.set_cons_zero, List.set_cons_succ, i64_w, i32_w]
         rfl
        refine one_ (i := 8) (N := some 25) #[true, true, true, true, true, true, true, true, true, false] rfl rfl (one_of HT_.out (by kernel_rfl)) (by decide) (fun K hK => ?_)
        refine goes_ Try.func22 (by kernel_rfl) rfl #[.agg #[.int .i64 ((rd_T27 l0 x5_1).f0), .int .i64 ((rd_T27 l0 x5_1).f1), .slice A101_2 ((rd_T27 l0 x5_1).f2).length c101_2], .agg #[.int .i64 ((rd_T27 l1 x5_1).f0), .int .i64 ((rd_T27 l1 x5_1).f1), .slice A102_2 ((rd_T27 l1 x5_1).f2).length c102_2]] (by rfl) rfl rfl (by (try simp only [List.map_toArray, List.map_cons, List.map_nil]);first | done | rfl | (simp only [List.length_drop, List.length_take];rfl)) ?_
        with_reducible refine (laws_eqOcc.calls k1 ((rd_T27 l0 x5_1).f0) ((rd_T27 l0 x5_1).f1) _ _ ((rd_T27 l0 x5_1).f2) ((rd_T27 l1 x5_1).f0) ((rd_T27 l1 x5_1).f1) _ _ ((rd_T27 l1 x5_1).f2) true ⟨rfl⟩ _ ?side1 ?side2 ?side3 ?side4 A7.out).mono ?_
        (case side1 => repeat (first | exact (Kd.C_below HR101_2.out HB.out) | (with_reducible refine Kd.C_alloc ?_ _) | (with_reducible refine Kd.C_drewN ?_ _) | (with_reducible refine Kd.C_drew ?_)))
        (case side2 => exact HC101_2.out)
        (case side3 => repeat (first | exact (Kd.C_below HR102_2.out HB.out) | (with_reducible refine Kd.C_alloc ?_ _) | (with_reducible refine Kd.C_drewN ?_ _) | (with_reducible refine Kd.C_drew ?_)))
        (case side4 => exact HC102_2.out)
        rintro e w10 ⟨rfl, hb⟩
        refine ⟨_, rfl, ?_⟩
        replace HB := Aside0.mk (below_step (by exact HB.out) hb)
        (try clear hb)
        (try clear hb2)
        (try clear hk)
        (try clear hi)
        refine hK.out _ _ ⟨((HB.out.cell (World.block_lt_of_cell? w _ hw101_0)).trans hw101_0), ((HB.out.cell (World.block_lt_of_cell? w _ hw101_1)).trans hw101_1), ((HB.out.cell (World.block_lt_of_cell? w _ hw101_2)).trans hw101_2), ((HB.out.cell (World.block_lt_of_cell? w _ hw102_0)).trans hw102_0), ((HB.out.cell (World.block_lt_of_cell? w _ hw102_1)).trans hw102_1), ((HB.out.cell (World.block_lt_of_cell? w _ hw102_2)).trans hw102_2)⟩ (fun hHeld => ?_)
        clear hK K
        refine norm_ (a' := ?_) ?_ ?_
        rotate_left
        ·show Act.put _ (some 25) _ = _
         simp only [Act.put, List.setIfInBounds_toArray, List.set_cons_zero, List.set_cons_succ, i64_w, i32_w]
         rfl
        refine pv_ 9 26 #[true, true, true, true, true, true, true, true, true, true] (any_of HT_.out (by kernel_rfl)) ?_
        refine done_ (done_of HT_.out (by kernel_rfl)) ?_
        try go_wp2
        go_roundg k1
        case measure => have := HK1.out;omega
        case rel => exact ⟨(wrap64 (x5_1 + 1)), (by first | rfl | (simp;done) | (simp [*];done)), H', ⟨by have := HK1.out;omega⟩, ⟨by repeat (first | (with_reducible first | exact HB.out | apply below_alloc | apply pw_below_drewN | apply below_drew1) | exact HB.out)⟩⟩
       ·replace c8 := Bool.eq_false_iff.mpr c8
        subst c8
        have H1 : (some false) = some r := by rw [if_neg (show ¬ (false = true) by decide)] at H;exact H
        clear H
        have H := H1
        clear H1
        exact absurd (Option.some.inj H) (by rw [hT_.out];decide)
      ·rw [if_neg c6] at H
       exact absurd H (by simp)
     ·rw [if_neg c5] at H
      exact absurd H (by simp)
    ·rw [if_neg c4] at H
     have c4b0 : decide (x5_1 < (l0.length : Int)) = false := decide_eq_false c4
     clear c4
     obtain rfl := Option.some.inj H
     go_wp2
     go_ret
     exact ⟨by first | rfl | (simp [errW_none, errW_some] <;> rfl) | (simp [*, errW_none, errW_some] <;> rfl), by repeat (first | (with_reducible first | exact HB.out | apply below_alloc | apply pw_below_drewN | apply below_drew1) | exact HB.out)⟩
 ·rw [if_neg c3] at H
  have c3b0 : ((l0.length : Int) == (l1.length : Int)) = false := beq_eq_false_iff_ne.mpr c3
  have c3b1 : ((l0.length : Int) != (l1.length : Int)) = true := bne_iff_ne.mpr c3
  have c3b2 : (l0.length == l1.length) = false := by first | simpa using c3 | (simp at c3 ⊢;omega)
  exact absurd (Option.some.inj H) (by rw [hT_.out];decide)

end Go.Proofs.Ytiplpckgmikmeaa.M
namespace Go.Proofs.Ytiplpckgmikmeaa.M
open Go.RowKit Go.Proofs.YtiplpckgmikmeaaW.PrintWords Go.Proofs.YtiplpckgmikmeaaW.PrintLast Go.Proofs.YtiplpckgmikmeaaW.PrintMore
attribute [local go_sem] max2_int min2_int max_two min_two max_three min_three max_four min_four
set_option linter.unusedVariables false
set_option linter.unusedSimpArgs false

def spec_OccsSame.l0 : Nat → List (S27) → List (S27) → Int → Option (Bool)
 | 0, _, _, _ => none
 | k + 1, x0, x1, x5 => if x5 < (x0.length : Int) then (if 0 ≤ x5 then (if x5 < (x1.length : Int) then ((spec_l3Same.f k ((rd_T27 x0 x5).f0) ((rd_T27 x0 x5).f1) ((rd_T27 x0 x5).f2) ((rd_T27 x1 x5).f0) ((rd_T27 x1 x5).f1) ((rd_T27 x1 x5).f2)).bind fun t103 => (if t103 = true then (spec_OccsSame.l0 k x0 x1 (wrap64 (x5 + 1))) else (some false))) else (none)) else (none)) else (some true)
def spec_OccsSame.f (k : Nat) (l0 : List (S27)) (l1 : List (S27)) : Option (Bool) := if (l0.length : Int) = (l1.length : Int) then (spec_OccsSame.l0 k l0 l1 0) else (some false)
theorem spec_OccsSame.mono_l : ∀ k, (∀ y0 y1 y2, LeO (spec_OccsSame.l0 k y0 y1 y2) (spec_OccsSame.l0 (k + 1) y0 y1 y2))
 | 0 => fun _ _ _ r h => by simp [spec_OccsSame.l0] at h
 | k + 1 => by
  have ih0 := spec_OccsSame.mono_l k
  ·intro y0 y1 y2
   unfold spec_OccsSame.l0
   repeat' first
   | (with_reducible exact ih0 _ _ _)
   | (with_reducible exact spec_l3Same.mono _ _ _ _ _ _ _)
   | (with_reducible exact LeO.refl _)
   | (with_reducible exact LeO.none _)
   | (with_reducible refine LeO.ite ?_ ?_)
   | (with_reducible refine LeO.bind ?_ (fun _ => ?_))
   | exact ih0 _ _ _
   | exact spec_l3Same.mono _ _ _ _ _ _ _
   | exact LeO.none _
   | refine LeO.ite ?_ ?_
   | refine LeO.bind ?_ (fun _ => ?_)
theorem spec_OccsSame.mono : ∀ a0 a1 k, LeO (spec_OccsSame.f k a0 a1) (spec_OccsSame.f (k + 1) a0 a1) := by
 intro a0 a1 k
 have ih0 := spec_OccsSame.mono_l k
 unfold spec_OccsSame.f
 repeat' first
   | (with_reducible exact ih0 _ _ _)
   | (with_reducible exact spec_l3Same.mono _ _ _ _ _ _ _)
   | (with_reducible exact LeO.refl _)
   | (with_reducible exact LeO.none _)
   | (with_reducible refine LeO.ite ?_ ?_)
   | (with_reducible refine LeO.bind ?_ (fun _ => ?_))
   | exact ih0 _ _ _
   | exact spec_l3Same.mono _ _ _ _ _ _ _
   | exact LeO.none _
   | refine LeO.ite ?_ ?_
   | refine LeO.bind ?_ (fun _ => ?_)
def spec_OccsSame.T6 : Bool × List (List Nat × List Nat) := (true, [([], []), ([], []), ([0, 1], [0, 1]), ([2], [2]), ([], []), ([], []), ([4, 5], [4, 5]), ([6], [6]), ([3, 7], [3, 7]), ([8], [8])])
def spec_OccsSame.B6 : List Nat := [0, 0, 3, 7, 0, 0, 48, 112, 255, 511]
theorem spec_OccsSame.tab6 : rtab .any (opsOf Try.f24 6) = spec_OccsSame.T6 := by kernel_rfl
theorem spec_OccsSame.bits6 : waitsOk spec_OccsSame.T6.2 spec_OccsSame.B6 = true := by kernel_rfl
set_option maxHeartbeats 8000000 in
set_option maxRecDepth 100000 in
theorem spec_OccsSame.calls (k : Nat) (A0 : Option Addr) (c0 : Nat) (l0 : List (S27)) (A1 : Option Addr) (c1 : Nat) (l1 : List (S27)) (r : Bool) (w : World) (hr0 : Kd.C k27 w A0 l0.length l0) (hc0 : l0.length ≤ c0) (hr1 : Kd.C k27 w A1 l1.length l1) (hc1 : l1.length ≤ c1) (h : spec_OccsSame.f k l0 l1 = some r) :
  Calls Try.prog 24 #[.slice A0 l0.length c0, .slice A1 l1.length c1] w fun e w' => e = .returned (.bool r) ∧ Below w.heap.size w w' := by
 have hu27 := Try.underlying27
 have HR0 := Aside0.mk hr0
 have HC0 := Aside0.mk hc0
 clear hr0 hc0
 have HR1 := Aside0.mk hr1
 have HC1 := Aside0.mk hc1
 clear hr1 hc1
 have HB := Aside0.mk (Below.refl w.heap.size w)
 have H : (if (l0.length : Int) = (l1.length : Int) then (spec_OccsSame.l0 k l0 l1 0) else (some false)) = some r := h
 clear h
 by_cases c3 : (l0.length : Int) = (l1.length : Int)
 ·rw [if_pos c3] at H
  have c3b0 : ((l0.length : Int) == (l1.length : Int)) = true := beq_iff_eq.mpr c3
  have c3b1 : ((l0.length : Int) != (l1.length : Int)) = false := bne_eq_false_iff_eq.mpr c3
  have c3b2 : (l0.length == l1.length) = true := by first | simpa using c3 | (simp at c3 ⊢;omega)
  clear c3
  have H' := Aside0.mk H
  clear H
  go_enter Try.func24, Try.ntmps24
  go_wp2
  go_loopg [5] k (fun kq v5 w' => ∃ (x5_1 : Int), v5 = .int .i64 x5_1 ∧ Aside0 (spec_OccsSame.l0 kq l0 l1 x5_1 = some r) ∧ Aside0 (kq ≤ k) ∧ Aside0 (Below w.heap.size w w'))
  case atStart => exact ⟨(0), (by first | rfl | (simp;done) | (simp [*];done)), H', ⟨Nat.le_refl _⟩, ⟨by repeat (first | (with_reducible first | exact HB.out | apply below_alloc | apply pw_below_drewN | apply below_drew1) | exact HB.out)⟩⟩
  case round =>
   clear H'
   try clear c1
   try clear c2
   try clear p2
   try clear c3
   try clear c3b0
   try clear c3b1
   try clear c3b2
   obtain ⟨x5_1, rfl, HA, HK1, HB⟩ := hrel
   cases gk with
   | zero => exact absurd HA.out (by simp [spec_OccsSame.l0])
   | succ k1 =>
    have H := HA.out
    clear HA
    simp only [spec_OccsSame.l0] at H
    by_cases c4 : x5_1 < (l0.length : Int)
    ·rw [if_pos c4] at H
     have c4b0 : decide (x5_1 < (l0.length : Int)) = true := decide_eq_true c4
     clear c4
     by_cases c5 : 0 ≤ x5_1
     ·rw [if_pos c5] at H
      have c5b0 : decide (0 ≤ x5_1) = true := decide_eq_true c5
      clear c5
      by_cases c6 : x5_1 < (l1.length : Int)
      ·rw [if_pos c6] at H
       have c6b0 : decide (x5_1 < (l1.length : Int)) = true := decide_eq_true c6
       clear c6
       replace H := Option.bind_eq_some_iff.mp H
       obtain ⟨t103, A70, H⟩ := H
       replace H : (if t103 = true then (spec_OccsSame.l0 k1 l0 l1 (wrap64 (x5_1 + 1))) else (some false)) = some r := H
       have A7 := Aside0.mk A70
       clear A70
       by_cases c8 : t103 = true
       ·subst c8
        have H1 : (spec_OccsSame.l0 k1 l0 l1 (wrap64 (x5_1 + 1))) = some r := by rw [if_pos rfl] at H;exact H
        clear H
        have H := H1
        clear H1
        have H' := Aside0.mk H
        clear H
        try go_wp2
        replace HB := Aside0.mk (below_drew1 HB.out)
        have p101 : 0 ≤ (x5_1 : Int) := of_decide_eq_true (by first | (with_reducible assumption) | assumption)
        have q101 : x5_1 < (l0.length : Int) := of_decide_eq_true (by first | (with_reducible assumption) | assumption)
        obtain ⟨ad101, A101_2, c101_2, e101, hx101_0, hx101_1, hx101_2, hl101_2, hi101_2⟩ := at_T27 HR0.out x5_1 p101 q101
        have hw101_2 := hx101_2
        have hw101_1 := hx101_1
        have hw101_0 := hx101_0
        cases e101
        replace hx101_0 := (HB.out.cell (World.block_lt_of_cell? w _ hx101_0)).trans hx101_0
        replace hx101_1 := (HB.out.cell (World.block_lt_of_cell? w _ hx101_1)).trans hx101_1
        replace hx101_2 := (HB.out.cell (World.block_lt_of_cell? w _ hx101_2)).trans hx101_2
        have HR101_2 := Aside0.mk hi101_2
        have HC101_2 := Aside0.mk hl101_2
        clear hi101_2 hl101_2
        replace p101 := eq_true p101
        replace q101 := eq_true q101
        have p102 : 0 ≤ (x5_1 : Int) := of_decide_eq_true (by first | (with_reducible assumption) | assumption)
        have q102 : x5_1 < (l1.length : Int) := of_decide_eq_true (by first | (with_reducible assumption) | assumption)
        obtain ⟨ad102, A102_2, c102_2, e102, hx102_0, hx102_1, hx102_2, hl102_2, hi102_2⟩ := at_T27 HR1.out x5_1 p102 q102
        have hw102_2 := hx102_2
        have hw102_1 := hx102_1
        have hw102_0 := hx102_0
        cases e102
        replace hx102_0 := (HB.out.cell (World.block_lt_of_cell? w _ hx102_0)).trans hx102_0
        replace hx102_1 := (HB.out.cell (World.block_lt_of_cell? w _ hx102_1)).trans hx102_1
        replace hx102_2 := (HB.out.cell (World.block_lt_of_cell? w _ hx102_2)).trans hx102_2
        have HR102_2 := Aside0.mk hi102_2
        have HC102_2 := Aside0.mk hl102_2
        clear hi102_2 hl102_2
        replace p102 := eq_true p102
        replace q102 := eq_true q102
        refine start_ (n := 10) (S := fun w' => w'.cell? (ad101.add ((x5_1).toNat * 3)) = some (.int .i64 ((rd_T27 l0 x5_1).f0)) ∧ w'.cell? ⟨(ad101.add ((x5_1).toNat * 3)).block, (ad101.add ((x5_1).toNat * 3)).off + 1, none⟩ = some (.int .i64 ((rd_T27 l0 x5_1).f1)) ∧ w'.cell? ⟨(ad101.add ((x5_1).toNat * 3)).block, (ad101.add ((x5_1).toNat * 3)).off + 2, none⟩ = some (.slice A101_2 ((rd_T27 l0 x5_1).f2).length c101_2) ∧ w'.cell? (ad102.add ((x5_1).toNat * 3)) = some (.int .i64 ((rd_T27 l1 x5_1).f0)) ∧ w'.cell? ⟨(ad102.add ((x5_1).toNat * 3)).block, (ad102.add ((x5_1).toNat * 3)).off + 1, none⟩ = some (.int .i64 ((rd_T27 l1 x5_1).f1)) ∧ w'.cell? ⟨(ad102.add ((x5_1).toNat * 3)).block, (ad102.add ((x5_1).toNat * 3)).off + 2, none⟩ = some (.slice A102_2 ((rd_T27 l1 x5_1).f2).length c102_2)) (ds := []) #[false, false, false, false, false, false, false, false, false, false] (by kernel_rfl) rfl rfl ⟨((HB.out.cell (World.block_lt_of_cell? w _ hw101_0)).trans hw101_0), ((HB.out.cell (World.block_lt_of_cell? w _ hw101_1)).trans hw101_1), ((HB.out.cell (World.block_lt_of_cell? w _ hw101_2)).trans hw101_2), ((HB.out.cell (World.block_lt_of_cell? w _ hw102_0)).trans hw102_0), ((HB.out.cell (World.block_lt_of_cell? w _ hw102_1)).trans hw102_1), ((HB.out.cell (World.block_lt_of_cell? w _ hw102_2)).trans hw102_2)⟩ (fun hHeld => ?_);refine with_tabW spec_OccsSame.tab6 spec_OccsSame.bits6 (fun HT_ HW_ => ?_)
        generalize wr.drew = w9 at HB HR101_2 HR102_2 hx101_0 hx101_1 hx101_2 hx102_0 hx102_1 hx102_2 hHeld ⊢
        refine pv_ 0 17 #[true, false, false, false, false, false, false, false, false, false] (any_of HT_.out (by kernel_rfl)) ?_
        refine pv_ 1 18 #[true, true, false, false, false, false, false, false, false, false] (any_of HT_.out (by kernel_rfl)) ?_
        refine pv_ 2 19 #[true, true, true, false, false, false, false, false, false, false] (any_of HT_.out (by kernel_rfl)) ?_
        refine pv_ 4 21 #[true, true, true, false, true, false, false, false, false, false] (any_of HT_.out (by kernel_rfl)) ?_
        refine pv_ 5 22 #[true, true, true, false, true, true, false, false, false, false] (any_of HT_.out (by kernel_rfl)) ?_
        refine pv_ 6 23 #[true, true, true, false, true, true, true, false, false, false] (any_of HT_.out (by kernel_rfl)) ?_
        refine take_ (i := 3) (N := some 20) (v := ?_) (a' := ?_) #[true, true, true, true, true, true, true, false, false, false] rfl rfl (take_ofW HT_.out HW_.out (by kernel_rfl)) (fun _ _ _ h => h) (Or.inl ⟨by rfl, ?_⟩) hHeld ?_ ?_
        rotate_left
        ·rintro w' ⟨s0, s1, s2, s3, s4, s5⟩
         go_simp
         with_reducible rfl
        rotate_left
        ·simp only [Act.put, List.setIfInBounds_toArray, List.set_cons_zero, List.set_cons_succ, i64_w, i32_w]
         rfl
        refine take_ (i := 7) (N := some 24) (v := ?_) (a' := ?_) #[true, true, true, true, true, true, true, true, false, false] rfl rfl (take_ofW HT_.out HW_.out (by kernel_rfl)) (fun _ _ _ h => h) (Or.inl ⟨by rfl, ?_⟩) hHeld ?_ ?_
        rotate_left
        ·rintro w' ⟨s0, s1, s2, s3, s4, s5⟩
         go_simp
         with_reducible rfl
        rotate_left
        ·simp only [Act.put, List.setIfInBounds_toArray, List.set_cons_zero, List.set_cons_succ, i64_w, i32_w]
         rfl
        refine one_ (i := 8) (N := some 25) #[true, true, true, true, true, true, true, true, true, false] rfl rfl (one_of HT_.out (by kernel_rfl)) (by decide) (fun K hK => ?_)
        refine goes_ Try.func68 (by kernel_rfl) rfl #[.agg #[.int .i64 ((rd_T27 l0 x5_1).f0), .int .i64 ((rd_T27 l0 x5_1).f1), .slice A101_2 ((rd_T27 l0 x5_1).f2).length c101_2], .agg #[.int .i64 ((rd_T27 l1 x5_1).f0), .int .i64 ((rd_T27 l1 x5_1).f1), .slice A102_2 ((rd_T27 l1 x5_1).f2).length c102_2]] (by rfl) rfl rfl (by (try simp only [List.map_toArray, List.map_cons, List.map_nil]);first | done | rfl | (simp only [List.length_drop, List.length_take];rfl)) ?_
        with_reducible refine (spec_l3Same.calls k1 ((rd_T27 l0 x5_1).f0) ((rd_T27 l0 x5_1).f1) _ _ ((rd_T27 l0 x5_1).f2) ((rd_T27 l1 x5_1).f0) ((rd_T27 l1 x5_1).f1) _ _ ((rd_T27 l1 x5_1).f2) true _ ?side1 ?side2 ?side3 ?side4 A7.out).mono ?_
        (case side1 => repeat (first | exact (Kd.C_below HR101_2.out HB.out) | (with_reducible refine Kd.C_alloc ?_ _) | (with_reducible refine Kd.C_drewN ?_ _) | (with_reducible refine Kd.C_drew ?_)))
        (case side2 => exact HC101_2.out)
        (case side3 => repeat (first | exact (Kd.C_below HR102_2.out HB.out) | (with_reducible refine Kd.C_alloc ?_ _) | (with_reducible refine Kd.C_drewN ?_ _) | (with_reducible refine Kd.C_drew ?_)))
        (case side4 => exact HC102_2.out)
        rintro e w10 ⟨rfl, hb⟩
        refine ⟨_, rfl, ?_⟩
        replace HB := Aside0.mk (below_step (by exact HB.out) hb)
        (try clear hb)
        (try clear hb2)
        (try clear hk)
        (try clear hi)
        refine hK.out _ _ ⟨((HB.out.cell (World.block_lt_of_cell? w _ hw101_0)).trans hw101_0), ((HB.out.cell (World.block_lt_of_cell? w _ hw101_1)).trans hw101_1), ((HB.out.cell (World.block_lt_of_cell? w _ hw101_2)).trans hw101_2), ((HB.out.cell (World.block_lt_of_cell? w _ hw102_0)).trans hw102_0), ((HB.out.cell (World.block_lt_of_cell? w _ hw102_1)).trans hw102_1), ((HB.out.cell (World.block_lt_of_cell? w _ hw102_2)).trans hw102_2)⟩ (fun hHeld => ?_)
        clear hK K
        refine norm_ (a' := ?_) ?_ ?_
        rotate_left
        ·show Act.put _ (some 25) _ = _
         simp only [Act.put, List.setIfInBounds_toArray, List.set_cons_zero, List.set_cons_succ, i64_w, i32_w]
         rfl
        refine pv_ 9 26 #[true, true, true, true, true, true, true, true, true, true] (any_of HT_.out (by kernel_rfl)) ?_
        refine done_ (done_of HT_.out (by kernel_rfl)) ?_
        try go_wp2
        go_roundg k1
        case measure => have := HK1.out;omega
        case rel => exact ⟨(wrap64 (x5_1 + 1)), (by first | rfl | (simp;done) | (simp [*];done)), H', ⟨by have := HK1.out;omega⟩, ⟨by repeat (first | (with_reducible first | exact HB.out | apply below_alloc | apply pw_below_drewN | apply below_drew1) | exact HB.out)⟩⟩
       ·replace c8 := Bool.eq_false_iff.mpr c8
        subst c8
        have H1 : (some false) = some r := by rw [if_neg (show ¬ (false = true) by decide)] at H;exact H
        clear H
        have H := H1
        clear H1
        obtain rfl := Option.some.inj H
        try go_wp2
        replace HB := Aside0.mk (below_drew1 HB.out)
        have p101 : 0 ≤ (x5_1 : Int) := of_decide_eq_true (by first | (with_reducible assumption) | assumption)
        have q101 : x5_1 < (l0.length : Int) := of_decide_eq_true (by first | (with_reducible assumption) | assumption)
        obtain ⟨ad101, A101_2, c101_2, e101, hx101_0, hx101_1, hx101_2, hl101_2, hi101_2⟩ := at_T27 HR0.out x5_1 p101 q101
        have hw101_2 := hx101_2
        have hw101_1 := hx101_1
        have hw101_0 := hx101_0
        cases e101
        replace hx101_0 := (HB.out.cell (World.block_lt_of_cell? w _ hx101_0)).trans hx101_0
        replace hx101_1 := (HB.out.cell (World.block_lt_of_cell? w _ hx101_1)).trans hx101_1
        replace hx101_2 := (HB.out.cell (World.block_lt_of_cell? w _ hx101_2)).trans hx101_2
        have HR101_2 := Aside0.mk hi101_2
        have HC101_2 := Aside0.mk hl101_2
        clear hi101_2 hl101_2
        replace p101 := eq_true p101
        replace q101 := eq_true q101
        have p102 : 0 ≤ (x5_1 : Int) := of_decide_eq_true (by first | (with_reducible assumption) | assumption)
        have q102 : x5_1 < (l1.length : Int) := of_decide_eq_true (by first | (with_reducible assumption) | assumption)
        obtain ⟨ad102, A102_2, c102_2, e102, hx102_0, hx102_1, hx102_2, hl102_2, hi102_2⟩ := at_T27 HR1.out x5_1 p102 q102
        have hw102_2 := hx102_2
        have hw102_1 := hx102_1
        have hw102_0 := hx102_0
        cases e102
        replace hx102_0 := (HB.out.cell (World.block_lt_of_cell? w _ hx102_0)).trans hx102_0
        replace hx102_1 := (HB.out.cell (World.block_lt_of_cell? w _ hx102_1)).trans hx102_1
        replace hx102_2 := (HB.out.cell (World.block_lt_of_cell? w _ hx102_2)).trans hx102_2
        have HR102_2 := Aside0.mk hi102_2
        have HC102_2 := Aside0.mk hl102_2
        clear hi102_2 hl102_2
        replace p102 := eq_true p102
        replace q102 := eq_true q102
        refine start_ (n := 10) (S := fun w' => w'.cell? (ad101.add ((x5_1).toNat * 3)) = some (.int .i64 ((rd_T27 l0 x5_1).f0)) ∧ w'.cell? ⟨(ad101.add ((x5_1).toNat * 3)).block, (ad101.add ((x5_1).toNat * 3)).off + 1, none⟩ = some (.int .i64 ((rd_T27 l0 x5_1).f1)) ∧ w'.cell? ⟨(ad101.add ((x5_1).toNat * 3)).block, (ad101.add ((x5_1).toNat * 3)).off + 2, none⟩ = some (.slice A101_2 ((rd_T27 l0 x5_1).f2).length c101_2) ∧ w'.cell? (ad102.add ((x5_1).toNat * 3)) = some (.int .i64 ((rd_T27 l1 x5_1).f0)) ∧ w'.cell? ⟨(ad102.add ((x5_1).toNat * 3)).block, (ad102.add ((x5_1).toNat * 3)).off + 1, none⟩ = some (.int .i64 ((rd_T27 l1 x5_1).f1)) ∧ w'.cell? ⟨(ad102.add ((x5_1).toNat * 3)).block, (ad102.add ((x5_1).toNat * 3)).off + 2, none⟩ = some (.slice A102_2 ((rd_T27 l1 x5_1).f2).length c102_2)) (ds := []) #[false, false, false, false, false, false, false, false, false, false] (by kernel_rfl) rfl rfl ⟨((HB.out.cell (World.block_lt_of_cell? w _ hw101_0)).trans hw101_0), ((HB.out.cell (World.block_lt_of_cell? w _ hw101_1)).trans hw101_1), ((HB.out.cell (World.block_lt_of_cell? w _ hw101_2)).trans hw101_2), ((HB.out.cell (World.block_lt_of_cell? w _ hw102_0)).trans hw102_0), ((HB.out.cell (World.block_lt_of_cell? w _ hw102_1)).trans hw102_1), ((HB.out.cell (World.block_lt_of_cell? w _ hw102_2)).trans hw102_2)⟩ (fun hHeld => ?_);refine with_tabW spec_OccsSame.tab6 spec_OccsSame.bits6 (fun HT_ HW_ => ?_)
        generalize wr.drew = w11 at HB HR101_2 HR102_2 hx101_0 hx101_1 hx101_2 hx102_0 hx102_1 hx102_2 hHeld ⊢
        refine pv_ 0 17 #[true, false, false, false, false, false, false, false, false, false] (any_of HT_.out (by kernel_rfl)) ?_
        refine pv_ 1 18 #[true, true, false, false, false, false, false, false, false, false] (any_of HT_.out (by kernel_rfl)) ?_
        refine pv_ 2 19 #[true, true, true, false, false, false, false, false, false, false] (any_of HT_.out (by kernel_rfl)) ?_
        refine pv_ 4 21 #[true, true, true, false, true, false, false, false, false, false] (any_of HT_.out (by kernel_rfl)) ?_
        refine pv_ 5 22 #[true, true, true, false, true, true, false, false, false, false] (any_of HT_.out (by kernel_rfl)) ?_
        refine pv_ 6 23 #[true, true, true, false, true, true, true, false, false, false] (any_of HT_.out (by kernel_rfl)) ?_
        refine take_ (i := 3) (N := some 20) (v := ?_) (a' := ?_) #[true, true, true, true, true, true, true, false, false, false] rfl rfl (take_ofW HT_.out HW_.out (by kernel_rfl)) (fun _ _ _ h => h) (Or.inl ⟨by rfl, ?_⟩) hHeld ?_ ?_
        rotate_left
        ·rintro w' ⟨s0, s1, s2, s3, s4, s5⟩
         go_simp
         with_reducible rfl
        rotate_left
        ·simp only [Act.put, List.setIfInBounds_toArray, List.set_cons_zero, List.set_cons_succ, i64_w, i32_w]
         rfl
        refine take_ (i := 7) (N := some 24) (v := ?_) (a' := ?_) #[true, true, true, true, true, true, true, true, false, false] rfl rfl (take_ofW HT_.out HW_.out (by kernel_rfl)) (fun _ _ _ h => h) (Or.inl ⟨by rfl, ?_⟩) hHeld ?_ ?_
        rotate_left
        ·rintro w' ⟨s0, s1, s2, s3, s4, s5⟩
         go_simp
         with_reducible rfl
        rotate_left
        ·simp only [Act.put, List.setIfInBounds_toArray, List.set_cons_zero, List.set_cons_succ, i64_w, i32_w]
         rfl
        refine one_ (i := 8) (N := some 25) #[true, true, true, true, true, true, true, true, true, false] rfl rfl (one_of HT_.out (by kernel_rfl)) (by decide) (fun K hK => ?_)
        refine goes_ Try.func68 (by kernel_rfl) rfl #[.agg #[.int .i64 ((rd_T27 l0 x5_1).f0), .int .i64 ((rd_T27 l0 x5_1).f1), .slice A101_2 ((rd_T27 l0 x5_1).f2).length c101_2], .agg #[.int .i64 ((rd_T27 l1 x5_1).f0), .int .i64 ((rd_T27 l1 x5_1).f1), .slice A102_2 ((rd_T27 l1 x5_1).f2).length c102_2]] (by rfl) rfl rfl (by (try simp only [List.map_toArray, List.map_cons, List.map_nil]);first | done | rfl | (simp only [List.length_drop, List.length_take];rfl)) ?_
        with_reducible refine (spec_l3Same.calls k1 ((rd_T27 l0 x5_1).f0) ((rd_T27 l0 x5_1).f1) _ _ ((rd_T27 l0 x5_1).f2) ((rd_T27 l1 x5_1).f0) ((rd_T27 l1 x5_1).f1) _ _ ((rd_T27 l1 x5_1).f2) false _ ?side1 ?side2 ?side3 ?side4 A7.out).mono ?_
        (case side1 => repeat (first | exact (Kd.C_below HR101_2.out HB.out) | (with_reducible refine Kd.C_alloc ?_ _) | (with_reducible refine Kd.C_drewN ?_ _) | (with_reducible refine Kd.C_drew ?_)))
        (case side2 => exact HC101_2.out)
        (case side3 => repeat (first | exact (Kd.C_below HR102_2.out HB.out) | (with_reducible refine Kd.C_alloc ?_ _) | (with_reducible refine Kd.C_drewN ?_ _) | (with_reducible refine Kd.C_drew ?_)))
        (case side4 => exact HC102_2.out)
        rintro e w12 ⟨rfl, hb⟩
        refine ⟨_, rfl, ?_⟩
        replace HB := Aside0.mk (below_step (by exact HB.out) hb)
        (try clear hb)
        (try clear hb2)
        (try clear hk)
        (try clear hi)
        refine hK.out _ _ ⟨((HB.out.cell (World.block_lt_of_cell? w _ hw101_0)).trans hw101_0), ((HB.out.cell (World.block_lt_of_cell? w _ hw101_1)).trans hw101_1), ((HB.out.cell (World.block_lt_of_cell? w _ hw101_2)).trans hw101_2), ((HB.out.cell (World.block_lt_of_cell? w _ hw102_0)).trans hw102_0), ((HB.out.cell (World.block_lt_of_cell? w _ hw102_1)).trans hw102_1), ((HB.out.cell (World.block_lt_of_cell? w _ hw102_2)).trans hw102_2)⟩ (fun hHeld => ?_)
        clear hK K
        refine norm_ (a' := ?_) ?_ ?_
        rotate_left
        ·show Act.put _ (some 25) _ = _
         simp only [Act.put, List.setIfInBounds_toArray, List.set_cons_zero, List.set_cons_succ, i64_w, i32_w]
         rfl
        refine pv_ 9 26 #[true, true, true, true, true, true, true, true, true, true] (any_of HT_.out (by kernel_rfl)) ?_
        refine done_ (done_of HT_.out (by kernel_rfl)) ?_
        try go_wp2
        go_ret
        exact ⟨by first | rfl | (simp [errW_none, errW_some] <;> rfl) | (simp [*, errW_none, errW_some] <;> rfl), by repeat (first | (with_reducible first | exact HB.out | apply below_alloc | apply pw_below_drewN | apply below_drew1) | exact HB.out)⟩
      ·rw [if_neg c6] at H
       exact absurd H (by simp)
     ·rw [if_neg c5] at H
      exact absurd H (by simp)
    ·rw [if_neg c4] at H
     have c4b0 : decide (x5_1 < (l0.length : Int)) = false := decide_eq_false c4
     clear c4
     obtain rfl := Option.some.inj H
     go_wp2
     go_ret
     exact ⟨by first | rfl | (simp [errW_none, errW_some] <;> rfl) | (simp [*, errW_none, errW_some] <;> rfl), by repeat (first | (with_reducible first | exact HB.out | apply below_alloc | apply pw_below_drewN | apply below_drew1) | exact HB.out)⟩
 ·rw [if_neg c3] at H
  have c3b0 : ((l0.length : Int) == (l1.length : Int)) = false := beq_eq_false_iff_ne.mpr c3
  have c3b1 : ((l0.length : Int) != (l1.length : Int)) = true := bne_iff_ne.mpr c3
  have c3b2 : (l0.length == l1.length) = false := by first | simpa using c3 | (simp at c3 ⊢;omega)
  obtain rfl := Option.some.inj H
  go_enter Try.func24, Try.ntmps24
  go_wp2
  go_ret
  exact ⟨by first | rfl | (simp [errW_none, errW_some] <;> rfl) | (simp [*, errW_none, errW_some] <;> rfl), by repeat (first | (with_reducible first | exact HB.out | apply below_alloc | apply pw_below_drewN | apply below_drew1) | exact HB.out)⟩

end Go.Proofs.Ytiplpckgmikmeaa.M
namespace Go.Proofs.Ytiplpckgmikmeaa.M
set_option linter.unusedVariables false
set_option linter.unusedSimpArgs false
open Go.RowKit Go.Proofs.YtiplpckgmikmeaaW.PrintWords Go.Proofs.YtiplpckgmikmeaaW.PrintLast

def cvO (x : S24) : S27 := ⟨x.f0, x.f1, x.f2⟩
def szO : List S24 → Nat
  | [] => 0
  | x :: xs => x.f2.length + szO xs
theorem szIntS_is (l : List Int) (a : Int) (h0 : 0 ≤ a) (h1 : a ≤ 1048576) (hl : l.length ≤ 9223372036854775807) : laws_szIntS.f l a = some (leftOf a l.length) := szIntS_ok l a h0 h1 hl
theorem szOcc_is (x : S24) (a : Int) (h0 : 0 ≤ a) (h1 : a ≤ 1048576) (hl : x.f2.length ≤ 9223372036854775807) : laws_szOcc.f x.f0 x.f1 x.f2 a = some (leftOf a x.f2.length) := by
  unfold laws_szOcc.f
  rw [szIntS_is _ _ h0 h1 hl, Option.bind_some]
  by_cases h : (x.f2.length : Int) ≤ a
  · rw [leftOf_pos h, if_neg (by omega)]
  · rw [leftOf_neg h, if_pos (by omega)]

def ShortL (l : List S24) : Prop := ∀ x ∈ l, x.f2.length ≤ 9223372036854775807
theorem ShortL.at_ {l : List S24} (h : ShortL l) (n : Nat) : (l.getD n z24).f2.length ≤ 9223372036854775807 := by
  rw [List.getD_eq_getElem?_getD]
  rcases Nat.lt_or_ge n l.length with hn | hn
  · rw [List.getElem?_eq_getElem hn]
    exact h _ (List.getElem_mem hn)
  · rw [List.getElem?_eq_none hn]
    show (z24).f2.length ≤ _
    simp [z24]
theorem szOccS_l0_ev (l : List S24) (hl : l.length ≤ 9223372036854775807) (hs : ShortL l) : ∀ (d n : Nat) (a : Int), n + d = l.length → 0 ≤ a → a ≤ 1048576 → Ev (fun k => laws_szOccS.l0 k l a (n : Int)) (leftOf a (szO (l.drop n))) := by
  intro d
  induction d with
  | zero =>
    intro n a hn h0 h1
    rw [List.drop_of_length_le (by omega), leftOf_pos (show ((szO [] : Nat) : Int) ≤ a from h0)]
    exact Ev.last (fun k => by simp only [laws_szOccS.l0]; rw [if_neg (by omega)]; simp [szO])
  | succ d ih =>
    intro n a hn h0 h1
    have hr : rd_T24 l (n : Int) = l.getD n z24 := rfl
    have hx := hs.at_ n
    rw [drop_at l z24 n (by omega)]
    refine Ev.step (fun k => by simp only [laws_szOccS.l0]; rw [if_pos (by omega), if_pos (by omega), hr, w_succ (by omega)]) ?_
    generalize l.getD n z24 = x at *
    refine Ev.bind (Ev.one (fun _ => szOcc_is x a h0 h1 hx)) ?_
    rw [szO]
    by_cases h : (x.f2.length : Int) ≤ a
    · rw [leftOf_pos h]
      refine Ev.neg (by omega) (Ev.val (ih (n + 1) (a - x.f2.length) (by omega) (by omega) (by omega)) ?_)
      unfold leftOf
      by_cases h2 : ((szO (l.drop (n + 1)) : Nat) : Int) ≤ a - x.f2.length
      · rw [if_pos h2, if_pos (by omega)]
        omega
      · rw [if_neg h2, if_neg (by omega)]
    · rw [leftOf_neg h, leftOf_neg (by omega)]
      exact Ev.pos (by omega) (Ev.now _)
def allO (l : List S24) : Nat := l.length + szO l
theorem szOccS_ev (l : List S24) (hl : l.length ≤ 9223372036854775807) (hs : ShortL l) (a : Int) (h0 : 0 ≤ a) (h1 : a ≤ 1048576) : Ev (fun k => laws_szOccS.f k l a) (leftOf a (allO l)) := by
  unfold laws_szOccS.f allO
  rw [w_small (by omega) (by omega)]
  by_cases h : (l.length : Int) ≤ a
  · refine Ev.neg (by omega) (Ev.val (szOccS_l0_ev l hl hs l.length 0 (a - l.length) (by omega) (by omega) (by omega)) ?_)
    rw [List.drop_zero]
    unfold leftOf
    by_cases h2 : ((szO l : Nat) : Int) ≤ a - l.length
    · rw [if_pos h2, if_pos (by omega)]
      omega
    · rw [if_neg h2, if_neg (by omega)]
  · rw [leftOf_neg (by omega)]
    exact Ev.pos (by omega) (Ev.now _)
theorem szO_mem : ∀ (l : List S24) (x : S24), x ∈ l → x.f2.length ≤ szO l
  | [], _, h => by simp at h
  | y :: ys, x, h => by
    rw [szO]
    rcases List.mem_cons.1 h with rfl | h
    · omega
    · have := szO_mem ys x h
      omega
def FewO (l : List S24) : Prop := allO l ≤ 1048576
theorem FewO.len {l : List S24} (h : FewO l) : l.length ≤ 1048576 := by unfold FewO allO at h; omega
theorem FewO.ids {l : List S24} (h : FewO l) (x : S24) (hx : x ∈ l) : x.f2.length ≤ 1048576 := by
  have := szO_mem l x hx
  unfold FewO allO at h
  omega

theorem toOcc_ev (x : S24) (hl : x.f2.length ≤ 1048576) : Ev (fun k => laws_toOcc.f k x.f0 x.f1 x.f2) (x.f0, x.f1, x.f2) := by
  unfold laws_toOcc.f
  exact Ev.bindS (toIntS_ev x.f2 hl) rfl
theorem toOccS_l0_ev (l : List S24) (hl : FewO l) : ∀ (d n : Nat) (a : List S27), n + d = l.length → a.length = l.length → Ev (fun k => laws_toOccS.l0 k l a (n : Int)) (a.take n ++ (l.drop n).map cvO) := by
  have hlen := hl.len
  intro d
  induction d with
  | zero =>
    intro n a hn ha
    rw [List.drop_of_length_le (by omega), List.take_of_length_le (by omega), List.map_nil, List.append_nil]
    exact Ev.last (fun k => by simp only [laws_toOccS.l0]; rw [if_neg (by omega)])
  | succ d ih =>
    intro n a hn ha
    have hlt : n < l.length := by omega
    have hr : rd_T24 l (n : Int) = l.getD n z24 := rfl
    have hx : (l.getD n z24).f2.length ≤ 1048576 := by
      refine hl.ids _ ?_
      rw [List.getD_eq_getElem?_getD, List.getElem?_eq_getElem hlt]
      exact List.getElem_mem hlt
    rw [drop_at l z24 n hlt]
    have next := ih (n + 1) (a.set n (cvO (l.getD n z24))) (by omega) (by rw [List.length_set]; exact ha)
    rw [take_set a n _ (by omega), List.append_assoc] at next
    refine Ev.step (fun k => by simp only [laws_toOccS.l0]; rw [if_pos (by omega), if_pos (by omega), w_succ (by omega), hr, Int.toNat_natCast]) ?_
    refine Ev.bind (toOcc_ev _ hx) (Ev.pos (by omega) ?_)
    rw [List.map_cons]
    exact next
theorem toOccS_ev (l : List S24) (hl : FewO l) : Ev (fun k => laws_toOccS.f k l) (l.map cvO) := by
  have hlen := hl.len
  unfold laws_toOccS.f
  refine Ev.pos (by omega) (Ev.pos (by omega) ?_)
  have := toOccS_l0_ev l hl l.length 0 (List.replicate l.length z27) (by omega) (by simp)
  rw [Int.toNat_natCast]
  exact this
theorem short_map (l : List S24) (hl : FewO l) : Short (l.map cvO) := by
  intro x hx
  obtain ⟨y, hy, rfl⟩ := List.mem_map.1 hx
  have := hl.ids y hy
  show y.f2.length ≤ _
  omega

theorem eqOcc_ev (o : S27) (hl : o.f2.length ≤ 9223372036854775806) : Ev (fun k => laws_eqOcc.f k o.f0 o.f1 o.f2 o.f0 o.f1 o.f2) true := by
  unfold laws_eqOcc.f
  exact Ev.pos rfl (Ev.pos rfl (Ev.bindS (eqIntS_ev o.f2 (by omega)) rfl))
theorem eqOccS_l0_ev (l : List S27) (hl : l.length ≤ 9223372036854775806) (hs : Short l) : ∀ d n : Nat, n + d = l.length → Ev (fun k => laws_eqOccS.l0 k l l (n : Int)) true := by
  intro d
  induction d with
  | zero =>
    intro n hn
    exact Ev.last (fun k => by simp only [laws_eqOccS.l0]; rw [if_neg (by omega)])
  | succ d ih =>
    intro n hn
    have hr : rd_T27 l (n : Int) = l.getD n z27 := rfl
    refine Ev.step (fun k => by simp only [laws_eqOccS.l0]; rw [if_pos (by omega), if_pos (by omega), if_pos (by omega), hr, w_succ (by omega)]) ?_
    exact Ev.bind (eqOcc_ev _ (hs.at_ n)) (Ev.pos rfl (ih (n + 1) (by omega)))
theorem eqOccS_ev (l : List S27) (hl : l.length ≤ 9223372036854775806) (hs : Short l) : Ev (fun k => laws_eqOccS.f k l l) true := by
  unfold laws_eqOccS.f
  exact Ev.pos rfl (eqOccS_l0_ev l hl hs l.length 0 (by omega))

theorem cmpI_eq : ∀ a b : List Int, cmpI a b = 0 ↔ a = b
  | [], [] => by simp [cmpI]
  | [], _ :: _ => by simp [cmpI]
  | _ :: _, [] => by simp [cmpI]
  | a :: xs, b :: ys => by
    unfold cmpI
    by_cases h1 : a < b
    · rw [if_pos h1]
      constructor
      · intro h; exact absurd h (by decide)
      · intro h; injection h with h _; omega
    · rw [if_neg h1]
      by_cases h2 : a > b
      · rw [if_pos h2]
        constructor
        · intro h; exact absurd h (by decide)
        · intro h; injection h with h _; omega
      · rw [if_neg h2, cmpI_eq xs ys]
        have : a = b := by omega
        subst this
        simp
theorem sgn_ne (b : Bool) : sgn b ≠ 0 := by cases b <;> decide
theorem cmpO_eq (a b : S27) : cmpO a b = 0 ↔ a = b := by
  obtain ⟨a0, a1, a2⟩ := a
  obtain ⟨b0, b1, b2⟩ := b
  unfold cmpO
  dsimp only
  by_cases h1 : a1 = b1
  · rw [if_pos h1]
    by_cases h0 : a0 = b0
    · rw [if_pos h0, cmpI_eq]
      subst h1
      subst h0
      simp
    · rw [if_neg h0]
      constructor
      · intro h; exact absurd h (sgn_ne _)
      · intro h; injection h with h _ _; exact absurd h h0
  · rw [if_neg h1]
    constructor
    · intro h; exact absurd h (sgn_ne _)
    · intro h; injection h with _ h _; exact absurd h h1
def occsEq : List S27 → List S27 → Bool
  | [], [] => true
  | x :: xs, y :: ys => (cmpO x y == 0) && occsEq xs ys
  | _, _ => false
theorem occsEq_iff : ∀ a b : List S27, occsEq a b = true ↔ a = b
  | [], [] => by simp [occsEq]
  | [], _ :: _ => by simp [occsEq]
  | _ :: _, [] => by simp [occsEq]
  | x :: xs, y :: ys => by
    unfold occsEq
    rw [Bool.and_eq_true, occsEq_iff xs ys, beq_iff_eq, cmpO_eq]
    simp
theorem occsEq_self (a : List S27) : occsEq a a = true := (occsEq_iff a a).2 rfl
theorem occsEq_len (a b : List S27) (h : a.length ≠ b.length) : occsEq a b = false := by
  rw [Bool.eq_false_iff]
  intro e
  exact h (by rw [(occsEq_iff a b).1 e])

theorem l3Same_ev (a b : S27) (ha : a.f2.length ≤ 9223372036854775806) (hb : b.f2.length ≤ 9223372036854775806) : Ev (fun k => spec_l3Same.f k a.f0 a.f1 a.f2 b.f0 b.f1 b.f2) (cmpO a b == 0) := by
  have no : a ≠ b → (cmpO a b == 0) = false := fun h => beq_eq_false_iff_ne.2 (fun e => h ((cmpO_eq a b).1 e))
  unfold spec_l3Same.f
  by_cases h0 : a.f0 = b.f0
  · refine Ev.pos h0 ?_
    by_cases h1 : a.f1 = b.f1
    · refine Ev.pos h1 ?_
      by_cases h2 : (a.f2.length : Int) = (b.f2.length : Int)
      · refine Ev.pos h2 (Ev.bindS (l3Ids_ev _ _ ha hb) ?_)
        unfold cmpO
        rw [if_pos h1, if_pos h0]
      · rw [no (fun e => h2 (by rw [e]))]
        exact Ev.neg h2 (Ev.now _)
    · rw [no (fun e => h1 (by rw [e]))]
      exact Ev.neg h1 (Ev.now _)
  · rw [no (fun e => h0 (by rw [e]))]
    exact Ev.neg h0 (Ev.now _)
theorem spec_OccsSame_l0_ev (a b : List S27) (hl : a.length ≤ 9223372036854775806) (ha : Short a) (hb : Short b) (hab : a.length = b.length) : ∀ d n : Nat, n + d = a.length → Ev (fun k => spec_OccsSame.l0 k a b (n : Int)) (occsEq (a.drop n) (b.drop n)) := by
  intro d
  induction d with
  | zero =>
    intro n hn
    rw [List.drop_of_length_le (by omega), List.drop_of_length_le (by omega)]
    exact Ev.last (fun k => by simp only [spec_OccsSame.l0]; rw [if_neg (by omega)]; rfl)
  | succ d ih =>
    intro n hn
    have hra : rd_T27 a (n : Int) = a.getD n z27 := rfl
    have hrb : rd_T27 b (n : Int) = b.getD n z27 := rfl
    have hx := ha.at_ n
    have hy := hb.at_ n
    rw [drop_at a z27 n (by omega), drop_at b z27 n (by omega)]
    have next := ih (n + 1) (by omega)
    refine Ev.step (fun k => by simp only [spec_OccsSame.l0]; rw [if_pos (by omega), if_pos (by omega), if_pos (by omega), hra, hrb, w_succ (by omega)]) ?_
    generalize a.getD n z27 = x at *
    generalize b.getD n z27 = y at *
    refine Ev.bind (l3Same_ev x y hx hy) ?_
    unfold occsEq
    by_cases h : (cmpO x y == 0) = true
    · rw [h]
      exact Ev.pos rfl next
    · refine Ev.neg h ?_
      simp only [Bool.not_eq_true] at h
      rw [h]
      exact Ev.now _
theorem spec_OccsSame_ev (a b : List S27) (hl : a.length ≤ 9223372036854775806) (ha : Short a) (hb : Short b) : Ev (fun k => spec_OccsSame.f k a b) (occsEq a b) := by
  unfold spec_OccsSame.f
  by_cases h : a.length = b.length
  · exact Ev.pos (by omega) (spec_OccsSame_l0_ev a b hl ha hb h a.length 0 (by omega))
  · rw [occsEq_len a b h]
    exact Ev.neg (by omega) (Ev.now _)
theorem impl_EqualFunc_l0_ev (a b : List S27) (hl : a.length ≤ 9223372036854775806) (ha : Short a) (hb : Short b) (hab : a.length = b.length) : ∀ d n : Nat, n + d = a.length → Ev (fun k => impl_Occ_69.l0 k b a (a.length : Int) (n : Int)) (occsEq (a.drop n) (b.drop n)) := by
  intro d
  induction d with
  | zero =>
    intro n hn
    rw [List.drop_of_length_le (by omega), List.drop_of_length_le (by omega)]
    exact Ev.last (fun k => by simp only [impl_Occ_69.l0]; rw [if_neg (by omega)]; rfl)
  | succ d ih =>
    intro n hn
    have hra : rd_T27 a (n : Int) = a.getD n z27 := rfl
    have hrb : rd_T27 b (n : Int) = b.getD n z27 := rfl
    have hx := ha.at_ n
    have hy := hb.at_ n
    rw [drop_at a z27 n (by omega), drop_at b z27 n (by omega)]
    have next := ih (n + 1) (by omega)
    refine Ev.step (fun k => by simp only [impl_Occ_69.l0, impl_OccsSame_1.f]; rw [if_pos (by omega), if_pos (by omega), if_pos (by omega), if_pos (by omega), hra, hrb, w_succ (by omega)]) ?_
    generalize a.getD n z27 = x at *
    generalize b.getD n z27 = y at *
    refine Ev.bind (a := cmpO x y == 0) (Ev.bindS (impl_compare_ev x y hx hy) rfl) ?_
    unfold occsEq
    by_cases h : (cmpO x y == 0) = true
    · rw [h]
      exact Ev.pos rfl next
    · refine Ev.neg h ?_
      simp only [Bool.not_eq_true] at h
      rw [h]
      exact Ev.now _
theorem impl_OccsSame_ev (a b : List S27) (hl : a.length ≤ 9223372036854775806) (ha : Short a) (hb : Short b) : Ev (fun k => impl_OccsSame.f k a b) (occsEq a b) := by
  unfold impl_OccsSame.f impl_Occ_69.f
  refine Ev.bindS (a := occsEq a b) ?_ rfl
  by_cases h : a.length = b.length
  · exact Ev.pos (by omega) (impl_EqualFunc_l0_ev a b hl ha hb h a.length 0 (by omega))
  · rw [occsEq_len a b h]
    exact Ev.neg (by omega) (Ev.now _)
end Go.Proofs.Ytiplpckgmikmeaa.M
namespace Go.Proofs.Ytiplpckgmikmeaa.M
set_option linter.unusedVariables false
set_option linter.unusedSimpArgs false
open Go.RowKit Go.Proofs.YtiplpckgmikmeaaW.PrintWords Go.Proofs.YtiplpckgmikmeaaW.PrintLast

theorem l3Any_l0_ev (bs : List Int) (hb : Bytes bs) (a b : Int) : ∀ (d : Nat) (ids : List Int) (x i p : Int), i = d → ids.length + d ≤ 100 → 0 ≤ p → p + d ≤ 100000 → ∃ ids', Ev (fun k => spec_l3Any.l0 k x i bs p a b ids) (a, b, ids', p + d) ∧ ids'.length = ids.length + d := by
  intro d
  induction d with
  | zero =>
    intro ids x i p hi hl h0 h1
    refine ⟨ids, Ev.last (fun k => ?_), by omega⟩
    simp only [spec_l3Any.l0]
    rw [if_neg (by omega)]
    simp
  | succ d ih =>
    intro ids x i p hi hl h0 h1
    obtain ⟨r, hr, _, _⟩ := pick_ev bs hb p 3 h0 (by omega)
    have w1 : wrap64 (i - 1) = i - 1 := w_small (by omega) (by omega)
    obtain ⟨ids', h2, h3⟩ := ih (ids ++ [x]) (wrap64 (wrap64 (x + 1) + r)) (i - 1) (p + 1) (by omega) (by rw [List.length_append, List.length_singleton]; omega) (by omega) (by omega)
    refine ⟨ids', ?_, by rw [h3, List.length_append, List.length_singleton]; omega⟩
    refine Ev.step (fun k => by simp only [spec_l3Any.l0]; rw [if_pos (by omega), if_pos (by omega), w1]) ?_
    exact Ev.bind hr (Ev.val h2 (by rw [show p + 1 + (d : Int) = p + ((d + 1 : Nat) : Int) by omega]))
theorem l3Any_ev (bs : List Int) (hb : Bytes bs) (p : Int) (h0 : 0 ≤ p) (h1 : p ≤ 90000) : ∃ (o : S27) (p' : Int), Ev (fun k => spec_l3Any.f k bs p) (o.f0, o.f1, o.f2, p') ∧ o.f2.length ≤ 10 ∧ 0 ≤ p' ∧ p' ≤ p + 10 := by
  obtain ⟨a, ha, _, _⟩ := pick_ev bs hb p 9 h0 (by omega)
  obtain ⟨n, hn, _⟩ := num_ev bs hb (p + 1) [0, 0, 1, 2, 5] (by simp) (by simp) (by omega) (by omega)
  obtain ⟨x, hx, _, _⟩ := pick_ev bs hb (p + 1 + 1) 3 (by omega) (by omega)
  obtain ⟨m, hm, m0, m1⟩ := pick_ev bs hb (p + 1 + 1 + 1) 3 (by omega) (by omega)
  have w1 : wrap64 (1 + m) = 1 + m := w_small (by omega) (by omega)
  obtain ⟨ids, h2, h3⟩ := l3Any_l0_ev bs hb (wrap64 (1 + a)) (wrap64 (wrap64 (1 + a) + n)) (1 + m).toNat [] x (1 + m) (p + 1 + 1 + 1 + 1) (by omega) (by simp; omega) (by omega) (by omega)
  refine ⟨⟨wrap64 (1 + a), wrap64 (wrap64 (1 + a) + n), ids⟩, p + 1 + 1 + 1 + 1 + ((1 + m).toNat : Int), ?_, by show ids.length ≤ 10; rw [h3]; simp; omega, by omega, by omega⟩
  unfold spec_l3Any.f
  exact Ev.bind ha (Ev.bind hn (Ev.bind hx (Ev.bind hm (by rw [w1]; exact h2))))
def putIx (l : List S27) (o : S27) : Nat → Nat → Nat
  | 0, i => i
  | d + 1, i => if lessO (l.getD i z27) o = true then putIx l o d (i + 1) else i
theorem putIx_le (l : List S27) (o : S27) : ∀ d i : Nat, i + d = l.length → putIx l o d i ≤ l.length
  | 0, i, h => by unfold putIx; omega
  | d + 1, i, h => by
    unfold putIx
    by_cases c : lessO (l.getD i z27) o = true
    · rw [if_pos c]; exact putIx_le l o d (i + 1) (by omega)
    · rw [if_neg c]; omega
def putS (l : List S27) (o : S27) : List S27 := if putIx l o l.length 0 < l.length ∧ (cmpO (l.getD (putIx l o l.length 0) z27) o == 0) = true then l else putIn l (putIx l o l.length 0) o
theorem putAt_ev (l : List S27) (hs : Short l) (o : S27) (ho : o.f2.length ≤ 9223372036854775806) : ∀ d i : Nat, Ev (fun k => putAt (fun x => spec_OccLess.f k x.f0 x.f1 x.f2 o.f0 o.f1 o.f2) l d i) (putIx l o d i) := by
  intro d
  induction d with
  | zero => exact fun i => Ev.now _
  | succ d ih =>
    intro i
    unfold putIx
    refine Ev.bind (spec_OccLess_ev (l.getD i z27) o (hs.at_ i) ho) ?_
    by_cases c : lessO (l.getD i z27) o = true
    · rw [if_pos c]; exact Ev.pos c (ih (i + 1))
    · rw [if_neg c]; exact Ev.neg c (Ev.now _)
theorem l3Put_ev (l : List S27) (hl : l.length < 1099511627776) (hs : Short l) (o : S27) (ho : o.f2.length < 1099511627776) : Ev (fun k => spec_l3Put.f k l o.f0 o.f1 o.f2) (putS l o) := by
  unfold spec_l3Put.f
  refine Ev.pos ⟨hl, ho⟩ (Ev.bind (putAt_ev l hs o (by omega) l.length 0) ?_)
  unfold putS
  by_cases c : putIx l o l.length 0 < l.length
  · refine Ev.pos c (Ev.bindS (l3Same_ev (l.getD (putIx l o l.length 0) z27) o (hs.at_ _) (by omega)) ?_)
    by_cases e : (cmpO (l.getD (putIx l o l.length 0) z27) o == 0) = true
    · rw [if_pos e, if_pos ⟨c, e⟩]
    · rw [if_neg e, if_neg (fun h => e h.2)]
  · refine Ev.neg c (Ev.val (Ev.now _) ?_)
    rw [if_neg (fun h => c h.1)]
theorem putS_len (l : List S27) (o : S27) : (putS l o).length ≤ l.length + 1 := by
  unfold putS
  by_cases c : putIx l o l.length 0 < l.length ∧ (cmpO (l.getD (putIx l o l.length 0) z27) o == 0) = true
  · rw [if_pos c]; omega
  · rw [if_neg c]
    unfold putIn
    rw [List.length_append, List.length_append, List.length_take, List.length_drop, List.length_singleton]
    omega
theorem putS_mem {l : List S27} {o x : S27} (h : x ∈ putS l o) : x ∈ l ∨ x = o := by
  unfold putS at h
  by_cases c : putIx l o l.length 0 < l.length ∧ (cmpO (l.getD (putIx l o l.length 0) z27) o == 0) = true
  · rw [if_pos c] at h; exact .inl h
  · rw [if_neg c] at h
    unfold putIn at h
    rcases List.mem_append.1 h with h | h
    · rcases List.mem_append.1 h with h | h
      · exact .inl (List.mem_of_mem_take h)
      · exact .inr (List.mem_singleton.1 h)
    · exact .inl (List.mem_of_mem_drop h)
def Few (l : List S27) : Prop := ∀ x ∈ l, x.f2.length ≤ 100
theorem Few.short {l : List S27} (h : Few l) : Short l := fun x hx => Nat.le_trans (h x hx) (by omega)
theorem Few.put {l : List S27} (h : Few l) {o : S27} (ho : o.f2.length ≤ 100) : Few (putS l o) := fun x hx => (putS_mem hx).elim (h x) (fun e => by rw [e]; exact ho)
theorem Few.at_ {l : List S27} (h : Few l) (i : Int) : (rd_T27 l i).f2.length ≤ 100 := by
  show (l.getD i.toNat z27).f2.length ≤ 100
  rw [List.getD_eq_getElem?_getD]
  rcases Nat.lt_or_ge i.toNat l.length with hi | hi
  · rw [List.getElem?_eq_getElem hi]
    exact h _ (List.getElem_mem hi)
  · rw [List.getElem?_eq_none hi]
    decide
theorem Few.set {l : List S27} (h : Few l) (i : Nat) {o : S27} (ho : o.f2.length ≤ 100) : Few (l.set i o) := fun x hx => by
  rcases List.mem_or_eq_of_mem_set hx with hx | hx
  · exact h x hx
  · rw [hx]; exact ho
theorem l3Some_l0_ev (bs : List Int) (hb : Bytes bs) : ∀ (d : Nat) (out : List S27) (i p : Int), i = d → out.length + d ≤ 500 → Few out → 0 ≤ p → p + 10 * d ≤ 80000 →
    ∃ l p', Ev (fun k => spec_l3Some.l0 k bs i out p) (l, p') ∧ l.length ≤ out.length + d ∧ Few l ∧ 0 ≤ p' ∧ p' ≤ p + 10 * d := by
  intro d
  induction d with
  | zero =>
    intro out i p hi ho hf h0 h1
    refine ⟨out, p, Ev.last (fun k => ?_), by omega, hf, h0, by omega⟩
    simp only [spec_l3Some.l0]
    rw [if_neg (by omega)]
  | succ d ih =>
    intro out i p hi ho hf h0 h1
    obtain ⟨o, p1, h2, h3, h4, h5⟩ := l3Any_ev bs hb p h0 (by omega)
    have w1 : wrap64 (i - 1) = i - 1 := w_small (by omega) (by omega)
    have hp := putS_len out o
    obtain ⟨l, p2, h6, h7, h8, h9, h10⟩ := ih (putS out o) (i - 1) p1 (by omega) (by omega) (hf.put (by omega)) h4 (by omega)
    refine ⟨l, p2, ?_, by omega, h8, h9, by omega⟩
    refine Ev.step (fun k => by simp only [spec_l3Some.l0]; rw [if_pos (by omega), w1]) ?_
    exact Ev.bind h2 (Ev.bind (l3Put_ev out (by omega) hf.short o (by omega)) h6)
theorem l3Some_ev (bs : List Int) (hb : Bytes bs) (p most : Int) (h0 : 0 ≤ p) (h1 : p ≤ 50000) (hm : 0 ≤ most) (hm2 : most ≤ 100) :
    ∃ l p', Ev (fun k => spec_l3Some.f k bs p most) (l, p') ∧ (l.length : Int) ≤ most ∧ Few l ∧ 0 ≤ p' ∧ p' ≤ p + 1 + 10 * most := by
  have w1 : wrap64 (most + 1) = most + 1 := w_small (by omega) (by omega)
  obtain ⟨r, hr, h2, h3⟩ := pick_ev bs hb p (most + 1) h0 (by omega)
  obtain ⟨l, p', h4, h5, h6, h7, h8⟩ := l3Some_l0_ev bs hb r.toNat [] r (p + 1) (by omega) (by simp; omega) (fun x hx => by simp at hx) (by omega) (by omega)
  refine ⟨l, p', ?_, by simp at h5; omega, h6, h7, by omega⟩
  unfold spec_l3Some.f
  rw [w1]
  exact Ev.bind hr h4
theorem r0Ids_ev (bs : List Int) (hb : Bytes bs) (p : Int) (h0 : 0 ≤ p) (h1 : p ≤ 90000) : ∃ ids, Ev (fun k => spec_r0Ids.f k bs p) (ids, p + 1) ∧ ids.length ≤ 100 := by
  obtain ⟨r, hr, _, _⟩ := pick_ev bs hb p 3 h0 (by omega)
  unfold spec_r0Ids.f
  by_cases c : r = 0
  · exact ⟨[], Ev.bind hr (Ev.pos c (Ev.now _)), by simp⟩
  · by_cases c1 : r = 1
    · exact ⟨[2, 2], Ev.bind hr (Ev.neg c (Ev.pos c1 (Ev.now _))), by simp⟩
    · exact ⟨[24], Ev.bind hr (Ev.neg c (Ev.neg c1 (Ev.now _))), by simp⟩
theorem l3Bent_ev (bs : List Int) (hb : Bytes bs) (p : Int) (h0 : 0 ≤ p) (h1 : p ≤ 40000) : ∃ l p', Ev (fun k => spec_l3Bent.f k bs p) (l, p') ∧ l.length ≤ 7 ∧ Few l ∧ 0 ≤ p' ∧ p' ≤ p + 100 := by
  obtain ⟨l, p1, h2, h3, h4, h5, h6⟩ := l3Some_ev bs hb p 6 h0 (by omega) (by omega) (by omega)
  unfold spec_l3Bent.f
  by_cases c : (l.length : Int) = 0
  · exact ⟨l, p1, Ev.bind h2 (Ev.pos c (Ev.now _)), by omega, h4, h5, by omega⟩
  obtain ⟨k, hk, k0, k1⟩ := pick_ev bs hb p1 (l.length : Int) h5 (by omega)
  obtain ⟨s, hs, _, _⟩ := pick_ev bs hb (p1 + 1) 40 (by omega) (by omega)
  have hklt : k < (l.length : Int) := by omega
  by_cases s0 : s = 0
  · obtain ⟨v, hv, _⟩ := num_ev bs hb (p1 + 1 + 1) [0, wrap64 ((rd_T27 l k).f1 + 1)] (by simp) (by simp) (by omega) (by omega)
    exact ⟨_, _, Ev.bind h2 (Ev.neg c (Ev.bind hk (Ev.bind hs (Ev.pos s0 (Ev.pos k0 (Ev.pos hklt (Ev.bindS hv rfl))))))), by rw [List.length_set]; show l.length ≤ 7; omega, h4.set _ (h4.at_ _), by omega, by omega⟩
  by_cases s1 : s = 1
  · obtain ⟨ids, hv, hi⟩ := r0Ids_ev bs hb (p1 + 1 + 1) (by omega) (by omega)
    exact ⟨_, _, Ev.bind h2 (Ev.neg c (Ev.bind hk (Ev.bind hs (Ev.neg s0 (Ev.pos s1 (Ev.bind hv (Ev.pos k0 (Ev.pos hklt (Ev.now _))))))))), by rw [List.length_set]; show l.length ≤ 7; omega, h4.set _ hi, by omega, by omega⟩
  by_cases s2 : s = 2
  · exact ⟨_, _, Ev.bind h2 (Ev.neg c (Ev.bind hk (Ev.bind hs (Ev.neg s0 (Ev.neg s1 (Ev.pos s2 (Ev.pos (by show 0 < (l.length : Int); omega) (Ev.pos (by show l.length < _; omega) (Ev.now _))))))))), by rw [List.length_append, List.length_singleton]; show l.length + 1 ≤ 7; omega, fun x hx => by
      rcases List.mem_append.1 hx with hx | hx
      · exact h4 x hx
      · rw [List.mem_singleton.1 hx]; exact h4.at_ 0, by omega, by omega⟩
  by_cases s3 : s = 3
  · exact ⟨_, _, Ev.bind h2 (Ev.neg c (Ev.bind hk (Ev.bind hs (Ev.neg s0 (Ev.neg s1 (Ev.neg s2 (Ev.pos s3 (Ev.pos k0 (Ev.pos hklt (Ev.now _)))))))))), by rw [List.length_set]; show l.length ≤ 7; omega, h4.set _ (h4.at_ _), by omega, by omega⟩
  · exact ⟨_, _, Ev.bind h2 (Ev.neg c (Ev.bind hk (Ev.bind hs (Ev.neg s0 (Ev.neg s1 (Ev.neg s2 (Ev.neg s3 (Ev.now _)))))))), by show l.length ≤ 7; omega, h4, by omega, by omega⟩
end Go.Proofs.Ytiplpckgmikmeaa.M
namespace Go.Proofs.Ytiplpckgmikmeaa.M
open Go.RowKit Go.Proofs.YtiplpckgmikmeaaW.PrintWords Go.Proofs.YtiplpckgmikmeaaW.PrintLast Go.Proofs.YtiplpckgmikmeaaW.PrintMore
attribute [local go_sem] max2_int min2_int max_two min_two max_three min_three max_four min_four
set_option linter.unusedVariables false
set_option linter.unusedSimpArgs false

def spec_OccsPut.f (k : Nat) (l0 : List (S27)) (a1_0 : Int) (a1_1 : Int) (l1_2 : List Int) : Option (List (S27)) := (spec_OccsOk.f k l0).bind fun t => if t = true then (spec_OccOk.f k a1_0 a1_1 l1_2).bind fun u => (if u = true then (spec_l3List.f k l0).bind fun l => spec_l3Put.f k l a1_0 a1_1 l1_2 else some []) else some []
theorem spec_OccsPut.mono : ∀ a0 a1 a2 a3 k, LeO (spec_OccsPut.f k a0 a1 a2 a3) (spec_OccsPut.f (k + 1) a0 a1 a2 a3) := by
 intro a0 a1 a2 a3 k
 unfold spec_OccsPut.f
 exact LeO.bind (spec_OccsOk.mono _ k) (fun _ => LeO.ite (LeO.bind (spec_OccOk.mono _ _ _ k) (fun _ => LeO.ite (LeO.bind (spec_l3List.mono _ k) (fun _ => spec_l3Put.mono _ _ _ _ k)) (LeO.refl _))) (LeO.refl _))
set_option maxHeartbeats 4000000 in
set_option maxRecDepth 100000 in
theorem spec_OccsPut.calls (k : Nat) (A0 : Option Addr) (c0 : Nat) (l0 : List (S27)) (a1_0 : Int) (a1_1 : Int) (A1_2 : Option Addr) (c1_2 : Nat) (l1_2 : List Int) (r : List (S27)) (w : World) (hr0 : Kd.C k27 w A0 l0.length l0) (hc0 : l0.length ≤ c0) (hr1_2 : Kd.C (Kd.int .i64) w A1_2 l1_2.length l1_2) (hc1_2 : l1_2.length ≤ c1_2) (h : spec_OccsPut.f k l0 a1_0 a1_1 l1_2 = some r) :
  Calls Try.prog 53 #[.slice A0 l0.length c0, .agg #[.int .i64 a1_0, .int .i64 a1_1, .slice A1_2 l1_2.length c1_2]] w fun e w' => ∃ v0_ : Value, e = .returned (v0_) ∧ Kd.S k27 27 w' w.heap.size (fun _ => True) v0_ r ∧ Below w.heap.size w w' := by
 unfold spec_OccsPut.f at h
 obtain ⟨t, ht, h⟩ := Option.bind_eq_some_iff.1 h
 have HT := Aside0.mk ht
 have HH := Aside0.mk h
 have HR0 := Aside0.mk hr0
 have HC0 := Aside0.mk hc0
 have HR1 := Aside0.mk hr1_2
 have HC1 := Aside0.mk hc1_2
 have HB := Aside0.mk (Below.refl w.heap.size w)
 clear ht h hr0 hc0 hr1_2 hc1_2
 go_enter Try.func53, Try.ntmps53
 go_wp2_with (first | ((with_reducible refine gate_dst (N := 3) rfl ?_);refine box_event ?hg (N := 3) ?hd (cs := #[.int .i64 a1_0, .int .i64 a1_1, .slice A1_2 l1_2.length c1_2]) (t := 27) ?hr ?_;(case hd => rfl);(case hg => rfl);(case hr => first | (go_simp;done) | (go_simp;rfl));intro gb1 hg wb1 hbox hb;have BK1 := Aside0.mk (hbox);have GE1 := Aside0.mk ((by rw [hg];exact below_size HB.out : w.heap.size ≤ gb1));replace HB := Aside0.mk (below_step HB.out hb);clear hb hbox hg) | (go_at_call 28;fail))
 refine (spec_OccsOk.calls k A0 c0 l0 t _ (Kd.C_below HR0.out HB.out) HC0.out HT.out).mono ?_
 rintro e w' ⟨rfl, hb⟩
 replace BK1 := Aside0.mk (blk_below BK1.out hb)
 replace HB := Aside0.mk (below_step HB.out hb)
 clear hb
 cases t with
 | false =>
  go_wp2_with (first | ((with_reducible refine gate_dst (N := 13) rfl ?_);refine Kd.S_lit k27 _ 27 ?hg (N := 13) ?hd (xs := ([] : List (S27))) (inner := []) (ok := fun _ => True) (okp := fun _ => True) ?hr ?hp (fun _ hk => hk) trivial (Below.refl _ _) (Nat.le_refl _) (by simp) ?_;(case hd => rfl);(case hg => rfl);(case hr => first | (go_simp;done) | (go_simp;rfl));(case hp => exact (Reps.none _ _));intro v13 wl hol hb hg_ hnew_;clear hg_ hnew_;have HS := Aside0.mk (Kd.S_lower hol HB.out.size);have n0_ := Aside0.mk (below_step HB.out hb);clear HB hol hb;have HB := n0_;clear n0_))
  go_ret
  obtain rfl := Option.some.inj HH.out
  exact ⟨_, rfl, HS.out, HB.out⟩
 | true =>
  obtain ⟨u, hu, h⟩ := Option.bind_eq_some_iff.1 (show ((spec_OccOk.f k a1_0 a1_1 l1_2).bind fun u => (if u = true then (spec_l3List.f k l0).bind fun l => spec_l3Put.f k l a1_0 a1_1 l1_2 else some [])) = some r from by have := HH.out;rw [if_pos rfl] at this;exact this)
  have HU := Aside0.mk hu
  clear HH
  have HH := Aside0.mk h
  clear hu h
  have hz0 := (blk_cell BK1.out 0).trans (show _ = some (Value.int .i64 a1_0) from rfl)
  have hz1 := (blk_cell BK1.out 1).trans (show _ = some (Value.int .i64 a1_1) from rfl)
  have hz2 := (blk_cell BK1.out 2).trans (show _ = some (Value.slice A1_2 l1_2.length c1_2) from rfl)
  go_wp2_with (go_at_call 19;fail)
  clear hz0 hz1 hz2
  refine (spec_OccOk.calls k a1_0 a1_1 A1_2 c1_2 l1_2 u _ (Kd.C_below HR1.out HB.out) HC1.out HU.out).mono ?_
  rintro e w' ⟨rfl, hb⟩
  replace BK1 := Aside0.mk (blk_below BK1.out hb)
  replace HB := Aside0.mk (below_step HB.out hb)
  clear hb
  cases u with
  | false =>
   go_wp2_with (first | ((with_reducible refine gate_dst (N := 13) rfl ?_);refine Kd.S_lit k27 _ 27 ?hg (N := 13) ?hd (xs := ([] : List (S27))) (inner := []) (ok := fun _ => True) (okp := fun _ => True) ?hr ?hp (fun _ hk => hk) trivial (Below.refl _ _) (Nat.le_refl _) (by simp) ?_;(case hd => rfl);(case hg => rfl);(case hr => first | (go_simp;done) | (go_simp;rfl));(case hp => exact (Reps.none _ _));intro v13 wl hol hb hg_ hnew_;clear hg_ hnew_;have HS := Aside0.mk (Kd.S_lower hol HB.out.size);have n0_ := Aside0.mk (below_step HB.out hb);clear HB hol hb;have HB := n0_;clear n0_))
   go_ret
   obtain rfl := Option.some.inj HH.out
   exact ⟨_, rfl, HS.out, HB.out⟩
  | true =>
   obtain ⟨l, hl, hp⟩ := Option.bind_eq_some_iff.1 (show ((spec_l3List.f k l0).bind fun l => spec_l3Put.f k l a1_0 a1_1 l1_2) = some r from by have := HH.out;rw [if_pos rfl] at this;exact this)
   have HL := Aside0.mk hl
   have HP := Aside0.mk hp
   clear hl hp
   go_wp2
   have hb := below_drew (Below.refl w'.heap.size w')
   replace BK1 := Aside0.mk (blk_below BK1.out hb)
   replace HB := Aside0.mk (below_step HB.out hb)
   clear hb
   refine start_ (n := 5) (S := fun w' => w'.cell? ⟨gb1, 0, none⟩ = some (.int .i64 a1_0) ∧ w'.cell? ⟨gb1, 1, none⟩ = some (.int .i64 a1_1) ∧ w'.cell? ⟨gb1, 2, none⟩ = some (.slice A1_2 l1_2.length c1_2)) (ds := []) #[false, false, false, false, false] (by kernel_rfl) rfl rfl ⟨(blk_cell BK1.out 0).trans rfl, (blk_cell BK1.out 1).trans rfl, (blk_cell BK1.out 2).trans rfl⟩ (fun hHeld => ?_)
   refine pv_ 0 14 #[true, false, false, false, false] (by kernel_rfl) ?_
   refine take_ (i := 2) (N := some 16) (v := ?_) (a' := ?_) #[true, false, true, false, false] rfl rfl (by kernel_rfl) (fun _ _ _ h => h) (Or.inl ⟨by rfl, ?_⟩) hHeld ?_ ?_
   rotate_left
   ·rintro w' ⟨s0, s1, s2⟩
    go_simp
    with_reducible rfl
   rotate_left
   ·simp only [Act.put, List.setIfInBounds_toArray, List.set_cons_zero, List.set_cons_succ, i64_w, i32_w]
    rfl
   refine one_ (i := 1) (N := some 15) #[true, true, true, false, false] rfl rfl (by kernel_rfl) (by decide) (fun K hK => ?_)
   refine goes_ Try.func83 (by kernel_rfl) rfl #[.slice A0 l0.length c0] (by rfl) rfl rfl (by simp only [List.map_toArray, List.map_cons, List.map_nil];rfl) ?_
   with_reducible refine (spec_l3List.calls k A0 c0 l0 l _ (Kd.C_below HR0.out HB.out) HC0.out HL.out).mono ?_
   rintro e w' ⟨v15, rfl, hs, hb⟩
   refine ⟨_, rfl, ?_⟩
   have HGL := Aside0.mk (blk_lt BK1.out)
   have HS := Aside0.mk (Kd.S_lower (Kd.S_mono (ok' := fun k_ => _ ≤ k_) (Kd.S_bound hs) (fun k_ hk => hk.2.1)) HB.out.size)
   clear hs
   replace BK1 := Aside0.mk (blk_below BK1.out hb)
   replace HB := Aside0.mk (below_step HB.out hb)
   clear hb
   refine hK.out _ _ ⟨(blk_cell BK1.out 0).trans rfl, (blk_cell BK1.out 1).trans rfl, (blk_cell BK1.out 2).trans rfl⟩ (fun hHeld => ?_)
   clear hK K
   refine norm_ (a' := ?_) ?_ ?_
   rotate_left
   ·show Act.put _ (some 15) _ = _
    simp only [Act.put, List.setIfInBounds_toArray, List.set_cons_zero, List.set_cons_succ, i64_w, i32_w]
    rfl
   refine one_ (i := 3) (N := some 17) #[true, true, true, true, false] rfl rfl (by kernel_rfl) (by decide) (fun K hK => ?_)
   refine goes_ Try.func82 (by kernel_rfl) rfl #[v15, .agg #[.int .i64 a1_0, .int .i64 a1_1, .slice A1_2 l1_2.length c1_2]] (by rfl) rfl rfl (by simp only [List.map_toArray, List.map_cons, List.map_nil];rfl) ?_
   with_reducible refine (spec_l3Put.calls_base k _ v15 l a1_0 a1_1 A1_2 c1_2 l1_2 r w.heap.size w _ HB.out HB.out.size HS.out (Kd.C_below HR1.out HB.out) HC1.out HP.out).mono ?_
   rintro e w' ⟨v17, rfl, hs, hb, hk⟩
   refine ⟨_, rfl, ?_⟩
   replace BK1 := Aside0.mk (blk_kept BK1.out hk (fun h_ => by have := HGL.out;omega))
   replace HS := Aside0.mk (Kd.S_mono (ok' := fun _ => True) hs (fun _ _ => trivial))
   replace HB := Aside0.mk (hb)
   clear hs hb hk
   refine hK.out _ _ ⟨(blk_cell BK1.out 0).trans rfl, (blk_cell BK1.out 1).trans rfl, (blk_cell BK1.out 2).trans rfl⟩ (fun hHeld => ?_)
   clear hK K
   refine norm_ (a' := ?_) ?_ ?_
   rotate_left
   ·show Act.put _ (some 17) _ = _
    simp only [Act.put, List.setIfInBounds_toArray, List.set_cons_zero, List.set_cons_succ, i64_w, i32_w]
    rfl
   refine pv_ 4 4 #[true, true, true, true, true] (by kernel_rfl) ?_
   refine done_ (by kernel_rfl) ?_

   go_wp2
   go_ret
   exact ⟨_, rfl, HS.out, HB.out⟩

end Go.Proofs.Ytiplpckgmikmeaa.M
namespace Go.Proofs.Ytiplpckgmikmeaa.M
set_option linter.unusedVariables false
set_option linter.unusedSimpArgs false
open Go.RowKit Go.Proofs.YtiplpckgmikmeaaW.PrintWords Go.Proofs.YtiplpckgmikmeaaW.PrintLast

theorem cmpI_anti : ∀ a b : List Int, cmpI b a = - cmpI a b
  | [], [] => by simp [cmpI]
  | [], _ :: _ => by simp [cmpI]
  | _ :: _, [] => by simp [cmpI]
  | x :: a, y :: b => by
    unfold cmpI
    have ih := cmpI_anti a b
    split <;> split <;> first | omega | (split <;> first | omega | (split <;> first | omega | exact ih))
theorem cmpI_trans : ∀ a b c : List Int, cmpI a b < 0 → cmpI b c < 0 → cmpI a c < 0
  | [], [], _, h, _ => by simp [cmpI] at h
  | [], _ :: _, [], _, h => by simp [cmpI] at h
  | [], _ :: _, _ :: _, _, _ => by simp [cmpI]
  | _ :: _, [], _, h, _ => by simp [cmpI] at h
  | _ :: _, _ :: _, [], _, h => by simp [cmpI] at h
  | x :: a, y :: b, z :: c, h1, h2 => by
    unfold cmpI at h1 h2 ⊢
    have ih := cmpI_trans a b c
    split at h1 <;> split at h2 <;> first | omega | (split at h1 <;> split at h2 <;> first | omega | (split <;> first | omega | (split <;> first | omega | exact ih (by omega) (by omega))))
theorem sgn_neg (b : Bool) : sgn b < 0 ↔ b = true := by cases b <;> decide
theorem lessO_iff (a b : S27) : lessO a b = true ↔ a.f1 < b.f1 ∨ (a.f1 = b.f1 ∧ (a.f0 < b.f0 ∨ (a.f0 = b.f0 ∧ cmpI a.f2 b.f2 < 0))) := by
  unfold lessO cmpO
  rw [decide_eq_true_iff]
  by_cases h1 : a.f1 = b.f1
  · rw [if_pos h1]
    by_cases h0 : a.f0 = b.f0
    · rw [if_pos h0]
      constructor
      · exact fun h => .inr ⟨h1, .inr ⟨h0, h⟩⟩
      · rintro (h | ⟨_, h | ⟨_, h⟩⟩)
        · omega
        · omega
        · exact h
    · rw [if_neg h0, sgn_neg, decide_eq_true_iff]
      constructor
      · exact fun h => .inr ⟨h1, .inl h⟩
      · rintro (h | ⟨_, h | ⟨h, _⟩⟩)
        · omega
        · exact h
        · exact absurd h h0
  · rw [if_neg h1, sgn_neg, decide_eq_true_iff]
    constructor
    · exact fun h => .inl h
    · rintro (h | ⟨h, _⟩)
      · exact h
      · exact absurd h h1
theorem lessO_trans {a b c : S27} (h1 : lessO a b = true) (h2 : lessO b c = true) : lessO a c = true := by
  rw [lessO_iff] at h1 h2 ⊢
  rcases h1 with h1 | ⟨e1, h1⟩
  · rcases h2 with h2 | ⟨e2, h2⟩
    · exact .inl (by omega)
    · exact .inl (by omega)
  · rcases h2 with h2 | ⟨e2, h2⟩
    · exact .inl (by omega)
    · refine .inr ⟨by omega, ?_⟩
      rcases h1 with h1 | ⟨d1, h1⟩
      · rcases h2 with h2 | ⟨d2, h2⟩
        · exact .inl (by omega)
        · exact .inl (by omega)
      · rcases h2 with h2 | ⟨d2, h2⟩
        · exact .inl (by omega)
        · exact .inr ⟨by omega, cmpI_trans _ _ _ h1 h2⟩
theorem lessO_self (a : S27) : lessO a a = false := by
  have : cmpO a a = 0 := (cmpO_eq a a).2 rfl
  unfold lessO
  rw [this]
  decide
theorem lessO_tri {a b : S27} (h : lessO a b = false) (hn : a ≠ b) : lessO b a = true := by
  have h' : ¬ lessO a b = true := by rw [h]; decide
  rw [lessO_iff] at h' ⊢
  rcases Int.lt_trichotomy b.f1 a.f1 with h1 | h1 | h1
  · exact .inl h1
  · refine .inr ⟨h1, ?_⟩
    rcases Int.lt_trichotomy b.f0 a.f0 with h2 | h2 | h2
    · exact .inl h2
    · refine .inr ⟨h2, ?_⟩
      have h3 : ¬ cmpI a.f2 b.f2 < 0 := fun h3 => h' (.inr ⟨h1.symm, .inr ⟨h2.symm, h3⟩⟩)
      have h4 : cmpI a.f2 b.f2 ≠ 0 := fun h4 => hn (by
        have h5 := (cmpI_eq a.f2 b.f2).1 h4
        cases a; cases b
        simp only at h1 h2 h5
        rw [h1, h2, h5])
      rw [cmpI_anti]
      omega
    · exact absurd (.inr ⟨h1.symm, .inl h2⟩) h'
  · exact absurd (.inl h1) h'
abbrev AscO (l : List S27) : Prop := l.Pairwise (fun x y => lessO x y = true)
theorem lessO_not {a b : S27} (h : lessO a b = true) (h' : lessO b a = true) : False := by
  have := lessO_trans h h'
  rw [lessO_self] at this
  cases this
theorem ascO_ext : ∀ l m : List S27, AscO l → AscO m → (∀ x, x ∈ l ↔ x ∈ m) → l = m
  | [], [], _, _, _ => rfl
  | [], y :: ys, _, _, h => by have := (h y).2 (by simp); simp at this
  | x :: xs, [], _, _, h => by have := (h x).1 (by simp); simp at this
  | x :: xs, y :: ys, hl, hm, h => by
    have h1 := List.pairwise_cons.1 hl
    have h2 := List.pairwise_cons.1 hm
    have e : x = y := by
      rcases List.mem_cons.1 ((h x).1 (by simp)) with e | e
      · exact e
      · rcases List.mem_cons.1 ((h y).2 (by simp)) with e' | e'
        · exact e'.symm
        · exact (lessO_not (h2.1 x e) (h1.1 y e')).elim
    subst e
    rw [ascO_ext xs ys h1.2 h2.2 (fun z => ?_)]
    constructor
    · intro hz
      rcases List.mem_cons.1 ((h z).1 (by simp [hz])) with e | e
      · have := h1.1 z hz; rw [e, lessO_self] at this; cases this
      · exact e
    · intro hz
      rcases List.mem_cons.1 ((h z).2 (by simp [hz])) with e | e
      · have := h2.1 z hz; rw [e, lessO_self] at this; cases this
      · exact e
def insO : List S27 → S27 → List S27
  | [], o => [o]
  | x :: l, o => if lessO x o = true then x :: insO l o else if (cmpO x o == 0) = true then x :: l else o :: x :: l
theorem same_eq {a b : S27} : (cmpO a b == 0) = true ↔ a = b := by rw [beq_iff_eq]; exact cmpO_eq a b
theorem mem_insO (z : S27) : ∀ (l : List S27) (o : S27), z ∈ insO l o ↔ z ∈ l ∨ z = o
  | [], o => by simp [insO]
  | x :: l, o => by
    unfold insO
    have ih := mem_insO z l o
    split
    · rw [List.mem_cons, List.mem_cons, ih, or_assoc]
    · split
      · rename_i h
        have e := same_eq.1 h
        subst e
        constructor
        · exact fun hz => .inl hz
        · rintro (hz | rfl)
          · exact hz
          · simp
      · rw [List.mem_cons]
        constructor
        · rintro (hz | hz)
          · exact .inr hz
          · exact .inl hz
        · rintro (hz | hz)
          · exact .inr hz
          · exact .inl hz
theorem asc_insO : ∀ (l : List S27) (o : S27), AscO l → AscO (insO l o)
  | [], o, _ => by simp [insO, AscO]
  | x :: l, o, h => by
    have h1 := List.pairwise_cons.1 h
    unfold insO
    split
    · rename_i c
      refine List.pairwise_cons.2 ⟨fun z hz => ?_, asc_insO l o h1.2⟩
      rcases (mem_insO z l o).1 hz with hz | rfl
      · exact h1.1 z hz
      · exact c
    · rename_i c
      split
      · exact h
      · rename_i c2
        have hox : lessO o x = true := lessO_tri (by simpa using c) (fun e => c2 (same_eq.2 e))
        refine List.pairwise_cons.2 ⟨fun z hz => ?_, h⟩
        rcases List.mem_cons.1 hz with rfl | hz
        · exact hox
        · exact lessO_trans hox (h1.1 z hz)
theorem len_insO : ∀ (l : List S27) (o : S27), (insO l o).length ≤ l.length + 1
  | [], o => by simp [insO]
  | x :: l, o => by
    have ih := len_insO l o
    unfold insO
    split
    · simp only [List.length_cons]; omega
    · split <;> simp only [List.length_cons] <;> omega
theorem insO_same {l : List S27} {o : S27} (h : AscO l) (ho : o ∈ l) : insO l o = l :=
  ascO_ext _ _ (asc_insO l o h) h (fun z => by
    rw [mem_insO]
    constructor
    · rintro (hz | rfl)
      · exact hz
      · exact ho
    · exact .inl)
def ahead (l : List S27) (o : S27) : Nat := (l.takeWhile (fun x => lessO x o)).length
theorem ahead_le (l : List S27) (o : S27) : ahead l o ≤ l.length := (List.takeWhile_sublist _).length_le
theorem putIx_ahead (l : List S27) (o : S27) : ∀ d i : Nat, i + d = l.length → putIx l o d i = i + ahead (l.drop i) o
  | 0, i, h => by
    unfold putIx ahead
    rw [List.drop_of_length_le (by omega)]
    simp
  | d + 1, i, h => by
    have ih := putIx_ahead l o d (i + 1) (by omega)
    unfold putIx
    rw [drop_at l z27 i (by omega)]
    unfold ahead at ih ⊢
    by_cases c : lessO (l.getD i z27) o = true
    · rw [if_pos c, ih, List.takeWhile_cons, if_pos c, List.length_cons]; omega
    · rw [if_neg c, List.takeWhile_cons, if_neg c]; simp
def putN (l : List S27) (o : S27) (n : Nat) : List S27 := if n < l.length ∧ (cmpO (l.getD n z27) o == 0) = true then l else putIn l n o
theorem putN_ins : ∀ (l : List S27) (o : S27), putN l o (ahead l o) = insO l o
  | [], o => by simp [putN, ahead, insO, putIn]
  | x :: l, o => by
    have ih := putN_ins l o
    unfold insO
    by_cases c : lessO x o = true
    · have e : ahead (x :: l) o = ahead l o + 1 := by unfold ahead; rw [List.takeWhile_cons, if_pos c, List.length_cons]
      rw [if_pos c, e, ← ih]
      unfold putN
      rw [List.getD_cons_succ, List.length_cons]
      by_cases c2 : ahead l o < l.length ∧ (cmpO (l.getD (ahead l o) z27) o == 0) = true
      · rw [if_pos c2, if_pos ⟨by omega, c2.2⟩]
      · rw [if_neg c2, if_neg (fun h => c2 ⟨by omega, h.2⟩)]
        simp [putIn]
    · have e : ahead (x :: l) o = 0 := by unfold ahead; rw [List.takeWhile_cons, if_neg c]; rfl
      rw [if_neg c, e]
      unfold putN
      rw [List.getD_cons_zero]
      by_cases c2 : (cmpO x o == 0) = true
      · rw [if_pos ⟨by simp, c2⟩, if_pos c2]
      · rw [if_neg (fun h => c2 h.2), if_neg c2]
        simp [putIn]
theorem putS_ins (l : List S27) (o : S27) : putS l o = insO l o := by
  rw [← putN_ins]
  unfold putS putN
  rw [putIx_ahead l o l.length 0 (by omega), List.drop_zero, Nat.zero_add]
theorem ahead_is {l : List S27} {o : S27} {n : Nat} (hn : n ≤ l.length) (h1 : ∀ m, m < n → lessO (l.getD m z27) o = true) (h2 : n < l.length → ¬ lessO (l.getD n z27) o = true) : ahead l o = n := by
  induction l generalizing n with
  | nil => simp only [List.length_nil] at hn; simp [ahead]; omega
  | cons x l ih =>
    unfold ahead
    cases n with
    | zero =>
      have := h2 (by simp)
      rw [List.getD_cons_zero] at this
      rw [List.takeWhile_cons, if_neg this]; rfl
    | succ n =>
      have hx := h1 0 (by omega)
      rw [List.getD_cons_zero] at hx
      rw [List.takeWhile_cons, if_pos hx, List.length_cons]
      have := ih (n := n) (by simpa using hn) (fun m hm => by have := h1 (m + 1) (by omega); rwa [List.getD_cons_succ] at this) (fun hlt => by have := h2 (by simpa using hlt); rwa [List.getD_cons_succ] at this)
      unfold ahead at this
      omega
theorem asc_at {l : List S27} (h : AscO l) {i j : Nat} (hij : i < j) (hj : j < l.length) : lessO (l.getD i z27) (l.getD j z27) = true := by
  rw [getD_in (by omega), getD_in hj]
  exact List.pairwise_iff_getElem.1 h i j (by omega) hj hij
theorem u64_small {n : Int} (h0 : 0 ≤ n) (h1 : n ≤ 9223372036854775807) : IntKind.u64.wrap n = n := by
  simp only [IntKind.wrap, IntKind.bits, IntKind.signed]
  simp
  omega
def foundO (l : List S27) (o : S27) : Bool := decide (ahead l o < l.length) && (cmpO (l.getD (ahead l o) z27) o == 0)
section
variable (l : List S27) (hl : l.length < 1099511627776) (hs : Short l) (hA : AscO l) (o : S27) (ho : o.f2.length ≤ 9223372036854775806)
include hs ho in
theorem search_end (i : Nat) (hj : i ≤ l.length) (h1 : ∀ m, m < i → lessO (l.getD m z27) o = true) (h2 : ∀ m, i ≤ m → m < l.length → ¬ lessO (l.getD m z27) o = true) :
    Ev (fun k => impl_Occ_105.l0 k l (l.length : Int) (i : Int) (i : Int) o.f0 o.f1 o.f2) ((ahead l o : Int), foundO l o) := by
  have e : ahead l o = i := ahead_is hj h1 (fun hlt => h2 i (Nat.le_refl _) hlt)
  unfold foundO
  rw [e]
  clear h1 h2 e
  refine Ev.step (fun k => by simp only [impl_Occ_105.l0]; rw [if_neg (Int.lt_irrefl _)]) ?_
  by_cases c : i < l.length
  · refine Ev.pos (by omega) (Ev.pos (by omega) (Ev.pos (by omega) ?_))
    refine Ev.bindS (impl_compare_ev (rd_T27 l (i : Int)) o (hs.at_ i) ho) ?_
    rw [decide_eq_true c, Bool.true_and]
    rfl
  · refine Ev.neg (by omega) (Ev.val (Ev.now _) ?_)
    rw [decide_eq_false c, Bool.false_and]
theorem half_is (i j : Nat) (h : i ≤ j) (hj : j ≤ 1099511627776) : wrap64 ((IntKind.u64.wrap (wrap64 ((i : Int) + (j : Int)))) / 2) = (((i + j) / 2 : Nat) : Int) := by
  rw [w_small (i := (i : Int) + (j : Int)) (by omega) (by omega), u64_small (by omega) (by omega), w_small (by omega) (by omega)]
  omega
include hl hs hA ho in
theorem search_ev : ∀ (d i j : Nat), j - i ≤ d → i ≤ j → j ≤ l.length → (∀ m, m < i → lessO (l.getD m z27) o = true) → (∀ m, j ≤ m → m < l.length → ¬ lessO (l.getD m z27) o = true) →
    Ev (fun k => impl_Occ_105.l0 k l (l.length : Int) (i : Int) (j : Int) o.f0 o.f1 o.f2) ((ahead l o : Int), foundO l o) := by
  intro d
  induction d with
  | zero =>
    intro i j hd hij hj h1 h2
    obtain rfl : i = j := by omega
    exact search_end l hs o ho i hj h1 h2
  | succ d ih =>
    intro i j hd hij hj h1 h2
    by_cases c : i < j
    · obtain ⟨h, hh⟩ : ∃ h, h = (i + j) / 2 := ⟨_, rfl⟩
      have hb1 : i ≤ h := by omega
      have hb2 : h < j := by omega
      have hw := half_is i j hij (by omega)
      rw [← hh] at hw
      clear hh
      have ci : (i : Int) < (j : Int) := by omega
      refine Ev.step (fun k => by simp only [impl_Occ_105.l0]; rw [if_pos ci, hw]) ?_
      have c0 : (0 : Int) ≤ (h : Int) := by omega
      have c1 : (h : Int) < (l.length : Int) := by omega
      refine Ev.pos c0 (Ev.pos c1 ?_)
      refine Ev.bind (impl_compare_ev (rd_T27 l (h : Int)) o (hs.at_ h) ho) ?_
      have er : rd_T27 l (h : Int) = l.getD h z27 := rfl
      rw [er]
      by_cases c2 : cmpO (l.getD h z27) o < 0
      · have hw2 : wrap64 ((h : Int) + 1) = ((h + 1 : Nat) : Int) := by rw [w_small (by omega) (by omega)]; omega
        refine Ev.pos c2 ?_
        rw [hw2]
        have hlo : lessO (l.getD h z27) o = true := decide_eq_true c2
        have g1 : ∀ m, m < h + 1 → lessO (l.getD m z27) o = true := fun m hm => by
          rcases Nat.lt_or_ge m h with hlt | hge
          · exact lessO_trans (asc_at hA hlt (by omega)) hlo
          · obtain rfl : m = h := by omega
            exact hlo
        exact ih (h + 1) j (by omega) (by omega) hj g1 h2
      · refine Ev.neg c2 ?_
        have hlo : ¬ lessO (l.getD h z27) o = true := fun hx => c2 (of_decide_eq_true hx)
        have g2 : ∀ m, h ≤ m → m < l.length → ¬ lessO (l.getD m z27) o = true := fun m hm hml hx => by
          rcases Nat.lt_or_ge h m with hlt | hge
          · exact hlo (lessO_trans (asc_at hA hlt hml) hx)
          · obtain rfl : m = h := by omega
            exact hlo hx
        exact ih i h (by omega) (by omega) (by omega) h1 g2
    · obtain rfl : i = j := by omega
      exact search_end l hs o ho i hj h1 h2
include hl hs hA ho in
theorem impl_put_ev : Ev (fun k => impl_put.f k l o.f0 o.f1 o.f2) (insO l o) := by
  unfold impl_put.f
  have c := hl
  have h := search_ev l hl hs hA o ho l.length 0 l.length (by omega) (by omega) (Nat.le_refl _) (fun m hm => by omega) (fun m hm hml => by omega)
  refine Ev.pos c (Ev.bind h ?_)
  rw [← putN_ins]
  unfold putN
  have ha := ahead_le l o
  by_cases c2 : ahead l o < l.length ∧ (cmpO (l.getD (ahead l o) z27) o == 0) = true
  · rw [if_pos c2]
    refine Ev.pos ?_ (Ev.now _)
    unfold foundO
    rw [decide_eq_true c2.1, c2.2]; rfl
  · rw [if_neg c2]
    refine Ev.neg (fun hx => c2 ?_) (Ev.pos ⟨by omega, by omega⟩ (Ev.val (Ev.now _) ?_))
    · have hx' : foundO l o = true := hx
      unfold foundO at hx'
      rw [Bool.and_eq_true] at hx'
      exact ⟨of_decide_eq_true hx'.1, hx'.2⟩
    · rw [Int.toNat_natCast]
end
end Go.Proofs.Ytiplpckgmikmeaa.M
namespace Go.Proofs.Ytiplpckgmikmeaa.M
set_option linter.unusedVariables false
set_option linter.unusedSimpArgs false
open Go.RowKit Go.Proofs.YtiplpckgmikmeaaW.PrintWords Go.Proofs.YtiplpckgmikmeaaW.PrintLast

def Mid (l : List S27) : Prop := ∀ x ∈ l, x.f2.length ≤ 1048576
theorem Mid.short {l : List S27} (h : Mid l) : Short l := fun x hx => Nat.le_trans (h x hx) (by omega)
theorem Mid.at_ {l : List S27} (h : Mid l) (i : Int) : (rd_T27 l i).f2.length ≤ 1048576 := by
  unfold rd_T27
  rw [List.getD_eq_getElem?_getD]
  rcases hx : l[i.toNat]? with _ | x
  · decide
  · exact h x (List.mem_of_getElem? hx)
theorem Mid.get {l : List S27} (h : Mid l) (n : Nat) : (l.getD n z27).f2.length ≤ 1048576 := h.at_ (n : Int)
theorem Mid.ins {l : List S27} (h : Mid l) {o : S27} (ho : o.f2.length ≤ 1048576) : Mid (insO l o) := fun x hx => by
  rcases (mem_insO x l o).1 hx with hx | rfl
  · exact h x hx
  · exact ho
theorem clone_is (o : S27) (ho : o.f2.length ≤ 1048576) : impl_Occ_clone.f o.f0 o.f1 o.f2 = some (o.f0, o.f1, o.f2) := by
  unfold impl_Occ_clone.f
  rw [if_pos (by rw [List.length_nil]; omega), List.nil_append]
theorem l3Copy_is (o : S27) (ho : o.f2.length ≤ 1048576) : spec_l3Copy.f o.f0 o.f1 o.f2 = some (o.f0, o.f1, o.f2) := by
  unfold spec_l3Copy.f
  simp only [Option.bind_some, List.nil_append, List.length_nil]
  rw [if_pos (by omega)]
theorem take_next (l : List S27) (n : Nat) (h : n < l.length) : l.take n ++ [rd_T27 l (n : Int)] = l.take (n + 1) := by
  have e : rd_T27 l (n : Int) = l[n] := by
    show l.getD n z27 = l[n]
    exact getD_in h
  rw [e, List.take_succ_eq_append_getElem h]
section
variable (l : List S27) (hl : l.length ≤ 1048576) (hs : Mid l)
include hl hs
theorem cloneOccs_l0_ev : ∀ d n : Nat, n + d = l.length → Ev (fun k => impl_cloneOccs.l0 k (l.take n) l (l.length : Int) (n : Int)) l := by
  intro d
  induction d with
  | zero =>
    intro n h
    refine Ev.step (fun k => by simp only [impl_cloneOccs.l0]; rw [if_neg (by omega)]) (Ev.val (Ev.now _) ?_)
    exact List.take_of_length_le (by omega)
  | succ d ih =>
    intro n h
    have hw : wrap64 ((n : Int) + 1) = ((n + 1 : Nat) : Int) := by rw [w_small (by omega) (by omega)]; omega
    refine Ev.step (fun k => by simp only [impl_cloneOccs.l0]; rw [if_pos (by omega), if_pos (by omega), if_pos (by omega), hw]) ?_
    refine Ev.bind (Ev.one (fun _ => clone_is _ (hs.at_ (n : Int)))) ?_
    refine Ev.pos (by rw [List.length_take]; omega) ?_
    rw [take_next l n (by omega)]
    exact ih (n + 1) (by omega)
theorem cloneOccs_ev : Ev (fun k => impl_cloneOccs.f k l) l := cloneOccs_l0_ev l hl hs l.length 0 (by omega)
theorem l3List_l0_ev : ∀ d n : Nat, n + d = l.length → Ev (fun k => spec_l3List.l0 k l (l.take n) (n : Int)) l := by
  intro d
  induction d with
  | zero =>
    intro n h
    refine Ev.step (fun k => by simp only [spec_l3List.l0]; rw [if_neg (by omega)]) (Ev.val (Ev.now _) ?_)
    exact List.take_of_length_le (by omega)
  | succ d ih =>
    intro n h
    have hw : wrap64 ((n : Int) + 1) = ((n + 1 : Nat) : Int) := by rw [w_small (by omega) (by omega)]; omega
    refine Ev.step (fun k => by simp only [spec_l3List.l0]; rw [if_pos (by omega), if_pos (by omega), hw]) ?_
    refine Ev.bind (Ev.one (fun _ => l3Copy_is _ (hs.at_ (n : Int)))) ?_
    refine Ev.pos (by rw [List.length_take]; omega) ?_
    rw [take_next l n (by omega)]
    exact ih (n + 1) (by omega)
theorem l3List_ev : Ev (fun k => spec_l3List.f k l) l := l3List_l0_ev l hl hs l.length 0 (by omega)
end
def toldO (l : List S27) : List S27 × Bool := if 40 < l.length then ([], false) else (l, true)
theorem few_ev (l : List S27) (hl : l.length ≤ 1048576) (hs : Mid l) : Ev (fun k => impl_few.f k l) (toldO l) := by
  unfold impl_few.f toldO
  by_cases c : 40 < l.length
  · rw [if_pos c]; exact Ev.pos (by omega) (Ev.now _)
  · rw [if_neg c]; exact Ev.neg (by omega) (Ev.bindS (cloneOccs_ev l hl hs) rfl)
theorem l4Told_ev (l : List S27) (hl : l.length ≤ 1048576) (hs : Mid l) : Ev (fun k => spec_l4Told.f k l) (toldO l) := by
  unfold spec_l4Told.f toldO
  by_cases c : 40 < l.length
  · rw [if_pos c]; exact Ev.pos (by omega) (Ev.now _)
  · rw [if_neg c]; exact Ev.neg (by omega) (Ev.bindS (l3List_ev l hl hs) rfl)
def mergeO (a b : List S27) : List S27 := b.foldl insO a
theorem mem_mergeO (z : S27) : ∀ (b a : List S27), z ∈ mergeO a b ↔ z ∈ a ∨ z ∈ b
  | [], a => by simp [mergeO]
  | x :: b, a => by
    have ih := mem_mergeO z b (insO a x)
    unfold mergeO at ih ⊢
    rw [List.foldl_cons, ih, mem_insO, List.mem_cons, or_assoc]
theorem asc_mergeO : ∀ (b a : List S27), AscO a → AscO (mergeO a b)
  | [], a, h => h
  | x :: b, a, h => asc_mergeO b (insO a x) (asc_insO a x h)
theorem len_mergeO : ∀ (b a : List S27), (mergeO a b).length ≤ a.length + b.length
  | [], a => by simp [mergeO]
  | x :: b, a => by
    have h1 := len_mergeO b (insO a x)
    have h2 := len_insO a x
    unfold mergeO at h1 ⊢
    rw [List.foldl_cons, List.length_cons]
    omega
theorem Mid.merge {a b : List S27} (ha : Mid a) (hb : Mid b) : Mid (mergeO a b) := fun x hx => ((mem_mergeO x b a).1 hx).elim (ha x) (hb x)
theorem merge_next (a l : List S27) (n : Nat) (h : n < l.length) : insO (mergeO a (l.take n)) (rd_T27 l (n : Int)) = mergeO a (l.take (n + 1)) := by
  unfold mergeO
  rw [← take_next l n h, List.foldl_append]
  rfl
section
variable (a b : List S27) (ha : a.length + b.length ≤ 1048576) (hs : Mid a) (ht : Mid b)
include ha hs ht
theorem l4Merge_l0_ev : ∀ d n : Nat, n + d = b.length → Ev (fun k => spec_l4Merge.l0 k (mergeO a (b.take n)) b (n : Int)) (mergeO a b) := by
  intro d
  induction d with
  | zero =>
    intro n h
    refine Ev.step (fun k => by simp only [spec_l4Merge.l0]; rw [if_neg (by omega)]) (Ev.val (Ev.now _) ?_)
    rw [List.take_of_length_le (by omega)]
  | succ d ih =>
    intro n h
    have hw : wrap64 ((n : Int) + 1) = ((n + 1 : Nat) : Int) := by rw [w_small (by omega) (by omega)]; omega
    have hm : (mergeO a (b.take n)).length ≤ 1048576 := by have := len_mergeO (b.take n) a; rw [List.length_take] at this; omega
    refine Ev.step (fun k => by simp only [spec_l4Merge.l0]; rw [if_pos (by omega), if_pos (by omega), hw]) ?_
    refine Ev.bind (l3Put_ev (mergeO a (b.take n)) (by omega) (hs.merge (fun x hx => ht x (List.mem_of_mem_take hx))).short (rd_T27 b (n : Int)) (by have := ht.at_ (n : Int); omega)) ?_
    rw [putS_ins, merge_next a b n (by omega)]
    exact ih (n + 1) (by omega)
theorem l4Merge_ev : Ev (fun k => spec_l4Merge.f k a b) (mergeO a b) := l4Merge_l0_ev a b ha hs ht b.length 0 (by omega)
theorem putAll_l0_ev (hA : AscO a) : ∀ d n : Nat, n + d = b.length → Ev (fun k => impl_putAll.l0 k (mergeO a (b.take n)) b (n : Int)) (mergeO a b) := by
  intro d
  induction d with
  | zero =>
    intro n h
    refine Ev.step (fun k => by simp only [impl_putAll.l0]; rw [if_neg (by omega)]) (Ev.val (Ev.now _) ?_)
    rw [List.take_of_length_le (by omega)]
  | succ d ih =>
    intro n h
    have hw : wrap64 ((n : Int) + 1) = ((n + 1 : Nat) : Int) := by rw [w_small (by omega) (by omega)]; omega
    have hm : (mergeO a (b.take n)).length ≤ 1048576 := by have := len_mergeO (b.take n) a; rw [List.length_take] at this; omega
    refine Ev.step (fun k => by simp only [impl_putAll.l0]; rw [if_pos (by omega), if_pos (by omega), hw]) ?_
    refine Ev.bind (impl_put_ev (mergeO a (b.take n)) (by omega) (hs.merge (fun x hx => ht x (List.mem_of_mem_take hx))).short (asc_mergeO _ _ hA) (rd_T27 b (n : Int)) (by have := ht.at_ (n : Int); omega)) ?_
    rw [merge_next a b n (by omega)]
    exact ih (n + 1) (by omega)
theorem putAll_ev (hA : AscO a) : Ev (fun k => impl_putAll.f k a b) (mergeO a b) := putAll_l0_ev a b ha hs ht hA b.length 0 (by omega)
end
theorem occsGo_asc : ∀ (l : List S27) (p : Option S27), occsGo p l = true ↔ AscO l ∧ (∀ x ∈ l, occOkB x = true) ∧ (∀ y, p = some y → ∀ x ∈ l, lessO y x = true)
  | [], p => by simp [occsGo, AscO]
  | x :: l, p => by
    have ih := occsGo_asc l (some x)
    have e : occsGo p (x :: l) = true ↔ occOkB x = true ∧ (∀ y, p = some y → lessO y x = true) ∧ occsGo (some x) l = true := by
      cases p with
      | none =>
        rw [show occsGo none (x :: l) = (occOkB x && occsGo (some x) l) from rfl]
        simp
      | some y =>
        rw [show occsGo (some y) (x :: l) = (occOkB x && (lessO y x && occsGo (some x) l)) from rfl]
        simp
    rw [e, ih]
    unfold AscO
    rw [List.pairwise_cons]
    constructor
    · rintro ⟨h1, h2, h3, h4, h5⟩
      refine ⟨⟨h5 x rfl, h3⟩, fun z hz => ?_, fun y hy z hz => ?_⟩
      · rcases List.mem_cons.1 hz with rfl | hz
        · exact h1
        · exact h4 z hz
      · rcases List.mem_cons.1 hz with rfl | hz
        · exact h2 y hy
        · exact lessO_trans (h2 y hy) (h5 x rfl z hz)
    · rintro ⟨⟨h1, h2⟩, h3, h4⟩
      exact ⟨h3 x (by simp), fun y hy => h4 y hy x (by simp), h2, fun z hz => h3 z (by simp [hz]), fun y hy => by injection hy with hy; subst hy; exact h1⟩
theorem occsOkB_iff (l : List S27) : occsOkB l = true ↔ AscO l ∧ (∀ x ∈ l, occOkB x = true) ∧ l.length ≤ 40 := by
  unfold occsOkB
  rw [Bool.and_eq_true, occsGo_asc, decide_eq_true_iff]
  constructor
  · rintro ⟨⟨h1, h2, _⟩, h3⟩
    exact ⟨h1, h2, h3⟩
  · rintro ⟨h1, h2, h3⟩
    exact ⟨⟨h1, h2, fun y hy => by cases hy⟩, h3⟩
theorem occOk_len {o : S27} (h : occOkB o = true) : o.f2.length ≤ 24 := by
  unfold occOkB at h
  simp only [Bool.and_eq_true, decide_eq_true_iff] at h
  have := idsGo_len o.f2 (-1) h.2 (by omega)
  omega
theorem occsOk_mid {l : List S27} (h : occsOkB l = true) : Mid l := fun x hx => by
  have := occOk_len (((occsOkB_iff l).1 h).2.1 x hx)
  omega
def putO (l : List S27) (o : S27) : List S27 := if occsOkB l = true ∧ occOkB o = true then insO l o else []
theorem impl_OccsPut_ev (l : List S27) (hl : l.length ≤ 1048576) (hs : Mid l) (o : S27) (ho : o.f2.length ≤ 1048576) : Ev (fun k => impl_OccsPut.f k l o.f0 o.f1 o.f2) (putO l o) := by
  unfold impl_OccsPut.f putO
  refine Ev.bind (impl_OccsOk_ev l (by omega) hs.short) ?_
  by_cases c : occsOkB l = true
  · refine Ev.pos c (Ev.bind (impl_OccOk_ev o (by omega)) ?_)
    by_cases c2 : occOkB o = true
    · rw [if_pos ⟨c, c2⟩]
      obtain ⟨h1, h2, h3⟩ := (occsOkB_iff l).1 c
      refine Ev.pos c2 (Ev.bind (impl_put_ev l (by omega) hs.short h1 o (by omega)) ?_)
      exact cloneOccs_ev _ (by have := len_insO l o; omega) (hs.ins ho)
    · rw [if_neg (fun h => c2 h.2)]
      exact Ev.neg c2 (Ev.now _)
  · rw [if_neg (fun h => c h.1)]
    exact Ev.neg c (Ev.now _)
theorem spec_OccsPut_ev (l : List S27) (hl : l.length ≤ 1048576) (hs : Mid l) (o : S27) (ho : o.f2.length ≤ 1048576) : Ev (fun k => spec_OccsPut.f k l o.f0 o.f1 o.f2) (putO l o) := by
  unfold spec_OccsPut.f putO
  refine Ev.bind (spec_OccsOk_ev l (by omega) hs.short) ?_
  by_cases c : occsOkB l = true
  · refine Ev.pos c (Ev.bind (spec_OccOk_ev o (by omega)) ?_)
    by_cases c2 : occOkB o = true
    · rw [if_pos ⟨c, c2⟩]
      refine Ev.pos c2 (Ev.bind (l3List_ev l hl hs) ?_)
      exact Ev.val (l3Put_ev l (by omega) hs.short o (by omega)) (putS_ins l o)
    · rw [if_neg (fun h => c2 h.2)]
      exact Ev.neg c2 (Ev.now _)
  · rw [if_neg (fun h => c h.1)]
    exact Ev.neg c (Ev.now _)
def orO (a b : List S27) : List S27 × Bool := if occsOkB a = true ∧ occsOkB b = true then toldO (mergeO a b) else ([], false)
theorem impl_OrOf_ev (a b : List S27) (hl : a.length ≤ 1048576) (hs : Mid a) (hm : b.length ≤ 1048576) (ht : Mid b) : Ev (fun k => impl_OrOf.f k a b) (orO a b) := by
  unfold impl_OrOf.f orO
  refine Ev.bind (impl_OccsOk_ev a (by omega) hs.short) ?_
  by_cases c : occsOkB a = true
  · refine Ev.pos c (Ev.bind (impl_OccsOk_ev b (by omega) ht.short) ?_)
    by_cases c2 : occsOkB b = true
    · rw [if_pos ⟨c, c2⟩]
      obtain ⟨h1, _, h3⟩ := (occsOkB_iff a).1 c
      obtain ⟨_, _, h6⟩ := (occsOkB_iff b).1 c2
      refine Ev.pos c2 (Ev.bind (putAll_ev a b (by omega) hs ht h1) ?_)
      exact few_ev _ (by have := len_mergeO b a; omega) (hs.merge ht)
    · rw [if_neg (fun h => c2 h.2)]
      exact Ev.neg c2 (Ev.now _)
  · rw [if_neg (fun h => c h.1)]
    exact Ev.neg c (Ev.now _)
theorem spec_OrOf_ev (a b : List S27) (hl : a.length ≤ 1048576) (hs : Mid a) (hm : b.length ≤ 1048576) (ht : Mid b) : Ev (fun k => spec_OrOf.f k a b) (orO a b) := by
  unfold spec_OrOf.f orO
  refine Ev.bind (spec_OccsOk_ev a (by omega) hs.short) ?_
  by_cases c : occsOkB a = true
  · refine Ev.pos c (Ev.bind (spec_OccsOk_ev b (by omega) ht.short) ?_)
    by_cases c2 : occsOkB b = true
    · rw [if_pos ⟨c, c2⟩]
      obtain ⟨_, _, h3⟩ := (occsOkB_iff a).1 c
      obtain ⟨_, _, h6⟩ := (occsOkB_iff b).1 c2
      refine Ev.pos c2 (Ev.bind (l3List_ev a hl hs) (Ev.bind (l4Merge_ev a b (by omega) hs ht) ?_))
      exact l4Told_ev _ (by have := len_mergeO b a; omega) (hs.merge ht)
    · rw [if_neg (fun h => c2 h.2)]
      exact Ev.neg c2 (Ev.now _)
  · rw [if_neg (fun h => c h.1)]
    exact Ev.neg c (Ev.now _)
end Go.Proofs.Ytiplpckgmikmeaa.M
namespace Go.Proofs.Ytiplpckgmikmeaa.M
open Go.RowKit Go.Proofs.YtiplpckgmikmeaaW.PrintWords Go.Proofs.YtiplpckgmikmeaaW.PrintLast Go.Proofs.YtiplpckgmikmeaaW.PrintMore
attribute [local go_sem] max2_int min2_int max_two min_two max_three min_three max_four min_four
set_option linter.unusedVariables false
set_option linter.unusedSimpArgs false

def spec_DrawPlusOf.f (k : Nat) (l0 : List Int) : Option ((List (S27)) × Int × Int) := (spec_l14Open.f l0).bind fun bt101 => ((spec_l3Bent.f k bt101.1 bt101.2).bind fun bt104 => ((spec_l14Rd_num.f k bt101.1 bt104.2 (([1, 2, 5, 20, 0, 21] : List Int))).bind fun bt111 => ((spec_l14Rd_num.f k bt101.1 bt111.2 (([6, 10, 20, 2000, 0, (-1)] : List Int))).bind fun bt116 => (some (bt104.1, bt111.1, bt116.1)))))
theorem spec_DrawPlusOf.mono : ∀ a0 k, LeO (spec_DrawPlusOf.f k a0) (spec_DrawPlusOf.f (k + 1) a0) := by
 intro a0 k
 unfold spec_DrawPlusOf.f
 repeat' first
   | (with_reducible exact spec_l14Rd_num.mono _ _ _ _)
   | (with_reducible exact spec_l3Bent.mono _ _ _)
   | (with_reducible exact LeO.refl _)
   | (with_reducible exact LeO.none _)
   | (with_reducible refine LeO.ite ?_ ?_)
   | (with_reducible refine LeO.bind ?_ (fun _ => ?_))
   | exact spec_l14Rd_num.mono _ _ _ _
   | exact spec_l3Bent.mono _ _ _
   | exact LeO.none _
   | refine LeO.ite ?_ ?_
   | refine LeO.bind ?_ (fun _ => ?_)
set_option maxHeartbeats 8000000 in
set_option maxRecDepth 100000 in
theorem spec_DrawPlusOf.calls (k : Nat) (A0 : Option Addr) (c0 : Nat) (l0 : List Int) (r1 : List (S27)) (r2 : Int) (r3 : Int) (w : World) (hr0 : Kd.C (Kd.int .u8) w A0 l0.length l0) (hc0 : l0.length ≤ c0) (h : spec_DrawPlusOf.f k l0 = some (r1, r2, r3)) :
  Calls Try.prog 60 #[.slice A0 l0.length c0] w fun e w' => ∃ v0_ : Value, e = .returned (.tuple #[v0_, .int .i64 r2, .int .i64 r3]) ∧ Kd.N k27 27 w' w.heap.size (fun k_ => (w.heap.size ≤ k_)) v0_ r1 ∧ Below w.heap.size w w' := by
 have HR0 := Aside0.mk hr0
 have HC0 := Aside0.mk hc0
 clear hr0 hc0
 have HB := Aside0.mk (Below.refl w.heap.size w)
 have H : ((spec_l14Open.f l0).bind fun bt101 => ((spec_l3Bent.f k bt101.1 bt101.2).bind fun bt104 => ((spec_l14Rd_num.f k bt101.1 bt104.2 (([1, 2, 5, 20, 0, 21] : List Int))).bind fun bt111 => ((spec_l14Rd_num.f k bt101.1 bt111.2 (([6, 10, 20, 2000, 0, (-1)] : List Int))).bind fun bt116 => (some (bt104.1, bt111.1, bt116.1)))))) = some (r1, r2, r3) := h
 clear h
 replace H := Option.bind_eq_some_iff.mp H
 obtain ⟨⟨t101, t102⟩, A20, H⟩ := H
 replace H : ((spec_l3Bent.f k t101 t102).bind fun bt104 => ((spec_l14Rd_num.f k t101 bt104.2 (([1, 2, 5, 20, 0, 21] : List Int))).bind fun bt111 => ((spec_l14Rd_num.f k t101 bt111.2 (([6, 10, 20, 2000, 0, (-1)] : List Int))).bind fun bt116 => (some (bt104.1, bt111.1, bt116.1))))) = some (r1, r2, r3) := H
 have A2 := Aside0.mk A20
 clear A20
 replace H := Option.bind_eq_some_iff.mp H
 obtain ⟨⟨t104, t107⟩, A30, H⟩ := H
 replace H : ((spec_l14Rd_num.f k t101 t107 (([1, 2, 5, 20, 0, 21] : List Int))).bind fun bt111 => ((spec_l14Rd_num.f k t101 bt111.2 (([6, 10, 20, 2000, 0, (-1)] : List Int))).bind fun bt116 => (some (t104, bt111.1, bt116.1)))) = some (r1, r2, r3) := H
 have A3 := Aside0.mk A30
 clear A30
 obtain ⟨y108, hy108⟩ : ∃ y_ : List Int, y_ = (([1, 2, 5, 20, 0, 21] : List Int)) := ⟨_, rfl⟩
 replace H : ((spec_l14Rd_num.f k t101 t107 y108).bind fun bt111 => ((spec_l14Rd_num.f k t101 bt111.2 (([6, 10, 20, 2000, 0, (-1)] : List Int))).bind fun bt116 => (some (t104, bt111.1, bt116.1)))) = some (r1, r2, r3) := by first | (rw [hy108];with_reducible exact H) | (have H2_ := (Option.bind_some _ _).symm.trans H;rw [hy108];with_reducible exact H2_) | (have H2_ := (Option.bind_some _ _).symm.trans H;with_reducible exact H2_) | with_reducible exact H | (rw [hy108];exact H) | exact H
 have Ny108 := Aside0.mk hy108
 clear hy108
 replace H := Option.bind_eq_some_iff.mp H
 obtain ⟨⟨t111, t112⟩, A40, H⟩ := H
 replace H : ((spec_l14Rd_num.f k t101 t112 (([6, 10, 20, 2000, 0, (-1)] : List Int))).bind fun bt116 => (some (t104, t111, bt116.1))) = some (r1, r2, r3) := H
 have A4 := Aside0.mk A40
 clear A40
 obtain ⟨y113, hy113⟩ : ∃ y_ : List Int, y_ = (([6, 10, 20, 2000, 0, (-1)] : List Int)) := ⟨_, rfl⟩
 replace H : ((spec_l14Rd_num.f k t101 t112 y113).bind fun bt116 => (some (t104, t111, bt116.1))) = some (r1, r2, r3) := by first | (rw [hy113];with_reducible exact H) | (have H2_ := (Option.bind_some _ _).symm.trans H;rw [hy113];with_reducible exact H2_) | (have H2_ := (Option.bind_some _ _).symm.trans H;with_reducible exact H2_) | with_reducible exact H | (rw [hy113];exact H) | exact H
 have Ny113 := Aside0.mk hy113
 clear hy113
 replace H := Option.bind_eq_some_iff.mp H
 obtain ⟨⟨t116, t117⟩, A50, H⟩ := H
 replace H : (some (t104, t111, t116)) = some (r1, r2, r3) := H
 have A5 := Aside0.mk A50
 clear A50
 simp only [Option.some.injEq, Prod.mk.injEq] at H
 obtain ⟨rfl, rfl, rfl⟩ := H
 go_enter Try.func60, Try.ntmps60
 go_wp2_with (first | ((with_reducible refine gate_callee (f := 72) rfl ?_);refine goesL_ (some 8) rfl rfl Try.func72 (by kernel_rfl) rfl #[.slice A0 l0.length c0] rfl (by (try simp only [List.map_toArray, List.map_cons, List.map_nil]);first | done | rfl | (simp only [List.length_drop, List.length_take];rfl)) ?_;(with_reducible refine (spec_l14Open.calls _ _ l0 t101 t102 w _ ?side1 ?side2 ?side3 A2.out).mono ?_);(case side1 => repeat (first | (with_reducible first | exact HB.out | apply below_alloc | apply pw_below_drewN | apply below_drew1) | exact HB.out));(case side2 => exact HR0.out);(case side3 => exact HC0.out);rintro e w6 ⟨g103, rfl, hi, hb, hb2⟩;refine ⟨_, rfl, ?_⟩;replace HB := Aside0.mk (hb);have HI103 := Aside0.mk (hi);(try clear hb);(try clear hb2);(try clear hk);(try clear hi)) | ((with_reducible refine gate_callee (f := 77) rfl ?_);refine goesL_ (some 10) rfl rfl Try.func77 (by kernel_rfl) rfl #[.pointer (some ⟨g103, 0, none⟩)] rfl (by (try simp only [List.map_toArray, List.map_cons, List.map_nil]);first | done | rfl | (simp only [List.length_drop, List.length_take];rfl)) ?_;(with_reducible refine (spec_l3Bent.calls k g103 t101 t102 t104 t107 w _ ?side1 ?side2 A3.out).mono ?_);(case side1 => repeat (first | (with_reducible first | exact HI103.out | apply IsS100.alloc | apply IsS100.drewN | apply IsS100.drew | apply IsS100.set_1) | exact HI103.out));(case side2 => repeat (first | (with_reducible first | exact HB.out | apply below_alloc | apply pw_below_drewN | apply below_drew1 | refine below_set ?_ (IsS100.ge HI103.out)) | exact HB.out));rintro e w7 ⟨v105, rfl, ho0, hi, hb, hk⟩;refine ⟨_, rfl, ?_⟩;have HO106 := Aside0.mk (Kd.N_lower (Kd.N_mono (ok' := fun k_ => (w.heap.size ≤ k_) ∧ k_ ≠ g103) ho0 (fun k_ hk_ => ⟨(Nat.le_trans (below_size (by repeat (first | (with_reducible first | exact HB.out | apply below_alloc | apply pw_below_drewN | apply below_drew1 | refine below_set ?_ (IsS100.ge HI103.out)) | exact HB.out))) hk_), (IsS100.fresh (by repeat (first | (with_reducible first | exact HI103.out | apply IsS100.alloc | apply IsS100.drewN | apply IsS100.drew | apply IsS100.set_1) | exact HI103.out)) k_ hk_)⟩)) (below_size (by repeat (first | (with_reducible first | exact HB.out | apply below_alloc | apply pw_below_drewN | apply below_drew1 | refine below_set ?_ (IsS100.ge HI103.out)) | exact HB.out))));replace HB := Aside0.mk (hb);replace HI103 := Aside0.mk (hi);(try clear hb);(try clear hb2);(try clear hk);(try clear hi);(try clear ho0)) | ((with_reducible refine gate_dst (N := 13) rfl ?_);refine Kd.R_lit (Kd.int .i64) _ 3 ?hg (N := 13) ?hd (xs := ([1, 2, 5, 20, 0, 21] : List Int)) (inner := [.int .i64 1, .int .i64 2, .int .i64 5, .int .i64 20, .int .i64 0, .int .i64 21]) (ok := fun _ => True) (okp := fun _ => True) ?hr ?hp (fun _ hk => hk) trivial (Below.refl _ _) (Nat.le_refl _) (by simp) ?_;(case hd => rfl);(case hg => rfl);(case hr => first | (go_simp;done) | (go_simp;rfl));(case hp => exact (Reps.one (show Kd.M (Kd.int .i64) _ _ _ 1 [.int .i64 1] from rfl) (Reps.one (show Kd.M (Kd.int .i64) _ _ _ 2 [.int .i64 2] from rfl) (Reps.one (show Kd.M (Kd.int .i64) _ _ _ 5 [.int .i64 5] from rfl) (Reps.one (show Kd.M (Kd.int .i64) _ _ _ 20 [.int .i64 20] from rfl) (Reps.one (show Kd.M (Kd.int .i64) _ _ _ 0 [.int .i64 0] from rfl) (Reps.one (show Kd.M (Kd.int .i64) _ _ _ 21 [.int .i64 21] from rfl) (Reps.none _ _))))))));intro v109 w8 ho9 hb hg_ hnew_;clear hg_ hnew_;(first | rw [← Ny108.out] at ho9 | (simp only [Int.reduceToNat] at ho9;rw [← Ny108.out] at ho9));replace HO106 := Aside0.mk (Kd.N_elder' (by exact HO106.out) (Kd.R_base ho9) hb);have HO110 := Aside0.mk (Kd.R_lower (Kd.R_newM (M := fun k_ => (w.heap.size ≤ k_)) ho9 (below_size (by repeat (first | (with_reducible first | exact HB.out | apply below_alloc | apply pw_below_drewN | apply below_drew1 | refine below_set ?_ (IsS100.ge HI103.out)) | exact HB.out))) (fun k_ h_ => h_)) (below_size (by repeat (first | (with_reducible first | exact HB.out | apply below_alloc | apply pw_below_drewN | apply below_drew1 | refine below_set ?_ (IsS100.ge HI103.out)) | exact HB.out))));replace HB := Aside0.mk (below_step (by repeat (first | (with_reducible first | exact HB.out | apply below_alloc | apply pw_below_drewN | apply below_drew1 | refine below_set ?_ (IsS100.ge HI103.out)) | exact HB.out)) hb);replace HI103 := Aside0.mk (IsS100.below (by repeat (first | (with_reducible first | exact HI103.out | apply IsS100.alloc | apply IsS100.drewN | apply IsS100.drew | apply IsS100.set_1) | exact HI103.out)) hb);clear hb ho9;obtain ⟨Ao10, co10, eo10⟩ := Kd.R_slice HO110.out;subst eo10) | ((with_reducible refine gate_callee (f := 91) rfl ?_);refine goesL_ (some 14) rfl rfl Try.func91 (by kernel_rfl) rfl #[.pointer (some ⟨g103, 0, none⟩), .slice Ao10 y108.length co10] rfl (by (try simp only [List.map_toArray, List.map_cons, List.map_nil]);first | done | rfl | (simp only [List.length_drop, List.length_take];rfl)) ?_;(with_reducible refine (spec_l14Rd_num.calls k g103 t101 t107 _ _ y108 t111 t112 w _ ?side1 ?side2 ?side3 ?side4 ?side5 A4.out).mono ?_);(case side1 => repeat (first | (with_reducible first | exact HI103.out | apply IsS100.alloc | apply IsS100.drewN | apply IsS100.drew | apply IsS100.set_1) | exact HI103.out));(case side2 => repeat (first | (with_reducible first | exact HB.out | apply below_alloc | apply pw_below_drewN | apply below_drew1 | refine below_set ?_ (IsS100.ge HI103.out)) | exact HB.out));(case side3 => repeat (first | exact (Kd.R_reads' HO110.out).2.2 | (with_reducible refine Kd.C_alloc ?_ _) | (with_reducible refine Kd.C_drewN ?_ _) | (with_reducible refine Kd.C_drew ?_)));(case side4 => exact (Kd.R_reads' HO110.out).2.1);(case side5 => exact far_slice (IsS100.own_ne HI103.out HO110.out (by decide)));rintro e w11 ⟨rfl, hi, hb, hk⟩;refine ⟨_, rfl, ?_⟩;replace HO106 := Aside0.mk (Kd.N_mono (Kd.N_keep (Kd.N_mono (ok := fun k_ => ((((w.heap.size ≤ k_)) ∧ k_ ≠ g103) ∧ some k_ ≠ (.slice Ao10 y108.length co10 : Value).ownBlock)) (by exact HO106.out) (fun k_ hk_ => (⟨hk_, hk_.1.2⟩ : _ ∧ k_ ≠ g103))) hk (fun _ h => h.2)) (fun _ h => h.1));replace HO110 := Aside0.mk (Kd.R_mono (Kd.R_keep (IsS100.apart (show IsS100 w _ g103 t101 t107 from by repeat (first | (with_reducible first | exact HI103.out | apply IsS100.alloc | apply IsS100.drewN | apply IsS100.drew | apply IsS100.set_1) | exact HI103.out)) (by exact HO110.out) (by decide)) hk (fun _ h => h.2)) (fun _ h => h.1));replace HB := Aside0.mk (hb);replace HI103 := Aside0.mk (hi);(try clear hb);(try clear hb2);(try clear hk);(try clear hi)) | ((with_reducible refine gate_dst (N := 16) rfl ?_);refine Kd.R_lit (Kd.int .i64) _ 3 ?hg (N := 16) ?hd (xs := ([6, 10, 20, 2000, 0, (-1)] : List Int)) (inner := [.int .i64 6, .int .i64 10, .int .i64 20, .int .i64 2000, .int .i64 0, .int .i64 (-1)]) (ok := fun _ => True) (okp := fun _ => True) ?hr ?hp (fun _ hk => hk) trivial (Below.refl _ _) (Nat.le_refl _) (by simp) ?_;(case hd => rfl);(case hg => rfl);(case hr => first | (go_simp;done) | (go_simp;rfl));(case hp => exact (Reps.one (show Kd.M (Kd.int .i64) _ _ _ 6 [.int .i64 6] from rfl) (Reps.one (show Kd.M (Kd.int .i64) _ _ _ 10 [.int .i64 10] from rfl) (Reps.one (show Kd.M (Kd.int .i64) _ _ _ 20 [.int .i64 20] from rfl) (Reps.one (show Kd.M (Kd.int .i64) _ _ _ 2000 [.int .i64 2000] from rfl) (Reps.one (show Kd.M (Kd.int .i64) _ _ _ 0 [.int .i64 0] from rfl) (Reps.one (show Kd.M (Kd.int .i64) _ _ _ (-1) [.int .i64 (-1)] from rfl) (Reps.none _ _))))))));intro v114 w12 ho13 hb hg_ hnew_;clear hg_ hnew_;(first | rw [← Ny113.out] at ho13 | (simp only [Int.reduceToNat] at ho13;rw [← Ny113.out] at ho13));replace HO106 := Aside0.mk (Kd.N_elder' (by exact HO106.out) (Kd.R_base ho13) hb);have HO115 := Aside0.mk (Kd.R_lower (Kd.R_new' (Kd.R_newM (M := fun k_ => (w.heap.size ≤ k_)) ho13 (below_size (by repeat (first | (with_reducible first | exact HB.out | apply below_alloc | apply pw_below_drewN | apply below_drew1 | refine below_set ?_ (IsS100.ge HI103.out)) | exact HB.out))) (fun k_ h_ => h_)) (Kd.R_lt (by exact HO110.out))) (below_size (by repeat (first | (with_reducible first | exact HB.out | apply below_alloc | apply pw_below_drewN | apply below_drew1 | refine below_set ?_ (IsS100.ge HI103.out)) | exact HB.out))));replace HO110 := Aside0.mk (Kd.R_elder' (by exact HO110.out) (Kd.R_base ho13) hb);replace HB := Aside0.mk (below_step (by repeat (first | (with_reducible first | exact HB.out | apply below_alloc | apply pw_below_drewN | apply below_drew1 | refine below_set ?_ (IsS100.ge HI103.out)) | exact HB.out)) hb);replace HI103 := Aside0.mk (IsS100.below (by repeat (first | (with_reducible first | exact HI103.out | apply IsS100.alloc | apply IsS100.drewN | apply IsS100.drew | apply IsS100.set_1) | exact HI103.out)) hb);clear hb ho13;obtain ⟨Ao14, co14, eo14⟩ := Kd.R_slice HO115.out;subst eo14) | ((with_reducible refine gate_callee (f := 91) rfl ?_);refine goesL_ (some 17) rfl rfl Try.func91 (by kernel_rfl) rfl #[.pointer (some ⟨g103, 0, none⟩), .slice Ao14 y113.length co14] rfl (by (try simp only [List.map_toArray, List.map_cons, List.map_nil]);first | done | rfl | (simp only [List.length_drop, List.length_take];rfl)) ?_;(with_reducible refine (spec_l14Rd_num.calls k g103 t101 t112 _ _ y113 t116 t117 w _ ?side1 ?side2 ?side3 ?side4 ?side5 A5.out).mono ?_);(case side1 => repeat (first | (with_reducible first | exact HI103.out | apply IsS100.alloc | apply IsS100.drewN | apply IsS100.drew | apply IsS100.set_1) | exact HI103.out));(case side2 => repeat (first | (with_reducible first | exact HB.out | apply below_alloc | apply pw_below_drewN | apply below_drew1 | refine below_set ?_ (IsS100.ge HI103.out)) | exact HB.out));(case side3 => repeat (first | exact (Kd.R_reads' HO115.out).2.2 | (with_reducible refine Kd.C_alloc ?_ _) | (with_reducible refine Kd.C_drewN ?_ _) | (with_reducible refine Kd.C_drew ?_)));(case side4 => exact (Kd.R_reads' HO115.out).2.1);(case side5 => exact far_slice (IsS100.own_ne HI103.out HO115.out (by decide)));rintro e w15 ⟨rfl, hi, hb, hk⟩;refine ⟨_, rfl, ?_⟩;replace HO106 := Aside0.mk (Kd.N_mono (Kd.N_keep (Kd.N_mono (ok := fun k_ => (((((w.heap.size ≤ k_)) ∧ k_ ≠ g103) ∧ some k_ ≠ (.slice Ao10 y108.length co10 : Value).ownBlock) ∧ some k_ ≠ (.slice Ao14 y113.length co14 : Value).ownBlock)) (by exact HO106.out) (fun k_ hk_ => (⟨hk_, hk_.1.1.2⟩ : _ ∧ k_ ≠ g103))) hk (fun _ h => h.2)) (fun _ h => h.1));replace HO110 := Aside0.mk (Kd.R_mono (Kd.R_keep (IsS100.apart (show IsS100 w _ g103 t101 t112 from by repeat (first | (with_reducible first | exact HI103.out | apply IsS100.alloc | apply IsS100.drewN | apply IsS100.drew | apply IsS100.set_1) | exact HI103.out)) (by exact HO110.out) (by decide)) hk (fun _ h => h.2)) (fun _ h => h.1));replace HO115 := Aside0.mk (Kd.R_mono (Kd.R_keep (IsS100.apart (show IsS100 w _ g103 t101 t112 from by repeat (first | (with_reducible first | exact HI103.out | apply IsS100.alloc | apply IsS100.drewN | apply IsS100.drew | apply IsS100.set_1) | exact HI103.out)) (by exact HO115.out) (by decide)) hk (fun _ h => h.2)) (fun _ h => h.1));replace HB := Aside0.mk (hb);replace HI103 := Aside0.mk (hi);(try clear hb);(try clear hb2);(try clear hk);(try clear hi)))
 go_ret3
 exact ⟨_, by first | rfl | (simp [errW_none, errW_some] <;> rfl) | (simp [*, errW_none, errW_some] <;> rfl), by (with_reducible repeat (first | apply Kd.N_alloc | apply Kd.N_drewN | apply Kd.N_drew));exact Kd.N_mono HO106.out (fun _ hk => hk.1.1.1), by repeat (first | (with_reducible first | exact HB.out | apply below_alloc | apply pw_below_drewN | apply below_drew1 | refine below_set ?_ (IsS100.ge HI103.out)) | exact HB.out)⟩

end Go.Proofs.Ytiplpckgmikmeaa.M
namespace Go.Proofs.Ytiplpckgmikmeaa.M
open Go.RowKit Go.Proofs.YtiplpckgmikmeaaW.PrintWords Go.Proofs.YtiplpckgmikmeaaW.PrintLast Go.Proofs.YtiplpckgmikmeaaW.PrintMore
attribute [local go_sem] max2_int min2_int max_two min_two max_three min_three max_four min_four
set_option linter.unusedVariables false
set_option linter.unusedSimpArgs false

def spec_DrawOccsOk.f (k : Nat) (l0 : List Int) : Option ((List (S27))) := (spec_l14Open.f l0).bind fun bt101 => ((spec_l3Bent.f k bt101.1 bt101.2).bind fun bt104 => (some bt104.1))
theorem spec_DrawOccsOk.mono : ∀ a0 k, LeO (spec_DrawOccsOk.f k a0) (spec_DrawOccsOk.f (k + 1) a0) := by
 intro a0 k
 unfold spec_DrawOccsOk.f
 repeat' first
   | (with_reducible exact spec_l3Bent.mono _ _ _)
   | (with_reducible exact LeO.refl _)
   | (with_reducible exact LeO.none _)
   | (with_reducible refine LeO.ite ?_ ?_)
   | (with_reducible refine LeO.bind ?_ (fun _ => ?_))
   | exact spec_l3Bent.mono _ _ _
   | exact LeO.none _
   | refine LeO.ite ?_ ?_
   | refine LeO.bind ?_ (fun _ => ?_)
set_option maxHeartbeats 8000000 in
set_option maxRecDepth 100000 in
theorem spec_DrawOccsOk.calls (k : Nat) (A0 : Option Addr) (c0 : Nat) (l0 : List Int) (r : List (S27)) (w : World) (hr0 : Kd.C (Kd.int .u8) w A0 l0.length l0) (hc0 : l0.length ≤ c0) (h : spec_DrawOccsOk.f k l0 = some r) :
  Calls Try.prog 63 #[.slice A0 l0.length c0] w fun e w' => ∃ v0_ : Value, e = .returned (v0_) ∧ Kd.N k27 27 w' w.heap.size (fun k_ => (w.heap.size ≤ k_)) v0_ r ∧ Below w.heap.size w w' := by
 have HR0 := Aside0.mk hr0
 have HC0 := Aside0.mk hc0
 clear hr0 hc0
 have HB := Aside0.mk (Below.refl w.heap.size w)
 have H : ((spec_l14Open.f l0).bind fun bt101 => ((spec_l3Bent.f k bt101.1 bt101.2).bind fun bt104 => (some bt104.1))) = some r := h
 clear h
 replace H := Option.bind_eq_some_iff.mp H
 obtain ⟨⟨t101, t102⟩, A20, H⟩ := H
 replace H : ((spec_l3Bent.f k t101 t102).bind fun bt104 => (some bt104.1)) = some r := H
 have A2 := Aside0.mk A20
 clear A20
 replace H := Option.bind_eq_some_iff.mp H
 obtain ⟨⟨t104, t107⟩, A30, H⟩ := H
 replace H : (some t104) = some r := H
 have A3 := Aside0.mk A30
 clear A30
 obtain rfl := Option.some.inj H
 go_enter Try.func63, Try.ntmps63
 go_wp2_with (first | ((with_reducible refine gate_callee (f := 72) rfl ?_);refine goesL_ (some 4) rfl rfl Try.func72 (by kernel_rfl) rfl #[.slice A0 l0.length c0] rfl (by (try simp only [List.map_toArray, List.map_cons, List.map_nil]);first | done | rfl | (simp only [List.length_drop, List.length_take];rfl)) ?_;(with_reducible refine (spec_l14Open.calls _ _ l0 t101 t102 w _ ?side1 ?side2 ?side3 A2.out).mono ?_);(case side1 => repeat (first | (with_reducible first | exact HB.out | apply below_alloc | apply pw_below_drewN | apply below_drew1) | exact HB.out));(case side2 => exact HR0.out);(case side3 => exact HC0.out);rintro e w4 ⟨g103, rfl, hi, hb, hb2⟩;refine ⟨_, rfl, ?_⟩;replace HB := Aside0.mk (hb);have HI103 := Aside0.mk (hi);(try clear hb);(try clear hb2);(try clear hk);(try clear hi)) | ((with_reducible refine gate_callee (f := 77) rfl ?_);refine goesL_ (some 5) rfl rfl Try.func77 (by kernel_rfl) rfl #[.pointer (some ⟨g103, 0, none⟩)] rfl (by (try simp only [List.map_toArray, List.map_cons, List.map_nil]);first | done | rfl | (simp only [List.length_drop, List.length_take];rfl)) ?_;(with_reducible refine (spec_l3Bent.calls k g103 t101 t102 t104 t107 w _ ?side1 ?side2 A3.out).mono ?_);(case side1 => repeat (first | (with_reducible first | exact HI103.out | apply IsS100.alloc | apply IsS100.drewN | apply IsS100.drew | apply IsS100.set_1) | exact HI103.out));(case side2 => repeat (first | (with_reducible first | exact HB.out | apply below_alloc | apply pw_below_drewN | apply below_drew1 | refine below_set ?_ (IsS100.ge HI103.out)) | exact HB.out));rintro e w5 ⟨v105, rfl, ho0, hi, hb, hk⟩;refine ⟨_, rfl, ?_⟩;have HO106 := Aside0.mk (Kd.N_lower (Kd.N_mono (ok' := fun k_ => (w.heap.size ≤ k_) ∧ k_ ≠ g103) ho0 (fun k_ hk_ => ⟨(Nat.le_trans (below_size (by repeat (first | (with_reducible first | exact HB.out | apply below_alloc | apply pw_below_drewN | apply below_drew1 | refine below_set ?_ (IsS100.ge HI103.out)) | exact HB.out))) hk_), (IsS100.fresh (by repeat (first | (with_reducible first | exact HI103.out | apply IsS100.alloc | apply IsS100.drewN | apply IsS100.drew | apply IsS100.set_1) | exact HI103.out)) k_ hk_)⟩)) (below_size (by repeat (first | (with_reducible first | exact HB.out | apply below_alloc | apply pw_below_drewN | apply below_drew1 | refine below_set ?_ (IsS100.ge HI103.out)) | exact HB.out))));replace HB := Aside0.mk (hb);replace HI103 := Aside0.mk (hi);(try clear hb);(try clear hb2);(try clear hk);(try clear hi);(try clear ho0)))
 go_ret
 exact ⟨_, by first | rfl | (simp [errW_none, errW_some] <;> rfl) | (simp [*, errW_none, errW_some] <;> rfl), by (with_reducible repeat (first | apply Kd.N_alloc | apply Kd.N_drewN | apply Kd.N_drew));exact Kd.N_mono HO106.out (fun _ hk => hk.1), by repeat (first | (with_reducible first | exact HB.out | apply below_alloc | apply pw_below_drewN | apply below_drew1 | refine below_set ?_ (IsS100.ge HI103.out)) | exact HB.out)⟩

end Go.Proofs.Ytiplpckgmikmeaa.M
namespace Go.Proofs.Ytiplpckgmikmeaa.M
set_option linter.unusedVariables false
set_option linter.unusedSimpArgs false
open Go.RowKit Go.Proofs.YtiplpckgmikmeaaW.PrintWords Go.Proofs.YtiplpckgmikmeaaW.PrintLast

theorem Few.mid {l : List S27} (h : Few l) : Mid l := fun x hx => Nat.le_trans (h x hx) (by omega)
theorem DrawSeqOf_ev (l : List Int) (hl : l.length ≤ 9223372036854775807) (hw : ∀ x ∈ l, (Lit.int .u8 x).wf = true) : ∃ (m : Int) (a b : List S27), Ev (fun k => spec_DrawSeqOf.f k l) (m, a, b) ∧ a.length ≤ 7 ∧ b.length ≤ 7 ∧ Few a ∧ Few b := by
  have hb := open_bytes hw
  have ho : Ev (fun _ => spec_l14Open.f l) (l.take 2000, (0 : Int)) := Ev.one (fun _ => l14Open_is l hl)
  obtain ⟨m, hm, _⟩ := num_ev _ hb 0 [0, 1, 2, 3, 4, 0, 1, 2, 3, 4, 0, 1, 2, 3, 4, (-1), 5] (by simp) (by simp) (by omega) (by omega)
  obtain ⟨a, p, h1, h2, h3, h4, h5⟩ := l3Bent_ev _ hb (0 + 1) (by omega) (by omega)
  obtain ⟨b, q, g1, g2, g3, _, _⟩ := l3Bent_ev _ hb p h4 (by omega)
  refine ⟨m, a, b, ?_, h2, g2, h3, g3⟩
  unfold spec_DrawSeqOf.f
  refine Ev.bind ho ?_
  have hd : Ev (fun k => spec_l4Draw.f k (l.take 2000) 0) (m, 0 + 1) := by
    unfold spec_l4Draw.f
    exact Ev.bindS hm rfl
  exact Ev.bind hd (Ev.bind h1 (Ev.bindS g1 rfl))
theorem DrawOrOf_ev (l : List Int) (hl : l.length ≤ 9223372036854775807) (hw : ∀ x ∈ l, (Lit.int .u8 x).wf = true) : ∃ (a b : List S27), Ev (fun k => spec_DrawOrOf.f k l) (a, b) ∧ a.length ≤ 7 ∧ b.length ≤ 7 ∧ Few a ∧ Few b := by
  obtain ⟨m, a, b, h, h1, h2, h3, h4⟩ := DrawSeqOf_ev l hl hw
  refine ⟨a, b, ?_, h1, h2, h3, h4⟩
  unfold spec_DrawOrOf.f
  exact Ev.bindS h rfl
theorem DrawOccsOk_ev (l : List Int) (hl : l.length ≤ 9223372036854775807) (hw : ∀ x ∈ l, (Lit.int .u8 x).wf = true) : ∃ (a : List S27), Ev (fun k => spec_DrawOccsOk.f k l) a ∧ a.length ≤ 7 ∧ Few a := by
  have hb := open_bytes hw
  have ho : Ev (fun _ => spec_l14Open.f l) (l.take 2000, (0 : Int)) := Ev.one (fun _ => l14Open_is l hl)
  obtain ⟨a, p, h1, h2, h3, _, _⟩ := l3Bent_ev _ hb 0 (by omega) (by omega)
  refine ⟨a, ?_, h2, h3⟩
  unfold spec_DrawOccsOk.f
  exact Ev.bind ho (Ev.bindS h1 rfl)
theorem DrawPlusOf_ev (l : List Int) (hl : l.length ≤ 9223372036854775807) (hw : ∀ x ∈ l, (Lit.int .u8 x).wf = true) : ∃ (a : List S27) (n till : Int), Ev (fun k => spec_DrawPlusOf.f k l) (a, n, till) ∧ a.length ≤ 7 ∧ Few a ∧ (0 ≤ n ∧ n ≤ 21) ∧ (-1 ≤ till ∧ till ≤ 2000) := by
  have hb := open_bytes hw
  have ho : Ev (fun _ => spec_l14Open.f l) (l.take 2000, (0 : Int)) := Ev.one (fun _ => l14Open_is l hl)
  obtain ⟨a, p, h1, h2, h3, h4, h5⟩ := l3Bent_ev _ hb 0 (by omega) (by omega)
  obtain ⟨n, hn, hn2⟩ := num_ev _ hb p [1, 2, 5, 20, 0, 21] (by simp) (by simp) h4 (by omega)
  obtain ⟨t, ht, ht2⟩ := num_ev _ hb (p + 1) [6, 10, 20, 2000, 0, (-1)] (by simp) (by simp) (by omega) (by omega)
  refine ⟨a, n, t, ?_, h2, h3, ?_, ?_⟩
  · unfold spec_DrawPlusOf.f
    exact Ev.bind ho (Ev.bind h1 (Ev.bind hn (Ev.bindS ht rfl)))
  · simp only [List.mem_cons, List.not_mem_nil, or_false] at hn2
    omega
  · simp only [List.mem_cons, List.not_mem_nil, or_false] at ht2
    omega
end Go.Proofs.Ytiplpckgmikmeaa.M
namespace Go.Proofs.Ytiplpckgmikmeaa.M
set_option linter.unusedVariables false
set_option linter.unusedSimpArgs false
open Go.RowKit Go.Proofs.YtiplpckgmikmeaaW.PrintWords Go.Proofs.YtiplpckgmikmeaaW.PrintLast

section
variable (a b : List S27) (ha : a.length ≤ 7) (hb : b.length ≤ 7) (hf : Few a) (hg : Few b) (c : occsOkB a = true) (d : occsOkB b = true)
include ha hb hf hg c d
theorem or_l0 : ∀ e n : Nat, n + e = a.length → Ev (fun k => laws_FnOr.l0 k a b (mergeO a b) (mergeO b a) true (mergeO a a) true (n : Int)) true := by
  obtain ⟨a1, a2, a3⟩ := (occsOkB_iff a).1 c
  obtain ⟨b1, b2, b3⟩ := (occsOkB_iff b).1 d
  have hlen := len_mergeO b a
  have hm : Mid (mergeO a b) := hf.mid.merge hg.mid
  have hasc : AscO (mergeO a b) := asc_mergeO b a a1
  have hok : occsOkB (mergeO a b) = true := (occsOkB_iff _).2 ⟨hasc, fun x hx => ((mem_mergeO x b a).1 hx).elim (a2 x) (b2 x), by omega⟩
  have hba : mergeO b a = mergeO a b := ascO_ext _ _ (asc_mergeO a b b1) hasc (fun x => by rw [mem_mergeO, mem_mergeO]; exact or_comm)
  have haa : mergeO a a = a := ascO_ext _ _ (asc_mergeO a a a1) a1 (fun x => by rw [mem_mergeO, or_self])
  rw [hba, haa]
  intro e
  induction e with
  | zero =>
    intro n h
    refine Ev.step (fun k => by simp only [laws_FnOr.l0]; rw [if_neg (by omega), if_pos trivial, if_pos trivial]) ?_
    refine Ev.bind (impl_OccsSame_ev _ _ (by omega) hm.short hm.short) (Ev.pos (occsEq_self _) ?_)
    refine Ev.bind (impl_OccsSame_ev a a (by omega) hf.short hf.short) (Ev.pos (occsEq_self _) ?_)
    refine Ev.pos (by rw [w_small (by omega) (by omega)]; omega) ?_
    exact Ev.bindS (impl_OccsOk_ev _ (by omega) hm.short) (by rw [hok])
  | succ e ih =>
    intro n h
    have hw : wrap64 ((n : Int) + 1) = ((n + 1 : Nat) : Int) := by rw [w_small (by omega) (by omega)]; omega
    refine Ev.step (fun k => by simp only [laws_FnOr.l0]; rw [if_pos (by omega), if_pos (by omega), hw]) ?_
    have hmem : rd_T27 a (n : Int) ∈ a := by
      show a.getD n z27 ∈ a
      rw [getD_in (by omega)]
      exact List.getElem_mem _
    refine Ev.bind (impl_OccsPut_ev (mergeO a b) (by omega) hm (rd_T27 a (n : Int)) (hf.mid.at_ _)) ?_
    have he : putO (mergeO a b) (rd_T27 a (n : Int)) = mergeO a b := by
      unfold putO
      rw [if_pos ⟨hok, a2 _ hmem⟩]
      exact insO_same hasc ((mem_mergeO _ b a).2 (.inl hmem))
    rw [he]
    exact Ev.pos rfl (ih (n + 1) (by omega))
end
theorem FnOr_pure (l0 : List Int) (h0 : l0.length ≤ maxLen ∧ ∀ y ∈ l0, (Lit.int .u8 y).wf = true) (_ : l0.length * 1 ≤ 140737488351232) : ∃ k, laws_FnOr.f k l0 = some true := by
  refine Ev.rounds (g := fun k => laws_FnOr.f k l0) ?_
  unfold laws_FnOr.f
  by_cases c : (l0.length : Int) > 1048576
  · exact Ev.pos c (Ev.now _)
  · refine Ev.neg c ?_
    obtain ⟨a, b, h1, ha, hb, hf, hg⟩ := DrawOrOf_ev l0 (maxLen_le h0.1) h0.2
    have o1 := impl_OrOf_ev a b (by omega) hf.mid (by omega) hg.mid
    have o2 := spec_OrOf_ev a b (by omega) hf.mid (by omega) hg.mid
    have o3 := impl_OrOf_ev b a (by omega) hg.mid (by omega) hf.mid
    have o4 := impl_OrOf_ev a a (by omega) hf.mid (by omega) hf.mid
    refine Ev.bind h1 (Ev.bind o1 (Ev.bind o2 (Ev.neg (by simp) ?_)))
    by_cases ok : occsOkB a = true ∧ occsOkB b = true
    · have hm : Mid (mergeO a b) := hf.mid.merge hg.mid
      have l1 := len_mergeO b a
      have l2 := len_mergeO a b
      have l3 := len_mergeO a a
      have e1 : orO a b = (mergeO a b, true) := by unfold orO toldO; rw [if_pos ok, if_neg (by omega)]
      have e3 : orO b a = (mergeO b a, true) := by unfold orO toldO; rw [if_pos ⟨ok.2, ok.1⟩, if_neg (by omega)]
      have e4 : orO a a = (mergeO a a, true) := by unfold orO toldO; rw [if_pos ⟨ok.1, ok.1⟩, if_neg (by omega)]
      rw [e1]
      rw [e3] at o3
      rw [e4] at o4
      refine Ev.bind (impl_OccsSame_ev (mergeO a b) (mergeO a b) (by omega) hm.short hm.short) ?_
      rw [occsEq_self]
      refine Ev.step (fun k => by simp only [laws_FnOr.j0, Bool.not_true]; rw [if_neg (by decide), if_pos trivial]) (Ev.bind o3 (Ev.bind o4 ?_))
      exact or_l0 a b ha hb hf hg ok.1 ok.2 a.length 0 (by omega)
    · have e1 : orO a b = ([], false) := by unfold orO; rw [if_neg ok]
      rw [e1]
      refine Ev.bind (impl_OccsSame_ev [] [] (by simp) (fun x hx => by simp at hx) (fun x hx => by simp at hx)) ?_
      rw [occsEq_self]
      exact Ev.last (fun k => by simp only [laws_FnOr.j0, Bool.not_true]; rw [if_neg (by decide), if_neg (by decide)]; rfl)
end Go.Proofs.Ytiplpckgmikmeaa.M
