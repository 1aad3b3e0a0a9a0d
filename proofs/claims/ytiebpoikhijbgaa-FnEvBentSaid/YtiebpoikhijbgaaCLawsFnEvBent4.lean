/- What the claim's law leans on: the program's functions, what they compute, and the law over plain values; no condition is asked. (Part 4 of 4.) -/
import Derived.Test.YtiebpoikhijbgaaCLawsFnEvBent3
import Derived.Laws.BitsAllLaws
import Derived.Laws.BitsLemmas
namespace Go.Proofs.Ytiebpoikhijbgaa.M
open Go.RowKit Go.Proofs.YtiebpoikhijbgaaW.PrintWords Go.Proofs.YtiebpoikhijbgaaW.PrintLast Go.Proofs.YtiebpoikhijbgaaW.PrintMore
attribute [local go_sem] max2_int min2_int max_two min_two max_three min_three max_four min_four
set_option linter.unusedVariables false
set_option linter.unusedSimpArgs false

def laws_markEvS.l0 : Nat → List (S26) → Int → Int → Option (Int × (List (S26)))
 | 0, _, _, _ => none
 | k + 1, x0, x1, x5 => if x5 < (x0.length : Int) then (if 0 ≤ x5 then ((some (x0.set (x5 : Int).toNat (⟨x1, (rd_T26 x0 x5).f1, (rd_T26 x0 x5).f2⟩ : S26) : List (S26))).bind fun y101 => ((some (y101.set (x5 : Int).toNat (⟨(rd_T26 y101 x5).f0, wrap64 (x1 + 1), (rd_T26 y101 x5).f2⟩ : S26) : List (S26))).bind fun y102 => (laws_markEvS.l0 k (y102.set (x5 : Int).toNat (⟨(rd_T26 y102 x5).f0, (rd_T26 y102 x5).f1, wrap64 ((wrap64 (x1 + 1)) + 1)⟩ : S26)) (wrap64 ((wrap64 ((wrap64 (x1 + 1)) + 1)) + 1)) (wrap64 (x5 + 1))))) else (none)) else (some (x1, x0))
def laws_markEvS.f (k : Nat) (l0 : List (S26)) (a1 : Int) : Option (Int × (List (S26))) := laws_markEvS.l0 k l0 a1 0
theorem laws_markEvS.mono_l : ∀ k, (∀ y0 y1 y2, LeO (laws_markEvS.l0 k y0 y1 y2) (laws_markEvS.l0 (k + 1) y0 y1 y2))
 | 0 => fun _ _ _ r h => by simp [laws_markEvS.l0] at h
 | k + 1 => by
  have ih0 := laws_markEvS.mono_l k
  ·intro y0 y1 y2
   unfold laws_markEvS.l0
   repeat' first
   | (with_reducible exact ih0 _ _ _)
   | (with_reducible exact LeO.refl _)
   | (with_reducible exact LeO.none _)
   | (with_reducible refine LeO.ite ?_ ?_)
   | (with_reducible refine LeO.bind ?_ (fun _ => ?_))
   | exact ih0 _ _ _
   | exact LeO.none _
   | refine LeO.ite ?_ ?_
   | refine LeO.bind ?_ (fun _ => ?_)
theorem laws_markEvS.mono : ∀ a0 a1 k, LeO (laws_markEvS.f k a0 a1) (laws_markEvS.f (k + 1) a0 a1) := by
 intro a0 a1 k
 have ih0 := laws_markEvS.mono_l k
 unfold laws_markEvS.f
 repeat' first
   | (with_reducible exact ih0 _ _ _)
   | (with_reducible exact LeO.refl _)
   | (with_reducible exact LeO.none _)
   | (with_reducible refine LeO.ite ?_ ?_)
   | (with_reducible refine LeO.bind ?_ (fun _ => ?_))
   | exact ih0 _ _ _
   | exact LeO.none _
   | refine LeO.ite ?_ ?_
   | refine LeO.bind ?_ (fun _ => ?_)
set_option maxHeartbeats 8000000 in
set_option maxRecDepth 100000 in
theorem laws_markEvS.calls (k : Nat) (P0_ : Nat → Prop) (u9000_ : Value) (l0 : List (S26)) (a1 : Int) (r1 : Int) (r2 : List (S26)) (w0 w : World) (hB : Below w0.heap.size w0 w) (ho0 : Kd.R k26 26 w w0.heap.size P0_ u9000_ l0) (h : laws_markEvS.f k l0 a1 = some (r1, r2)) :
  Calls Try.prog 22 #[u9000_, .int .i64 a1] w fun e w' => e = .returned (.int .i64 r1) ∧ Kd.R k26 26 w' w0.heap.size (fun k_ => (P0_ k_ ∨ w.heap.size ≤ k_)) u9000_ r2 ∧ Below w0.heap.size w0 w' ∧ Kept w w' (fun k_ => P0_ k_) := by
 have HO0 := Aside0.mk (show Kd.R k26 26 w w0.heap.size (fun k_ => (P0_ k_ ∨ w.heap.size ≤ k_)) u9000_ l0 from Kd.R_mono ho0 (fun k_ hk => (.inl hk)))
 have HK := Aside0.mk (Kept.refl w (fun k_ => P0_ k_))
 have HW0 := Aside0.mk hB.size
 have HB := Aside0.mk hB
 clear hB
 have H : (laws_markEvS.l0 k l0 a1 0) = some (r1, r2) := h
 clear h
 have H' := Aside0.mk H
 clear H
 go_enter Try.func22, Try.ntmps22
 go_wp2
 go_loopg [1, 5] k (fun kq v1 v5 w' => ∃ (x0_1 : List (S26)) (x1_1 : Int) (x5_1 : Int), v1 = .int .i64 x1_1 ∧ v5 = .int .i64 x5_1 ∧ Aside0 (laws_markEvS.l0 kq x0_1 x1_1 x5_1 = some (r1, r2)) ∧ Aside0 (kq ≤ k) ∧ Aside0 (Kd.R k26 26 w' w0.heap.size (fun k_ => (P0_ k_ ∨ w.heap.size ≤ k_)) u9000_ x0_1) ∧ Aside0 (Kept w w' (fun k_ => P0_ k_)) ∧ Aside0 (Below w0.heap.size w0 w'))
 case atStart => exact ⟨(l0), (a1), (0), (by first | rfl | (simp;done) | (simp [*];done)), (by first | rfl | (simp;done) | (simp [*];done)), H', ⟨Nat.le_refl _⟩, ⟨by (with_reducible repeat (first | apply Kd.R_alloc | apply Kd.R_drewN | apply Kd.R_drew));exact HO0.out⟩, ⟨by repeat (first | (with_reducible first | exact HK.out | apply Kept.alloc | apply Kept.drewN | apply Kept.drew) | exact HK.out)⟩, ⟨by repeat (first | (with_reducible first | exact HB.out | apply below_alloc | apply pw_below_drewN | apply below_drew1) | exact HB.out)⟩⟩
 case round =>
  clear H'
  try clear c2
  try clear p2
  obtain ⟨x0_1, x1_1, x5_1, rfl, rfl, HA, HK1, HO_0, HK, HB⟩ := hrel
  cases gk with
  | zero => exact absurd HA.out (by simp [laws_markEvS.l0])
  | succ k1 =>
   have H := HA.out
   clear HA
   simp only [laws_markEvS.l0] at H
   by_cases c3 : x5_1 < (x0_1.length : Int)
   ·rw [if_pos c3] at H
    have c3b0 : decide (x5_1 < (x0_1.length : Int)) = true := decide_eq_true c3
    clear c3
    by_cases c4 : 0 ≤ x5_1
    ·rw [if_pos c4] at H
     have c4b0 : decide (0 ≤ x5_1) = true := decide_eq_true c4
     clear c4
     obtain ⟨y101, hy101⟩ : ∃ y_ : List (S26), y_ = (x0_1.set (x5_1 : Int).toNat (⟨x1_1, (rd_T26 x0_1 x5_1).f1, (rd_T26 x0_1 x5_1).f2⟩ : S26)) := ⟨_, rfl⟩
     replace H : ((some (y101.set (x5_1 : Int).toNat (⟨(rd_T26 y101 x5_1).f0, wrap64 (x1_1 + 1), (rd_T26 y101 x5_1).f2⟩ : S26) : List (S26))).bind fun y102 => (laws_markEvS.l0 k1 (y102.set (x5_1 : Int).toNat (⟨(rd_T26 y102 x5_1).f0, (rd_T26 y102 x5_1).f1, wrap64 ((wrap64 (x1_1 + 1)) + 1)⟩ : S26)) (wrap64 ((wrap64 ((wrap64 (x1_1 + 1)) + 1)) + 1)) (wrap64 (x5_1 + 1)))) = some (r1, r2) := by first | (rw [hy101];with_reducible exact H) | (have H2_ := (Option.bind_some _ _).symm.trans H;rw [hy101];with_reducible exact H2_) | (have H2_ := (Option.bind_some _ _).symm.trans H;with_reducible exact H2_) | with_reducible exact H | (rw [hy101];exact H) | exact H
     have Ny101 := Aside0.mk hy101
     clear hy101
     obtain ⟨y102, hy102⟩ : ∃ y_ : List (S26), y_ = (y101.set (x5_1 : Int).toNat (⟨(rd_T26 y101 x5_1).f0, wrap64 (x1_1 + 1), (rd_T26 y101 x5_1).f2⟩ : S26)) := ⟨_, rfl⟩
     replace H : (laws_markEvS.l0 k1 (y102.set (x5_1 : Int).toNat (⟨(rd_T26 y102 x5_1).f0, (rd_T26 y102 x5_1).f1, wrap64 ((wrap64 (x1_1 + 1)) + 1)⟩ : S26)) (wrap64 ((wrap64 ((wrap64 (x1_1 + 1)) + 1)) + 1)) (wrap64 (x5_1 + 1))) = some (r1, r2) := by first | (rw [hy102];with_reducible exact H) | (have H2_ := (Option.bind_some _ _).symm.trans H;rw [hy102];with_reducible exact H2_) | (have H2_ := (Option.bind_some _ _).symm.trans H;with_reducible exact H2_) | with_reducible exact H | (rw [hy102];exact H) | exact H
     have Ny102 := Aside0.mk hy102
     clear hy102
     obtain ⟨y103, hy103⟩ : ∃ y_ : List (S26), y_ = (y102.set (x5_1 : Int).toNat (⟨(rd_T26 y102 x5_1).f0, (rd_T26 y102 x5_1).f1, wrap64 ((wrap64 (x1_1 + 1)) + 1)⟩ : S26)) := ⟨_, rfl⟩
     replace H : (laws_markEvS.l0 k1 y103 (wrap64 ((wrap64 ((wrap64 (x1_1 + 1)) + 1)) + 1)) (wrap64 (x5_1 + 1))) = some (r1, r2) := by first | (rw [hy103];with_reducible exact H) | (have H2_ := (Option.bind_some _ _).symm.trans H;rw [hy103];with_reducible exact H2_) | (have H2_ := (Option.bind_some _ _).symm.trans H;with_reducible exact H2_) | with_reducible exact H | (rw [hy103];exact H) | exact H
     have Ny103 := Aside0.mk hy103
     clear hy103
     have H' := Aside0.mk H
     clear H
     obtain ⟨Ao8, co8, eo8⟩ := Kd.R_slice HO_0.out
     subst eo8
     have p5 : 0 ≤ (x5_1 : Int) := of_decide_eq_true (by first | (with_reducible assumption) | assumption)
     have q5 : (x5_1 : Int) < ((x0_1.length : Int) : Int) := of_decide_eq_true (by first | (with_reducible assumption) | assumption)
     obtain ⟨go5, co5, eo5, gb5, gl5, cl5, HG5⟩ := Kd.R_form HO_0.out (by omega)
     (first | cases eo5 | (injection eo5 with ea_ en_ ec_;(first | subst ea_ | (injection ea_ with ea_;subst ea_));subst ec_;clear en_))
     have GB5 := Aside0.mk gb5
     have GG5 := Aside0.mk HG5
     clear gb5 gl5 HG5
     have HMgo5 := Aside0.mk (show (P0_ go5 ∨ w.heap.size ≤ go5) from (HO_0.out.1 _ rfl))
     obtain ⟨ce5, hcl5, hM5, hcc5, hfr5⟩ := Kd.R_elem HO_0.out z26 (x5_1 : Int) p5 q5
     obtain rfl := k26_openM hM5
     have hx5_0 : wr.cell? ⟨go5, (x5_1 : Int).toNat * 3, none⟩ = some (.int .i64 ((rd_T26 x0_1 x5_1).f0)) := hcc5 0 _ rfl
     have hx5_1 : wr.cell? ⟨go5, (x5_1 : Int).toNat * 3 + 1, none⟩ = some (.int .i64 ((rd_T26 x0_1 x5_1).f1)) := hcc5 1 _ rfl
     have hx5_2 : wr.cell? ⟨go5, (x5_1 : Int).toNat * 3 + 2, none⟩ = some (.int .i64 ((rd_T26 x0_1 x5_1).f2)) := hcc5 2 _ rfl
     have hf5_0 : wr.frozen? ⟨go5, (x5_1 : Int).toNat * 3, none⟩ = false := hfr5 0
     have hf5_1 : wr.frozen? ⟨go5, (x5_1 : Int).toNat * 3 + 1, none⟩ = false := hfr5 1
     have hf5_2 : wr.frozen? ⟨go5, (x5_1 : Int).toNat * 3 + 2, none⟩ = false := hfr5 2
     clear hcl5 hcc5 hfr5 hM5
     replace p5 := eq_true p5
     replace q5 := eq_true q5
     have HX9 := Aside0.mk (show Kd.R k26 26 wr w0.heap.size (fun k_ => (P0_ k_ ∨ w.heap.size ≤ k_)) (.slice (some ⟨go5, 0, none⟩) x0_1.length co8) x0_1 from (by (with_reducible repeat (first | apply Kd.R_alloc | apply Kd.R_drewN | apply Kd.R_drew));exact HO_0.out))
     obtain ⟨ce9, hcl9, hM9, hcc9, hfr9⟩ := Kd.R_elem HX9.out z26 (x5_1 : Int) (of_decide_eq_true (by first | (with_reducible assumption) | assumption)) (by have h_ : (x5_1 : Int) < ((x0_1.length : Int) : Int) := of_decide_eq_true (by first | (with_reducible assumption) | assumption);first | exact h_ | (have e_ := (Kd.R_reads' HO_0.out).1;omega) | simpa using h_)
     obtain rfl := k26_openM hM9
     have HP9 := Kd.R_seg HX9.out (x5_1 : Int) (of_decide_eq_true (by first | (with_reducible assumption) | assumption)) (by have h_ : (x5_1 : Int) < ((x0_1.length : Int) : Int) := of_decide_eq_true (by first | (with_reducible assumption) | assumption);first | exact h_ | (have e_ := (Kd.R_reads' HO_0.out).1;omega) | simpa using h_) (seg := [.int .i64 x1_1]) (j := 0) hcl9 hcc9 (show 1 ≤ 3 from by decide) (x' := (⟨x1_1, (rd_T26 x0_1 x5_1).f1, (rd_T26 x0_1 x5_1).f2⟩ : S26)) (k26_mkM _ _ _ (⟨x1_1, (rd_T26 x0_1 x5_1).f1, (rd_T26 x0_1 x5_1).f2⟩ : S26) ) (fun _ hk => hk)
     have hx9_0 := hcc9 0 _ rfl
     (try simp only [show (k26).sz = 3 from rfl, Nat.mul_one, Nat.add_zero] at hx9_0)
     have hf9_0 := hfr9 0
     (try simp only [show (k26).sz = 3 from rfl, Nat.mul_one, Nat.add_zero] at hf9_0)
     clear hcl9 hcc9 hfr9 hM9
     go_wp2_with (first | ((with_reducible refine gate_store (t := 3) (p := 16) rfl ?_);refine store_event (t := 3) (p := 16) (v := ?vo_w10) (w1 := (wr.setCell ⟨go5, (x5_1 : Int).toNat * 3, none⟩ (.int .i64 x1_1))) ?hg ?ho ?hn ?hr ?_;(case ho => rfl);(case hg => rfl);(case hn => rfl);(case hr => first | (go_simp;done) | (go_simp;rfl));intro w10 hw;have hg : wr.grownBy w10 (some go5) := (by rw [hw];exact HP9.2);have hp_ : Kd.R k26 26 w10 w0.heap.size (fun k_ => (P0_ k_ ∨ w.heap.size ≤ k_)) (.slice (some ⟨go5, 0, none⟩) x0_1.length co8) y101 := (by rw [hw, Ny101.out];exact HP9.1);clear HP9;have n0_ := Aside0.mk (hp_);have n1_ := Aside0.mk ((by rw [hw];exact below_set (HB.out) GB5.out : Below w0.heap.size w0 w10));have n2_ := Aside0.mk (Kept.of_grown (S := (fun k_ => P0_ k_)) hg (by repeat (first | (with_reducible first | exact HK.out | apply Kept.alloc | apply Kept.drewN | apply Kept.drew) | exact HK.out)) (fun k_ e_ => (HO_0.out.1 k_ e_)));clear HO_0;clear HB;clear HK;have HO_0 := n0_;have HB := n1_;have HK := n2_;clear n0_ n1_ n2_;clear hg hw hp_;have p6 : 0 ≤ (x5_1 : Int) := of_decide_eq_true (by first | (with_reducible assumption) | assumption);have q6 : (x5_1 : Int) < ((x0_1.length : Int) : Int) := of_decide_eq_true (by first | (with_reducible assumption) | assumption);obtain ⟨ce6, hcl6, hM6, hcc6, hfr6⟩ := Kd.R_elem HO_0.out z26 (x5_1 : Int) p6 q6;obtain rfl := k26_openM hM6;have hx6_0 : w10.cell? ⟨go5, (x5_1 : Int).toNat * 3, none⟩ = some (.int .i64 ((rd_T26 y101 x5_1).f0)) := hcc6 0 _ rfl;have hx6_1 : w10.cell? ⟨go5, (x5_1 : Int).toNat * 3 + 1, none⟩ = some (.int .i64 ((rd_T26 y101 x5_1).f1)) := hcc6 1 _ rfl;have hx6_2 : w10.cell? ⟨go5, (x5_1 : Int).toNat * 3 + 2, none⟩ = some (.int .i64 ((rd_T26 y101 x5_1).f2)) := hcc6 2 _ rfl;have hf6_0 : w10.frozen? ⟨go5, (x5_1 : Int).toNat * 3, none⟩ = false := hfr6 0;have hf6_1 : w10.frozen? ⟨go5, (x5_1 : Int).toNat * 3 + 1, none⟩ = false := hfr6 1;have hf6_2 : w10.frozen? ⟨go5, (x5_1 : Int).toNat * 3 + 2, none⟩ = false := hfr6 2;clear hcl6 hcc6 hfr6 hM6;replace p6 := eq_true p6;replace q6 := eq_true q6;have HX11 := Aside0.mk (show Kd.R k26 26 w10 w0.heap.size (fun k_ => (P0_ k_ ∨ w.heap.size ≤ k_)) (.slice (some ⟨go5, 0, none⟩) x0_1.length co8) y101 from (by (with_reducible repeat (first | apply Kd.R_alloc | apply Kd.R_drewN | apply Kd.R_drew));exact HO_0.out));obtain ⟨ce11, hcl11, hM11, hcc11, hfr11⟩ := Kd.R_elem HX11.out z26 (x5_1 : Int) (of_decide_eq_true (by first | (with_reducible assumption) | assumption)) (by have h_ : (x5_1 : Int) < ((x0_1.length : Int) : Int) := of_decide_eq_true (by first | (with_reducible assumption) | assumption);first | exact h_ | (have e_ := (Kd.R_reads' HO_0.out).1;omega) | simpa using h_);obtain rfl := k26_openM hM11;have HP11 := Kd.R_seg HX11.out (x5_1 : Int) (of_decide_eq_true (by first | (with_reducible assumption) | assumption)) (by have h_ : (x5_1 : Int) < ((x0_1.length : Int) : Int) := of_decide_eq_true (by first | (with_reducible assumption) | assumption);first | exact h_ | (have e_ := (Kd.R_reads' HO_0.out).1;omega) | simpa using h_) (seg := [.int .i64 (wrap64 (x1_1 + 1))]) (j := 1) hcl11 hcc11 (show 2 ≤ 3 from by decide) (x' := (⟨(rd_T26 y101 x5_1).f0, wrap64 (x1_1 + 1), (rd_T26 y101 x5_1).f2⟩ : S26)) (k26_mkM _ _ _ (⟨(rd_T26 y101 x5_1).f0, wrap64 (x1_1 + 1), (rd_T26 y101 x5_1).f2⟩ : S26) ) (fun _ hk => hk);have hx11_1 := hcc11 1 _ rfl;(try simp only [show (k26).sz = 3 from rfl, Nat.mul_one, Nat.add_zero] at hx11_1);have hf11_1 := hfr11 1;(try simp only [show (k26).sz = 3 from rfl, Nat.mul_one, Nat.add_zero] at hf11_1);clear hcl11 hcc11 hfr11 hM11) | ((with_reducible refine gate_store (t := 3) (p := 23) rfl ?_);refine store_event (t := 3) (p := 23) (v := ?vo_w12) (w1 := (w10.setCell ⟨go5, (x5_1 : Int).toNat * 3 + 1, none⟩ (.int .i64 (wrap64 (x1_1 + 1))))) ?hg ?ho ?hn ?hr ?_;(case ho => rfl);(case hg => rfl);(case hn => rfl);(case hr => first | (go_simp;done) | (go_simp;rfl));intro w12 hw;have hg : w10.grownBy w12 (some go5) := (by rw [hw];exact HP11.2);have hp_ : Kd.R k26 26 w12 w0.heap.size (fun k_ => (P0_ k_ ∨ w.heap.size ≤ k_)) (.slice (some ⟨go5, 0, none⟩) x0_1.length co8) y102 := (by rw [hw, Ny102.out];exact HP11.1);clear HP11;have n0_ := Aside0.mk (hp_);have n1_ := Aside0.mk ((by rw [hw];exact below_set (HB.out) GB5.out : Below w0.heap.size w0 w12));have n2_ := Aside0.mk (Kept.of_grown (S := (fun k_ => P0_ k_)) hg (by repeat (first | (with_reducible first | exact HK.out | apply Kept.alloc | apply Kept.drewN | apply Kept.drew) | exact HK.out)) (fun k_ e_ => (HO_0.out.1 k_ e_)));clear HO_0;clear HB;clear HK;have HO_0 := n0_;have HB := n1_;have HK := n2_;clear n0_ n1_ n2_;clear hg hw hp_;have p7 : 0 ≤ (x5_1 : Int) := of_decide_eq_true (by first | (with_reducible assumption) | assumption);have q7 : (x5_1 : Int) < ((x0_1.length : Int) : Int) := of_decide_eq_true (by first | (with_reducible assumption) | assumption);obtain ⟨ce7, hcl7, hM7, hcc7, hfr7⟩ := Kd.R_elem HO_0.out z26 (x5_1 : Int) p7 q7;obtain rfl := k26_openM hM7;have hx7_0 : w12.cell? ⟨go5, (x5_1 : Int).toNat * 3, none⟩ = some (.int .i64 ((rd_T26 y102 x5_1).f0)) := hcc7 0 _ rfl;have hx7_1 : w12.cell? ⟨go5, (x5_1 : Int).toNat * 3 + 1, none⟩ = some (.int .i64 ((rd_T26 y102 x5_1).f1)) := hcc7 1 _ rfl;have hx7_2 : w12.cell? ⟨go5, (x5_1 : Int).toNat * 3 + 2, none⟩ = some (.int .i64 ((rd_T26 y102 x5_1).f2)) := hcc7 2 _ rfl;have hf7_0 : w12.frozen? ⟨go5, (x5_1 : Int).toNat * 3, none⟩ = false := hfr7 0;have hf7_1 : w12.frozen? ⟨go5, (x5_1 : Int).toNat * 3 + 1, none⟩ = false := hfr7 1;have hf7_2 : w12.frozen? ⟨go5, (x5_1 : Int).toNat * 3 + 2, none⟩ = false := hfr7 2;clear hcl7 hcc7 hfr7 hM7;replace p7 := eq_true p7;replace q7 := eq_true q7;have HX13 := Aside0.mk (show Kd.R k26 26 w12 w0.heap.size (fun k_ => (P0_ k_ ∨ w.heap.size ≤ k_)) (.slice (some ⟨go5, 0, none⟩) x0_1.length co8) y102 from (by (with_reducible repeat (first | apply Kd.R_alloc | apply Kd.R_drewN | apply Kd.R_drew));exact HO_0.out));obtain ⟨ce13, hcl13, hM13, hcc13, hfr13⟩ := Kd.R_elem HX13.out z26 (x5_1 : Int) (of_decide_eq_true (by first | (with_reducible assumption) | assumption)) (by have h_ : (x5_1 : Int) < ((x0_1.length : Int) : Int) := of_decide_eq_true (by first | (with_reducible assumption) | assumption);first | exact h_ | (have e_ := (Kd.R_reads' HO_0.out).1;omega) | simpa using h_);obtain rfl := k26_openM hM13;have HP13 := Kd.R_seg HX13.out (x5_1 : Int) (of_decide_eq_true (by first | (with_reducible assumption) | assumption)) (by have h_ : (x5_1 : Int) < ((x0_1.length : Int) : Int) := of_decide_eq_true (by first | (with_reducible assumption) | assumption);first | exact h_ | (have e_ := (Kd.R_reads' HO_0.out).1;omega) | simpa using h_) (seg := [.int .i64 (wrap64 ((wrap64 (x1_1 + 1)) + 1))]) (j := 2) hcl13 hcc13 (show 3 ≤ 3 from by decide) (x' := (⟨(rd_T26 y102 x5_1).f0, (rd_T26 y102 x5_1).f1, wrap64 ((wrap64 (x1_1 + 1)) + 1)⟩ : S26)) (k26_mkM _ _ _ (⟨(rd_T26 y102 x5_1).f0, (rd_T26 y102 x5_1).f1, wrap64 ((wrap64 (x1_1 + 1)) + 1)⟩ : S26) ) (fun _ hk => hk);have hx13_2 := hcc13 2 _ rfl;(try simp only [show (k26).sz = 3 from rfl, Nat.mul_one, Nat.add_zero] at hx13_2);have hf13_2 := hfr13 2;(try simp only [show (k26).sz = 3 from rfl, Nat.mul_one, Nat.add_zero] at hf13_2);clear hcl13 hcc13 hfr13 hM13) | ((with_reducible refine gate_store (t := 3) (p := 30) rfl ?_);refine store_event (t := 3) (p := 30) (v := ?vo_w14) (w1 := (w12.setCell ⟨go5, (x5_1 : Int).toNat * 3 + 2, none⟩ (.int .i64 (wrap64 ((wrap64 (x1_1 + 1)) + 1))))) ?hg ?ho ?hn ?hr ?_;(case ho => rfl);(case hg => rfl);(case hn => rfl);(case hr => first | (go_simp;done) | (go_simp;rfl));intro w14 hw;have hg : w12.grownBy w14 (some go5) := (by rw [hw];exact HP13.2);have hp_ : Kd.R k26 26 w14 w0.heap.size (fun k_ => (P0_ k_ ∨ w.heap.size ≤ k_)) (.slice (some ⟨go5, 0, none⟩) x0_1.length co8) y103 := (by rw [hw, Ny103.out];exact HP13.1);clear HP13;have n0_ := Aside0.mk (hp_);have n1_ := Aside0.mk ((by rw [hw];exact below_set (HB.out) GB5.out : Below w0.heap.size w0 w14));have n2_ := Aside0.mk (Kept.of_grown (S := (fun k_ => P0_ k_)) hg (by repeat (first | (with_reducible first | exact HK.out | apply Kept.alloc | apply Kept.drewN | apply Kept.drew) | exact HK.out)) (fun k_ e_ => (HO_0.out.1 k_ e_)));clear HO_0;clear HB;clear HK;have HO_0 := n0_;have HB := n1_;have HK := n2_;clear n0_ n1_ n2_;clear hg hw hp_))
     go_roundg k1
     case measure => have := HK1.out;omega
     case rel => exact ⟨(y103), (wrap64 ((wrap64 ((wrap64 (x1_1 + 1)) + 1)) + 1)), (wrap64 (x5_1 + 1)), (by first | rfl | (simp;done) | (simp [*];done)), (by first | rfl | (simp;done) | (simp [*];done)), H', ⟨by have := HK1.out;omega⟩, ⟨by (with_reducible repeat (first | apply Kd.R_alloc | apply Kd.R_drewN | apply Kd.R_drew));exact HO_0.out⟩, ⟨by repeat (first | (with_reducible first | exact HK.out | apply Kept.alloc | apply Kept.drewN | apply Kept.drew) | exact HK.out)⟩, ⟨by repeat (first | (with_reducible first | exact HB.out | apply below_alloc | apply pw_below_drewN | apply below_drew1) | exact HB.out)⟩⟩
    ·rw [if_neg c4] at H
     exact absurd H (by simp)
   ·rw [if_neg c3] at H
    have c3b0 : decide (x5_1 < (x0_1.length : Int)) = false := decide_eq_false c3
    clear c3
    simp only [Option.some.injEq, Prod.mk.injEq] at H
    obtain ⟨rfl, rfl⟩ := H
    obtain ⟨Ao15, co15, eo15⟩ := Kd.R_slice HO_0.out
    subst eo15
    go_wp2
    go_ret
    exact ⟨by first | rfl | (simp [errW_none, errW_some] <;> rfl) | (simp [*, errW_none, errW_some] <;> rfl), by (with_reducible repeat (first | apply Kd.R_alloc | apply Kd.R_drewN | apply Kd.R_drew));exact HO_0.out, by repeat (first | (with_reducible first | exact HB.out | apply below_alloc | apply pw_below_drewN | apply below_drew1) | exact HB.out), by repeat (first | (with_reducible first | exact HK.out | apply Kept.alloc | apply Kept.drewN | apply Kept.drew) | exact HK.out)⟩

end Go.Proofs.Ytiebpoikhijbgaa.M
namespace Go.Proofs.Ytiebpoikhijbgaa.M
open Go.RowKit Go.Proofs.YtiebpoikhijbgaaW.PrintWords Go.Proofs.YtiebpoikhijbgaaW.PrintLast Go.Proofs.YtiebpoikhijbgaaW.PrintMore
attribute [local go_sem] max2_int min2_int max_two min_two max_three min_three max_four min_four
set_option linter.unusedVariables false
set_option linter.unusedSimpArgs false

def laws_heldEvS.l0 : Nat → List (S26) → Int → Int → Option (Int)
 | 0, _, _, _ => none
 | k + 1, x0, x1, x5 => if x5 < (x0.length : Int) then (if 0 ≤ x5 then (if ((rd_T26 x0 x5).f0) = x1 then (if ((rd_T26 x0 x5).f1) = (wrap64 (x1 + 1)) then (if ((rd_T26 x0 x5).f2) = (wrap64 ((wrap64 (x1 + 1)) + 1)) then (laws_heldEvS.l0 k x0 (wrap64 ((wrap64 ((wrap64 (x1 + 1)) + 1)) + 1)) (wrap64 (x5 + 1))) else (some (-1))) else (some (-1))) else (some (-1))) else (none)) else (some x1)
def laws_heldEvS.f (k : Nat) (l0 : List (S26)) (a1 : Int) : Option (Int) := laws_heldEvS.l0 k l0 a1 0
theorem laws_heldEvS.mono_l : ∀ k, (∀ y0 y1 y2, LeO (laws_heldEvS.l0 k y0 y1 y2) (laws_heldEvS.l0 (k + 1) y0 y1 y2))
 | 0 => fun _ _ _ r h => by simp [laws_heldEvS.l0] at h
 | k + 1 => by
  have ih0 := laws_heldEvS.mono_l k
  ·intro y0 y1 y2
   unfold laws_heldEvS.l0
   repeat' first
   | (with_reducible exact ih0 _ _ _)
   | (with_reducible exact LeO.refl _)
   | (with_reducible exact LeO.none _)
   | (with_reducible refine LeO.ite ?_ ?_)
   | (with_reducible refine LeO.bind ?_ (fun _ => ?_))
   | exact ih0 _ _ _
   | exact LeO.none _
   | refine LeO.ite ?_ ?_
   | refine LeO.bind ?_ (fun _ => ?_)
theorem laws_heldEvS.mono : ∀ a0 a1 k, LeO (laws_heldEvS.f k a0 a1) (laws_heldEvS.f (k + 1) a0 a1) := by
 intro a0 a1 k
 have ih0 := laws_heldEvS.mono_l k
 unfold laws_heldEvS.f
 repeat' first
   | (with_reducible exact ih0 _ _ _)
   | (with_reducible exact LeO.refl _)
   | (with_reducible exact LeO.none _)
   | (with_reducible refine LeO.ite ?_ ?_)
   | (with_reducible refine LeO.bind ?_ (fun _ => ?_))
   | exact ih0 _ _ _
   | exact LeO.none _
   | refine LeO.ite ?_ ?_
   | refine LeO.bind ?_ (fun _ => ?_)
set_option maxHeartbeats 8000000 in
set_option maxRecDepth 100000 in
theorem laws_heldEvS.calls (k : Nat) (A0 : Option Addr) (c0 : Nat) (l0 : List (S26)) (a1 : Int) (r : Int) (w : World) (hr0 : Kd.C k26 w A0 l0.length l0) (hc0 : l0.length ≤ c0) (h : laws_heldEvS.f k l0 a1 = some r) :
  Calls Try.prog 23 #[.slice A0 l0.length c0, .int .i64 a1] w fun e w' => e = .returned (.int .i64 r) ∧ Drawn0 w w' := by
 have HR0 := Aside0.mk hr0
 have HC0 := Aside0.mk hc0
 clear hr0 hc0
 have H : (laws_heldEvS.l0 k l0 a1 0) = some r := h
 clear h
 have H' := Aside0.mk H
 clear H
 go_enter Try.func23, Try.ntmps23
 go_wp2
 go_loopg [1, 5] k (fun kq v1 v5 w' => ∃ (x1_1 : Int) (x5_1 : Int), v1 = .int .i64 x1_1 ∧ v5 = .int .i64 x5_1 ∧ Aside0 (laws_heldEvS.l0 kq l0 x1_1 x5_1 = some r) ∧ Aside0 (kq ≤ k) ∧ Drawn0 w w')
 case atStart => exact ⟨(a1), (0), (by first | rfl | (simp;done) | (simp [*];done)), (by first | rfl | (simp;done) | (simp [*];done)), H', ⟨Nat.le_refl _⟩, by repeat (first | exact Drawn0.refl _ | apply Drawn0.step)⟩
 case round =>
  clear H'
  try clear c2
  try clear p2
  obtain ⟨x1_1, x5_1, rfl, rfl, HA, HK1, ⟨m1, rfl⟩⟩ := hrel
  cases gk with
  | zero => exact absurd HA.out (by simp [laws_heldEvS.l0])
  | succ k1 =>
   have H := HA.out
   clear HA
   simp only [laws_heldEvS.l0] at H
   by_cases c3 : x5_1 < (l0.length : Int)
   ·rw [if_pos c3] at H
    have c3b0 : decide (x5_1 < (l0.length : Int)) = true := decide_eq_true c3
    clear c3
    by_cases c4 : 0 ≤ x5_1
    ·rw [if_pos c4] at H
     have c4b0 : decide (0 ≤ x5_1) = true := decide_eq_true c4
     clear c4
     by_cases c5 : ((rd_T26 l0 x5_1).f0) = x1_1
     ·rw [if_pos c5] at H
      have c5b0 : (((rd_T26 l0 x5_1).f0) == x1_1) = true := beq_iff_eq.mpr c5
      have c5b1 : (((rd_T26 l0 x5_1).f0) != x1_1) = false := bne_eq_false_iff_eq.mpr c5
      clear c5
      by_cases c6 : ((rd_T26 l0 x5_1).f1) = (wrap64 (x1_1 + 1))
      ·rw [if_pos c6] at H
       have c6b0 : (((rd_T26 l0 x5_1).f1) == (wrap64 (x1_1 + 1))) = true := beq_iff_eq.mpr c6
       have c6b1 : (((rd_T26 l0 x5_1).f1) != (wrap64 (x1_1 + 1))) = false := bne_eq_false_iff_eq.mpr c6
       clear c6
       by_cases c7 : ((rd_T26 l0 x5_1).f2) = (wrap64 ((wrap64 (x1_1 + 1)) + 1))
       ·rw [if_pos c7] at H
        have c7b0 : (((rd_T26 l0 x5_1).f2) == (wrap64 ((wrap64 (x1_1 + 1)) + 1))) = true := beq_iff_eq.mpr c7
        have c7b1 : (((rd_T26 l0 x5_1).f2) != (wrap64 ((wrap64 (x1_1 + 1)) + 1))) = false := bne_eq_false_iff_eq.mpr c7
        clear c7
        have H' := Aside0.mk H
        clear H
        have p101 : 0 ≤ (x5_1 : Int) := of_decide_eq_true (by first | (with_reducible assumption) | assumption)
        have q101 : x5_1 < (l0.length : Int) := of_decide_eq_true (by first | (with_reducible assumption) | assumption)
        obtain ⟨ad101, e101, hx101_0, hx101_1, hx101_2⟩ := at_T26 HR0.out x5_1 p101 q101
        cases e101
        replace p101 := eq_true p101
        replace q101 := eq_true q101
        have p102 : 0 ≤ (x5_1 : Int) := of_decide_eq_true (by first | (with_reducible assumption) | assumption)
        have q102 : x5_1 < (l0.length : Int) := of_decide_eq_true (by first | (with_reducible assumption) | assumption)
        obtain ⟨ad102, e102, hx102_0, hx102_1, hx102_2⟩ := at_T26 HR0.out x5_1 p102 q102
        obtain rfl : ad101 = ad102 := (by injection e102)
        replace p102 := eq_true p102
        replace q102 := eq_true q102
        have p103 : 0 ≤ (x5_1 : Int) := of_decide_eq_true (by first | (with_reducible assumption) | assumption)
        have q103 : x5_1 < (l0.length : Int) := of_decide_eq_true (by first | (with_reducible assumption) | assumption)
        obtain ⟨ad103, e103, hx103_0, hx103_1, hx103_2⟩ := at_T26 HR0.out x5_1 p103 q103
        obtain rfl : ad101 = ad103 := (by injection e103)
        replace p103 := eq_true p103
        replace q103 := eq_true q103
        go_wp2
        go_roundg k1
        case measure => have := HK1.out;omega
        case rel => exact ⟨(wrap64 ((wrap64 ((wrap64 (x1_1 + 1)) + 1)) + 1)), (wrap64 (x5_1 + 1)), (by first | rfl | (simp;done) | (simp [*];done)), (by first | rfl | (simp;done) | (simp [*];done)), H', ⟨by have := HK1.out;omega⟩, by repeat (first | exact Drawn0.refl _ | apply Drawn0.step)⟩
       ·rw [if_neg c7] at H
        have c7b0 : (((rd_T26 l0 x5_1).f2) == (wrap64 ((wrap64 (x1_1 + 1)) + 1))) = false := beq_eq_false_iff_ne.mpr c7
        have c7b1 : (((rd_T26 l0 x5_1).f2) != (wrap64 ((wrap64 (x1_1 + 1)) + 1))) = true := bne_iff_ne.mpr c7
        obtain rfl := Option.some.inj H
        have p101 : 0 ≤ (x5_1 : Int) := of_decide_eq_true (by first | (with_reducible assumption) | assumption)
        have q101 : x5_1 < (l0.length : Int) := of_decide_eq_true (by first | (with_reducible assumption) | assumption)
        obtain ⟨ad101, e101, hx101_0, hx101_1, hx101_2⟩ := at_T26 HR0.out x5_1 p101 q101
        cases e101
        replace p101 := eq_true p101
        replace q101 := eq_true q101
        have p102 : 0 ≤ (x5_1 : Int) := of_decide_eq_true (by first | (with_reducible assumption) | assumption)
        have q102 : x5_1 < (l0.length : Int) := of_decide_eq_true (by first | (with_reducible assumption) | assumption)
        obtain ⟨ad102, e102, hx102_0, hx102_1, hx102_2⟩ := at_T26 HR0.out x5_1 p102 q102
        obtain rfl : ad101 = ad102 := (by injection e102)
        replace p102 := eq_true p102
        replace q102 := eq_true q102
        have p103 : 0 ≤ (x5_1 : Int) := of_decide_eq_true (by first | (with_reducible assumption) | assumption)
        have q103 : x5_1 < (l0.length : Int) := of_decide_eq_true (by first | (with_reducible assumption) | assumption)
        obtain ⟨ad103, e103, hx103_0, hx103_1, hx103_2⟩ := at_T26 HR0.out x5_1 p103 q103
        obtain rfl : ad101 = ad103 := (by injection e103)
        replace p103 := eq_true p103
        replace q103 := eq_true q103
        go_wp2
        go_ret
        exact ⟨by first | rfl | (simp;done) | (simp [*];done), by repeat (first | exact Drawn0.refl _ | apply Drawn0.step)⟩
      ·rw [if_neg c6] at H
       have c6b0 : (((rd_T26 l0 x5_1).f1) == (wrap64 (x1_1 + 1))) = false := beq_eq_false_iff_ne.mpr c6
       have c6b1 : (((rd_T26 l0 x5_1).f1) != (wrap64 (x1_1 + 1))) = true := bne_iff_ne.mpr c6
       obtain rfl := Option.some.inj H
       have p101 : 0 ≤ (x5_1 : Int) := of_decide_eq_true (by first | (with_reducible assumption) | assumption)
       have q101 : x5_1 < (l0.length : Int) := of_decide_eq_true (by first | (with_reducible assumption) | assumption)
       obtain ⟨ad101, e101, hx101_0, hx101_1, hx101_2⟩ := at_T26 HR0.out x5_1 p101 q101
       cases e101
       replace p101 := eq_true p101
       replace q101 := eq_true q101
       have p102 : 0 ≤ (x5_1 : Int) := of_decide_eq_true (by first | (with_reducible assumption) | assumption)
       have q102 : x5_1 < (l0.length : Int) := of_decide_eq_true (by first | (with_reducible assumption) | assumption)
       obtain ⟨ad102, e102, hx102_0, hx102_1, hx102_2⟩ := at_T26 HR0.out x5_1 p102 q102
       obtain rfl : ad101 = ad102 := (by injection e102)
       replace p102 := eq_true p102
       replace q102 := eq_true q102
       go_wp2
       go_ret
       exact ⟨by first | rfl | (simp;done) | (simp [*];done), by repeat (first | exact Drawn0.refl _ | apply Drawn0.step)⟩
     ·rw [if_neg c5] at H
      have c5b0 : (((rd_T26 l0 x5_1).f0) == x1_1) = false := beq_eq_false_iff_ne.mpr c5
      have c5b1 : (((rd_T26 l0 x5_1).f0) != x1_1) = true := bne_iff_ne.mpr c5
      obtain rfl := Option.some.inj H
      have p101 : 0 ≤ (x5_1 : Int) := of_decide_eq_true (by first | (with_reducible assumption) | assumption)
      have q101 : x5_1 < (l0.length : Int) := of_decide_eq_true (by first | (with_reducible assumption) | assumption)
      obtain ⟨ad101, e101, hx101_0, hx101_1, hx101_2⟩ := at_T26 HR0.out x5_1 p101 q101
      cases e101
      replace p101 := eq_true p101
      replace q101 := eq_true q101
      go_wp2
      go_ret
      exact ⟨by first | rfl | (simp;done) | (simp [*];done), by repeat (first | exact Drawn0.refl _ | apply Drawn0.step)⟩
    ·rw [if_neg c4] at H
     exact absurd H (by simp)
   ·rw [if_neg c3] at H
    have c3b0 : decide (x5_1 < (l0.length : Int)) = false := decide_eq_false c3
    clear c3
    obtain rfl := Option.some.inj H
    go_wp2
    go_ret
    exact ⟨by first | rfl | (simp;done) | (simp [*];done), by repeat (first | exact Drawn0.refl _ | apply Drawn0.step)⟩

end Go.Proofs.Ytiebpoikhijbgaa.M
namespace Go.Proofs.Ytiebpoikhijbgaa.M
open Go.RowKit Go.Proofs.YtiebpoikhijbgaaW.PrintWords Go.Proofs.YtiebpoikhijbgaaW.PrintLast Go.Proofs.YtiebpoikhijbgaaW.PrintMore
attribute [local go_sem] max2_int min2_int max_two min_two max_three min_three max_four min_four
set_option linter.unusedVariables false
set_option linter.unusedSimpArgs false

def spec_EvsTill.l0 : Nat → List (S26) → Int → List (S26) → Int → Option ((List (S26)))
 | 0, _, _, _, _ => none
 | k + 1, x0, x1, x5, x6 => if x6 < (x0.length : Int) then (if 0 ≤ x6 then (if ((rd_T26 x0 x6).f1) ≤ x1 then (if x5.length < 5864062014805 then (spec_EvsTill.l0 k x0 x1 (x5 ++ [(⟨(rd_T26 x0 x6).f0, (rd_T26 x0 x6).f1, (rd_T26 x0 x6).f2⟩ : S26)]) (wrap64 (x6 + 1))) else (none)) else (spec_EvsTill.l0 k x0 x1 x5 (wrap64 (x6 + 1)))) else (none)) else (some x5)
def spec_EvsTill.f (k : Nat) (l0 : List (S26)) (a1 : Int) : Option ((List (S26))) := spec_EvsTill.l0 k l0 a1 (([] : List (S26))) 0
theorem spec_EvsTill.mono_l : ∀ k, (∀ y0 y1 y2 y3, LeO (spec_EvsTill.l0 k y0 y1 y2 y3) (spec_EvsTill.l0 (k + 1) y0 y1 y2 y3))
 | 0 => fun _ _ _ _ r h => by simp [spec_EvsTill.l0] at h
 | k + 1 => by
  have ih0 := spec_EvsTill.mono_l k
  ·intro y0 y1 y2 y3
   unfold spec_EvsTill.l0
   repeat' first
   | (with_reducible exact ih0 _ _ _ _)
   | (with_reducible exact LeO.refl _)
   | (with_reducible exact LeO.none _)
   | (with_reducible refine LeO.ite ?_ ?_)
   | (with_reducible refine LeO.bind ?_ (fun _ => ?_))
   | exact ih0 _ _ _ _
   | exact LeO.none _
   | refine LeO.ite ?_ ?_
   | refine LeO.bind ?_ (fun _ => ?_)
theorem spec_EvsTill.mono : ∀ a0 a1 k, LeO (spec_EvsTill.f k a0 a1) (spec_EvsTill.f (k + 1) a0 a1) := by
 intro a0 a1 k
 have ih0 := spec_EvsTill.mono_l k
 unfold spec_EvsTill.f
 repeat' first
   | (with_reducible exact ih0 _ _ _ _)
   | (with_reducible exact LeO.refl _)
   | (with_reducible exact LeO.none _)
   | (with_reducible refine LeO.ite ?_ ?_)
   | (with_reducible refine LeO.bind ?_ (fun _ => ?_))
   | exact ih0 _ _ _ _
   | exact LeO.none _
   | refine LeO.ite ?_ ?_
   | refine LeO.bind ?_ (fun _ => ?_)
set_option maxHeartbeats 8000000 in
set_option maxRecDepth 100000 in
theorem spec_EvsTill.calls (k : Nat) (A0 : Option Addr) (c0 : Nat) (l0 : List (S26)) (a1 : Int) (r : List (S26)) (w : World) (hr0 : Kd.C k26 w A0 l0.length l0) (hc0 : l0.length ≤ c0) (h : spec_EvsTill.f k l0 a1 = some r) :
  Calls Try.prog 20 #[.slice A0 l0.length c0, .int .i64 a1] w fun e w' => ∃ v0_ : Value, e = .returned (v0_) ∧ Kd.R k26 26 w' w.heap.size (fun _ => True) v0_ r ∧ Below w.heap.size w w' := by
 have hu26 := Try.underlying26
 have HR0 := Aside0.mk hr0
 have HC0 := Aside0.mk hc0
 clear hr0 hc0
 have HB := Aside0.mk (Below.refl w.heap.size w)
 have H : (spec_EvsTill.l0 k l0 a1 (([] : List (S26))) 0) = some r := h
 clear h
 obtain ⟨y101, hy101⟩ : ∃ y_ : List (S26), y_ = (([] : List (S26))) := ⟨_, rfl⟩
 replace H : (spec_EvsTill.l0 k l0 a1 y101 0) = some r := by first | (rw [hy101];with_reducible exact H) | (have H2_ := (Option.bind_some _ _).symm.trans H;rw [hy101];with_reducible exact H2_) | (have H2_ := (Option.bind_some _ _).symm.trans H;with_reducible exact H2_) | with_reducible exact H | (rw [hy101];exact H) | exact H
 have Ny101 := Aside0.mk hy101
 clear hy101
 have H' := Aside0.mk H
 clear H
 go_enter Try.func20, Try.ntmps20
 go_wp2_with (first | ((with_reducible refine gate_dst (N := 7) rfl ?_);refine Kd.R_lit k26 _ 26 ?hg (N := 7) ?hd (xs := ([] : List (S26))) (inner := []) (ok := fun _ => True) (okp := fun _ => True) ?hr ?hp (fun _ hk => hk) trivial (Below.refl _ _) (Nat.le_refl _) (by simp) ?_;(case hd => rfl);(case hg => rfl);(case hr => first | (go_simp;done) | (go_simp;rfl));(case hp => exact (Reps.none _ _));intro v102 w3 ho4 hb hg_ hnew_;clear hg_ hnew_;(first | rw [← Ny101.out] at ho4 | (simp only [Int.reduceToNat] at ho4;rw [← Ny101.out] at ho4));have n0_ := Aside0.mk (Kd.R_lower ho4 (below_size (by exact HB.out)));have n1_ := Aside0.mk (below_step (by exact HB.out) hb);clear HB;have HO103 := n0_;have HB := n1_;clear n0_ n1_;clear hb ho4))
 go_loopg [5, 6] k (fun kq v5 v6 w' => ∃ (x5_1 : List (S26)) (x6_1 : Int), v6 = .int .i64 x6_1 ∧ Aside0 (spec_EvsTill.l0 kq l0 a1 x5_1 x6_1 = some r) ∧ Aside0 (kq ≤ k) ∧ Aside0 (Kd.R k26 26 w' w.heap.size (fun _ => True) v5 x5_1) ∧ Aside0 (Below w.heap.size w w'))
 case atStart => exact ⟨(y101), (0), (by first | rfl | (simp;done) | (simp [*];done)), H', ⟨Nat.le_refl _⟩, ⟨by (with_reducible repeat (first | apply Kd.R_alloc | apply Kd.R_drewN | apply Kd.R_drew));exact HO103.out⟩, ⟨by repeat (first | (with_reducible first | exact HB.out | apply below_alloc | apply pw_below_drewN | apply below_drew1) | exact HB.out)⟩⟩
 case round =>
  clear H'
  try clear c2
  try clear p2
  obtain ⟨x5_1, x6_1, rfl, HA, HK1, HO_5, HB⟩ := hrel
  cases gk with
  | zero => exact absurd HA.out (by simp [spec_EvsTill.l0])
  | succ k1 =>
   have H := HA.out
   clear HA
   simp only [spec_EvsTill.l0] at H
   by_cases c5 : x6_1 < (l0.length : Int)
   ·rw [if_pos c5] at H
    have c5b0 : decide (x6_1 < (l0.length : Int)) = true := decide_eq_true c5
    clear c5
    by_cases c6 : 0 ≤ x6_1
    ·rw [if_pos c6] at H
     have c6b0 : decide (0 ≤ x6_1) = true := decide_eq_true c6
     clear c6
     by_cases c7 : ((rd_T26 l0 x6_1).f1) ≤ a1
     ·rw [if_pos c7] at H
      have c7b0 : decide (((rd_T26 l0 x6_1).f1) ≤ a1) = true := decide_eq_true c7
      clear c7
      by_cases c8 : x5_1.length < 5864062014805
      ·rw [if_pos c8] at H
       have LMc8 := Aside0.mk c8
       clear c8
       obtain ⟨y106, hy106⟩ : ∃ y_ : List (S26), y_ = (x5_1 ++ [(⟨(rd_T26 l0 x6_1).f0, (rd_T26 l0 x6_1).f1, (rd_T26 l0 x6_1).f2⟩ : S26)]) := ⟨_, rfl⟩
       replace H : (spec_EvsTill.l0 k1 l0 a1 y106 (wrap64 (x6_1 + 1))) = some r := by first | (rw [hy106];with_reducible exact H) | (have H2_ := (Option.bind_some _ _).symm.trans H;rw [hy106];with_reducible exact H2_) | (have H2_ := (Option.bind_some _ _).symm.trans H;with_reducible exact H2_) | with_reducible exact H | (rw [hy106];exact H) | exact H
       have Ny106 := Aside0.mk hy106
       clear hy106
       have H' := Aside0.mk H
       clear H
       have p104 : 0 ≤ (x6_1 : Int) := of_decide_eq_true (by first | (with_reducible assumption) | assumption)
       have q104 : x6_1 < (l0.length : Int) := of_decide_eq_true (by first | (with_reducible assumption) | assumption)
       obtain ⟨ad104, e104, hx104_0, hx104_1, hx104_2⟩ := at_T26 HR0.out x6_1 p104 q104
       cases e104
       replace hx104_0 := (HB.out.cell (World.block_lt_of_cell? w _ hx104_0)).trans hx104_0
       replace hx104_1 := (HB.out.cell (World.block_lt_of_cell? w _ hx104_1)).trans hx104_1
       replace hx104_2 := (HB.out.cell (World.block_lt_of_cell? w _ hx104_2)).trans hx104_2
       replace p104 := eq_true p104
       replace q104 := eq_true q104
       have p105 : 0 ≤ (x6_1 : Int) := of_decide_eq_true (by first | (with_reducible assumption) | assumption)
       have q105 : x6_1 < (l0.length : Int) := of_decide_eq_true (by first | (with_reducible assumption) | assumption)
       obtain ⟨ad105, e105, hx105_0, hx105_1, hx105_2⟩ := at_T26 HR0.out x6_1 p105 q105
       obtain rfl : ad104 = ad105 := (by injection e105)
       replace hx105_0 := (HB.out.cell (World.block_lt_of_cell? w _ hx105_0)).trans hx105_0
       replace hx105_1 := (HB.out.cell (World.block_lt_of_cell? w _ hx105_1)).trans hx105_1
       replace hx105_2 := (HB.out.cell (World.block_lt_of_cell? w _ hx105_2)).trans hx105_2
       replace p105 := eq_true p105
       replace q105 := eq_true q105
       go_wp2_with (first | ((with_reducible refine gate_builtin (b := .append) (xs := #[.tmp 21, .tmp 26]) rfl ?_);at_builtin;refine Kd.R_append k26 (w0 := w) w.heap.size rfl (.tmp 21) (.tmp 26) 32 26 (.agg #[(.int .i64 0), (.int .i64 0), (.int .i64 0)]) 24 rfl Try.underlying32 info26 rfl (by decide) (by omega) u5 x5_1 (⟨(rd_T26 l0 x6_1).f0, (rd_T26 l0 x6_1).f1, (rd_T26 l0 x6_1).f2⟩ : S26) [.int .i64 ((rd_T26 l0 x6_1).f0), .int .i64 ((rd_T26 l0 x6_1).f1), .int .i64 ((rd_T26 l0 x6_1).f2)] (fun _ => True) (fun _ => False) rfl rfl ?aP (fun _ hk => hk.elim) ?aF ?aO ?aB ?aS ?aL ?_;(case aP => exact k26_mkM _ _ _ (⟨(rd_T26 l0 x6_1).f0, (rd_T26 l0 x6_1).f1, (rd_T26 l0 x6_1).f2⟩ : S26));(case aB => exact (by exact HB.out));(case aF => exact (fun _ _ => trivial));(case aO => exact (by (with_reducible repeat (first | apply Kd.R_alloc | apply Kd.R_drewN | apply Kd.R_drew));exact HO_5.out));(case aS => exact (below_size (by exact HB.out)));(case aL => have := LMc8.out;omega);intro v107 w9 ho hb hg hat;rw [← Ny106.out] at ho;have n0_ := Aside0.mk (hb);have n1_ := Aside0.mk (ho);clear HB;clear HO_5;have HB := n0_;have HO108 := n1_;clear n0_ n1_;clear ho hb hg hat))
       go_roundg k1
       case measure => have := HK1.out;omega
       case rel => exact ⟨(y106), (wrap64 (x6_1 + 1)), (by first | rfl | (simp;done) | (simp [*];done)), H', ⟨by have := HK1.out;omega⟩, ⟨by (with_reducible repeat (first | apply Kd.R_alloc | apply Kd.R_drewN | apply Kd.R_drew));exact HO108.out⟩, ⟨by repeat (first | (with_reducible first | exact HB.out | apply below_alloc | apply pw_below_drewN | apply below_drew1) | exact HB.out)⟩⟩
      ·rw [if_neg c8] at H
       exact absurd H (by simp)
     ·rw [if_neg c7] at H
      have c7b0 : decide (((rd_T26 l0 x6_1).f1) ≤ a1) = false := decide_eq_false c7
      clear c7
      have H' := Aside0.mk H
      clear H
      have p104 : 0 ≤ (x6_1 : Int) := of_decide_eq_true (by first | (with_reducible assumption) | assumption)
      have q104 : x6_1 < (l0.length : Int) := of_decide_eq_true (by first | (with_reducible assumption) | assumption)
      obtain ⟨ad104, e104, hx104_0, hx104_1, hx104_2⟩ := at_T26 HR0.out x6_1 p104 q104
      cases e104
      replace hx104_0 := (HB.out.cell (World.block_lt_of_cell? w _ hx104_0)).trans hx104_0
      replace hx104_1 := (HB.out.cell (World.block_lt_of_cell? w _ hx104_1)).trans hx104_1
      replace hx104_2 := (HB.out.cell (World.block_lt_of_cell? w _ hx104_2)).trans hx104_2
      replace p104 := eq_true p104
      replace q104 := eq_true q104
      go_wp2
      go_roundg k1
      case measure => have := HK1.out;omega
      case rel => exact ⟨(x5_1), (wrap64 (x6_1 + 1)), (by first | rfl | (simp;done) | (simp [*];done)), H', ⟨by have := HK1.out;omega⟩, ⟨by (with_reducible repeat (first | apply Kd.R_alloc | apply Kd.R_drewN | apply Kd.R_drew));exact HO_5.out⟩, ⟨by repeat (first | (with_reducible first | exact HB.out | apply below_alloc | apply pw_below_drewN | apply below_drew1) | exact HB.out)⟩⟩
    ·rw [if_neg c6] at H
     exact absurd H (by simp)
   ·rw [if_neg c5] at H
    have c5b0 : decide (x6_1 < (l0.length : Int)) = false := decide_eq_false c5
    clear c5
    obtain rfl := Option.some.inj H
    go_wp2
    go_ret
    exact ⟨_, by first | rfl | (simp [errW_none, errW_some] <;> rfl) | (simp [*, errW_none, errW_some] <;> rfl), by (with_reducible repeat (first | apply Kd.R_alloc | apply Kd.R_drewN | apply Kd.R_drew));exact HO_5.out, by repeat (first | (with_reducible first | exact HB.out | apply below_alloc | apply pw_below_drewN | apply below_drew1) | exact HB.out)⟩

end Go.Proofs.Ytiebpoikhijbgaa.M
namespace Go.Proofs.Ytiebpoikhijbgaa.M
open Go.RowKit Go.Proofs.YtiebpoikhijbgaaW.PrintWords Go.Proofs.YtiebpoikhijbgaaW.PrintLast Go.Proofs.YtiebpoikhijbgaaW.PrintMore
attribute [local go_sem] max2_int min2_int max_two min_two max_three min_three max_four min_four
set_option linter.unusedVariables false
set_option linter.unusedSimpArgs false

def impl_EvsTill.l0 : Nat → Int → List (S26) → List (S26) → Int → Int → Option ((List (S26)))
 | 0, _, _, _, _, _ => none
 | k + 1, x1, x5, x8, x9, x10 => if x10 < x9 then (if 0 ≤ x10 then (if x10 < (x8.length : Int) then (if ((rd_T26 x8 x10).f1) ≤ x1 then (if x5.length < 5864062014805 then (impl_EvsTill.l0 k x1 (x5 ++ [(⟨(rd_T26 x8 x10).f0, (rd_T26 x8 x10).f1, (rd_T26 x8 x10).f2⟩ : S26)]) x8 x9 (wrap64 (x10 + 1))) else (none)) else (impl_EvsTill.l0 k x1 x5 x8 x9 (wrap64 (x10 + 1)))) else (none)) else (none)) else (some x5)
def impl_EvsTill.f (k : Nat) (l0 : List (S26)) (a1 : Int) : Option ((List (S26))) := impl_EvsTill.l0 k a1 ([] : List (S26)) l0 (l0.length : Int) 0
theorem impl_EvsTill.mono_l : ∀ k, (∀ y0 y1 y2 y3 y4, LeO (impl_EvsTill.l0 k y0 y1 y2 y3 y4) (impl_EvsTill.l0 (k + 1) y0 y1 y2 y3 y4))
 | 0 => fun _ _ _ _ _ r h => by simp [impl_EvsTill.l0] at h
 | k + 1 => by
  have ih0 := impl_EvsTill.mono_l k
  ·intro y0 y1 y2 y3 y4
   unfold impl_EvsTill.l0
   repeat' first
   | (with_reducible exact ih0 _ _ _ _ _)
   | (with_reducible exact LeO.refl _)
   | (with_reducible exact LeO.none _)
   | (with_reducible refine LeO.ite ?_ ?_)
   | (with_reducible refine LeO.bind ?_ (fun _ => ?_))
   | exact ih0 _ _ _ _ _
   | exact LeO.none _
   | refine LeO.ite ?_ ?_
   | refine LeO.bind ?_ (fun _ => ?_)
theorem impl_EvsTill.mono : ∀ a0 a1 k, LeO (impl_EvsTill.f k a0 a1) (impl_EvsTill.f (k + 1) a0 a1) := by
 intro a0 a1 k
 have ih0 := impl_EvsTill.mono_l k
 unfold impl_EvsTill.f
 repeat' first
   | (with_reducible exact ih0 _ _ _ _ _)
   | (with_reducible exact LeO.refl _)
   | (with_reducible exact LeO.none _)
   | (with_reducible refine LeO.ite ?_ ?_)
   | (with_reducible refine LeO.bind ?_ (fun _ => ?_))
   | exact ih0 _ _ _ _ _
   | exact LeO.none _
   | refine LeO.ite ?_ ?_
   | refine LeO.bind ?_ (fun _ => ?_)
set_option maxHeartbeats 8000000 in
set_option maxRecDepth 100000 in
theorem impl_EvsTill.calls (k : Nat) (A0 : Option Addr) (c0 : Nat) (l0 : List (S26)) (a1 : Int) (r : List (S26)) (w : World) (hr0 : Kd.C k26 w A0 l0.length l0) (hc0 : l0.length ≤ c0) (h : impl_EvsTill.f k l0 a1 = some r) :
  Calls Try.prog 21 #[.slice A0 l0.length c0, .int .i64 a1] w fun e w' => ∃ v0_ : Value, e = .returned (v0_) ∧ Kd.R k26 26 w' w.heap.size (fun _ => True) v0_ r ∧ Below w.heap.size w w' := by
 have hu26 := Try.underlying26
 have HR0 := Aside0.mk hr0
 have HC0 := Aside0.mk hc0
 clear hr0 hc0
 have HB := Aside0.mk (Below.refl w.heap.size w)
 have H : (impl_EvsTill.l0 k a1 ([] : List (S26)) l0 (l0.length : Int) 0) = some r := h
 clear h
 have H' := Aside0.mk H
 clear H
 go_enter Try.func21, Try.ntmps21
 go_wp2
 go_loopg [5, 10] k (fun kq v5 v10 w' => ∃ (x5_1 : List (S26)) (x10_1 : Int), v10 = .int .i64 x10_1 ∧ Aside0 (impl_EvsTill.l0 kq a1 x5_1 l0 (l0.length : Int) x10_1 = some r) ∧ Aside0 (kq ≤ k) ∧ Aside0 (Kd.R k26 26 w' w.heap.size (fun _ => True) v5 x5_1) ∧ Aside0 (Below w.heap.size w w'))
 case atStart => exact ⟨(([] : List (S26))), (0), (by first | rfl | (simp;done) | (simp [*];done)), H', ⟨Nat.le_refl _⟩, ⟨by first | exact Kd.R_nil _ _ _ _ _ | exact Kd.N_nil _ _ _ _ _ | exact Kd.V_nil _ _ _ _ _ | exact Kd.Q_nil _ _ _ _ _ | exact Kd.S_nil _ _ _ _ _⟩, ⟨by repeat (first | (with_reducible first | exact HB.out | apply below_alloc | apply pw_below_drewN | apply below_drew1) | exact HB.out)⟩⟩
 case round =>
  clear H'
  try clear c2
  try clear p2
  obtain ⟨x5_1, x10_1, rfl, HA, HK1, HO_5, HB⟩ := hrel
  cases gk with
  | zero => exact absurd HA.out (by simp [impl_EvsTill.l0])
  | succ k1 =>
   have H := HA.out
   clear HA
   simp only [impl_EvsTill.l0] at H
   by_cases c3 : x10_1 < (l0.length : Int)
   ·rw [if_pos c3] at H
    have c3b0 : decide (x10_1 < (l0.length : Int)) = true := decide_eq_true c3
    clear c3
    by_cases c4 : 0 ≤ x10_1
    ·rw [if_pos c4] at H
     have c4b0 : decide (0 ≤ x10_1) = true := decide_eq_true c4
     clear c4
     by_cases c5 : x10_1 < (l0.length : Int)
     ·rw [if_pos c5] at H
      have c5b0 : decide (x10_1 < (l0.length : Int)) = true := decide_eq_true c5
      clear c5
      by_cases c6 : ((rd_T26 l0 x10_1).f1) ≤ a1
      ·rw [if_pos c6] at H
       have c6b0 : decide (((rd_T26 l0 x10_1).f1) ≤ a1) = true := decide_eq_true c6
       clear c6
       by_cases c7 : x5_1.length < 5864062014805
       ·rw [if_pos c7] at H
        have LMc7 := Aside0.mk c7
        clear c7
        obtain ⟨y103, hy103⟩ : ∃ y_ : List (S26), y_ = (x5_1 ++ [(⟨(rd_T26 l0 x10_1).f0, (rd_T26 l0 x10_1).f1, (rd_T26 l0 x10_1).f2⟩ : S26)]) := ⟨_, rfl⟩
        replace H : (impl_EvsTill.l0 k1 a1 y103 l0 (l0.length : Int) (wrap64 (x10_1 + 1))) = some r := by first | (rw [hy103];with_reducible exact H) | (have H2_ := (Option.bind_some _ _).symm.trans H;rw [hy103];with_reducible exact H2_) | (have H2_ := (Option.bind_some _ _).symm.trans H;with_reducible exact H2_) | with_reducible exact H | (rw [hy103];exact H) | exact H
        have Ny103 := Aside0.mk hy103
        clear hy103
        have H' := Aside0.mk H
        clear H
        have p101 : 0 ≤ (x10_1 : Int) := of_decide_eq_true (by first | (with_reducible assumption) | assumption)
        have q101 : x10_1 < (l0.length : Int) := of_decide_eq_true (by first | (with_reducible assumption) | assumption)
        obtain ⟨ad101, e101, hx101_0, hx101_1, hx101_2⟩ := at_T26 HR0.out x10_1 p101 q101
        cases e101
        replace hx101_0 := (HB.out.cell (World.block_lt_of_cell? w _ hx101_0)).trans hx101_0
        replace hx101_1 := (HB.out.cell (World.block_lt_of_cell? w _ hx101_1)).trans hx101_1
        replace hx101_2 := (HB.out.cell (World.block_lt_of_cell? w _ hx101_2)).trans hx101_2
        replace p101 := eq_true p101
        replace q101 := eq_true q101
        go_wp2_with (first | ((with_reducible refine gate_dst (N := 7) rfl ?_);refine box_event ?hg (N := 7) ?hd (cs := #[.int .i64 0, .int .i64 0, .int .i64 0]) (t := 26) ?hr ?_;(case hd => rfl);(case hg => rfl);(case hr => first | (go_simp;done) | (go_simp;rfl));intro gb102 hg w8 hbox hb;have n0_ := Aside0.mk (Kd.R_below (Kd.R_elderB (by (with_reducible repeat (first | apply Kd.R_alloc | apply Kd.R_drewN | apply Kd.R_drew));exact HO_5.out) gb102 (Nat.le_of_eq hg.symm)) hb);have n1_ := Aside0.mk (below_step (by repeat (first | (with_reducible first | exact HB.out | apply below_alloc | apply pw_below_drewN | apply below_drew1) | exact HB.out)) hb);have n2_ := Aside0.mk (hbox);have n3_ := Aside0.mk ((by rw [hg];exact (below_size (by repeat (first | (with_reducible first | exact HB.out | apply below_alloc | apply pw_below_drewN | apply below_drew1) | exact HB.out))) : w.heap.size ≤ gb102));have n4_ := Aside0.mk ((by rw [hg];exact (below_size (by repeat (first | (with_reducible first | exact HB.out | apply below_alloc | apply pw_below_drewN | apply below_drew1) | exact HB.out))) : w.heap.size ≤ gb102));clear HO_5;clear HB;have HO_5 := n0_;have HB := n1_;have BK102 := n2_;have GW102 := n3_;have GE102 := n4_;clear n0_ n1_ n2_ n3_ n4_;clear hb hbox hg;have hcz9_0 : w8.cell? ⟨gb102, 0, none⟩ = some (.int .i64 0) := (blk_cell BK102.out 0).trans rfl;have hcz9_1 : w8.cell? ⟨gb102, 1, none⟩ = some (.int .i64 0) := (blk_cell BK102.out 1).trans rfl;have hcz9_2 : w8.cell? ⟨gb102, 2, none⟩ = some (.int .i64 0) := (blk_cell BK102.out 2).trans rfl;have hfz9_0 := blk_frozen BK102.out 0;have hfz9_1 := blk_frozen BK102.out 1;have hfz9_2 := blk_frozen BK102.out 2) | ((with_reducible refine gate_builtin (b := .append) (xs := #[.tmp 18, .tmp 20]) rfl ?_);at_builtin;refine Kd.R_append k26 (w0 := w) w.heap.size rfl (.tmp 18) (.tmp 20) 32 26 (.agg #[(.int .i64 0), (.int .i64 0), (.int .i64 0)]) 24 rfl Try.underlying32 info26 rfl (by decide) (by omega) u5 x5_1 (⟨(rd_T26 l0 x10_1).f0, (rd_T26 l0 x10_1).f1, (rd_T26 l0 x10_1).f2⟩ : S26) [.int .i64 ((rd_T26 l0 x10_1).f0), .int .i64 ((rd_T26 l0 x10_1).f1), .int .i64 ((rd_T26 l0 x10_1).f2)] (fun k_ => k_ ≠ gb102) (fun _ => False) rfl (by first | (go_simp;done) | (go_simp;rfl)) ?aP (fun _ hk => hk.elim) ?aF ?aO ?aB ?aS ?aL ?_;(case aP => exact k26_mkM _ _ _ (⟨(rd_T26 l0 x10_1).f0, (rd_T26 l0 x10_1).f1, (rd_T26 l0 x10_1).f2⟩ : S26));(case aB => exact (by repeat (first | (with_reducible first | exact HB.out | apply below_alloc | apply pw_below_drewN | apply below_drew1 | refine below_set ?_ GE102.out) | exact HB.out)));(case aF => exact (fun k_ hk => Kd.freshB (g := gb102) (o := .cells #[.int .i64 ((rd_T26 l0 x10_1).f0), .int .i64 ((rd_T26 l0 x10_1).f1), .int .i64 ((rd_T26 l0 x10_1).f2)] 26 (0, 0)) (by (with_reducible repeat (first | refine blk_drewN ?_ _ | refine blk_drew ?_ | refine blk_alloc ?_ _));refine blk_put (cs := #[.int .i64 ((rd_T26 l0 x10_1).f0), .int .i64 ((rd_T26 l0 x10_1).f1), .int .i64 0]) ?_ 2 _ rfl;(with_reducible repeat (first | refine blk_drewN ?_ _ | refine blk_drew ?_ | refine blk_alloc ?_ _));refine blk_put (cs := #[.int .i64 ((rd_T26 l0 x10_1).f0), .int .i64 0, .int .i64 0]) ?_ 1 _ rfl;(with_reducible repeat (first | refine blk_drewN ?_ _ | refine blk_drew ?_ | refine blk_alloc ?_ _));refine blk_put (cs := #[.int .i64 0, .int .i64 0, .int .i64 0]) ?_ 0 _ rfl;(with_reducible repeat (first | refine blk_drewN ?_ _ | refine blk_drew ?_ | refine blk_alloc ?_ _));exact BK102.out) k_ hk));(case aO => exact (by (with_reducible repeat (first | apply Kd.R_alloc | apply Kd.R_drewN | apply Kd.R_drew));exact Kd.R_mono (Kd.R_far (p := ⟨gb102, 2, none⟩) (Kd.R_far (p := ⟨gb102, 1, none⟩) (Kd.R_far (p := ⟨gb102, 0, none⟩) (Kd.R_mono HO_5.out (fun k_ hk => (⟨hk, hk.2⟩ : _ ∧ k_ ≠ gb102))) (fun _ hk => hk.2) (.int .i64 ((rd_T26 l0 x10_1).f0))) (fun _ hk => hk.2) (.int .i64 ((rd_T26 l0 x10_1).f1))) (fun _ hk => hk.2) (.int .i64 ((rd_T26 l0 x10_1).f2))) (fun _ hk => hk.1.2)));(case aS => exact (below_size (by repeat (first | (with_reducible first | exact HB.out | apply below_alloc | apply pw_below_drewN | apply below_drew1 | refine below_set ?_ GE102.out) | exact HB.out))));(case aL => have := LMc7.out;omega);intro v104 w10 ho hb hg hat;rw [← Ny103.out] at ho;have n0_ := Aside0.mk (blk_grown (g := gb102) (o := .cells #[.int .i64 ((rd_T26 l0 x10_1).f0), .int .i64 ((rd_T26 l0 x10_1).f1), .int .i64 ((rd_T26 l0 x10_1).f2)] 26 (0, 0)) (by (with_reducible repeat (first | refine blk_drewN ?_ _ | refine blk_drew ?_ | refine blk_alloc ?_ _));refine blk_put (cs := #[.int .i64 ((rd_T26 l0 x10_1).f0), .int .i64 ((rd_T26 l0 x10_1).f1), .int .i64 0]) ?_ 2 _ rfl;(with_reducible repeat (first | refine blk_drewN ?_ _ | refine blk_drew ?_ | refine blk_alloc ?_ _));refine blk_put (cs := #[.int .i64 ((rd_T26 l0 x10_1).f0), .int .i64 0, .int .i64 0]) ?_ 1 _ rfl;(with_reducible repeat (first | refine blk_drewN ?_ _ | refine blk_drew ?_ | refine blk_alloc ?_ _));refine blk_put (cs := #[.int .i64 0, .int .i64 0, .int .i64 0]) ?_ 0 _ rfl;(with_reducible repeat (first | refine blk_drewN ?_ _ | refine blk_drew ?_ | refine blk_alloc ?_ _));exact BK102.out) hg (Kd.R_away HO_5.out (fun _ hk => hk.2)));have n1_ := Aside0.mk (hb);have n2_ := Aside0.mk (ho);clear BK102;clear HB;clear HO_5;have BK102 := n0_;have HB := n1_;have HO105 := n2_;clear n0_ n1_ n2_;clear ho hb hg hat))
        go_roundg k1
        case measure => have := HK1.out;omega
        case rel => exact ⟨(y103), (wrap64 (x10_1 + 1)), (by first | rfl | (simp;done) | (simp [*];done)), H', ⟨by have := HK1.out;omega⟩, ⟨by (with_reducible repeat (first | apply Kd.R_alloc | apply Kd.R_drewN | apply Kd.R_drew));exact Kd.R_mono HO105.out (fun _ hk => trivial)⟩, ⟨by repeat (first | (with_reducible first | exact HB.out | apply below_alloc | apply pw_below_drewN | apply below_drew1 | refine below_set ?_ GE102.out) | exact HB.out)⟩⟩
       ·rw [if_neg c7] at H
        exact absurd H (by simp)
      ·rw [if_neg c6] at H
       have c6b0 : decide (((rd_T26 l0 x10_1).f1) ≤ a1) = false := decide_eq_false c6
       clear c6
       have H' := Aside0.mk H
       clear H
       have p101 : 0 ≤ (x10_1 : Int) := of_decide_eq_true (by first | (with_reducible assumption) | assumption)
       have q101 : x10_1 < (l0.length : Int) := of_decide_eq_true (by first | (with_reducible assumption) | assumption)
       obtain ⟨ad101, e101, hx101_0, hx101_1, hx101_2⟩ := at_T26 HR0.out x10_1 p101 q101
       cases e101
       replace hx101_0 := (HB.out.cell (World.block_lt_of_cell? w _ hx101_0)).trans hx101_0
       replace hx101_1 := (HB.out.cell (World.block_lt_of_cell? w _ hx101_1)).trans hx101_1
       replace hx101_2 := (HB.out.cell (World.block_lt_of_cell? w _ hx101_2)).trans hx101_2
       replace p101 := eq_true p101
       replace q101 := eq_true q101
       go_wp2_with (first | ((with_reducible refine gate_dst (N := 7) rfl ?_);refine box_event ?hg (N := 7) ?hd (cs := #[.int .i64 0, .int .i64 0, .int .i64 0]) (t := 26) ?hr ?_;(case hd => rfl);(case hg => rfl);(case hr => first | (go_simp;done) | (go_simp;rfl));intro gb102 hg w11 hbox hb;have n0_ := Aside0.mk (Kd.R_below (Kd.R_elderB (by (with_reducible repeat (first | apply Kd.R_alloc | apply Kd.R_drewN | apply Kd.R_drew));exact HO_5.out) gb102 (Nat.le_of_eq hg.symm)) hb);have n1_ := Aside0.mk (below_step (by repeat (first | (with_reducible first | exact HB.out | apply below_alloc | apply pw_below_drewN | apply below_drew1) | exact HB.out)) hb);have n2_ := Aside0.mk (hbox);have n3_ := Aside0.mk ((by rw [hg];exact (below_size (by repeat (first | (with_reducible first | exact HB.out | apply below_alloc | apply pw_below_drewN | apply below_drew1) | exact HB.out))) : w.heap.size ≤ gb102));have n4_ := Aside0.mk ((by rw [hg];exact (below_size (by repeat (first | (with_reducible first | exact HB.out | apply below_alloc | apply pw_below_drewN | apply below_drew1) | exact HB.out))) : w.heap.size ≤ gb102));clear HO_5;clear HB;have HO_5 := n0_;have HB := n1_;have BK102 := n2_;have GW102 := n3_;have GE102 := n4_;clear n0_ n1_ n2_ n3_ n4_;clear hb hbox hg;have hcz12_0 : w11.cell? ⟨gb102, 0, none⟩ = some (.int .i64 0) := (blk_cell BK102.out 0).trans rfl;have hcz12_1 : w11.cell? ⟨gb102, 1, none⟩ = some (.int .i64 0) := (blk_cell BK102.out 1).trans rfl;have hcz12_2 : w11.cell? ⟨gb102, 2, none⟩ = some (.int .i64 0) := (blk_cell BK102.out 2).trans rfl;have hfz12_0 := blk_frozen BK102.out 0;have hfz12_1 := blk_frozen BK102.out 1;have hfz12_2 := blk_frozen BK102.out 2))
       go_roundg k1
       case measure => have := HK1.out;omega
       case rel => exact ⟨(x5_1), (wrap64 (x10_1 + 1)), (by first | rfl | (simp;done) | (simp [*];done)), H', ⟨by have := HK1.out;omega⟩, ⟨by (with_reducible repeat (first | apply Kd.R_alloc | apply Kd.R_drewN | apply Kd.R_drew));exact Kd.R_mono (Kd.R_far (p := ⟨gb102, 2, none⟩) (Kd.R_far (p := ⟨gb102, 1, none⟩) (Kd.R_far (p := ⟨gb102, 0, none⟩) (Kd.R_mono HO_5.out (fun k_ hk => (⟨hk, hk.2⟩ : _ ∧ k_ ≠ gb102))) (fun _ hk => hk.2) (.int .i64 ((rd_T26 l0 x10_1).f0))) (fun _ hk => hk.2) (.int .i64 ((rd_T26 l0 x10_1).f1))) (fun _ hk => hk.2) (.int .i64 ((rd_T26 l0 x10_1).f2))) (fun _ hk => trivial)⟩, ⟨by repeat (first | (with_reducible first | exact HB.out | apply below_alloc | apply pw_below_drewN | apply below_drew1 | refine below_set ?_ GE102.out) | exact HB.out)⟩⟩
     ·rw [if_neg c5] at H
      exact absurd H (by simp)
    ·rw [if_neg c4] at H
     exact absurd H (by simp)
   ·rw [if_neg c3] at H
    have c3b0 : decide (x10_1 < (l0.length : Int)) = false := decide_eq_false c3
    clear c3
    obtain rfl := Option.some.inj H
    go_wp2
    go_ret
    exact ⟨_, by first | rfl | (simp [errW_none, errW_some] <;> rfl) | (simp [*, errW_none, errW_some] <;> rfl), by (with_reducible repeat (first | apply Kd.R_alloc | apply Kd.R_drewN | apply Kd.R_drew));exact HO_5.out, by repeat (first | (with_reducible first | exact HB.out | apply below_alloc | apply pw_below_drewN | apply below_drew1) | exact HB.out)⟩

end Go.Proofs.Ytiebpoikhijbgaa.M
namespace Go.Proofs.Ytiebpoikhijbgaa.M
open Go.RowKit Go.Proofs.YtiebpoikhijbgaaW.PrintWords Go.Proofs.YtiebpoikhijbgaaW.PrintLast

def cvEv (x : S24) : S26 := ⟨x.f0, x.f1, x.f2⟩

theorem szEvS_ok (l : List S24) (a : Int) (h0 : 0 ≤ a) (h1 : a ≤ 1048576) (hl : l.length ≤ 9223372036854775807) : laws_szEvS.f l a = some (if (l.length : Int) ≤ a then a - l.length else -1) := by
  unfold laws_szEvS.f
  rw [w_small (by omega) (by omega)]
  by_cases h : (l.length : Int) ≤ a
  · rw [if_neg (by omega), if_pos h]
  · rw [if_pos (by omega), if_neg h]

theorem toEvS_l0_ev (l : List S24) (hl : l.length ≤ 9223372036854775807) : ∀ (d n : Nat) (a : List S26), n + d = l.length → a.length = l.length → Ev (fun k => laws_toEvS.l0 k l a (n : Int)) (a.take n ++ (l.drop n).map cvEv) := by
  intro d
  induction d with
  | zero =>
    intro n a hn ha
    rw [List.drop_of_length_le (by omega), List.take_of_length_le (by omega), List.map_nil, List.append_nil]
    exact Ev.last (fun k => by simp only [laws_toEvS.l0]; rw [if_neg (by omega)])
  | succ d ih =>
    intro n a hn ha
    have hlt : n < l.length := by omega
    have hrd : rd_T24 l (n : Int) = l.getD n z24 := rfl
    rw [drop_at l z24 n hlt]
    have next := ih (n + 1) (a.set n (cvEv (l.getD n z24))) (by omega) (by rw [List.length_set]; exact ha)
    rw [take_set a n _ (by omega), List.append_assoc] at next
    refine Ev.step (fun k => by simp only [laws_toEvS.l0, laws_toEv.f]; rw [if_pos (by omega), if_pos (by omega), Option.bind_some, if_pos (by omega), w_succ (by omega), hrd, Int.toNat_natCast]) ?_
    rw [List.map_cons]
    exact next

theorem toEvS_ev (l : List S24) (hl : l.length ≤ 1048576) : Ev (fun k => laws_toEvS.f k l) (l.map cvEv) := by
  unfold laws_toEvS.f
  refine Ev.pos (by omega) (Ev.pos (by omega) ?_)
  have := toEvS_l0_ev l (by omega) l.length 0 (List.replicate l.length z26) (by omega) (by simp)
  rw [Int.toNat_natCast]
  exact this

theorem eqEv_self (a b c : Int) : laws_eqEv.f a b c a b c = some true := by
  unfold laws_eqEv.f
  rw [if_pos rfl, if_pos rfl, if_pos rfl]
theorem eqEvS_l0_ev (l : List S26) (hl : l.length ≤ 9223372036854775807) : ∀ d n : Nat, n + d = l.length → Ev (fun k => laws_eqEvS.l0 k l l (n : Int)) true := by
  intro d
  induction d with
  | zero =>
    intro n hn
    exact Ev.last (fun k => by simp only [laws_eqEvS.l0]; rw [if_neg (by omega)])
  | succ d ih =>
    intro n hn
    refine Ev.step (fun k => by simp only [laws_eqEvS.l0]; rw [if_pos (by omega), if_pos (by omega), if_pos (by omega), eqEv_self, w_succ (by omega), Option.bind_some, if_pos rfl]) ?_
    exact ih (n + 1) (by omega)
theorem eqEvS_ev (l : List S26) (hl : l.length ≤ 9223372036854775807) : Ev (fun k => laws_eqEvS.f k l l) true := by
  unfold laws_eqEvS.f
  exact Ev.pos rfl (eqEvS_l0_ev l hl l.length 0 (by omega))

def evsEq : List S26 → List S26 → Bool
  | [], [] => true
  | x :: xs, y :: ys => !(!(x.f0 == y.f0) || (!(x.f1 == y.f1) || (!(x.f2 == y.f2)))) && evsEq xs ys
  | _, _ => false
theorem evsEq_iff : ∀ a b : List S26, evsEq a b = true ↔ a = b
  | [], [] => by simp [evsEq]
  | [], _ :: _ => by simp [evsEq]
  | _ :: _, [] => by simp [evsEq]
  | x :: xs, y :: ys => by
    unfold evsEq
    rw [Bool.and_eq_true, evsEq_iff xs ys]
    obtain ⟨a, b, c⟩ := x
    obtain ⟨a', b', c'⟩ := y
    simp
theorem evsEq_self (a : List S26) : evsEq a a = true := (evsEq_iff a a).2 rfl
theorem evsEq_len : ∀ a b : List S26, a.length ≠ b.length → evsEq a b = false := by
  intro a b h
  rw [Bool.eq_false_iff]
  intro e
  exact h (by rw [(evsEq_iff a b).1 e])

theorem spec_EvsSame_l0_ev (a b : List S26) (hl : a.length ≤ 9223372036854775807) (hab : a.length = b.length) : ∀ d n : Nat, n + d = a.length → Ev (fun k => spec_EvsSame.l0 k a b (n : Int)) (evsEq (a.drop n) (b.drop n)) := by
  intro d
  induction d with
  | zero =>
    intro n hn
    rw [List.drop_of_length_le (by omega), List.drop_of_length_le (by omega)]
    exact Ev.last (fun k => by simp only [spec_EvsSame.l0]; rw [if_neg (by omega)]; rfl)
  | succ d ih =>
    intro n hn
    have hra : rd_T26 a (n : Int) = a.getD n z26 := rfl
    have hrb : rd_T26 b (n : Int) = b.getD n z26 := rfl
    rw [drop_at a z26 n (by omega), drop_at b z26 n (by omega)]
    have next := ih (n + 1) (by omega)
    refine Ev.step (fun k => by simp only [spec_EvsSame.l0]; rw [if_pos (by omega), if_pos (by omega), if_pos (by omega), hra, hrb, w_succ (by omega)]) ?_
    generalize a.getD n z26 = x at *
    generalize b.getD n z26 = y at *
    unfold evsEq
    by_cases h : (!(x.f0 == y.f0) || (!(x.f1 == y.f1) || (!(x.f2 == y.f2)))) = true
    · rw [h]
      exact Ev.pos rfl (Ev.now _)
    · simp only [Bool.not_eq_true] at h
      rw [h]
      exact Ev.neg (by decide) next
theorem spec_EvsSame_ev (a b : List S26) (hl : a.length ≤ 9223372036854775807) : Ev (fun k => spec_EvsSame.f k a b) (evsEq a b) := by
  unfold spec_EvsSame.f
  by_cases h : a.length = b.length
  · exact Ev.pos (by omega) (spec_EvsSame_l0_ev a b hl h a.length 0 (by omega))
  · rw [evsEq_len a b h]
    exact Ev.neg (by omega) (Ev.now _)

theorem impl_Equal_l0_ev (a b : List S26) (hl : a.length ≤ 9223372036854775807) (hab : a.length = b.length) : ∀ d n : Nat, n + d = a.length → Ev (fun k => impl_Ev.l0 k a b (a.length : Int) (n : Int)) (evsEq (a.drop n) (b.drop n)) := by
  intro d
  induction d with
  | zero =>
    intro n hn
    rw [List.drop_of_length_le (by omega), List.drop_of_length_le (by omega)]
    exact Ev.last (fun k => by simp only [impl_Ev.l0]; rw [if_neg (by omega)]; rfl)
  | succ d ih =>
    intro n hn
    have hra : rd_T26 a (n : Int) = a.getD n z26 := rfl
    have hrb : rd_T26 b (n : Int) = b.getD n z26 := rfl
    rw [drop_at a z26 n (by omega), drop_at b z26 n (by omega)]
    have next := ih (n + 1) (by omega)
    refine Ev.step (fun k => by simp only [impl_Ev.l0]; rw [if_pos (by omega), if_pos (by omega), if_pos (by omega), if_pos (by omega), hra, hrb, w_succ (by omega)]) ?_
    generalize a.getD n z26 = x at *
    generalize b.getD n z26 = y at *
    unfold evsEq
    by_cases h : (!(x.f0 == y.f0) || (!(x.f1 == y.f1) || (!(x.f2 == y.f2)))) = true
    · rw [h]
      exact Ev.pos rfl (Ev.now _)
    · simp only [Bool.not_eq_true] at h
      rw [h]
      exact Ev.neg (by decide) next
theorem impl_EvsSame_ev (a b : List S26) (hl : a.length ≤ 9223372036854775807) : Ev (fun k => impl_EvsSame.f k a b) (evsEq a b) := by
  unfold impl_EvsSame.f impl_Ev.f
  refine Ev.bindS (a := evsEq a b) ?_ rfl
  by_cases h : a.length = b.length
  · exact Ev.pos (by omega) (impl_Equal_l0_ev a b hl h a.length 0 (by omega))
  · rw [evsEq_len a b h]
    exact Ev.neg (by omega) (Ev.now _)

def evsTill (l : List S26) (at_ : Int) : List S26 := l.filter fun x => decide (x.f1 ≤ at_)
theorem evsTill_len (l : List S26) (at_ : Int) : (evsTill l at_).length ≤ l.length := List.length_filter_le _ _

theorem spec_EvsTill_l0_ev (l : List S26) (at_ : Int) (hl : l.length ≤ 1099511627776) : ∀ (d n : Nat) (out : List S26), n + d = l.length → out.length ≤ n → Ev (fun k => spec_EvsTill.l0 k l at_ out (n : Int)) (out ++ evsTill (l.drop n) at_) := by
  intro d
  induction d with
  | zero =>
    intro n out hn ho
    rw [List.drop_of_length_le (by omega)]
    exact Ev.last (fun k => by simp only [spec_EvsTill.l0]; rw [if_neg (by omega)]; simp [evsTill])
  | succ d ih =>
    intro n out hn ho
    have hr : rd_T26 l (n : Int) = l.getD n z26 := rfl
    rw [drop_at l z26 n (by omega)]
    refine Ev.step (fun k => by simp only [spec_EvsTill.l0]; rw [if_pos (by omega), if_pos (by omega), hr, w_succ (by omega)]) ?_
    generalize l.getD n z26 = x at *
    by_cases h : x.f1 ≤ at_
    · refine Ev.pos h (Ev.pos (by omega) ?_)
      have next := ih (n + 1) (out ++ [x]) (by omega) (by rw [List.length_append, List.length_singleton]; omega)
      refine Ev.val next ?_
      simp [evsTill, h]
    · refine Ev.neg h ?_
      have next := ih (n + 1) out (by omega) (by omega)
      refine Ev.val next ?_
      simp [evsTill, h]
theorem spec_EvsTill_ev (l : List S26) (at_ : Int) (hl : l.length ≤ 1099511627776) : Ev (fun k => spec_EvsTill.f k l at_) (evsTill l at_) := by
  unfold spec_EvsTill.f
  exact spec_EvsTill_l0_ev l at_ hl l.length 0 [] (by omega) (by simp)

theorem impl_EvsTill_l0_ev (l : List S26) (at_ : Int) (hl : l.length ≤ 1099511627776) : ∀ (d n : Nat) (out : List S26), n + d = l.length → out.length ≤ n → Ev (fun k => impl_EvsTill.l0 k at_ out l (l.length : Int) (n : Int)) (out ++ evsTill (l.drop n) at_) := by
  intro d
  induction d with
  | zero =>
    intro n out hn ho
    rw [List.drop_of_length_le (by omega)]
    exact Ev.last (fun k => by simp only [impl_EvsTill.l0]; rw [if_neg (by omega)]; simp [evsTill])
  | succ d ih =>
    intro n out hn ho
    have hr : rd_T26 l (n : Int) = l.getD n z26 := rfl
    rw [drop_at l z26 n (by omega)]
    refine Ev.step (fun k => by simp only [impl_EvsTill.l0]; rw [if_pos (by omega), if_pos (by omega), if_pos (by omega), hr, w_succ (by omega)]) ?_
    generalize l.getD n z26 = x at *
    by_cases h : x.f1 ≤ at_
    · refine Ev.pos h (Ev.pos (by omega) ?_)
      have next := ih (n + 1) (out ++ [x]) (by omega) (by rw [List.length_append, List.length_singleton]; omega)
      refine Ev.val next ?_
      simp [evsTill, h]
    · refine Ev.neg h ?_
      have next := ih (n + 1) out (by omega) (by omega)
      refine Ev.val next ?_
      simp [evsTill, h]
theorem impl_EvsTill_ev (l : List S26) (at_ : Int) (hl : l.length ≤ 1099511627776) : Ev (fun k => impl_EvsTill.f k l at_) (evsTill l at_) := by
  unfold impl_EvsTill.f
  exact impl_EvsTill_l0_ev l at_ hl l.length 0 [] (by omega) (by simp)

def evMarks : Nat → Int → List S26
  | 0, _ => []
  | n + 1, c => ⟨c, c + 1, c + 1 + 1⟩ :: evMarks n (c + 1 + 1 + 1)
theorem evMarks_len : ∀ (n : Nat) (c : Int), (evMarks n c).length = n
  | 0, _ => rfl
  | n + 1, c => by rw [evMarks, List.length_cons, evMarks_len n]
theorem rd_set_self (l : List S26) (n : Nat) (v : S26) (h : n < l.length) : rd_T26 (l.set n v) (n : Int) = v := by
  show (l.set n v).getD n _ = v
  rw [List.getD_eq_getElem?_getD, List.getElem?_set_self h]
  rfl

theorem markEvS_l0_ev : ∀ (d n : Nat) (l : List S26) (c : Int), n + d = l.length → l.length ≤ 1099511627776 → 0 ≤ c → c + 3 * d ≤ 1152921504606846976 → Ev (fun k => laws_markEvS.l0 k l c (n : Int)) (c + 3 * d, l.take n ++ evMarks d c) := by
  intro d
  induction d with
  | zero =>
    intro n l c hn hl h0 h1
    rw [List.take_of_length_le (by omega)]
    exact Ev.last (fun k => by simp only [laws_markEvS.l0]; rw [if_neg (by omega)]; simp [evMarks])
  | succ d ih =>
    intro n l c hn hl h0 h1
    have w1 : wrap64 (c + 1) = c + 1 := w_small (by omega) (by omega)
    have w2 : wrap64 (c + 1 + 1) = c + 1 + 1 := w_small (by omega) (by omega)
    have w3 : wrap64 (c + 1 + 1 + 1) = c + 1 + 1 + 1 := w_small (by omega) (by omega)
    have next := ih (n + 1) (l.set n ⟨c, c + 1, c + 1 + 1⟩) (c + 1 + 1 + 1) (by rw [List.length_set]; omega) (by rw [List.length_set]; omega) (by omega) (by omega)
    rw [take_set l n _ (by omega)] at next
    refine Ev.step (fun k => by
      simp only [laws_markEvS.l0]
      rw [if_pos (by omega), if_pos (by omega), Option.bind_some, Option.bind_some, w1, w2, w3, Int.toNat_natCast, rd_set_self _ n _ (by first | omega | (rw [List.length_set]; omega)), List.set_set, rd_set_self _ n _ (by first | omega | (rw [List.length_set]; omega)), List.set_set, w_succ (by omega)]) ?_
    refine Ev.val next ?_
    rw [evMarks, List.append_assoc]
    simp only [Prod.mk.injEq]
    exact ⟨by omega, rfl⟩
theorem markEvS_ev (l : List S26) (c : Int) (hl : l.length ≤ 1099511627776) (h0 : 0 ≤ c) (h1 : c ≤ 1099511627776) : Ev (fun k => laws_markEvS.f k l c) (c + 3 * l.length, evMarks l.length c) := by
  unfold laws_markEvS.f
  exact markEvS_l0_ev l.length 0 l c (by omega) hl h0 (by omega)

theorem heldEvS_l0_ev (m : List S26) (hm : m.length ≤ 1099511627776) : ∀ (d n : Nat) (c : Int), n + d = m.length → m.drop n = evMarks d c → 0 ≤ c → c + 3 * d ≤ 1152921504606846976 → Ev (fun k => laws_heldEvS.l0 k m c (n : Int)) (c + 3 * d) := by
  intro d
  induction d with
  | zero =>
    intro n c hn hd h0 h1
    exact Ev.last (fun k => by simp only [laws_heldEvS.l0]; rw [if_neg (by omega)]; simp)
  | succ d ih =>
    intro n c hn hd h0 h1
    have w1 : wrap64 (c + 1) = c + 1 := w_small (by omega) (by omega)
    have w2 : wrap64 (c + 1 + 1) = c + 1 + 1 := w_small (by omega) (by omega)
    have w3 : wrap64 (c + 1 + 1 + 1) = c + 1 + 1 + 1 := w_small (by omega) (by omega)
    have hr : rd_T26 m (n : Int) = m.getD n z26 := rfl
    rw [drop_at m z26 n (by omega), evMarks] at hd
    injection hd with hx hd
    have next := ih (n + 1) (c + 1 + 1 + 1) (by omega) hd (by omega) (by omega)
    refine Ev.step (fun k => by
      simp only [laws_heldEvS.l0]
      rw [if_pos (by omega), if_pos (by omega), hr, hx, w1, w2, w3, if_pos rfl, if_pos rfl, if_pos rfl, w_succ (by omega)]) ?_
    refine Ev.val next ?_
    omega
theorem heldEvS_ev (n : Nat) (c : Int) (hn : n ≤ 1099511627776) (h0 : 0 ≤ c) (h1 : c ≤ 1099511627776) : Ev (fun k => laws_heldEvS.f k (evMarks n c) c) (c + 3 * n) := by
  unfold laws_heldEvS.f
  exact heldEvS_l0_ev (evMarks n c) (by rw [evMarks_len]; exact hn) n 0 c (by rw [evMarks_len]; omega) rfl h0 (by omega)
end Go.Proofs.Ytiebpoikhijbgaa.M
namespace Go.Proofs.Ytiebpoikhijbgaa.M
open Go.RowKit Go.Proofs.YtiebpoikhijbgaaW.PrintWords Go.Proofs.YtiebpoikhijbgaaW.PrintLast

theorem ofInt_small (a : Nat) (ha : a < 9223372036854775808) : (BitVec.ofInt 64 (a : Int)).toNat = a := by
  rw [BitVec.ofInt_natCast, BitVec.toNat_ofNat]; exact Nat.mod_eq_of_lt (by omega)
theorem xor_small (a b : Nat) (ha : a < 9223372036854775808) (hb : b < 9223372036854775808) : bits .xor .i64 (a : Int) (b : Int) = ((a ^^^ b : Nat) : Int) := by
  have hx : a ^^^ b < 2 ^ 63 := Nat.xor_lt_two_pow (by omega) (by omega)
  show IntKind.i64.wrap ((BitVec.ofInt 64 (a : Int) ^^^ BitVec.ofInt 64 (b : Int)).toNat : Int) = _
  rw [BitVec.toNat_xor, ofInt_small a ha, ofInt_small b hb, IntKind.wrap_i64]
  omega
theorem mix_small (x : Int) (h0 : 0 ≤ x) (h1 : x ≤ 1099511627776) : 0 ≤ bits .xor .i64 x (wrap64 (Int.tdiv x 64)) := by
  obtain ⟨n, rfl⟩ := Int.eq_ofNat_of_zero_le h0
  have : Int.tdiv (n : Int) 64 = ((n / 64 : Nat) : Int) := rfl
  rw [this, w_small (by omega) (by omega), xor_small n (n / 64) (by omega) (by omega)]
  exact Int.natCast_nonneg _

def Bytes (bs : List Int) : Prop := bs.length ≤ 2000 ∧ ∀ x ∈ bs, 0 ≤ x ∧ x ≤ 255
theorem bytes_of {l : List Int} (h : ∀ x ∈ l, (Lit.int .u8 x).wf = true) : ∀ x ∈ l, 0 ≤ x ∧ x ≤ 255 := by
  intro x hx
  have := h x hx
  simp only [Lit.wf, Bool.and_eq_true, decide_eq_true_eq] at this
  exact this
theorem Bytes.rdLe {bs : List Int} (h : Bytes bs) (i : Int) : 0 ≤ rd bs i ∧ rd bs i ≤ 255 := by
  unfold rd
  rw [List.getD_eq_getElem?_getD]
  rcases Nat.lt_or_ge i.toNat bs.length with hi | hi
  · rw [List.getElem?_eq_getElem hi]
    exact h.2 _ (List.getElem_mem hi)
  · rw [List.getElem?_eq_none hi]
    simp

theorem l14Open_is (l : List Int) (hl : l.length ≤ 9223372036854775807) : spec_l14Open.f l = some (l.take 2000, 0) := by
  unfold spec_l14Open.f
  by_cases h : (l.length : Int) > 2000
  · rw [if_pos h, if_pos (by omega)]
  · rw [if_neg h, List.take_of_length_le (by omega)]
theorem open_bytes {l : List Int} (h : ∀ x ∈ l, (Lit.int .u8 x).wf = true) : Bytes (l.take 2000) :=
  ⟨by rw [List.length_take]; omega, fun x hx => bytes_of h x (List.mem_of_mem_take hx)⟩

theorem tmod_lt (a n : Int) (h0 : 0 ≤ a) (h1 : 1 ≤ n) : 0 ≤ Int.tmod a n ∧ Int.tmod a n < n := by
  rw [Int.tmod_eq_emod_of_nonneg h0]
  exact ⟨Int.emod_nonneg _ (by omega), Int.emod_lt_of_pos _ (by omega)⟩

theorem pick_ev (bs : List Int) (hb : Bytes bs) (p n : Int) (h0 : 0 ≤ p) (h1 : p ≤ 1000000) : ∃ r, Ev (fun k => spec_l14Rd_pick.f k bs p n) (r, p + 1) ∧ 0 ≤ r ∧ (r < n ∨ n < 1 ∧ r = 0) := by
  have w1 : wrap64 (p + 1) = p + 1 := w_small (by omega) (by omega)
  by_cases hn : n < 1
  · refine ⟨0, ?_, by omega, .inr ⟨hn, rfl⟩⟩
    unfold spec_l14Rd_pick.f
    refine Ev.pos hn (Ev.last (fun k => ?_))
    simp only [spec_l14Rd_pick.j0]
    rw [if_pos trivial, w1]
  · by_cases he : (bs.length : Int) = 0
    · refine ⟨0, ?_, by omega, .inl (by omega)⟩
      unfold spec_l14Rd_pick.f
      refine Ev.neg hn (Ev.last (fun k => ?_))
      simp only [spec_l14Rd_pick.j0]
      rw [beq_iff_eq.2 he, if_pos rfl, w1]
    · have w2 : wrap64 (p + 1 - 1) = p := by rw [show p + 1 - 1 = p by omega]; exact w_small (by omega) (by omega)
      have hne : ((bs.length : Int) == 0) = false := beq_eq_false_iff_ne.2 he
      have hlen := hb.1
      by_cases hk : p < (bs.length : Int)
      · have hr := hb.rdLe p
        have hm := tmod_lt (rd bs p) n hr.1 (by omega)
        refine ⟨Int.tmod (rd bs p) n, ?_, hm.1, .inl hm.2⟩
        unfold spec_l14Rd_pick.f
        refine Ev.neg hn (Ev.last (fun k => ?_))
        simp only [spec_l14Rd_pick.j0]
        rw [hne, if_neg (by decide), w1, w2, if_pos hk, if_pos h0, if_neg (by omega), w_small (by omega) (by omega)]
      · have t1 := tmod_lt p (bs.length : Int) h0 (by omega)
        have w3 : wrap64 (p * 7) = p * 7 := w_small (by omega) (by omega)
        have w4 : wrap64 (p * 7 + 3) = p * 7 + 3 := w_small (by omega) (by omega)
        have t2 := tmod_lt (p * 7 + 3) (bs.length : Int) (by omega) (by omega)
        have r1 := hb.rdLe (Int.tmod p (bs.length : Int))
        have r2 := hb.rdLe (Int.tmod (p * 7 + 3) (bs.length : Int))
        have hd : 0 ≤ Int.tdiv p (bs.length : Int) ∧ Int.tdiv p (bs.length : Int) ≤ p := by
          rw [Int.tdiv_eq_ediv_of_nonneg h0]
          exact ⟨Int.ediv_nonneg h0 (by omega), Int.ediv_le_self _ h0⟩
        have w5 : wrap64 (Int.tdiv p (bs.length : Int)) = Int.tdiv p (bs.length : Int) := w_small (by omega) (by omega)
        generalize hq : Int.tdiv p (bs.length : Int) = q at *
        generalize ha : rd bs (Int.tmod p (bs.length : Int)) = a at *
        generalize hb' : rd bs (Int.tmod (p * 7 + 3) (bs.length : Int)) = b at *
        have x1 : wrap64 a = a := w_small (by omega) (by omega)
        have x2 : wrap64 b = b := w_small (by omega) (by omega)
        have x3 : wrap64 (a * 131) = a * 131 := w_small (by omega) (by omega)
        have x4 : wrap64 (b * 1117) = b * 1117 := w_small (by omega) (by omega)
        have x5 : wrap64 (a * 131 + b * 1117) = a * 131 + b * 1117 := w_small (by omega) (by omega)
        have x6 : wrap64 (p * 29) = p * 29 := w_small (by omega) (by omega)
        have x7 : wrap64 (a * 131 + b * 1117 + p * 29) = a * 131 + b * 1117 + p * 29 := w_small (by omega) (by omega)
        have x8 : wrap64 (q * 53) = q * 53 := w_small (by omega) (by omega)
        have x9 : wrap64 (a * 131 + b * 1117 + p * 29 + q * 53) = a * 131 + b * 1117 + p * 29 + q * 53 := w_small (by omega) (by omega)
        have hx := mix_small (a * 131 + b * 1117 + p * 29 + q * 53) (by omega) (by omega)
        generalize hX : bits .xor .i64 (a * 131 + b * 1117 + p * 29 + q * 53) (wrap64 (Int.tdiv (a * 131 + b * 1117 + p * 29 + q * 53) 64)) = X at *
        have hm := tmod_lt X n hx (by omega)
        refine ⟨Int.tmod X n, ?_, hm.1, .inl hm.2⟩
        unfold spec_l14Rd_pick.f
        refine Ev.neg hn (Ev.last (fun k => ?_))
        simp only [spec_l14Rd_pick.j0]
        rw [hne, if_neg (by decide), w1, w2, if_neg hk, if_neg he, if_pos t1.1, if_pos t1.2, w3, w4, if_pos t2.1, if_pos t2.2, if_neg (by omega), hq, ha, hb', w5, x1, x2, x3, x4, x5, x6, x7, x8, x9, hX]

theorem num_ev (bs : List Int) (hb : Bytes bs) (p : Int) (l : List Int) (hl : l ≠ []) (hm : l.length ≤ 1000000) (h0 : 0 ≤ p) (h1 : p ≤ 1000000) : ∃ r, Ev (fun k => spec_l14Rd_num.f k bs p l) (r, p + 1) ∧ r ∈ l := by
  obtain ⟨r, hr, h2, h3⟩ := pick_ev bs hb p (l.length : Int) h0 h1
  have hpos : 0 < l.length := List.length_pos_iff.2 hl
  have hlt : r < (l.length : Int) := by omega
  refine ⟨rd l r, ?_, ?_⟩
  · unfold spec_l14Rd_num.f
    exact Ev.bind hr (Ev.pos h2 (Ev.pos hlt (Ev.now _)))
  · unfold rd
    rw [List.getD_eq_getElem?_getD, List.getElem?_eq_getElem (show r.toNat < l.length by omega)]
    exact List.getElem_mem _
end Go.Proofs.Ytiebpoikhijbgaa.M
namespace Go.Proofs.Ytiebpoikhijbgaa.M
open Go.RowKit Go.Proofs.YtiebpoikhijbgaaW.PrintWords Go.Proofs.YtiebpoikhijbgaaW.PrintLast

theorem l1Evs_l0_ev (bs : List Int) (hb : Bytes bs) : ∀ (d : Nat) (out : List S26) (at_ i p : Int), i = d → out.length + d ≤ 1000 → 0 ≤ p → p + 3 * d ≤ 100000 →
    ∃ o p', Ev (fun k => spec_l1Evs.l0 k out at_ i bs p) (o, p') ∧ o.length = out.length + d ∧ 0 ≤ p' ∧ p' ≤ p + 3 * d := by
  intro d
  induction d with
  | zero =>
    intro out at_ i p hi ho h0 h1
    refine ⟨out, p, Ev.last (fun k => ?_), by omega, by omega, by omega⟩
    simp only [spec_l1Evs.l0]
    rw [if_neg (by omega)]
  | succ d ih =>
    intro out at_ i p hi ho h0 h1
    obtain ⟨a, ha, _⟩ := num_ev bs hb p [1, 1, 1, 2, 3, 7] (by simp) (by simp) (by omega) (by omega)
    obtain ⟨s, hs, _⟩ := num_ev bs hb (p + 1) [0, 0, 1, 1, 2, 2, 3, 4] (by simp) (by simp) (by omega) (by omega)
    obtain ⟨v, hv, _⟩ := num_ev bs hb (p + 1 + 1) [0, 0, 1, 5, 100] (by simp) (by simp) (by omega) (by omega)
    have w1 : wrap64 (i - 1) = i - 1 := w_small (by omega) (by omega)
    obtain ⟨o, p', h2, h3, h4, h5⟩ := ih (out ++ [⟨s, wrap64 (at_ + a), v⟩]) (wrap64 (at_ + a)) (i - 1) (p + 1 + 1 + 1) (by omega) (by rw [List.length_append, List.length_singleton]; omega) (by omega) (by omega)
    refine ⟨o, p', ?_, by rw [h3, List.length_append, List.length_singleton]; omega, h4, by omega⟩
    refine Ev.step (fun k => by simp only [spec_l1Evs.l0]; rw [if_pos (by omega), w1]) ?_
    exact Ev.bind ha (Ev.bind hs (Ev.bind hv (Ev.pos (by omega) h2)))

theorem l1Evs_ev (bs : List Int) (hb : Bytes bs) (p most : Int) (h0 : 0 ≤ p) (h1 : p ≤ 10000) (hm : 0 ≤ most) (hm2 : most ≤ 100) :
    ∃ o p', Ev (fun k => spec_l1Evs.f k bs p most) (o, p') ∧ (o.length : Int) ≤ most ∧ 0 ≤ p' ∧ p' ≤ p + 1 + 3 * most := by
  have w1 : wrap64 (most + 1) = most + 1 := w_small (by omega) (by omega)
  obtain ⟨r, hr, h2, h3⟩ := pick_ev bs hb p (most + 1) h0 (by omega)
  obtain ⟨o, p', h4, h5, h6, h7⟩ := l1Evs_l0_ev bs hb r.toNat [] 0 r (p + 1) (by omega) (by simp; omega) (by omega) (by omega)
  refine ⟨o, p', ?_, by rw [h5]; simp; omega, h6, by omega⟩
  unfold spec_l1Evs.f
  rw [w1]
  exact Ev.bind hr h4

theorem l1Bent_l0_ev : ∀ (d : Nat) (out : List S26) (bs : List Int) (p : Int), 0 < out.length → out.length + d = 25 →
    ∃ o, Ev (fun k => spec_l1Bent.l0 k out bs p) (o, p) ∧ o.length = 25 := by
  intro d
  induction d with
  | zero =>
    intro out bs p h0 h1
    refine ⟨out, Ev.last (fun k => ?_), by omega⟩
    simp only [spec_l1Bent.l0]
    rw [if_neg (by omega)]
  | succ d ih =>
    intro out bs p h0 h1
    have w1 : wrap64 ((out.length : Int) - 1) = (out.length : Int) - 1 := w_small (by omega) (by omega)
    obtain ⟨o, h2, h3⟩ := ih (out ++ [⟨0, wrap64 ((rd_T26 out ((out.length : Int) - 1)).f1 + 1), 0⟩]) bs p (by simp) (by rw [List.length_append, List.length_singleton]; omega)
    refine ⟨o, ?_, h3⟩
    refine Ev.step (fun k => by simp only [spec_l1Bent.l0]; rw [if_pos (by omega), w1, if_pos (by omega), if_pos (by omega), if_pos (by omega)]) ?_
    exact h2

theorem l1Bent_ev (bs : List Int) (hb : Bytes bs) (p : Int) (h0 : 0 ≤ p) (h1 : p ≤ 5000) : ∃ o p', Ev (fun k => spec_l1Bent.f k bs p) (o, p') ∧ o.length ≤ 25 ∧ 0 ≤ p' ∧ p' ≤ p + 60 := by
  unfold spec_l1Bent.f
  obtain ⟨o, p1, he, hl, h2, h3⟩ := l1Evs_ev bs hb p 12 h0 (by omega) (by omega) (by omega)
  by_cases hz : (o.length : Int) = 0
  · exact ⟨o, p1, Ev.bind he (Ev.pos hz (Ev.now _)), by omega, h2, by omega⟩
  · obtain ⟨r, hr, r1, r2⟩ := pick_ev bs hb p1 (o.length : Int) h2 (by omega)
    have hrl : r < (o.length : Int) := by omega
    obtain ⟨c, hc, c1, c2⟩ := pick_ev bs hb (p1 + 1) 40 (by omega) (by omega)
    by_cases c0 : c = 0
    · obtain ⟨v, hv, _⟩ := num_ev bs hb (p1 + 1 + 1) [-1, 5] (by simp) (by simp) (by omega) (by omega)
      exact ⟨_, _, Ev.bind he (Ev.neg hz (Ev.bind hr (Ev.bind hc (Ev.pos c0 (Ev.bind hv (Ev.pos r1 (Ev.pos hrl (Ev.now _)))))))), by rw [List.length_set]; dsimp only; omega, by omega, by omega⟩
    · by_cases c10 : c = 1
      · obtain ⟨v, hv, _⟩ := num_ev bs hb (p1 + 1 + 1) [0, 1001, (rd_T26 o 0).f1] (by simp) (by simp) (by omega) (by omega)
        exact ⟨_, _, Ev.bind he (Ev.neg hz (Ev.bind hr (Ev.bind hc (Ev.neg c0 (Ev.pos c10 (Ev.pos (by dsimp only; omega) (Ev.bind hv (Ev.pos r1 (Ev.pos hrl (Ev.now _)))))))))), by rw [List.length_set]; dsimp only; omega, by omega, by omega⟩
      · by_cases c20 : c = 2
        · obtain ⟨v, hv, _⟩ := num_ev bs hb (p1 + 1 + 1) [-1, 101] (by simp) (by simp) (by omega) (by omega)
          exact ⟨_, _, Ev.bind he (Ev.neg hz (Ev.bind hr (Ev.bind hc (Ev.neg c0 (Ev.neg c10 (Ev.pos c20 (Ev.bind hv (Ev.pos r1 (Ev.pos hrl (Ev.now _)))))))))), by rw [List.length_set]; dsimp only; omega, by omega, by omega⟩
        · by_cases c30 : c = 3
          · obtain ⟨o2, h4, h5⟩ := l1Bent_l0_ev (25 - o.length) o bs (p1 + 1 + 1) (by omega) (by omega)
            exact ⟨o2, _, Ev.bind he (Ev.neg hz (Ev.bind hr (Ev.bind hc (Ev.neg c0 (Ev.neg c10 (Ev.neg c20 (Ev.pos c30 h4))))))), by omega, by omega, by omega⟩
          · exact ⟨o, _, Ev.bind he (Ev.neg hz (Ev.bind hr (Ev.bind hc (Ev.neg c0 (Ev.neg c10 (Ev.neg c20 (Ev.neg c30 (Ev.now _)))))))), by omega, by omega, by omega⟩

theorem openBent_ev (l : List Int) (h : ∀ x ∈ l, (Lit.int .u8 x).wf = true) : ∃ o p', Ev (fun k => spec_l1Bent.f k (l.take 2000) 0) (o, p') ∧ o.length ≤ 25 ∧ 0 ≤ p' ∧ p' ≤ 60 := by
  obtain ⟨o, p', h1, h2, h3, h4⟩ := l1Bent_ev (l.take 2000) (open_bytes h) 0 (by omega) (by omega)
  exact ⟨o, p', h1, h2, h3, by omega⟩
end Go.Proofs.Ytiebpoikhijbgaa.M
namespace Go.Proofs.Ytiebpoikhijbgaa.M
set_option linter.unusedVariables false
set_option linter.unusedSimpArgs false
open Go.RowKit Go.Proofs.YtiebpoikhijbgaaW.PrintWords Go.Proofs.YtiebpoikhijbgaaW.PrintLast

theorem drawEvsOk_ev (l : List Int) (hl : l.length ≤ 9223372036854775807) (h : ∀ x ∈ l, (Lit.int .u8 x).wf = true) : ∃ o, Ev (fun k => spec_DrawEvsOk.f k l) o ∧ o.length ≤ 25 := by
  unfold spec_DrawEvsOk.f
  obtain ⟨o, p', h1, h2, _, _⟩ := openBent_ev l h
  exact ⟨o, Ev.bind (Ev.one (fun _ => l14Open_is l hl)) (Ev.bindS h1 rfl), h2⟩
theorem drawEvsSame_ev (l : List Int) (hl : l.length ≤ 9223372036854775807) (h : ∀ x ∈ l, (Lit.int .u8 x).wf = true) : ∃ a b, Ev (fun k => spec_DrawEvsSame.f k l) (a, b) ∧ a.length ≤ 25 := by
  unfold spec_DrawEvsSame.f
  obtain ⟨o, p', h1, h2, _, _⟩ := openBent_ev l h
  have ho := l14Open_is l hl
  by_cases c : (l.length : Int) > 0
  · by_cases d : Int.tmod (rd l 0) 2 = 1
    · refine ⟨o, o ++ [⟨0, 999, 0⟩], Ev.bind (Ev.one (fun _ => ho)) (Ev.bind h1 (Ev.bind (Ev.one (fun _ => ho)) (Ev.bind h1 (Ev.pos c (Ev.pos c (Ev.pos d (Ev.pos (show o.length < 5864062014805 by omega) (Ev.now _)))))))), h2⟩
    · exact ⟨o, o, Ev.bind (Ev.one (fun _ => ho)) (Ev.bind h1 (Ev.bind (Ev.one (fun _ => ho)) (Ev.bind h1 (Ev.pos c (Ev.pos c (Ev.neg d (Ev.now _))))))), h2⟩
  · exact ⟨o, o, Ev.bind (Ev.one (fun _ => ho)) (Ev.bind h1 (Ev.bind (Ev.one (fun _ => ho)) (Ev.bind h1 (Ev.neg c (Ev.now _))))), h2⟩

theorem evsGo_low' : ∀ (l : List S26) (p q : Int), p ≤ q → evsGo q l = true → evsGo p l = true
  | [], _, _, _, _ => rfl
  | x :: xs, p, q, hpq, h => by
    unfold evsGo at h ⊢
    simp only [Bool.and_eq_true, decide_eq_true_eq] at h ⊢
    exact ⟨⟨h.1.1, by omega⟩, h.2⟩
theorem evs_long (l : List S26) (h : 24 < l.length) : evsOkB l = false := by
  unfold evsOkB
  rw [decide_eq_false (by omega), Bool.and_false]
theorem grow_ev (l y z : List S26) (hl : l.length ≤ 25) (hy : y.length ≤ 25) (hz : z.length ≤ 25) (l1 : 1 ≤ l.length) (y1 : 1 ≤ y.length) (z1 : 1 ≤ z.length)
    (ey : evsOkB y = false) (ez : evsOkB z = false) (ed : evsOkB (l.drop 1) = true) (fy : evOkB (y.getD 0 z26) = false) (fz : evOkB (z.getD 0 z26) = false) :
    ∀ (d : Nat) (x : List S26), 1 ≤ x.length → x.length + d = 25 → Ev (fun k => laws_FnEvBent.l0 k l x y z) true := by
  intro d
  induction d with
  | zero =>
    intro x hx hd
    refine Ev.step (fun k => by simp only [laws_FnEvBent.l0]; rw [if_neg (by omega)]) ?_
    have r1 : rd_T26 y 0 = y.getD 0 z26 := rfl
    have r2 : rd_T26 z 0 = z.getD 0 z26 := rfl
    refine Ev.bind (impl_EvsOk_ev x (by omega)) ?_
    rw [evs_long x (by omega)]
    refine Ev.neg (by decide) (Ev.bind (impl_EvsOk_ev y (by omega)) ?_)
    rw [ey]
    refine Ev.neg (by decide) (Ev.bind (impl_EvsOk_ev z (by omega)) ?_)
    rw [ez]
    refine Ev.neg (by decide) (Ev.pos (by omega) (Ev.bind (impl_EvsOk_ev (l.drop 1) (by rw [List.length_drop]; omega)) ?_))
    rw [ed]
    refine Ev.pos rfl (Ev.pos (by omega) ?_)
    rw [impl_EvOk_is, r1, Option.bind_some, show (⟨(y.getD 0 z26).f0, (y.getD 0 z26).f1, (y.getD 0 z26).f2⟩ : S26) = y.getD 0 z26 from rfl, fy]
    refine Ev.neg (by decide) (Ev.pos (by omega) ?_)
    rw [impl_EvOk_is, r2, Option.bind_some, show (⟨(z.getD 0 z26).f0, (z.getD 0 z26).f1, (z.getD 0 z26).f2⟩ : S26) = z.getD 0 z26 from rfl, fz]
    exact Ev.now _
  | succ d ih =>
    intro x hx hd
    have hw : wrap64 ((x.length : Int) - 1) = (x.length : Int) - 1 := w_small (by omega) (by omega)
    refine Ev.step (fun k => by simp only [laws_FnEvBent.l0]; rw [if_pos (by omega), if_pos (by rw [hw]; omega), if_pos (by rw [hw]; omega), Option.bind_some]) ?_
    exact Ev.pos (by simp; omega) (ih _ (by simp) (by simp; omega))
theorem bent_ev (l : List S26) (h : evsOkB l = true) (h1 : 1 ≤ l.length) : Ev (fun k => laws_FnEvBent.j1 k l false) true := by
  have h24 : l.length ≤ 24 := by
    unfold evsOkB at h
    simp only [Bool.and_eq_true, decide_eq_true_eq] at h
    exact h.2
  have hg : evsGo 0 l = true := by
    unfold evsOkB at h
    simp only [Bool.and_eq_true, decide_eq_true_eq] at h
    exact h.1
  have hw : wrap64 ((l.length : Int) - 1) = (l.length : Int) - 1 := w_small (by omega) (by omega)
  cases l with
  | nil => simp at h1
  | cons e t =>
    have c0 : ((0 : Int)).toNat = 0 := rfl
    refine Ev.step (fun k => by simp only [laws_FnEvBent.j1]; rw [if_neg (by decide), Option.bind_some, if_pos (by simp at h24 ⊢; omega), Option.bind_some, if_pos (by rw [hw]; omega), if_pos (by rw [hw]; omega), Option.bind_some, if_pos (by simp at h24 ⊢; omega), Option.bind_some, if_pos (by simp at h24 ⊢; omega), Option.bind_some, if_pos (by simp <;> omega), Option.bind_some, if_pos (by simp at h24 ⊢; omega), Option.bind_some, if_pos (by simp <;> omega), List.nil_append, c0]) ?_
    have go := hg
    unfold evsGo at go
    simp only [Bool.and_eq_true, decide_eq_true_eq] at go
    have nope : ∀ x : S26, evOkB x = false → evsOkB (x :: t) = false := by
      intro x hx
      unfold evsOkB evsGo
      rw [hx]
      simp
    have bad1 : ∀ (b c : Int), evOkB ⟨5, b, c⟩ = false := by
      intro b c
      unfold evOkB
      simp
    have bad2 : ∀ (a b : Int), evOkB ⟨a, b, 101⟩ = false := by
      intro a b
      unfold evOkB
      simp
    refine grow_ev (e :: t) _ _ (by omega) (by simp at h24 ⊢; omega) (by simp at h24 ⊢; omega) h1 (by simp) (by simp) ?_ ?_ ?_ ?_ ?_ (24 - (e :: t).length) _ (by simp) (by simp at h24 ⊢; omega)
    · exact nope _ (bad1 _ _)
    · exact nope _ (bad2 _ _)
    · show evsOkB t = true
      unfold evsOkB
      rw [evsGo_low' t 0 e.f1 (by omega) go.2, decide_eq_true (by simp at h24; omega)]
      rfl
    · exact bad1 _ _
    · exact bad2 _ _
theorem FnEvBent_pure (l : List Int) (h : l.length ≤ maxLen ∧ ∀ y ∈ l, (Lit.int .u8 y).wf = true) (_ : l.length * 1 ≤ 140737488351232) : ∃ k, laws_FnEvBent.f k l = some true := by
  have hl : l.length ≤ 9223372036854775807 := by have := h.1; unfold maxLen at this; omega
  refine Ev.rounds (g := fun k => laws_FnEvBent.f k l) ?_
  obtain ⟨o, hd, ho⟩ := drawEvsOk_ev l hl h.2
  obtain ⟨a, b, hs, ha⟩ := drawEvsSame_ev l hl h.2
  unfold laws_FnEvBent.f
  by_cases h1 : (l.length : Int) > 1048576
  · exact Ev.pos h1 (Ev.now _)
  · refine Ev.neg h1 (Ev.bind hd (Ev.bind hs (Ev.bind (impl_EvsOk_ev o (by omega)) (Ev.bind (spec_EvsOk_ev o (by omega)) (Ev.neg (by simp) ?_)))))
    refine Ev.bind (impl_EvsSame_ev a b (by omega)) (Ev.bind (spec_EvsSame_ev a b (by omega)) (Ev.neg (by simp) ?_))
    refine Ev.bind (impl_EvsSame_ev a a (by omega)) ?_
    rw [evsEq_self]
    refine Ev.step (fun k => by simp only [laws_FnEvBent.j0]; rw [if_neg (by decide)]) (Ev.bind (spec_EvsOk_ev o (by omega)) ?_)
    have yes : Ev (fun k => laws_FnEvBent.j1 k o true) true := Ev.last (fun k => by simp only [laws_FnEvBent.j1]; rw [if_pos trivial])
    by_cases hk : evsOkB o = true
    · refine Ev.pos hk ?_
      by_cases h0 : o.length = 0
      · rw [show ((o.length : Int) == 0) = true by simp [h0]]
        exact yes
      · rw [show ((o.length : Int) == 0) = false by rw [beq_eq_false_iff_ne]; omega]
        exact bent_ev o hk (by omega)
    · exact Ev.neg hk yes
end Go.Proofs.Ytiebpoikhijbgaa.M
