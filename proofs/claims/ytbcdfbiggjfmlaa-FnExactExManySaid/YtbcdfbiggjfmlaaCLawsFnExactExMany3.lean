/- What the claim's law leans on: the program's functions, what they compute, and the law over plain values; no condition is asked. (Part 3 of 3.) -/
import Derived.Test.YtbcdfbiggjfmlaaCLawsFnExactExMany2
namespace Go.Proofs.Ytbcdfbiggjfmlaa.M
set_option linter.unusedVariables false
set_option linter.unusedSimpArgs false
open Go.RowKit Go.Proofs.YtbcdfbiggjfmlaaW.PrintWords Go.Proofs.YtbcdfbiggjfmlaaW.PrintLast

mutual
def manyY : S29 → Nat
  | ⟨_, _, _, l⟩ => 1 + manysY l
def manysY : List S29 → Nat
  | [] => 0
  | x :: xs => manyY x + manysY xs
end
mutual
def deepY : S29 → Nat
  | ⟨_, _, _, l⟩ => 1 + deepsY l
def deepsY : List S29 → Nat
  | [] => 0
  | x :: xs => max (deepY x) (deepsY xs)
end
def kidsOf (a : Int) : Int := if a = 1 then 0 else if a = 7 then 1 else if a = 2 ∨ a = 3 ∨ a = 4 then 2 else if a = 5 ∨ a = 6 then 3 else -1
def okN (a b c : Int) (n : Nat) : Bool := decide (kidsOf a = n) && (if a = 1 then decide (0 ≤ b ∧ b ≤ 4) else decide (b = 0)) && (if a = 7 then decide (1 ≤ c ∧ c ≤ 20) else decide (c = 0))
mutual
def fmY : S29 → Bool
  | ⟨a, b, c, l⟩ => okN a b c l.length && fmsY l
def fmsY : List S29 → Bool
  | [] => true
  | x :: xs => fmY x && fmsY xs
end
theorem manyY_is (x : S29) : manyY x = 1 + manysY x.f3 := by cases x; simp [manyY]
theorem manysY_nil : manysY [] = 0 := by simp [manysY]
theorem manysY_cons (x : S29) (l : List S29) : manysY (x :: l) = manyY x + manysY l := by simp [manysY]
theorem deepY_is (x : S29) : deepY x = 1 + deepsY x.f3 := by cases x; simp [deepY]
theorem deepsY_nil : deepsY [] = 0 := by simp [deepsY]
theorem deepsY_cons (x : S29) (l : List S29) : deepsY (x :: l) = max (deepY x) (deepsY l) := by simp [deepsY]
theorem fmY_is (x : S29) : fmY x = (okN x.f0 x.f1 x.f2 x.f3.length && fmsY x.f3) := by cases x; simp [fmY]
theorem fmsY_nil : fmsY [] = true := by simp [fmsY]
theorem fmsY_cons (x : S29) (l : List S29) : fmsY (x :: l) = (fmY x && fmsY l) := by simp [fmsY]
theorem manysY_all (l : List S29) (h : ∀ x ∈ l, manyY x = 1 + allY x) : manysY l = l.length + kidsY l := by
  induction l with
  | nil => simp [manysY_nil, kidsY_nil]
  | cons x l ih => rw [manysY_cons, kidsY_cons, h x (by simp), ih (fun y hy => h y (by simp [hy]))]; simp; omega
theorem manyY_all : ∀ x : S29, manyY x = 1 + allY x := by
  refine indI (fun x ih => ?_)
  rw [manyY_is, allY_is, manysY_all _ ih]
theorem deepsY_le (l : List S29) (h : ∀ x ∈ l, deepY x ≤ manyY x) : deepsY l ≤ manysY l := by
  induction l with
  | nil => simp [deepsY_nil, manysY_nil]
  | cons x l ih =>
    have h1 := h x (by simp)
    have h2 := ih (fun y hy => h y (by simp [hy]))
    rw [manysY_cons, deepsY_cons]
    omega
theorem deepY_le : ∀ x : S29, deepY x ≤ manyY x := by
  refine indI (fun x ih => ?_)
  have := deepsY_le _ ih
  rw [manyY_is, deepY_is]
  omega
theorem deepsY_le' (l : List S29) : deepsY l ≤ manysY l := deepsY_le l (fun x _ => deepY_le x)
theorem manysY_drop (l : List S29) (n : Nat) : manysY (l.drop n) ≤ manysY l := by
  induction l generalizing n with
  | nil => simp
  | cons x l ih =>
    cases n with
    | zero => simp
    | succ n => rw [List.drop_succ_cons, manysY_cons]; have := ih n; omega

def SizeOk (x : S29) : Prop := Ev (fun k => impl_Ex_size.f k x.f0 x.f1 x.f2 x.f3) ((manyY x : Int), (deepY x : Int))
theorem size_l0_ev (l : List S29) (hl : l.length ≤ 1048576) (hm : manysY l ≤ 1048577) (hs : ∀ x ∈ l, SizeOk x) : ∀ (d n m p : Nat), n + d = l.length → 1 ≤ m → 1 ≤ p → p ≤ 1048579 → m + manysY (l.drop n) ≤ 1048579 → Ev (fun k => impl_Ex_size.l0 k (m : Int) (p : Int) l (l.length : Int) (n : Int)) (((m + manysY (l.drop n) : Nat) : Int), ((max p (1 + deepsY (l.drop n)) : Nat) : Int)) := by
  intro d
  induction d with
  | zero =>
    intro n m p hn h0 h1 h2 h3
    rw [List.drop_of_length_le (by omega), manysY_nil, deepsY_nil]
    refine Ev.last (fun k => by simp only [impl_Ex_size.l0]; rw [if_neg (by omega)]; rw [Nat.max_eq_left (by omega)]; rfl)
  | succ d ih =>
    intro n m p hn h0 h1 h2 h3
    have hx : SizeOk l[n] := hs _ (List.getElem_mem _)
    have hd := List.drop_eq_getElem_cons (l := l) (i := n) (by omega)
    rw [hd, manysY_cons] at h3
    rw [hd, manysY_cons, deepsY_cons]
    have hp := deepY_le l[n]
    have e1 : wrap64 ((m : Int) + (manyY l[n] : Int)) = ((m + manyY l[n] : Nat) : Int) := by rw [w_small (by omega) (by omega)]; omega
    have e2 : mx (p : Int) (wrap64 ((deepY l[n] : Int) + 1)) = ((max p (1 + deepY l[n]) : Nat) : Int) := by rw [w_small (by omega) (by omega)]; unfold mx; omega
    refine Ev.step (fun k => by simp only [impl_Ex_size.l0]; rw [if_pos (by omega), if_pos (by omega), if_pos (by omega), rdI l n (by omega), w_succ (by omega)]) ?_
    refine Ev.bind hx ?_
    simp only [e1, e2]
    refine Ev.val (ih (n + 1) (m + manyY l[n]) (max p (1 + deepY l[n])) (by omega) (by omega) (by omega) (by omega) (by omega)) ?_
    refine Prod.ext ?_ ?_
    · show ((_ : Nat) : Int) = ((_ : Nat) : Int)
      congr 1
      omega
    · show ((_ : Nat) : Int) = ((_ : Nat) : Int)
      congr 1
      omega
theorem size_ev : ∀ x : S29, allY x ≤ 1048576 → SizeOk x := by
  refine indI (fun x ih g => ?_)
  have hk : ∀ y ∈ x.f3, SizeOk y := fun y hy => ih y hy (by have := allY_mem hy; omega)
  have hl : x.f3.length ≤ 1048576 := by have := allY_len (x := x); omega
  have hm : manysY x.f3 ≤ 1048577 := by have h1 := manyY_all x; have h2 := manyY_is x; omega
  unfold SizeOk
  refine Ev.step (fun k => by simp only [impl_Ex_size.f]; rfl) ?_
  refine Ev.val (size_l0_ev x.f3 hl hm hk x.f3.length 0 1 1 (by omega) (by omega) (by omega) (by omega) (by rw [List.drop_zero]; omega)) ?_
  rw [List.drop_zero, manyY_is, deepY_is]
  refine Prod.ext rfl ?_
  show ((_ : Nat) : Int) = ((_ : Nat) : Int)
  congr 1
  omega

def ManyOk (x : S29) : Prop := ∀ d : Nat, d ≤ 100 → deepY x ≤ d + 1 → Ev (fun k => spec_l2Many.f k x.f0 x.f1 x.f2 x.f3 (d : Int)) (manyY x : Int)
theorem many_l0_ev (l : List S29) (hl : l.length ≤ 1048576) (hs : ∀ x ∈ l, ManyOk x) (a b c : Int) (e : Nat) (he : e ≤ 100) : ∀ (d n m : Nat), n + d = l.length → deepsY (l.drop n) ≤ e → m + manysY (l.drop n) ≤ 1048579 → Ev (fun k => spec_l2Many.l0 k (e : Int) (m : Int) (n : Int) a b c l) ((m + manysY (l.drop n) : Nat) : Int) := by
  intro d
  induction d with
  | zero =>
    intro n m hn h1 h3
    rw [List.drop_of_length_le (by omega), manysY_nil]
    refine Ev.last (fun k => by simp only [spec_l2Many.l0]; rw [if_neg (by omega)]; rfl)
  | succ d ih =>
    intro n m hn h1 h3
    have hx : ManyOk l[n] := hs _ (List.getElem_mem _)
    have hd := List.drop_eq_getElem_cons (l := l) (i := n) (by omega)
    rw [hd, manysY_cons] at h3
    rw [hd, deepsY_cons] at h1
    rw [hd, manysY_cons]
    have hp : 1 ≤ deepY l[n] := by rw [deepY_is]; omega
    have e0 : wrap64 ((e : Int) - 1) = ((e - 1 : Nat) : Int) := by rw [w_small (by omega) (by omega)]; omega
    have e1 : wrap64 ((m : Int) + (manyY l[n] : Int)) = ((m + manyY l[n] : Nat) : Int) := by rw [w_small (by omega) (by omega)]; omega
    refine Ev.step (fun k => by simp only [spec_l2Many.l0]; rw [if_pos (by omega), if_pos (by omega), if_pos (by omega), rdI l n (by omega), w_succ (by omega), e0]) ?_
    refine Ev.bind (hx (e - 1) (by omega) (by omega)) ?_
    simp only [e1]
    have h5 : deepsY (l.drop (n + 1)) ≤ e := by omega
    have h6 : m + manyY l[n] + manysY (l.drop (n + 1)) ≤ 1048579 := by rw [Nat.add_assoc]; exact h3
    have h4 := ih (n + 1) (m + manyY l[n]) (by omega) h5 h6
    rw [Nat.add_assoc] at h4
    exact h4
theorem many_ev : ∀ x : S29, allY x ≤ 1048576 → ManyOk x := by
  refine indI (fun x ih g e he hd => ?_)
  have hk : ∀ y ∈ x.f3, ManyOk y := fun y hy => ih y hy (by have := allY_mem hy; omega)
  have hl : x.f3.length ≤ 1048576 := by have := allY_len (x := x); omega
  have hm : manysY x.f3 ≤ 1048577 := by have h1 := manyY_all x; have h2 := manyY_is x; omega
  rw [deepY_is] at hd
  refine Ev.step (fun k => by simp only [spec_l2Many.f]; rfl) ?_
  refine Ev.val (many_l0_ev x.f3 hl hk x.f0 x.f1 x.f2 e he x.f3.length 0 1 (by omega) (by rw [List.drop_zero]; omega) (by rw [List.drop_zero]; omega)) ?_
  rw [List.drop_zero, manyY_is]

theorem l2Kids_ev (a : Int) : Ev (fun k => spec_l2Kids.f k a) (kidsOf a) := by
  unfold spec_l2Kids.f kidsOf
  by_cases h1 : a = 1
  · exact Ev.pos h1 (Ev.val (Ev.now _) (by rw [if_pos h1]))
  refine Ev.neg h1 ?_
  rw [if_neg h1]
  by_cases h7 : a = 7
  · exact Ev.pos h7 (Ev.val (Ev.now _) (by rw [if_pos h7]))
  refine Ev.neg h7 ?_
  rw [if_neg h7]
  have yes : a = 2 ∨ a = 3 ∨ a = 4 → Ev (fun k => spec_l2Kids.j0 k a true) (if a = 2 ∨ a = 3 ∨ a = 4 then 2 else if a = 5 ∨ a = 6 then 3 else -1) := fun h => Ev.last (fun k => by simp only [spec_l2Kids.j0]; rw [if_pos trivial, if_pos h])
  by_cases h2 : a = 2
  · refine Ev.pos h2 ?_
    rw [show (a == 2) = true by simp [h2]]
    exact yes (by omega)
  refine Ev.neg h2 ?_
  by_cases h3 : a = 3
  · refine Ev.pos h3 ?_
    rw [show (a == 3) = true by simp [h3]]
    exact yes (by omega)
  refine Ev.neg h3 ?_
  by_cases h4 : a = 4
  · rw [show (a == 4) = true by simp [h4]]
    exact yes (by omega)
  rw [show (a == 4) = false by simp [h4]]
  rw [if_neg (by omega)]
  by_cases h5 : a = 5
  · exact Ev.last (fun k => by simp only [spec_l2Kids.j0]; rw [if_neg (by decide), if_pos h5, if_pos (by omega)])
  by_cases h6 : a = 6
  · exact Ev.last (fun k => by simp only [spec_l2Kids.j0]; rw [if_neg (by decide), if_neg h5, if_pos h6, if_pos (by omega)])
  · exact Ev.last (fun k => by simp only [spec_l2Kids.j0]; rw [if_neg (by decide), if_neg h5, if_neg h6, if_neg (by omega)])

def FormOk (x : S29) : Prop := ∀ d : Nat, d ≤ 100 → Ev (fun k => spec_l2Form.f k x.f0 x.f1 x.f2 x.f3 (d : Int)) (fmY x && decide (deepY x ≤ d))
theorem form_l0_ev (l : List S29) (hl : l.length ≤ 1048576) (hs : ∀ x ∈ l, FormOk x) (a b c : Int) (e : Nat) (he : e < 100) : ∀ (d n : Nat), n + d = l.length → Ev (fun k => spec_l2Form.l0 k ((e + 1 : Nat) : Int) (n : Int) a b c l) (fmsY (l.drop n) && decide (deepsY (l.drop n) ≤ e)) := by
  intro d
  induction d with
  | zero =>
    intro n hn
    rw [List.drop_of_length_le (by omega), fmsY_nil, deepsY_nil]
    exact Ev.last (fun k => by simp only [spec_l2Form.l0]; rw [if_neg (by omega)]; simp)
  | succ d ih =>
    intro n hn
    have hx : FormOk l[n] := hs _ (List.getElem_mem _)
    have hd := List.drop_eq_getElem_cons (l := l) (i := n) (by omega)
    rw [hd, fmsY_cons, deepsY_cons]
    have e0 : wrap64 (((e + 1 : Nat) : Int) - 1) = (e : Int) := by rw [w_small (by omega) (by omega)]; omega
    refine Ev.step (fun k => by simp only [spec_l2Form.l0]; rw [if_pos (by omega), if_pos (by omega), rdI l n (by omega), w_succ (by omega), e0]) ?_
    refine Ev.bind (hx e (by omega)) ?_
    by_cases h : (fmY l[n] && decide (deepY l[n] ≤ e)) = true
    · refine Ev.pos h (Ev.val (ih (n + 1) (by omega)) ?_)
      simp only [Bool.and_eq_true, decide_eq_true_eq] at h
      rw [h.1, Bool.true_and]
      have : (deepsY (l.drop (n + 1)) ≤ e) ↔ (max (deepY l[n]) (deepsY (l.drop (n + 1))) ≤ e) := by omega
      simp only [this]
    · refine Ev.neg h (Ev.val (Ev.now false) ?_)
      by_cases hf : fmY l[n] = true
      · have : ¬ (max (deepY l[n]) (deepsY (l.drop (n + 1))) ≤ e) := by
          simp [hf] at h
          omega
        simp [this]
      · simp [hf]
theorem form_ev : ∀ x : S29, allY x ≤ 1048576 → FormOk x := by
  refine indI (fun x ih g d hd => ?_)
  have hk : ∀ y ∈ x.f3, FormOk y := fun y hy => ih y hy (by have := allY_mem hy; omega)
  have hl : x.f3.length ≤ 1048576 := by have := allY_len (x := x); omega
  rw [fmY_is, deepY_is]
  have bad : ∀ v : Bool, v = false → Ev (fun k => spec_l2Form.j0 k (d : Int) true x.f0 x.f1 x.f2 x.f3) v := fun v hv => Ev.last (fun k => by simp only [spec_l2Form.j0]; rw [if_pos trivial, hv])
  have bad1 : ∀ v : Bool, v = false → Ev (fun k => spec_l2Form.j1 k (d : Int) true x.f0 x.f1 x.f2 x.f3) v := fun v hv => Ev.last (fun k => by simp only [spec_l2Form.j1]; rw [if_pos trivial, hv])
  by_cases hd1 : (d : Int) < 1
  · refine Ev.step (fun k => by simp only [spec_l2Form.f]; rw [if_pos hd1]) (bad _ ?_)
    have : ¬ (1 + deepsY x.f3 ≤ d) := by omega
    simp [this]
  obtain ⟨e, rfl⟩ : ∃ e, d = e + 1 := ⟨d - 1, by omega⟩
  refine Ev.step (fun k => by simp only [spec_l2Form.f]; rw [if_neg hd1]) ?_
  refine Ev.bind (l2Kids_ev x.f0) ?_
  by_cases hn : kidsOf x.f0 = (x.f3.length : Int)
  · refine Ev.pos hn ?_
    have rest : Ev (fun k => spec_l2Form.j0 k ((e + 1 : Nat) : Int) false x.f0 x.f1 x.f2 x.f3) ((if x.f0 = 7 then decide (1 ≤ x.f2 ∧ x.f2 ≤ 20) else decide (x.f2 = 0)) && (fmsY x.f3 && decide (deepsY x.f3 ≤ e))) := by
      have loop : Ev (fun k => spec_l2Form.j1 k ((e + 1 : Nat) : Int) false x.f0 x.f1 x.f2 x.f3) (fmsY x.f3 && decide (deepsY x.f3 ≤ e)) := by
        refine Ev.step (fun k => by simp only [spec_l2Form.j1]; rw [if_neg (by decide)]) ?_
        exact form_l0_ev x.f3 hl hk x.f0 x.f1 x.f2 e (by omega) x.f3.length 0 (by omega)
      by_cases h7 : x.f0 = 7
      · rw [if_pos h7]
        by_cases c1 : x.f2 < 1
        · refine Ev.step (fun k => by simp only [spec_l2Form.j0]; rw [if_neg (by decide), if_pos h7, if_pos c1]) (bad1 _ ?_)
          have : ¬ (1 ≤ x.f2 ∧ x.f2 ≤ 20) := by omega
          simp [this]
        · by_cases c2 : x.f2 > 20
          · refine Ev.step (fun k => by simp only [spec_l2Form.j0]; rw [if_neg (by decide), if_pos h7, if_neg c1, if_pos c2]) (bad1 _ ?_)
            have : ¬ (1 ≤ x.f2 ∧ x.f2 ≤ 20) := by omega
            simp [this]
          · refine Ev.step (fun k => by simp only [spec_l2Form.j0]; rw [if_neg (by decide), if_pos h7, if_neg c1, if_neg c2]) (Ev.val loop ?_)
            have : (1 ≤ x.f2 ∧ x.f2 ≤ 20) := by omega
            simp [this]
      · rw [if_neg h7]
        by_cases c0 : x.f2 = 0
        · refine Ev.step (fun k => by simp only [spec_l2Form.j0]; rw [if_neg (by decide), if_neg h7, show (x.f2 != 0) = false by simp [c0]]) (Ev.val loop ?_)
          simp [c0]
        · refine Ev.step (fun k => by simp only [spec_l2Form.j0]; rw [if_neg (by decide), if_neg h7, show (x.f2 != 0) = true by simp [c0]]) (bad1 _ ?_)
          simp [c0]
    have hdd : (1 + deepsY x.f3 ≤ e + 1) ↔ (deepsY x.f3 ≤ e) := by omega
    simp only [hdd, okN, hn, decide_true, Bool.true_and]
    by_cases b0 : x.f1 < 0
    · refine Ev.pos b0 (bad _ ?_)
      have h1 : ¬ (0 ≤ x.f1 ∧ x.f1 ≤ 4) := by omega
      have h2 : ¬ (x.f1 = 0) := by omega
      simp [h1, h2]
    refine Ev.neg b0 ?_
    by_cases b5 : x.f1 ≥ 5
    · refine Ev.pos b5 (bad _ ?_)
      have h1 : ¬ (0 ≤ x.f1 ∧ x.f1 ≤ 4) := by omega
      have h2 : ¬ (x.f1 = 0) := by omega
      simp [h1, h2]
    refine Ev.neg b5 ?_
    by_cases a1 : x.f0 = 1
    · refine Ev.pos a1 (Ev.val rest ?_)
      rw [if_pos a1]
      have h1 : (0 ≤ x.f1 ∧ x.f1 ≤ 4) := by omega
      simp [h1, Bool.and_assoc]
    · refine Ev.neg a1 ?_
      rw [if_neg a1]
      by_cases hb : x.f1 = 0
      · rw [show (x.f1 != 0) = false by simp [hb]]
        refine Ev.val rest ?_
        simp [hb, Bool.and_assoc]
      · rw [show (x.f1 != 0) = true by simp [hb]]
        exact bad _ (by simp [hb])
  · refine Ev.neg hn (bad _ ?_)
    simp [okN, hn]

theorem in_is (a b c : Int) : impl_in.f a b c = some (decide (b ≤ a ∧ a ≤ c)) := by
  unfold impl_in.f
  by_cases h : b ≤ a
  · rw [if_pos h]; simp [h]
  · rw [if_neg h]; simp [h]
theorem kids_is (a : Int) (h1 : 1 ≤ a) (h7 : a ≤ 7) : impl_kids.f a = some (kidsOf a) := by
  have : a = 1 ∨ a = 2 ∨ a = 3 ∨ a = 4 ∨ a = 5 ∨ a = 6 ∨ a = 7 := by omega
  rcases this with rfl | rfl | rfl | rfl | rfl | rfl | rfl <;> rfl
theorem kidsOf_out {a : Int} (h : ¬ (1 ≤ a ∧ a ≤ 7)) : kidsOf a = -1 := by
  unfold kidsOf
  rw [if_neg (by omega), if_neg (by omega), if_neg (by omega), if_neg (by omega)]
def FmOk (x : S29) : Prop := Ev (fun k => impl_Ex_formed.f k x.f0 x.f1 x.f2 x.f3) (fmY x)
theorem fm_l0_ev (l : List S29) (hl : l.length ≤ 1048576) (hs : ∀ x ∈ l, FmOk x) : ∀ (d n : Nat), n + d = l.length → ∃ r : Int, Ev (fun k => impl_Ex_52.l0 k l (l.length : Int) (n : Int)) r ∧ (decide (r ≥ 0) = !fmsY (l.drop n)) := by
  intro d
  induction d with
  | zero =>
    intro n hn
    rw [List.drop_of_length_le (by omega), fmsY_nil]
    exact ⟨-1, Ev.last (fun k => by simp only [impl_Ex_52.l0]; rw [if_neg (by omega)]), by decide⟩
  | succ d ih =>
    intro n hn
    have hx : FmOk l[n] := hs _ (List.getElem_mem _)
    have hd := List.drop_eq_getElem_cons (l := l) (i := n) (by omega)
    rw [hd, fmsY_cons]
    have h1 : Ev (fun k => impl_Ex_formed_1.f k l[n].f0 l[n].f1 l[n].f2 l[n].f3) (!fmY l[n]) := Ev.step (fun k => by simp only [impl_Ex_formed_1.f]; rfl) (Ev.bindS hx rfl)
    cases hf : fmY l[n] with
    | true =>
      obtain ⟨r, hr, hv⟩ := ih (n + 1) (by omega)
      refine ⟨r, ?_, by rw [hv, Bool.true_and]⟩
      refine Ev.step (fun k => by simp only [impl_Ex_52.l0]; rw [if_pos (by omega), if_pos (by omega), if_pos (by omega), rdI l n (by omega), w_succ (by omega)]) ?_
      exact Ev.bind h1 (Ev.neg (by rw [hf]; decide) hr)
    | false =>
      refine ⟨(n : Int), ?_, by simp⟩
      refine Ev.step (fun k => by simp only [impl_Ex_52.l0]; rw [if_pos (by omega), if_pos (by omega), if_pos (by omega), rdI l n (by omega), w_succ (by omega)]) ?_
      exact Ev.bind h1 (Ev.pos (by rw [hf]; decide) (Ev.now _))
theorem formed_ev : ∀ x : S29, allY x ≤ 1048576 → FmOk x := by
  refine indI (fun x ih g => ?_)
  have hk : ∀ y ∈ x.f3, FmOk y := fun y hy => ih y hy (by have := allY_mem hy; omega)
  have hl : x.f3.length ≤ 1048576 := by have := allY_len (x := x); omega
  have hc : Ev (fun k => impl_Ex_44.f k x.f3) (!fmsY x.f3) := by
    obtain ⟨r, hr, hv⟩ := fm_l0_ev x.f3 hl hk x.f3.length 0 (by omega)
    rw [List.drop_zero] at hv
    refine Ev.step (fun k => by simp only [impl_Ex_44.f]; rfl) ?_
    refine Ev.bindS (Ev.step (fun k => by simp only [impl_Ex_52.f]; rfl) hr) ?_
    rw [hv]
  have bad : ∀ v : Bool, v = false → Ev (fun k => impl_Ex_formed.j0 k true x.f0 x.f1 x.f2 x.f3) v := fun v hv => Ev.last (fun k => by simp only [impl_Ex_formed.j0]; rw [if_pos trivial, hv])
  have bad1 : ∀ v : Bool, v = false → Ev (fun k => impl_Ex_formed.j1 k true x.f0 x.f1 x.f2 x.f3) v := fun v hv => Ev.last (fun k => by simp only [impl_Ex_formed.j1]; rw [if_pos trivial, hv])
  have last : Ev (fun k => impl_Ex_formed.j1 k false x.f0 x.f1 x.f2 x.f3) ((if x.f0 = 7 then decide (1 ≤ x.f2 ∧ x.f2 ≤ 20) else decide (x.f2 = 0)) && fmsY x.f3) := by
    by_cases h7 : x.f0 = 7
    · rw [if_pos h7]
      refine Ev.step (fun k => by simp only [impl_Ex_formed.j1]; rw [if_neg (by decide), if_pos h7, in_is, Option.bind_some]) ?_
      by_cases hc7 : 1 ≤ x.f2 ∧ x.f2 ≤ 20
      · refine Ev.pos (by simp [hc7]) (Ev.bindS hc ?_)
        simp [hc7]
      · refine Ev.neg (by simp; omega) (Ev.val (Ev.now false) ?_)
        simp [hc7]
    · rw [if_neg h7]
      by_cases hc0 : x.f2 = 0
      · refine Ev.step (fun k => by simp only [impl_Ex_formed.j1]; rw [if_neg (by decide), if_neg h7, if_pos hc0]) (Ev.bindS hc ?_)
        simp [hc0]
      · refine Ev.last (fun k => by simp only [impl_Ex_formed.j1]; rw [if_neg (by decide), if_neg h7, if_neg hc0]; simp [hc0])
  unfold FmOk
  rw [fmY_is]
  refine Ev.step (fun k => by simp only [impl_Ex_formed.f, impl_isKind.f]; rw [in_is, Option.bind_some, Option.bind_some]) ?_
  by_cases hkd : 1 ≤ x.f0 ∧ x.f0 ≤ 7
  · refine Ev.pos (by simp [hkd]) ?_
    refine Ev.bind (Ev.one (fun _ => kids_is x.f0 hkd.1 hkd.2)) ?_
    by_cases hn : kidsOf x.f0 = (x.f3.length : Int)
    · rw [show ((x.f3.length : Int) != kidsOf x.f0) = false by simp [hn]]
      by_cases a1 : x.f0 = 1
      · refine Ev.step (fun k => by simp only [impl_Ex_formed.j0, impl_isSym.f]; rw [if_neg (by decide), if_pos a1, in_is, Option.bind_some, Option.bind_some]) ?_
        by_cases hb : 0 ≤ x.f1 ∧ x.f1 ≤ 4
        · refine Ev.pos (by simp [hb]) (Ev.val last ?_)
          simp only [okN, hn, decide_true, Bool.true_and]
          rw [if_pos a1]
          simp [hb]
        · refine Ev.neg (by simp; omega) (bad1 _ ?_)
          simp only [okN, hn, decide_true, Bool.true_and]
          rw [if_pos a1]
          simp [hb]
      · by_cases hb : x.f1 = 0
        · refine Ev.step (fun k => by simp only [impl_Ex_formed.j0]; rw [if_neg (by decide), if_neg a1, show (x.f1 != 0) = false by simp [hb]]) (Ev.val last ?_)
          simp only [okN, hn, decide_true, Bool.true_and]
          rw [if_neg a1]
          simp [hb]
        · refine Ev.step (fun k => by simp only [impl_Ex_formed.j0]; rw [if_neg (by decide), if_neg a1, show (x.f1 != 0) = true by simp [hb]]) (bad1 _ ?_)
          simp only [okN, hn, decide_true, Bool.true_and]
          rw [if_neg a1]
          simp [hb]
    · rw [show ((x.f3.length : Int) != kidsOf x.f0) = true by simp; omega]
      exact bad _ (by simp [okN, hn])
  · refine Ev.neg (by simp; omega) (bad _ ?_)
    have hn : ¬ (kidsOf x.f0 = (x.f3.length : Int)) := by rw [kidsOf_out hkd]; omega
    simp [okN, hn]
end Go.Proofs.Ytbcdfbiggjfmlaa.M
namespace Go.Proofs.Ytbcdfbiggjfmlaa.M
set_option linter.unusedVariables false
set_option linter.unusedSimpArgs false
open Go.RowKit Go.Proofs.YtbcdfbiggjfmlaaW.PrintWords Go.Proofs.YtbcdfbiggjfmlaaW.PrintLast

def okX (x : S29) : Bool := fmY x && decide (deepY x ≤ 5) && decide (manyY x ≤ 12)
theorem form5 (x : S29) (h : allY x ≤ 1048576) : Ev (fun k => spec_l2Form.f k x.f0 x.f1 x.f2 x.f3 5) (fmY x && decide (deepY x ≤ 5)) := form_ev x h 5 (by omega)
theorem many5 (x : S29) (h : allY x ≤ 1048576) (hd : deepY x ≤ 5) : Ev (fun k => spec_l2Many.f k x.f0 x.f1 x.f2 x.f3 5) (manyY x : Int) := many_ev x h 5 (by omega) (by omega)
theorem spec_ExOk_ev (x : S29) (h : allY x ≤ 1048576) : Ev (fun k => spec_ExOk.f k x.f0 x.f1 x.f2 x.f3) (okX x) := by
  unfold spec_ExOk.f okX
  refine Ev.bind (form5 x h) ?_
  by_cases hf : (fmY x && decide (deepY x ≤ 5)) = true
  · have hd : deepY x ≤ 5 := by simp at hf; exact hf.2
    refine Ev.pos hf (Ev.bindS (many5 x h hd) ?_)
    rw [hf, Bool.true_and]
    have : ((manyY x : Int) ≤ 12) ↔ (manyY x ≤ 12) := by omega
    simp only [this]
  · refine Ev.neg hf (Ev.val (Ev.now _) ?_)
    simp only [Bool.not_eq_true] at hf
    rw [hf]
    rfl
theorem impl_ExOk_ev (x : S29) (h : allY x ≤ 1048576) : Ev (fun k => impl_ExOk.f k x.f0 x.f1 x.f2 x.f3) (okX x) := by
  unfold impl_ExOk.f okX
  refine Ev.bind (size_ev x h) ?_
  by_cases hm : manyY x ≤ 12
  · refine Ev.pos (show ((manyY x : Nat) : Int) ≤ 12 by omega) ?_
    by_cases hd : deepY x ≤ 5
    · refine Ev.pos (show ((deepY x : Nat) : Int) ≤ 5 by omega) (Ev.bindS (formed_ev x h) ?_)
      simp [hm, hd]
    · refine Ev.neg (show ¬ (((deepY x : Nat) : Int) ≤ 5) by omega) (Ev.val (Ev.now _) ?_)
      simp [hd]
  · refine Ev.neg (show ¬ (((manyY x : Nat) : Int) ≤ 12) by omega) (Ev.val (Ev.now _) ?_)
    simp [hm]
end Go.Proofs.Ytbcdfbiggjfmlaa.M
namespace Go.Proofs.Ytbcdfbiggjfmlaa.M
set_option linter.unusedVariables false
set_option linter.unusedSimpArgs false
open Go.RowKit Go.Proofs.YtbcdfbiggjfmlaaW.PrintWords Go.Proofs.YtbcdfbiggjfmlaaW.PrintLast

def numX (x : S29) : Int := if okX x = true then (manyY x : Int) else 0
theorem spec_ExMany_ev (x : S29) (h : allY x ≤ 1048576) : Ev (fun k => spec_ExMany.f k x.f0 x.f1 x.f2 x.f3) (numX x) := by
  unfold spec_ExMany.f numX
  refine Ev.bind (spec_ExOk_ev x h) ?_
  by_cases ho : okX x = true
  · have hd : deepY x ≤ 5 := by simp [okX] at ho; exact ho.1.2
    refine Ev.pos ho (Ev.bindS (many5 x h hd) ?_)
    rw [if_pos ho]
  · refine Ev.neg ho (Ev.val (Ev.now _) ?_)
    rw [if_neg ho]
theorem impl_ExMany_ev (x : S29) (h : allY x ≤ 1048576) : Ev (fun k => impl_ExMany.f k x.f0 x.f1 x.f2 x.f3) (numX x) := by
  unfold impl_ExMany.f numX
  refine Ev.bind (impl_ExOk_ev x h) ?_
  by_cases ho : okX x = true
  · refine Ev.pos ho (Ev.bindS (size_ev x h) ?_)
    rw [if_pos ho]
  · refine Ev.neg ho (Ev.val (Ev.now _) ?_)
    rw [if_neg ho]
theorem FnExactExMany_pure (x : S24) (h : good24 x) : ∃ k, laws_FnExactExMany.f k x.f0 x.f1 x.f2 x.f3 = some true := by
  refine Ev.rounds (g := fun k => laws_FnExactExMany.f k x.f0 x.f1 x.f2 x.f3) ?_
  unfold laws_FnExactExMany.f
  refine Ev.bind (szEx_ev x h 1048576 (by omega) (by omega)) ?_
  by_cases hs : ((allX x : Nat) : Int) ≤ 1048576
  · rw [leftOf_pos hs]
    refine Ev.neg (by omega) ?_
    have tx := toEx_ev x (by omega)
    have ax := allY_cv x
    refine Ev.bind tx (Ev.bind (spec_ExMany_ev (cvX x) (by omega)) (Ev.bind tx (Ev.bind (impl_ExMany_ev (cvX x) (by omega)) (Ev.pos rfl ?_))))
    exact Ev.bind tx (Ev.bindS (eqEx_ev (cvX x) (by omega)) rfl)
  · rw [leftOf_neg hs]
    exact Ev.pos (by omega) (Ev.now _)
end Go.Proofs.Ytbcdfbiggjfmlaa.M
