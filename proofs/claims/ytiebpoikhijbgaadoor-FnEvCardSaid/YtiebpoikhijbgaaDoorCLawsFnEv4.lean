/- What the claim's law leans on: the program's functions, what they compute, and the law over plain values; no condition is asked. (Part 4 of 4.) -/
import Derived.Test.YtiebpoikhijbgaaDoorCLawsFnEv3
namespace Go.Proofs.YtiebpoikhijbgaaDoor.M
set_option linter.unusedVariables false
set_option linter.unusedSimpArgs false
open Go.RowKit Go.Proofs.YtiebpoikhijbgaaDoorW.PrintWords Go.Proofs.YtiebpoikhijbgaaDoorW.PrintLast

theorem wrap_in (i : Int) : -9223372036854775808 ≤ wrap64 i ∧ wrap64 i ≤ 9223372036854775807 := by
  unfold wrap64
  omega
theorem rd_in64 {l : List S35} (h : ∀ x ∈ l, in64 x) (i : Int) : in64 (rd_T35 l i) := by
  show in64 (l.getD i.toNat z35)
  rw [List.getD_eq_getElem?_getD]
  by_cases q : i.toNat < l.length
  · rw [List.getElem?_eq_getElem q]
    exact h _ (List.getElem_mem q)
  · rw [List.getElem?_eq_none (by omega)]
    exact ⟨⟨by decide, by decide⟩, ⟨by decide, by decide⟩⟩
theorem set_in64 {l : List S35} (h : ∀ x ∈ l, in64 x) (n : Nat) {v : S35} (hv : in64 v) : ∀ x ∈ l.set n v, in64 x := by
  intro x hx
  rcases List.mem_or_eq_of_mem_set hx with hx | rfl
  · exact h x hx
  · exact hv
theorem app_in64 {l : List S35} (h : ∀ x ∈ l, in64 x) {v : S35} (hv : in64 v) : ∀ x ∈ l ++ [v], in64 x := by
  intro x hx
  rcases List.mem_append.1 hx with hx | hx
  · exact h x hx
  · rw [List.mem_singleton.1 hx]
    exact hv
theorem l1Evs_l0_ev (bs : List Int) (hb : Bytes bs) : ∀ (d : Nat) (out : List S35) (at_ i p : Int), i = d → out.length + d ≤ 1000 → 0 ≤ p → p + 3 * d ≤ 100000 → (∀ x ∈ out, in64 x) →
    ∃ o p', Ev (fun k => spec_l1Evs.l0 k out at_ i bs p) (o, p') ∧ o.length = out.length + d ∧ 0 ≤ p' ∧ p' ≤ p + 3 * d ∧ (∀ x ∈ o, in64 x) := by
  intro d
  induction d with
  | zero =>
    intro out at_ i p hi ho h0 h1 hq
    refine ⟨out, p, Ev.last (fun k => ?_), by omega, by omega, by omega, hq⟩
    simp only [spec_l1Evs.l0]
    rw [if_neg (by omega)]
  | succ d ih =>
    intro out at_ i p hi ho h0 h1 hq
    obtain ⟨a, ha, _⟩ := num_ev bs hb p [1, 1, 1, 2, 3, 7] (by simp) (by simp) (by omega) (by omega)
    obtain ⟨s, hs, _⟩ := num_ev bs hb (p + 1) [0, 0, 1, 1, 2, 2, 3, 4] (by simp) (by simp) (by omega) (by omega)
    obtain ⟨v, hv, hvm⟩ := num_ev bs hb (p + 1 + 1) [0, 0, 1, 5, 100] (by simp) (by simp) (by omega) (by omega)
    have w1 : wrap64 (i - 1) = i - 1 := w_small (by omega) (by omega)
    have hv5 : 0 ≤ v ∧ v ≤ 100 := by
      simp only [List.mem_cons, List.not_mem_nil, or_false] at hvm
      omega
    have hw := wrap_in (at_ + a)
    obtain ⟨o, p', h2, h3, h4, h5, h6⟩ := ih (out ++ [⟨s, wrap64 (at_ + a), v⟩]) (wrap64 (at_ + a)) (i - 1) (p + 1 + 1 + 1) (by omega) (by rw [List.length_append, List.length_singleton]; omega) (by omega) (by omega) (app_in64 hq ⟨hw, by dsimp only; omega, by dsimp only; omega⟩)
    refine ⟨o, p', ?_, by rw [h3, List.length_append, List.length_singleton]; omega, h4, by omega, h6⟩
    refine Ev.step (fun k => by simp only [spec_l1Evs.l0]; rw [if_pos (by omega), w1]) ?_
    exact Ev.bind ha (Ev.bind hs (Ev.bind hv (Ev.pos (by omega) h2)))

theorem l1Evs_ev (bs : List Int) (hb : Bytes bs) (p most : Int) (h0 : 0 ≤ p) (h1 : p ≤ 10000) (hm : 0 ≤ most) (hm2 : most ≤ 100) :
    ∃ o p', Ev (fun k => spec_l1Evs.f k bs p most) (o, p') ∧ (o.length : Int) ≤ most ∧ 0 ≤ p' ∧ p' ≤ p + 1 + 3 * most ∧ (∀ x ∈ o, in64 x) := by
  have w1 : wrap64 (most + 1) = most + 1 := w_small (by omega) (by omega)
  obtain ⟨r, hr, h2, h3⟩ := pick_ev bs hb p (most + 1) h0 (by omega)
  obtain ⟨o, p', h4, h5, h6, h7, h8⟩ := l1Evs_l0_ev bs hb r.toNat [] 0 r (p + 1) (by omega) (by simp; omega) (by omega) (by omega) (fun x hx => by simp at hx)
  refine ⟨o, p', ?_, by rw [h5]; simp; omega, h6, by omega, h8⟩
  unfold spec_l1Evs.f
  rw [w1]
  exact Ev.bind hr h4

theorem l1Bent_l0_ev : ∀ (d : Nat) (out : List S35) (bs : List Int) (p : Int), 0 < out.length → out.length + d = 25 → (∀ x ∈ out, in64 x) →
    ∃ o, Ev (fun k => spec_l1Bent.l0 k out bs p) (o, p) ∧ o.length = 25 ∧ (∀ x ∈ o, in64 x) := by
  intro d
  induction d with
  | zero =>
    intro out bs p h0 h1 hq
    refine ⟨out, Ev.last (fun k => ?_), by omega, hq⟩
    simp only [spec_l1Bent.l0]
    rw [if_neg (by omega)]
  | succ d ih =>
    intro out bs p h0 h1 hq
    have w1 : wrap64 ((out.length : Int) - 1) = (out.length : Int) - 1 := w_small (by omega) (by omega)
    obtain ⟨o, h2, h3⟩ := ih (out ++ [⟨0, wrap64 ((rd_T35 out ((out.length : Int) - 1)).f1 + 1), 0⟩]) bs p (by simp) (by rw [List.length_append, List.length_singleton]; omega) (app_in64 hq ⟨wrap_in _, by dsimp only; omega, by dsimp only; omega⟩)
    refine ⟨o, ?_, h3⟩
    refine Ev.step (fun k => by simp only [spec_l1Bent.l0]; rw [if_pos (by omega), w1, if_pos (by omega), if_pos (by omega), if_pos (by omega)]) ?_
    exact h2

theorem l1Bent_ev (bs : List Int) (hb : Bytes bs) (p : Int) (h0 : 0 ≤ p) (h1 : p ≤ 5000) : ∃ o p', Ev (fun k => spec_l1Bent.f k bs p) (o, p') ∧ o.length ≤ 25 ∧ 0 ≤ p' ∧ p' ≤ p + 60 ∧ (∀ x ∈ o, in64 x) := by
  unfold spec_l1Bent.f
  obtain ⟨o, p1, he, hl, h2, h3, hq⟩ := l1Evs_ev bs hb p 12 h0 (by omega) (by omega) (by omega)
  by_cases hz : (o.length : Int) = 0
  · exact ⟨o, p1, Ev.bind he (Ev.pos hz (Ev.now _)), by omega, h2, by omega, hq⟩
  obtain ⟨r, hr, r1, r2⟩ := pick_ev bs hb p1 (o.length : Int) h2 (by omega)
  have hrl : r < (o.length : Int) := by omega
  obtain ⟨c, hc, c1, c2⟩ := pick_ev bs hb (p1 + 1) 40 (by omega) (by omega)
  by_cases c0 : c = 0
  · obtain ⟨v, hv, hvm⟩ := num_ev bs hb (p1 + 1 + 1) [-1, 5] (by simp) (by simp) (by omega) (by omega)
    exact ⟨_, _, Ev.bind he (Ev.neg hz (Ev.bind hr (Ev.bind hc (Ev.pos c0 (Ev.bind hv (Ev.pos r1 (Ev.pos hrl (Ev.now _)))))))), by rw [List.length_set]; dsimp only; omega, by omega, by omega, set_in64 hq _ ⟨(rd_in64 hq r).1, (rd_in64 hq r).2⟩⟩
  by_cases c10 : c = 1
  · obtain ⟨v, hv, hvm⟩ := num_ev bs hb (p1 + 1 + 1) [0, 1001, (rd_T35 o 0).f1] (by simp) (by simp) (by omega) (by omega)
    exact ⟨_, _, Ev.bind he (Ev.neg hz (Ev.bind hr (Ev.bind hc (Ev.neg c0 (Ev.pos c10 (Ev.pos (by dsimp only; omega) (Ev.bind hv (Ev.pos r1 (Ev.pos hrl (Ev.now _)))))))))), by rw [List.length_set]; dsimp only; omega, by omega, by omega, set_in64 hq _ ⟨by simp only [List.mem_cons, List.not_mem_nil, or_false] at hvm; have q := (rd_in64 hq 0).1; rcases hvm with rfl | rfl | rfl; exact ⟨by dsimp only; omega, by dsimp only; omega⟩; exact ⟨by dsimp only; omega, by dsimp only; omega⟩; exact q, (rd_in64 hq r).2⟩⟩
  by_cases c20 : c = 2
  · obtain ⟨v, hv, hvm⟩ := num_ev bs hb (p1 + 1 + 1) [-1, 101] (by simp) (by simp) (by omega) (by omega)
    exact ⟨_, _, Ev.bind he (Ev.neg hz (Ev.bind hr (Ev.bind hc (Ev.neg c0 (Ev.neg c10 (Ev.pos c20 (Ev.bind hv (Ev.pos r1 (Ev.pos hrl (Ev.now _)))))))))), by rw [List.length_set]; dsimp only; omega, by omega, by omega, set_in64 hq _ ⟨(rd_in64 hq r).1, by simp only [List.mem_cons, List.not_mem_nil, or_false] at hvm; rcases hvm with rfl | rfl; exact ⟨by dsimp only; omega, by dsimp only; omega⟩; exact ⟨by dsimp only; omega, by dsimp only; omega⟩⟩⟩
  by_cases c30 : c = 3
  · obtain ⟨o2, h4, h5, h6⟩ := l1Bent_l0_ev (25 - o.length) o bs (p1 + 1 + 1) (by omega) (by omega) hq
    exact ⟨o2, _, Ev.bind he (Ev.neg hz (Ev.bind hr (Ev.bind hc (Ev.neg c0 (Ev.neg c10 (Ev.neg c20 (Ev.pos c30 h4))))))), by omega, by omega, by omega, h6⟩
  · exact ⟨o, _, Ev.bind he (Ev.neg hz (Ev.bind hr (Ev.bind hc (Ev.neg c0 (Ev.neg c10 (Ev.neg c20 (Ev.neg c30 (Ev.now _)))))))), by omega, by omega, by omega, hq⟩

theorem openBent_ev (l : List Int) (h : ∀ x ∈ l, (Lit.int .u8 x).wf = true) : ∃ o p', Ev (fun k => spec_l1Bent.f k (l.take 2000) 0) (o, p') ∧ o.length ≤ 25 ∧ 0 ≤ p' ∧ p' ≤ 60 ∧ (∀ x ∈ o, in64 x) := by
  obtain ⟨o, p', h1, h2, h3, h4, h5⟩ := l1Bent_ev (l.take 2000) (open_bytes h) 0 (by omega) (by omega)
  exact ⟨o, p', h1, h2, h3, by omega, h5⟩
end Go.Proofs.YtiebpoikhijbgaaDoor.M
namespace Go.Proofs.YtiebpoikhijbgaaDoor.M
open Go.RowKit Go.Proofs.YtiebpoikhijbgaaDoorW.PrintWords Go.Proofs.YtiebpoikhijbgaaDoorW.PrintLast Go.Proofs.YtiebpoikhijbgaaDoorW.PrintMore
attribute [local go_sem] max2_int min2_int max_two min_two max_three min_three max_four min_four
set_option linter.unusedVariables false
set_option linter.unusedSimpArgs false






end Go.Proofs.YtiebpoikhijbgaaDoor.M
namespace Go.Proofs.YtiebpoikhijbgaaDoor.M
set_option linter.unusedVariables false
set_option linter.unusedSimpArgs false
open Go.RowKit Go.Proofs.YtiebpoikhijbgaaDoorW.PrintWords Go.Proofs.YtiebpoikhijbgaaDoorW.PrintLast

def evsEq : List S35 → List S35 → Bool
  | [], [] => true
  | x :: xs, y :: ys => !(!(x.f0 == y.f0) || (!(x.f1 == y.f1) || (!(x.f2 == y.f2)))) && evsEq xs ys
  | _, _ => false
theorem evsEq_iff : ∀ a b : List S35, evsEq a b = true ↔ a = b
  | [], [] => by simp [evsEq]
  | [], _ :: _ => by simp [evsEq]
  | _ :: _, [] => by simp [evsEq]
  | x :: xs, y :: ys => by
    unfold evsEq
    rw [Bool.and_eq_true, evsEq_iff xs ys]
    obtain ⟨a, b, c⟩ := x
    obtain ⟨a', b', c'⟩ := y
    simp
theorem evsEq_self (a : List S35) : evsEq a a = true := (evsEq_iff a a).2 rfl
theorem evsEq_len : ∀ a b : List S35, a.length ≠ b.length → evsEq a b = false := by
  intro a b h
  rw [Bool.eq_false_iff]
  intro e
  exact h (by rw [(evsEq_iff a b).1 e])

theorem impl_Equal_l0_ev (a b : List S35) (hl : a.length ≤ 9223372036854775807) (hab : a.length = b.length) : ∀ d n : Nat, n + d = a.length → Ev (fun k => impl_Ev.l0 k a b (a.length : Int) (n : Int)) (evsEq (a.drop n) (b.drop n)) := by
  intro d
  induction d with
  | zero =>
    intro n hn
    rw [List.drop_of_length_le (by omega), List.drop_of_length_le (by omega)]
    exact Ev.last (fun k => by simp only [impl_Ev.l0]; rw [if_neg (by omega)]; rfl)
  | succ d ih =>
    intro n hn
    have hra : rd_T35 a (n : Int) = a.getD n z35 := rfl
    have hrb : rd_T35 b (n : Int) = b.getD n z35 := rfl
    rw [drop_at a z35 n (by omega), drop_at b z35 n (by omega)]
    have next := ih (n + 1) (by omega)
    refine Ev.step (fun k => by simp only [impl_Ev.l0]; rw [if_pos (by omega), if_pos (by omega), if_pos (by omega), if_pos (by omega), hra, hrb, w_succ (by omega)]) ?_
    generalize a.getD n z35 = x at *
    generalize b.getD n z35 = y at *
    unfold evsEq
    by_cases h : (!(x.f0 == y.f0) || (!(x.f1 == y.f1) || (!(x.f2 == y.f2)))) = true
    · rw [h]
      exact Ev.pos rfl (Ev.now _)
    · simp only [Bool.not_eq_true] at h
      rw [h]
      exact Ev.neg (by decide) next
theorem impl_EvsSame_ev (a b : List S35) (hl : a.length ≤ 9223372036854775807) : Ev (fun k => impl_EvsSame.f k a b) (evsEq a b) := by
  unfold impl_EvsSame.f impl_Ev.f
  refine Ev.bindS (a := evsEq a b) ?_ rfl
  by_cases h : a.length = b.length
  · exact Ev.pos (by omega) (impl_Equal_l0_ev a b hl h a.length 0 (by omega))
  · rw [evsEq_len a b h]
    exact Ev.neg (by omega) (Ev.now _)

def evsTill (l : List S35) (at_ : Int) : List S35 := l.filter fun x => decide (x.f1 ≤ at_)
theorem evsTill_len (l : List S35) (at_ : Int) : (evsTill l at_).length ≤ l.length := List.length_filter_le _ _

theorem spec_EvsTill_l0_ev (l : List S35) (at_ : Int) (hl : l.length ≤ 1099511627776) : ∀ (d n : Nat) (out : List S35), n + d = l.length → out.length ≤ n → Ev (fun k => spec_EvsTill.l0 k l at_ out (n : Int)) (out ++ evsTill (l.drop n) at_) := by
  intro d
  induction d with
  | zero =>
    intro n out hn ho
    rw [List.drop_of_length_le (by omega)]
    exact Ev.last (fun k => by simp only [spec_EvsTill.l0]; rw [if_neg (by omega)]; simp [evsTill])
  | succ d ih =>
    intro n out hn ho
    have hr : rd_T35 l (n : Int) = l.getD n z35 := rfl
    rw [drop_at l z35 n (by omega)]
    refine Ev.step (fun k => by simp only [spec_EvsTill.l0]; rw [if_pos (by omega), if_pos (by omega), hr, w_succ (by omega)]) ?_
    generalize l.getD n z35 = x at *
    by_cases h : x.f1 ≤ at_
    · refine Ev.pos h (Ev.pos (by omega) ?_)
      have next := ih (n + 1) (out ++ [x]) (by omega) (by rw [List.length_append, List.length_singleton]; omega)
      refine Ev.val next ?_
      simp [evsTill, h]
    · refine Ev.neg h ?_
      have next := ih (n + 1) out (by omega) (by omega)
      refine Ev.val next ?_
      simp [evsTill, h]
theorem spec_EvsTill_ev (l : List S35) (at_ : Int) (hl : l.length ≤ 1099511627776) : Ev (fun k => spec_EvsTill.f k l at_) (evsTill l at_) := by
  unfold spec_EvsTill.f
  exact spec_EvsTill_l0_ev l at_ hl l.length 0 [] (by omega) (by simp)

theorem impl_EvsTill_l0_ev (l : List S35) (at_ : Int) (hl : l.length ≤ 1099511627776) : ∀ (d n : Nat) (out : List S35), n + d = l.length → out.length ≤ n → Ev (fun k => impl_EvsTill.l0 k at_ out l (l.length : Int) (n : Int)) (out ++ evsTill (l.drop n) at_) := by
  intro d
  induction d with
  | zero =>
    intro n out hn ho
    rw [List.drop_of_length_le (by omega)]
    exact Ev.last (fun k => by simp only [impl_EvsTill.l0]; rw [if_neg (by omega)]; simp [evsTill])
  | succ d ih =>
    intro n out hn ho
    have hr : rd_T35 l (n : Int) = l.getD n z35 := rfl
    rw [drop_at l z35 n (by omega)]
    refine Ev.step (fun k => by simp only [impl_EvsTill.l0]; rw [if_pos (by omega), if_pos (by omega), if_pos (by omega), hr, w_succ (by omega)]) ?_
    generalize l.getD n z35 = x at *
    by_cases h : x.f1 ≤ at_
    · refine Ev.pos h (Ev.pos (by omega) ?_)
      have next := ih (n + 1) (out ++ [x]) (by omega) (by rw [List.length_append, List.length_singleton]; omega)
      refine Ev.val next ?_
      simp [evsTill, h]
    · refine Ev.neg h ?_
      have next := ih (n + 1) out (by omega) (by omega)
      refine Ev.val next ?_
      simp [evsTill, h]
theorem impl_EvsTill_ev (l : List S35) (at_ : Int) (hl : l.length ≤ 1099511627776) : Ev (fun k => impl_EvsTill.f k l at_) (evsTill l at_) := by
  unfold impl_EvsTill.f
  exact impl_EvsTill_l0_ev l at_ hl l.length 0 [] (by omega) (by simp)

end Go.Proofs.YtiebpoikhijbgaaDoor.M
namespace Go.Proofs.YtiebpoikhijbgaaDoor.M
set_option linter.unusedVariables false
set_option linter.unusedSimpArgs false
open Go Go.RowKit Go.Proofs.YtiebpoikhijbgaaDoorW.PrintWords Go.Proofs.YtiebpoikhijbgaaDoorW.PrintLast

theorem evsGo_low : ∀ (l : List S35) (p : Int), evsGo p l = true → ∀ x ∈ l, p < x.f1
  | [], _, _, _, h => by simp at h
  | y :: ys, p, h, x, hx => by
    unfold evsGo at h
    simp only [Bool.and_eq_true, decide_eq_true_eq] at h
    rcases List.mem_cons.1 hx with rfl | hx
    · exact h.1.2
    · have := evsGo_low ys y.f1 h.2 x hx
      omega
theorem evsTill_low (l : List S35) (a : Int) (h : ∀ x ∈ l, a < x.f1) : evsTill l a = [] := by
  unfold evsTill
  rw [List.filter_eq_nil_iff]
  intro x hx
  have := h x hx
  simp
  omega
theorem evsTill_pre : ∀ (l : List S35) (p a : Int), evsGo p l = true → evsTill l a = l.take (evsTill l a).length
  | [], _, _, _ => by simp [evsTill]
  | y :: ys, p, a, h => by
    have h0 := h
    unfold evsGo at h
    simp only [Bool.and_eq_true, decide_eq_true_eq] at h
    by_cases hy : y.f1 ≤ a
    · have e : evsTill (y :: ys) a = y :: evsTill ys a := by simp [evsTill, hy]
      have ih := evsTill_pre ys y.f1 a h.2
      rw [e, List.length_cons, List.take_succ_cons, ← ih]
    rw [evsTill_low (y :: ys) a]
    · simp
    intro x hx
    rcases List.mem_cons.1 hx with rfl | hx
    · omega
    · have := evsGo_low ys y.f1 h.2 x hx
      omega
theorem evsGo_next : ∀ (l : List S35) (p a : Int), evsGo p l = true → ∀ h : (evsTill l a).length < l.length, a < (l[(evsTill l a).length]'h).f1
  | [], _, _, _, h => by simp at h
  | y :: ys, p, a, hg, h => by
    have hg0 := hg
    unfold evsGo at hg
    simp only [Bool.and_eq_true, decide_eq_true_eq] at hg
    by_cases hy : y.f1 ≤ a
    · have e : evsTill (y :: ys) a = y :: evsTill ys a := by simp [evsTill, hy]
      have ih := evsGo_next ys y.f1 a hg.2 (by rw [e, List.length_cons, List.length_cons] at h; omega)
      simp only [e, List.length_cons, List.getElem_cons_succ]
      exact ih
    have e := evsTill_low (y :: ys) a (by
      intro x hx
      rcases List.mem_cons.1 hx with rfl | hx
      · omega
      · have := evsGo_low ys y.f1 hg.2 x hx
        omega)
    simp only [e, List.length_nil, List.getElem_cons_zero]
    omega
theorem nDig3 (n : Nat) (h : n ≤ 100) : Lib.nDigits n ≤ 3 := by
  by_cases h1 : n < 10
  · rw [Lib.nDigits_small h1]; omega
  rw [Lib.nDigits_big h1]
  by_cases h2 : n / 10 < 10
  · rw [Lib.nDigits_small h2]; omega
  rw [Lib.nDigits_big h2, Lib.nDigits_small (by omega)]
  omega
theorem nDig4 (n : Nat) (h : n ≤ 1000) : Lib.nDigits n ≤ 4 := by
  by_cases h1 : n < 10
  · rw [Lib.nDigits_small h1]; omega
  rw [Lib.nDigits_big h1]
  have := nDig3 (n / 10) (by omega)
  omega
theorem tellL_len {x : S35} (h : evOkB x = true) : (tellL x).length ≤ 9 := by
  obtain ⟨h0, h1, h2, h3, h4, h5⟩ := evOk_parts h
  have a := nDig4 x.f1.toNat (by omega)
  have b := nDig3 x.f2.toNat (by omega)
  have c1 := Lib.decDigits_length x.f1.toNat
  have c2 := Lib.decDigits_length x.f2.toNat
  unfold tellL
  by_cases q : x.f2 = 0
  · rw [if_pos q, List.append_nil, List.length_cons]; omega
  · rw [if_neg q, List.length_cons, List.length_append, List.length_cons]; omega
theorem flat_len : ∀ ws : List (List UInt8), (∀ w ∈ ws, w.length ≤ 9) → (ws.flatMap (fun x => 32 :: x)).length ≤ 10 * ws.length
  | [], _ => by simp
  | w :: ws, h => by
    have ih := flat_len ws (fun x hx => h x (by simp [hx]))
    have hw := h w (by simp)
    rw [List.flatMap_cons, List.length_append, List.length_cons, List.length_cons]
    omega
theorem evsT_small {l : List S35} (h : evsOkB l = true) : (evsT l).size ≤ 300 := by
  have hall := evsOk_all h
  have hlen := evsOk_len h
  rw [size_data, evsT_data hall]
  have key : ∀ ws : List (List UInt8), (∀ w ∈ ws, w.length ≤ 9) → (joinL ws).length ≤ 10 * ws.length := by
    intro ws hw
    cases ws with
    | nil => simp [joinL]
    | cons w ws =>
      have := flat_len ws (fun x hx => hw x (by simp [hx]))
      have h9 := hw w (by simp)
      simp only [joinL]
      rw [List.length_append, List.length_cons]
      omega
  have := key (l.map tellL) (by
    intro w hw
    obtain ⟨x, hx, rfl⟩ := List.mem_map.1 hw
    exact tellL_len (hall x hx))
  rw [List.length_map] at this
  omega
theorem drawEvsText_ev (l : List Int) (hl : l.length ≤ 9223372036854775807) (h : ∀ x ∈ l, (Lit.int .u8 x).wf = true) : ∃ o, Ev (fun k => spec_DrawEvsText.f k l) o ∧ o.length ≤ 25 ∧ (∀ x ∈ o, in64 x) := by
  unfold spec_DrawEvsText.f
  obtain ⟨o, p', h1, h2, h3, h4, h5⟩ := openBent_ev l h
  exact ⟨o, Ev.bind (Ev.one (fun _ => l14Open_is l hl)) (Ev.bind h1 (Ev.now _)), h2, h5⟩
theorem drawEvsTill_ev (l : List Int) (hl : l.length ≤ 9223372036854775807) (h : ∀ x ∈ l, (Lit.int .u8 x).wf = true) : ∃ o a, Ev (fun k => spec_DrawEvsTill.f k l) (o, a) ∧ o.length ≤ 25 := by
  unfold spec_DrawEvsTill.f
  obtain ⟨o, p', h1, h2, h3, h4, _⟩ := openBent_ev l h
  obtain ⟨v, hv, _⟩ := num_ev (l.take 2000) (open_bytes h) p' [0, 1, 3, 6, 10, 2000, -1] (by simp) (by simp) h3 (by omega)
  exact ⟨o, v, Ev.bind (Ev.one (fun _ => l14Open_is l hl)) (Ev.bind h1 (Ev.bindS hv rfl)), h2⟩
theorem drawEvOk_ev (l : List Int) (hl : l.length ≤ 9223372036854775807) (h : ∀ x ∈ l, (Lit.int .u8 x).wf = true) : ∃ a b c, Ev (fun k => spec_DrawEvOk.f k l) (a, b, c) := by
  unfold spec_DrawEvOk.f
  have hb := open_bytes h
  obtain ⟨a, ha, _⟩ := num_ev (l.take 2000) hb 0 [0, 4, 5, -1, 2] (by simp) (by simp) (by omega) (by omega)
  obtain ⟨b, hb2, _⟩ := num_ev (l.take 2000) hb (0 + 1) [1, 0, 1000, 1001, 7] (by simp) (by simp) (by omega) (by omega)
  obtain ⟨c, hc, _⟩ := num_ev (l.take 2000) hb (0 + 1 + 1) [0, 100, 101, -1, 3] (by simp) (by simp) (by omega) (by omega)
  exact ⟨a, b, c, Ev.bind (Ev.one (fun _ => l14Open_is l hl)) (Ev.bind ha (Ev.bind hb2 (Ev.bind hc (Ev.now _))))⟩
def pieces7 : List ByteArray := [(⟨#[]⟩ : ByteArray), (⟨#[32]⟩ : ByteArray), (⟨#[48]⟩ : ByteArray), (⟨#[61]⟩ : ByteArray), (⟨#[102]⟩ : ByteArray), (⟨#[45]⟩ : ByteArray), (⟨#[61, 48]⟩ : ByteArray)]
theorem of_ev (bs : List Int) (hb : Bytes bs) (p : Int) (h0 : 0 ≤ p) (h1 : p ≤ 1000000) : ∃ w : ByteArray, Ev (fun k => spec_l14Rd_of.f k bs p pieces7) (w, p + 1) ∧ w.size ≤ 5 := by
  obtain ⟨r, hr, h2, h3⟩ := pick_ev bs hb p 7 h0 h1
  have h7 : ((pieces7.length : Nat) : Int) = 7 := rfl
  refine ⟨rdOf ByteArray.empty pieces7 r, ?_, ?_⟩
  · unfold spec_l14Rd_of.f
    rw [h7]
    exact Ev.bind hr (Ev.pos h2 (Ev.pos (by omega) (Ev.now _)))
  · have : r = 0 ∨ r = 1 ∨ r = 2 ∨ r = 3 ∨ r = 4 ∨ r = 5 ∨ r = 6 := by omega
    rcases this with rfl | rfl | rfl | rfl | rfl | rfl | rfl <;> decide +kernel
theorem torn_ev (bs : List Int) (hb : Bytes bs) (s : ByteArray) (hs : s.size ≤ 2000) (h1 : 1 ≤ s.size) (p : Int) (p0 : 0 ≤ p) (p1 : p ≤ 900000) (b : Bool) : ∃ t : ByteArray, Ev (fun k => spec_DrawEvsRead.j0 k s b bs p) t ∧ t.size ≤ 10000 := by
  cases b with
  | true => exact ⟨s, Ev.last (fun k => by simp only [spec_DrawEvsRead.j0]; rw [if_pos trivial]), by omega⟩
  | false =>
    obtain ⟨r, hr, r0, r1⟩ := pick_ev bs hb p (s.size : Int) p0 (by omega)
    obtain ⟨w, hw, hw5⟩ := of_ev bs hb (p + 1) (by omega) (by omega)
    obtain ⟨q, hq, q0, q1⟩ := pick_ev bs hb (p + 1 + 1) 2 (by omega) (by omega)
    have wq : wrap64 (r + q) = r + q := w_small (by omega) (by omega)
    have z1 : (s.extract 0 r.toNat).size ≤ 2000 := by rw [ByteArray.size_extract]; omega
    have z2 : (s.extract (r + q).toNat s.size).size ≤ 2000 := by rw [ByteArray.size_extract]; omega
    refine ⟨(s.extract 0 r.toNat ++ w) ++ s.extract (r + q).toNat s.size, ?_, by rw [ByteArray.size_append, ByteArray.size_append]; omega⟩
    refine Ev.step (fun k => by simp only [spec_DrawEvsRead.j0]; rw [if_neg (by decide)]) ?_
    refine Ev.bind hr (Ev.pos r0 (Ev.pos (show r ≤ (s.size : Int) by omega) (Ev.bind hw (Ev.pos (show (s.extract 0 r.toNat).size + w.size ≤ 9223372036854775807 by omega) (Ev.bind hq ?_)))))
    simp only [wq]
    exact Ev.pos (show (0 : Int) ≤ r + q by omega) (Ev.pos (show r + q ≤ (s.size : Int) by omega) (Ev.pos (show (s.extract 0 r.toNat ++ w).size + (s.extract (r + q).toNat s.size).size ≤ 9223372036854775807 by rw [ByteArray.size_append]; omega) (Ev.now _)))
theorem drawEvsRead_ev (l : List Int) (hl : l.length ≤ 9223372036854775807) (hw : ∀ x ∈ l, (Lit.int .u8 x).wf = true) : ∃ t : ByteArray, Ev (fun k => spec_DrawEvsRead.f k l) t ∧ t.size ≤ 10000 := by
  have hb := open_bytes hw
  obtain ⟨o, p', h1, h2, h3, h4, h5⟩ := openBent_ev l hw
  have ho : Ev (fun _ => spec_l14Open.f l) (l.take 2000, (0 : Int)) := Ev.one (fun _ => l14Open_is l hl)
  have hs := evsT_size o h5
  have ht := spec_EvsText_ev o (by omega) h5
  unfold spec_DrawEvsRead.f
  by_cases h0 : (evsT o).size = 0
  · refine ⟨evsT o, Ev.bind ho (Ev.bind h1 (Ev.bind ht (Ev.pos (by omega) ?_))), by omega⟩
    exact Ev.last (fun k => by simp only [spec_DrawEvsRead.j0]; rw [if_pos trivial])
  · obtain ⟨r, hr, _, _⟩ := pick_ev _ hb p' 2 (by omega) (by omega)
    obtain ⟨t, ht1, ht2⟩ := torn_ev _ hb (evsT o) (by omega) (by omega) (p' + 1) (by omega) (by omega) (r == 0)
    exact ⟨t, Ev.bind ho (Ev.bind h1 (Ev.bind ht (Ev.neg (by omega) (Ev.bind hr ht1)))), ht2⟩
theorem same_bit (b : Bool) : (b != b) = false := by cases b <;> rfl
theorem j3_till (z : List S35) (a : Int) (hz : z.length ≤ 25) : Ev (fun k => laws_FnEv.j3 k z a (evsTill z a) false) true := by
  have htl := evsTill_len z a
  refine Ev.step (fun k => by simp only [laws_FnEv.j3]; rw [if_neg (by decide)]) ?_
  refine Ev.bind (spec_EvsOk_ev z (by omega)) ?_
  by_cases q : evsOkB z = true
  · have hg : evsGo 0 z = true := by
      simp only [evsOkB, Bool.and_eq_true] at q
      exact q.1
    have hp := evsTill_pre z 0 a hg
    refine Ev.pos q (Ev.pos (by omega) (Ev.pos (by omega) (Ev.bind (impl_EvsSame_ev _ _ (by omega)) ?_)))
    rw [Int.toNat_natCast, ← hp, evsEq_self]
    refine Ev.pos rfl ?_
    by_cases e : (evsTill z a).length = z.length
    · exact Ev.pos (by omega) (Ev.now _)
    have hlt : (evsTill z a).length < z.length := by omega
    have hn := evsGo_next z 0 a hg hlt
    refine Ev.neg (by omega) (Ev.pos (by omega) ?_)
    rw [rdE z _ hlt, decide_eq_true hn]
    exact Ev.now _
  · exact Ev.neg q (Ev.now _)
theorem j2_till (l : List Int) (hl : l.length ≤ 9223372036854775807) (hw : ∀ x ∈ l, (Lit.int .u8 x).wf = true) : Ev (fun k => laws_FnEv.j2 k l false) true := by
  obtain ⟨z, a, h1, h2⟩ := drawEvsTill_ev l hl hw
  obtain ⟨x, y, v, h3⟩ := drawEvOk_ev l hl hw
  have htl := evsTill_len z a
  refine Ev.step (fun k => by simp only [laws_FnEv.j2]; rw [if_neg (by decide)]) ?_
  refine Ev.bind h1 (Ev.bind (impl_EvsTill_ev z a (by omega)) (Ev.bind h3 (Ev.bind (spec_EvsTill_ev z a (by omega)) (Ev.bind (impl_EvsSame_ev _ _ (by omega)) ?_))))
  refine Ev.pos (evsEq_self _) (Ev.bind (Ev.one (fun _ => impl_EvOk_is x y v)) (Ev.bind (Ev.one (fun _ => spec_EvOk_is x y v)) ?_))
  rw [same_bit]
  exact j3_till z a h2
theorem j1_read (l m : List Int) (hl : l.length ≤ 9223372036854775807) (hw : ∀ x ∈ l, (Lit.int .u8 x).wf = true) (hl2 : m.length ≤ 9223372036854775807) (hw2 : ∀ x ∈ m, (Lit.int .u8 x).wf = true) : Ev (fun k => laws_FnEv.j1 k l m false) true := by
  obtain ⟨t, ht, ht2⟩ := drawEvsRead_ev m hl2 hw2
  obtain ⟨y, b, e1, e2, e3, e4, _⟩ := evs_read t (by omega)
  have hj := j2_till l hl hw
  refine Ev.step (fun k => by simp only [laws_FnEv.j1]; rw [if_neg (by decide)]) ?_
  refine Ev.bind ht (Ev.bind e2 (Ev.bind e1 (Ev.neg (by simp) ?_)))
  cases b with
  | false => exact Ev.neg (show ¬ (false = true) by decide) hj
  | true =>
    obtain ⟨o1, o2⟩ := e3 rfl
    refine Ev.pos rfl (Ev.bind (impl_EvsText_ev y (by omega) (fun x hx => ok_in64 (evsOk_all o1 x hx))) (Ev.pos (by rw [o2]) (Ev.bind (impl_EvsOk_ev y (by omega)) ?_)))
    rw [o1]
    exact hj
theorem FnEv_pure (l0 : List Int) (h0 : l0.length ≤ maxLen ∧ ∀ y ∈ l0, (Lit.int .u8 y).wf = true) (_ : l0.length * 1 ≤ 140737488351232) (l1 : List Int) (h1 : l1.length ≤ maxLen ∧ ∀ y ∈ l1, (Lit.int .u8 y).wf = true) (_ : l1.length * 1 ≤ 140737488351232) : ∃ k, laws_FnEv.f k l0 l1 = some true := by
  refine Ev.rounds (g := fun k => laws_FnEv.f k l0 l1) ?_
  have jt : Ev (fun k => laws_FnEv.j0 k l0 l1 true) true := Ev.last (fun k => by simp only [laws_FnEv.j0]; rw [if_pos trivial])
  have m0 : l0.length ≤ 9223372036854775807 := by have := h0.1; unfold maxLen at this; omega
  have m1 : l1.length ≤ 9223372036854775807 := by have := h1.1; unfold maxLen at this; omega
  unfold laws_FnEv.f
  by_cases c : (l0.length : Int) > 1048576
  · exact Ev.pos c jt
  refine Ev.neg c ?_
  by_cases c1 : (l1.length : Int) > 1048576
  · rw [decide_eq_true c1]; exact jt
  rw [decide_eq_false c1]
  obtain ⟨l, hd, hl, h64⟩ := drawEvsText_ev l0 m0 h0.2
  have hsz := evsT_size l h64
  obtain ⟨y, b, e1, e2, e3, e4, e5⟩ := evs_read (evsT l) (by omega)
  have hj := j1_read l0 l1 m0 h0.2 m1 h1.2
  refine Ev.step (fun k => by simp only [laws_FnEv.j0]; rw [if_neg (by decide)]) ?_
  refine Ev.bind hd (Ev.bind (impl_EvsText_ev l (by omega) h64) (Ev.bind e2 (Ev.bind (spec_EvsText_ev l (by omega) h64) (Ev.pos rfl (Ev.bind (impl_EvsOk_ev l (by omega)) (Ev.bind (spec_EvsOk_ev l (by omega)) ?_))))))
  refine Ev.neg (by simp) (Ev.bind (spec_EvsOk_ev l (by omega)) ?_)
  by_cases q : evsOkB l = true
  · obtain ⟨rfl, rfl⟩ := e5 l q rfl (evsT_small q)
    have hl9 : ∀ u : List S35, u.length ≤ 25 → u.length ≤ 9223372036854775807 := fun u h => by omega
    refine Ev.pos q (Ev.pos rfl (Ev.bind (impl_EvsSame_ev _ _ (hl9 _ (by assumption))) ?_))
    rw [evsEq_self]
    exact hj
  · exact Ev.neg q hj
end Go.Proofs.YtiebpoikhijbgaaDoor.M
