/- What the claim's law leans on: the program's functions, what they compute, and the law over plain values; no condition is asked. (Part 5 of 5.) -/
import Derived.Test.YtiplpckgmikmeaaCLawsFnPlusOr4
namespace Go.Proofs.Ytiplpckgmikmeaa.M
set_option linter.unusedVariables false
set_option linter.unusedSimpArgs false
open Go.RowKit Go.Proofs.YtiplpckgmikmeaaW.PrintWords Go.Proofs.YtiplpckgmikmeaaW.PrintLast

theorem cmpI_anti : ∀ a b : List Int, cmpI b a = - cmpI a b
  | [], [] => by simp [cmpI]
  | [], _ :: _ => by simp [cmpI]
  | _ :: _, [] => by simp [cmpI]
  | x :: a, y :: b => by
    unfold cmpI
    have ih := cmpI_anti a b
    split <;> split <;> first | omega | (split <;> first | omega | (split <;> first | omega | exact ih))
theorem cmpI_trans : ∀ a b c : List Int, cmpI a b < 0 → cmpI b c < 0 → cmpI a c < 0
  | [], [], _, h, _ => by simp [cmpI] at h
  | [], _ :: _, [], _, h => by simp [cmpI] at h
  | [], _ :: _, _ :: _, _, _ => by simp [cmpI]
  | _ :: _, [], _, h, _ => by simp [cmpI] at h
  | _ :: _, _ :: _, [], _, h => by simp [cmpI] at h
  | x :: a, y :: b, z :: c, h1, h2 => by
    unfold cmpI at h1 h2 ⊢
    have ih := cmpI_trans a b c
    split at h1 <;> split at h2 <;> first | omega | (split at h1 <;> split at h2 <;> first | omega | (split <;> first | omega | (split <;> first | omega | exact ih (by omega) (by omega))))
theorem sgn_neg (b : Bool) : sgn b < 0 ↔ b = true := by cases b <;> decide
theorem lessO_iff (a b : S27) : lessO a b = true ↔ a.f1 < b.f1 ∨ (a.f1 = b.f1 ∧ (a.f0 < b.f0 ∨ (a.f0 = b.f0 ∧ cmpI a.f2 b.f2 < 0))) := by
  unfold lessO cmpO
  rw [decide_eq_true_iff]
  by_cases h1 : a.f1 = b.f1
  · rw [if_pos h1]
    by_cases h0 : a.f0 = b.f0
    · rw [if_pos h0]
      constructor
      · exact fun h => .inr ⟨h1, .inr ⟨h0, h⟩⟩
      · rintro (h | ⟨_, h | ⟨_, h⟩⟩)
        · omega
        · omega
        · exact h
    · rw [if_neg h0, sgn_neg, decide_eq_true_iff]
      constructor
      · exact fun h => .inr ⟨h1, .inl h⟩
      · rintro (h | ⟨_, h | ⟨h, _⟩⟩)
        · omega
        · exact h
        · exact absurd h h0
  · rw [if_neg h1, sgn_neg, decide_eq_true_iff]
    constructor
    · exact fun h => .inl h
    · rintro (h | ⟨h, _⟩)
      · exact h
      · exact absurd h h1
theorem lessO_trans {a b c : S27} (h1 : lessO a b = true) (h2 : lessO b c = true) : lessO a c = true := by
  rw [lessO_iff] at h1 h2 ⊢
  rcases h1 with h1 | ⟨e1, h1⟩
  · rcases h2 with h2 | ⟨e2, h2⟩
    · exact .inl (by omega)
    · exact .inl (by omega)
  · rcases h2 with h2 | ⟨e2, h2⟩
    · exact .inl (by omega)
    · refine .inr ⟨by omega, ?_⟩
      rcases h1 with h1 | ⟨d1, h1⟩
      · rcases h2 with h2 | ⟨d2, h2⟩
        · exact .inl (by omega)
        · exact .inl (by omega)
      · rcases h2 with h2 | ⟨d2, h2⟩
        · exact .inl (by omega)
        · exact .inr ⟨by omega, cmpI_trans _ _ _ h1 h2⟩
theorem lessO_self (a : S27) : lessO a a = false := by
  have : cmpO a a = 0 := (cmpO_eq a a).2 rfl
  unfold lessO
  rw [this]
  decide
theorem lessO_tri {a b : S27} (h : lessO a b = false) (hn : a ≠ b) : lessO b a = true := by
  have h' : ¬ lessO a b = true := by rw [h]; decide
  rw [lessO_iff] at h' ⊢
  rcases Int.lt_trichotomy b.f1 a.f1 with h1 | h1 | h1
  · exact .inl h1
  · refine .inr ⟨h1, ?_⟩
    rcases Int.lt_trichotomy b.f0 a.f0 with h2 | h2 | h2
    · exact .inl h2
    · refine .inr ⟨h2, ?_⟩
      have h3 : ¬ cmpI a.f2 b.f2 < 0 := fun h3 => h' (.inr ⟨h1.symm, .inr ⟨h2.symm, h3⟩⟩)
      have h4 : cmpI a.f2 b.f2 ≠ 0 := fun h4 => hn (by
        have h5 := (cmpI_eq a.f2 b.f2).1 h4
        cases a; cases b
        simp only at h1 h2 h5
        rw [h1, h2, h5])
      rw [cmpI_anti]
      omega
    · exact absurd (.inr ⟨h1.symm, .inl h2⟩) h'
  · exact absurd (.inl h1) h'
abbrev AscO (l : List S27) : Prop := l.Pairwise (fun x y => lessO x y = true)
theorem lessO_not {a b : S27} (h : lessO a b = true) (h' : lessO b a = true) : False := by
  have := lessO_trans h h'
  rw [lessO_self] at this
  cases this
theorem ascO_ext : ∀ l m : List S27, AscO l → AscO m → (∀ x, x ∈ l ↔ x ∈ m) → l = m
  | [], [], _, _, _ => rfl
  | [], y :: ys, _, _, h => by have := (h y).2 (by simp); simp at this
  | x :: xs, [], _, _, h => by have := (h x).1 (by simp); simp at this
  | x :: xs, y :: ys, hl, hm, h => by
    have h1 := List.pairwise_cons.1 hl
    have h2 := List.pairwise_cons.1 hm
    have e : x = y := by
      rcases List.mem_cons.1 ((h x).1 (by simp)) with e | e
      · exact e
      · rcases List.mem_cons.1 ((h y).2 (by simp)) with e' | e'
        · exact e'.symm
        · exact (lessO_not (h2.1 x e) (h1.1 y e')).elim
    subst e
    rw [ascO_ext xs ys h1.2 h2.2 (fun z => ?_)]
    constructor
    · intro hz
      rcases List.mem_cons.1 ((h z).1 (by simp [hz])) with e | e
      · have := h1.1 z hz; rw [e, lessO_self] at this; cases this
      · exact e
    · intro hz
      rcases List.mem_cons.1 ((h z).2 (by simp [hz])) with e | e
      · have := h2.1 z hz; rw [e, lessO_self] at this; cases this
      · exact e
def insO : List S27 → S27 → List S27
  | [], o => [o]
  | x :: l, o => if lessO x o = true then x :: insO l o else if (cmpO x o == 0) = true then x :: l else o :: x :: l
theorem same_eq {a b : S27} : (cmpO a b == 0) = true ↔ a = b := by rw [beq_iff_eq]; exact cmpO_eq a b
theorem mem_insO (z : S27) : ∀ (l : List S27) (o : S27), z ∈ insO l o ↔ z ∈ l ∨ z = o
  | [], o => by simp [insO]
  | x :: l, o => by
    unfold insO
    have ih := mem_insO z l o
    split
    · rw [List.mem_cons, List.mem_cons, ih, or_assoc]
    · split
      · rename_i h
        have e := same_eq.1 h
        subst e
        constructor
        · exact fun hz => .inl hz
        · rintro (hz | rfl)
          · exact hz
          · simp
      · rw [List.mem_cons]
        constructor
        · rintro (hz | hz)
          · exact .inr hz
          · exact .inl hz
        · rintro (hz | hz)
          · exact .inr hz
          · exact .inl hz
theorem asc_insO : ∀ (l : List S27) (o : S27), AscO l → AscO (insO l o)
  | [], o, _ => by simp [insO, AscO]
  | x :: l, o, h => by
    have h1 := List.pairwise_cons.1 h
    unfold insO
    split
    · rename_i c
      refine List.pairwise_cons.2 ⟨fun z hz => ?_, asc_insO l o h1.2⟩
      rcases (mem_insO z l o).1 hz with hz | rfl
      · exact h1.1 z hz
      · exact c
    · rename_i c
      split
      · exact h
      · rename_i c2
        have hox : lessO o x = true := lessO_tri (by simpa using c) (fun e => c2 (same_eq.2 e))
        refine List.pairwise_cons.2 ⟨fun z hz => ?_, h⟩
        rcases List.mem_cons.1 hz with rfl | hz
        · exact hox
        · exact lessO_trans hox (h1.1 z hz)
theorem len_insO : ∀ (l : List S27) (o : S27), (insO l o).length ≤ l.length + 1
  | [], o => by simp [insO]
  | x :: l, o => by
    have ih := len_insO l o
    unfold insO
    split
    · simp only [List.length_cons]; omega
    · split <;> simp only [List.length_cons] <;> omega
def ahead (l : List S27) (o : S27) : Nat := (l.takeWhile (fun x => lessO x o)).length
theorem ahead_le (l : List S27) (o : S27) : ahead l o ≤ l.length := (List.takeWhile_sublist _).length_le
theorem putIx_ahead (l : List S27) (o : S27) : ∀ d i : Nat, i + d = l.length → putIx l o d i = i + ahead (l.drop i) o
  | 0, i, h => by
    unfold putIx ahead
    rw [List.drop_of_length_le (by omega)]
    simp
  | d + 1, i, h => by
    have ih := putIx_ahead l o d (i + 1) (by omega)
    unfold putIx
    rw [drop_at l z27 i (by omega)]
    unfold ahead at ih ⊢
    by_cases c : lessO (l.getD i z27) o = true
    · rw [if_pos c, ih, List.takeWhile_cons, if_pos c, List.length_cons]; omega
    · rw [if_neg c, List.takeWhile_cons, if_neg c]; simp
def putN (l : List S27) (o : S27) (n : Nat) : List S27 := if n < l.length ∧ (cmpO (l.getD n z27) o == 0) = true then l else putIn l n o
theorem putN_ins : ∀ (l : List S27) (o : S27), putN l o (ahead l o) = insO l o
  | [], o => by simp [putN, ahead, insO, putIn]
  | x :: l, o => by
    have ih := putN_ins l o
    unfold insO
    by_cases c : lessO x o = true
    · have e : ahead (x :: l) o = ahead l o + 1 := by unfold ahead; rw [List.takeWhile_cons, if_pos c, List.length_cons]
      rw [if_pos c, e, ← ih]
      unfold putN
      rw [List.getD_cons_succ, List.length_cons]
      by_cases c2 : ahead l o < l.length ∧ (cmpO (l.getD (ahead l o) z27) o == 0) = true
      · rw [if_pos c2, if_pos ⟨by omega, c2.2⟩]
      · rw [if_neg c2, if_neg (fun h => c2 ⟨by omega, h.2⟩)]
        simp [putIn]
    · have e : ahead (x :: l) o = 0 := by unfold ahead; rw [List.takeWhile_cons, if_neg c]; rfl
      rw [if_neg c, e]
      unfold putN
      rw [List.getD_cons_zero]
      by_cases c2 : (cmpO x o == 0) = true
      · rw [if_pos ⟨by simp, c2⟩, if_pos c2]
      · rw [if_neg (fun h => c2 h.2), if_neg c2]
        simp [putIn]
theorem putS_ins (l : List S27) (o : S27) : putS l o = insO l o := by
  rw [← putN_ins]
  unfold putS putN
  rw [putIx_ahead l o l.length 0 (by omega), List.drop_zero, Nat.zero_add]
theorem ahead_is {l : List S27} {o : S27} {n : Nat} (hn : n ≤ l.length) (h1 : ∀ m, m < n → lessO (l.getD m z27) o = true) (h2 : n < l.length → ¬ lessO (l.getD n z27) o = true) : ahead l o = n := by
  induction l generalizing n with
  | nil => simp only [List.length_nil] at hn; simp [ahead]; omega
  | cons x l ih =>
    unfold ahead
    cases n with
    | zero =>
      have := h2 (by simp)
      rw [List.getD_cons_zero] at this
      rw [List.takeWhile_cons, if_neg this]; rfl
    | succ n =>
      have hx := h1 0 (by omega)
      rw [List.getD_cons_zero] at hx
      rw [List.takeWhile_cons, if_pos hx, List.length_cons]
      have := ih (n := n) (by simpa using hn) (fun m hm => by have := h1 (m + 1) (by omega); rwa [List.getD_cons_succ] at this) (fun hlt => by have := h2 (by simpa using hlt); rwa [List.getD_cons_succ] at this)
      unfold ahead at this
      omega
theorem asc_at {l : List S27} (h : AscO l) {i j : Nat} (hij : i < j) (hj : j < l.length) : lessO (l.getD i z27) (l.getD j z27) = true := by
  rw [getD_in (by omega), getD_in hj]
  exact List.pairwise_iff_getElem.1 h i j (by omega) hj hij
theorem u64_small {n : Int} (h0 : 0 ≤ n) (h1 : n ≤ 9223372036854775807) : IntKind.u64.wrap n = n := by
  simp only [IntKind.wrap, IntKind.bits, IntKind.signed]
  simp
  omega
def foundO (l : List S27) (o : S27) : Bool := decide (ahead l o < l.length) && (cmpO (l.getD (ahead l o) z27) o == 0)
section
variable (l : List S27) (hl : l.length < 1099511627776) (hs : Short l) (hA : AscO l) (o : S27) (ho : o.f2.length ≤ 9223372036854775806)
include hs ho in
theorem search_end (i : Nat) (hj : i ≤ l.length) (h1 : ∀ m, m < i → lessO (l.getD m z27) o = true) (h2 : ∀ m, i ≤ m → m < l.length → ¬ lessO (l.getD m z27) o = true) :
    Ev (fun k => impl_Occ_105.l0 k l (l.length : Int) (i : Int) (i : Int) o.f0 o.f1 o.f2) ((ahead l o : Int), foundO l o) := by
  have e : ahead l o = i := ahead_is hj h1 (fun hlt => h2 i (Nat.le_refl _) hlt)
  unfold foundO
  rw [e]
  clear h1 h2 e
  refine Ev.step (fun k => by simp only [impl_Occ_105.l0]; rw [if_neg (Int.lt_irrefl _)]) ?_
  by_cases c : i < l.length
  · refine Ev.pos (by omega) (Ev.pos (by omega) (Ev.pos (by omega) ?_))
    refine Ev.bindS (impl_compare_ev (rd_T27 l (i : Int)) o (hs.at_ i) ho) ?_
    rw [decide_eq_true c, Bool.true_and]
    rfl
  · refine Ev.neg (by omega) (Ev.val (Ev.now _) ?_)
    rw [decide_eq_false c, Bool.false_and]
theorem half_is (i j : Nat) (h : i ≤ j) (hj : j ≤ 1099511627776) : wrap64 ((IntKind.u64.wrap (wrap64 ((i : Int) + (j : Int)))) / 2) = (((i + j) / 2 : Nat) : Int) := by
  rw [w_small (i := (i : Int) + (j : Int)) (by omega) (by omega), u64_small (by omega) (by omega), w_small (by omega) (by omega)]
  omega
include hl hs hA ho in
theorem search_ev : ∀ (d i j : Nat), j - i ≤ d → i ≤ j → j ≤ l.length → (∀ m, m < i → lessO (l.getD m z27) o = true) → (∀ m, j ≤ m → m < l.length → ¬ lessO (l.getD m z27) o = true) →
    Ev (fun k => impl_Occ_105.l0 k l (l.length : Int) (i : Int) (j : Int) o.f0 o.f1 o.f2) ((ahead l o : Int), foundO l o) := by
  intro d
  induction d with
  | zero =>
    intro i j hd hij hj h1 h2
    obtain rfl : i = j := by omega
    exact search_end l hs o ho i hj h1 h2
  | succ d ih =>
    intro i j hd hij hj h1 h2
    by_cases c : i < j
    · obtain ⟨h, hh⟩ : ∃ h, h = (i + j) / 2 := ⟨_, rfl⟩
      have hb1 : i ≤ h := by omega
      have hb2 : h < j := by omega
      have hw := half_is i j hij (by omega)
      rw [← hh] at hw
      clear hh
      have ci : (i : Int) < (j : Int) := by omega
      refine Ev.step (fun k => by simp only [impl_Occ_105.l0]; rw [if_pos ci, hw]) ?_
      have c0 : (0 : Int) ≤ (h : Int) := by omega
      have c1 : (h : Int) < (l.length : Int) := by omega
      refine Ev.pos c0 (Ev.pos c1 ?_)
      refine Ev.bind (impl_compare_ev (rd_T27 l (h : Int)) o (hs.at_ h) ho) ?_
      have er : rd_T27 l (h : Int) = l.getD h z27 := rfl
      rw [er]
      by_cases c2 : cmpO (l.getD h z27) o < 0
      · have hw2 : wrap64 ((h : Int) + 1) = ((h + 1 : Nat) : Int) := by rw [w_small (by omega) (by omega)]; omega
        refine Ev.pos c2 ?_
        rw [hw2]
        have hlo : lessO (l.getD h z27) o = true := decide_eq_true c2
        have g1 : ∀ m, m < h + 1 → lessO (l.getD m z27) o = true := fun m hm => by
          rcases Nat.lt_or_ge m h with hlt | hge
          · exact lessO_trans (asc_at hA hlt (by omega)) hlo
          · obtain rfl : m = h := by omega
            exact hlo
        exact ih (h + 1) j (by omega) (by omega) hj g1 h2
      · refine Ev.neg c2 ?_
        have hlo : ¬ lessO (l.getD h z27) o = true := fun hx => c2 (of_decide_eq_true hx)
        have g2 : ∀ m, h ≤ m → m < l.length → ¬ lessO (l.getD m z27) o = true := fun m hm hml hx => by
          rcases Nat.lt_or_ge h m with hlt | hge
          · exact hlo (lessO_trans (asc_at hA hlt hml) hx)
          · obtain rfl : m = h := by omega
            exact hlo hx
        exact ih i h (by omega) (by omega) (by omega) h1 g2
    · obtain rfl : i = j := by omega
      exact search_end l hs o ho i hj h1 h2
include hl hs hA ho in
theorem impl_put_ev : Ev (fun k => impl_put.f k l o.f0 o.f1 o.f2) (insO l o) := by
  unfold impl_put.f
  have c := hl
  have h := search_ev l hl hs hA o ho l.length 0 l.length (by omega) (by omega) (Nat.le_refl _) (fun m hm => by omega) (fun m hm hml => by omega)
  refine Ev.pos c (Ev.bind h ?_)
  rw [← putN_ins]
  unfold putN
  have ha := ahead_le l o
  by_cases c2 : ahead l o < l.length ∧ (cmpO (l.getD (ahead l o) z27) o == 0) = true
  · rw [if_pos c2]
    refine Ev.pos ?_ (Ev.now _)
    unfold foundO
    rw [decide_eq_true c2.1, c2.2]; rfl
  · rw [if_neg c2]
    refine Ev.neg (fun hx => c2 ?_) (Ev.pos ⟨by omega, by omega⟩ (Ev.val (Ev.now _) ?_))
    · have hx' : foundO l o = true := hx
      unfold foundO at hx'
      rw [Bool.and_eq_true] at hx'
      exact ⟨of_decide_eq_true hx'.1, hx'.2⟩
    · rw [Int.toNat_natCast]
end
end Go.Proofs.Ytiplpckgmikmeaa.M
namespace Go.Proofs.Ytiplpckgmikmeaa.M
open Go.RowKit Go.Proofs.YtiplpckgmikmeaaW.PrintWords Go.Proofs.YtiplpckgmikmeaaW.PrintLast Go.Proofs.YtiplpckgmikmeaaW.PrintMore
attribute [local go_sem] max2_int min2_int max_two min_two max_three min_three max_four min_four
set_option linter.unusedVariables false
set_option linter.unusedSimpArgs false

end Go.Proofs.Ytiplpckgmikmeaa.M
namespace Go.Proofs.Ytiplpckgmikmeaa.M
set_option linter.unusedVariables false
set_option linter.unusedSimpArgs false
open Go.RowKit Go.Proofs.YtiplpckgmikmeaaW.PrintWords Go.Proofs.YtiplpckgmikmeaaW.PrintLast

def Mid (l : List S27) : Prop := ∀ x ∈ l, x.f2.length ≤ 1048576
theorem Mid.short {l : List S27} (h : Mid l) : Short l := fun x hx => Nat.le_trans (h x hx) (by omega)
theorem Mid.at_ {l : List S27} (h : Mid l) (i : Int) : (rd_T27 l i).f2.length ≤ 1048576 := by
  unfold rd_T27
  rw [List.getD_eq_getElem?_getD]
  rcases hx : l[i.toNat]? with _ | x
  · decide
  · exact h x (List.mem_of_getElem? hx)
theorem clone_is (o : S27) (ho : o.f2.length ≤ 1048576) : impl_Occ_clone.f o.f0 o.f1 o.f2 = some (o.f0, o.f1, o.f2) := by
  unfold impl_Occ_clone.f
  rw [if_pos (by rw [List.length_nil]; omega), List.nil_append]
theorem l3Copy_is (o : S27) (ho : o.f2.length ≤ 1048576) : spec_l3Copy.f o.f0 o.f1 o.f2 = some (o.f0, o.f1, o.f2) := by
  unfold spec_l3Copy.f
  simp only [Option.bind_some, List.nil_append, List.length_nil]
  rw [if_pos (by omega)]
theorem take_next (l : List S27) (n : Nat) (h : n < l.length) : l.take n ++ [rd_T27 l (n : Int)] = l.take (n + 1) := by
  have e : rd_T27 l (n : Int) = l[n] := by
    show l.getD n z27 = l[n]
    exact getD_in h
  rw [e, List.take_succ_eq_append_getElem h]
section
variable (l : List S27) (hl : l.length ≤ 1048576) (hs : Mid l)
include hl hs
theorem cloneOccs_l0_ev : ∀ d n : Nat, n + d = l.length → Ev (fun k => impl_cloneOccs.l0 k (l.take n) l (l.length : Int) (n : Int)) l := by
  intro d
  induction d with
  | zero =>
    intro n h
    refine Ev.step (fun k => by simp only [impl_cloneOccs.l0]; rw [if_neg (by omega)]) (Ev.val (Ev.now _) ?_)
    exact List.take_of_length_le (by omega)
  | succ d ih =>
    intro n h
    have hw : wrap64 ((n : Int) + 1) = ((n + 1 : Nat) : Int) := by rw [w_small (by omega) (by omega)]; omega
    refine Ev.step (fun k => by simp only [impl_cloneOccs.l0]; rw [if_pos (by omega), if_pos (by omega), if_pos (by omega), hw]) ?_
    refine Ev.bind (Ev.one (fun _ => clone_is _ (hs.at_ (n : Int)))) ?_
    refine Ev.pos (by rw [List.length_take]; omega) ?_
    rw [take_next l n (by omega)]
    exact ih (n + 1) (by omega)
theorem cloneOccs_ev : Ev (fun k => impl_cloneOccs.f k l) l := cloneOccs_l0_ev l hl hs l.length 0 (by omega)
theorem l3List_l0_ev : ∀ d n : Nat, n + d = l.length → Ev (fun k => spec_l3List.l0 k l (l.take n) (n : Int)) l := by
  intro d
  induction d with
  | zero =>
    intro n h
    refine Ev.step (fun k => by simp only [spec_l3List.l0]; rw [if_neg (by omega)]) (Ev.val (Ev.now _) ?_)
    exact List.take_of_length_le (by omega)
  | succ d ih =>
    intro n h
    have hw : wrap64 ((n : Int) + 1) = ((n + 1 : Nat) : Int) := by rw [w_small (by omega) (by omega)]; omega
    refine Ev.step (fun k => by simp only [spec_l3List.l0]; rw [if_pos (by omega), if_pos (by omega), hw]) ?_
    refine Ev.bind (Ev.one (fun _ => l3Copy_is _ (hs.at_ (n : Int)))) ?_
    refine Ev.pos (by rw [List.length_take]; omega) ?_
    rw [take_next l n (by omega)]
    exact ih (n + 1) (by omega)
theorem l3List_ev : Ev (fun k => spec_l3List.f k l) l := l3List_l0_ev l hl hs l.length 0 (by omega)
end
def toldO (l : List S27) : List S27 × Bool := if 40 < l.length then ([], false) else (l, true)
theorem few_ev (l : List S27) (hl : l.length ≤ 1048576) (hs : Mid l) : Ev (fun k => impl_few.f k l) (toldO l) := by
  unfold impl_few.f toldO
  by_cases c : 40 < l.length
  · rw [if_pos c]; exact Ev.pos (by omega) (Ev.now _)
  · rw [if_neg c]; exact Ev.neg (by omega) (Ev.bindS (cloneOccs_ev l hl hs) rfl)
theorem l4Told_ev (l : List S27) (hl : l.length ≤ 1048576) (hs : Mid l) : Ev (fun k => spec_l4Told.f k l) (toldO l) := by
  unfold spec_l4Told.f toldO
  by_cases c : 40 < l.length
  · rw [if_pos c]; exact Ev.pos (by omega) (Ev.now _)
  · rw [if_neg c]; exact Ev.neg (by omega) (Ev.bindS (l3List_ev l hl hs) rfl)
def mergeO (a b : List S27) : List S27 := b.foldl insO a
theorem mem_mergeO (z : S27) : ∀ (b a : List S27), z ∈ mergeO a b ↔ z ∈ a ∨ z ∈ b
  | [], a => by simp [mergeO]
  | x :: b, a => by
    have ih := mem_mergeO z b (insO a x)
    unfold mergeO at ih ⊢
    rw [List.foldl_cons, ih, mem_insO, List.mem_cons, or_assoc]
theorem asc_mergeO : ∀ (b a : List S27), AscO a → AscO (mergeO a b)
  | [], a, h => h
  | x :: b, a, h => asc_mergeO b (insO a x) (asc_insO a x h)
theorem len_mergeO : ∀ (b a : List S27), (mergeO a b).length ≤ a.length + b.length
  | [], a => by simp [mergeO]
  | x :: b, a => by
    have h1 := len_mergeO b (insO a x)
    have h2 := len_insO a x
    unfold mergeO at h1 ⊢
    rw [List.foldl_cons, List.length_cons]
    omega
theorem Mid.merge {a b : List S27} (ha : Mid a) (hb : Mid b) : Mid (mergeO a b) := fun x hx => ((mem_mergeO x b a).1 hx).elim (ha x) (hb x)
theorem merge_next (a l : List S27) (n : Nat) (h : n < l.length) : insO (mergeO a (l.take n)) (rd_T27 l (n : Int)) = mergeO a (l.take (n + 1)) := by
  unfold mergeO
  rw [← take_next l n h, List.foldl_append]
  rfl
section
variable (a b : List S27) (ha : a.length + b.length ≤ 1048576) (hs : Mid a) (ht : Mid b)
include ha hs ht
theorem putAll_l0_ev (hA : AscO a) : ∀ d n : Nat, n + d = b.length → Ev (fun k => impl_putAll.l0 k (mergeO a (b.take n)) b (n : Int)) (mergeO a b) := by
  intro d
  induction d with
  | zero =>
    intro n h
    refine Ev.step (fun k => by simp only [impl_putAll.l0]; rw [if_neg (by omega)]) (Ev.val (Ev.now _) ?_)
    rw [List.take_of_length_le (by omega)]
  | succ d ih =>
    intro n h
    have hw : wrap64 ((n : Int) + 1) = ((n + 1 : Nat) : Int) := by rw [w_small (by omega) (by omega)]; omega
    have hm : (mergeO a (b.take n)).length ≤ 1048576 := by have := len_mergeO (b.take n) a; rw [List.length_take] at this; omega
    refine Ev.step (fun k => by simp only [impl_putAll.l0]; rw [if_pos (by omega), if_pos (by omega), hw]) ?_
    refine Ev.bind (impl_put_ev (mergeO a (b.take n)) (by omega) (hs.merge (fun x hx => ht x (List.mem_of_mem_take hx))).short (asc_mergeO _ _ hA) (rd_T27 b (n : Int)) (by have := ht.at_ (n : Int); omega)) ?_
    rw [merge_next a b n (by omega)]
    exact ih (n + 1) (by omega)
theorem putAll_ev (hA : AscO a) : Ev (fun k => impl_putAll.f k a b) (mergeO a b) := putAll_l0_ev a b ha hs ht hA b.length 0 (by omega)
end
theorem occsGo_asc : ∀ (l : List S27) (p : Option S27), occsGo p l = true ↔ AscO l ∧ (∀ x ∈ l, occOkB x = true) ∧ (∀ y, p = some y → ∀ x ∈ l, lessO y x = true)
  | [], p => by simp [occsGo, AscO]
  | x :: l, p => by
    have ih := occsGo_asc l (some x)
    have e : occsGo p (x :: l) = true ↔ occOkB x = true ∧ (∀ y, p = some y → lessO y x = true) ∧ occsGo (some x) l = true := by
      cases p with
      | none =>
        rw [show occsGo none (x :: l) = (occOkB x && occsGo (some x) l) from rfl]
        simp
      | some y =>
        rw [show occsGo (some y) (x :: l) = (occOkB x && (lessO y x && occsGo (some x) l)) from rfl]
        simp
    rw [e, ih]
    unfold AscO
    rw [List.pairwise_cons]
    constructor
    · rintro ⟨h1, h2, h3, h4, h5⟩
      refine ⟨⟨h5 x rfl, h3⟩, fun z hz => ?_, fun y hy z hz => ?_⟩
      · rcases List.mem_cons.1 hz with rfl | hz
        · exact h1
        · exact h4 z hz
      · rcases List.mem_cons.1 hz with rfl | hz
        · exact h2 y hy
        · exact lessO_trans (h2 y hy) (h5 x rfl z hz)
    · rintro ⟨⟨h1, h2⟩, h3, h4⟩
      exact ⟨h3 x (by simp), fun y hy => h4 y hy x (by simp), h2, fun z hz => h3 z (by simp [hz]), fun y hy => by injection hy with hy; subst hy; exact h1⟩
theorem occsOkB_iff (l : List S27) : occsOkB l = true ↔ AscO l ∧ (∀ x ∈ l, occOkB x = true) ∧ l.length ≤ 40 := by
  unfold occsOkB
  rw [Bool.and_eq_true, occsGo_asc, decide_eq_true_iff]
  constructor
  · rintro ⟨⟨h1, h2, _⟩, h3⟩
    exact ⟨h1, h2, h3⟩
  · rintro ⟨h1, h2, h3⟩
    exact ⟨⟨h1, h2, fun y hy => by cases hy⟩, h3⟩
def orO (a b : List S27) : List S27 × Bool := if occsOkB a = true ∧ occsOkB b = true then toldO (mergeO a b) else ([], false)
theorem impl_OrOf_ev (a b : List S27) (hl : a.length ≤ 1048576) (hs : Mid a) (hm : b.length ≤ 1048576) (ht : Mid b) : Ev (fun k => impl_OrOf.f k a b) (orO a b) := by
  unfold impl_OrOf.f orO
  refine Ev.bind (impl_OccsOk_ev a (by omega) hs.short) ?_
  by_cases c : occsOkB a = true
  · refine Ev.pos c (Ev.bind (impl_OccsOk_ev b (by omega) ht.short) ?_)
    by_cases c2 : occsOkB b = true
    · rw [if_pos ⟨c, c2⟩]
      obtain ⟨h1, _, h3⟩ := (occsOkB_iff a).1 c
      obtain ⟨_, _, h6⟩ := (occsOkB_iff b).1 c2
      refine Ev.pos c2 (Ev.bind (putAll_ev a b (by omega) hs ht h1) ?_)
      exact few_ev _ (by have := len_mergeO b a; omega) (hs.merge ht)
    · rw [if_neg (fun h => c2 h.2)]
      exact Ev.neg c2 (Ev.now _)
  · rw [if_neg (fun h => c h.1)]
    exact Ev.neg c (Ev.now _)
end Go.Proofs.Ytiplpckgmikmeaa.M
namespace Go.Proofs.Ytiplpckgmikmeaa.M
set_option linter.unusedVariables false
set_option linter.unusedSimpArgs false
open Go.RowKit Go.Proofs.YtiplpckgmikmeaaW.PrintWords Go.Proofs.YtiplpckgmikmeaaW.PrintLast

def shO (o : S27) (n : Int) : S27 := ⟨o.f0, o.f1 + n, o.f2⟩
def inTime (n till : Int) (o : S27) : Bool := decide (o.f1 + n ≤ till) && decide (o.f1 + n ≤ 2000)
theorem inTime_iff {n till : Int} {o : S27} : inTime n till o = true ↔ o.f1 + n ≤ till ∧ o.f1 + n ≤ 2000 := by
  unfold inTime; rw [Bool.and_eq_true, decide_eq_true_iff, decide_eq_true_iff]
def plusL (l : List S27) (n till : Int) : List S27 := (l.filter (inTime n till)).map (fun o => shO o n)
theorem mem_plusL {l : List S27} {n till : Int} {z : S27} : z ∈ plusL l n till ↔ ∃ o, o ∈ l ∧ inTime n till o = true ∧ shO o n = z := by
  unfold plusL
  rw [List.mem_map]
  constructor
  · rintro ⟨o, h, e⟩
    obtain ⟨h1, h2⟩ := List.mem_filter.1 h
    exact ⟨o, h1, h2, e⟩
  · rintro ⟨o, h1, h2, e⟩
    exact ⟨o, List.mem_filter.2 ⟨h1, h2⟩, e⟩
theorem shO_less (a b : S27) (n : Int) : lessO (shO a n) (shO b n) = lessO a b := by
  rw [Bool.eq_iff_iff, lessO_iff, lessO_iff]
  unfold shO
  simp only
  constructor
  · rintro (h | ⟨h, g⟩)
    · exact .inl (by omega)
    · exact .inr ⟨by omega, g⟩
  · rintro (h | ⟨h, g⟩)
    · exact .inl (by omega)
    · exact .inr ⟨by omega, g⟩
theorem asc_plusL {l : List S27} (h : AscO l) (n till : Int) : AscO (plusL l n till) := by
  unfold plusL AscO
  rw [List.pairwise_map]
  refine (h.filter _).imp ?_
  intro a b hab
  rw [shO_less]
  exact hab
theorem len_plusL (l : List S27) (n till : Int) : (plusL l n till).length ≤ l.length := by
  unfold plusL
  rw [List.length_map]
  exact List.length_filter_le _ _
theorem occOk_iff (o : S27) : occOkB o = true ↔ 1 ≤ o.f0 ∧ o.f0 ≤ o.f1 ∧ o.f1 ≤ 2000 ∧ 1 ≤ o.f2.length ∧ idsGo (-1) o.f2 = true := by
  unfold occOkB
  simp only [Bool.and_eq_true, decide_eq_true_iff, and_assoc]
theorem plus_ok {l : List S27} (h : occsOkB l = true) (n till : Int) (hn : 0 ≤ n) : occsOkB (plusL l n till) = true := by
  obtain ⟨h1, h2, h3⟩ := (occsOkB_iff l).1 h
  refine (occsOkB_iff _).2 ⟨asc_plusL h1 n till, fun z hz => ?_, by have := len_plusL l n till; omega⟩
  obtain ⟨o, ho, ht, rfl⟩ := mem_plusL.1 hz
  obtain ⟨g1, g2, g3, g4, g5⟩ := (occOk_iff o).1 (h2 o ho)
  have := inTime_iff.1 ht
  exact (occOk_iff _).2 ⟨g1, by show o.f0 ≤ o.f1 + n; omega, by show o.f1 + n ≤ 2000; omega, g4, g5⟩
theorem Mid.plus {l : List S27} (h : Mid l) (n till : Int) : Mid (plusL l n till) := fun z hz => by
  obtain ⟨o, ho, _, rfl⟩ := mem_plusL.1 hz
  exact h o ho
theorem plus_next (l : List S27) (n till : Int) (m : Nat) (h : m < l.length) : plusL (l.take (m + 1)) n till = plusL (l.take m) n till ++ (if inTime n till (rd_T27 l (m : Int)) = true then [shO (rd_T27 l (m : Int)) n] else []) := by
  rw [← take_next l m h]
  unfold plusL
  rw [filter_snoc, List.map_append]
  by_cases c : inTime n till (rd_T27 l (m : Int)) = true
  · rw [if_pos c, if_pos c]; rfl
  · rw [if_neg c, if_neg c]; rfl
theorem later_is (o : S27) (ho : o.f2.length ≤ 1048576) (n : Int) (h : wrap64 (o.f1 + n) = o.f1 + n) : impl_later.f o.f0 o.f1 o.f2 n = some ((shO o n).f0, (shO o n).f1, (shO o n).f2) := by
  unfold impl_later.f
  rw [clone_is o ho]
  simp only [Option.bind_some, h]
  rfl
theorem l5Later_is (o : S27) (ho : o.f2.length ≤ 1048576) (n : Int) (h : wrap64 (o.f1 + n) = o.f1 + n) : spec_l5Later.f o.f0 o.f1 o.f2 n = some ((shO o n).f0, (shO o n).f1, (shO o n).f2) := by
  unfold spec_l5Later.f
  rw [l3Copy_is o ho]
  simp only [Option.bind_some, h]
  rfl
theorem insO_end : ∀ (l : List S27) (o : S27), (∀ x ∈ l, lessO x o = true) → insO l o = l ++ [o]
  | [], o, _ => rfl
  | x :: l, o, h => by
    unfold insO
    rw [if_pos (h x (by simp)), insO_end l o (fun y hy => h y (by simp [hy]))]
    rfl
theorem rd_mem {l : List S27} {m : Nat} (h : m < l.length) : rd_T27 l (m : Int) ∈ l := by
  show l.getD m z27 ∈ l
  rw [getD_in h]
  exact List.getElem_mem _
def plusO (l : List S27) (n till : Int) : List S27 × Bool := if occsOkB l = true ∧ 1 ≤ n ∧ n ≤ 20 then (plusL l n till, true) else ([], false)
section
variable (l : List S27) (hl : l.length ≤ 1048576) (hs : Mid l) (n till : Int)
theorem rd_small (h : occsOkB l = true) (h1 : 1 ≤ n) (h2 : n ≤ 20) (m : Nat) (hm : m < l.length) : wrap64 ((rd_T27 l (m : Int)).f1 + n) = (rd_T27 l (m : Int)).f1 + n := by
  obtain ⟨_, g2, g3, _⟩ := (occOk_iff _).1 (((occsOkB_iff l).1 h).2.1 _ (rd_mem hm))
  exact w_small (by omega) (by omega)
include hl hs
theorem impl_PlusOf_l0_ev (h : occsOkB l = true) (h1 : 1 ≤ n) (h2 : n ≤ 20) : ∀ d m : Nat, m + d = l.length → Ev (fun k => impl_PlusOf.l0 k n till (plusL (l.take m) n till) l (l.length : Int) (m : Int)) (plusL l n till, true) := by
  intro d
  induction d with
  | zero =>
    intro m hm
    refine Ev.step (fun k => by simp only [impl_PlusOf.l0]; rw [if_neg (by omega)]) (Ev.val (Ev.now _) ?_)
    rw [List.take_of_length_le (by omega)]
  | succ d ih =>
    intro m hm
    have hw : wrap64 ((m : Int) + 1) = ((m + 1 : Nat) : Int) := by rw [w_small (by omega) (by omega)]; omega
    have hq := rd_small l n h h1 h2 m (by omega)
    refine Ev.step (fun k => by simp only [impl_PlusOf.l0]; rw [if_pos (by omega), if_pos (by omega), if_pos (by omega), hw, hq]) ?_
    have nx := ih (m + 1) (by omega)
    rw [plus_next l n till m (by omega)] at nx
    by_cases c : inTime n till (rd_T27 l (m : Int)) = true
    · rw [if_pos c] at nx
      have c' := inTime_iff.1 c
      refine Ev.pos (by unfold mn; omega) (Ev.bind (Ev.one (fun _ => later_is _ (hs.at_ (m : Int)) n hq)) ?_)
      exact Ev.pos (by have := len_plusL (l.take m) n till; rw [List.length_take] at this; omega) nx
    · rw [if_neg c, List.append_nil] at nx
      refine Ev.neg (fun hx => c (inTime_iff.2 ?_)) nx
      unfold mn at hx
      constructor <;> omega
theorem impl_PlusOf_ev : Ev (fun k => impl_PlusOf.f k l n till) (plusO l n till) := by
  unfold impl_PlusOf.f plusO
  refine Ev.bind (impl_OccsOk_ev l (by omega) hs.short) ?_
  by_cases c : occsOkB l = true
  · refine Ev.pos c (Ev.bind (Ev.one (fun _ => impl_in_is n 1 20)) ?_)
    by_cases h : 1 ≤ n ∧ n ≤ 20
    · rw [if_pos ⟨c, h⟩, decide_eq_true h.1, decide_eq_true h.2]
      refine Ev.step (fun k => by simp only [impl_PlusOf.j0, Bool.and_self, Bool.not_true]; rw [if_neg (by decide)]) ?_
      exact impl_PlusOf_l0_ev l hl hs n till c h.1 h.2 l.length 0 (by omega)
    · rw [if_neg (fun hx => h hx.2)]
      have hb : (decide (1 ≤ n) && decide (n ≤ 20)) = false := by
        rw [Bool.and_eq_false_iff, decide_eq_false_iff_not, decide_eq_false_iff_not]
        omega
      rw [hb]
      exact Ev.last (fun k => by simp only [impl_PlusOf.j0, Bool.not_false]; rw [if_pos trivial])
  · rw [if_neg (fun hx => c hx.1)]
    exact Ev.neg c (Ev.last (fun k => by simp only [impl_PlusOf.j0]; rw [if_pos trivial]))
theorem spec_PlusOf_l0_ev (h : occsOkB l = true) (h1 : 1 ≤ n) (h2 : n ≤ 20) : ∀ d m : Nat, m + d = l.length → Ev (fun k => spec_PlusOf.l0 k l n till (plusL (l.take m) n till) (m : Int)) (plusL l n till) := by
  intro d
  induction d with
  | zero =>
    intro m hm
    refine Ev.step (fun k => by simp only [spec_PlusOf.l0]; rw [if_neg (by omega)]) (Ev.val (Ev.now _) ?_)
    rw [List.take_of_length_le (by omega)]
  | succ d ih =>
    intro m hm
    have hw : wrap64 ((m : Int) + 1) = ((m + 1 : Nat) : Int) := by rw [w_small (by omega) (by omega)]; omega
    have hq := rd_small l n h h1 h2 m (by omega)
    refine Ev.step (fun k => by simp only [spec_PlusOf.l0]; rw [if_pos (by omega), if_pos (by omega), hw, hq]) ?_
    have nx := ih (m + 1) (by omega)
    rw [plus_next l n till m (by omega)] at nx
    by_cases c : inTime n till (rd_T27 l (m : Int)) = true
    · rw [if_pos c] at nx
      refine Ev.pos (inTime_iff.1 c) (Ev.bind (Ev.one (fun _ => l5Later_is _ (hs.at_ (m : Int)) n hq)) ?_)
      have hlen := len_plusL (l.take m) n till
      rw [List.length_take] at hlen
      have hsm : Mid (l.take m) := fun x hx => hs x (List.mem_of_mem_take hx)
      refine Ev.bind (l3Put_ev (plusL (l.take m) n till) (by omega) (hsm.plus n till).short (shO (rd_T27 l (m : Int)) n) (by have := hs.at_ (m : Int); show (rd_T27 l (m : Int)).f2.length < _; omega)) ?_
      rw [putS_ins, insO_end _ _ (fun z hz => ?_)]
      · exact nx
      · obtain ⟨o, ho, _, rfl⟩ := mem_plusL.1 hz
        rw [shO_less]
        obtain ⟨j, hj, rfl⟩ := List.getElem_of_mem ho
        rw [List.length_take] at hj
        rw [List.getElem_take]
        have := asc_at ((occsOkB_iff l).1 h).1 (i := j) (j := m) (by omega) (by omega)
        rw [getD_in (by omega)] at this
        exact this
    · rw [if_neg c, List.append_nil] at nx
      exact Ev.neg (fun hx => c (inTime_iff.2 hx)) nx
theorem spec_PlusOf_ev : Ev (fun k => spec_PlusOf.f k l n till) (plusO l n till) := by
  unfold spec_PlusOf.f plusO
  refine Ev.bind (spec_OccsOk_ev l (by omega) hs.short) ?_
  by_cases c : occsOkB l = true ∧ 1 ≤ n ∧ n ≤ 20
  · rw [if_pos c]
    have hlen := len_plusL l n till
    have h40 := ((occsOkB_iff l).1 c.1).2.2
    refine Ev.pos ⟨c.1, by omega, by omega⟩ (Ev.bind (spec_PlusOf_l0_ev l hl hs n till c.1 c.2.1 c.2.2 l.length 0 (by omega)) ?_)
    refine Ev.val (l4Told_ev _ (by omega) (hs.plus n till)) ?_
    unfold toldO
    rw [if_neg (by omega)]
  · rw [if_neg c]
    exact Ev.neg (fun hx => c ⟨hx.1, by omega, by omega⟩) (Ev.now _)
end
theorem plus_merge (a b : List S27) (ha : AscO a) (n till : Int) : plusL (mergeO a b) n till = mergeO (plusL a n till) (plusL b n till) := by
  refine ascO_ext _ _ (asc_plusL (asc_mergeO b a ha) n till) (asc_mergeO _ _ (asc_plusL ha n till)) (fun z => ?_)
  rw [mem_mergeO, mem_plusL, mem_plusL, mem_plusL]
  constructor
  · rintro ⟨o, h1, h2, h3⟩
    rcases (mem_mergeO o b a).1 h1 with h | h
    · exact .inl ⟨o, h, h2, h3⟩
    · exact .inr ⟨o, h, h2, h3⟩
  · rintro (⟨o, h1, h2, h3⟩ | ⟨o, h1, h2, h3⟩)
    · exact ⟨o, (mem_mergeO o b a).2 (.inl h1), h2, h3⟩
    · exact ⟨o, (mem_mergeO o b a).2 (.inr h1), h2, h3⟩
theorem plus_till : ∀ (l : List S27) (n till : Int), AscO l → plusL l n (till - 1) = (plusL l n till).take (plusL l n (till - 1)).length
  | [], _, _, _ => rfl
  | x :: l, n, till, h => by
    have h1 := List.pairwise_cons.1 h
    have ih := plus_till l n till h1.2
    by_cases c : inTime n (till - 1) x = true
    · have c2 : inTime n till x = true := inTime_iff.2 (by have := inTime_iff.1 c; omega)
      have e1 : plusL (x :: l) n (till - 1) = shO x n :: plusL l n (till - 1) := by unfold plusL; rw [List.filter_cons, if_pos c, List.map_cons]
      have e2 : plusL (x :: l) n till = shO x n :: plusL l n till := by unfold plusL; rw [List.filter_cons, if_pos c2, List.map_cons]
      rw [e1, e2, List.length_cons, List.take_succ_cons, ← ih]
    · have e1 : plusL (x :: l) n (till - 1) = [] := by
        unfold plusL
        rw [List.filter_cons, if_neg c, List.map_eq_nil_iff, List.filter_eq_nil_iff]
        intro y hy hc
        refine c (inTime_iff.2 ?_)
        have h2 := (lessO_iff x y).1 (h1.1 y hy)
        have h3 := inTime_iff.1 hc
        omega
      rw [e1]; rfl
end Go.Proofs.Ytiplpckgmikmeaa.M
namespace Go.Proofs.Ytiplpckgmikmeaa.M
open Go.RowKit Go.Proofs.YtiplpckgmikmeaaW.PrintWords Go.Proofs.YtiplpckgmikmeaaW.PrintLast Go.Proofs.YtiplpckgmikmeaaW.PrintMore
attribute [local go_sem] max2_int min2_int max_two min_two max_three min_three max_four min_four
set_option linter.unusedVariables false
set_option linter.unusedSimpArgs false

end Go.Proofs.Ytiplpckgmikmeaa.M
namespace Go.Proofs.Ytiplpckgmikmeaa.M
open Go.RowKit Go.Proofs.YtiplpckgmikmeaaW.PrintWords Go.Proofs.YtiplpckgmikmeaaW.PrintLast Go.Proofs.YtiplpckgmikmeaaW.PrintMore
attribute [local go_sem] max2_int min2_int max_two min_two max_three min_three max_four min_four
set_option linter.unusedVariables false
set_option linter.unusedSimpArgs false

end Go.Proofs.Ytiplpckgmikmeaa.M
namespace Go.Proofs.Ytiplpckgmikmeaa.M
open Go.RowKit Go.Proofs.YtiplpckgmikmeaaW.PrintWords Go.Proofs.YtiplpckgmikmeaaW.PrintLast Go.Proofs.YtiplpckgmikmeaaW.PrintMore
attribute [local go_sem] max2_int min2_int max_two min_two max_three min_three max_four min_four
set_option linter.unusedVariables false
set_option linter.unusedSimpArgs false

end Go.Proofs.Ytiplpckgmikmeaa.M
namespace Go.Proofs.Ytiplpckgmikmeaa.M
set_option linter.unusedVariables false
set_option linter.unusedSimpArgs false
open Go.RowKit Go.Proofs.YtiplpckgmikmeaaW.PrintWords Go.Proofs.YtiplpckgmikmeaaW.PrintLast

theorem Few.mid {l : List S27} (h : Few l) : Mid l := fun x hx => Nat.le_trans (h x hx) (by omega)
theorem DrawOccsOk_ev (l : List Int) (hl : l.length ≤ 9223372036854775807) (hw : ∀ x ∈ l, (Lit.int .u8 x).wf = true) : ∃ (a : List S27), Ev (fun k => spec_DrawOccsOk.f k l) a ∧ a.length ≤ 7 ∧ Few a := by
  have hb := open_bytes hw
  have ho : Ev (fun _ => spec_l14Open.f l) (l.take 2000, (0 : Int)) := Ev.one (fun _ => l14Open_is l hl)
  obtain ⟨a, p, h1, h2, h3, _, _⟩ := l3Bent_ev _ hb 0 (by omega) (by omega)
  refine ⟨a, ?_, h2, h3⟩
  unfold spec_DrawOccsOk.f
  exact Ev.bind ho (Ev.bindS h1 rfl)
theorem DrawPlusOf_ev (l : List Int) (hl : l.length ≤ 9223372036854775807) (hw : ∀ x ∈ l, (Lit.int .u8 x).wf = true) : ∃ (a : List S27) (n till : Int), Ev (fun k => spec_DrawPlusOf.f k l) (a, n, till) ∧ a.length ≤ 7 ∧ Few a ∧ (0 ≤ n ∧ n ≤ 21) ∧ (-1 ≤ till ∧ till ≤ 2000) := by
  have hb := open_bytes hw
  have ho : Ev (fun _ => spec_l14Open.f l) (l.take 2000, (0 : Int)) := Ev.one (fun _ => l14Open_is l hl)
  obtain ⟨a, p, h1, h2, h3, h4, h5⟩ := l3Bent_ev _ hb 0 (by omega) (by omega)
  obtain ⟨n, hn, hn2⟩ := num_ev _ hb p [1, 2, 5, 20, 0, 21] (by simp) (by simp) h4 (by omega)
  obtain ⟨t, ht, ht2⟩ := num_ev _ hb (p + 1) [6, 10, 20, 2000, 0, (-1)] (by simp) (by simp) (by omega) (by omega)
  refine ⟨a, n, t, ?_, h2, h3, ?_, ?_⟩
  · unfold spec_DrawPlusOf.f
    exact Ev.bind ho (Ev.bind h1 (Ev.bind hn (Ev.bindS ht rfl)))
  · simp only [List.mem_cons, List.not_mem_nil, or_false] at hn2
    omega
  · simp only [List.mem_cons, List.not_mem_nil, or_false] at ht2
    omega
end Go.Proofs.Ytiplpckgmikmeaa.M
namespace Go.Proofs.Ytiplpckgmikmeaa.M
set_option linter.unusedVariables false
set_option linter.unusedSimpArgs false
open Go.RowKit Go.Proofs.YtiplpckgmikmeaaW.PrintWords Go.Proofs.YtiplpckgmikmeaaW.PrintLast

section
variable (a b : List S27) (n till : Int) (ha : a.length ≤ 7) (hb : b.length ≤ 7) (hf : Few a) (hg : Few b) (h1 : 1 ≤ n) (h2 : n ≤ 20) (ht : -1 ≤ till ∧ till ≤ 2000) (c : occsOkB a = true)
include ha hb hf hg h1 h2 ht c in
theorem por_l0 : ∀ e m : Nat, m + e = (plusL a n till).length → Ev (fun k => laws_FnPlusOr.l0 k a n till (plusL a n till) true true (plusL (mergeO a b) n till) true (mergeO (plusL a n till) (plusL b n till)) true (m : Int)) true := by
  have hla := len_plusL a n till
  have hlb := len_plusL b n till
  have hlm := len_mergeO (plusL b n till) (plusL a n till)
  intro e
  induction e with
  | zero =>
    intro m h
    refine Ev.step (fun k => by simp only [laws_FnPlusOr.l0]; rw [if_neg (by omega)]) ?_
    rw [plus_merge a b ((occsOkB_iff a).1 c).1 n till]
    have hm : Mid (mergeO (plusL a n till) (plusL b n till)) := (hf.mid.plus n till).merge (hg.mid.plus n till)
    rw [w_small (by omega) (by omega)]
    have e1 : plusO a n (till - 1) = (plusL a n (till - 1), true) := by unfold plusO; rw [if_pos ⟨c, h1, h2⟩]
    have p1 := impl_PlusOf_ev a (by omega) hf.mid n (till - 1)
    rw [e1] at p1
    refine Ev.bind p1 (Ev.pos trivial (Ev.pos trivial (Ev.pos trivial (Ev.pos trivial (Ev.bind (impl_OccsSame_ev _ _ (by omega) hm.short hm.short) (Ev.pos (occsEq_self _) ?_))))))
    have hp := plus_till a n till ((occsOkB_iff a).1 c).1
    have hl := len_plusL a n (till - 1)
    have hle : (plusL a n (till - 1)).length ≤ (plusL a n till).length := by
      have := congrArg List.length hp
      rw [List.length_take] at this
      omega
    have hm2 : Mid (plusL a n (till - 1)) := hf.mid.plus n (till - 1)
    refine Ev.pos rfl (Ev.pos (by simp only; omega) (Ev.pos (by simp only; omega) ?_))
    simp only [Int.toNat_natCast]
    rw [← hp]
    exact Ev.bindS (impl_OccsSame_ev _ _ (by omega) hm2.short hm2.short) (by rw [occsEq_self])
  | succ e ih =>
    intro m h
    have hw : wrap64 ((m : Int) + 1) = ((m + 1 : Nat) : Int) := by rw [w_small (by omega) (by omega)]; omega
    obtain ⟨o, ho, ht', he⟩ := mem_plusL.1 (rd_mem (l := plusL a n till) (m := m) (by omega))
    obtain ⟨_, g2, g3, _⟩ := (occOk_iff o).1 (((occsOkB_iff a).1 c).2.1 o ho)
    have g4 := inTime_iff.1 ht'
    refine Ev.step (fun k => by simp only [laws_FnPlusOr.l0]; rw [if_pos (by omega), if_pos (by omega), hw, ← he]) ?_
    have e1 : (shO o n).f1 = o.f1 + n := rfl
    have e0 : (shO o n).f0 = o.f0 := rfl
    exact Ev.neg (by rw [e1]; omega) (Ev.neg (by rw [e1, e0]; omega) (ih (m + 1) (by omega)))
end
theorem FnPlusOr_pure (l0 : List Int) (h0 : l0.length ≤ maxLen ∧ ∀ y ∈ l0, (Lit.int .u8 y).wf = true) (_ : l0.length * 1 ≤ 140737488351232) (l1 : List Int) (h1 : l1.length ≤ maxLen ∧ ∀ y ∈ l1, (Lit.int .u8 y).wf = true) (_ : l1.length * 1 ≤ 140737488351232) : ∃ k, laws_FnPlusOr.f k l0 l1 = some true := by
  refine Ev.rounds (g := fun k => laws_FnPlusOr.f k l0 l1) ?_
  have stop : Ev (fun k => laws_FnPlusOr.j0 k l0 l1 true) true := Ev.last (fun k => by simp only [laws_FnPlusOr.j0]; rw [if_pos trivial])
  have on : Ev (fun k => laws_FnPlusOr.j0 k l0 l1 false) true := by
    obtain ⟨a, n, till, g1, ha, hf, hn, ht⟩ := DrawPlusOf_ev l0 (maxLen_le h0.1) h0.2
    obtain ⟨b, g2, hb, hg⟩ := DrawOccsOk_ev l1 (maxLen_le h1.1) h1.2
    refine Ev.step (fun k => by simp only [laws_FnPlusOr.j0]; rw [if_neg (by decide)]) (Ev.bind g1 (Ev.bind g2 ?_))
    refine Ev.bind (impl_PlusOf_ev a (by omega) hf.mid n till) (Ev.bind (spec_PlusOf_ev a (by omega) hf.mid n till) (Ev.neg (by simp) ?_))
    by_cases ok : occsOkB a = true ∧ 1 ≤ n ∧ n ≤ 20
    · have e1 : plusO a n till = (plusL a n till, true) := by unfold plusO; rw [if_pos ok]
      have hlen := len_plusL a n till
      have hm : Mid (plusL a n till) := hf.mid.plus n till
      have same := impl_OccsSame_ev (plusL a n till) (plusL a n till) (by omega) hm.short hm.short
      rw [occsEq_self] at same
      rw [e1]
      refine Ev.bind same (Ev.pos rfl (Ev.pos rfl (Ev.bind (spec_OccsOk_ev b (by omega) hg.short) ?_)))
      by_cases d : occsOkB b = true
      · rw [d]
        refine Ev.step (fun k => by simp only [laws_FnPlusOr.j1, Bool.not_true]; rw [if_neg (by decide)]) ?_
        have e2 : plusO b n till = (plusL b n till, true) := by unfold plusO; rw [if_pos ⟨d, ok.2⟩]
        have p2 := impl_PlusOf_ev b (by omega) hg.mid n till
        rw [e2] at p2
        have hlm := len_mergeO b a
        have hmm : Mid (mergeO a b) := hf.mid.merge hg.mid
        have e3 : orO a b = (mergeO a b, true) := by unfold orO toldO; rw [if_pos ⟨ok.1, d⟩, if_neg (by omega)]
        have p3 := impl_OrOf_ev a b (by omega) hf.mid (by omega) hg.mid
        rw [e3] at p3
        have okm : occsOkB (mergeO a b) = true := (occsOkB_iff _).2 ⟨asc_mergeO b a ((occsOkB_iff a).1 ok.1).1, fun x hx => ((mem_mergeO x b a).1 hx).elim (((occsOkB_iff a).1 ok.1).2.1 x) (((occsOkB_iff b).1 d).2.1 x), by omega⟩
        have e4 : plusO (mergeO a b) n till = (plusL (mergeO a b) n till, true) := by unfold plusO; rw [if_pos ⟨okm, ok.2⟩]
        have p4 := impl_PlusOf_ev (mergeO a b) (by omega) hmm n till
        rw [e4] at p4
        have hlb := len_plusL b n till
        have hl2 := len_mergeO (plusL b n till) (plusL a n till)
        have hmb : Mid (plusL b n till) := hg.mid.plus n till
        have e5 : orO (plusL a n till) (plusL b n till) = (mergeO (plusL a n till) (plusL b n till), true) := by unfold orO toldO; rw [if_pos ⟨plus_ok ok.1 n till (by omega), plus_ok d n till (by omega)⟩, if_neg (by omega)]
        have p5 := impl_OrOf_ev (plusL a n till) (plusL b n till) (by omega) hm (by omega) hmb
        rw [e5] at p5
        exact Ev.bind p2 (Ev.bind p3 (Ev.bind p4 (Ev.bind p5 (por_l0 a b n till ha hb hf hg ok.2.1 ok.2.2 ht ok.1 (plusL a n till).length 0 (by omega)))))
      · have d' : occsOkB b = false := by simpa using d
        rw [d']
        exact Ev.step (fun k => by simp only [laws_FnPlusOr.j1, Bool.not_false]; rw [if_pos trivial, if_pos (show (true == true) = true from rfl)]) (Ev.bindS same rfl)
    · have e1 : plusO a n till = ([], false) := by unfold plusO; rw [if_neg ok]
      rw [e1]
      have same := impl_OccsSame_ev [] [] (by simp) (fun x hx => by simp at hx) (fun x hx => by simp at hx)
      rw [occsEq_self] at same
      refine Ev.bind same (Ev.pos rfl (Ev.neg (by decide) ?_))
      exact Ev.step (fun k => by simp only [laws_FnPlusOr.j1]; rw [if_pos trivial, if_pos (show (false == false) = true from rfl)]) (Ev.bindS same rfl)
  unfold laws_FnPlusOr.f
  by_cases c : (l0.length : Int) > 1048576
  · exact Ev.pos c stop
  · refine Ev.neg c ?_
    by_cases c1 : (l1.length : Int) > 1048576
    · rw [decide_eq_true c1]; exact stop
    · rw [decide_eq_false c1]; exact on
end Go.Proofs.Ytiplpckgmikmeaa.M
