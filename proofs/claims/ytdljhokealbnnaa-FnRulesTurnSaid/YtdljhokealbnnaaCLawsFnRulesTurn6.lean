/- What the claim's law leans on: the program's functions, what they compute, and the law over plain values; no condition is asked. (Part 6 of 6.) -/
import Derived.Test.YtdljhokealbnnaaCLawsFnRulesTurn5
import Derived.Laws.BitsAllLaws
import Derived.Laws.BitsLemmas
namespace Go.Proofs.Ytdljhokealbnnaa.M
set_option linter.unusedVariables false
set_option linter.unusedSimpArgs false
open Go.RowKit Go.Proofs.YtdljhokealbnnaaW.PrintWords Go.Proofs.YtdljhokealbnnaaW.PrintLast

theorem priAt_mem {l : List S39} (h : ∀ r ∈ l, 0 ≤ r.f1 ∧ r.f1 ≤ 9) (i : Nat) : 0 ≤ priAt l i ∧ priAt l i ≤ 9 := by
  unfold priAt
  by_cases hi : i < l.length
  · rw [List.getD_eq_getElem?_getD, List.getElem?_eq_getElem hi]
    exact h _ (List.getElem_mem hi)
  · rw [List.getD_eq_getElem?_getD, List.getElem?_eq_none (by omega)]
    show 0 ≤ (0 : Int) ∧ (0 : Int) ≤ 9
    omega
theorem ruleOk_pri (r : S39) (hs : r.f0.size ≤ 1048576) (h : SpecOne r true) : 0 ≤ r.f1 ∧ r.f1 ≤ 9 := by
  by_cases hr : 0 ≤ r.f1 ∧ r.f1 ≤ 9
  · exact hr
  obtain ⟨v, h1, _⟩ := name_ev r.f0 hs
  have : SpecOne r false := by
    unfold SpecOne spec_RuleOk.f
    refine Ev.bind h1 ?_
    cases v with
    | false => exact Ev.neg (by decide) (Ev.now _)
    | true =>
      refine Ev.pos rfl ?_
      by_cases c : r.f1 ≥ 0
      · exact Ev.pos c (Ev.neg (fun c2 => hr ⟨c, c2⟩) (Ev.now _))
      · exact Ev.neg c (Ev.now _)
  exact absurd (Ev.uniq h this) (by decide)
def Fits (l : List S39) : Prop := ∀ r ∈ l, r.f0.size ≤ 1048576 ∧ allY r.f3 ≤ 1048576
theorem one_ex : ∃ ok : S39 → Bool, ∀ y : S39, y.f0.size ≤ 1048576 ∧ allY y.f3 ≤ 1048576 → SpecOne y (ok y) ∧ Ev (fun k => impl_RulesOk.one k y) (ok y) := by
  refine Classical.axiomOfChoice (r := fun (y : S39) (v : Bool) => y.f0.size ≤ 1048576 ∧ allY y.f3 ≤ 1048576 → SpecOne y v ∧ Ev (fun k => impl_RulesOk.one k y) v) (fun y => ?_)
  by_cases hy : y.f0.size ≤ 1048576 ∧ allY y.f3 ≤ 1048576
  · obtain ⟨v, hv, hw⟩ := ruleOk_ev y hy.1 hy.2
    exact ⟨v, fun _ => ⟨hv, hw⟩⟩
  · exact ⟨false, fun hm => absurd hm hy⟩
theorem rulesGo_iff (ok : S39 → Bool) (l : List S39) : ∀ d n : Nat, n + d = l.length → (rulesGo ok l d n = true ↔ l.length ≤ 4 ∧ (∀ i (hi : i < l.length), n ≤ i → ok l[i] = true ∧ named (l.take i) l[i] = false))
  | 0, n, h => by
    unfold rulesGo
    rw [decide_eq_true_iff]
    exact ⟨fun c => ⟨by omega, fun i hi hn => by omega⟩, fun c => by omega⟩
  | d + 1, n, h => by
    unfold rulesGo
    have ih := rulesGo_iff ok l d (n + 1) (by omega)
    have e : l.getD n z39 = l[n]'(by omega) := by
      rw [List.getD_eq_getElem?_getD, List.getElem?_eq_getElem (by omega)]; rfl
    rw [e, Bool.and_eq_true, Bool.and_eq_true, ih, Bool.not_eq_true']
    constructor
    · rintro ⟨a, b, c, f⟩
      refine ⟨c, fun i hi hn => ?_⟩
      rcases Nat.lt_or_ge n i with g | g
      · exact f i hi g
      · obtain rfl : i = n := by omega
        exact ⟨a, b⟩
    · rintro ⟨c, f⟩
      exact ⟨(f n (by omega) (Nat.le_refl _)).1, (f n (by omega) (Nat.le_refl _)).2, c, fun i hi hn => f i hi (by omega)⟩
theorem rulesOk_both (ok : S39 → Bool) (hok : ∀ y : S39, y.f0.size ≤ 1048576 ∧ allY y.f3 ≤ 1048576 → SpecOne y (ok y) ∧ Ev (fun k => impl_RulesOk.one k y) (ok y)) (l : List S39) (h : Fits l) : Ev (fun k => spec_RulesOk.f k l) (rulesGo ok l l.length 0) ∧ Ev (fun k => impl_RulesOk.f k l) (rulesGo ok l l.length 0) ∧ (rulesGo ok l l.length 0 = true → l.length ≤ 4 ∧ ∀ i : Nat, 0 ≤ priAt l i ∧ priAt l i ≤ 9) := by
  refine ⟨spec_RulesOk_ev ok l (fun y hy => (hok y (h y hy)).1), impl_RulesOk_ev l ok (fun y hy => (hok y (h y hy)).2), fun ht => ?_⟩
  obtain ⟨h4, hi⟩ := (rulesGo_iff ok l l.length 0 (by omega)).1 ht
  refine ⟨h4, fun i => priAt_mem (fun r hr => ?_) i⟩
  obtain ⟨j, hj, rfl⟩ := List.getElem_of_mem hr
  have ho := (hi j hj (Nat.zero_le _)).1
  have hs := (hok l[j] (h _ hr)).1
  rw [ho] at hs
  exact ruleOk_pri l[j] (h _ hr).1 hs
section
variable (l : List S39) (h4 : l.length ≤ 4) (hp : ∀ i : Nat, 0 ≤ priAt l i ∧ priAt l i ≤ 9)
def Part (o : List Int) (p : Int) (n : Nat) : Prop := o.Pairwise (fun x y => Due l x.toNat y.toNat) ∧ ∀ x : Int, x ∈ o ↔ (0 ≤ x ∧ x < (l.length : Int)) ∧ (p < priAt l x.toNat ∨ priAt l x.toNat = p ∧ x < (n : Int))
include h4 in
theorem order_l1_ev (p : Int) (h0 : 0 ≤ p) (h9 : p ≤ 9) (c : Nat) (hc : c ≤ 100) (next : ∀ o, Part l o p l.length → o.length ≤ c + l.length → ∃ r, Ev (fun k => spec_RulesOrder.l0 k l o (p - 1)) r ∧ IsOrder l r) : ∀ (d n : Nat) (o : List Int), n + d = l.length → Part l o p n → o.length ≤ c + n → ∃ r, Ev (fun k => spec_RulesOrder.l1 k l o p (n : Int)) r ∧ IsOrder l r
  | 0, n, o, h, hP, ho => by
    obtain rfl : n = l.length := by omega
    obtain ⟨r, h1, h2⟩ := next o hP ho
    refine ⟨r, Ev.step (fun k => by simp only [spec_RulesOrder.l1]; rw [if_neg (by omega), w_small (by omega) (by omega)]) h1, h2⟩
  | d + 1, n, o, h, hP, ho => by
    have hw : wrap64 ((n : Int) + 1) = ((n + 1 : Nat) : Int) := by rw [w_small (by omega) (by omega)]; omega
    have e : (rd_T39 l (n : Int)).f1 = priAt l n := rfl
    by_cases hq : priAt l n = p
    rotate_left
    · obtain ⟨r, h1, h2⟩ := order_l1_ev p h0 h9 c hc next d (n + 1) o (by omega) ⟨hP.1, fun x => by
        rw [hP.2 x]
        constructor
        · rintro ⟨g, g'⟩
          exact ⟨g, g'.imp id (fun g => ⟨g.1, by omega⟩)⟩
        · rintro ⟨g, g'⟩
          refine ⟨g, g'.imp id (fun g' => ⟨g'.1, ?_⟩)⟩
          rcases Int.lt_or_le x (n : Int) with c | c
          · exact c
          · obtain rfl : x = (n : Int) := by omega
            rw [Int.toNat_natCast] at g'
            exact absurd g'.1 hq⟩ (by omega)
      refine ⟨r, Ev.step (fun k => by simp only [spec_RulesOrder.l1]; rw [if_pos (by omega), if_pos (by omega), e, if_neg hq, hw]) h1, h2⟩
    obtain ⟨r, h1, h2⟩ := order_l1_ev p h0 h9 c hc next d (n + 1) (o ++ [(n : Int)]) (by omega) ⟨by
      rw [List.pairwise_append]
      refine ⟨hP.1, List.pairwise_singleton _ _, fun x hx y hy => ?_⟩
      rw [List.mem_singleton.1 hy, Int.toNat_natCast]
      have := ((hP.2 x).1 hx)
      unfold Due
      omega, fun x => by
      rw [List.mem_append, List.mem_singleton, hP.2 x]
      constructor
      · rintro (g | rfl)
        · exact ⟨g.1, g.2.imp id (fun g => ⟨g.1, by omega⟩)⟩
        · rw [Int.toNat_natCast]
          exact ⟨by omega, .inr ⟨hq, by omega⟩⟩
      rintro ⟨g, g'⟩
      rcases Int.lt_or_le x (n : Int) with c | c
      · exact .inl ⟨g, g'.imp id (fun g => ⟨g.1, c⟩)⟩
      · rcases g' with g' | g'
        · exact .inl ⟨g, .inl g'⟩
        · exact .inr (by omega)⟩ (by rw [List.length_append, List.length_singleton]; omega)
    refine ⟨r, Ev.step (fun k => by simp only [spec_RulesOrder.l1]; rw [if_pos (by omega), if_pos (by omega), e, if_pos hq, if_pos (by omega), hw]) h1, h2⟩
include h4 hp in
theorem order_l0_ev : ∀ (e : Nat) (o : List Int), e ≤ 10 → Part l o ((e : Int) - 1) 0 → o.length ≤ 4 * (10 - e) → ∃ r, Ev (fun k => spec_RulesOrder.l0 k l o ((e : Int) - 1)) r ∧ IsOrder l r
  | 0, o, _, hP, ho => by
    refine ⟨o, Ev.step (fun k => by simp only [spec_RulesOrder.l0]; rw [if_neg (by omega)]) (Ev.now _), hP.1, fun x => ?_⟩
    rw [hP.2 x]
    have := hp x.toNat
    omega
  | e + 1, o, he, hP, ho => by
    obtain ⟨r, h1, h2⟩ := order_l1_ev l h4 (((e + 1 : Nat) : Int) - 1) (by omega) (by omega) (4 * (10 - (e + 1))) (by omega) (fun o' hP' ho' => by
      have e1 : ((e + 1 : Nat) : Int) - 1 - 1 = (e : Int) - 1 := by omega
      rw [e1]
      refine order_l0_ev e o' (by omega) ⟨hP'.1, fun x => ?_⟩ (by omega)
      rw [hP'.2 x]
      omega) l.length 0 o (by omega) hP (by omega)
    have h1 : Ev (fun k => spec_RulesOrder.l1 k l o (((e + 1 : Nat) : Int) - 1) 0) r := h1
    exact ⟨r, Ev.step (fun k => by simp only [spec_RulesOrder.l0]; rw [if_pos (by omega)]) h1, h2⟩
end
theorem order_both (ok : S39 → Bool) (hok : ∀ y : S39, y.f0.size ≤ 1048576 ∧ allY y.f3 ≤ 1048576 → SpecOne y (ok y) ∧ Ev (fun k => impl_RulesOk.one k y) (ok y)) (l : List S39) (h : Fits l) : ∃ o, Ev (fun k => spec_RulesOrder.f k l) o ∧ Ev (fun k => impl_RulesOrder.f k l) o ∧ (rulesGo ok l l.length 0 = true → IsOrder l o) ∧ (rulesGo ok l l.length 0 = false → o = []) := by
  obtain ⟨h1, h2, h3⟩ := rulesOk_both ok hok l h
  cases hv : rulesGo ok l l.length 0 with
  | false =>
    rw [hv] at h1 h2
    refine ⟨[], ?_, ?_, fun c => absurd c (by decide), fun _ => rfl⟩
    · unfold spec_RulesOrder.f
      exact Ev.bind (Ev.now _) (Ev.bind h1 (Ev.neg (by decide) (Ev.now _)))
    · unfold impl_RulesOrder.f
      exact Ev.bind h2 (Ev.neg (by decide) (Ev.now _))
  | true =>
    rw [hv] at h1 h2
    obtain ⟨h4, hp⟩ := h3 hv
    obtain ⟨o, g1, g2⟩ := order_l0_ev l h4 hp 10 [] (by omega) ⟨List.Pairwise.nil, fun x => ⟨fun hx => (List.not_mem_nil hx).elim, fun hx => by have := hp x.toNat; omega⟩⟩ (by simp)
    have io := orderR_is l hp
    have e : orderR l = o := isOrder_ext l _ _ io.1 g2.1 (fun x hx => ((io.2 x).1 hx).1) (fun x => by rw [io.2 x, g2.2 x])
    refine ⟨o, ?_, ?_, fun _ => g2, fun c => absurd c (by decide)⟩
    · unfold spec_RulesOrder.f
      exact Ev.bind (Ev.now _) (Ev.bind h1 (Ev.pos rfl g1))
    unfold impl_RulesOrder.f
    refine Ev.bind h2 (Ev.pos rfl ?_)
    unfold impl_order.f
    exact Ev.one (fun _ => by rw [if_pos (by omega), e])
theorem ofInt_small (a : Nat) (ha : a < 9223372036854775808) : (BitVec.ofInt 64 (a : Int)).toNat = a := by
  rw [BitVec.ofInt_natCast, BitVec.toNat_ofNat]; exact Nat.mod_eq_of_lt (by omega)
theorem xor_small (a b : Nat) (ha : a < 9223372036854775808) (hb : b < 9223372036854775808) : bits .xor .i64 (a : Int) (b : Int) = ((a ^^^ b : Nat) : Int) := by
  have hx : a ^^^ b < 2 ^ 63 := Nat.xor_lt_two_pow (by omega) (by omega)
  show IntKind.i64.wrap ((BitVec.ofInt 64 (a : Int) ^^^ BitVec.ofInt 64 (b : Int)).toNat : Int) = _
  rw [BitVec.toNat_xor, ofInt_small a ha, ofInt_small b hb, IntKind.wrap_i64]
  omega
theorem mix_small (x : Int) (h0 : 0 ≤ x) (h1 : x ≤ 1099511627776) : 0 ≤ bits .xor .i64 x (wrap64 (Int.tdiv x 64)) := by
  obtain ⟨n, rfl⟩ := Int.eq_ofNat_of_zero_le h0
  have : Int.tdiv (n : Int) 64 = ((n / 64 : Nat) : Int) := rfl
  rw [this, w_small (by omega) (by omega), xor_small n (n / 64) (by omega) (by omega)]
  exact Int.natCast_nonneg _

def Bytes (bs : List Int) : Prop := bs.length ≤ 2000 ∧ ∀ x ∈ bs, 0 ≤ x ∧ x ≤ 255
theorem bytes_of {l : List Int} (h : ∀ x ∈ l, (Lit.int .u8 x).wf = true) : ∀ x ∈ l, 0 ≤ x ∧ x ≤ 255 := by
  intro x hx
  have := h x hx
  simp only [Lit.wf, Bool.and_eq_true, decide_eq_true_eq] at this
  exact this
theorem Bytes.rdLe {bs : List Int} (h : Bytes bs) (i : Int) : 0 ≤ rd bs i ∧ rd bs i ≤ 255 := by
  unfold rd
  rw [List.getD_eq_getElem?_getD]
  rcases Nat.lt_or_ge i.toNat bs.length with hi | hi
  · rw [List.getElem?_eq_getElem hi]
    exact h.2 _ (List.getElem_mem hi)
  · rw [List.getElem?_eq_none hi]
    simp

theorem l14Open_is (l : List Int) (hl : l.length ≤ 9223372036854775807) : spec_l14Open.f l = some (l.take 2000, 0) := by
  unfold spec_l14Open.f
  by_cases h : (l.length : Int) > 2000
  · rw [if_pos h, if_pos (by omega)]
  · rw [if_neg h, List.take_of_length_le (by omega)]
theorem open_bytes {l : List Int} (h : ∀ x ∈ l, (Lit.int .u8 x).wf = true) : Bytes (l.take 2000) :=
  ⟨by rw [List.length_take]; omega, fun x hx => bytes_of h x (List.mem_of_mem_take hx)⟩

theorem tmod_lt (a n : Int) (h0 : 0 ≤ a) (h1 : 1 ≤ n) : 0 ≤ Int.tmod a n ∧ Int.tmod a n < n := by
  rw [Int.tmod_eq_emod_of_nonneg h0]
  exact ⟨Int.emod_nonneg _ (by omega), Int.emod_lt_of_pos _ (by omega)⟩

theorem pick_ev (bs : List Int) (hb : Bytes bs) (p n : Int) (h0 : 0 ≤ p) (h1 : p ≤ 1000000) : ∃ r, Ev (fun k => spec_l14Rd_pick.f k bs p n) (r, p + 1) ∧ 0 ≤ r ∧ (r < n ∨ n < 1 ∧ r = 0) := by
  have w1 : wrap64 (p + 1) = p + 1 := w_small (by omega) (by omega)
  by_cases hn : n < 1
  · refine ⟨0, ?_, by omega, .inr ⟨hn, rfl⟩⟩
    unfold spec_l14Rd_pick.f
    refine Ev.pos hn (Ev.last (fun k => ?_))
    simp only [spec_l14Rd_pick.j0]
    rw [if_pos trivial, w1]
  by_cases he : (bs.length : Int) = 0
  · refine ⟨0, ?_, by omega, .inl (by omega)⟩
    unfold spec_l14Rd_pick.f
    refine Ev.neg hn (Ev.last (fun k => ?_))
    simp only [spec_l14Rd_pick.j0]
    rw [beq_iff_eq.2 he, if_pos rfl, w1]
  have w2 : wrap64 (p + 1 - 1) = p := by rw [show p + 1 - 1 = p by omega]; exact w_small (by omega) (by omega)
  have hne : ((bs.length : Int) == 0) = false := beq_eq_false_iff_ne.2 he
  have hlen := hb.1
  by_cases hk : p < (bs.length : Int)
  · have hr := hb.rdLe p
    have hm := tmod_lt (rd bs p) n hr.1 (by omega)
    refine ⟨Int.tmod (rd bs p) n, ?_, hm.1, .inl hm.2⟩
    unfold spec_l14Rd_pick.f
    refine Ev.neg hn (Ev.last (fun k => ?_))
    simp only [spec_l14Rd_pick.j0]
    rw [hne, if_neg (by decide), w1, w2, if_pos hk, if_pos h0, if_neg (by omega), w_small (by omega) (by omega)]
  have t1 := tmod_lt p (bs.length : Int) h0 (by omega)
  have w3 : wrap64 (p * 7) = p * 7 := w_small (by omega) (by omega)
  have w4 : wrap64 (p * 7 + 3) = p * 7 + 3 := w_small (by omega) (by omega)
  have t2 := tmod_lt (p * 7 + 3) (bs.length : Int) (by omega) (by omega)
  have r1 := hb.rdLe (Int.tmod p (bs.length : Int))
  have r2 := hb.rdLe (Int.tmod (p * 7 + 3) (bs.length : Int))
  have hd : 0 ≤ Int.tdiv p (bs.length : Int) ∧ Int.tdiv p (bs.length : Int) ≤ p := by
    rw [Int.tdiv_eq_ediv_of_nonneg h0]
    exact ⟨Int.ediv_nonneg h0 (by omega), Int.ediv_le_self _ h0⟩
  have w5 : wrap64 (Int.tdiv p (bs.length : Int)) = Int.tdiv p (bs.length : Int) := w_small (by omega) (by omega)
  generalize hq : Int.tdiv p (bs.length : Int) = q at *
  generalize ha : rd bs (Int.tmod p (bs.length : Int)) = a at *
  generalize hb' : rd bs (Int.tmod (p * 7 + 3) (bs.length : Int)) = b at *
  have x1 : wrap64 a = a := w_small (by omega) (by omega)
  have x2 : wrap64 b = b := w_small (by omega) (by omega)
  have x3 : wrap64 (a * 131) = a * 131 := w_small (by omega) (by omega)
  have x4 : wrap64 (b * 1117) = b * 1117 := w_small (by omega) (by omega)
  have x5 : wrap64 (a * 131 + b * 1117) = a * 131 + b * 1117 := w_small (by omega) (by omega)
  have x6 : wrap64 (p * 29) = p * 29 := w_small (by omega) (by omega)
  have x7 : wrap64 (a * 131 + b * 1117 + p * 29) = a * 131 + b * 1117 + p * 29 := w_small (by omega) (by omega)
  have x8 : wrap64 (q * 53) = q * 53 := w_small (by omega) (by omega)
  have x9 : wrap64 (a * 131 + b * 1117 + p * 29 + q * 53) = a * 131 + b * 1117 + p * 29 + q * 53 := w_small (by omega) (by omega)
  have hx := mix_small (a * 131 + b * 1117 + p * 29 + q * 53) (by omega) (by omega)
  generalize hX : bits .xor .i64 (a * 131 + b * 1117 + p * 29 + q * 53) (wrap64 (Int.tdiv (a * 131 + b * 1117 + p * 29 + q * 53) 64)) = X at *
  have hm := tmod_lt X n hx (by omega)
  refine ⟨Int.tmod X n, ?_, hm.1, .inl hm.2⟩
  unfold spec_l14Rd_pick.f
  refine Ev.neg hn (Ev.last (fun k => ?_))
  simp only [spec_l14Rd_pick.j0]
  rw [hne, if_neg (by decide), w1, w2, if_neg hk, if_neg he, if_pos t1.1, if_pos t1.2, w3, w4, if_pos t2.1, if_pos t2.2, if_neg (by omega), hq, ha, hb', w5, x1, x2, x3, x4, x5, x6, x7, x8, x9, hX]

theorem num_ev (bs : List Int) (hb : Bytes bs) (p : Int) (l : List Int) (hl : l ≠ []) (hm : l.length ≤ 1000000) (h0 : 0 ≤ p) (h1 : p ≤ 1000000) : ∃ r, Ev (fun k => spec_l14Rd_num.f k bs p l) (r, p + 1) ∧ r ∈ l := by
  obtain ⟨r, hr, h2, h3⟩ := pick_ev bs hb p (l.length : Int) h0 h1
  have hpos : 0 < l.length := List.length_pos_iff.2 hl
  have hlt : r < (l.length : Int) := by omega
  refine ⟨rd l r, ?_, ?_⟩
  · unfold spec_l14Rd_num.f
    exact Ev.bind hr (Ev.pos h2 (Ev.pos hlt (Ev.now _)))
  · unfold rd
    rw [List.getD_eq_getElem?_getD, List.getElem?_eq_getElem (show r.toNat < l.length by omega)]
    exact List.getElem_mem _
theorem kidsY_append (l m : List S37) : kidsY (l ++ m) = kidsY l + kidsY m := by
  induction l with
  | nil => simp [kidsY_nil]
  | cons x l ih => rw [List.cons_append, kidsY_cons, kidsY_cons, ih]; omega
theorem kidsOf_le (a : Int) : kidsOf a ≤ 3 := by
  unfold kidsOf
  (repeat' split) <;> omega
def bX : Nat → Nat
  | 0 => 0
  | d + 1 => 3 + 3 * bX d
def cX : Nat → Nat
  | 0 => 1
  | d + 1 => 3 + 3 * cX d
def DrawX (bs : List Int) (d : Nat) : Prop := ∀ p : Int, 0 ≤ p → p + (cX d : Int) ≤ 990000 → ∃ (x : S37) (q : Int), Ev (fun k => spec_l2Ex.f k bs p ((d + 1 : Nat) : Int)) (x.f0, x.f1, x.f2, x.f3, q) ∧ allY x ≤ bX d ∧ p ≤ q ∧ q ≤ p + (cX d : Int)
theorem eta_X (x : S37) : (⟨x.f0, x.f1, x.f2, x.f3⟩ : S37) = x := by cases x; rfl
theorem allY_mk (a b c : Int) (l : List S37) : allY (⟨a, b, c, l⟩ : S37) = l.length + kidsY l := by rw [allY_is]
theorem l2leaf_ev (bs : List Int) (hb : Bytes bs) (a p : Int) (h0 : 0 ≤ p) (h1 : p ≤ 1000000) : ∃ r : Int, Ev (fun k => spec_l2Ex.j0 k a true bs p) (1, r, 0, [], p + 1) := by
  obtain ⟨r, hr, _⟩ := num_ev bs hb p [0, 0, 1, 1, 2, 2, 3, 4] (by simp) (by simp) h0 h1
  exact ⟨r, (by refine Ev.step (fun k => by simp only [spec_l2Ex.j0]; rw [if_pos trivial]) ?_; exact (Ev.bindS hr rfl))⟩
theorem l2kids_ev (bs : List Int) (hb : Bytes bs) (d : Nat) (hd3 : d ≤ 3) (hd : DrawX bs d) : ∀ (e : Nat) (n p A B C : Int) (xs : List S37), n ≤ (e : Int) → e ≤ 3 → 0 ≤ p → p + ((e * cX d : Nat) : Int) ≤ 990000 → xs.length + e ≤ 1000 →
    ∃ (ys : List S37) (q : Int), Ev (fun k => spec_l2Ex.l0 k ((d + 2 : Nat) : Int) n bs p A B C xs) (A, B, C, ys, q) ∧ ys.length ≤ xs.length + e ∧ kidsY ys ≤ kidsY xs + e * bX d ∧ p ≤ q ∧ q ≤ p + ((e * cX d : Nat) : Int)
  | 0, n, p, A, B, C, xs, hn, _, h0, h1, hx => by
    refine ⟨xs, p, (by refine Ev.step (fun k => by simp only [spec_l2Ex.l0]; rw [if_neg (by omega)]) ?_; exact (Ev.now _)), by omega, by omega, by omega, by omega⟩
  | e + 1, n, p, A, B, C, xs, hn, he, h0, h1, hx => by
    have m1 : (e + 1) * cX d = e * cX d + cX d := Nat.succ_mul _ _
    have m2 : (e + 1) * bX d = e * bX d + bX d := Nat.succ_mul _ _
    by_cases hp : n > 0
    · have w1 : wrap64 (((d + 2 : Nat) : Int) - 1) = wrap64 ((d + 1 : Nat) : Int) := by congr 1; omega
      obtain ⟨x, q, hq, h2, h3, h4⟩ := hd p h0 (by omega)
      obtain ⟨ys, q', g1, g2, g3, g4, g5⟩ := l2kids_ev bs hb d hd3 hd e (n - 1) q A B C (xs ++ [x]) (by omega) (by omega) (by omega) (by omega) (by rw [List.length_append, List.length_singleton]; omega)
      rw [List.length_append, List.length_singleton] at g2
      rw [kidsY_append, kidsY_cons, kidsY_nil] at g3
      rw [w_small (i := ((d + 1 : Nat) : Int)) (by omega) (by omega)] at w1
      have w2 : wrap64 (n - 1) = n - 1 := w_small (by omega) (by omega)
      refine ⟨ys, q', (by refine Ev.step (fun k => by simp only [spec_l2Ex.l0]; rw [if_pos hp, w1, w2]) ?_; refine Ev.bind hq (Ev.pos (by omega) ?_); show Ev (fun k => spec_l2Ex.l0 k ((d + 2 : Nat) : Int) (n - 1) bs q A B C (xs ++ [(⟨x.f0, x.f1, x.f2, x.f3⟩ : S37)])) _; rw [eta_X]; exact g1), by omega, by omega, by omega, by omega⟩
    · refine ⟨xs, p, (by refine Ev.step (fun k => by simp only [spec_l2Ex.l0]; rw [if_neg hp]) ?_; exact (Ev.now _)), by omega, by omega, by omega, by omega⟩
theorem l2Ex_ev (bs : List Int) (hb : Bytes bs) : ∀ d : Nat, d ≤ 3 → DrawX bs d
  | 0, _ => fun p h0 h1 => by
    obtain ⟨r, hr⟩ := l2leaf_ev bs hb ((0 + 1 : Nat) : Int) p h0 (by omega)
    refine ⟨⟨1, r, 0, []⟩, p + 1, Ev.step (fun k => by simp only [spec_l2Ex.f]; rw [if_pos (by omega)]) hr, ?_, by omega, ?_⟩
    · rw [allY_mk, kidsY_nil]; exact Nat.le_refl _
    · show p + 1 ≤ p + ((1 : Nat) : Int); omega
  | d + 1, hd => fun p h0 h1 => by
    have ih := l2Ex_ev bs hb d (by omega)
    have hc : cX d ≤ 66 := by
      match d, hd with
      | 0, _ => decide
      | 1, _ => decide
      | 2, _ => decide
    obtain ⟨r, hr, _⟩ := pick_ev bs hb p 4 h0 (by omega)
    have e1 : cX (d + 1) = 3 + 3 * cX d := rfl
    have e2 : bX (d + 1) = 3 + 3 * bX d := rfl
    by_cases hz : r = 0
    · obtain ⟨s, hs⟩ := l2leaf_ev bs hb ((d + 1 + 1 : Nat) : Int) (p + 1) (by omega) (by omega)
      refine ⟨⟨1, s, 0, []⟩, p + 1 + 1, ?_, ?_, by omega, by omega⟩
      · refine Ev.step (fun k => by simp only [spec_l2Ex.f]; rw [if_neg (by omega)]) (Ev.bind hr ?_)
        simp only [hz]; exact hs
      · rw [allY_mk, kidsY_nil]; simp
    have hzf : (r == 0) = false := beq_eq_false_iff_ne.2 hz
    obtain ⟨K, hK, _⟩ := num_ev bs hb (p + 1) [2, 3, 3, 4, 4, 4, 5, 6, 7] (by simp) (by simp) (by omega) (by omega)
    have fin : ∀ (q N : Int), 0 ≤ q → q ≤ p + 3 → p ≤ q → ∃ (x : S37) (q' : Int), Ev (fun k => spec_l2Ex.j1 k ((d + 2 : Nat) : Int) bs q K 0 N) (x.f0, x.f1, x.f2, x.f3, q') ∧ allY x ≤ 3 + 3 * bX d ∧ p ≤ q' ∧ q' ≤ p + ((3 + 3 * cX d : Nat) : Int) := fun q N g0 g1 g2 => by
      obtain ⟨ys, q', f1, f2, f3, f4, f5⟩ := l2kids_ev bs hb d (by omega) ih 3 (kidsOf K) q K 0 N [] (kidsOf_le K) (by omega) g0 (by omega) (by simp)
      rw [kidsY_nil] at f3
      rw [List.length_nil] at f2
      refine ⟨⟨K, 0, N, ys⟩, q', (by refine Ev.step (fun k => by rw [spec_l2Ex.j1]) ?_; exact (Ev.bind (l2Kids_ev K) f1)), ?_, by omega, by omega⟩
      rw [allY_mk]; omega
    by_cases h7 : K = 7
    · obtain ⟨N, hN, _⟩ := num_ev bs hb (p + 1 + 1) [1, 2, 3, 5, 20] (by simp) (by simp) (by omega) (by omega)
      obtain ⟨x, q', f1, f2, f3, f4⟩ := fin (p + 1 + 1 + 1) N (by omega) (by omega) (by omega)
      refine ⟨x, q', ?_, by omega, f3, by omega⟩
      refine Ev.step (fun k => by simp only [spec_l2Ex.f]; rw [if_neg (by omega)]) (Ev.bind hr ?_)
      simp only [hzf]
      refine (by refine Ev.step (fun k => by simp only [spec_l2Ex.j0]; rw [if_neg (by decide)]) ?_; exact (Ev.bind hK (Ev.pos h7 (Ev.bind hN f1))))
    · obtain ⟨x, q', f1, f2, f3, f4⟩ := fin (p + 1 + 1) 0 (by omega) (by omega) (by omega)
      refine ⟨x, q', ?_, by omega, f3, by omega⟩
      refine Ev.step (fun k => by simp only [spec_l2Ex.f]; rw [if_neg (by omega)]) (Ev.bind hr ?_)
      simp only [hzf]
      refine (by refine Ev.step (fun k => by simp only [spec_l2Ex.j0]; rw [if_neg (by decide)]) ?_; exact (Ev.bind hK (Ev.neg h7 f1)))
theorem l2Ex2_ev (bs : List Int) (hb : Bytes bs) (p : Int) (h0 : 0 ≤ p) (h1 : p ≤ 900000) : ∃ (x : S37) (q : Int), Ev (fun k => spec_l2Ex.f k bs p 2) (x.f0, x.f1, x.f2, x.f3, q) ∧ allY x ≤ 39 ∧ p ≤ q ∧ q ≤ p + 6 := by
  have e : cX 1 = 6 := rfl
  obtain ⟨x, q, h2, h3, h4, h5⟩ := l2Ex_ev bs hb 1 (by omega) p h0 (by omega)
  exact ⟨x, q, h2, Nat.le_trans h3 (by decide), h4, h5⟩
theorem l2Some_ev (bs : List Int) (hb : Bytes bs) (p : Int) (h0 : 0 ≤ p) (h1 : p ≤ 800000) : ∃ (x : S37) (q : Int), Ev (fun k => spec_l2Some.f k bs p) (x.f0, x.f1, x.f2, x.f3, q) ∧ allY x ≤ 39 ∧ p ≤ q ∧ q ≤ p + 73 := by
  obtain ⟨r, hr, r0, r1⟩ := pick_ev bs hb p 4 h0 (by omega)
  obtain ⟨d, rfl⟩ := Int.eq_ofNat_of_zero_le r0
  have hd : d ≤ 3 := by omega
  have w1 : wrap64 (1 + (d : Int)) = ((d + 1 : Nat) : Int) := by rw [w_small (by omega) (by omega)]; omega
  have hc : cX d ≤ 66 ∧ bX d ≤ 39 := by
    match d, hd with
    | 0, _ => decide
    | 1, _ => decide
    | 2, _ => decide
    | 3, _ => decide
  obtain ⟨x, q, h2, h3, h4, h5⟩ := l2Ex_ev bs hb d hd (p + 1) (by omega) (by omega)
  have hk := spec_ExOk_ev x (by omega)
  by_cases ho : okX x = true
  · refine ⟨x, q, ?_, by omega, by omega, by omega⟩
    unfold spec_l2Some.f
    refine Ev.bind hr ?_
    simp only [w1]
    exact Ev.bind h2 (Ev.bind hk (Ev.pos ho (Ev.now _)))
  obtain ⟨y, q', g2, g3, g4, g5⟩ := l2Ex2_ev bs hb q (by omega) (by omega)
  refine ⟨y, q', ?_, g3, by omega, by omega⟩
  unfold spec_l2Some.f
  refine Ev.bind hr ?_
  simp only [w1]
  exact Ev.bind h2 (Ev.bind hk (Ev.neg ho (Ev.bindS g2 rfl)))
def CopyOk (x : S37) : Prop := Ev (fun k => spec_l2Copy.f k x.f0 x.f1 x.f2 x.f3) (x.f0, x.f1, x.f2, x.f3)
theorem l2Copy_l0_ev (l : List S37) (hl : l.length ≤ 1000000) (hs : ∀ x ∈ l, CopyOk x) (a b c A B C : Int) : ∀ d n : Nat, n + d = l.length → Ev (fun k => spec_l2Copy.l0 k (n : Int) a b c l A B C (l.take n)) (A, B, C, l)
  | 0, n, h => by
    have : l.take n = l := List.take_of_length_le (by omega)
    rw [this]
    exact (by refine Ev.step (fun k => by simp only [spec_l2Copy.l0]; rw [if_neg (by omega)]) ?_; exact (Ev.now _))
  | d + 1, n, h => by
    have hn : n < l.length := by omega
    have hw : wrap64 ((n : Int) + 1) = ((n + 1 : Nat) : Int) := by rw [w_small (by omega) (by omega)]; omega
    have hx := hs l[n] (List.getElem_mem hn)
    have ih := l2Copy_l0_ev l hl hs a b c A B C d (n + 1) (by omega)
    refine Ev.step (fun k => by simp only [spec_l2Copy.l0]; rw [if_pos (by omega), if_pos (by omega), rdI l n hn]) ?_
    refine Ev.bind hx (Ev.pos (by rw [List.length_take]; omega) ?_)
    have e : l.take n ++ [(⟨l[n].f0, l[n].f1, l[n].f2, l[n].f3⟩ : S37)] = l.take (n + 1) := by
      rw [eta_X, List.take_succ_eq_append_getElem hn]
    simp only [e, hw]
    exact ih
theorem l2Copy_ev : ∀ x : S37, allY x ≤ 1000000 → CopyOk x := by
  refine indI (fun x ih h => ?_)
  have hlen := allY_len (x := x)
  refine Ev.step (fun k => by rw [spec_l2Copy.f]) ?_
  exact l2Copy_l0_ev x.f3 (by omega) (fun y hy => ih y hy (by have := allY_mem hy; omega)) _ _ _ _ _ _ x.f3.length 0 (by omega)
theorem l2Bent_l0_ev (bs : List Int) (p : Int) : ∀ (e n : Nat) (x : S37), n + e = 5 → ∃ y : S37, Ev (fun k => spec_l2Bent.l0 k (n : Int) bs p x.f0 x.f1 x.f2 x.f3) (y.f0, y.f1, y.f2, y.f3, p) ∧ allY y ≤ allY x + e
  | 0, n, x, h => ⟨x, (by refine Ev.step (fun k => by simp only [spec_l2Bent.l0]; rw [if_neg (by omega)]) ?_; exact (Ev.now _)), by omega⟩
  | e + 1, n, x, h => by
    have hw : wrap64 ((n : Int) + 1) = ((n + 1 : Nat) : Int) := by rw [w_small (by omega) (by omega)]; omega
    obtain ⟨y, h1, h2⟩ := l2Bent_l0_ev bs p e (n + 1) ⟨7, 0, 1, [x]⟩ (by omega)
    refine ⟨y, Ev.step (fun k => by simp only [spec_l2Bent.l0]; rw [if_pos (by omega), hw, eta_X]) h1, ?_⟩
    rw [allY_mk, kidsY_cons, kidsY_nil, List.length_singleton] at h2
    omega
def dblX : Nat → Nat → Nat
  | 0, a => a
  | e + 1, a => dblX e (2 * a + 2)
theorem l2Bent_l1_ev (bs : List Int) (p : Int) : ∀ (e n : Nat) (x : S37) (m : Nat), n + e = 4 → allY x ≤ m → dblX e m ≤ 1000 → m ≤ 1000 → ∃ y : S37, Ev (fun k => spec_l2Bent.l1 k (n : Int) bs p x.f0 x.f1 x.f2 x.f3) (y.f0, y.f1, y.f2, y.f3, p) ∧ allY y ≤ dblX e m
  | 0, n, x, m, h, hm, _, _ => ⟨x, (by refine Ev.step (fun k => by simp only [spec_l2Bent.l1]; rw [if_neg (by omega)]) ?_; exact (Ev.now _)), hm⟩
  | e + 1, n, x, m, h, hm, hd, hm1 => by
    have hw : wrap64 ((n : Int) + 1) = ((n + 1 : Nat) : Int) := by rw [w_small (by omega) (by omega)]; omega
    have hc := l2Copy_ev x (by omega)
    have mono : ∀ (e a : Nat), a ≤ dblX e a := by
      intro e
      induction e with
      | zero => intro a; exact Nat.le_refl _
      | succ e ih => intro a; have := ih (2 * a + 2); simp only [dblX]; omega
    have hd' : dblX e (2 * m + 2) ≤ 1000 := hd
    have hm2 := mono e (2 * m + 2)
    obtain ⟨y, h1, h2⟩ := l2Bent_l1_ev bs p e (n + 1) ⟨2, 0, 0, [x, x]⟩ (2 * m + 2) (by omega) (by rw [allY_mk, kidsY_cons, kidsY_cons, kidsY_nil]; simp only [List.length_cons, List.length_nil]; omega) hd' (by omega)
    refine ⟨y, ?_, h2⟩
    refine Ev.step (fun k => by simp only [spec_l2Bent.l1]; rw [if_pos (by omega)]) ?_
    refine Ev.bind hc ?_
    simp only [hw, eta_X]
    exact h1
theorem l2Bent_ev (bs : List Int) (hb : Bytes bs) (p : Int) (h0 : 0 ≤ p) (h1 : p ≤ 700000) : ∃ (x : S37) (q : Int), Ev (fun k => spec_l2Bent.f k bs p) (x.f0, x.f1, x.f2, x.f3, q) ∧ allY x ≤ 1000 ∧ p ≤ q ∧ q ≤ p + 75 := by
  obtain ⟨x, q, h2, h3, h4, h5⟩ := l2Some_ev bs hb p h0 (by omega)
  obtain ⟨r, hr, _, _⟩ := pick_ev bs hb q 60 (by omega) (by omega)
  have hx := allY_is x
  by_cases c0 : r = 0
  · obtain ⟨s, hs, _⟩ := num_ev bs hb (q + 1) [0, 8, 2, 5] (by simp) (by simp) (by omega) (by omega)
    refine ⟨⟨s, x.f1, x.f2, x.f3⟩, q + 1 + 1, ?_, by rw [allY_mk]; omega, by omega, by omega⟩
    unfold spec_l2Bent.f
    exact Ev.bind h2 (Ev.bind hr (Ev.pos c0 (Ev.bindS hs rfl)))
  by_cases c1 : r = 1
  · obtain ⟨s, hs, _⟩ := num_ev bs hb (q + 1) [(-1), 5, 1] (by simp) (by simp) (by omega) (by omega)
    refine ⟨⟨x.f0, s, x.f2, x.f3⟩, q + 1 + 1, ?_, by rw [allY_mk]; omega, by omega, by omega⟩
    unfold spec_l2Bent.f
    exact Ev.bind h2 (Ev.bind hr (Ev.neg c0 (Ev.pos c1 (Ev.bindS hs rfl))))
  by_cases c2 : r = 2
  · obtain ⟨s, hs, _⟩ := num_ev bs hb (q + 1) [(-1), 21, 1, 0] (by simp) (by simp) (by omega) (by omega)
    refine ⟨⟨x.f0, x.f1, s, x.f3⟩, q + 1 + 1, ?_, by rw [allY_mk]; omega, by omega, by omega⟩
    unfold spec_l2Bent.f
    exact Ev.bind h2 (Ev.bind hr (Ev.neg c0 (Ev.neg c1 (Ev.pos c2 (Ev.bindS hs rfl)))))
  by_cases c3 : r = 3
  · obtain ⟨y, g1, g2⟩ := l2Bent_l0_ev bs (q + 1) 5 0 x rfl
    refine ⟨y, q + 1, ?_, by omega, by omega, by omega⟩
    unfold spec_l2Bent.f
    exact Ev.bind h2 (Ev.bind hr (Ev.neg c0 (Ev.neg c1 (Ev.neg c2 (Ev.pos c3 g1)))))
  by_cases c4 : r = 4
  · obtain ⟨y, g1, g2⟩ := l2Bent_l1_ev bs (q + 1) 4 0 x 39 rfl h3 (by decide) (by decide)
    refine ⟨y, q + 1, ?_, Nat.le_trans g2 (by decide), by omega, by omega⟩
    unfold spec_l2Bent.f
    exact Ev.bind h2 (Ev.bind hr (Ev.neg c0 (Ev.neg c1 (Ev.neg c2 (Ev.neg c3 (Ev.pos c4 g1))))))
  · refine ⟨x, q + 1, ?_, by omega, by omega, by omega⟩
    unfold spec_l2Bent.f
    exact Ev.bind h2 (Ev.bind hr (Ev.neg c0 (Ev.neg c1 (Ev.neg c2 (Ev.neg c3 (Ev.neg c4 (Ev.now _)))))))
def Small (r : S39) : Prop := r.f0.size ≤ 10 ∧ allY r.f3 ≤ 1000
theorem of_ev (bs : List Int) (hb : Bytes bs) (p : Int) (l : List ByteArray) (hl : l ≠ []) (hm : l.length ≤ 1000000) (h0 : 0 ≤ p) (h1 : p ≤ 1000000) : ∃ r, Ev (fun k => spec_l14Rd_of.f k bs p l) (r, p + 1) ∧ r ∈ l := by
  obtain ⟨r, hr, h2, h3⟩ := pick_ev bs hb p (l.length : Int) h0 h1
  have hpos : 0 < l.length := List.length_pos_iff.2 hl
  have hlt : r < (l.length : Int) := by omega
  refine ⟨rdOf ByteArray.empty l r, ?_, ?_⟩
  · unfold spec_l14Rd_of.f
    exact Ev.bind hr (Ev.pos h2 (Ev.pos hlt (Ev.now _)))
  · unfold rdOf
    rw [List.getD_eq_getElem?_getD, List.getElem?_eq_getElem (show r.toNat < l.length by omega)]
    exact List.getElem_mem _
theorem l8Rule_ev (bs : List Int) (hb : Bytes bs) (p : Int) (name : ByteArray) (hn : name.size ≤ 10) (h0 : 0 ≤ p) (h1 : p ≤ 700000) : ∃ (r : S39) (q : Int), Ev (fun k => spec_l8Rule.f k bs p name) (r.f0, r.f1, r.f2, r.f3.f0, r.f3.f1, r.f3.f2, r.f3.f3, r.f4, r.f5, r.f6, r.f7, r.f8, q) ∧ Small r ∧ p ≤ q ∧ q ≤ p + 90 := by
  obtain ⟨x, q, h2, h3, h4, h5⟩ := l2Some_ev bs hb p h0 (by omega)
  obtain ⟨s, hs, _⟩ := pick_ev bs hb q 2 (by omega) (by omega)
  have tail : ∀ (x : S37) (q : Int), 0 ≤ q → q ≤ 800000 → allY x ≤ 39 → ∃ (r : S39), Ev (fun k => spec_l8Rule.j0 k name bs q x.f0 x.f1 x.f2 x.f3) (r.f0, r.f1, r.f2, r.f3.f0, r.f3.f1, r.f3.f2, r.f3.f3, r.f4, r.f5, r.f6, r.f7, r.f8, q + 1 + 1 + 1 + 1 + 1 + 1 + 1) ∧ Small r := by
    intro x q g0 g1 gx
    obtain ⟨a, ha, _⟩ := num_ev bs hb q [0, 0, 0, 1, 5] (by simp) (by simp) (by omega) (by omega)
    obtain ⟨b, hb', _⟩ := num_ev bs hb (q + 1) [0, 1, 5, 5, 9] (by simp) (by simp) (by omega) (by omega)
    obtain ⟨c, hc, _⟩ := pick_ev bs hb (q + 1 + 1) 5 (by omega) (by omega)
    obtain ⟨d, hd, _⟩ := num_ev bs hb (q + 1 + 1 + 1) [100, 100, 5] (by simp) (by simp) (by omega) (by omega)
    obtain ⟨e, he, _⟩ := pick_ev bs hb (q + 1 + 1 + 1 + 1) 4 (by omega) (by omega)
    obtain ⟨f, hf, _⟩ := num_ev bs hb (q + 1 + 1 + 1 + 1 + 1) [1, 1, 2, 9, 0, (-1)] (by simp) (by simp) (by omega) (by omega)
    obtain ⟨g, hg, _⟩ := num_ev bs hb (q + 1 + 1 + 1 + 1 + 1 + 1) [(-1), (-1), (-1), (-1), 3, 4, 2] (by simp) (by simp) (by omega) (by omega)
    refine ⟨⟨name, b, c, x, a, d, e, f, g⟩, (by refine Ev.step (fun k => by rw [spec_l8Rule.j0]) ?_; exact (Ev.bind ha (Ev.bind hb' (Ev.bind hc (Ev.bind hd (Ev.bind he (Ev.bind hf (Ev.bindS hg rfl)))))))), hn, by show allY x ≤ 1000; omega⟩
  by_cases hz : s = 0
  · obtain ⟨y, q', g2, g3, g4, g5⟩ := l2Ex2_ev bs hb (q + 1) (by omega) (by omega)
    obtain ⟨r, f1, f2⟩ := tail y q' (by omega) (by omega) g3
    refine ⟨r, q' + 1 + 1 + 1 + 1 + 1 + 1 + 1, ?_, f2, by omega, by omega⟩
    unfold spec_l8Rule.f
    exact Ev.bind h2 (Ev.bind hs (Ev.pos hz (Ev.bind g2 f1)))
  · obtain ⟨r, f1, f2⟩ := tail x (q + 1) (by omega) (by omega) h3
    refine ⟨r, q + 1 + 1 + 1 + 1 + 1 + 1 + 1 + 1, ?_, f2, by omega, by omega⟩
    unfold spec_l8Rule.f
    exact Ev.bind h2 (Ev.bind hs (Ev.neg hz f1))
def names4 : List ByteArray := [(⟨#[111, 110, 101]⟩ : ByteArray), (⟨#[116, 119, 111]⟩ : ByteArray), (⟨#[116, 104, 114, 101, 101]⟩ : ByteArray), (⟨#[102, 111, 117, 114]⟩ : ByteArray)]
theorem names4_small : ∀ n : Nat, n < 4 → (rdOf ByteArray.empty names4 (n : Int)).size ≤ 10 := by
  intro n h
  match n, h with
  | 0, _ => decide
  | 1, _ => decide
  | 2, _ => decide
  | 3, _ => decide
theorem eta_R (r : S39) : (⟨r.f0, r.f1, r.f2, (⟨r.f3.f0, r.f3.f1, r.f3.f2, r.f3.f3⟩ : S37), r.f4, r.f5, r.f6, r.f7, r.f8⟩ : S39) = r := by
  cases r with
  | mk a b c x d e f g h => cases x; rfl
theorem l8Rules_l0_ev (bs : List Int) (hb : Bytes bs) : ∀ (e : Nat) (xs : List S39) (p : Int), xs.length + e ≤ 4 → (∀ r ∈ xs, Small r) → 0 ≤ p → p + (e : Int) * 90 ≤ 600000 → ∃ (ys : List S39) (q : Int), Ev (fun k => spec_l8Rules.l0 k xs (e : Int) bs p) (ys, q) ∧ ys.length ≤ 4 ∧ (∀ r ∈ ys, Small r) ∧ p ≤ q ∧ q ≤ p + (e : Int) * 90
  | 0, xs, p, hl, hs, h0, h1 => ⟨xs, p, (by refine Ev.step (fun k => by simp only [spec_l8Rules.l0]; rw [if_neg (by omega)]) ?_; exact (Ev.now _)), by omega, hs, by omega, by omega⟩
  | e + 1, xs, p, hl, hs, h0, h1 => by
    obtain ⟨r, q, g1, g2, g3, g4⟩ := l8Rule_ev bs hb p (rdOf ByteArray.empty names4 (xs.length : Int)) (names4_small _ (by omega)) h0 (by omega)
    obtain ⟨ys, q', f1, f2, f3, f4, f5⟩ := l8Rules_l0_ev bs hb e (xs ++ [r]) q (by rw [List.length_append, List.length_singleton]; omega) (fun y hy => by
      rcases List.mem_append.1 hy with h | h
      · exact hs y h
      · rw [List.mem_singleton.1 h]; exact g2) (by omega) (by omega)
    have hw : wrap64 (((e + 1 : Nat) : Int) - 1) = (e : Int) := by rw [w_small (by omega) (by omega)]; omega
    refine ⟨ys, q', Ev.step (fun k => by simp only [spec_l8Rules.l0]; rw [if_pos (by omega), hw]) ?_, f2, f3, by omega, by omega⟩
    refine Ev.pos (show (xs.length : Int) < ((4 : Nat) : Int) by omega) (Ev.bind g1 (Ev.pos (by omega) ?_))
    rw [← eta_R r] at f1
    exact f1
theorem l8Rules_ev (bs : List Int) (hb : Bytes bs) (p : Int) (h0 : 0 ≤ p) (h1 : p ≤ 500000) : ∃ (ys : List S39) (q : Int), Ev (fun k => spec_l8Rules.f k bs p) (ys, q) ∧ ys.length ≤ 4 ∧ (∀ r ∈ ys, Small r) ∧ p ≤ q ∧ q ≤ p + 400 := by
  obtain ⟨r, hr, r0, r1⟩ := pick_ev bs hb p 5 h0 (by omega)
  obtain ⟨e, rfl⟩ := Int.eq_ofNat_of_zero_le r0
  obtain ⟨ys, q, g1, g2, g3, g4, g5⟩ := l8Rules_l0_ev bs hb e [] (p + 1) (by simp; omega) (fun r h => by simp at h) (by omega) (by omega)
  refine ⟨ys, q, ?_, g2, g3, by omega, by omega⟩
  unfold spec_l8Rules.f
  exact Ev.bind hr g1
theorem small_at {l : List S39} (h : ∀ r ∈ l, Small r) (k : Int) (h0 : 0 ≤ k) (h1 : k < (l.length : Int)) : Small (rd_T39 l k) := by
  have e : rd_T39 l k = l[k.toNat]'(by omega) := by
    show l.getD k.toNat z39 = _
    rw [List.getD_eq_getElem?_getD, List.getElem?_eq_getElem (by omega)]; rfl
  rw [e]
  exact h _ (List.getElem_mem _)
theorem small_set {l : List S39} (h : ∀ r ∈ l, Small r) (k : Nat) (x : S39) (hx : Small x) : ∀ r ∈ l.set k x, Small r := fun r hr => (List.mem_or_eq_of_mem_set hr).elim (h r) (fun e => e ▸ hx)
theorem l8Bent_ev (bs : List Int) (hb : Bytes bs) (p : Int) (h0 : 0 ≤ p) (h1 : p ≤ 400000) : ∃ (ys : List S39) (q : Int), Ev (fun k => spec_l8Bent.f k bs p) (ys, q) ∧ ys.length ≤ 4 ∧ (∀ r ∈ ys, Small r) ∧ p ≤ q ∧ q ≤ p + 600 := by
  obtain ⟨l, q, h2, h3, h4, h5, h6⟩ := l8Rules_ev bs hb p h0 (by omega)
  by_cases hz : (l.length : Int) = 0
  · refine ⟨l, q, ?_, h3, h4, h5, by omega⟩
    unfold spec_l8Bent.f
    exact Ev.bind h2 (Ev.pos hz (Ev.now _))
  obtain ⟨i, hi, i0, i1⟩ := pick_ev bs hb q (l.length : Int) (by omega) (by omega)
  have i1 : i < (l.length : Int) := by omega
  obtain ⟨r, hr, _, _⟩ := pick_ev bs hb (q + 1) 60 (by omega) (by omega)
  obtain ⟨s1, s2⟩ := small_at h4 i i0 i1
  by_cases c0 : r = 0
  · obtain ⟨s, hs, hm⟩ := of_ev bs hb (q + 1 + 1) [(⟨#[]⟩ : ByteArray), (⟨#[65]⟩ : ByteArray), (⟨#[116, 111, 111, 108, 111, 110, 103]⟩ : ByteArray), (⟨#[111, 110, 101]⟩ : ByteArray)] (by simp) (by simp) (by omega) (by omega)
    have hsz : s.size ≤ 10 := by
      simp only [List.mem_cons, List.not_mem_nil, or_false] at hm
      rcases hm with rfl | rfl | rfl | rfl <;> decide
    refine ⟨_, q + 1 + 1 + 1, ?_, ?_, small_set h4 i.toNat ⟨s, (rd_T39 l i).f1, (rd_T39 l i).f2, (rd_T39 l i).f3, (rd_T39 l i).f4, (rd_T39 l i).f5, (rd_T39 l i).f6, (rd_T39 l i).f7, (rd_T39 l i).f8⟩ ⟨hsz, s2⟩, by omega, by omega⟩
    · unfold spec_l8Bent.f
      exact Ev.bind h2 (Ev.neg hz (Ev.bind hi (Ev.bind hr (Ev.pos c0 (Ev.bind hs (Ev.pos i0 (Ev.pos i1 (Ev.val (Ev.now _) (by simp only [eta_X])))))))))
    · rw [List.length_set]; exact h3
  by_cases c1 : r = 1
  · obtain ⟨s, hs, hm⟩ := num_ev bs hb (q + 1 + 1) [(-1), 10] (by simp) (by simp) (by omega) (by omega)
    refine ⟨_, q + 1 + 1 + 1, ?_, ?_, small_set h4 i.toNat ⟨(rd_T39 l i).f0, s, (rd_T39 l i).f2, (rd_T39 l i).f3, (rd_T39 l i).f4, (rd_T39 l i).f5, (rd_T39 l i).f6, (rd_T39 l i).f7, (rd_T39 l i).f8⟩ ⟨s1, s2⟩, by omega, by omega⟩
    · unfold spec_l8Bent.f
      exact Ev.bind h2 (Ev.neg hz (Ev.bind hi (Ev.bind hr (Ev.neg c0 (Ev.pos c1 (Ev.bind hs (Ev.pos i0 (Ev.pos i1 (Ev.val (Ev.now _) (by simp only [eta_X]))))))))))
    · rw [List.length_set]; exact h3
  by_cases c2 : r = 2
  · obtain ⟨s, hs, hm⟩ := num_ev bs hb (q + 1 + 1) [(-1), 101] (by simp) (by simp) (by omega) (by omega)
    refine ⟨_, q + 1 + 1 + 1, ?_, ?_, small_set h4 i.toNat ⟨(rd_T39 l i).f0, (rd_T39 l i).f1, (rd_T39 l i).f2, (rd_T39 l i).f3, s, (rd_T39 l i).f5, (rd_T39 l i).f6, (rd_T39 l i).f7, (rd_T39 l i).f8⟩ ⟨s1, s2⟩, by omega, by omega⟩
    · unfold spec_l8Bent.f
      exact Ev.bind h2 (Ev.neg hz (Ev.bind hi (Ev.bind hr (Ev.neg c0 (Ev.neg c1 (Ev.pos c2 (Ev.bind hs (Ev.pos i0 (Ev.pos i1 (Ev.val (Ev.now _) (by simp only [eta_X])))))))))))
    · rw [List.length_set]; exact h3
  by_cases c3 : r = 3
  · refine ⟨_, q + 1 + 1, ?_, ?_, small_set h4 i.toNat ⟨(rd_T39 l i).f0, (rd_T39 l i).f1, (rd_T39 l i).f2, (rd_T39 l i).f3, (rd_T39 l i).f4, (rd_T39 l i).f5, 4, (rd_T39 l i).f7, (rd_T39 l i).f8⟩ ⟨s1, s2⟩, by omega, by omega⟩
    · unfold spec_l8Bent.f
      exact Ev.bind h2 (Ev.neg hz (Ev.bind hi (Ev.bind hr (Ev.neg c0 (Ev.neg c1 (Ev.neg c2 (Ev.pos c3 (Ev.pos i0 (Ev.pos i1 (Ev.val (Ev.now _) (by simp only [eta_X])))))))))))
    · rw [List.length_set]; exact h3
  by_cases c4 : r = 4
  · obtain ⟨s, hs, hm⟩ := num_ev bs hb (q + 1 + 1) [(-10), 10, (-9)] (by simp) (by simp) (by omega) (by omega)
    refine ⟨_, q + 1 + 1 + 1, ?_, ?_, small_set h4 i.toNat ⟨(rd_T39 l i).f0, (rd_T39 l i).f1, (rd_T39 l i).f2, (rd_T39 l i).f3, (rd_T39 l i).f4, (rd_T39 l i).f5, (rd_T39 l i).f6, s, (rd_T39 l i).f8⟩ ⟨s1, s2⟩, by omega, by omega⟩
    · unfold spec_l8Bent.f
      exact Ev.bind h2 (Ev.neg hz (Ev.bind hi (Ev.bind hr (Ev.neg c0 (Ev.neg c1 (Ev.neg c2 (Ev.neg c3 (Ev.pos c4 (Ev.bind hs (Ev.pos i0 (Ev.pos i1 (Ev.val (Ev.now _) (by simp only [eta_X])))))))))))))
    · rw [List.length_set]; exact h3
  by_cases c5 : r = 5
  · obtain ⟨x, q', hx, x1, x2, x3⟩ := l2Bent_ev bs hb (q + 1 + 1) (by omega) (by omega)
    refine ⟨_, q', ?_, ?_, small_set h4 i.toNat ⟨(rd_T39 l i).f0, (rd_T39 l i).f1, (rd_T39 l i).f2, x, (rd_T39 l i).f4, (rd_T39 l i).f5, (rd_T39 l i).f6, (rd_T39 l i).f7, (rd_T39 l i).f8⟩ ⟨s1, x1⟩, by omega, by omega⟩
    · unfold spec_l8Bent.f
      exact Ev.bind h2 (Ev.neg hz (Ev.bind hi (Ev.bind hr (Ev.neg c0 (Ev.neg c1 (Ev.neg c2 (Ev.neg c3 (Ev.neg c4 (Ev.pos c5 (Ev.bind hx (Ev.pos i0 (Ev.pos i1 (Ev.val (Ev.now _) (by simp only [eta_X]))))))))))))))
    · rw [List.length_set]; exact h3
  · refine ⟨l, q + 1 + 1, ?_, h3, h4, by omega, by omega⟩
    unfold spec_l8Bent.f
    exact Ev.bind h2 (Ev.neg hz (Ev.bind hi (Ev.bind hr (Ev.neg c0 (Ev.neg c1 (Ev.neg c2 (Ev.neg c3 (Ev.neg c4 (Ev.neg c5 (Ev.now _))))))))))
theorem DrawRulesOrder_ev (l : List Int) (hl : l.length ≤ 9223372036854775807) (hw : ∀ x ∈ l, (Lit.int .u8 x).wf = true) : ∃ ys : List S39, Ev (fun k => spec_DrawRulesOrder.f k l) ys ∧ ys.length ≤ 4 ∧ (∀ r ∈ ys, Small r) := by
  have hb := open_bytes hw
  have ho : Ev (fun _ => spec_l14Open.f l) (l.take 2000, (0 : Int)) := Ev.one (fun _ => l14Open_is l hl)
  obtain ⟨ys, q, h1, h2, h3, _, _⟩ := l8Bent_ev _ hb 0 (by omega) (by omega)
  refine ⟨ys, ?_, h2, h3⟩
  unfold spec_DrawRulesOrder.f
  exact Ev.bind ho (Ev.bindS h1 rfl)
theorem Small.fits {l : List S39} (h : ∀ r ∈ l, Small r) : Fits l := fun r hr => ⟨Nat.le_trans (h r hr).1 (by omega), Nat.le_trans (h r hr).2 (by omega)⟩
theorem named_iff (l : List S39) (x : S39) : named l x = false ↔ ∀ s ∈ l, s.f0.toList ≠ x.f0.toList := by
  unfold named
  rw [List.any_eq_false]
  constructor
  · intro h s hs e
    exact h s hs (by rw [e]; exact beq_self_eq_true _)
  · intro h s hs e
    exact h s hs (eq_of_beq e)
theorem rulesGo_pair (ok : S39 → Bool) (l : List S39) : rulesGo ok l l.length 0 = true ↔ l.length ≤ 4 ∧ (∀ r ∈ l, ok r = true) ∧ l.Pairwise (fun a b => a.f0.toList ≠ b.f0.toList) := by
  rw [rulesGo_iff ok l l.length 0 (by omega)]
  constructor
  · rintro ⟨h4, h⟩
    refine ⟨h4, fun r hr => ?_, ?_⟩
    · obtain ⟨i, hi, rfl⟩ := List.getElem_of_mem hr
      exact (h i hi (Nat.zero_le _)).1
    rw [List.pairwise_iff_getElem]
    intro i j hi hj hij
    refine (named_iff _ _).1 (h j hj (Nat.zero_le _)).2 _ ?_
    rw [List.mem_iff_getElem]
    exact ⟨i, by rw [List.length_take]; omega, by rw [List.getElem_take]⟩
  · rintro ⟨h4, h1, h2⟩
    refine ⟨h4, fun i hi _ => ⟨h1 _ (List.getElem_mem hi), (named_iff _ _).2 (fun s hs => ?_)⟩⟩
    obtain ⟨j, hj, rfl⟩ := List.getElem_of_mem hs
    rw [List.length_take] at hj
    rw [List.getElem_take]
    exact List.pairwise_iff_getElem.1 h2 j i (by omega) hi (by omega)
theorem rulesGo_rev (ok : S39 → Bool) (l : List S39) (h : rulesGo ok l l.length 0 = true) : rulesGo ok l.reverse l.reverse.length 0 = true := by
  rw [rulesGo_pair] at h ⊢
  obtain ⟨h1, h2, h3⟩ := h
  refine ⟨by rw [List.length_reverse]; exact h1, fun r hr => h2 r (List.mem_reverse.1 hr), ?_⟩
  rw [List.pairwise_reverse]
  exact h3.imp (fun h e => h e.symm)
section
variable (l : List S39)
theorem pri_rev (i : Nat) (h : i < l.length) : priAt l.reverse i = priAt l (l.length - 1 - i) ∧ l.reverse.getD i z39 = l.getD (l.length - 1 - i) z39 := by
  have e : l.reverse.getD i z39 = l.getD (l.length - 1 - i) z39 := by
    rw [List.getD_eq_getElem?_getD, List.getD_eq_getElem?_getD, List.getElem?_reverse h]
  exact ⟨congrArg (fun r : S39 => r.f1) e, e⟩
def Apart : Prop := ∀ i : Nat, i < l.length → ∀ k : Nat, k < i → priAt l k ≠ priAt l i
theorem order_rev (hd : Apart l) (o p : List Int) (ho : IsOrder l o) (hp : IsOrder l.reverse p) : p = o.map (fun i => (l.length : Int) - 1 - i) := by
  have hm : ∀ x : Int, x ∈ o.map (fun i => (l.length : Int) - 1 - i) ↔ 0 ≤ x ∧ x < (l.length : Int) := fun x => by
    rw [List.mem_map]
    constructor
    · rintro ⟨i, hi, rfl⟩
      have := (ho.2 i).1 hi
      omega
    · intro hx
      exact ⟨(l.length : Int) - 1 - x, (ho.2 _).2 (by omega), by omega⟩
  refine isOrder_ext l.reverse _ _ hp.1 ?_ (fun x hx => ((hp.2 x).1 hx).1) (fun x => by rw [hp.2 x, hm x, List.length_reverse])
  rw [List.pairwise_map]
  refine List.Pairwise.imp_of_mem (fun {a b} ha hb h => ?_) ho.1
  have ha' := (ho.2 a).1 ha
  have hb' := (ho.2 b).1 hb
  have ea : ((l.length : Int) - 1 - a).toNat = l.length - 1 - a.toNat := by omega
  have eb : ((l.length : Int) - 1 - b).toNat = l.length - 1 - b.toNat := by omega
  unfold Due at *
  rw [ea, eb, (pri_rev l (l.length - 1 - a.toNat) (by omega)).1, (pri_rev l (l.length - 1 - b.toNat) (by omega)).1]
  have e1 : l.length - 1 - (l.length - 1 - a.toNat) = a.toNat := by omega
  have e2 : l.length - 1 - (l.length - 1 - b.toNat) = b.toNat := by omega
  rw [e1, e2]
  rcases h with h | ⟨h, hlt⟩
  · exact .inl h
  · exact absurd h (hd b.toNat (by omega) a.toNat hlt)
theorem order_length (hp : ∀ i : Nat, 0 ≤ priAt l i ∧ priAt l i ≤ 9) (o : List Int) (ho : IsOrder l o) : o.length = l.length := by
  have io := orderR_is l hp
  rw [isOrder_ext l o (orderR l) ho.1 io.1 (fun x hx => ((ho.2 x).1 hx).1) (fun x => by rw [ho.2 x, io.2 x])]
  unfold orderR
  cases hM : l.length with
  | zero => rfl
  | succ M => show ((sortR l M).toList.map (fun i : Fin (M + 1) => (i.val : Int))).length = M + 1; rw [List.length_map, Array.length_toList, size_sortR]
theorem rd_is (o : List Int) (n : Nat) (h : n < o.length) : rd o (n : Int) = o[n] := by
  unfold rd
  rw [List.getD_eq_getElem?_getD, Int.toNat_natCast, List.getElem?_eq_getElem h]; rfl
theorem turn_l2_ev (h4 : l.length ≤ 4) (o : List Int) (hl : o.length ≤ 1000) (ho : IsOrder l o) (p : List Int) (hpe : p = o.map (fun i => (l.length : Int) - 1 - i)) : ∀ d n : Nat, n + d = o.length → Ev (fun k => laws_FnRulesTurn.l2 k l o l.reverse p (n : Int)) true
  | 0, n, h => Ev.step (fun k => by simp only [laws_FnRulesTurn.l2]; rw [if_neg (by omega)]) (Ev.val (Ev.now _) (by rw [hpe, List.length_map]; exact beq_self_eq_true _))
  | d + 1, n, h => by
    have hn : n < o.length := by omega
    have hw : wrap64 ((n : Int) + 1) = ((n + 1 : Nat) : Int) := by rw [w_small (by omega) (by omega)]; omega
    have hpl : p.length = o.length := by rw [hpe, List.length_map]
    have e1 : rd o (n : Int) = o[n] := rd_is o n hn
    have e2 : rd p (n : Int) = (l.length : Int) - 1 - o[n] := by
      rw [rd_is p n (by omega)]
      simp only [hpe, List.getElem_map]
    have hr := (ho.2 o[n]).1 (List.getElem_mem hn)
    have e3 : rd_T39 l.reverse ((l.length : Int) - 1 - o[n]) = rd_T39 l o[n] := by
      show l.reverse.getD ((l.length : Int) - 1 - o[n]).toNat z39 = l.getD o[n].toNat z39
      rw [(pri_rev l _ (by omega)).2]
      congr 1
      omega
    have ih := turn_l2_ev h4 o hl ho p hpe d (n + 1) (by omega)
    refine Ev.step (fun k => by simp only [laws_FnRulesTurn.l2]; rw [e1, e2, e3, if_pos (by omega), if_neg (by omega), if_pos (by omega), if_pos (by omega), if_pos (by omega), if_pos (by rw [List.length_reverse]; omega), if_pos (by omega), if_pos (by omega), if_pos rfl, hw]) ih
theorem turn_l1_ev (h4 : l.length ≤ 4) (o : List Int) (x : List S39) (m : Nat) (hm : m < l.length) (next : (∀ k : Nat, k < m → priAt l k ≠ priAt l m) → Ev (fun k => laws_FnRulesTurn.l0 k l o x ((m : Int) - 1)) true) : ∀ d n : Nat, n + d = m → (∀ k : Nat, k < n → priAt l k ≠ priAt l m) → Ev (fun k => laws_FnRulesTurn.l1 k l o x (m : Int) (n : Int)) true
  | 0, n, h, hk => by
    obtain rfl : n = m := by omega
    exact Ev.step (fun k => by simp only [laws_FnRulesTurn.l1]; rw [if_neg (by omega), w_small (by omega) (by omega)]) (next hk)
  | d + 1, n, h, hk => by
    have hw : wrap64 ((n : Int) + 1) = ((n + 1 : Nat) : Int) := by rw [w_small (by omega) (by omega)]; omega
    have e1 : (rd_T39 l (n : Int)).f1 = priAt l n := rfl
    have e2 : (rd_T39 l (m : Int)).f1 = priAt l m := rfl
    by_cases hq : priAt l n = priAt l m
    · exact Ev.step (fun k => by simp only [laws_FnRulesTurn.l1]; rw [if_pos (by omega), if_pos (by omega), if_pos (by omega), if_pos (by omega), if_pos (by omega), e1, e2, if_pos hq]) (Ev.now _)
    exact Ev.step (fun k => by simp only [laws_FnRulesTurn.l1]; rw [if_pos (by omega), if_pos (by omega), if_pos (by omega), if_pos (by omega), if_pos (by omega), e1, e2, if_neg hq, hw]) (turn_l1_ev h4 o x m hm next d (n + 1) (by omega) (fun k hk' => by
      rcases Nat.lt_or_ge k n with c | c
      · exact hk k c
      · obtain rfl : k = n := by omega
        exact hq))
theorem turn_l0_ev (h4 : l.length ≤ 4) (o : List Int) (fin : Apart l → Ev (fun k => (impl_RulesOrder.f k l.reverse).bind fun t => laws_FnRulesTurn.l2 k l o l.reverse t 0) true) : ∀ e : Nat, e ≤ l.length → (∀ i : Nat, e ≤ i → i < l.length → ∀ k : Nat, k < i → priAt l k ≠ priAt l i) → Ev (fun k => laws_FnRulesTurn.l0 k l o (l.drop e).reverse ((e : Int) - 1)) true
  | 0, _, hd => by
    rw [List.drop_zero]
    exact Ev.step (fun k => by simp only [laws_FnRulesTurn.l0]; rw [if_neg (by omega)]) (fin (fun i hi k hk => hd i (Nat.zero_le _) hi k hk))
  | e + 1, he, hd => by
    have e0 : ((e + 1 : Nat) : Int) - 1 = (e : Int) := by omega
    rw [e0]
    have e1 : (l.drop (e + 1)).reverse ++ [rd_T39 l (e : Int)] = (l.drop e).reverse := by
      rw [drop_at l z39 e (by omega), List.reverse_cons]
      rfl
    have n1 := turn_l1_ev l h4 o (l.drop e).reverse e (by omega) (fun hk => turn_l0_ev h4 o fin e (by omega) (fun i h1 h2 k h3 => by
      rcases Nat.lt_or_ge e i with c | c
      · exact hd i (by omega) h2 k h3
      · obtain rfl : i = e := by omega
        exact hk k h3)) e 0 (by omega) (fun k hk => absurd hk (by omega))
    rw [← e1] at n1
    have n1 : Ev (fun k => laws_FnRulesTurn.l1 k l o ((l.drop (e + 1)).reverse ++ [rd_T39 l (e : Int)]) (e : Int) 0) true := n1
    refine Ev.step (fun k => by simp only [laws_FnRulesTurn.l0]; rw [if_pos (by omega), if_pos (by omega), if_pos (by omega), if_pos (by rw [List.length_reverse, List.length_drop]; omega), eta_R]) n1
end
theorem FnRulesTurn_pure (l0 : List Int) (h0 : l0.length ≤ maxLen ∧ ∀ y ∈ l0, (Lit.int .u8 y).wf = true) (_ : l0.length * 1 ≤ 140737488351232) : ∃ k, laws_FnRulesTurn.f k l0 = some true := by
  refine Ev.rounds (g := fun k => laws_FnRulesTurn.f k l0) ?_
  unfold laws_FnRulesTurn.f
  by_cases c : (l0.length : Int) > 1048576
  · exact Ev.pos c (Ev.now _)
  refine Ev.neg c ?_
  obtain ⟨l, h1, h4, hs⟩ := DrawRulesOrder_ev l0 (maxLen_le h0.1) h0.2
  obtain ⟨ok, hok⟩ := one_ex
  obtain ⟨o, o1, o2, o3, o4⟩ := order_both ok hok l (Small.fits hs)
  obtain ⟨k1, _, k3⟩ := rulesOk_both ok hok l (Small.fits hs)
  have same : Ev (fun k => laws_FnRulesTurn.j0 k l o true) true := Ev.step (fun k => by simp only [laws_FnRulesTurn.j0]; rw [if_pos trivial]) (Ev.bindS o1 (by rw [beq_self_eq_true]))
  refine Ev.bind h1 (Ev.bind o2 (Ev.bind o1 (Ev.pos rfl (Ev.bind k1 ?_))))
  cases hv : rulesGo ok l l.length 0 with
  | false => exact Ev.neg (by decide) same
  | true =>
    refine Ev.pos rfl ?_
    have io := o3 hv
    by_cases hz : (l.length : Int) = 0
    · have hb : ((l.length : Int) == 0) = true := beq_iff_eq.2 hz
      simp only [hb]
      exact same
    have hb : ((l.length : Int) == 0) = false := beq_eq_false_iff_ne.2 hz
    simp only [hb]
    have hw : wrap64 ((l.length : Int) - 1) = (l.length : Int) - 1 := w_small (by omega) (by omega)
    refine Ev.step (fun k => by simp only [laws_FnRulesTurn.j0]; rw [if_neg (by decide), hw]) ?_
    have hol : o.length ≤ 1000 := by
      rw [order_length l (k3 hv).2 o io]
      omega
    obtain ⟨p, _, p2, p3, _⟩ := order_both ok hok l.reverse (fun r hr => Small.fits hs r (List.mem_reverse.1 hr))
    have ip := p3 (rulesGo_rev ok l hv)
    have := turn_l0_ev l h4 o (fun hd => Ev.bind p2 (turn_l2_ev l h4 o hol io p (order_rev l hd o p io ip) o.length 0 (by omega))) l.length (Nat.le_refl _) (fun i h1 h2 => absurd h2 (by omega))
    rw [List.drop_length] at this
    exact this
end Go.Proofs.Ytdljhokealbnnaa.M
