/- What the claim's law leans on: the program's functions, what they compute, and the law over plain values; no condition is asked. (Part 6 of 6.) -/
import Derived.Test.YtbcdfbiggjfmlaaDoorCLawsFnEx5
import Derived.Laws.BitsAllLaws
import Derived.Laws.BitsLemmas
namespace Go.Proofs.YtbcdfbiggjfmlaaDoor.M
set_option linter.unusedVariables false
set_option linter.unusedSimpArgs false
open Go.RowKit Go.Proofs.YtbcdfbiggjfmlaaDoorW.PrintWords Go.Proofs.YtbcdfbiggjfmlaaDoorW.PrintLast

theorem ofInt_small (a : Nat) (ha : a < 9223372036854775808) : (BitVec.ofInt 64 (a : Int)).toNat = a := by
  rw [BitVec.ofInt_natCast, BitVec.toNat_ofNat]; exact Nat.mod_eq_of_lt (by omega)
theorem xor_small (a b : Nat) (ha : a < 9223372036854775808) (hb : b < 9223372036854775808) : bits .xor .i64 (a : Int) (b : Int) = ((a ^^^ b : Nat) : Int) := by
  have hx : a ^^^ b < 2 ^ 63 := Nat.xor_lt_two_pow (by omega) (by omega)
  show IntKind.i64.wrap ((BitVec.ofInt 64 (a : Int) ^^^ BitVec.ofInt 64 (b : Int)).toNat : Int) = _
  rw [BitVec.toNat_xor, ofInt_small a ha, ofInt_small b hb, IntKind.wrap_i64]
  omega
theorem mix_small (x : Int) (h0 : 0 ≤ x) (h1 : x ≤ 1099511627776) : 0 ≤ bits .xor .i64 x (wrap64 (Int.tdiv x 64)) := by
  obtain ⟨n, rfl⟩ := Int.eq_ofNat_of_zero_le h0
  have : Int.tdiv (n : Int) 64 = ((n / 64 : Nat) : Int) := rfl
  rw [this, w_small (by omega) (by omega), xor_small n (n / 64) (by omega) (by omega)]
  exact Int.natCast_nonneg _

def Bytes (bs : List Int) : Prop := bs.length ≤ 2000 ∧ ∀ x ∈ bs, 0 ≤ x ∧ x ≤ 255
theorem bytes_of {l : List Int} (h : ∀ x ∈ l, (Lit.int .u8 x).wf = true) : ∀ x ∈ l, 0 ≤ x ∧ x ≤ 255 := by
  intro x hx
  have := h x hx
  simp only [Lit.wf, Bool.and_eq_true, decide_eq_true_eq] at this
  exact this
theorem Bytes.rdLe {bs : List Int} (h : Bytes bs) (i : Int) : 0 ≤ rd bs i ∧ rd bs i ≤ 255 := by
  unfold rd
  rw [List.getD_eq_getElem?_getD]
  rcases Nat.lt_or_ge i.toNat bs.length with hi | hi
  · rw [List.getElem?_eq_getElem hi]
    exact h.2 _ (List.getElem_mem hi)
  · rw [List.getElem?_eq_none hi]
    simp

theorem l14Open_is (l : List Int) (hl : l.length ≤ 9223372036854775807) : spec_l14Open.f l = some (l.take 2000, 0) := by
  unfold spec_l14Open.f
  by_cases h : (l.length : Int) > 2000
  · rw [if_pos h, if_pos (by omega)]
  · rw [if_neg h, List.take_of_length_le (by omega)]
theorem open_bytes {l : List Int} (h : ∀ x ∈ l, (Lit.int .u8 x).wf = true) : Bytes (l.take 2000) :=
  ⟨by rw [List.length_take]; omega, fun x hx => bytes_of h x (List.mem_of_mem_take hx)⟩

theorem tmod_lt (a n : Int) (h0 : 0 ≤ a) (h1 : 1 ≤ n) : 0 ≤ Int.tmod a n ∧ Int.tmod a n < n := by
  rw [Int.tmod_eq_emod_of_nonneg h0]
  exact ⟨Int.emod_nonneg _ (by omega), Int.emod_lt_of_pos _ (by omega)⟩

theorem pick_ev (bs : List Int) (hb : Bytes bs) (p n : Int) (h0 : 0 ≤ p) (h1 : p ≤ 1000000) : ∃ r, Ev (fun k => spec_l14Rd_pick.f k bs p n) (r, p + 1) ∧ 0 ≤ r ∧ (r < n ∨ n < 1 ∧ r = 0) := by
  have w1 : wrap64 (p + 1) = p + 1 := w_small (by omega) (by omega)
  by_cases hn : n < 1
  · refine ⟨0, ?_, by omega, .inr ⟨hn, rfl⟩⟩
    unfold spec_l14Rd_pick.f
    refine Ev.pos hn (Ev.last (fun k => ?_))
    simp only [spec_l14Rd_pick.j0]
    rw [if_pos trivial, w1]
  by_cases he : (bs.length : Int) = 0
  · refine ⟨0, ?_, by omega, .inl (by omega)⟩
    unfold spec_l14Rd_pick.f
    refine Ev.neg hn (Ev.last (fun k => ?_))
    simp only [spec_l14Rd_pick.j0]
    rw [beq_iff_eq.2 he, if_pos rfl, w1]
  have w2 : wrap64 (p + 1 - 1) = p := by rw [show p + 1 - 1 = p by omega]; exact w_small (by omega) (by omega)
  have hne : ((bs.length : Int) == 0) = false := beq_eq_false_iff_ne.2 he
  have hlen := hb.1
  by_cases hk : p < (bs.length : Int)
  · have hr := hb.rdLe p
    have hm := tmod_lt (rd bs p) n hr.1 (by omega)
    refine ⟨Int.tmod (rd bs p) n, ?_, hm.1, .inl hm.2⟩
    unfold spec_l14Rd_pick.f
    refine Ev.neg hn (Ev.last (fun k => ?_))
    simp only [spec_l14Rd_pick.j0]
    rw [hne, if_neg (by decide), w1, w2, if_pos hk, if_pos h0, if_neg (by omega), w_small (by omega) (by omega)]
  have t1 := tmod_lt p (bs.length : Int) h0 (by omega)
  have w3 : wrap64 (p * 7) = p * 7 := w_small (by omega) (by omega)
  have w4 : wrap64 (p * 7 + 3) = p * 7 + 3 := w_small (by omega) (by omega)
  have t2 := tmod_lt (p * 7 + 3) (bs.length : Int) (by omega) (by omega)
  have r1 := hb.rdLe (Int.tmod p (bs.length : Int))
  have r2 := hb.rdLe (Int.tmod (p * 7 + 3) (bs.length : Int))
  have hd : 0 ≤ Int.tdiv p (bs.length : Int) ∧ Int.tdiv p (bs.length : Int) ≤ p := by
    rw [Int.tdiv_eq_ediv_of_nonneg h0]
    exact ⟨Int.ediv_nonneg h0 (by omega), Int.ediv_le_self _ h0⟩
  have w5 : wrap64 (Int.tdiv p (bs.length : Int)) = Int.tdiv p (bs.length : Int) := w_small (by omega) (by omega)
  generalize hq : Int.tdiv p (bs.length : Int) = q at *
  generalize ha : rd bs (Int.tmod p (bs.length : Int)) = a at *
  generalize hb' : rd bs (Int.tmod (p * 7 + 3) (bs.length : Int)) = b at *
  have x1 : wrap64 a = a := w_small (by omega) (by omega)
  have x2 : wrap64 b = b := w_small (by omega) (by omega)
  have x3 : wrap64 (a * 131) = a * 131 := w_small (by omega) (by omega)
  have x4 : wrap64 (b * 1117) = b * 1117 := w_small (by omega) (by omega)
  have x5 : wrap64 (a * 131 + b * 1117) = a * 131 + b * 1117 := w_small (by omega) (by omega)
  have x6 : wrap64 (p * 29) = p * 29 := w_small (by omega) (by omega)
  have x7 : wrap64 (a * 131 + b * 1117 + p * 29) = a * 131 + b * 1117 + p * 29 := w_small (by omega) (by omega)
  have x8 : wrap64 (q * 53) = q * 53 := w_small (by omega) (by omega)
  have x9 : wrap64 (a * 131 + b * 1117 + p * 29 + q * 53) = a * 131 + b * 1117 + p * 29 + q * 53 := w_small (by omega) (by omega)
  have hx := mix_small (a * 131 + b * 1117 + p * 29 + q * 53) (by omega) (by omega)
  generalize hX : bits .xor .i64 (a * 131 + b * 1117 + p * 29 + q * 53) (wrap64 (Int.tdiv (a * 131 + b * 1117 + p * 29 + q * 53) 64)) = X at *
  have hm := tmod_lt X n hx (by omega)
  refine ⟨Int.tmod X n, ?_, hm.1, .inl hm.2⟩
  unfold spec_l14Rd_pick.f
  refine Ev.neg hn (Ev.last (fun k => ?_))
  simp only [spec_l14Rd_pick.j0]
  rw [hne, if_neg (by decide), w1, w2, if_neg hk, if_neg he, if_pos t1.1, if_pos t1.2, w3, w4, if_pos t2.1, if_pos t2.2, if_neg (by omega), hq, ha, hb', w5, x1, x2, x3, x4, x5, x6, x7, x8, x9, hX]

theorem num_ev (bs : List Int) (hb : Bytes bs) (p : Int) (l : List Int) (hl : l ≠ []) (hm : l.length ≤ 1000000) (h0 : 0 ≤ p) (h1 : p ≤ 1000000) : ∃ r, Ev (fun k => spec_l14Rd_num.f k bs p l) (r, p + 1) ∧ r ∈ l := by
  obtain ⟨r, hr, h2, h3⟩ := pick_ev bs hb p (l.length : Int) h0 h1
  have hpos : 0 < l.length := List.length_pos_iff.2 hl
  have hlt : r < (l.length : Int) := by omega
  refine ⟨rd l r, ?_, ?_⟩
  · unfold spec_l14Rd_num.f
    exact Ev.bind hr (Ev.pos h2 (Ev.pos hlt (Ev.now _)))
  · unfold rd
    rw [List.getD_eq_getElem?_getD, List.getElem?_eq_getElem (show r.toNat < l.length by omega)]
    exact List.getElem_mem _
theorem kidsY_append (l m : List S29) : kidsY (l ++ m) = kidsY l + kidsY m := by
  induction l with
  | nil => simp [kidsY_nil]
  | cons x l ih => rw [List.cons_append, kidsY_cons, kidsY_cons, ih]; omega
theorem kidsOf_le (a : Int) : kidsOf a ≤ 3 := by
  unfold kidsOf
  (repeat' split) <;> omega
def bX : Nat → Nat
  | 0 => 0
  | d + 1 => 3 + 3 * bX d
def cX : Nat → Nat
  | 0 => 1
  | d + 1 => 3 + 3 * cX d
def DrawX (bs : List Int) (d : Nat) : Prop := ∀ p : Int, 0 ≤ p → p + (cX d : Int) ≤ 990000 → ∃ (x : S29) (q : Int), Ev (fun k => spec_l2Ex.f k bs p ((d + 1 : Nat) : Int)) (x.f0, x.f1, x.f2, x.f3, q) ∧ allY x ≤ bX d ∧ p ≤ q ∧ q ≤ p + (cX d : Int)
theorem eta_X (x : S29) : (⟨x.f0, x.f1, x.f2, x.f3⟩ : S29) = x := by cases x; rfl
theorem allY_mk (a b c : Int) (l : List S29) : allY (⟨a, b, c, l⟩ : S29) = l.length + kidsY l := by rw [allY_is]
theorem l2leaf_ev (bs : List Int) (hb : Bytes bs) (a p : Int) (h0 : 0 ≤ p) (h1 : p ≤ 1000000) : ∃ r : Int, Ev (fun k => spec_l2Ex.j0 k a true bs p) (1, r, 0, [], p + 1) := by
  obtain ⟨r, hr, _⟩ := num_ev bs hb p [0, 0, 1, 1, 2, 2, 3, 4] (by simp) (by simp) h0 h1
  exact ⟨r, (by refine Ev.step (fun k => by simp only [spec_l2Ex.j0]; rw [if_pos trivial]) ?_; exact (Ev.bindS hr rfl))⟩
theorem l2kids_ev (bs : List Int) (hb : Bytes bs) (d : Nat) (hd3 : d ≤ 3) (hd : DrawX bs d) : ∀ (e : Nat) (n p A B C : Int) (xs : List S29), n ≤ (e : Int) → e ≤ 3 → 0 ≤ p → p + ((e * cX d : Nat) : Int) ≤ 990000 → xs.length + e ≤ 1000 →
    ∃ (ys : List S29) (q : Int), Ev (fun k => spec_l2Ex.l0 k ((d + 2 : Nat) : Int) n bs p A B C xs) (A, B, C, ys, q) ∧ ys.length ≤ xs.length + e ∧ kidsY ys ≤ kidsY xs + e * bX d ∧ p ≤ q ∧ q ≤ p + ((e * cX d : Nat) : Int)
  | 0, n, p, A, B, C, xs, hn, _, h0, h1, hx => by
    refine ⟨xs, p, (by refine Ev.step (fun k => by simp only [spec_l2Ex.l0]; rw [if_neg (by omega)]) ?_; exact (Ev.now _)), by omega, by omega, by omega, by omega⟩
  | e + 1, n, p, A, B, C, xs, hn, he, h0, h1, hx => by
    have m1 : (e + 1) * cX d = e * cX d + cX d := Nat.succ_mul _ _
    have m2 : (e + 1) * bX d = e * bX d + bX d := Nat.succ_mul _ _
    by_cases hp : n > 0
    · have w1 : wrap64 (((d + 2 : Nat) : Int) - 1) = wrap64 ((d + 1 : Nat) : Int) := by congr 1; omega
      obtain ⟨x, q, hq, h2, h3, h4⟩ := hd p h0 (by omega)
      obtain ⟨ys, q', g1, g2, g3, g4, g5⟩ := l2kids_ev bs hb d hd3 hd e (n - 1) q A B C (xs ++ [x]) (by omega) (by omega) (by omega) (by omega) (by rw [List.length_append, List.length_singleton]; omega)
      rw [List.length_append, List.length_singleton] at g2
      rw [kidsY_append, kidsY_cons, kidsY_nil] at g3
      rw [w_small (i := ((d + 1 : Nat) : Int)) (by omega) (by omega)] at w1
      have w2 : wrap64 (n - 1) = n - 1 := w_small (by omega) (by omega)
      refine ⟨ys, q', (by refine Ev.step (fun k => by simp only [spec_l2Ex.l0]; rw [if_pos hp, w1, w2]) ?_; refine Ev.bind hq (Ev.pos (by omega) ?_); show Ev (fun k => spec_l2Ex.l0 k ((d + 2 : Nat) : Int) (n - 1) bs q A B C (xs ++ [(⟨x.f0, x.f1, x.f2, x.f3⟩ : S29)])) _; rw [eta_X]; exact g1), by omega, by omega, by omega, by omega⟩
    · refine ⟨xs, p, (by refine Ev.step (fun k => by simp only [spec_l2Ex.l0]; rw [if_neg hp]) ?_; exact (Ev.now _)), by omega, by omega, by omega, by omega⟩
theorem l2Ex_ev (bs : List Int) (hb : Bytes bs) : ∀ d : Nat, d ≤ 3 → DrawX bs d
  | 0, _ => fun p h0 h1 => by
    obtain ⟨r, hr⟩ := l2leaf_ev bs hb ((0 + 1 : Nat) : Int) p h0 (by omega)
    refine ⟨⟨1, r, 0, []⟩, p + 1, Ev.step (fun k => by simp only [spec_l2Ex.f]; rw [if_pos (by omega)]) hr, ?_, by omega, ?_⟩
    · rw [allY_mk, kidsY_nil]; exact Nat.le_refl _
    · show p + 1 ≤ p + ((1 : Nat) : Int); omega
  | d + 1, hd => fun p h0 h1 => by
    have ih := l2Ex_ev bs hb d (by omega)
    have hc : cX d ≤ 66 := by
      match d, hd with
      | 0, _ => decide
      | 1, _ => decide
      | 2, _ => decide
    obtain ⟨r, hr, _⟩ := pick_ev bs hb p 4 h0 (by omega)
    have e1 : cX (d + 1) = 3 + 3 * cX d := rfl
    have e2 : bX (d + 1) = 3 + 3 * bX d := rfl
    by_cases hz : r = 0
    · obtain ⟨s, hs⟩ := l2leaf_ev bs hb ((d + 1 + 1 : Nat) : Int) (p + 1) (by omega) (by omega)
      refine ⟨⟨1, s, 0, []⟩, p + 1 + 1, ?_, ?_, by omega, by omega⟩
      · refine Ev.step (fun k => by simp only [spec_l2Ex.f]; rw [if_neg (by omega)]) (Ev.bind hr ?_)
        simp only [hz]; exact hs
      · rw [allY_mk, kidsY_nil]; simp
    have hzf : (r == 0) = false := beq_eq_false_iff_ne.2 hz
    obtain ⟨K, hK, _⟩ := num_ev bs hb (p + 1) [2, 3, 3, 4, 4, 4, 5, 6, 7] (by simp) (by simp) (by omega) (by omega)
    have fin : ∀ (q N : Int), 0 ≤ q → q ≤ p + 3 → p ≤ q → ∃ (x : S29) (q' : Int), Ev (fun k => spec_l2Ex.j1 k ((d + 2 : Nat) : Int) bs q K 0 N) (x.f0, x.f1, x.f2, x.f3, q') ∧ allY x ≤ 3 + 3 * bX d ∧ p ≤ q' ∧ q' ≤ p + ((3 + 3 * cX d : Nat) : Int) := fun q N g0 g1 g2 => by
      obtain ⟨ys, q', f1, f2, f3, f4, f5⟩ := l2kids_ev bs hb d (by omega) ih 3 (kidsOf K) q K 0 N [] (kidsOf_le K) (by omega) g0 (by omega) (by simp)
      rw [kidsY_nil] at f3
      rw [List.length_nil] at f2
      refine ⟨⟨K, 0, N, ys⟩, q', (by refine Ev.step (fun k => by rw [spec_l2Ex.j1]) ?_; exact (Ev.bind (l2Kids_ev K) f1)), ?_, by omega, by omega⟩
      rw [allY_mk]; omega
    by_cases h7 : K = 7
    · obtain ⟨N, hN, _⟩ := num_ev bs hb (p + 1 + 1) [1, 2, 3, 5, 20] (by simp) (by simp) (by omega) (by omega)
      obtain ⟨x, q', f1, f2, f3, f4⟩ := fin (p + 1 + 1 + 1) N (by omega) (by omega) (by omega)
      refine ⟨x, q', ?_, by omega, f3, by omega⟩
      refine Ev.step (fun k => by simp only [spec_l2Ex.f]; rw [if_neg (by omega)]) (Ev.bind hr ?_)
      simp only [hzf]
      refine (by refine Ev.step (fun k => by simp only [spec_l2Ex.j0]; rw [if_neg (by decide)]) ?_; exact (Ev.bind hK (Ev.pos h7 (Ev.bind hN f1))))
    · obtain ⟨x, q', f1, f2, f3, f4⟩ := fin (p + 1 + 1) 0 (by omega) (by omega) (by omega)
      refine ⟨x, q', ?_, by omega, f3, by omega⟩
      refine Ev.step (fun k => by simp only [spec_l2Ex.f]; rw [if_neg (by omega)]) (Ev.bind hr ?_)
      simp only [hzf]
      refine (by refine Ev.step (fun k => by simp only [spec_l2Ex.j0]; rw [if_neg (by decide)]) ?_; exact (Ev.bind hK (Ev.neg h7 f1)))
theorem l2Ex2_ev (bs : List Int) (hb : Bytes bs) (p : Int) (h0 : 0 ≤ p) (h1 : p ≤ 900000) : ∃ (x : S29) (q : Int), Ev (fun k => spec_l2Ex.f k bs p 2) (x.f0, x.f1, x.f2, x.f3, q) ∧ allY x ≤ 39 ∧ p ≤ q ∧ q ≤ p + 6 := by
  have e : cX 1 = 6 := rfl
  obtain ⟨x, q, h2, h3, h4, h5⟩ := l2Ex_ev bs hb 1 (by omega) p h0 (by omega)
  exact ⟨x, q, h2, Nat.le_trans h3 (by decide), h4, h5⟩
theorem l2Some_ev (bs : List Int) (hb : Bytes bs) (p : Int) (h0 : 0 ≤ p) (h1 : p ≤ 800000) : ∃ (x : S29) (q : Int), Ev (fun k => spec_l2Some.f k bs p) (x.f0, x.f1, x.f2, x.f3, q) ∧ allY x ≤ 39 ∧ p ≤ q ∧ q ≤ p + 73 := by
  obtain ⟨r, hr, r0, r1⟩ := pick_ev bs hb p 4 h0 (by omega)
  obtain ⟨d, rfl⟩ := Int.eq_ofNat_of_zero_le r0
  have hd : d ≤ 3 := by omega
  have w1 : wrap64 (1 + (d : Int)) = ((d + 1 : Nat) : Int) := by rw [w_small (by omega) (by omega)]; omega
  have hc : cX d ≤ 66 ∧ bX d ≤ 39 := by
    match d, hd with
    | 0, _ => decide
    | 1, _ => decide
    | 2, _ => decide
    | 3, _ => decide
  obtain ⟨x, q, h2, h3, h4, h5⟩ := l2Ex_ev bs hb d hd (p + 1) (by omega) (by omega)
  have hk := spec_ExOk_ev x (by omega)
  by_cases ho : okX x = true
  · refine ⟨x, q, ?_, by omega, by omega, by omega⟩
    unfold spec_l2Some.f
    refine Ev.bind hr ?_
    simp only [w1]
    exact Ev.bind h2 (Ev.bind hk (Ev.pos ho (Ev.now _)))
  obtain ⟨y, q', g2, g3, g4, g5⟩ := l2Ex2_ev bs hb q (by omega) (by omega)
  refine ⟨y, q', ?_, g3, by omega, by omega⟩
  unfold spec_l2Some.f
  refine Ev.bind hr ?_
  simp only [w1]
  exact Ev.bind h2 (Ev.bind hk (Ev.neg ho (Ev.bindS g2 rfl)))
def CopyOk (x : S29) : Prop := Ev (fun k => spec_l2Copy.f k x.f0 x.f1 x.f2 x.f3) (x.f0, x.f1, x.f2, x.f3)
theorem l2Copy_l0_ev (l : List S29) (hl : l.length ≤ 1000000) (hs : ∀ x ∈ l, CopyOk x) (a b c A B C : Int) : ∀ d n : Nat, n + d = l.length → Ev (fun k => spec_l2Copy.l0 k (n : Int) a b c l A B C (l.take n)) (A, B, C, l)
  | 0, n, h => by
    have : l.take n = l := List.take_of_length_le (by omega)
    rw [this]
    exact (by refine Ev.step (fun k => by simp only [spec_l2Copy.l0]; rw [if_neg (by omega)]) ?_; exact (Ev.now _))
  | d + 1, n, h => by
    have hn : n < l.length := by omega
    have hw : wrap64 ((n : Int) + 1) = ((n + 1 : Nat) : Int) := by rw [w_small (by omega) (by omega)]; omega
    have hx := hs l[n] (List.getElem_mem hn)
    have ih := l2Copy_l0_ev l hl hs a b c A B C d (n + 1) (by omega)
    refine Ev.step (fun k => by simp only [spec_l2Copy.l0]; rw [if_pos (by omega), if_pos (by omega), rdI l n hn]) ?_
    refine Ev.bind hx (Ev.pos (by rw [List.length_take]; omega) ?_)
    have e : l.take n ++ [(⟨l[n].f0, l[n].f1, l[n].f2, l[n].f3⟩ : S29)] = l.take (n + 1) := by
      rw [eta_X, List.take_succ_eq_append_getElem hn]
    simp only [e, hw]
    exact ih
theorem l2Copy_ev : ∀ x : S29, allY x ≤ 1000000 → CopyOk x := by
  refine indI (fun x ih h => ?_)
  have hlen := allY_len (x := x)
  refine Ev.step (fun k => by rw [spec_l2Copy.f]) ?_
  exact l2Copy_l0_ev x.f3 (by omega) (fun y hy => ih y hy (by have := allY_mem hy; omega)) _ _ _ _ _ _ x.f3.length 0 (by omega)
theorem l2Bent_l0_ev (bs : List Int) (p : Int) : ∀ (e n : Nat) (x : S29), n + e = 5 → ∃ y : S29, Ev (fun k => spec_l2Bent.l0 k (n : Int) bs p x.f0 x.f1 x.f2 x.f3) (y.f0, y.f1, y.f2, y.f3, p) ∧ allY y ≤ allY x + e
  | 0, n, x, h => ⟨x, (by refine Ev.step (fun k => by simp only [spec_l2Bent.l0]; rw [if_neg (by omega)]) ?_; exact (Ev.now _)), by omega⟩
  | e + 1, n, x, h => by
    have hw : wrap64 ((n : Int) + 1) = ((n + 1 : Nat) : Int) := by rw [w_small (by omega) (by omega)]; omega
    obtain ⟨y, h1, h2⟩ := l2Bent_l0_ev bs p e (n + 1) ⟨7, 0, 1, [x]⟩ (by omega)
    refine ⟨y, Ev.step (fun k => by simp only [spec_l2Bent.l0]; rw [if_pos (by omega), hw, eta_X]) h1, ?_⟩
    rw [allY_mk, kidsY_cons, kidsY_nil, List.length_singleton] at h2
    omega
def dblX : Nat → Nat → Nat
  | 0, a => a
  | e + 1, a => dblX e (2 * a + 2)
theorem l2Bent_l1_ev (bs : List Int) (p : Int) : ∀ (e n : Nat) (x : S29) (m : Nat), n + e = 4 → allY x ≤ m → dblX e m ≤ 1000 → m ≤ 1000 → ∃ y : S29, Ev (fun k => spec_l2Bent.l1 k (n : Int) bs p x.f0 x.f1 x.f2 x.f3) (y.f0, y.f1, y.f2, y.f3, p) ∧ allY y ≤ dblX e m
  | 0, n, x, m, h, hm, _, _ => ⟨x, (by refine Ev.step (fun k => by simp only [spec_l2Bent.l1]; rw [if_neg (by omega)]) ?_; exact (Ev.now _)), hm⟩
  | e + 1, n, x, m, h, hm, hd, hm1 => by
    have hw : wrap64 ((n : Int) + 1) = ((n + 1 : Nat) : Int) := by rw [w_small (by omega) (by omega)]; omega
    have hc := l2Copy_ev x (by omega)
    have mono : ∀ (e a : Nat), a ≤ dblX e a := by
      intro e
      induction e with
      | zero => intro a; exact Nat.le_refl _
      | succ e ih => intro a; have := ih (2 * a + 2); simp only [dblX]; omega
    have hd' : dblX e (2 * m + 2) ≤ 1000 := hd
    have hm2 := mono e (2 * m + 2)
    obtain ⟨y, h1, h2⟩ := l2Bent_l1_ev bs p e (n + 1) ⟨2, 0, 0, [x, x]⟩ (2 * m + 2) (by omega) (by rw [allY_mk, kidsY_cons, kidsY_cons, kidsY_nil]; simp only [List.length_cons, List.length_nil]; omega) hd' (by omega)
    refine ⟨y, ?_, h2⟩
    refine Ev.step (fun k => by simp only [spec_l2Bent.l1]; rw [if_pos (by omega)]) ?_
    refine Ev.bind hc ?_
    simp only [hw, eta_X]
    exact h1
theorem l2Bent_ev (bs : List Int) (hb : Bytes bs) (p : Int) (h0 : 0 ≤ p) (h1 : p ≤ 700000) : ∃ (x : S29) (q : Int), Ev (fun k => spec_l2Bent.f k bs p) (x.f0, x.f1, x.f2, x.f3, q) ∧ allY x ≤ 1000 ∧ p ≤ q ∧ q ≤ p + 75 := by
  obtain ⟨x, q, h2, h3, h4, h5⟩ := l2Some_ev bs hb p h0 (by omega)
  obtain ⟨r, hr, _, _⟩ := pick_ev bs hb q 60 (by omega) (by omega)
  have hx := allY_is x
  by_cases c0 : r = 0
  · obtain ⟨s, hs, _⟩ := num_ev bs hb (q + 1) [0, 8, 2, 5] (by simp) (by simp) (by omega) (by omega)
    refine ⟨⟨s, x.f1, x.f2, x.f3⟩, q + 1 + 1, ?_, by rw [allY_mk]; omega, by omega, by omega⟩
    unfold spec_l2Bent.f
    exact Ev.bind h2 (Ev.bind hr (Ev.pos c0 (Ev.bindS hs rfl)))
  by_cases c1 : r = 1
  · obtain ⟨s, hs, _⟩ := num_ev bs hb (q + 1) [(-1), 5, 1] (by simp) (by simp) (by omega) (by omega)
    refine ⟨⟨x.f0, s, x.f2, x.f3⟩, q + 1 + 1, ?_, by rw [allY_mk]; omega, by omega, by omega⟩
    unfold spec_l2Bent.f
    exact Ev.bind h2 (Ev.bind hr (Ev.neg c0 (Ev.pos c1 (Ev.bindS hs rfl))))
  by_cases c2 : r = 2
  · obtain ⟨s, hs, _⟩ := num_ev bs hb (q + 1) [(-1), 21, 1, 0] (by simp) (by simp) (by omega) (by omega)
    refine ⟨⟨x.f0, x.f1, s, x.f3⟩, q + 1 + 1, ?_, by rw [allY_mk]; omega, by omega, by omega⟩
    unfold spec_l2Bent.f
    exact Ev.bind h2 (Ev.bind hr (Ev.neg c0 (Ev.neg c1 (Ev.pos c2 (Ev.bindS hs rfl)))))
  by_cases c3 : r = 3
  · obtain ⟨y, g1, g2⟩ := l2Bent_l0_ev bs (q + 1) 5 0 x rfl
    refine ⟨y, q + 1, ?_, by omega, by omega, by omega⟩
    unfold spec_l2Bent.f
    exact Ev.bind h2 (Ev.bind hr (Ev.neg c0 (Ev.neg c1 (Ev.neg c2 (Ev.pos c3 g1)))))
  by_cases c4 : r = 4
  · obtain ⟨y, g1, g2⟩ := l2Bent_l1_ev bs (q + 1) 4 0 x 39 rfl h3 (by decide) (by decide)
    refine ⟨y, q + 1, ?_, Nat.le_trans g2 (by decide), by omega, by omega⟩
    unfold spec_l2Bent.f
    exact Ev.bind h2 (Ev.bind hr (Ev.neg c0 (Ev.neg c1 (Ev.neg c2 (Ev.neg c3 (Ev.pos c4 g1))))))
  · refine ⟨x, q + 1, ?_, by omega, by omega, by omega⟩
    unfold spec_l2Bent.f
    exact Ev.bind h2 (Ev.bind hr (Ev.neg c0 (Ev.neg c1 (Ev.neg c2 (Ev.neg c3 (Ev.neg c4 (Ev.now _)))))))
end Go.Proofs.YtbcdfbiggjfmlaaDoor.M
namespace Go.Proofs.YtbcdfbiggjfmlaaDoor.M
open Go.RowKit Go.Proofs.YtbcdfbiggjfmlaaDoorW.PrintWords Go.Proofs.YtbcdfbiggjfmlaaDoorW.PrintLast Go.Proofs.YtbcdfbiggjfmlaaDoorW.PrintMore
attribute [local go_sem] max2_int min2_int max_two min_two max_three min_three max_four min_four
set_option linter.unusedVariables false
set_option linter.unusedSimpArgs false

end Go.Proofs.YtbcdfbiggjfmlaaDoor.M
namespace Go.Proofs.YtbcdfbiggjfmlaaDoor.M
set_option linter.unusedVariables false
set_option linter.unusedSimpArgs false
open Go.RowKit Go.Proofs.YtbcdfbiggjfmlaaDoorW.PrintWords Go.Proofs.YtbcdfbiggjfmlaaDoorW.PrintLast

theorem ev_one {α : Type} {g : Nat → Option α} {r s : α} (h : Ev g r) (h' : Ev g s) : r = s := by
  obtain ⟨K, hK⟩ := h
  obtain ⟨L, hL⟩ := h'
  have h1 := hK (max K L) (by omega)
  rw [hL (max K L) (by omega)] at h1
  exact (Option.some.inj h1).symm
def IsOk (a : S29) : Prop := ∀ b : S29, ∃ r, Ev (fun k => spec_ExSame.f k a.f0 a.f1 a.f2 a.f3 b.f0 b.f1 b.f2 b.f3) r ∧ (r = true ↔ a = b)
theorem is_l0_ev (l m : List S29) (hl : l.length ≤ 1048576) (hm : l.length = m.length) (hs : ∀ x ∈ l, IsOk x) (p q r p' q' r' : Int) : ∀ (d n : Nat), n + d = l.length → ∃ v, Ev (fun k => spec_ExSame.l0 k (n : Int) p q r l p' q' r' m) v ∧ (v = true ↔ l.drop n = m.drop n) := by
  intro d
  induction d with
  | zero =>
    intro n hn
    refine ⟨true, Ev.last (fun k => by simp only [spec_ExSame.l0]; rw [if_neg (by omega)]), ?_⟩
    rw [List.drop_of_length_le (by omega), List.drop_of_length_le (by omega)]
    exact ⟨fun _ => rfl, fun _ => rfl⟩
  | succ d ih =>
    intro n hn
    obtain ⟨v, h1, h2⟩ := hs l[n] (List.getElem_mem _) m[n]
    obtain ⟨v', h3, h4⟩ := ih (n + 1) (by omega)
    rw [List.drop_eq_getElem_cons (l := l) (i := n) (by omega), List.drop_eq_getElem_cons (l := m) (i := n) (by omega)]
    have st : ∀ k, spec_ExSame.l0 (k + 1) (n : Int) p q r l p' q' r' m = (spec_ExSame.f k l[n].f0 l[n].f1 l[n].f2 l[n].f3 m[n].f0 m[n].f1 m[n].f2 m[n].f3).bind fun t => if t = true then spec_ExSame.l0 k ((n + 1 : Nat) : Int) p q r l p' q' r' m else some false := fun k => by
      simp only [spec_ExSame.l0]
      rw [if_pos (by omega), if_pos (by omega), if_pos (by omega), rdI l n (by omega), rdI m n (by omega), w_succ (by omega)]
    cases v with
    | true =>
      refine ⟨v', Ev.step st (Ev.bind h1 (Ev.pos rfl h3)), ?_⟩
      have e : l[n] = m[n] := h2.1 rfl
      rw [h4, e]
      exact ⟨fun h => by rw [h], fun h => (List.cons.inj h).2⟩
    | false =>
      refine ⟨false, Ev.step st (Ev.bind h1 (Ev.neg (by decide) (Ev.now _))), ?_⟩
      exact ⟨fun h => (by cases h), fun h => (by have := h2.2 (List.cons.inj h).1; cases this)⟩
theorem is_ev : ∀ a : S29, allY a ≤ 1048576 → IsOk a := by
  refine indI (fun x ih g b => ?_)
  have hk : ∀ y ∈ x.f3, IsOk y := fun y hy => ih y hy (by have := allY_mem hy; omega)
  have hl : x.f3.length ≤ 1048576 := by have := allY_len (x := x); omega
  have bad : Ev (fun k => spec_ExSame.j0 k true x.f0 x.f1 x.f2 x.f3 b.f0 b.f1 b.f2 b.f3) false := Ev.last (fun k => by simp only [spec_ExSame.j0]; rw [if_pos trivial])
  by_cases h0 : x.f0 = b.f0
  rotate_left
  · exact ⟨false, Ev.step (fun k => by simp only [spec_ExSame.f]; rw [if_neg h0]) bad, fun h => (by cases h), fun h => absurd (by rw [h]) h0⟩
  by_cases h1 : x.f1 = b.f1
  rotate_left
  · exact ⟨false, Ev.step (fun k => by simp only [spec_ExSame.f]; rw [if_pos h0, if_neg h1]) bad, fun h => (by cases h), fun h => absurd (by rw [h]) h1⟩
  by_cases h2 : x.f2 = b.f2
  rotate_left
  · exact ⟨false, Ev.step (fun k => by simp only [spec_ExSame.f]; rw [if_pos h0, if_pos h1, if_neg h2]) bad, fun h => (by cases h), fun h => absurd (by rw [h]) h2⟩
  by_cases h3 : x.f3.length = b.f3.length
  · obtain ⟨v, hv, hw⟩ := is_l0_ev x.f3 b.f3 hl h3 hk x.f0 x.f1 x.f2 b.f0 b.f1 b.f2 x.f3.length 0 (by omega)
    have hd : ((x.f3.length : Int) != (b.f3.length : Int)) = false := by rw [h3]; simp
    refine ⟨v, ?_, ?_⟩
    · refine Ev.step (fun k => by simp only [spec_ExSame.f]; rw [if_pos h0, if_pos h1, if_pos h2, hd]) ?_
      refine Ev.step (fun k => by simp only [spec_ExSame.j0]; rw [if_neg (by decide)]) ?_
      exact hv
    rw [hw, List.drop_zero, List.drop_zero]
    refine ⟨fun h => ?_, fun h => by rw [h]⟩
    cases x
    cases b
    simp only at h0 h1 h2 h
    rw [h0, h1, h2, h]
  · have hd : ((x.f3.length : Int) != (b.f3.length : Int)) = true := by simp; omega
    refine ⟨false, ?_, fun h => (by cases h), fun h => absurd (by rw [h]) h3⟩
    refine Ev.step (fun k => by simp only [spec_ExSame.f]; rw [if_pos h0, if_pos h1, if_pos h2, hd]) ?_
    exact bad
open Classical in
noncomputable def oneB (a b : S29) : Bool := decide (a = b)
open Classical in
theorem oneB_iff {a b : S29} : oneB a b = true ↔ a = b := by unfold oneB; exact decide_eq_true_iff
theorem spec_same (a b : S29) (h : allY a ≤ 1048576) : Ev (fun k => spec_ExSame.f k a.f0 a.f1 a.f2 a.f3 b.f0 b.f1 b.f2 b.f3) (oneB a b) := by
  obtain ⟨r, h1, h2⟩ := is_ev a h b
  have : r = oneB a b := Bool.eq_iff_iff.2 (h2.trans oneB_iff.symm)
  rw [← this]
  exact h1
theorem impl_same (a b : S29) (h : allY a ≤ 1048576) : Ev (fun k => impl_ExSame.f k a.f0 a.f1 a.f2 a.f3 b.f0 b.f1 b.f2 b.f3) (oneB a b) := by
  obtain ⟨r, h1, h2⟩ := same_ev a h b
  rw [ev_one (spec_same a b h) h1]
  exact h2
end Go.Proofs.YtbcdfbiggjfmlaaDoor.M
namespace Go.Proofs.YtbcdfbiggjfmlaaDoor.M
set_option linter.unusedVariables false
set_option linter.unusedSimpArgs false
open Go Go.RowKit Go.Proofs.YtbcdfbiggjfmlaaDoorW.PrintWords Go.Proofs.YtbcdfbiggjfmlaaDoorW.PrintLast

theorem textO_size (x : S29) : (textO x).size ≤ 95 := by
  unfold textO
  by_cases h : okX x = true
  · rw [if_pos h]
    have h1 := textP_size x (okX_fm h).1
    have h2 := (okX_fm h).2
    omega
  · rw [if_neg h]
    exact Nat.zero_le _
theorem DrawExText_ev (l : List Int) (hl : l.length ≤ 9223372036854775807) (hw : ∀ x ∈ l, (Lit.int .u8 x).wf = true) : ∃ a : S29, Ev (fun k => spec_DrawExText.f k l) (a.f0, a.f1, a.f2, a.f3) ∧ allY a ≤ 1000 := by
  have hb := open_bytes hw
  obtain ⟨x, q, h1, h2, _, _⟩ := l2Bent_ev _ hb 0 (by omega) (by omega)
  have ho : Ev (fun _ => spec_l14Open.f l) (l.take 2000, (0 : Int)) := Ev.one (fun _ => l14Open_is l hl)
  refine ⟨x, ?_, h2⟩
  unfold spec_DrawExText.f
  exact Ev.bind ho (Ev.bind h1 (Ev.now _))
def pieces7 : List ByteArray := [(⟨#[]⟩ : ByteArray), (⟨#[32]⟩ : ByteArray), (⟨#[97, 32]⟩ : ByteArray), (⟨#[111, 114, 32]⟩ : ByteArray), (⟨#[49]⟩ : ByteArray), (⟨#[32, 98]⟩ : ByteArray), (⟨#[112, 108, 117, 115, 32]⟩ : ByteArray)]
theorem of_ev (bs : List Int) (hb : Bytes bs) (p : Int) (h0 : 0 ≤ p) (h1 : p ≤ 1000000) : ∃ w : ByteArray, Ev (fun k => spec_l14Rd_of.f k bs p pieces7) (w, p + 1) ∧ w.size ≤ 5 := by
  obtain ⟨r, hr, h2, h3⟩ := pick_ev bs hb p 7 h0 h1
  have h7 : ((pieces7.length : Nat) : Int) = 7 := rfl
  refine ⟨rdOf ByteArray.empty pieces7 r, ?_, ?_⟩
  · unfold spec_l14Rd_of.f
    rw [h7]
    exact Ev.bind hr (Ev.pos h2 (Ev.pos (by omega) (Ev.now _)))
  · have : r = 0 ∨ r = 1 ∨ r = 2 ∨ r = 3 ∨ r = 4 ∨ r = 5 ∨ r = 6 := by omega
    rcases this with rfl | rfl | rfl | rfl | rfl | rfl | rfl <;> decide +kernel
theorem torn_ev (bs : List Int) (hb : Bytes bs) (s : ByteArray) (hs : s.size ≤ 1000) (h1 : 1 ≤ s.size) (p : Int) (p0 : 0 ≤ p) (p1 : p ≤ 900000) (b : Bool) : ∃ t : ByteArray, Ev (fun k => spec_DrawExRead.j0 k s b bs p) t ∧ t.size ≤ 10000 := by
  cases b with
  | true => exact ⟨s, Ev.last (fun k => by simp only [spec_DrawExRead.j0]; rw [if_pos trivial]), by omega⟩
  | false =>
    obtain ⟨r, hr, r0, r1⟩ := pick_ev bs hb p (s.size : Int) p0 (by omega)
    obtain ⟨w, hw, hw5⟩ := of_ev bs hb (p + 1) (by omega) (by omega)
    obtain ⟨q, hq, q0, q1⟩ := pick_ev bs hb (p + 1 + 1) 2 (by omega) (by omega)
    have wq : wrap64 (r + q) = r + q := w_small (by omega) (by omega)
    have z1 : (s.extract 0 r.toNat).size ≤ 1000 := by rw [ByteArray.size_extract]; omega
    have z2 : (s.extract (r + q).toNat s.size).size ≤ 1000 := by rw [ByteArray.size_extract]; omega
    refine ⟨(s.extract 0 r.toNat ++ w) ++ s.extract (r + q).toNat s.size, ?_, by rw [ByteArray.size_append, ByteArray.size_append]; omega⟩
    refine Ev.step (fun k => by simp only [spec_DrawExRead.j0]; rw [if_neg (by decide)]) ?_
    refine Ev.bind hr (Ev.pos r0 (Ev.pos (show r ≤ (s.size : Int) by omega) (Ev.bind hw (Ev.pos (show (s.extract 0 r.toNat).size + w.size ≤ 9223372036854775807 by omega) (Ev.bind hq ?_)))))
    simp only [wq]
    exact Ev.pos (show (0 : Int) ≤ r + q by omega) (Ev.pos (show r + q ≤ (s.size : Int) by omega) (Ev.pos (show (s.extract 0 r.toNat ++ w).size + (s.extract (r + q).toNat s.size).size ≤ 9223372036854775807 by rw [ByteArray.size_append]; omega) (Ev.now _)))
theorem DrawExRead_ev (l : List Int) (hl : l.length ≤ 9223372036854775807) (hw : ∀ x ∈ l, (Lit.int .u8 x).wf = true) : ∃ t : ByteArray, Ev (fun k => spec_DrawExRead.f k l) t ∧ t.size ≤ 10000 := by
  have hb := open_bytes hw
  obtain ⟨x, q, h1, h2, h3, h4⟩ := l2Bent_ev _ hb 0 (by omega) (by omega)
  have ho : Ev (fun _ => spec_l14Open.f l) (l.take 2000, (0 : Int)) := Ev.one (fun _ => l14Open_is l hl)
  have hs := textO_size x
  unfold spec_DrawExRead.f
  by_cases h0 : (textO x).size = 0
  · refine ⟨textO x, Ev.bind ho (Ev.bind h1 (Ev.bind (spec_ExText_ev x (by omega)) (Ev.pos (by omega) ?_))), by omega⟩
    exact Ev.last (fun k => by simp only [spec_DrawExRead.j0]; rw [if_pos trivial])
  · obtain ⟨r, hr, _, _⟩ := pick_ev _ hb q 2 (by omega) (by omega)
    obtain ⟨t, ht, ht2⟩ := torn_ev _ hb (textO x) (by omega) (by omega) (q + 1) (by omega) (by omega) (r == 0)
    exact ⟨t, Ev.bind ho (Ev.bind h1 (Ev.bind (spec_ExText_ev x (by omega)) (Ev.neg (by omega) (Ev.bind hr ht)))), ht2⟩
theorem j1_read (l : List Int) (hl : l.length ≤ 9223372036854775807) (hw : ∀ x ∈ l, (Lit.int .u8 x).wf = true) : Ev (fun k => laws_FnEx.j1 k l false) true := by
  obtain ⟨t, ht, ht2⟩ := DrawExRead_ev l hl hw
  obtain ⟨z, b, e1, e2, e3, e4, _⟩ := read_same t (by omega)
  refine Ev.step (fun k => by simp only [laws_FnEx.j1]; rw [if_neg (by decide)]) ?_
  refine Ev.bind ht (Ev.bind e2 (Ev.bind e1 (Ev.pos (by simp) ?_)))
  cases b with
  | false => exact Ev.neg (show ¬ (false = true) by decide) (Ev.now _)
  | true =>
    obtain ⟨o1, o2⟩ := e3 rfl
    refine Ev.pos rfl (Ev.bind (impl_ExText_ev z (by omega)) (Ev.pos ?_ (Ev.bind (impl_ExOk_ev z (by omega)) (Ev.val (Ev.now _) o1))))
    unfold textO
    rw [if_pos o1, o2]
theorem FnEx_pure (l0 : List Int) (h0 : l0.length ≤ maxLen ∧ ∀ y ∈ l0, (Lit.int .u8 y).wf = true) (_ : l0.length * 1 ≤ 140737488351232) (l1 : List Int) (h1 : l1.length ≤ maxLen ∧ ∀ y ∈ l1, (Lit.int .u8 y).wf = true) (_ : l1.length * 1 ≤ 140737488351232) : ∃ k, laws_FnEx.f k l0 l1 = some true := by
  refine Ev.rounds (g := fun k => laws_FnEx.f k l0 l1) ?_
  have jt : Ev (fun k => laws_FnEx.j0 k l0 l1 true) true := Ev.last (fun k => by simp only [laws_FnEx.j0]; rw [if_pos trivial])
  unfold laws_FnEx.f
  by_cases c : (l0.length : Int) > 1048576
  · exact Ev.pos c jt
  refine Ev.neg c ?_
  by_cases c1 : (l1.length : Int) > 1048576
  · rw [decide_eq_true c1]; exact jt
  rw [decide_eq_false c1]
  obtain ⟨x, hx, ha⟩ := DrawExText_ev l0 (maxLen_le h0.1) h0.2
  have hsz := textO_size x
  obtain ⟨y, b, e1, e2, e3, e4, e5⟩ := read_same (textO x) (by omega)
  have hread := j1_read l1 (maxLen_le h1.1) h1.2
  have hb : b = okX x := by
    by_cases hk : okX x = true
    · rw [hk]
      exact e5 ⟨x, hk, by unfold textO; rw [if_pos hk]⟩
    have hk' : okX x = false := by simpa using hk
    rw [hk']
    cases hb : b with
    | false => rfl
    | true =>
      exfalso
      obtain ⟨o1, o2⟩ := e3 hb
      have e6 : textO x = ⟨#[]⟩ := by unfold textO; rw [if_neg hk]
      rw [e6] at o2
      have f1 := (okX_fm o1).1
      have h3 := text_join y f1
      have h4 : txL y = [] := by unfold txL; rw [o2]; rfl
      rw [h4, wdsX_is] at h3
      simp only [joinL] at h3
      have h5 := (List.append_eq_nil_iff.1 h3.symm).1
      obtain ⟨g1, _⟩ := fmY_parts f1
      by_cases q1 : y.f0 = 1
      · have := (hd_letter g1 q1).2
        rw [h5] at this
        cases this
      have := (hd_kind g1 q1).1
      rw [h5] at this
      have q : kdW (mkB []) = 0 := by decide +kernel
      rw [q] at this
      have := (okN_cases g1).1
      omega
  subst hb
  refine Ev.step (fun k => by simp only [laws_FnEx.j0]; rw [if_neg (by decide)]) ?_
  refine Ev.bind hx (Ev.bind (impl_ExText_ev x (by omega)) (Ev.bind e2 (Ev.bind (spec_ExText_ev x (by omega)) (Ev.pos rfl (Ev.bind (impl_ExOk_ev x (by omega)) (Ev.bind (spec_ExOk_ev x (by omega)) ?_))))))
  refine Ev.neg (by simp) (Ev.bind (spec_ExOk_ev x (by omega)) (Ev.neg (by simp) ?_))
  by_cases hk : okX x = true
  · refine Ev.pos hk (Ev.bind (impl_same y x (by omega)) ?_)
    obtain ⟨o1, o2⟩ := e3 hk
    have : y = x := text_inj (okX_fm o1).1 (okX_fm hk).1 (by rw [o2]; unfold textO; rw [if_pos hk])
    have e7 : oneB y x = true := oneB_iff.2 this
    simp only [e7]
    exact hread
  · exact Ev.neg hk hread
end Go.Proofs.YtbcdfbiggjfmlaaDoor.M
