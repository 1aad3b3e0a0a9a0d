/- What the claim's law leans on: the program's functions, what they compute, and the law over plain values; no condition is asked. (Part 3 of 3.) -/
import Derived.Test.YtdljhokealbnnaaCLawsFnExactGraphMany2
import Derived.Lib.ItoaNum
namespace Go.Proofs.Ytdljhokealbnnaa.M
set_option linter.unusedVariables false
set_option linter.unusedSimpArgs false
open Go.RowKit Go.Proofs.YtdljhokealbnnaaW.PrintWords Go.Proofs.YtdljhokealbnnaaW.PrintLast

theorem nDigits_le (n : Nat) : Lib.nDigits n ≤ n / 10 + 2 := by
  induction n using Nat.strongRecOn with
  | _ n ih =>
    by_cases h : n < 10
    · rw [Lib.nDigits_small h]; omega
    · have := ih (n / 10) (by omega)
      rw [Lib.nDigits_big h]; omega
theorem ba_cons (c : UInt8) (l : List UInt8) (x : ByteArray) : (⟨(l ++ [c]).toArray⟩ : ByteArray) ++ x = (⟨l.toArray⟩ : ByteArray) ++ ((⟨#[c]⟩ : ByteArray) ++ x) := by
  apply ByteArray.ext
  simp [ByteArray.data_append]
theorem digit_is (d : Nat) (h : d < 10) : strOfNums [wrap64 (48 + (d : Int)) % 256] = (⟨#[UInt8.ofNat (48 + d)]⟩ : ByteArray) := by
  rw [w_small (by omega) (by omega)]
  have : d = 0 ∨ d = 1 ∨ d = 2 ∨ d = 3 ∨ d = 4 ∨ d = 5 ∨ d = 6 ∨ d = 7 ∨ d = 8 ∨ d = 9 := by omega
  rcases this with rfl | rfl | rfl | rfl | rfl | rfl | rfl | rfl | rfl | rfl <;> rfl
theorem l14Dec_l0 : ∀ (n : Nat) (x : ByteArray), x.size + Lib.nDigits n ≤ 9223372036854775807 → n ≤ 9223372036854775807 → Ev (fun k => spec_l14Dec.l0 k (n : Int) x) ((⟨(Lib.decDigits n).toArray⟩ : ByteArray) ++ x) := by
  intro n
  induction n using Nat.strongRecOn with
  | _ n ih =>
    intro x hx hn
    have one : ∀ c : UInt8, (⟨#[c]⟩ : ByteArray).size = 1 := fun _ => rfl
    by_cases h : n < 10
    · rw [Lib.nDigits_small h] at hx
      rw [Lib.decDigits_one h]
      exact Ev.last (fun k => by simp only [spec_l14Dec.l0]; rw [if_neg (by omega), Option.bind_some, digit_is n h, one, if_pos (by omega)])
    rw [Lib.nDigits_big h] at hx
    have hd : Int.tmod (n : Int) 10 = ((n % 10 : Nat) : Int) := by rw [Int.tmod_eq_emod_of_nonneg (by omega)]; omega
    have hq : wrap64 (Int.tdiv (n : Int) 10) = ((n / 10 : Nat) : Int) := by rw [Int.tdiv_eq_ediv_of_nonneg (by omega), w_small (by omega) (by omega)]; omega
    rw [Lib.decDigits, dif_neg h, ba_cons]
    refine Ev.step (fun k => by simp only [spec_l14Dec.l0]; rw [if_pos (by omega), hd, Option.bind_some, digit_is _ (by omega), one, if_pos (by omega), hq]) (ih (n / 10) (by omega) _ ?_ (by omega))
    rw [ByteArray.size_append, one]
    omega
theorem l14Dec_ev (a : Int) (h0 : -9223372036854775808 ≤ a) (h1 : a ≤ 9223372036854775807) : Ev (fun k => spec_l14Dec.f k a) (itoaB a) := by
  have pos : ∀ a : Int, 0 ≤ a → a ≤ 9223372036854775807 → Ev (fun k => spec_l14Dec.f k a) (itoaB a) := by
    intro a g0 g1
    obtain ⟨n, rfl⟩ := Int.eq_ofNat_of_zero_le g0
    have hd := nDigits_le n
    have := l14Dec_l0 n ⟨#[]⟩ (by show 0 + _ ≤ _; omega) (by omega)
    refine Ev.step (fun k => by simp only [spec_l14Dec.f]; rw [if_neg (by omega), if_neg (by omega)]) (Ev.val this ?_)
    unfold itoaB Lib.itoa
    rw [if_neg (by omega)]
    apply ByteArray.ext
    simp [ByteArray.data_append]
  by_cases hp : 0 ≤ a
  · exact pos a hp h1
  by_cases hm : a < -9223372036854775807
  · have : a = -9223372036854775808 := by omega
    subst this
    refine Ev.step (f := fun _ => some _) (fun k => by simp only [spec_l14Dec.f]; rw [if_pos (by omega)]) (Ev.val (Ev.now _) ?_)
    unfold itoaB Lib.itoa
    rw [if_pos (by omega)]
    simp [Lib.decDigits]
  have hn := pos (-a) (by omega) (by omega)
  have hw : wrap64 (-a) = -a := w_small (by omega) (by omega)
  refine Ev.step (fun k => by simp only [spec_l14Dec.f]; rw [if_neg hm, if_pos (by omega), hw]) ?_
  refine Ev.bind hn ?_
  have hs : (itoaB (-a)).size = Lib.nDigits (-a).toNat := by
    unfold itoaB Lib.itoa
    rw [if_neg (by omega)]
    show ((Lib.decDigits _).toArray).size = _
    rw [List.size_toArray, Lib.decDigits_length]
  have hd := nDigits_le (-a).toNat
  refine Ev.pos (by omega) (Ev.val (Ev.now _) ?_)
  unfold itoaB Lib.itoa
  rw [if_neg (by omega), if_pos (by omega)]
  apply ByteArray.ext
  simp [ByteArray.data_append, show a.natAbs = (-a).toNat by omega]
theorem itoaB_dec (n : Int) (h : 0 ≤ n) : itoaB n = ⟨(Lib.decDigits n.toNat).toArray⟩ := by unfold itoaB Lib.itoa; rw [if_neg (by omega)]
def exW : List ByteArray := [⟨#[]⟩, ⟨#[]⟩, ⟨#[111, 114]⟩, ⟨#[97, 110, 100]⟩, ⟨#[115, 101, 113]⟩, ⟨#[110, 111, 116]⟩, ⟨#[101, 97, 99, 104]⟩, ⟨#[112, 108, 117, 115]⟩]
def letB (a : Int) : ByteArray := (⟨#[97, 98, 99, 100, 101]⟩ : ByteArray).extract a.toNat (wrap64 (a + 1)).toNat
def decB (a : Int) : ByteArray := ⟨(Lib.decDigits a.toNat).toArray⟩
mutual
def textP : S37 → ByteArray
  | ⟨a, b, n, l⟩ => if a = 1 then letB b else (if a = 7 then rdOf ByteArray.empty exW a ++ ((⟨#[32]⟩ : ByteArray) ++ decB n) else rdOf ByteArray.empty exW a) ++ textsP l
def textsP : List S37 → ByteArray
  | [] => ByteArray.empty
  | x :: xs => ((⟨#[32]⟩ : ByteArray) ++ textP x) ++ textsP xs
end
theorem textP_is (x : S37) : textP x = if x.f0 = 1 then letB x.f1 else (if x.f0 = 7 then rdOf ByteArray.empty exW x.f0 ++ ((⟨#[32]⟩ : ByteArray) ++ decB x.f2) else rdOf ByteArray.empty exW x.f0) ++ textsP x.f3 := by cases x; simp only [textP]
theorem textsP_nil : textsP [] = ByteArray.empty := by simp only [textsP]
theorem textsP_cons (x : S37) (l : List S37) : textsP (x :: l) = ((⟨#[32]⟩ : ByteArray) ++ textP x) ++ textsP l := by simp only [textsP]
def headP (x : S37) : ByteArray := if x.f0 = 7 then rdOf ByteArray.empty exW x.f0 ++ ((⟨#[32]⟩ : ByteArray) ++ decB x.f2) else rdOf ByteArray.empty exW x.f0
theorem okN_cases {a b c : Int} {n : Nat} (h : okN a b c n = true) : 1 ≤ a ∧ a ≤ 7 ∧ kidsOf a = n ∧ (a = 1 → 0 ≤ b ∧ b ≤ 4 ∧ n = 0) ∧ (a ≠ 1 → b = 0) ∧ (a = 7 → 1 ≤ c ∧ c ≤ 20) ∧ (a ≠ 7 → c = 0) := by
  unfold okN at h
  simp only [Bool.and_eq_true, decide_eq_true_eq] at h
  obtain ⟨⟨h1, h2⟩, h3⟩ := h
  have h0 : 1 ≤ a ∧ a ≤ 7 := Decidable.byContradiction (fun q => by rw [kidsOf_out q] at h1; omega)
  refine ⟨h0.1, h0.2, h1, fun e => ?_, fun e => ?_, fun e => ?_, fun e => ?_⟩
  · rw [if_pos e] at h2
    have := of_decide_eq_true h2
    refine ⟨this.1, this.2, ?_⟩
    subst e
    have : kidsOf 1 = 0 := rfl
    omega
  · rw [if_neg e] at h2
    exact of_decide_eq_true h2
  · rw [if_pos e] at h3
    exact of_decide_eq_true h3
  · rw [if_neg e] at h3
    exact of_decide_eq_true h3
theorem fmsY_mem {l : List S37} (h : fmsY l = true) : ∀ y ∈ l, fmY y = true := by
  induction l with
  | nil => intro y hy; simp at hy
  | cons x l ih =>
    intro y hy
    rw [fmsY_cons, Bool.and_eq_true] at h
    rcases List.mem_cons.1 hy with rfl | hy
    · exact h.1
    · exact ih h.2 y hy
theorem fmY_parts {x : S37} (h : fmY x = true) : okN x.f0 x.f1 x.f2 x.f3.length = true ∧ ∀ y ∈ x.f3, fmY y = true := by
  rw [fmY_is, Bool.and_eq_true] at h
  exact ⟨h.1, fmsY_mem h.2⟩
theorem word_size (a : Int) (h0 : 0 ≤ a) (h8 : a < 8) : (rdOf ByteArray.empty exW a).size ≤ 4 := by
  have : a = 0 ∨ a = 1 ∨ a = 2 ∨ a = 3 ∨ a = 4 ∨ a = 5 ∨ a = 6 ∨ a = 7 := by omega
  rcases this with rfl | rfl | rfl | rfl | rfl | rfl | rfl | rfl <;> decide +kernel
theorem letB_size (b : Int) (h0 : 0 ≤ b) (h4 : b ≤ 4) : (letB b).size = 1 := by
  have : b = 0 ∨ b = 1 ∨ b = 2 ∨ b = 3 ∨ b = 4 := by omega
  rcases this with rfl | rfl | rfl | rfl | rfl <;> decide +kernel
theorem decB_size (n : Int) (h1 : 0 ≤ n) (h2 : n < 100) : (decB n).size ≤ 2 := by
  unfold decB
  show (Lib.decDigits n.toNat).toArray.size ≤ 2
  rw [List.size_toArray]
  by_cases h : n.toNat < 10
  · rw [Lib.decDigits_one h]; simp
  · rw [Lib.decDigits_two h (by omega)]; simp
theorem textsP_size (l : List S37) (h : ∀ x ∈ l, (textP x).size + 1 ≤ 8 * manyY x) : (textsP l).size ≤ 8 * manysY l := by
  induction l with
  | nil => rw [textsP_nil]; simp [ByteArray.size_empty]
  | cons x l ih =>
    have h1 := h x (by simp)
    have h2 := ih (fun y hy => h y (by simp [hy]))
    rw [textsP_cons, manysY_cons, ByteArray.size_append, ByteArray.size_append, show (⟨#[32]⟩ : ByteArray).size = 1 from rfl]
    omega
theorem textP_size : ∀ x : S37, fmY x = true → (textP x).size + 1 ≤ 8 * manyY x := by
  refine indI (fun x ih h => ?_)
  obtain ⟨h1, h2⟩ := fmY_parts h
  obtain ⟨a1, a7, _, hb, _, hc, _⟩ := okN_cases h1
  have h3 := textsP_size x.f3 (fun y hy => ih y hy (h2 y hy))
  have h4 := word_size x.f0 (by omega) (by omega)
  rw [textP_is, manyY_is]
  by_cases e : x.f0 = 1
  · rw [if_pos e, letB_size x.f1 (hb e).1 (hb e).2.1]
    omega
  rw [if_neg e]
  by_cases e7 : x.f0 = 7
  · have h5 := decB_size x.f2 (by have := hc e7; omega) (by have := hc e7; omega)
    rw [if_pos e7, ByteArray.size_append, ByteArray.size_append, ByteArray.size_append, show (⟨#[32]⟩ : ByteArray).size = 1 from rfl]
    omega
  · rw [if_neg e7, ByteArray.size_append]
    omega
theorem sp_size : (⟨#[32]⟩ : ByteArray).size = 1 := rfl
theorem l1Letter_is (a : Int) (h0 : 0 ≤ a) (h1 : a ≤ 4) : spec_l1Letter.f a = some (letB a) := by
  have hw : wrap64 (a + 1) = a + 1 := w_small (by omega) (by omega)
  unfold spec_l1Letter.f letB
  rw [hw, if_neg (by omega), if_neg (by omega), if_pos h0, if_pos (by omega), if_pos (by omega)]
def STextOk (x : S37) : Prop := fmY x = true → Ev (fun k => spec_l2Text.f k x.f0 x.f1 x.f2 x.f3) (textP x)
theorem stext_l0_ev (l : List S37) (hl : l.length ≤ 1048576) (hs : ∀ x ∈ l, STextOk x) (hf : ∀ x ∈ l, fmY x = true) (a b c : Int) : ∀ (d n : Nat) (t : ByteArray), n + d = l.length → t.size + (textsP (l.drop n)).size ≤ 1000000000 → Ev (fun k => spec_l2Text.l0 k t (n : Int) a b c l) (t ++ textsP (l.drop n)) := by
  intro d
  induction d with
  | zero =>
    intro n t hn hz
    rw [List.drop_of_length_le (by omega), textsP_nil]
    exact Ev.last (fun k => by simp only [spec_l2Text.l0]; rw [if_neg (by omega)]; simp)
  | succ d ih =>
    intro n t hn hz
    have hx : STextOk l[n] := hs _ (List.getElem_mem _)
    have hd := List.drop_eq_getElem_cons (l := l) (i := n) (by omega)
    rw [hd, textsP_cons, ByteArray.size_append, ByteArray.size_append, sp_size] at hz
    have hz2 : (t ++ (⟨#[32]⟩ : ByteArray)).size + (textP l[n]).size ≤ 9223372036854775807 := by rw [ByteArray.size_append, sp_size]; omega
    refine Ev.step (fun k => by simp only [spec_l2Text.l0]; rw [if_pos (by omega), if_pos (by omega), if_pos (by omega), rdI l n (by omega), w_succ (by omega)]) ?_
    refine Ev.bind (hx (hf _ (List.getElem_mem _))) (Ev.pos hz2 (Ev.val (ih (n + 1) _ (by omega) ?_) ?_))
    · rw [ByteArray.size_append, ByteArray.size_append, sp_size]; omega
    · rw [hd, textsP_cons]
      apply ByteArray.ext
      simp [ByteArray.data_append]
theorem stext_ev : ∀ x : S37, allY x ≤ 1048576 → STextOk x := by
  refine indI (fun x ih g h => ?_)
  obtain ⟨h1, h2⟩ := fmY_parts h
  obtain ⟨a1, a7, _, hb, _, hc, _⟩ := okN_cases h1
  have hk : ∀ y ∈ x.f3, STextOk y := fun y hy => ih y hy (by have := allY_mem hy; omega)
  have hl : x.f3.length ≤ 1048576 := by have := allY_len (x := x); omega
  have hz := textP_size x h
  have hm := manyY_all x
  have h4 := word_size x.f0 (by omega) (by omega)
  have hwd : spec_l2Words.f = some exW := rfl
  by_cases e : x.f0 = 1
  · rw [show textP x = letB x.f1 from by rw [textP_is, if_pos e]]
    refine Ev.last (fun k => ?_)
    simp only [spec_l2Text.f]
    rw [if_pos e, l1Letter_is x.f1 (hb e).1 (hb e).2.1]
    rfl
  have ht : textP x = headP x ++ textsP x.f3 := by rw [textP_is, if_neg e]; rfl
  rw [ht, ByteArray.size_append] at hz
  have loop : Ev (fun k => spec_l2Text.j0 k (headP x) x.f0 x.f1 x.f2 x.f3) (headP x ++ textsP x.f3) := by
    refine Ev.step (fun k => by simp only [spec_l2Text.j0]; rfl) ?_
    exact stext_l0_ev x.f3 hl hk h2 x.f0 x.f1 x.f2 x.f3.length 0 (headP x) (by omega) (by rw [List.drop_zero]; omega)
  rw [ht]
  have len8 : ((exW.length : Nat) : Int) = 8 := rfl
  refine Ev.step (fun k => by simp only [spec_l2Text.f]; rw [if_neg e, hwd, Option.bind_some, if_pos (by omega), if_pos (by rw [len8]; omega)]) ?_
  by_cases e7 : x.f0 = 7
  · have hd := l14Dec_ev x.f2 (by have := hc e7; omega) (by have := hc e7; omega)
    rw [itoaB_dec _ (by have := hc e7; omega)] at hd
    have hh : headP x = rdOf ByteArray.empty exW x.f0 ++ (⟨#[32]⟩ : ByteArray) ++ decB x.f2 := by
      unfold headP
      rw [if_pos e7]
      apply ByteArray.ext
      simp [ByteArray.data_append]
    have h5 := decB_size x.f2 (by have := hc e7; omega) (by have := hc e7; omega)
    have g2 : (rdOf ByteArray.empty exW x.f0 ++ (⟨#[32]⟩ : ByteArray)).size + (decB x.f2).size ≤ 9223372036854775807 := by rw [ByteArray.size_append, sp_size]; omega
    refine Ev.pos e7 (Ev.pos (by omega) (Ev.bind hd (Ev.pos g2 (Ev.val ?_ rfl))))
    rw [hh] at loop ⊢
    exact loop
  · rw [show headP x = rdOf ByteArray.empty exW x.f0 from if_neg e7] at loop ⊢
    exact Ev.neg e7 loop
theorem okX_fm {x : S37} (h : okX x = true) : fmY x = true ∧ manyY x ≤ 12 := by
  unfold okX at h
  simp only [Bool.and_eq_true, decide_eq_true_eq] at h
  exact ⟨h.1.1, h.2⟩
def Gap (r : List UInt8) : Prop := r = [] ∨ ∃ s, r = 32 :: s
theorem word_cut : ∀ (a b r s : List UInt8), (∀ c ∈ a, c ≠ 32) → (∀ c ∈ b, c ≠ 32) → Gap r → Gap s → a ++ r = b ++ s → a = b ∧ r = s
  | [], [], _, _, _, _, _, _, h => ⟨rfl, h⟩
  | [], c :: b, r, s, _, hb, hr, _, h => by
    exfalso
    rcases hr with rfl | ⟨t, rfl⟩
    · simp at h
    · simp only [List.nil_append, List.cons_append, List.cons.injEq] at h
      exact hb c (by simp) h.1.symm
  | c :: a, [], r, s, ha, _, _, hs, h => by
    exfalso
    rcases hs with rfl | ⟨t, rfl⟩
    · simp at h
    · simp only [List.nil_append, List.cons_append, List.cons.injEq] at h
      exact ha c (by simp) h.1
  | c :: a, d :: b, r, s, ha, hb, hr, hs, h => by
    simp only [List.cons_append, List.cons.injEq] at h
    obtain ⟨h1, h2⟩ := word_cut a b r s (fun x hx => ha x (by simp [hx])) (fun x hx => hb x (by simp [hx])) hr hs h.2
    exact ⟨by rw [h.1, h1], h2⟩
def bL (b : ByteArray) : List UInt8 := b.data.toList
theorem bL_append (a b : ByteArray) : bL (a ++ b) = bL a ++ bL b := by unfold bL; rw [ByteArray.data_append, Array.toList_append]
theorem bL_sp : bL (⟨#[32]⟩ : ByteArray) = [32] := rfl
def hdW (x : S37) : List UInt8 := if x.f0 = 1 then bL (letB x.f1) else bL (rdOf ByteArray.empty exW x.f0)
def numW (x : S37) : List UInt8 := if x.f0 = 7 then 32 :: Lib.decDigits x.f2.toNat else []
def txL (x : S37) : List UInt8 := bL (textP x)
def txsL (l : List S37) : List UInt8 := bL (textsP l)
theorem txsL_nil : txsL [] = [] := by unfold txsL; rw [textsP_nil]; rfl
theorem txsL_cons (x : S37) (l : List S37) : txsL (x :: l) = 32 :: (txL x ++ txsL l) := by
  unfold txsL txL
  rw [textsP_cons, bL_append, bL_append, bL_sp]
  simp
theorem txL_is (x : S37) (h : fmY x = true) : txL x = hdW x ++ (numW x ++ txsL x.f3) := by
  obtain ⟨h1, _⟩ := fmY_parts h
  obtain ⟨_, _, _, hb, _, _, _⟩ := okN_cases h1
  unfold txL hdW numW
  rw [textP_is]
  by_cases e : x.f0 = 1
  · have h0 : x.f3 = [] := List.length_eq_zero_iff.1 (hb e).2.2
    rw [if_pos e, if_pos e, if_neg (by omega), h0, txsL_nil]
    simp
  rw [if_neg e, if_neg e]
  by_cases e7 : x.f0 = 7
  · rw [if_pos e7, if_pos e7, bL_append, bL_append, bL_append, bL_sp]
    show (_ ++ ([32] ++ (Lib.decDigits x.f2.toNat).toArray.toList)) ++ _ = _
    simp [txsL]
  · rw [if_neg e7, if_neg e7, bL_append]
    simp [txsL]
theorem hdW_word {x : S37} (h : okN x.f0 x.f1 x.f2 x.f3.length = true) : ∀ c ∈ hdW x, c ≠ 32 := by
  obtain ⟨a1, a7, _, hb, _, _, _⟩ := okN_cases h
  unfold hdW
  by_cases e : x.f0 = 1
  · rw [if_pos e]
    obtain ⟨b0, b4, _⟩ := hb e
    have : x.f1 = 0 ∨ x.f1 = 1 ∨ x.f1 = 2 ∨ x.f1 = 3 ∨ x.f1 = 4 := by omega
    rcases this with q | q | q | q | q <;> rw [q] <;> decide +kernel
  · rw [if_neg e]
    have : x.f0 = 2 ∨ x.f0 = 3 ∨ x.f0 = 4 ∨ x.f0 = 5 ∨ x.f0 = 6 ∨ x.f0 = 7 := by omega
    rcases this with q | q | q | q | q | q <;> rw [q] <;> decide +kernel
theorem hdW_inj {x y : S37} (hx : okN x.f0 x.f1 x.f2 x.f3.length = true) (hy : okN y.f0 y.f1 y.f2 y.f3.length = true) (h : hdW x = hdW y) : x.f0 = y.f0 ∧ x.f1 = y.f1 := by
  obtain ⟨a1, a7, _, hb, hb', _, _⟩ := okN_cases hx
  obtain ⟨c1, c7, _, hd, hd', _, _⟩ := okN_cases hy
  have two : ∀ a : Int, 2 ≤ a → a ≤ 7 → 2 ≤ (bL (rdOf ByteArray.empty exW a)).length := by
    intro a h2 h7
    have : a = 2 ∨ a = 3 ∨ a = 4 ∨ a = 5 ∨ a = 6 ∨ a = 7 := by omega
    rcases this with q | q | q | q | q | q <;> rw [q] <;> decide +kernel
  have one : ∀ b : Int, 0 ≤ b → b ≤ 4 → (bL (letB b)).length = 1 := by
    intro b h0 h4
    have : b = 0 ∨ b = 1 ∨ b = 2 ∨ b = 3 ∨ b = 4 := by omega
    rcases this with q | q | q | q | q <;> rw [q] <;> decide +kernel
  unfold hdW at h
  by_cases e : x.f0 = 1
  · obtain ⟨b0, b4, _⟩ := hb e
    rw [if_pos e] at h
    have l1 := one x.f1 b0 b4
    by_cases e' : y.f0 = 1
    · obtain ⟨d0, d4, _⟩ := hd e'
      rw [if_pos e'] at h
      refine ⟨by omega, ?_⟩
      have p : x.f1 = 0 ∨ x.f1 = 1 ∨ x.f1 = 2 ∨ x.f1 = 3 ∨ x.f1 = 4 := by omega
      have q : y.f1 = 0 ∨ y.f1 = 1 ∨ y.f1 = 2 ∨ y.f1 = 3 ∨ y.f1 = 4 := by omega
      rcases p with p | p | p | p | p <;> rcases q with q | q | q | q | q <;> rw [p, q] at h <;> first | (exact absurd h (by decide +kernel)) | (rw [p, q])
    · rw [if_neg e'] at h
      have := two y.f0 (by omega) c7
      rw [h] at l1
      omega
  · rw [if_neg e] at h
    by_cases e' : y.f0 = 1
    · obtain ⟨d0, d4, _⟩ := hd e'
      rw [if_pos e'] at h
      have l1 := one y.f1 d0 d4
      have := two x.f0 (by omega) a7
      rw [h] at this
      omega
    · rw [if_neg e'] at h
      refine ⟨?_, by rw [hb' e, hd' e']⟩
      have p : x.f0 = 2 ∨ x.f0 = 3 ∨ x.f0 = 4 ∨ x.f0 = 5 ∨ x.f0 = 6 ∨ x.f0 = 7 := by omega
      have q : y.f0 = 2 ∨ y.f0 = 3 ∨ y.f0 = 4 ∨ y.f0 = 5 ∨ y.f0 = 6 ∨ y.f0 = 7 := by omega
      rcases p with p | p | p | p | p | p <;> rcases q with q | q | q | q | q | q <;> rw [p, q] at h <;> first | (exact absurd h (by decide +kernel)) | (rw [p, q])
theorem dec_word (n : Nat) (h : n < 100) : ∀ c ∈ Lib.decDigits n, c ≠ 32 := by
  have key : ∀ i : Nat, i < 10 → UInt8.ofNat (48 + i) ≠ 32 := by
    intro i hi
    have : i = 0 ∨ i = 1 ∨ i = 2 ∨ i = 3 ∨ i = 4 ∨ i = 5 ∨ i = 6 ∨ i = 7 ∨ i = 8 ∨ i = 9 := by omega
    rcases this with q | q | q | q | q | q | q | q | q | q <;> rw [q] <;> decide +kernel
  intro c hc
  by_cases h9 : n < 10
  · rw [Lib.decDigits_one h9] at hc
    rw [List.mem_singleton.1 hc]
    exact key n h9
  rw [Lib.decDigits_two h9 h] at hc
  rcases List.mem_cons.1 hc with rfl | hc
  · exact key _ (by omega)
  · rw [List.mem_singleton.1 hc]
    exact key _ (by omega)
theorem dec_inj {a b : Nat} (ha : a < 100) (hb : b < 100) (h : Lib.decDigits a = Lib.decDigits b) : a = b := by
  have key : ∀ i j : Nat, i < 10 → j < 10 → UInt8.ofNat (48 + i) = UInt8.ofNat (48 + j) → i = j := by
    intro i j hi hj e
    have := congrArg UInt8.toNat e
    simp only [UInt8.toNat_ofNat'] at this
    omega
  by_cases h9 : a < 10
  · by_cases g9 : b < 10
    · rw [Lib.decDigits_one h9, Lib.decDigits_one g9] at h
      simp only [List.cons.injEq, and_true] at h
      exact key _ _ h9 g9 h
    · rw [Lib.decDigits_one h9, Lib.decDigits_two g9 hb] at h
      simp at h
  by_cases g9 : b < 10
  · rw [Lib.decDigits_two h9 ha, Lib.decDigits_one g9] at h
    simp at h
  rw [Lib.decDigits_two h9 ha, Lib.decDigits_two g9 hb] at h
  simp only [List.cons.injEq, and_true] at h
  have := key _ _ (by omega) (by omega) h.1
  have := key _ _ (by omega) (by omega) h.2
  omega
theorem gap_txsL (l : List S37) {r : List UInt8} (h : Gap r) : Gap (txsL l ++ r) := by
  cases l with
  | nil => rw [txsL_nil]; exact h
  | cons x l => rw [txsL_cons]; exact .inr ⟨_, rfl⟩
theorem gap_num (x : S37) {r : List UInt8} (h : Gap r) : Gap (numW x ++ r) := by
  unfold numW
  by_cases e : x.f0 = 7
  · rw [if_pos e]; exact .inr ⟨_, rfl⟩
  · rw [if_neg e]; exact h
def CutOk (x : S37) : Prop := fmY x = true → ∀ (y : S37) (r s : List UInt8), fmY y = true → Gap r → Gap s → txL x ++ r = txL y ++ s → x = y ∧ r = s
theorem kids_cut : ∀ (l m : List S37) (r s : List UInt8), (∀ x ∈ l, CutOk x) → (∀ x ∈ l, fmY x = true) → (∀ y ∈ m, fmY y = true) → l.length = m.length → Gap r → Gap s → txsL l ++ r = txsL m ++ s → l = m ∧ r = s
  | [], [], _, _, _, _, _, _, _, _, h => by rw [txsL_nil] at h; exact ⟨rfl, h⟩
  | [], _ :: _, _, _, _, _, _, hn, _, _, _ => by simp at hn
  | _ :: _, [], _, _, _, _, _, hn, _, _, _ => by simp at hn
  | x :: l, y :: m, r, s, hc, hl, hm, hn, hr, hs, h => by
    rw [txsL_cons, txsL_cons, List.cons_append, List.cons_append, List.append_assoc, List.append_assoc] at h
    have h' := (List.cons.inj h).2
    obtain ⟨e1, e2⟩ := hc x (by simp) (hl x (by simp)) y _ _ (hm y (by simp)) (gap_txsL l hr) (gap_txsL m hs) h'
    obtain ⟨e3, e4⟩ := kids_cut l m r s (fun z hz => hc z (by simp [hz])) (fun z hz => hl z (by simp [hz])) (fun z hz => hm z (by simp [hz])) (by simpa using hn) hr hs e2
    exact ⟨by rw [e1, e3], e4⟩
theorem eta_T (x : S37) : (⟨x.f0, x.f1, x.f2, x.f3⟩ : S37) = x := by cases x; rfl
theorem cut_ok : ∀ x : S37, CutOk x := by
  refine indI (fun x ih hx y r s hy hr hs h => ?_)
  obtain ⟨x1, x2⟩ := fmY_parts hx
  obtain ⟨y1, y2⟩ := fmY_parts hy
  rw [txL_is x hx, txL_is y hy, List.append_assoc, List.append_assoc, List.append_assoc, List.append_assoc] at h
  obtain ⟨e1, h⟩ := word_cut _ _ _ _ (hdW_word x1) (hdW_word y1) (gap_num x (gap_txsL x.f3 hr)) (gap_num y (gap_txsL y.f3 hs)) h
  obtain ⟨k0, k1⟩ := hdW_inj x1 y1 e1
  obtain ⟨_, _, kx, _, _, cx, dx⟩ := okN_cases x1
  obtain ⟨_, _, ky, _, _, cy, dy⟩ := okN_cases y1
  have hn : x.f3.length = y.f3.length := by rw [k0] at kx; omega
  have h2 : x.f2 = y.f2 ∧ txsL x.f3 ++ r = txsL y.f3 ++ s := by
    unfold numW at h
    by_cases e7 : x.f0 = 7
    · have e7' : y.f0 = 7 := by omega
      rw [if_pos e7, if_pos e7', List.cons_append, List.cons_append] at h
      have qx := cx e7
      have qy := cy e7'
      obtain ⟨g1, g2⟩ := word_cut _ _ _ _ (dec_word _ (by omega)) (dec_word _ (by omega)) (gap_txsL x.f3 hr) (gap_txsL y.f3 hs) (List.cons.inj h).2
      have := dec_inj (by omega) (by omega) g1
      exact ⟨by omega, g2⟩
    · have e7' : ¬ y.f0 = 7 := by omega
      rw [if_neg e7, if_neg e7'] at h
      exact ⟨by rw [dx e7, dy e7'], h⟩
  obtain ⟨e3, e4⟩ := kids_cut x.f3 y.f3 r s ih x2 y2 hn hr hs h2.2
  refine ⟨?_, e4⟩
  rw [← eta_T x, ← eta_T y, k0, k1, h2.1, e3]
theorem text_inj {x y : S37} (hx : fmY x = true) (hy : fmY y = true) (h : textP x = textP y) : x = y :=
  (cut_ok x hx y [] [] hy (.inl rfl) (.inl rfl) (by unfold txL; rw [h])).1
end Go.Proofs.Ytdljhokealbnnaa.M
namespace Go.Proofs.Ytdljhokealbnnaa.M
set_option linter.unusedVariables false
set_option linter.unusedSimpArgs false
open Go Go.RowKit Go.Proofs.YtdljhokealbnnaaW.PrintWords Go.Proofs.YtdljhokealbnnaaW.PrintLast

theorem tok : ∀ x : S37, fmY x = true → allY x ≤ 1048576 → TOk textP x := by
  refine indI (fun x ih h ha => ?_)
  exact .mk x (Ev.rounds (stext_ev x ha h)) (fun y hy => ih y hy ((fmY_parts h).2 y hy) (by have := allY_mem hy; omega))
theorem tok_ok (x : S37) (h : okX x = true) : TOk textP x := by
  obtain ⟨h1, h2⟩ := okX_fm h
  have := manyY_all x
  exact tok x h1 (by omega)
theorem graph_same (x : S37) (h : okX x = true) : (addT textP x [] []).1 = (addX x []).1 := by
  obtain ⟨t, _, _, _, _, e⟩ := add_ok textP (fun x => fmY x = true) (fun a b ha hb => text_inj ha hb) (fun x hx => (fmY_parts hx).2) x [] [] GInv.nil (fun e he => by simp at he) (okX_fm h).1
  rw [List.map_nil] at e
  rw [e]
def graphF (x : S37) (mo : Int) : Option (Int × List S104 × Int × Int × Bool) := if allY x ≤ 1048576 then some (selB (graphB x mo) mo 0, selB (graphB x mo) (addX x []).1 [], 0, 0, false) else none
theorem graphF_is {x : S37} {mo r1 r3 r4 : Int} {r2 : List S104} {r5 : Bool} (h : graphF x mo = some (r1, r2, r3, r4, r5)) : allY x ≤ 1048576 ∧ r1 = selB (graphB x mo) mo 0 ∧ r2 = selB (graphB x mo) (addX x []).1 [] ∧ r3 = 0 ∧ r4 = 0 ∧ r5 = false := by
  unfold graphF at h
  by_cases c : allY x ≤ 1048576
  · rw [if_pos c] at h
    simp only [Option.some.injEq, Prod.mk.injEq] at h
    obtain ⟨a, b, d, e, f⟩ := h
    exact ⟨c, a.symm, b.symm, d.symm, e.symm, f.symm⟩
  · rw [if_neg c] at h
    cases h
theorem selB_same (x : S37) (mo : Int) : selB (graphB x mo) (addT textP x [] []).1 [] = selB (graphB x mo) (addX x []).1 [] := by
  cases h : graphB x mo with
  | false => rfl
  | true =>
    unfold graphB at h
    rw [Bool.and_eq_true] at h
    show (addT textP x [] []).1 = (addX x []).1
    exact graph_same x h.1
theorem field1 (t1 t3 t4 : Int) (t5 : Bool) (A : Option Addr) (n c : Nat) (w : World) : (Instr.field 63 (.agg #[.int .i64 t1, .slice A n c, .int .i64 t3, .int .i64 t4, .bool t5]) 1).run Try.prog w = .ok (.slice A n c) w := by
  kernel_rfl
end Go.Proofs.Ytdljhokealbnnaa.M
namespace Go.Proofs.Ytdljhokealbnnaa.M
open Go.RowKit Go.Proofs.YtdljhokealbnnaaW.PrintWords Go.Proofs.YtdljhokealbnnaaW.PrintLast Go.Proofs.YtdljhokealbnnaaW.PrintMore
attribute [local go_sem] max2_int min2_int max_two min_two max_three min_three max_four min_four
set_option linter.unusedVariables false
set_option linter.unusedSimpArgs false

def spec_GraphOf.f (a0_0 : Int) (a0_1 : Int) (a0_2 : Int) (l0_3 : List (S37)) (a1 : Int) : Option (Int × (List (S104)) × Int × Int × Bool) := graphF ⟨a0_0, a0_1, a0_2, l0_3⟩ a1
theorem spec_GraphOf.calls (a0_0 : Int) (a0_1 : Int) (a0_2 : Int) (A0_3 : Option Addr) (c0_3 : Nat) (l0_3 : List (S37)) (a1 : Int) (r1 : Int) (r2 : List (S104)) (r3 : Int) (r4 : Int) (r5 : Bool) (w : World) (hr0_3 : Kd.C k37 w A0_3 l0_3.length l0_3) (hc0_3 : l0_3.length ≤ c0_3) (h : spec_GraphOf.f a0_0 a0_1 a0_2 l0_3 a1 = some (r1, r2, r3, r4, r5)) :
  Calls Try.prog 38 #[.agg #[.int .i64 a0_0, .int .i64 a0_1, .int .i64 a0_2, .slice A0_3 l0_3.length c0_3], .int .i64 a1] w fun e w' => ∃ v1_ : Value, e = .returned (.agg #[.int .i64 r1, v1_, .int .i64 r3, .int .i64 r4, .bool r5]) ∧ Kd.S k104 104 w' w.heap.size (fun _ => True) v1_ r2 ∧ Below w.heap.size w w' := by
 obtain ⟨ha, rfl, rfl, rfl, rfl, rfl⟩ := graphF_is h
 have g := graphT_walk ⟨a0_0, a0_1, a0_2, l0_3⟩ A0_3 c0_3 a1 w hc0_3 hr0_3 ha textP (tok_ok _)
 rw [selB_same] at g
 exact g

def spec_GraphMany.f (a0_0 : Int) (a0_1 : Int) (a0_2 : Int) (l0_3 : List (S37)) : Option (Int) := (spec_GraphOf.f a0_0 a0_1 a0_2 l0_3 0).bind fun t => some (t.2.1.length : Int)
set_option maxHeartbeats 4000000 in
set_option maxRecDepth 100000 in
theorem spec_GraphMany.calls (a0_0 : Int) (a0_1 : Int) (a0_2 : Int) (A0_3 : Option Addr) (c0_3 : Nat) (l0_3 : List (S37)) (r : Int) (w : World) (hr0_3 : Kd.C k37 w A0_3 l0_3.length l0_3) (hc0_3 : l0_3.length ≤ c0_3) (h : spec_GraphMany.f a0_0 a0_1 a0_2 l0_3 = some r) :
  Calls Try.prog 34 #[.agg #[.int .i64 a0_0, .int .i64 a0_1, .int .i64 a0_2, .slice A0_3 l0_3.length c0_3]] w fun e w' => e = .returned (.int .i64 r) ∧ Below w.heap.size w w' := by
 unfold spec_GraphMany.f at h
 obtain ⟨⟨t1, t2, t3, t4, t5⟩, ht, h⟩ := Option.bind_eq_some_iff.1 h
 obtain rfl := Option.some.inj h
 have HT := m0_ ht
 have HR := m0_ hr0_3
 have HC := m0_ hc0_3
 have HBW := m0_ (Below.refl w.heap.size w)
 have hu1_ := Try.underlying37
 have hu3_ := Try.underlying63
 clear ht hr0_3 hc0_3 h
 go_enter Try.func34, Try.ntmps34
 go_wp2_with (first | ((with_reducible refine gate_dst (N := 1) rfl ?_);refine box_event ?hg (N := 1) ?hd (cs := #[.int .i64 a0_0, .int .i64 a0_1, .int .i64 a0_2, .slice A0_3 l0_3.length c0_3]) (t := 37) ?hr ?_;(case hd => rfl);(case hg => rfl);(case hr => first | (go_simp;done) | (go_simp;rfl));intro g1 hg wg1 hbox hb;skip;replace HBW := m0_ (below_step HBW.out hb);have BKg1 := m0_ (hbox);clear hb hbox hg;have hz0 := (blk_cell BKg1.out 0).trans (show _ = some (Value.int .i64 a0_0) from rfl);have hz1 := (blk_cell BKg1.out 1).trans (show _ = some (Value.int .i64 a0_1) from rfl);have hz2 := (blk_cell BKg1.out 2).trans (show _ = some (Value.int .i64 a0_2) from rfl);have hz3 := (blk_cell BKg1.out 3).trans (show _ = some (Value.slice A0_3 l0_3.length c0_3) from rfl)) | (go_at_call 38;fail))
 clear hz0 hz1 hz2 hz3
 refine (spec_GraphOf.calls a0_0 a0_1 a0_2 A0_3 c0_3 l0_3 0 t1 t2 t3 t4 t5 _ (Kd.C_below HR.out HBW.out) HC.out HT.out).mono ?_
 rintro e w4 ⟨v, rfl, hs, hb⟩
 obtain ⟨AV, cV, eV⟩ := Kd.S_slice hs
 subst eV
 have n0_ := m0_ (below_step HBW.out hb)
 clear HBW hs hb
 have hfl_ := field1 t1 t3 t4 t5 AV t2.length cV
 go_wp2
 go_ret
 exact ⟨rfl, n0_.out⟩

def impl_GraphOf.f (a0_0 : Int) (a0_1 : Int) (a0_2 : Int) (l0_3 : List (S37)) (a1 : Int) : Option (Int × (List (S104)) × Int × Int × Bool) := graphF ⟨a0_0, a0_1, a0_2, l0_3⟩ a1
theorem impl_GraphOf.calls (a0_0 : Int) (a0_1 : Int) (a0_2 : Int) (A0_3 : Option Addr) (c0_3 : Nat) (l0_3 : List (S37)) (a1 : Int) (r1 : Int) (r2 : List (S104)) (r3 : Int) (r4 : Int) (r5 : Bool) (w : World) (hr0_3 : Kd.C k37 w A0_3 l0_3.length l0_3) (hc0_3 : l0_3.length ≤ c0_3) (h : impl_GraphOf.f a0_0 a0_1 a0_2 l0_3 a1 = some (r1, r2, r3, r4, r5)) :
  Calls Try.prog 39 #[.agg #[.int .i64 a0_0, .int .i64 a0_1, .int .i64 a0_2, .slice A0_3 l0_3.length c0_3], .int .i64 a1] w fun e w' => ∃ v1_ : Value, e = .returned (.agg #[.int .i64 r1, v1_, .int .i64 r3, .int .i64 r4, .bool r5]) ∧ Kd.S k104 104 w' w.heap.size (fun _ => True) v1_ r2 ∧ Below w.heap.size w w' := by
 obtain ⟨ha, rfl, rfl, rfl, rfl, rfl⟩ := graphF_is h
 exact graphI_walk ⟨a0_0, a0_1, a0_2, l0_3⟩ A0_3 c0_3 a1 w hc0_3 hr0_3 ha

def impl_GraphMany.f (a0_0 : Int) (a0_1 : Int) (a0_2 : Int) (l0_3 : List (S37)) : Option (Int) := (impl_GraphOf.f a0_0 a0_1 a0_2 l0_3 0).bind fun t => some (t.2.1.length : Int)
set_option maxHeartbeats 4000000 in
set_option maxRecDepth 100000 in
theorem impl_GraphMany.calls (a0_0 : Int) (a0_1 : Int) (a0_2 : Int) (A0_3 : Option Addr) (c0_3 : Nat) (l0_3 : List (S37)) (r : Int) (w : World) (hr0_3 : Kd.C k37 w A0_3 l0_3.length l0_3) (hc0_3 : l0_3.length ≤ c0_3) (h : impl_GraphMany.f a0_0 a0_1 a0_2 l0_3 = some r) :
  Calls Try.prog 36 #[.agg #[.int .i64 a0_0, .int .i64 a0_1, .int .i64 a0_2, .slice A0_3 l0_3.length c0_3]] w fun e w' => e = .returned (.int .i64 r) ∧ Below w.heap.size w w' := by
 unfold impl_GraphMany.f at h
 obtain ⟨⟨t1, t2, t3, t4, t5⟩, ht, h⟩ := Option.bind_eq_some_iff.1 h
 obtain rfl := Option.some.inj h
 have HT := m0_ ht
 have HR := m0_ hr0_3
 have HC := m0_ hc0_3
 have HBW := m0_ (Below.refl w.heap.size w)
 have hu1_ := Try.underlying37
 have hu3_ := Try.underlying63
 clear ht hr0_3 hc0_3 h
 go_enter Try.func36, Try.ntmps36
 go_wp2_with (first | ((with_reducible refine gate_dst (N := 1) rfl ?_);refine box_event ?hg (N := 1) ?hd (cs := #[.int .i64 a0_0, .int .i64 a0_1, .int .i64 a0_2, .slice A0_3 l0_3.length c0_3]) (t := 37) ?hr ?_;(case hd => rfl);(case hg => rfl);(case hr => first | (go_simp;done) | (go_simp;rfl));intro g1 hg wg1 hbox hb;skip;replace HBW := m0_ (below_step HBW.out hb);have BKg1 := m0_ (hbox);clear hb hbox hg;have hz0 := (blk_cell BKg1.out 0).trans (show _ = some (Value.int .i64 a0_0) from rfl);have hz1 := (blk_cell BKg1.out 1).trans (show _ = some (Value.int .i64 a0_1) from rfl);have hz2 := (blk_cell BKg1.out 2).trans (show _ = some (Value.int .i64 a0_2) from rfl);have hz3 := (blk_cell BKg1.out 3).trans (show _ = some (Value.slice A0_3 l0_3.length c0_3) from rfl)) | (go_at_call 39;fail))
 clear hz0 hz1 hz2 hz3
 refine (impl_GraphOf.calls a0_0 a0_1 a0_2 A0_3 c0_3 l0_3 0 t1 t2 t3 t4 t5 _ (Kd.C_below HR.out HBW.out) HC.out HT.out).mono ?_
 rintro e w4 ⟨v, rfl, hs, hb⟩
 obtain ⟨AV, cV, eV⟩ := Kd.S_slice hs
 subst eV
 have n0_ := m0_ (below_step HBW.out hb)
 clear HBW hs hb
 have hfl_ := field1 t1 t3 t4 t5 AV t2.length cV
 go_wp2
 go_ret
 exact ⟨rfl, n0_.out⟩

def laws_FnExactGraphMany.f (k : Nat) (a0_0 : Int) (a0_1 : Int) (a0_2 : Int) (l0_3 : List (S30)) : Option (Bool) := (laws_szEx.f k a0_0 a0_1 a0_2 l0_3 1048576).bind fun t102 => (if t102 < 0 then (some true) else ((laws_toEx.f k a0_0 a0_1 a0_2 l0_3).bind fun bt103 => ((spec_GraphMany.f bt103.1 bt103.2.1 bt103.2.2.1 bt103.2.2.2).bind fun t109 => ((laws_toEx.f k a0_0 a0_1 a0_2 l0_3).bind fun bt110 => ((impl_GraphMany.f bt110.1 bt110.2.1 bt110.2.2.1 bt110.2.2.2).bind fun t117 => (if t117 = t109 then ((laws_toEx.f k a0_0 a0_1 a0_2 l0_3).bind fun bt118 => ((laws_eqEx.f k bt110.1 bt110.2.1 bt110.2.2.1 bt110.2.2.2 bt118.1 bt118.2.1 bt118.2.2.1 bt118.2.2.2).bind fun t124 => (if t124 = true then (some true) else (some false)))) else (some false)))))))
set_option maxHeartbeats 8000000 in
set_option maxRecDepth 100000 in
theorem laws_FnExactGraphMany.calls (k : Nat) (a0_0 : Int) (a0_1 : Int) (a0_2 : Int) (A0_3 : Option Addr) (c0_3 : Nat) (l0_3 : List (S30)) (r : Bool) (hT_ : Aside0 (r = true)) (w : World) (hr0_3 : Kd.C k30 w A0_3 l0_3.length l0_3) (hc0_3 : l0_3.length ≤ c0_3) (h : laws_FnExactGraphMany.f k a0_0 a0_1 a0_2 l0_3 = some r) :
  Calls Try.prog 9 #[.agg #[.int .i64 a0_0, .int .i64 a0_1, .int .i64 a0_2, .slice A0_3 l0_3.length c0_3]] w fun e w' => e = .returned (.bool r) ∧ Below w.heap.size w w' := by
 have hu30 := Try.underlying30
 have hu37 := Try.underlying37
 have HR0_3 := m0_ hr0_3
 have HC0_3 := m0_ hc0_3
 clear hr0_3 hc0_3
 have HB := m0_ (Below.refl w.heap.size w)
 have H : ((laws_szEx.f k a0_0 a0_1 a0_2 l0_3 1048576).bind fun t102 => (if t102 < 0 then (some true) else ((laws_toEx.f k a0_0 a0_1 a0_2 l0_3).bind fun bt103 => ((spec_GraphMany.f bt103.1 bt103.2.1 bt103.2.2.1 bt103.2.2.2).bind fun t109 => ((laws_toEx.f k a0_0 a0_1 a0_2 l0_3).bind fun bt110 => ((impl_GraphMany.f bt110.1 bt110.2.1 bt110.2.2.1 bt110.2.2.2).bind fun t117 => (if t117 = t109 then ((laws_toEx.f k a0_0 a0_1 a0_2 l0_3).bind fun bt118 => ((laws_eqEx.f k bt110.1 bt110.2.1 bt110.2.2.1 bt110.2.2.2 bt118.1 bt118.2.1 bt118.2.2.1 bt118.2.2.2).bind fun t124 => (if t124 = true then (some true) else (some false)))) else (some false)))))))) = some r := h
 clear h
 replace H := Option.bind_eq_some_iff.mp H
 obtain ⟨t102, A20, H⟩ := H
 replace H : (if t102 < 0 then (some true) else ((laws_toEx.f k a0_0 a0_1 a0_2 l0_3).bind fun bt103 => ((spec_GraphMany.f bt103.1 bt103.2.1 bt103.2.2.1 bt103.2.2.2).bind fun t109 => ((laws_toEx.f k a0_0 a0_1 a0_2 l0_3).bind fun bt110 => ((impl_GraphMany.f bt110.1 bt110.2.1 bt110.2.2.1 bt110.2.2.2).bind fun t117 => (if t117 = t109 then ((laws_toEx.f k a0_0 a0_1 a0_2 l0_3).bind fun bt118 => ((laws_eqEx.f k bt110.1 bt110.2.1 bt110.2.2.1 bt110.2.2.2 bt118.1 bt118.2.1 bt118.2.2.1 bt118.2.2.2).bind fun t124 => (if t124 = true then (some true) else (some false)))) else (some false))))))) = some r := H
 have A2 := m0_ A20
 clear A20
 by_cases c3 : t102 < 0
 ·rw [if_pos c3] at H
  have c3b0 : decide (t102 < 0) = true := decide_eq_true c3
  clear c3
  obtain rfl := Option.some.inj H
  go_enter Try.func9, Try.ntmps9
  go_wp2_with (first | ((with_reducible refine gate_dst (N := 1) rfl ?_);refine box_event ?hg (N := 1) ?hd (cs := #[.int .i64 a0_0, .int .i64 a0_1, .int .i64 a0_2, .slice A0_3 l0_3.length c0_3]) (t := 30) ?hr ?_;(case hd => rfl);(case hg => rfl);(case hr => first | (go_simp;done) | (go_simp;rfl));intro gb101 hg w4 hbox hb;have BK101 := m0_ (hbox);have GW101 := m0_ ((by rw [hg];exact (below_size (by repeat (first | (with_reducible first | exact HB.out | apply below_alloc | apply pw_below_drewN | apply below_drew1) | exact HB.out))) : w.heap.size ≤ gb101));have GE101 := m0_ ((by rw [hg];exact (below_size (by repeat (first | (with_reducible first | exact HB.out | apply below_alloc | apply pw_below_drewN | apply below_drew1) | exact HB.out))) : w.heap.size ≤ gb101));replace HB := m0_ (below_step (by repeat (first | (with_reducible first | exact HB.out | apply below_alloc | apply pw_below_drewN | apply below_drew1) | exact HB.out)) hb);clear hb hbox hg;obtain ⟨hcz5_0, hcz5_1, hcz5_2, hcz5_3, hfz5_0, hfz5_1, hfz5_2, hfz5_3⟩ := bx4 BK101.out) | ((with_reducible refine gate_callee (f := 33) rfl ?_);refine goesL_ (some 9) rfl rfl Try.func33 (by kernel_rfl) rfl #[.agg #[.int .i64 a0_0, .int .i64 a0_1, .int .i64 a0_2, .slice A0_3 l0_3.length c0_3], .int .i64 1048576] rfl (by (try simp only [List.map_toArray, List.map_cons, List.map_nil]);first | done | rfl | (simp only [List.length_drop, List.length_take];rfl)) ?_;(with_reducible refine (laws_szEx.calls k a0_0 a0_1 a0_2 _ _ l0_3 1048576 t102 _ ?side1 ?side2 A2.out).mono ?_);(case side1 => repeat (first | exact (Kd.C_below HR0_3.out HB.out) | (with_reducible refine Kd.C_alloc ?_ _) | (with_reducible refine Kd.C_drewN ?_ _) | (with_reducible refine Kd.C_drew ?_)));(case side2 => exact HC0_3.out);rintro e w6 ⟨rfl, hb⟩;refine ⟨_, rfl, ?_⟩;replace BK101 := m0_ (blk_below BK101.out hb);replace HB := m0_ (below_step (by repeat (first | (with_reducible first | exact HB.out | apply below_alloc | apply pw_below_drewN | apply below_drew1 | refine below_set ?_ GE101.out) | exact HB.out)) hb);(try clear hb);(try clear hb2);(try clear hk);(try clear hi)))
  go_ret
  exact ⟨by first | rfl | (simp [errW_none, errW_some] <;> rfl) | (simp [*, errW_none, errW_some] <;> rfl), by repeat (first | (with_reducible first | exact HB.out | apply below_alloc | apply pw_below_drewN | apply below_drew1 | refine below_set ?_ GE101.out) | exact HB.out)⟩
 rw [if_neg c3] at H
 have c3b0 : decide (t102 < 0) = false := decide_eq_false c3
 clear c3
 replace H := Option.bind_eq_some_iff.mp H
 obtain ⟨⟨t103, t104, t105, t106⟩, A70, H⟩ := H
 replace H : ((spec_GraphMany.f t103 t104 t105 t106).bind fun t109 => ((laws_toEx.f k a0_0 a0_1 a0_2 l0_3).bind fun bt110 => ((impl_GraphMany.f bt110.1 bt110.2.1 bt110.2.2.1 bt110.2.2.2).bind fun t117 => (if t117 = t109 then ((laws_toEx.f k a0_0 a0_1 a0_2 l0_3).bind fun bt118 => ((laws_eqEx.f k bt110.1 bt110.2.1 bt110.2.2.1 bt110.2.2.2 bt118.1 bt118.2.1 bt118.2.2.1 bt118.2.2.2).bind fun t124 => (if t124 = true then (some true) else (some false)))) else (some false))))) = some r := H
 have A7 := m0_ A70
 clear A70
 replace H := Option.bind_eq_some_iff.mp H
 obtain ⟨t109, A80, H⟩ := H
 replace H : ((laws_toEx.f k a0_0 a0_1 a0_2 l0_3).bind fun bt110 => ((impl_GraphMany.f bt110.1 bt110.2.1 bt110.2.2.1 bt110.2.2.2).bind fun t117 => (if t117 = t109 then ((laws_toEx.f k a0_0 a0_1 a0_2 l0_3).bind fun bt118 => ((laws_eqEx.f k bt110.1 bt110.2.1 bt110.2.2.1 bt110.2.2.2 bt118.1 bt118.2.1 bt118.2.2.1 bt118.2.2.2).bind fun t124 => (if t124 = true then (some true) else (some false)))) else (some false)))) = some r := H
 have A8 := m0_ A80
 clear A80
 replace H := Option.bind_eq_some_iff.mp H
 obtain ⟨⟨t110, t111, t112, t113⟩, A90, H⟩ := H
 replace H : ((impl_GraphMany.f t110 t111 t112 t113).bind fun t117 => (if t117 = t109 then ((laws_toEx.f k a0_0 a0_1 a0_2 l0_3).bind fun bt118 => ((laws_eqEx.f k t110 t111 t112 t113 bt118.1 bt118.2.1 bt118.2.2.1 bt118.2.2.2).bind fun t124 => (if t124 = true then (some true) else (some false)))) else (some false))) = some r := H
 have A9 := m0_ A90
 clear A90
 replace H := Option.bind_eq_some_iff.mp H
 obtain ⟨t117, A100, H⟩ := H
 replace H : (if t117 = t109 then ((laws_toEx.f k a0_0 a0_1 a0_2 l0_3).bind fun bt118 => ((laws_eqEx.f k t110 t111 t112 t113 bt118.1 bt118.2.1 bt118.2.2.1 bt118.2.2.2).bind fun t124 => (if t124 = true then (some true) else (some false)))) else (some false)) = some r := H
 have A10 := m0_ A100
 clear A100
 by_cases c11 : t117 = t109
 rotate_left
 ·rw [if_neg c11] at H
  have c11b0 : (t117 == t109) = false := beq_eq_false_iff_ne.mpr c11
  have c11b1 : (t117 != t109) = true := bne_iff_ne.mpr c11
  exact absurd (Option.some.inj H) (by rw [hT_.out];decide)
 rw [if_pos c11] at H
 have c11b0 : (t117 == t109) = true := beq_iff_eq.mpr c11
 have c11b1 : (t117 != t109) = false := bne_eq_false_iff_eq.mpr c11
 clear c11
 replace H := Option.bind_eq_some_iff.mp H
 obtain ⟨⟨t118, t119, t120, t121⟩, A120, H⟩ := H
 replace H : ((laws_eqEx.f k t110 t111 t112 t113 t118 t119 t120 t121).bind fun t124 => (if t124 = true then (some true) else (some false))) = some r := H
 have A12 := m0_ A120
 clear A120
 replace H := Option.bind_eq_some_iff.mp H
 obtain ⟨t124, A130, H⟩ := H
 replace H : (if t124 = true then (some true) else (some false)) = some r := H
 have A13 := m0_ A130
 clear A130
 by_cases c14 : t124 = true
 rotate_left
 ·replace c14 := Bool.eq_false_iff.mpr c14
  subst c14
  have H1 : (some false) = some r := by rw [if_neg (show ¬ (false = true) by decide)] at H;exact H
  clear H
  have H := H1
  clear H1
  exact absurd (Option.some.inj H) (by rw [hT_.out];decide)
 subst c14
 have H1 : (some true) = some r := by rw [if_pos rfl] at H;exact H
 clear H
 have H := H1
 clear H1
 obtain rfl := Option.some.inj H
 go_enter Try.func9, Try.ntmps9
 try go_wp2_with (first | ((with_reducible refine gate_dst (N := 1) rfl ?_);refine box_event ?hg (N := 1) ?hd (cs := #[.int .i64 a0_0, .int .i64 a0_1, .int .i64 a0_2, .slice A0_3 l0_3.length c0_3]) (t := 30) ?hr ?_;(case hd => rfl);(case hg => rfl);(case hr => first | (go_simp;done) | (go_simp;rfl));intro gb101 hg w15 hbox hb;have BK101 := m0_ (hbox);have GW101 := m0_ ((by rw [hg];exact (below_size (by repeat (first | (with_reducible first | exact HB.out | apply below_alloc | apply pw_below_drewN | apply below_drew1) | exact HB.out))) : w.heap.size ≤ gb101));have GE101 := m0_ ((by rw [hg];exact (below_size (by repeat (first | (with_reducible first | exact HB.out | apply below_alloc | apply pw_below_drewN | apply below_drew1) | exact HB.out))) : w.heap.size ≤ gb101));replace HB := m0_ (below_step (by repeat (first | (with_reducible first | exact HB.out | apply below_alloc | apply pw_below_drewN | apply below_drew1) | exact HB.out)) hb);clear hb hbox hg;obtain ⟨hcz16_0, hcz16_1, hcz16_2, hcz16_3, hfz16_0, hfz16_1, hfz16_2, hfz16_3⟩ := bx4 BK101.out) | ((with_reducible refine gate_callee (f := 33) rfl ?_);refine goesL_ (some 9) rfl rfl Try.func33 (by kernel_rfl) rfl #[.agg #[.int .i64 a0_0, .int .i64 a0_1, .int .i64 a0_2, .slice A0_3 l0_3.length c0_3], .int .i64 1048576] rfl (by (try simp only [List.map_toArray, List.map_cons, List.map_nil]);first | done | rfl | (simp only [List.length_drop, List.length_take];rfl)) ?_;(with_reducible refine (laws_szEx.calls k a0_0 a0_1 a0_2 _ _ l0_3 1048576 t102 _ ?side1 ?side2 A2.out).mono ?_);(case side1 => repeat (first | exact (Kd.C_below HR0_3.out HB.out) | (with_reducible refine Kd.C_alloc ?_ _) | (with_reducible refine Kd.C_drewN ?_ _) | (with_reducible refine Kd.C_drew ?_)));(case side2 => exact HC0_3.out);rintro e w17 ⟨rfl, hb⟩;refine ⟨_, rfl, ?_⟩;replace BK101 := m0_ (blk_below BK101.out hb);replace HB := m0_ (below_step (by repeat (first | (with_reducible first | exact HB.out | apply below_alloc | apply pw_below_drewN | apply below_drew1 | refine below_set ?_ GE101.out) | exact HB.out)) hb);(try clear hb);(try clear hb2);(try clear hk);(try clear hi);obtain ⟨hcz18_0, hcz18_1, hcz18_2, hcz18_3, hfz18_0, hfz18_1, hfz18_2, hfz18_3⟩ := bx4 BK101.out) | ((with_reducible refine gate_callee (f := 35) rfl ?_);refine goesL_ (some 13) rfl rfl Try.func35 (by kernel_rfl) rfl #[.agg #[.int .i64 a0_0, .int .i64 a0_1, .int .i64 a0_2, .slice A0_3 l0_3.length c0_3]] rfl (by (try simp only [List.map_toArray, List.map_cons, List.map_nil]);first | done | rfl | (simp only [List.length_drop, List.length_take];rfl)) ?_;(with_reducible refine (laws_toEx.calls k a0_0 a0_1 a0_2 _ _ l0_3 t103 t104 t105 t106 _ ?side1 ?side2 A7.out).mono ?_);(case side1 => repeat (first | exact (Kd.C_below HR0_3.out HB.out) | (with_reducible refine Kd.C_alloc ?_ _) | (with_reducible refine Kd.C_drewN ?_ _) | (with_reducible refine Kd.C_drew ?_)));(case side2 => exact HC0_3.out);rintro e w19 ⟨v107, rfl, ho0, hb⟩;refine ⟨_, rfl, ?_⟩;have HO108 := m0_ (Kd.R_lower ho0 (below_size (by repeat (first | (with_reducible first | exact HB.out | apply below_alloc | apply pw_below_drewN | apply below_drew1 | refine below_set ?_ GE101.out) | exact HB.out))));replace BK101 := m0_ (blk_below BK101.out hb);replace HB := m0_ (below_step (by repeat (first | (with_reducible first | exact HB.out | apply below_alloc | apply pw_below_drewN | apply below_drew1 | refine below_set ?_ GE101.out) | exact HB.out)) hb);(try clear hb);(try clear hb2);(try clear hk);(try clear hi);(try clear ho0);obtain ⟨Ao20, co20, eo20⟩ := Kd.R_slice HO108.out;subst eo20) | ((with_reducible refine gate_callee (f := 34) rfl ?_);refine goesL_ (some 14) rfl rfl Try.func34 (by kernel_rfl) rfl #[.agg #[.int .i64 t103, .int .i64 t104, .int .i64 t105, .slice Ao20 t106.length co20]] rfl (by (try simp only [List.map_toArray, List.map_cons, List.map_nil]);first | done | rfl | (simp only [List.length_drop, List.length_take];rfl)) ?_;(with_reducible refine (spec_GraphMany.calls t103 t104 t105 _ _ t106 t109 _ ?side1 ?side2 A8.out).mono ?_);(case side1 => repeat (first | exact (Kd.R_reads' HO108.out).2.2 | (with_reducible refine Kd.C_alloc ?_ _) | (with_reducible refine Kd.C_drewN ?_ _) | (with_reducible refine Kd.C_drew ?_)));(case side2 => exact (Kd.R_reads' HO108.out).2.1);rintro e w21 ⟨rfl, hb⟩;refine ⟨_, rfl, ?_⟩;replace HO108 := m0_ (Kd.R_below (by exact HO108.out) hb);replace BK101 := m0_ (blk_below BK101.out hb);replace HB := m0_ (below_step (by repeat (first | (with_reducible first | exact HB.out | apply below_alloc | apply pw_below_drewN | apply below_drew1 | refine below_set ?_ GE101.out) | exact HB.out)) hb);(try clear hb);(try clear hb2);(try clear hk);(try clear hi);obtain ⟨hcz22_0, hcz22_1, hcz22_2, hcz22_3, hfz22_0, hfz22_1, hfz22_2, hfz22_3⟩ := bx4 BK101.out) | ((with_reducible refine gate_callee (f := 35) rfl ?_);refine goesL_ (some 16) rfl rfl Try.func35 (by kernel_rfl) rfl #[.agg #[.int .i64 a0_0, .int .i64 a0_1, .int .i64 a0_2, .slice A0_3 l0_3.length c0_3]] rfl (by (try simp only [List.map_toArray, List.map_cons, List.map_nil]);first | done | rfl | (simp only [List.length_drop, List.length_take];rfl)) ?_;(with_reducible refine (laws_toEx.calls k a0_0 a0_1 a0_2 _ _ l0_3 t110 t111 t112 t113 _ ?side1 ?side2 A9.out).mono ?_);(case side1 => repeat (first | exact (Kd.C_below HR0_3.out HB.out) | (with_reducible refine Kd.C_alloc ?_ _) | (with_reducible refine Kd.C_drewN ?_ _) | (with_reducible refine Kd.C_drew ?_)));(case side2 => exact HC0_3.out);rintro e w23 ⟨v114, rfl, ho0, hb⟩;refine ⟨_, rfl, ?_⟩;have HO115 := m0_ (Kd.R_lower (Kd.R_new' ho0 (Kd.R_lt (by exact HO108.out))) (below_size (by repeat (first | (with_reducible first | exact HB.out | apply below_alloc | apply pw_below_drewN | apply below_drew1 | refine below_set ?_ GE101.out) | exact HB.out))));replace HO108 := m0_ (Kd.R_elder' (by exact HO108.out) (Kd.R_base ho0) hb);replace BK101 := m0_ (blk_below BK101.out hb);replace HB := m0_ (below_step (by repeat (first | (with_reducible first | exact HB.out | apply below_alloc | apply pw_below_drewN | apply below_drew1 | refine below_set ?_ GE101.out) | exact HB.out)) hb);(try clear hb);(try clear hb2);(try clear hk);(try clear hi);(try clear ho0)) | ((with_reducible refine gate_dst (N := 5) rfl ?_);refine box_event ?hg (N := 5) ?hd (cs := #[.int .i64 0, .int .i64 0, .int .i64 0, .slice none 0 0]) (t := 37) ?hr ?_;(case hd => rfl);(case hg => rfl);(case hr => first | (go_simp;done) | (go_simp;rfl));intro gb116 hg w24 hbox hb;replace HO108 := m0_ (Kd.R_below (Kd.R_elderB (by exact HO108.out) gb116 (Nat.le_of_eq hg.symm)) hb);replace HO115 := m0_ (Kd.R_below (Kd.R_elderB (by exact HO115.out) gb116 (Nat.le_of_eq hg.symm)) hb);have BK116 := m0_ (hbox);have GW116 := m0_ ((by rw [hg];exact (below_size (by repeat (first | (with_reducible first | exact HB.out | apply below_alloc | apply pw_below_drewN | apply below_drew1 | refine below_set ?_ GE101.out) | exact HB.out))) : w.heap.size ≤ gb116));have GE116 := m0_ ((by rw [hg];exact (below_size (by repeat (first | (with_reducible first | exact HB.out | apply below_alloc | apply pw_below_drewN | apply below_drew1 | refine below_set ?_ GE101.out) | exact HB.out))) : w.heap.size ≤ gb116));replace HB := m0_ (below_step (by repeat (first | (with_reducible first | exact HB.out | apply below_alloc | apply pw_below_drewN | apply below_drew1 | refine below_set ?_ GE101.out) | exact HB.out)) hb);have NB101_116 := m0_ ((by rw [hg];exact Nat.ne_of_lt (blk_lt BK101.out) : gb101 ≠ gb116));have NB116_101 := m0_ ((by rw [hg];exact Nat.ne_of_gt (blk_lt BK101.out) : gb116 ≠ gb101));replace BK101 := m0_ (blk_below BK101.out hb);clear hb hbox hg;have hnb25 := NB116_101.out;have hnc25 := NB101_116.out;obtain ⟨hcz26_0, hcz26_1, hcz26_2, hcz26_3, hfz26_0, hfz26_1, hfz26_2, hfz26_3⟩ := bx4 BK116.out;obtain ⟨Ao27, co27, eo27⟩ := Kd.R_slice HO115.out;subst eo27) | ((with_reducible refine gate_callee (f := 36) rfl ?_);refine goesL_ (some 18) rfl rfl Try.func36 (by kernel_rfl) rfl #[.agg #[.int .i64 t110, .int .i64 t111, .int .i64 t112, .slice Ao27 t113.length co27]] rfl (by (try simp only [List.map_toArray, List.map_cons, List.map_nil]);first | done | rfl | (simp only [List.length_drop, List.length_take];rfl)) ?_;(with_reducible refine (impl_GraphMany.calls t110 t111 t112 _ _ t113 t117 _ ?side1 ?side2 A10.out).mono ?_);(case side1 => refine (Kd.R_reads' (e := 37) (base := w.heap.size) (ok := fun k_ => ((True ∧ some k_ ≠ (.slice Ao20 t106.length co20 : Value).ownBlock) ∧ k_ ≠ gb116)) (n := t113.length) (c := co27) ?_).2.2;exact (by (with_reducible repeat (first | apply Kd.R_alloc | apply Kd.R_drewN | apply Kd.R_drew));exact (Kd.R_mono (Kd.R_far (p := ⟨gb116, 3, none⟩) (Kd.R_far (p := ⟨gb116, 2, none⟩) (Kd.R_far (p := ⟨gb116, 1, none⟩) (Kd.R_far (p := ⟨gb116, 0, none⟩) (Kd.R_mono HO115.out (fun k_ hk => (⟨hk, hk.2⟩ : _ ∧ k_ ≠ gb116))) (fun _ hk => hk.2) (.int .i64 t110)) (fun _ hk => hk.2) (.int .i64 t111)) (fun _ hk => hk.2) (.int .i64 t112)) (fun _ hk => hk.2) (.slice Ao27 t113.length co27)) (fun _ h_ => h_.1))));(case side2 => exact (Kd.R_reads' HO115.out).2.1);rintro e w28 ⟨rfl, hb⟩;refine ⟨_, rfl, ?_⟩;replace HO108 := m0_ (Kd.R_below (by (with_reducible repeat (first | apply Kd.R_alloc | apply Kd.R_drewN | apply Kd.R_drew));exact (Kd.R_mono (Kd.R_far (p := ⟨gb116, 3, none⟩) (Kd.R_far (p := ⟨gb116, 2, none⟩) (Kd.R_far (p := ⟨gb116, 1, none⟩) (Kd.R_far (p := ⟨gb116, 0, none⟩) (Kd.R_mono HO108.out (fun k_ hk => (⟨hk, hk.2⟩ : _ ∧ k_ ≠ gb116))) (fun _ hk => hk.2) (.int .i64 t110)) (fun _ hk => hk.2) (.int .i64 t111)) (fun _ hk => hk.2) (.int .i64 t112)) (fun _ hk => hk.2) (.slice Ao27 t113.length co27)) (fun _ h_ => h_.1))) hb);replace HO115 := m0_ (Kd.R_below (by (with_reducible repeat (first | apply Kd.R_alloc | apply Kd.R_drewN | apply Kd.R_drew));exact (Kd.R_mono (Kd.R_far (p := ⟨gb116, 3, none⟩) (Kd.R_far (p := ⟨gb116, 2, none⟩) (Kd.R_far (p := ⟨gb116, 1, none⟩) (Kd.R_far (p := ⟨gb116, 0, none⟩) (Kd.R_mono HO115.out (fun k_ hk => (⟨hk, hk.2⟩ : _ ∧ k_ ≠ gb116))) (fun _ hk => hk.2) (.int .i64 t110)) (fun _ hk => hk.2) (.int .i64 t111)) (fun _ hk => hk.2) (.int .i64 t112)) (fun _ hk => hk.2) (.slice Ao27 t113.length co27)) (fun _ h_ => h_.1))) hb);replace BK101 := m0_ (blk_below (g := gb101) (o := .cells #[.int .i64 a0_0, .int .i64 a0_1, .int .i64 a0_2, .slice A0_3 l0_3.length c0_3] 30 (0, 0)) (by (with_reducible repeat (first | refine blk_drewN ?_ _ | refine blk_drew ?_ | refine blk_alloc ?_ _));refine blk_far ?_ NB101_116.out _;(with_reducible repeat (first | refine blk_drewN ?_ _ | refine blk_drew ?_ | refine blk_alloc ?_ _));refine blk_far ?_ NB101_116.out _;(with_reducible repeat (first | refine blk_drewN ?_ _ | refine blk_drew ?_ | refine blk_alloc ?_ _));refine blk_far ?_ NB101_116.out _;(with_reducible repeat (first | refine blk_drewN ?_ _ | refine blk_drew ?_ | refine blk_alloc ?_ _));refine blk_far ?_ NB101_116.out _;(with_reducible repeat (first | refine blk_drewN ?_ _ | refine blk_drew ?_ | refine blk_alloc ?_ _));exact BK101.out) hb);replace BK116 := m0_ (blk_below (g := gb116) (o := .cells #[.int .i64 t110, .int .i64 t111, .int .i64 t112, .slice Ao27 t113.length co27] 37 (0, 0)) (by (with_reducible repeat (first | refine blk_drewN ?_ _ | refine blk_drew ?_ | refine blk_alloc ?_ _));refine blk_put (cs := #[.int .i64 t110, .int .i64 t111, .int .i64 t112, .slice none 0 0]) ?_ 3 _ rfl;(with_reducible repeat (first | refine blk_drewN ?_ _ | refine blk_drew ?_ | refine blk_alloc ?_ _));refine blk_put (cs := #[.int .i64 t110, .int .i64 t111, .int .i64 0, .slice none 0 0]) ?_ 2 _ rfl;(with_reducible repeat (first | refine blk_drewN ?_ _ | refine blk_drew ?_ | refine blk_alloc ?_ _));refine blk_put (cs := #[.int .i64 t110, .int .i64 0, .int .i64 0, .slice none 0 0]) ?_ 1 _ rfl;(with_reducible repeat (first | refine blk_drewN ?_ _ | refine blk_drew ?_ | refine blk_alloc ?_ _));refine blk_put (cs := #[.int .i64 0, .int .i64 0, .int .i64 0, .slice none 0 0]) ?_ 0 _ rfl;(with_reducible repeat (first | refine blk_drewN ?_ _ | refine blk_drew ?_ | refine blk_alloc ?_ _));exact BK116.out) hb);replace HB := m0_ (below_step (by repeat (first | (with_reducible first | exact HB.out | apply below_alloc | apply pw_below_drewN | apply below_drew1 | refine below_set ?_ GE101.out | refine below_set ?_ GE116.out) | exact HB.out)) hb);(try clear hb);(try clear hb2);(try clear hk);(try clear hi)))
 replace HO108 := m0_ (Kd.R_drew HO108.out)
 replace HO115 := m0_ (Kd.R_drew HO115.out)
 replace BK101 := m0_ (blk_drew BK101.out)
 replace BK116 := m0_ (blk_drew BK116.out)
 replace HB := m0_ (below_drew1 HB.out)
 refine start_ (n := 5) (S := fun w' => w'.cell? ⟨gb116, 0, none⟩ = some (.int .i64 t110) ∧ w'.cell? ⟨gb116, 1, none⟩ = some (.int .i64 t111) ∧ w'.cell? ⟨gb116, 2, none⟩ = some (.int .i64 t112) ∧ w'.cell? ⟨gb116, 3, none⟩ = some (.slice Ao27 t113.length co27) ∧ w'.cell? ⟨gb101, 0, none⟩ = some (.int .i64 a0_0) ∧ w'.cell? ⟨gb101, 1, none⟩ = some (.int .i64 a0_1) ∧ w'.cell? ⟨gb101, 2, none⟩ = some (.int .i64 a0_2) ∧ w'.cell? ⟨gb101, 3, none⟩ = some (.slice A0_3 l0_3.length c0_3)) (ds := []) #[false, false, false, false, false] (by kernel_rfl) rfl rfl ⟨(blk_cell BK116.out 0).trans rfl, (blk_cell BK116.out 1).trans rfl, (blk_cell BK116.out 2).trans rfl, (blk_cell BK116.out 3).trans rfl, (blk_cell BK101.out 0).trans rfl, (blk_cell BK101.out 1).trans rfl, (blk_cell BK101.out 2).trans rfl, (blk_cell BK101.out 3).trans rfl⟩ (fun hHeld => ?_)
 generalize w28.drew = w29 at HO108 HO115 BK101 BK116 HB hHeld ⊢
 refine take_ (i := 0) (N := some 22) (v := ?_) (a' := ?_) #[true, false, false, false, false] rfl rfl (by kernel_rfl) (fun _ _ _ h => h) (Or.inl ⟨by rfl, ?_⟩) hHeld ?_ ?_
 rotate_left
 ·rintro w' ⟨s0, s1, s2, s3, s4, s5, s6, s7⟩
  go_simp
  with_reducible rfl
 rotate_left
 ·simp only [Act.put, List.setIfInBounds_toArray, List.set_cons_zero, List.set_cons_succ, i64_w, i32_w]
  rfl
 refine take_ (i := 1) (N := some 23) (v := ?_) (a' := ?_) #[true, true, false, false, false] rfl rfl (by kernel_rfl) (fun _ _ _ h => h) (Or.inl ⟨by rfl, ?_⟩) hHeld ?_ ?_
 rotate_left
 ·rintro w' ⟨s0, s1, s2, s3, s4, s5, s6, s7⟩
  go_simp
  with_reducible rfl
 rotate_left
 ·simp only [Act.put, List.setIfInBounds_toArray, List.set_cons_zero, List.set_cons_succ, i64_w, i32_w]
  rfl
 refine one_ (i := 2) (N := some 24) #[true, true, true, false, false] rfl rfl (by kernel_rfl) (by decide) (fun K hK => ?_)
 refine goes_ Try.func35 (by kernel_rfl) rfl #[.agg #[.int .i64 a0_0, .int .i64 a0_1, .int .i64 a0_2, .slice A0_3 l0_3.length c0_3]] (by rfl) rfl rfl (by (try simp only [List.map_toArray, List.map_cons, List.map_nil]);first | done | rfl | (simp only [List.length_drop, List.length_take];rfl)) ?_
 with_reducible refine (laws_toEx.calls k a0_0 a0_1 a0_2 _ _ l0_3 t118 t119 t120 t121 _ ?side1 ?side2 A12.out).mono ?_
 (case side1 => repeat (first | exact (Kd.C_below HR0_3.out HB.out) | (with_reducible refine Kd.C_alloc ?_ _) | (with_reducible refine Kd.C_drewN ?_ _) | (with_reducible refine Kd.C_drew ?_)))
 (case side2 => exact HC0_3.out)
 rintro e w30 ⟨v122, rfl, ho0, hb⟩
 refine ⟨_, rfl, ?_⟩
 have HO123 := m0_ (Kd.R_lower (Kd.R_newB (Kd.R_new' (Kd.R_new' ho0 (Kd.R_lt (by exact HO108.out))) (Kd.R_lt (by exact HO115.out))) BK116.out) (below_size (by repeat (first | (with_reducible first | exact HB.out | apply below_alloc | apply pw_below_drewN | apply below_drew1 | refine below_set ?_ GE101.out | refine below_set ?_ GE116.out) | exact HB.out))))
 replace HO108 := m0_ (Kd.R_elder' (by exact HO108.out) (Kd.R_base ho0) hb)
 replace HO115 := m0_ (Kd.R_elder' (by exact HO115.out) (Kd.R_base ho0) hb)
 replace BK101 := m0_ (blk_below BK101.out hb)
 replace BK116 := m0_ (blk_below BK116.out hb)
 replace HB := m0_ (below_step (by repeat (first | (with_reducible first | exact HB.out | apply below_alloc | apply pw_below_drewN | apply below_drew1 | refine below_set ?_ GE101.out | refine below_set ?_ GE116.out) | exact HB.out)) hb)
 (try clear hb)
 (try clear hb2)
 (try clear hk)
 (try clear hi)
 (try clear ho0)
 obtain ⟨Ao31, co31, eo31⟩ := Kd.R_slice HO123.out
 (first | subst eo31 | (injection eo31 with f1_ f2_ f3_;have f4_ := f1_.symm;have f5_ := f3_.symm;clear f1_ f2_ f3_;subst f4_;subst f5_))
 refine hK.out _ _ ⟨(blk_cell BK116.out 0).trans rfl, (blk_cell BK116.out 1).trans rfl, (blk_cell BK116.out 2).trans rfl, (blk_cell BK116.out 3).trans rfl, (blk_cell BK101.out 0).trans rfl, (blk_cell BK101.out 1).trans rfl, (blk_cell BK101.out 2).trans rfl, (blk_cell BK101.out 3).trans rfl⟩ (fun hHeld => ?_)
 clear hK K
 refine norm_ (a' := ?_) ?_ ?_
 rotate_left
 ·show Act.put _ (some 24) _ = _
  simp only [Act.put, List.setIfInBounds_toArray, List.set_cons_zero, List.set_cons_succ, i64_w, i32_w]
  rfl
 refine one_ (i := 3) (N := some 25) #[true, true, true, true, false] rfl rfl (by kernel_rfl) (by decide) (fun K hK => ?_)
 refine goes_ Try.func37 (by kernel_rfl) rfl #[.agg #[.int .i64 t110, .int .i64 t111, .int .i64 t112, .slice Ao27 t113.length co27], .agg #[.int .i64 t118, .int .i64 t119, .int .i64 t120, .slice Ao31 t121.length co31]] (by rfl) rfl rfl (by (try simp only [List.map_toArray, List.map_cons, List.map_nil]);first | done | rfl | (simp only [List.length_drop, List.length_take];rfl)) ?_
 with_reducible refine (laws_eqEx.calls k t110 t111 t112 _ _ t113 t118 t119 t120 _ _ t121 true _ ?side1 ?side2 ?side3 ?side4 A13.out).mono ?_
 (case side1 => repeat (first | exact (Kd.R_reads' HO115.out).2.2 | (with_reducible refine Kd.C_alloc ?_ _) | (with_reducible refine Kd.C_drewN ?_ _) | (with_reducible refine Kd.C_drew ?_)))
 (case side2 => exact (Kd.R_reads' HO115.out).2.1)
 (case side3 => repeat (first | exact (Kd.R_reads' HO123.out).2.2 | (with_reducible refine Kd.C_alloc ?_ _) | (with_reducible refine Kd.C_drewN ?_ _) | (with_reducible refine Kd.C_drew ?_)))
 (case side4 => exact (Kd.R_reads' HO123.out).2.1)
 rintro e w32 ⟨rfl, hb⟩
 refine ⟨_, rfl, ?_⟩
 replace HO108 := m0_ (Kd.R_below (by exact HO108.out) hb)
 replace HO115 := m0_ (Kd.R_below (by exact HO115.out) hb)
 replace HO123 := m0_ (Kd.R_below (by exact HO123.out) hb)
 replace BK101 := m0_ (blk_below BK101.out hb)
 replace BK116 := m0_ (blk_below BK116.out hb)
 replace HB := m0_ (below_step (by repeat (first | (with_reducible first | exact HB.out | apply below_alloc | apply pw_below_drewN | apply below_drew1 | refine below_set ?_ GE101.out | refine below_set ?_ GE116.out) | exact HB.out)) hb)
 (try clear hb)
 (try clear hb2)
 (try clear hk)
 (try clear hi)
 refine hK.out _ _ ⟨(blk_cell BK116.out 0).trans rfl, (blk_cell BK116.out 1).trans rfl, (blk_cell BK116.out 2).trans rfl, (blk_cell BK116.out 3).trans rfl, (blk_cell BK101.out 0).trans rfl, (blk_cell BK101.out 1).trans rfl, (blk_cell BK101.out 2).trans rfl, (blk_cell BK101.out 3).trans rfl⟩ (fun hHeld => ?_)
 clear hK K
 refine norm_ (a' := ?_) ?_ ?_
 rotate_left
 ·show Act.put _ (some 25) _ = _
  simp only [Act.put, List.setIfInBounds_toArray, List.set_cons_zero, List.set_cons_succ, i64_w, i32_w]
  rfl
 refine pv_ 4 26 #[true, true, true, true, true] (by kernel_rfl) ?_
 refine done_ (by kernel_rfl) ?_
 try go_wp2
 go_ret
 exact ⟨by first | rfl | (simp [errW_none, errW_some] <;> rfl) | (simp [*, errW_none, errW_some] <;> rfl), by repeat (first | (with_reducible first | exact HB.out | apply below_alloc | apply pw_below_drewN | apply below_drew1 | refine below_set ?_ GE101.out | refine below_set ?_ GE116.out) | exact HB.out)⟩

end Go.Proofs.Ytdljhokealbnnaa.M
namespace Go.Proofs.Ytdljhokealbnnaa.M
set_option linter.unusedVariables false
set_option linter.unusedSimpArgs false
open Go.RowKit Go.Proofs.YtdljhokealbnnaaW.PrintWords Go.Proofs.YtdljhokealbnnaaW.PrintLast

theorem graphF_some (x : S37) (mo : Int) (h : allY x ≤ 1048576) : graphF x mo = some (selB (graphB x mo) mo 0, selB (graphB x mo) (addX x []).1 [], 0, 0, false) := by
  unfold graphF
  rw [if_pos h]
theorem many_impl (x : S37) (h : allY x ≤ 1048576) : impl_GraphMany.f x.f0 x.f1 x.f2 x.f3 = some ((selB (graphB x 0) (addX x []).1 []).length : Int) := by
  unfold impl_GraphMany.f impl_GraphOf.f
  rw [eta_E, graphF_some x 0 h]
  rfl
theorem many_spec (x : S37) (h : allY x ≤ 1048576) : spec_GraphMany.f x.f0 x.f1 x.f2 x.f3 = some ((selB (graphB x 0) (addX x []).1 []).length : Int) := by
  unfold spec_GraphMany.f spec_GraphOf.f
  rw [eta_E, graphF_some x 0 h]
  rfl
theorem FnExactGraphMany_pure (x : S30) (h : good30 x) : ∃ k, laws_FnExactGraphMany.f k x.f0 x.f1 x.f2 x.f3 = some true := by
  refine Ev.rounds (g := fun k => laws_FnExactGraphMany.f k x.f0 x.f1 x.f2 x.f3) ?_
  unfold laws_FnExactGraphMany.f
  refine Ev.bind (szEx_ev x h 1048576 (by omega) (by omega)) ?_
  by_cases hs : ((allX x : Nat) : Int) ≤ 1048576
  · rw [leftOf_pos hs]
    refine Ev.neg (by omega) ?_
    have tx := toEx_ev x (by omega)
    have ax := allY_cv x
    refine Ev.bind tx (Ev.bind (Ev.one (fun _ => many_spec (cvX x) (by omega))) (Ev.bind tx (Ev.bind (Ev.one (fun _ => many_impl (cvX x) (by omega))) (Ev.pos rfl ?_))))
    exact Ev.bind tx (Ev.bind (eqEx_ev (cvX x) (by omega)) (Ev.pos rfl (Ev.now _)))
  · rw [leftOf_neg hs]
    exact Ev.pos (by omega) (Ev.now _)
end Go.Proofs.Ytdljhokealbnnaa.M
