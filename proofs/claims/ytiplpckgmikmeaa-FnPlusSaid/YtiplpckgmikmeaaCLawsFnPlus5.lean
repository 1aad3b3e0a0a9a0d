/- What the claim's law leans on: the program's functions, what they compute, and the law over plain values; no condition is asked. (Part 5 of 5.) -/
import Derived.Test.YtiplpckgmikmeaaCLawsFnPlus4
namespace Go.Proofs.Ytiplpckgmikmeaa.M
open Go.RowKit Go.Proofs.YtiplpckgmikmeaaW.PrintWords Go.Proofs.YtiplpckgmikmeaaW.PrintLast Go.Proofs.YtiplpckgmikmeaaW.PrintMore
attribute [local go_sem] max2_int min2_int max_two min_two max_three min_three max_four min_four
set_option linter.unusedVariables false
set_option linter.unusedSimpArgs false

def impl_OrOf.f (k : Nat) (l0 l1 : List (S27)) : Option (List (S27) × Bool) := (impl_OccsOk.f k l0).bind fun t => if t = true then (impl_OccsOk.f k l1).bind fun u => (if u = true then (impl_putAll.f k l0 l1).bind fun m => impl_few.f k m else some ([], false)) else some ([], false)
theorem impl_OrOf.mono : ∀ a0 a1 k, LeO (impl_OrOf.f k a0 a1) (impl_OrOf.f (k + 1) a0 a1) := by
 intro a0 a1 k
 unfold impl_OrOf.f
 exact LeO.bind (impl_OccsOk.mono _ k) (fun _ => LeO.ite (LeO.bind (impl_OccsOk.mono _ k) (fun _ => LeO.ite (LeO.bind (impl_putAll.mono _ _ k) (fun _ => impl_few.mono _ k)) (LeO.refl _))) (LeO.refl _))
set_option maxHeartbeats 4000000 in
set_option maxRecDepth 100000 in
theorem impl_OrOf.calls (k : Nat) (A0 : Option Addr) (c0 : Nat) (l0 : List (S27)) (A1 : Option Addr) (c1 : Nat) (l1 : List (S27)) (r1 : List (S27)) (r2 : Bool) (w : World) (hr0 : Kd.C k27 w A0 l0.length l0) (hc0 : l0.length ≤ c0) (hr1 : Kd.C k27 w A1 l1.length l1) (hc1 : l1.length ≤ c1) (h : impl_OrOf.f k l0 l1 = some (r1, r2)) :
  Calls Try.prog 58 #[.slice A0 l0.length c0, .slice A1 l1.length c1] w fun e w' => ∃ v0_ : Value, e = .returned (.tuple #[v0_, .bool r2]) ∧ Kd.S k27 27 w' w.heap.size (fun _ => True) v0_ r1 ∧ Below w.heap.size w w' := by
 unfold impl_OrOf.f at h
 obtain ⟨t, ht, h⟩ := Option.bind_eq_some_iff.1 h
 have HT := Aside0.mk ht
 have HH := Aside0.mk h
 have HR0 := Aside0.mk hr0
 have HC0 := Aside0.mk hc0
 have HR1 := Aside0.mk hr1
 have HC1 := Aside0.mk hc1
 have HB := Aside0.mk (Below.refl w.heap.size w)
 clear ht h hr0 hc0 hr1 hc1
 go_enter Try.func58, Try.ntmps58
 go_wp2_with (go_at_call 29;fail)
 refine (impl_OccsOk.calls k A0 c0 l0 t _ (Kd.C_below HR0.out HB.out) HC0.out HT.out).mono ?_
 rintro e w' ⟨rfl, hb⟩
 have n0_ := Aside0.mk (below_step HB.out hb)
 clear HB hb
 have HB := n0_
 clear n0_
 cases t with
 | false =>
  go_wp2
  go_ret2
  have h1 : (([] : List S27), false) = (r1, r2) := Option.some.inj HH.out
  simp only [Prod.mk.injEq] at h1
  obtain ⟨rfl, rfl⟩ := h1
  exact ⟨_, rfl, Kd.S_nil _ _ _ _ _, HB.out⟩
 | true =>
  obtain ⟨u, hu, h⟩ := Option.bind_eq_some_iff.1 (show ((impl_OccsOk.f k l1).bind fun u => (if u = true then (impl_putAll.f k l0 l1).bind fun m => impl_few.f k m else some ([], false))) = some (r1, r2) from by have := HH.out;rw [if_pos rfl] at this;exact this)
  have HU := Aside0.mk hu
  clear HH
  have HH := Aside0.mk h
  clear hu h
  go_wp2_with (go_at_call 29;fail)
  refine (impl_OccsOk.calls k A1 c1 l1 u _ (Kd.C_below HR1.out HB.out) HC1.out HU.out).mono ?_
  rintro e w' ⟨rfl, hb⟩
  have n0_ := Aside0.mk (below_step HB.out hb)
  clear HB hb
  have HB := n0_
  clear n0_
  cases u with
  | false =>
   go_wp2
   go_ret2
   have h1 : (([] : List S27), false) = (r1, r2) := Option.some.inj HH.out
   simp only [Prod.mk.injEq] at h1
   obtain ⟨rfl, rfl⟩ := h1
   exact ⟨_, rfl, Kd.S_nil _ _ _ _ _, HB.out⟩
  | true =>
   obtain ⟨m, hm, hp⟩ := Option.bind_eq_some_iff.1 (show ((impl_putAll.f k l0 l1).bind fun m => impl_few.f k m) = some (r1, r2) from by have := HH.out;rw [if_pos rfl] at this;exact this)
   have HM := Aside0.mk hm
   have HP := Aside0.mk hp
   clear hm hp
   go_wp2_with (go_at_call 89;fail)
   refine (impl_putAll.calls k A0 c0 l0 A1 c1 l1 m _ (Kd.C_below HR0.out HB.out) HC0.out (Kd.C_below HR1.out HB.out) HC1.out HM.out).mono ?_
   rintro e w4 ⟨A4, c4, rfl, hl4, hr4, hb⟩
   have HL4 := Aside0.mk hl4
   have HR4 := Aside0.mk hr4
   clear hl4 hr4
   have n0_ := Aside0.mk (below_step HB.out hb)
   clear HB hb
   have HB := n0_
   clear n0_
   go_wp2_with (go_at_call 88;fail)
   refine (impl_few.calls k A4 c4 m r1 r2 _ HR4.out HL4.out HP.out).mono ?_
   rintro e w5 ⟨v5, rfl, hs, hb⟩
   have HS := Aside0.mk (Kd.S_lower hs HB.out.size)
   clear hs
   have n0_ := Aside0.mk (below_step HB.out hb)
   clear HB hb
   have HB := n0_
   clear n0_
   go_wp2
   go_ret2
   exact ⟨_, rfl, HS.out, HB.out⟩

end Go.Proofs.Ytiplpckgmikmeaa.M
namespace Go.Proofs.Ytiplpckgmikmeaa.M
set_option linter.unusedVariables false
set_option linter.unusedSimpArgs false
open Go.RowKit Go.Proofs.YtiplpckgmikmeaaW.PrintWords Go.Proofs.YtiplpckgmikmeaaW.PrintLast

def Mid (l : List S27) : Prop := ∀ x ∈ l, x.f2.length ≤ 1048576
theorem Mid.short {l : List S27} (h : Mid l) : Short l := fun x hx => Nat.le_trans (h x hx) (by omega)
theorem Mid.at_ {l : List S27} (h : Mid l) (i : Int) : (rd_T27 l i).f2.length ≤ 1048576 := by
  unfold rd_T27
  rw [List.getD_eq_getElem?_getD]
  rcases hx : l[i.toNat]? with _ | x
  · decide
  · exact h x (List.mem_of_getElem? hx)
theorem Mid.get {l : List S27} (h : Mid l) (n : Nat) : (l.getD n z27).f2.length ≤ 1048576 := h.at_ (n : Int)
theorem Mid.ins {l : List S27} (h : Mid l) {o : S27} (ho : o.f2.length ≤ 1048576) : Mid (insO l o) := fun x hx => by
  rcases (mem_insO x l o).1 hx with hx | rfl
  · exact h x hx
  · exact ho
theorem clone_is (o : S27) (ho : o.f2.length ≤ 1048576) : impl_Occ_clone.f o.f0 o.f1 o.f2 = some (o.f0, o.f1, o.f2) := by
  unfold impl_Occ_clone.f
  rw [if_pos (by rw [List.length_nil]; omega), List.nil_append]
theorem l3Copy_is (o : S27) (ho : o.f2.length ≤ 1048576) : spec_l3Copy.f o.f0 o.f1 o.f2 = some (o.f0, o.f1, o.f2) := by
  unfold spec_l3Copy.f
  simp only [Option.bind_some, List.nil_append, List.length_nil]
  rw [if_pos (by omega)]
theorem take_next (l : List S27) (n : Nat) (h : n < l.length) : l.take n ++ [rd_T27 l (n : Int)] = l.take (n + 1) := by
  have e : rd_T27 l (n : Int) = l[n] := by
    show l.getD n z27 = l[n]
    exact getD_in h
  rw [e, List.take_succ_eq_append_getElem h]
section
variable (l : List S27) (hl : l.length ≤ 1048576) (hs : Mid l)
include hl hs
theorem cloneOccs_l0_ev : ∀ d n : Nat, n + d = l.length → Ev (fun k => impl_cloneOccs.l0 k (l.take n) l (l.length : Int) (n : Int)) l := by
  intro d
  induction d with
  | zero =>
    intro n h
    refine Ev.step (fun k => by simp only [impl_cloneOccs.l0]; rw [if_neg (by omega)]) (Ev.val (Ev.now _) ?_)
    exact List.take_of_length_le (by omega)
  | succ d ih =>
    intro n h
    have hw : wrap64 ((n : Int) + 1) = ((n + 1 : Nat) : Int) := by rw [w_small (by omega) (by omega)]; omega
    refine Ev.step (fun k => by simp only [impl_cloneOccs.l0]; rw [if_pos (by omega), if_pos (by omega), if_pos (by omega), hw]) ?_
    refine Ev.bind (Ev.one (fun _ => clone_is _ (hs.at_ (n : Int)))) ?_
    refine Ev.pos (by rw [List.length_take]; omega) ?_
    rw [take_next l n (by omega)]
    exact ih (n + 1) (by omega)
theorem cloneOccs_ev : Ev (fun k => impl_cloneOccs.f k l) l := cloneOccs_l0_ev l hl hs l.length 0 (by omega)
theorem l3List_l0_ev : ∀ d n : Nat, n + d = l.length → Ev (fun k => spec_l3List.l0 k l (l.take n) (n : Int)) l := by
  intro d
  induction d with
  | zero =>
    intro n h
    refine Ev.step (fun k => by simp only [spec_l3List.l0]; rw [if_neg (by omega)]) (Ev.val (Ev.now _) ?_)
    exact List.take_of_length_le (by omega)
  | succ d ih =>
    intro n h
    have hw : wrap64 ((n : Int) + 1) = ((n + 1 : Nat) : Int) := by rw [w_small (by omega) (by omega)]; omega
    refine Ev.step (fun k => by simp only [spec_l3List.l0]; rw [if_pos (by omega), if_pos (by omega), hw]) ?_
    refine Ev.bind (Ev.one (fun _ => l3Copy_is _ (hs.at_ (n : Int)))) ?_
    refine Ev.pos (by rw [List.length_take]; omega) ?_
    rw [take_next l n (by omega)]
    exact ih (n + 1) (by omega)
theorem l3List_ev : Ev (fun k => spec_l3List.f k l) l := l3List_l0_ev l hl hs l.length 0 (by omega)
end
def toldO (l : List S27) : List S27 × Bool := if 40 < l.length then ([], false) else (l, true)
theorem few_ev (l : List S27) (hl : l.length ≤ 1048576) (hs : Mid l) : Ev (fun k => impl_few.f k l) (toldO l) := by
  unfold impl_few.f toldO
  by_cases c : 40 < l.length
  · rw [if_pos c]; exact Ev.pos (by omega) (Ev.now _)
  · rw [if_neg c]; exact Ev.neg (by omega) (Ev.bindS (cloneOccs_ev l hl hs) rfl)
theorem l4Told_ev (l : List S27) (hl : l.length ≤ 1048576) (hs : Mid l) : Ev (fun k => spec_l4Told.f k l) (toldO l) := by
  unfold spec_l4Told.f toldO
  by_cases c : 40 < l.length
  · rw [if_pos c]; exact Ev.pos (by omega) (Ev.now _)
  · rw [if_neg c]; exact Ev.neg (by omega) (Ev.bindS (l3List_ev l hl hs) rfl)
def mergeO (a b : List S27) : List S27 := b.foldl insO a
theorem mem_mergeO (z : S27) : ∀ (b a : List S27), z ∈ mergeO a b ↔ z ∈ a ∨ z ∈ b
  | [], a => by simp [mergeO]
  | x :: b, a => by
    have ih := mem_mergeO z b (insO a x)
    unfold mergeO at ih ⊢
    rw [List.foldl_cons, ih, mem_insO, List.mem_cons, or_assoc]
theorem asc_mergeO : ∀ (b a : List S27), AscO a → AscO (mergeO a b)
  | [], a, h => h
  | x :: b, a, h => asc_mergeO b (insO a x) (asc_insO a x h)
theorem len_mergeO : ∀ (b a : List S27), (mergeO a b).length ≤ a.length + b.length
  | [], a => by simp [mergeO]
  | x :: b, a => by
    have h1 := len_mergeO b (insO a x)
    have h2 := len_insO a x
    unfold mergeO at h1 ⊢
    rw [List.foldl_cons, List.length_cons]
    omega
theorem Mid.merge {a b : List S27} (ha : Mid a) (hb : Mid b) : Mid (mergeO a b) := fun x hx => ((mem_mergeO x b a).1 hx).elim (ha x) (hb x)
theorem merge_next (a l : List S27) (n : Nat) (h : n < l.length) : insO (mergeO a (l.take n)) (rd_T27 l (n : Int)) = mergeO a (l.take (n + 1)) := by
  unfold mergeO
  rw [← take_next l n h, List.foldl_append]
  rfl
section
variable (a b : List S27) (ha : a.length + b.length ≤ 1048576) (hs : Mid a) (ht : Mid b)
include ha hs ht
theorem l4Merge_l0_ev : ∀ d n : Nat, n + d = b.length → Ev (fun k => spec_l4Merge.l0 k (mergeO a (b.take n)) b (n : Int)) (mergeO a b) := by
  intro d
  induction d with
  | zero =>
    intro n h
    refine Ev.step (fun k => by simp only [spec_l4Merge.l0]; rw [if_neg (by omega)]) (Ev.val (Ev.now _) ?_)
    rw [List.take_of_length_le (by omega)]
  | succ d ih =>
    intro n h
    have hw : wrap64 ((n : Int) + 1) = ((n + 1 : Nat) : Int) := by rw [w_small (by omega) (by omega)]; omega
    have hm : (mergeO a (b.take n)).length ≤ 1048576 := by have := len_mergeO (b.take n) a; rw [List.length_take] at this; omega
    refine Ev.step (fun k => by simp only [spec_l4Merge.l0]; rw [if_pos (by omega), if_pos (by omega), hw]) ?_
    refine Ev.bind (l3Put_ev (mergeO a (b.take n)) (by omega) (hs.merge (fun x hx => ht x (List.mem_of_mem_take hx))).short (rd_T27 b (n : Int)) (by have := ht.at_ (n : Int); omega)) ?_
    rw [putS_ins, merge_next a b n (by omega)]
    exact ih (n + 1) (by omega)
theorem l4Merge_ev : Ev (fun k => spec_l4Merge.f k a b) (mergeO a b) := l4Merge_l0_ev a b ha hs ht b.length 0 (by omega)
theorem putAll_l0_ev (hA : AscO a) : ∀ d n : Nat, n + d = b.length → Ev (fun k => impl_putAll.l0 k (mergeO a (b.take n)) b (n : Int)) (mergeO a b) := by
  intro d
  induction d with
  | zero =>
    intro n h
    refine Ev.step (fun k => by simp only [impl_putAll.l0]; rw [if_neg (by omega)]) (Ev.val (Ev.now _) ?_)
    rw [List.take_of_length_le (by omega)]
  | succ d ih =>
    intro n h
    have hw : wrap64 ((n : Int) + 1) = ((n + 1 : Nat) : Int) := by rw [w_small (by omega) (by omega)]; omega
    have hm : (mergeO a (b.take n)).length ≤ 1048576 := by have := len_mergeO (b.take n) a; rw [List.length_take] at this; omega
    refine Ev.step (fun k => by simp only [impl_putAll.l0]; rw [if_pos (by omega), if_pos (by omega), hw]) ?_
    refine Ev.bind (impl_put_ev (mergeO a (b.take n)) (by omega) (hs.merge (fun x hx => ht x (List.mem_of_mem_take hx))).short (asc_mergeO _ _ hA) (rd_T27 b (n : Int)) (by have := ht.at_ (n : Int); omega)) ?_
    rw [merge_next a b n (by omega)]
    exact ih (n + 1) (by omega)
theorem putAll_ev (hA : AscO a) : Ev (fun k => impl_putAll.f k a b) (mergeO a b) := putAll_l0_ev a b ha hs ht hA b.length 0 (by omega)
end
theorem occsGo_asc : ∀ (l : List S27) (p : Option S27), occsGo p l = true ↔ AscO l ∧ (∀ x ∈ l, occOkB x = true) ∧ (∀ y, p = some y → ∀ x ∈ l, lessO y x = true)
  | [], p => by simp [occsGo, AscO]
  | x :: l, p => by
    have ih := occsGo_asc l (some x)
    have e : occsGo p (x :: l) = true ↔ occOkB x = true ∧ (∀ y, p = some y → lessO y x = true) ∧ occsGo (some x) l = true := by
      cases p with
      | none =>
        rw [show occsGo none (x :: l) = (occOkB x && occsGo (some x) l) from rfl]
        simp
      | some y =>
        rw [show occsGo (some y) (x :: l) = (occOkB x && (lessO y x && occsGo (some x) l)) from rfl]
        simp
    rw [e, ih]
    unfold AscO
    rw [List.pairwise_cons]
    constructor
    · rintro ⟨h1, h2, h3, h4, h5⟩
      refine ⟨⟨h5 x rfl, h3⟩, fun z hz => ?_, fun y hy z hz => ?_⟩
      · rcases List.mem_cons.1 hz with rfl | hz
        · exact h1
        · exact h4 z hz
      · rcases List.mem_cons.1 hz with rfl | hz
        · exact h2 y hy
        · exact lessO_trans (h2 y hy) (h5 x rfl z hz)
    · rintro ⟨⟨h1, h2⟩, h3, h4⟩
      exact ⟨h3 x (by simp), fun y hy => h4 y hy x (by simp), h2, fun z hz => h3 z (by simp [hz]), fun y hy => by injection hy with hy; subst hy; exact h1⟩
theorem occsOkB_iff (l : List S27) : occsOkB l = true ↔ AscO l ∧ (∀ x ∈ l, occOkB x = true) ∧ l.length ≤ 40 := by
  unfold occsOkB
  rw [Bool.and_eq_true, occsGo_asc, decide_eq_true_iff]
  constructor
  · rintro ⟨⟨h1, h2, _⟩, h3⟩
    exact ⟨h1, h2, h3⟩
  · rintro ⟨h1, h2, h3⟩
    exact ⟨⟨h1, h2, fun y hy => by cases hy⟩, h3⟩
theorem occOk_len {o : S27} (h : occOkB o = true) : o.f2.length ≤ 24 := by
  unfold occOkB at h
  simp only [Bool.and_eq_true, decide_eq_true_iff] at h
  have := idsGo_len o.f2 (-1) h.2 (by omega)
  omega
theorem occsOk_mid {l : List S27} (h : occsOkB l = true) : Mid l := fun x hx => by
  have := occOk_len (((occsOkB_iff l).1 h).2.1 x hx)
  omega
def putO (l : List S27) (o : S27) : List S27 := if occsOkB l = true ∧ occOkB o = true then insO l o else []
theorem impl_OccsPut_ev (l : List S27) (hl : l.length ≤ 1048576) (hs : Mid l) (o : S27) (ho : o.f2.length ≤ 1048576) : Ev (fun k => impl_OccsPut.f k l o.f0 o.f1 o.f2) (putO l o) := by
  unfold impl_OccsPut.f putO
  refine Ev.bind (impl_OccsOk_ev l (by omega) hs.short) ?_
  by_cases c : occsOkB l = true
  · refine Ev.pos c (Ev.bind (impl_OccOk_ev o (by omega)) ?_)
    by_cases c2 : occOkB o = true
    · rw [if_pos ⟨c, c2⟩]
      obtain ⟨h1, h2, h3⟩ := (occsOkB_iff l).1 c
      refine Ev.pos c2 (Ev.bind (impl_put_ev l (by omega) hs.short h1 o (by omega)) ?_)
      exact cloneOccs_ev _ (by have := len_insO l o; omega) (hs.ins ho)
    · rw [if_neg (fun h => c2 h.2)]
      exact Ev.neg c2 (Ev.now _)
  · rw [if_neg (fun h => c h.1)]
    exact Ev.neg c (Ev.now _)
theorem spec_OccsPut_ev (l : List S27) (hl : l.length ≤ 1048576) (hs : Mid l) (o : S27) (ho : o.f2.length ≤ 1048576) : Ev (fun k => spec_OccsPut.f k l o.f0 o.f1 o.f2) (putO l o) := by
  unfold spec_OccsPut.f putO
  refine Ev.bind (spec_OccsOk_ev l (by omega) hs.short) ?_
  by_cases c : occsOkB l = true
  · refine Ev.pos c (Ev.bind (spec_OccOk_ev o (by omega)) ?_)
    by_cases c2 : occOkB o = true
    · rw [if_pos ⟨c, c2⟩]
      refine Ev.pos c2 (Ev.bind (l3List_ev l hl hs) ?_)
      exact Ev.val (l3Put_ev l (by omega) hs.short o (by omega)) (putS_ins l o)
    · rw [if_neg (fun h => c2 h.2)]
      exact Ev.neg c2 (Ev.now _)
  · rw [if_neg (fun h => c h.1)]
    exact Ev.neg c (Ev.now _)
def orO (a b : List S27) : List S27 × Bool := if occsOkB a = true ∧ occsOkB b = true then toldO (mergeO a b) else ([], false)
theorem impl_OrOf_ev (a b : List S27) (hl : a.length ≤ 1048576) (hs : Mid a) (hm : b.length ≤ 1048576) (ht : Mid b) : Ev (fun k => impl_OrOf.f k a b) (orO a b) := by
  unfold impl_OrOf.f orO
  refine Ev.bind (impl_OccsOk_ev a (by omega) hs.short) ?_
  by_cases c : occsOkB a = true
  · refine Ev.pos c (Ev.bind (impl_OccsOk_ev b (by omega) ht.short) ?_)
    by_cases c2 : occsOkB b = true
    · rw [if_pos ⟨c, c2⟩]
      obtain ⟨h1, _, h3⟩ := (occsOkB_iff a).1 c
      obtain ⟨_, _, h6⟩ := (occsOkB_iff b).1 c2
      refine Ev.pos c2 (Ev.bind (putAll_ev a b (by omega) hs ht h1) ?_)
      exact few_ev _ (by have := len_mergeO b a; omega) (hs.merge ht)
    · rw [if_neg (fun h => c2 h.2)]
      exact Ev.neg c2 (Ev.now _)
  · rw [if_neg (fun h => c h.1)]
    exact Ev.neg c (Ev.now _)
theorem spec_OrOf_ev (a b : List S27) (hl : a.length ≤ 1048576) (hs : Mid a) (hm : b.length ≤ 1048576) (ht : Mid b) : Ev (fun k => spec_OrOf.f k a b) (orO a b) := by
  unfold spec_OrOf.f orO
  refine Ev.bind (spec_OccsOk_ev a (by omega) hs.short) ?_
  by_cases c : occsOkB a = true
  · refine Ev.pos c (Ev.bind (spec_OccsOk_ev b (by omega) ht.short) ?_)
    by_cases c2 : occsOkB b = true
    · rw [if_pos ⟨c, c2⟩]
      obtain ⟨_, _, h3⟩ := (occsOkB_iff a).1 c
      obtain ⟨_, _, h6⟩ := (occsOkB_iff b).1 c2
      refine Ev.pos c2 (Ev.bind (l3List_ev a hl hs) (Ev.bind (l4Merge_ev a b (by omega) hs ht) ?_))
      exact l4Told_ev _ (by have := len_mergeO b a; omega) (hs.merge ht)
    · rw [if_neg (fun h => c2 h.2)]
      exact Ev.neg c2 (Ev.now _)
  · rw [if_neg (fun h => c h.1)]
    exact Ev.neg c (Ev.now _)
end Go.Proofs.Ytiplpckgmikmeaa.M
namespace Go.Proofs.Ytiplpckgmikmeaa.M
set_option linter.unusedVariables false
set_option linter.unusedSimpArgs false
open Go.RowKit Go.Proofs.YtiplpckgmikmeaaW.PrintWords Go.Proofs.YtiplpckgmikmeaaW.PrintLast

def shO (o : S27) (n : Int) : S27 := ⟨o.f0, o.f1 + n, o.f2⟩
def inTime (n till : Int) (o : S27) : Bool := decide (o.f1 + n ≤ till) && decide (o.f1 + n ≤ 2000)
theorem inTime_iff {n till : Int} {o : S27} : inTime n till o = true ↔ o.f1 + n ≤ till ∧ o.f1 + n ≤ 2000 := by
  unfold inTime; rw [Bool.and_eq_true, decide_eq_true_iff, decide_eq_true_iff]
def plusL (l : List S27) (n till : Int) : List S27 := (l.filter (inTime n till)).map (fun o => shO o n)
theorem mem_plusL {l : List S27} {n till : Int} {z : S27} : z ∈ plusL l n till ↔ ∃ o, o ∈ l ∧ inTime n till o = true ∧ shO o n = z := by
  unfold plusL
  rw [List.mem_map]
  constructor
  · rintro ⟨o, h, e⟩
    obtain ⟨h1, h2⟩ := List.mem_filter.1 h
    exact ⟨o, h1, h2, e⟩
  · rintro ⟨o, h1, h2, e⟩
    exact ⟨o, List.mem_filter.2 ⟨h1, h2⟩, e⟩
theorem shO_less (a b : S27) (n : Int) : lessO (shO a n) (shO b n) = lessO a b := by
  rw [Bool.eq_iff_iff, lessO_iff, lessO_iff]
  unfold shO
  simp only
  constructor
  · rintro (h | ⟨h, g⟩)
    · exact .inl (by omega)
    · exact .inr ⟨by omega, g⟩
  · rintro (h | ⟨h, g⟩)
    · exact .inl (by omega)
    · exact .inr ⟨by omega, g⟩
theorem asc_plusL {l : List S27} (h : AscO l) (n till : Int) : AscO (plusL l n till) := by
  unfold plusL AscO
  rw [List.pairwise_map]
  refine (h.filter _).imp ?_
  intro a b hab
  rw [shO_less]
  exact hab
theorem len_plusL (l : List S27) (n till : Int) : (plusL l n till).length ≤ l.length := by
  unfold plusL
  rw [List.length_map]
  exact List.length_filter_le _ _
theorem occOk_iff (o : S27) : occOkB o = true ↔ 1 ≤ o.f0 ∧ o.f0 ≤ o.f1 ∧ o.f1 ≤ 2000 ∧ 1 ≤ o.f2.length ∧ idsGo (-1) o.f2 = true := by
  unfold occOkB
  simp only [Bool.and_eq_true, decide_eq_true_iff, and_assoc]
theorem plus_ok {l : List S27} (h : occsOkB l = true) (n till : Int) (hn : 0 ≤ n) : occsOkB (plusL l n till) = true := by
  obtain ⟨h1, h2, h3⟩ := (occsOkB_iff l).1 h
  refine (occsOkB_iff _).2 ⟨asc_plusL h1 n till, fun z hz => ?_, by have := len_plusL l n till; omega⟩
  obtain ⟨o, ho, ht, rfl⟩ := mem_plusL.1 hz
  obtain ⟨g1, g2, g3, g4, g5⟩ := (occOk_iff o).1 (h2 o ho)
  have := inTime_iff.1 ht
  exact (occOk_iff _).2 ⟨g1, by show o.f0 ≤ o.f1 + n; omega, by show o.f1 + n ≤ 2000; omega, g4, g5⟩
theorem Mid.plus {l : List S27} (h : Mid l) (n till : Int) : Mid (plusL l n till) := fun z hz => by
  obtain ⟨o, ho, _, rfl⟩ := mem_plusL.1 hz
  exact h o ho
theorem plus_next (l : List S27) (n till : Int) (m : Nat) (h : m < l.length) : plusL (l.take (m + 1)) n till = plusL (l.take m) n till ++ (if inTime n till (rd_T27 l (m : Int)) = true then [shO (rd_T27 l (m : Int)) n] else []) := by
  rw [← take_next l m h]
  unfold plusL
  rw [filter_snoc, List.map_append]
  by_cases c : inTime n till (rd_T27 l (m : Int)) = true
  · rw [if_pos c, if_pos c]; rfl
  · rw [if_neg c, if_neg c]; rfl
theorem later_is (o : S27) (ho : o.f2.length ≤ 1048576) (n : Int) (h : wrap64 (o.f1 + n) = o.f1 + n) : impl_later.f o.f0 o.f1 o.f2 n = some ((shO o n).f0, (shO o n).f1, (shO o n).f2) := by
  unfold impl_later.f
  rw [clone_is o ho]
  simp only [Option.bind_some, h]
  rfl
theorem l5Later_is (o : S27) (ho : o.f2.length ≤ 1048576) (n : Int) (h : wrap64 (o.f1 + n) = o.f1 + n) : spec_l5Later.f o.f0 o.f1 o.f2 n = some ((shO o n).f0, (shO o n).f1, (shO o n).f2) := by
  unfold spec_l5Later.f
  rw [l3Copy_is o ho]
  simp only [Option.bind_some, h]
  rfl
theorem insO_end : ∀ (l : List S27) (o : S27), (∀ x ∈ l, lessO x o = true) → insO l o = l ++ [o]
  | [], o, _ => rfl
  | x :: l, o, h => by
    unfold insO
    rw [if_pos (h x (by simp)), insO_end l o (fun y hy => h y (by simp [hy]))]
    rfl
theorem rd_mem {l : List S27} {m : Nat} (h : m < l.length) : rd_T27 l (m : Int) ∈ l := by
  show l.getD m z27 ∈ l
  rw [getD_in h]
  exact List.getElem_mem _
def plusO (l : List S27) (n till : Int) : List S27 × Bool := if occsOkB l = true ∧ 1 ≤ n ∧ n ≤ 20 then (plusL l n till, true) else ([], false)
section
variable (l : List S27) (hl : l.length ≤ 1048576) (hs : Mid l) (n till : Int)
theorem rd_small (h : occsOkB l = true) (h1 : 1 ≤ n) (h2 : n ≤ 20) (m : Nat) (hm : m < l.length) : wrap64 ((rd_T27 l (m : Int)).f1 + n) = (rd_T27 l (m : Int)).f1 + n := by
  obtain ⟨_, g2, g3, _⟩ := (occOk_iff _).1 (((occsOkB_iff l).1 h).2.1 _ (rd_mem hm))
  exact w_small (by omega) (by omega)
include hl hs
theorem impl_PlusOf_l0_ev (h : occsOkB l = true) (h1 : 1 ≤ n) (h2 : n ≤ 20) : ∀ d m : Nat, m + d = l.length → Ev (fun k => impl_PlusOf.l0 k n till (plusL (l.take m) n till) l (l.length : Int) (m : Int)) (plusL l n till, true) := by
  intro d
  induction d with
  | zero =>
    intro m hm
    refine Ev.step (fun k => by simp only [impl_PlusOf.l0]; rw [if_neg (by omega)]) (Ev.val (Ev.now _) ?_)
    rw [List.take_of_length_le (by omega)]
  | succ d ih =>
    intro m hm
    have hw : wrap64 ((m : Int) + 1) = ((m + 1 : Nat) : Int) := by rw [w_small (by omega) (by omega)]; omega
    have hq := rd_small l n h h1 h2 m (by omega)
    refine Ev.step (fun k => by simp only [impl_PlusOf.l0]; rw [if_pos (by omega), if_pos (by omega), if_pos (by omega), hw, hq]) ?_
    have nx := ih (m + 1) (by omega)
    rw [plus_next l n till m (by omega)] at nx
    by_cases c : inTime n till (rd_T27 l (m : Int)) = true
    · rw [if_pos c] at nx
      have c' := inTime_iff.1 c
      refine Ev.pos (by unfold mn; omega) (Ev.bind (Ev.one (fun _ => later_is _ (hs.at_ (m : Int)) n hq)) ?_)
      exact Ev.pos (by have := len_plusL (l.take m) n till; rw [List.length_take] at this; omega) nx
    · rw [if_neg c, List.append_nil] at nx
      refine Ev.neg (fun hx => c (inTime_iff.2 ?_)) nx
      unfold mn at hx
      constructor <;> omega
theorem impl_PlusOf_ev : Ev (fun k => impl_PlusOf.f k l n till) (plusO l n till) := by
  unfold impl_PlusOf.f plusO
  refine Ev.bind (impl_OccsOk_ev l (by omega) hs.short) ?_
  by_cases c : occsOkB l = true
  · refine Ev.pos c (Ev.bind (Ev.one (fun _ => impl_in_is n 1 20)) ?_)
    by_cases h : 1 ≤ n ∧ n ≤ 20
    · rw [if_pos ⟨c, h⟩, decide_eq_true h.1, decide_eq_true h.2]
      refine Ev.step (fun k => by simp only [impl_PlusOf.j0, Bool.and_self, Bool.not_true]; rw [if_neg (by decide)]) ?_
      exact impl_PlusOf_l0_ev l hl hs n till c h.1 h.2 l.length 0 (by omega)
    · rw [if_neg (fun hx => h hx.2)]
      have hb : (decide (1 ≤ n) && decide (n ≤ 20)) = false := by
        rw [Bool.and_eq_false_iff, decide_eq_false_iff_not, decide_eq_false_iff_not]
        omega
      rw [hb]
      exact Ev.last (fun k => by simp only [impl_PlusOf.j0, Bool.not_false]; rw [if_pos trivial])
  · rw [if_neg (fun hx => c hx.1)]
    exact Ev.neg c (Ev.last (fun k => by simp only [impl_PlusOf.j0]; rw [if_pos trivial]))
theorem spec_PlusOf_l0_ev (h : occsOkB l = true) (h1 : 1 ≤ n) (h2 : n ≤ 20) : ∀ d m : Nat, m + d = l.length → Ev (fun k => spec_PlusOf.l0 k l n till (plusL (l.take m) n till) (m : Int)) (plusL l n till) := by
  intro d
  induction d with
  | zero =>
    intro m hm
    refine Ev.step (fun k => by simp only [spec_PlusOf.l0]; rw [if_neg (by omega)]) (Ev.val (Ev.now _) ?_)
    rw [List.take_of_length_le (by omega)]
  | succ d ih =>
    intro m hm
    have hw : wrap64 ((m : Int) + 1) = ((m + 1 : Nat) : Int) := by rw [w_small (by omega) (by omega)]; omega
    have hq := rd_small l n h h1 h2 m (by omega)
    refine Ev.step (fun k => by simp only [spec_PlusOf.l0]; rw [if_pos (by omega), if_pos (by omega), hw, hq]) ?_
    have nx := ih (m + 1) (by omega)
    rw [plus_next l n till m (by omega)] at nx
    by_cases c : inTime n till (rd_T27 l (m : Int)) = true
    · rw [if_pos c] at nx
      refine Ev.pos (inTime_iff.1 c) (Ev.bind (Ev.one (fun _ => l5Later_is _ (hs.at_ (m : Int)) n hq)) ?_)
      have hlen := len_plusL (l.take m) n till
      rw [List.length_take] at hlen
      have hsm : Mid (l.take m) := fun x hx => hs x (List.mem_of_mem_take hx)
      refine Ev.bind (l3Put_ev (plusL (l.take m) n till) (by omega) (hsm.plus n till).short (shO (rd_T27 l (m : Int)) n) (by have := hs.at_ (m : Int); show (rd_T27 l (m : Int)).f2.length < _; omega)) ?_
      rw [putS_ins, insO_end _ _ (fun z hz => ?_)]
      · exact nx
      · obtain ⟨o, ho, _, rfl⟩ := mem_plusL.1 hz
        rw [shO_less]
        obtain ⟨j, hj, rfl⟩ := List.getElem_of_mem ho
        rw [List.length_take] at hj
        rw [List.getElem_take]
        have := asc_at ((occsOkB_iff l).1 h).1 (i := j) (j := m) (by omega) (by omega)
        rw [getD_in (by omega)] at this
        exact this
    · rw [if_neg c, List.append_nil] at nx
      exact Ev.neg (fun hx => c (inTime_iff.2 hx)) nx
theorem spec_PlusOf_ev : Ev (fun k => spec_PlusOf.f k l n till) (plusO l n till) := by
  unfold spec_PlusOf.f plusO
  refine Ev.bind (spec_OccsOk_ev l (by omega) hs.short) ?_
  by_cases c : occsOkB l = true ∧ 1 ≤ n ∧ n ≤ 20
  · rw [if_pos c]
    have hlen := len_plusL l n till
    have h40 := ((occsOkB_iff l).1 c.1).2.2
    refine Ev.pos ⟨c.1, by omega, by omega⟩ (Ev.bind (spec_PlusOf_l0_ev l hl hs n till c.1 c.2.1 c.2.2 l.length 0 (by omega)) ?_)
    refine Ev.val (l4Told_ev _ (by omega) (hs.plus n till)) ?_
    unfold toldO
    rw [if_neg (by omega)]
  · rw [if_neg c]
    exact Ev.neg (fun hx => c ⟨hx.1, by omega, by omega⟩) (Ev.now _)
end
theorem plus_plus (l : List S27) (n m till : Int) (hm : 0 ≤ m) : plusL (plusL l n till) m till = plusL l (n + m) till := by
  unfold plusL
  rw [List.filter_map, List.map_map, List.filter_filter]
  have e : (fun o => shO o m) ∘ (fun o => shO o n) = fun o => shO o (n + m) := by
    funext o
    simp only [Function.comp_apply, shO]
    rw [Int.add_assoc]
  rw [e]
  congr 1
  refine List.filter_congr (fun o _ => ?_)
  rw [Bool.eq_iff_iff, Bool.and_eq_true, Function.comp_apply, inTime_iff, inTime_iff, inTime_iff]
  unfold shO
  simp only
  omega
theorem plus_merge (a b : List S27) (ha : AscO a) (n till : Int) : plusL (mergeO a b) n till = mergeO (plusL a n till) (plusL b n till) := by
  refine ascO_ext _ _ (asc_plusL (asc_mergeO b a ha) n till) (asc_mergeO _ _ (asc_plusL ha n till)) (fun z => ?_)
  rw [mem_mergeO, mem_plusL, mem_plusL, mem_plusL]
  constructor
  · rintro ⟨o, h1, h2, h3⟩
    rcases (mem_mergeO o b a).1 h1 with h | h
    · exact .inl ⟨o, h, h2, h3⟩
    · exact .inr ⟨o, h, h2, h3⟩
  · rintro (⟨o, h1, h2, h3⟩ | ⟨o, h1, h2, h3⟩)
    · exact ⟨o, (mem_mergeO o b a).2 (.inl h1), h2, h3⟩
    · exact ⟨o, (mem_mergeO o b a).2 (.inr h1), h2, h3⟩
theorem plus_till : ∀ (l : List S27) (n till : Int), AscO l → plusL l n (till - 1) = (plusL l n till).take (plusL l n (till - 1)).length
  | [], _, _, _ => rfl
  | x :: l, n, till, h => by
    have h1 := List.pairwise_cons.1 h
    have ih := plus_till l n till h1.2
    by_cases c : inTime n (till - 1) x = true
    · have c2 : inTime n till x = true := inTime_iff.2 (by have := inTime_iff.1 c; omega)
      have e1 : plusL (x :: l) n (till - 1) = shO x n :: plusL l n (till - 1) := by unfold plusL; rw [List.filter_cons, if_pos c, List.map_cons]
      have e2 : plusL (x :: l) n till = shO x n :: plusL l n till := by unfold plusL; rw [List.filter_cons, if_pos c2, List.map_cons]
      rw [e1, e2, List.length_cons, List.take_succ_cons, ← ih]
    · have e1 : plusL (x :: l) n (till - 1) = [] := by
        unfold plusL
        rw [List.filter_cons, if_neg c, List.map_eq_nil_iff, List.filter_eq_nil_iff]
        intro y hy hc
        refine c (inTime_iff.2 ?_)
        have h2 := (lessO_iff x y).1 (h1.1 y hy)
        have h3 := inTime_iff.1 hc
        omega
      rw [e1]; rfl
end Go.Proofs.Ytiplpckgmikmeaa.M
namespace Go.Proofs.Ytiplpckgmikmeaa.M
open Go.RowKit Go.Proofs.YtiplpckgmikmeaaW.PrintWords Go.Proofs.YtiplpckgmikmeaaW.PrintLast Go.Proofs.YtiplpckgmikmeaaW.PrintMore
attribute [local go_sem] max2_int min2_int max_two min_two max_three min_three max_four min_four
set_option linter.unusedVariables false
set_option linter.unusedSimpArgs false

def spec_l4Draw.f (k : Nat) (s0_0 : List Int) (s0_1 : Int) : Option (Int × Int) := (spec_l14Rd_num.f k s0_0 s0_1 (([0, 1, 2, 3, 4, 0, 1, 2, 3, 4, 0, 1, 2, 3, 4, (-1), 5] : List Int))).bind fun bt104 => (some (bt104.1, bt104.2))
theorem spec_l4Draw.mono : ∀ a0 a1 k, LeO (spec_l4Draw.f k a0 a1) (spec_l4Draw.f (k + 1) a0 a1) := by
 intro a0 a1 k
 unfold spec_l4Draw.f
 repeat' first
   | (with_reducible exact spec_l14Rd_num.mono _ _ _ _)
   | (with_reducible exact LeO.refl _)
   | (with_reducible exact LeO.none _)
   | (with_reducible refine LeO.ite ?_ ?_)
   | (with_reducible refine LeO.bind ?_ (fun _ => ?_))
   | exact spec_l14Rd_num.mono _ _ _ _
   | exact LeO.none _
   | refine LeO.ite ?_ ?_
   | refine LeO.bind ?_ (fun _ => ?_)
set_option maxHeartbeats 8000000 in
set_option maxRecDepth 100000 in
theorem spec_l4Draw.calls (k : Nat) (g : Nat) (s0_0 : List Int) (s0_1 : Int) (r1 : Int) (r2 : Int) (w0 w : World) (hI : IsS100 w0 w g s0_0 s0_1) (hB : Below w0.heap.size w0 w) (h : spec_l4Draw.f k s0_0 s0_1 = some (r1, r2)) :
  Calls Try.prog 108 #[.pointer (some ⟨g, 0, none⟩)] w fun e w' => e = .returned (.int .i64 r1) ∧ IsS100 w0 w' g s0_0 r2 ∧ Below w0.heap.size w0 w' ∧ KeepBut w w' g none := by
 have HI0 := Aside0.mk hI
 have HK := Aside0.mk (KeepBut.refl w g none)
 have HL := Aside0.mk hB.size
 clear hI
 have HW0 := Aside0.mk hB.size
 have HB := Aside0.mk hB
 clear hB
 have H : ((spec_l14Rd_num.f k s0_0 s0_1 (([0, 1, 2, 3, 4, 0, 1, 2, 3, 4, 0, 1, 2, 3, 4, (-1), 5] : List Int))).bind fun bt104 => (some (bt104.1, bt104.2))) = some (r1, r2) := h
 clear h
 obtain ⟨y101, hy101⟩ : ∃ y_ : List Int, y_ = (([0, 1, 2, 3, 4, 0, 1, 2, 3, 4, 0, 1, 2, 3, 4, (-1), 5] : List Int)) := ⟨_, rfl⟩
 replace H : ((spec_l14Rd_num.f k s0_0 s0_1 y101).bind fun bt104 => (some (bt104.1, bt104.2))) = some (r1, r2) := by first | (rw [hy101];with_reducible exact H) | (have H2_ := (Option.bind_some _ _).symm.trans H;rw [hy101];with_reducible exact H2_) | (have H2_ := (Option.bind_some _ _).symm.trans H;with_reducible exact H2_) | with_reducible exact H | (rw [hy101];exact H) | exact H
 have Ny101 := Aside0.mk hy101
 clear hy101
 replace H := Option.bind_eq_some_iff.mp H
 obtain ⟨⟨t104, t105⟩, A20, H⟩ := H
 replace H : (some (t104, t105)) = some (r1, r2) := H
 have A2 := Aside0.mk A20
 clear A20
 simp only [Option.some.injEq, Prod.mk.injEq] at H
 obtain ⟨rfl, rfl⟩ := H
 go_enter Try.func108, Try.ntmps108
 go_wp2_with (first | ((with_reducible refine gate_dst (N := 4) rfl ?_);refine Kd.R_lit (Kd.int .i64) _ 3 ?hg (N := 4) ?hd (xs := ([0, 1, 2, 3, 4, 0, 1, 2, 3, 4, 0, 1, 2, 3, 4, (-1), 5] : List Int)) (inner := [.int .i64 0, .int .i64 1, .int .i64 2, .int .i64 3, .int .i64 4, .int .i64 0, .int .i64 1, .int .i64 2, .int .i64 3, .int .i64 4, .int .i64 0, .int .i64 1, .int .i64 2, .int .i64 3, .int .i64 4, .int .i64 (-1), .int .i64 5]) (ok := fun _ => True) (okp := fun _ => True) ?hr ?hp (fun _ hk => hk) trivial (Below.refl _ _) (Nat.le_refl _) (by simp) ?_;(case hd => rfl);(case hg => rfl);(case hr => first | (go_simp;done) | (go_simp;rfl));(case hp => exact (Reps.one (show Kd.M (Kd.int .i64) _ _ _ 0 [.int .i64 0] from rfl) (Reps.one (show Kd.M (Kd.int .i64) _ _ _ 1 [.int .i64 1] from rfl) (Reps.one (show Kd.M (Kd.int .i64) _ _ _ 2 [.int .i64 2] from rfl) (Reps.one (show Kd.M (Kd.int .i64) _ _ _ 3 [.int .i64 3] from rfl) (Reps.one (show Kd.M (Kd.int .i64) _ _ _ 4 [.int .i64 4] from rfl) (Reps.one (show Kd.M (Kd.int .i64) _ _ _ 0 [.int .i64 0] from rfl) (Reps.one (show Kd.M (Kd.int .i64) _ _ _ 1 [.int .i64 1] from rfl) (Reps.one (show Kd.M (Kd.int .i64) _ _ _ 2 [.int .i64 2] from rfl) (Reps.one (show Kd.M (Kd.int .i64) _ _ _ 3 [.int .i64 3] from rfl) (Reps.one (show Kd.M (Kd.int .i64) _ _ _ 4 [.int .i64 4] from rfl) (Reps.one (show Kd.M (Kd.int .i64) _ _ _ 0 [.int .i64 0] from rfl) (Reps.one (show Kd.M (Kd.int .i64) _ _ _ 1 [.int .i64 1] from rfl) (Reps.one (show Kd.M (Kd.int .i64) _ _ _ 2 [.int .i64 2] from rfl) (Reps.one (show Kd.M (Kd.int .i64) _ _ _ 3 [.int .i64 3] from rfl) (Reps.one (show Kd.M (Kd.int .i64) _ _ _ 4 [.int .i64 4] from rfl) (Reps.one (show Kd.M (Kd.int .i64) _ _ _ (-1) [.int .i64 (-1)] from rfl) (Reps.one (show Kd.M (Kd.int .i64) _ _ _ 5 [.int .i64 5] from rfl) (Reps.none _ _)))))))))))))))))));intro v102 w3 ho4 hb hg_ hnew_;clear hg_ hnew_;(first | rw [← Ny101.out] at ho4 | (simp only [Int.reduceToNat] at ho4;rw [← Ny101.out] at ho4));have HO103 := Aside0.mk (Kd.R_lower ho4 (keep_size (w := w) (g := g) (row := none) (by repeat (first | (with_reducible first | exact HK.out | apply KeepBut.set_ | apply keep_drewN | apply keep_drew | apply keep_alloc) | exact HK.out))));replace HK := Aside0.mk (KeepBut.trans (by repeat (first | (with_reducible first | exact HK.out | apply KeepBut.set_ | apply keep_drewN | apply keep_drew | apply keep_alloc) | exact HK.out)) (KeepBut.of_below hb g none) (.inl rfl));replace HB := Aside0.mk (below_step (by repeat (first | (with_reducible first | exact HB.out | apply below_alloc | apply pw_below_drewN | apply below_drew1 | refine below_set ?_ (IsS100.ge HI0.out)) | exact HB.out)) hb);replace HI0 := Aside0.mk (IsS100.below (by repeat (first | (with_reducible first | exact HI0.out | apply IsS100.alloc | apply IsS100.drewN | apply IsS100.drew | apply IsS100.set_1) | exact HI0.out)) hb);clear hb ho4;obtain ⟨Ao5, co5, eo5⟩ := Kd.R_slice HO103.out;subst eo5) | ((with_reducible refine gate_callee (f := 91) rfl ?_);refine goesL_ (some 5) rfl rfl Try.func91 (by kernel_rfl) rfl #[.pointer (some ⟨g, 0, none⟩), .slice Ao5 y101.length co5] rfl (by (try simp only [List.map_toArray, List.map_cons, List.map_nil]);first | done | rfl | (simp only [List.length_drop, List.length_take];rfl)) ?_;(with_reducible refine (spec_l14Rd_num.calls k g s0_0 s0_1 _ _ y101 t104 t105 w0 _ ?side1 ?side2 ?side3 ?side4 ?side5 A2.out).mono ?_);(case side1 => repeat (first | (with_reducible first | exact HI0.out | apply IsS100.alloc | apply IsS100.drewN | apply IsS100.drew | apply IsS100.set_1) | exact HI0.out));(case side2 => repeat (first | (with_reducible first | exact HB.out | apply below_alloc | apply pw_below_drewN | apply below_drew1 | refine below_set ?_ (IsS100.ge HI0.out)) | exact HB.out));(case side3 => repeat (first | exact (Kd.R_reads' HO103.out).2.2 | (with_reducible refine Kd.C_alloc ?_ _) | (with_reducible refine Kd.C_drewN ?_ _) | (with_reducible refine Kd.C_drew ?_)));(case side4 => exact (Kd.R_reads' HO103.out).2.1);(case side5 => exact far_slice (IsS100.own_ne HI0.out HO103.out (by decide)));rintro e w6 ⟨rfl, hi, hb, hk⟩;refine ⟨_, rfl, ?_⟩;replace HO103 := Aside0.mk (Kd.R_mono (Kd.R_keep (IsS100.apart (show IsS100 w0 _ g s0_0 s0_1 from by repeat (first | (with_reducible first | exact HI0.out | apply IsS100.alloc | apply IsS100.drewN | apply IsS100.drew | apply IsS100.set_1) | exact HI0.out)) (by exact HO103.out) (by decide)) hk (fun _ h => h.2)) (fun _ h => h.1));replace HK := Aside0.mk (KeepBut.trans (by repeat (first | (with_reducible first | exact HK.out | apply KeepBut.set_ | apply keep_drewN | apply keep_drew | apply keep_alloc) | exact HK.out)) hk (.inl rfl));replace HB := Aside0.mk (hb);replace HI0 := Aside0.mk (hi);(try clear hb);(try clear hb2);(try clear hk);(try clear hi)))
 go_ret
 exact ⟨by first | rfl | (simp [errW_none, errW_some] <;> rfl) | (simp [*, errW_none, errW_some] <;> rfl), by repeat (first | (with_reducible first | exact HI0.out | apply IsS100.alloc | apply IsS100.drewN | apply IsS100.drew | apply IsS100.set_1) | exact HI0.out), by repeat (first | (with_reducible first | exact HB.out | apply below_alloc | apply pw_below_drewN | apply below_drew1 | refine below_set ?_ (IsS100.ge HI0.out)) | exact HB.out), by repeat (first | (with_reducible first | exact HK.out | apply KeepBut.set_ | apply keep_drewN | apply keep_drew | apply keep_alloc) | exact HK.out)⟩

end Go.Proofs.Ytiplpckgmikmeaa.M
namespace Go.Proofs.Ytiplpckgmikmeaa.M
open Go.RowKit Go.Proofs.YtiplpckgmikmeaaW.PrintWords Go.Proofs.YtiplpckgmikmeaaW.PrintLast Go.Proofs.YtiplpckgmikmeaaW.PrintMore
attribute [local go_sem] max2_int min2_int max_two min_two max_three min_three max_four min_four
set_option linter.unusedVariables false
set_option linter.unusedSimpArgs false

def spec_DrawSeqOf.f (k : Nat) (l0 : List Int) : Option (Int × (List (S27)) × (List (S27))) := (spec_l14Open.f l0).bind fun bt101 => ((spec_l4Draw.f k bt101.1 bt101.2).bind fun bt104 => ((spec_l3Bent.f k bt101.1 bt104.2).bind fun bt106 => ((spec_l3Bent.f k bt101.1 bt106.2).bind fun bt110 => (some (bt104.1, bt106.1, bt110.1)))))
theorem spec_DrawSeqOf.mono : ∀ a0 k, LeO (spec_DrawSeqOf.f k a0) (spec_DrawSeqOf.f (k + 1) a0) := by
 intro a0 k
 unfold spec_DrawSeqOf.f
 repeat' first
   | (with_reducible exact spec_l3Bent.mono _ _ _)
   | (with_reducible exact spec_l4Draw.mono _ _ _)
   | (with_reducible exact LeO.refl _)
   | (with_reducible exact LeO.none _)
   | (with_reducible refine LeO.ite ?_ ?_)
   | (with_reducible refine LeO.bind ?_ (fun _ => ?_))
   | exact spec_l3Bent.mono _ _ _
   | exact spec_l4Draw.mono _ _ _
   | exact LeO.none _
   | refine LeO.ite ?_ ?_
   | refine LeO.bind ?_ (fun _ => ?_)
set_option maxHeartbeats 8000000 in
set_option maxRecDepth 100000 in
theorem spec_DrawSeqOf.calls (k : Nat) (A0 : Option Addr) (c0 : Nat) (l0 : List Int) (r1 : Int) (r2 : List (S27)) (r3 : List (S27)) (w : World) (hr0 : Kd.C (Kd.int .u8) w A0 l0.length l0) (hc0 : l0.length ≤ c0) (h : spec_DrawSeqOf.f k l0 = some (r1, r2, r3)) :
  Calls Try.prog 90 #[.slice A0 l0.length c0] w fun e w' => ∃ v1_ v2_ : Value, e = .returned (.tuple #[.int .i64 r1, v1_, v2_]) ∧ Kd.N k27 27 w' w.heap.size (fun k_ => (w.heap.size ≤ k_) ∧ some k_ ≠ (v2_ : Value).ownBlock) v1_ r2 ∧ Kd.N k27 27 w' w.heap.size (fun k_ => (w.heap.size ≤ k_) ∧ some k_ ≠ (v1_ : Value).ownBlock) v2_ r3 ∧ Below w.heap.size w w' := by
 have HR0 := Aside0.mk hr0
 have HC0 := Aside0.mk hc0
 clear hr0 hc0
 have HB := Aside0.mk (Below.refl w.heap.size w)
 have H : ((spec_l14Open.f l0).bind fun bt101 => ((spec_l4Draw.f k bt101.1 bt101.2).bind fun bt104 => ((spec_l3Bent.f k bt101.1 bt104.2).bind fun bt106 => ((spec_l3Bent.f k bt101.1 bt106.2).bind fun bt110 => (some (bt104.1, bt106.1, bt110.1)))))) = some (r1, r2, r3) := h
 clear h
 replace H := Option.bind_eq_some_iff.mp H
 obtain ⟨⟨t101, t102⟩, A20, H⟩ := H
 replace H : ((spec_l4Draw.f k t101 t102).bind fun bt104 => ((spec_l3Bent.f k t101 bt104.2).bind fun bt106 => ((spec_l3Bent.f k t101 bt106.2).bind fun bt110 => (some (bt104.1, bt106.1, bt110.1))))) = some (r1, r2, r3) := H
 have A2 := Aside0.mk A20
 clear A20
 replace H := Option.bind_eq_some_iff.mp H
 obtain ⟨⟨t104, t105⟩, A30, H⟩ := H
 replace H : ((spec_l3Bent.f k t101 t105).bind fun bt106 => ((spec_l3Bent.f k t101 bt106.2).bind fun bt110 => (some (t104, bt106.1, bt110.1)))) = some (r1, r2, r3) := H
 have A3 := Aside0.mk A30
 clear A30
 replace H := Option.bind_eq_some_iff.mp H
 obtain ⟨⟨t106, t109⟩, A40, H⟩ := H
 replace H : ((spec_l3Bent.f k t101 t109).bind fun bt110 => (some (t104, t106, bt110.1))) = some (r1, r2, r3) := H
 have A4 := Aside0.mk A40
 clear A40
 replace H := Option.bind_eq_some_iff.mp H
 obtain ⟨⟨t110, t113⟩, A50, H⟩ := H
 replace H : (some (t104, t106, t110)) = some (r1, r2, r3) := H
 have A5 := Aside0.mk A50
 clear A50
 simp only [Option.some.injEq, Prod.mk.injEq] at H
 obtain ⟨rfl, rfl, rfl⟩ := H
 go_enter Try.func90, Try.ntmps90
 go_wp2_with (first | ((with_reducible refine gate_callee (f := 72) rfl ?_);refine goesL_ (some 9) rfl rfl Try.func72 (by kernel_rfl) rfl #[.slice A0 l0.length c0] rfl (by (try simp only [List.map_toArray, List.map_cons, List.map_nil]);first | done | rfl | (simp only [List.length_drop, List.length_take];rfl)) ?_;(with_reducible refine (spec_l14Open.calls _ _ l0 t101 t102 w _ ?side1 ?side2 ?side3 A2.out).mono ?_);(case side1 => repeat (first | (with_reducible first | exact HB.out | apply below_alloc | apply pw_below_drewN | apply below_drew1) | exact HB.out));(case side2 => exact HR0.out);(case side3 => exact HC0.out);rintro e w6 ⟨g103, rfl, hi, hb, hb2⟩;refine ⟨_, rfl, ?_⟩;replace HB := Aside0.mk (hb);have HI103 := Aside0.mk (hi);(try clear hb);(try clear hb2);(try clear hk);(try clear hi)) | ((with_reducible refine gate_callee (f := 108) rfl ?_);refine goesL_ (some 11) rfl rfl Try.func108 (by kernel_rfl) rfl #[.pointer (some ⟨g103, 0, none⟩)] rfl (by (try simp only [List.map_toArray, List.map_cons, List.map_nil]);first | done | rfl | (simp only [List.length_drop, List.length_take];rfl)) ?_;(with_reducible refine (spec_l4Draw.calls k g103 t101 t102 t104 t105 w _ ?side1 ?side2 A3.out).mono ?_);(case side1 => repeat (first | (with_reducible first | exact HI103.out | apply IsS100.alloc | apply IsS100.drewN | apply IsS100.drew | apply IsS100.set_1) | exact HI103.out));(case side2 => repeat (first | (with_reducible first | exact HB.out | apply below_alloc | apply pw_below_drewN | apply below_drew1 | refine below_set ?_ (IsS100.ge HI103.out)) | exact HB.out));rintro e w7 ⟨rfl, hi, hb, hk⟩;refine ⟨_, rfl, ?_⟩;replace HB := Aside0.mk (hb);replace HI103 := Aside0.mk (hi);(try clear hb);(try clear hb2);(try clear hk);(try clear hi)) | ((with_reducible refine gate_callee (f := 77) rfl ?_);refine goesL_ (some 13) rfl rfl Try.func77 (by kernel_rfl) rfl #[.pointer (some ⟨g103, 0, none⟩)] rfl (by (try simp only [List.map_toArray, List.map_cons, List.map_nil]);first | done | rfl | (simp only [List.length_drop, List.length_take];rfl)) ?_;(with_reducible refine (spec_l3Bent.calls k g103 t101 t105 t106 t109 w _ ?side1 ?side2 A4.out).mono ?_);(case side1 => repeat (first | (with_reducible first | exact HI103.out | apply IsS100.alloc | apply IsS100.drewN | apply IsS100.drew | apply IsS100.set_1) | exact HI103.out));(case side2 => repeat (first | (with_reducible first | exact HB.out | apply below_alloc | apply pw_below_drewN | apply below_drew1 | refine below_set ?_ (IsS100.ge HI103.out)) | exact HB.out));rintro e w8 ⟨v107, rfl, ho0, hi, hb, hk⟩;refine ⟨_, rfl, ?_⟩;have HO108 := Aside0.mk (Kd.N_lower (Kd.N_mono (ok' := fun k_ => (w.heap.size ≤ k_) ∧ k_ ≠ g103) ho0 (fun k_ hk_ => ⟨(Nat.le_trans (below_size (by repeat (first | (with_reducible first | exact HB.out | apply below_alloc | apply pw_below_drewN | apply below_drew1 | refine below_set ?_ (IsS100.ge HI103.out)) | exact HB.out))) hk_), (IsS100.fresh (by repeat (first | (with_reducible first | exact HI103.out | apply IsS100.alloc | apply IsS100.drewN | apply IsS100.drew | apply IsS100.set_1) | exact HI103.out)) k_ hk_)⟩)) (below_size (by repeat (first | (with_reducible first | exact HB.out | apply below_alloc | apply pw_below_drewN | apply below_drew1 | refine below_set ?_ (IsS100.ge HI103.out)) | exact HB.out))));replace HB := Aside0.mk (hb);replace HI103 := Aside0.mk (hi);(try clear hb);(try clear hb2);(try clear hk);(try clear hi);(try clear ho0)) | ((with_reducible refine gate_callee (f := 77) rfl ?_);refine goesL_ (some 17) rfl rfl Try.func77 (by kernel_rfl) rfl #[.pointer (some ⟨g103, 0, none⟩)] rfl (by (try simp only [List.map_toArray, List.map_cons, List.map_nil]);first | done | rfl | (simp only [List.length_drop, List.length_take];rfl)) ?_;(with_reducible refine (spec_l3Bent.calls k g103 t101 t109 t110 t113 w _ ?side1 ?side2 A5.out).mono ?_);(case side1 => repeat (first | (with_reducible first | exact HI103.out | apply IsS100.alloc | apply IsS100.drewN | apply IsS100.drew | apply IsS100.set_1) | exact HI103.out));(case side2 => repeat (first | (with_reducible first | exact HB.out | apply below_alloc | apply pw_below_drewN | apply below_drew1 | refine below_set ?_ (IsS100.ge HI103.out)) | exact HB.out));rintro e w9 ⟨v111, rfl, ho0, hi, hb, hk⟩;refine ⟨_, rfl, ?_⟩;have HO112 := Aside0.mk (Kd.N_lower (Kd.N_mono (ok' := fun k_ => (w.heap.size ≤ k_) ∧ some k_ ≠ (v107 : Value).ownBlock ∧ k_ ≠ g103) ho0 (fun k_ hk_ => ⟨(Nat.le_trans (below_size (by repeat (first | (with_reducible first | exact HB.out | apply below_alloc | apply pw_below_drewN | apply below_drew1 | refine below_set ?_ (IsS100.ge HI103.out)) | exact HB.out))) hk_), (Kd.fresh' (Kd.N_lt (by exact HO108.out)) k_ hk_), (IsS100.fresh (by repeat (first | (with_reducible first | exact HI103.out | apply IsS100.alloc | apply IsS100.drewN | apply IsS100.drew | apply IsS100.set_1) | exact HI103.out)) k_ hk_)⟩)) (below_size (by repeat (first | (with_reducible first | exact HB.out | apply below_alloc | apply pw_below_drewN | apply below_drew1 | refine below_set ?_ (IsS100.ge HI103.out)) | exact HB.out))));replace HO108 := Aside0.mk (Kd.N_mono (Kd.N_told (Kd.N_oldK (Kd.N_mono (ok := fun k_ => (((w.heap.size ≤ k_)) ∧ k_ ≠ g103)) (by exact HO108.out) (fun k_ hk_ => (⟨hk_, hk_.2⟩ : _ ∧ k_ ≠ g103))) hk) (by first | exact Kd.N_base ho0 | exact Kd.S_base ho0)) (fun _ h_ => h_.1));replace HB := Aside0.mk (hb);replace HI103 := Aside0.mk (hi);(try clear hb);(try clear hb2);(try clear hk);(try clear hi);(try clear ho0)))
 go_ret3
 exact ⟨_, _, by first | rfl | (simp [errW_none, errW_some] <;> rfl) | (simp [*, errW_none, errW_some] <;> rfl), by (with_reducible repeat (first | apply Kd.N_alloc | apply Kd.N_drewN | apply Kd.N_drew));exact Kd.N_mono HO108.out (fun _ hk => ⟨hk.1.1, hk.2⟩), by (with_reducible repeat (first | apply Kd.N_alloc | apply Kd.N_drewN | apply Kd.N_drew));exact Kd.N_mono HO112.out (fun _ hk => ⟨hk.1, hk.2.1⟩), by repeat (first | (with_reducible first | exact HB.out | apply below_alloc | apply pw_below_drewN | apply below_drew1 | refine below_set ?_ (IsS100.ge HI103.out)) | exact HB.out)⟩

end Go.Proofs.Ytiplpckgmikmeaa.M
namespace Go.Proofs.Ytiplpckgmikmeaa.M
open Go.RowKit Go.Proofs.YtiplpckgmikmeaaW.PrintWords Go.Proofs.YtiplpckgmikmeaaW.PrintLast Go.Proofs.YtiplpckgmikmeaaW.PrintMore
attribute [local go_sem] max2_int min2_int max_two min_two max_three min_three max_four min_four
set_option linter.unusedVariables false
set_option linter.unusedSimpArgs false

def spec_DrawOrOf.f (k : Nat) (l0 : List Int) : Option ((List (S27)) × (List (S27))) := (spec_DrawSeqOf.f k l0).bind fun bt101 => (some (bt101.2.1, bt101.2.2))
theorem spec_DrawOrOf.mono : ∀ a0 k, LeO (spec_DrawOrOf.f k a0) (spec_DrawOrOf.f (k + 1) a0) := by
 intro a0 k
 unfold spec_DrawOrOf.f
 repeat' first
   | (with_reducible exact spec_DrawSeqOf.mono _ _)
   | (with_reducible exact LeO.refl _)
   | (with_reducible exact LeO.none _)
   | (with_reducible refine LeO.ite ?_ ?_)
   | (with_reducible refine LeO.bind ?_ (fun _ => ?_))
   | exact spec_DrawSeqOf.mono _ _
   | exact LeO.none _
   | refine LeO.ite ?_ ?_
   | refine LeO.bind ?_ (fun _ => ?_)
set_option maxHeartbeats 8000000 in
set_option maxRecDepth 100000 in
theorem spec_DrawOrOf.calls (k : Nat) (A0 : Option Addr) (c0 : Nat) (l0 : List Int) (r1 : List (S27)) (r2 : List (S27)) (w : World) (hr0 : Kd.C (Kd.int .u8) w A0 l0.length l0) (hc0 : l0.length ≤ c0) (h : spec_DrawOrOf.f k l0 = some (r1, r2)) :
  Calls Try.prog 59 #[.slice A0 l0.length c0] w fun e w' => ∃ v0_ v1_ : Value, e = .returned (.tuple #[v0_, v1_]) ∧ Kd.N k27 27 w' w.heap.size (fun k_ => (w.heap.size ≤ k_) ∧ some k_ ≠ (v1_ : Value).ownBlock) v0_ r1 ∧ Kd.N k27 27 w' w.heap.size (fun k_ => (w.heap.size ≤ k_) ∧ some k_ ≠ (v0_ : Value).ownBlock) v1_ r2 ∧ Below w.heap.size w w' := by
 have HR0 := Aside0.mk hr0
 have HC0 := Aside0.mk hc0
 clear hr0 hc0
 have HB := Aside0.mk (Below.refl w.heap.size w)
 have H : ((spec_DrawSeqOf.f k l0).bind fun bt101 => (some (bt101.2.1, bt101.2.2))) = some (r1, r2) := h
 clear h
 replace H := Option.bind_eq_some_iff.mp H
 obtain ⟨⟨t101, t102, t105⟩, A20, H⟩ := H
 replace H : (some (t102, t105)) = some (r1, r2) := H
 have A2 := Aside0.mk A20
 clear A20
 simp only [Option.some.injEq, Prod.mk.injEq] at H
 obtain ⟨rfl, rfl⟩ := H
 go_enter Try.func59, Try.ntmps59
 go_wp2_with (first | ((with_reducible refine gate_callee (f := 90) rfl ?_);refine goesL_ (some 9) rfl rfl Try.func90 (by kernel_rfl) rfl #[.slice A0 l0.length c0] rfl (by (try simp only [List.map_toArray, List.map_cons, List.map_nil]);first | done | rfl | (simp only [List.length_drop, List.length_take];rfl)) ?_;(with_reducible refine (spec_DrawSeqOf.calls k _ _ l0 t101 t102 t105 _ ?side1 ?side2 A2.out).mono ?_);(case side1 => repeat (first | exact HR0.out | (with_reducible refine Kd.C_alloc ?_ _) | (with_reducible refine Kd.C_drewN ?_ _) | (with_reducible refine Kd.C_drew ?_)));(case side2 => exact HC0.out);rintro e w3 ⟨v103, v106, rfl, ho0, ho1, hb⟩;refine ⟨_, rfl, ?_⟩;have HO104 := Aside0.mk (Kd.N_lower (Kd.N_mono (ok' := fun k_ => (w.heap.size ≤ k_) ∧ some k_ ≠ (v106 : Value).ownBlock) ho0 (fun k_ hk_ => ⟨(Nat.le_trans (below_size (by exact HB.out)) hk_.1), hk_.2⟩)) (below_size (by exact HB.out)));have HO107 := Aside0.mk (Kd.N_lower (Kd.N_mono (ok' := fun k_ => (w.heap.size ≤ k_) ∧ some k_ ≠ (v103 : Value).ownBlock) ho1 (fun k_ hk_ => ⟨(Nat.le_trans (below_size (by exact HB.out)) hk_.1), hk_.2⟩)) (below_size (by exact HB.out)));replace HB := Aside0.mk (below_step (by exact HB.out) hb);(try clear hb);(try clear hb2);(try clear hk);(try clear hi);(try clear ho0);(try clear ho1)))
 go_ret2
 exact ⟨_, _, by first | rfl | (simp [errW_none, errW_some] <;> rfl) | (simp [*, errW_none, errW_some] <;> rfl), by (with_reducible repeat (first | apply Kd.N_alloc | apply Kd.N_drewN | apply Kd.N_drew));exact HO104.out, by (with_reducible repeat (first | apply Kd.N_alloc | apply Kd.N_drewN | apply Kd.N_drew));exact HO107.out, by repeat (first | (with_reducible first | exact HB.out | apply below_alloc | apply pw_below_drewN | apply below_drew1) | exact HB.out)⟩

end Go.Proofs.Ytiplpckgmikmeaa.M
namespace Go.Proofs.Ytiplpckgmikmeaa.M
open Go.RowKit Go.Proofs.YtiplpckgmikmeaaW.PrintWords Go.Proofs.YtiplpckgmikmeaaW.PrintLast Go.Proofs.YtiplpckgmikmeaaW.PrintMore
attribute [local go_sem] max2_int min2_int max_two min_two max_three min_three max_four min_four
set_option linter.unusedVariables false
set_option linter.unusedSimpArgs false

def spec_DrawOccsOk.f (k : Nat) (l0 : List Int) : Option ((List (S27))) := (spec_l14Open.f l0).bind fun bt101 => ((spec_l3Bent.f k bt101.1 bt101.2).bind fun bt104 => (some bt104.1))
theorem spec_DrawOccsOk.mono : ∀ a0 k, LeO (spec_DrawOccsOk.f k a0) (spec_DrawOccsOk.f (k + 1) a0) := by
 intro a0 k
 unfold spec_DrawOccsOk.f
 repeat' first
   | (with_reducible exact spec_l3Bent.mono _ _ _)
   | (with_reducible exact LeO.refl _)
   | (with_reducible exact LeO.none _)
   | (with_reducible refine LeO.ite ?_ ?_)
   | (with_reducible refine LeO.bind ?_ (fun _ => ?_))
   | exact spec_l3Bent.mono _ _ _
   | exact LeO.none _
   | refine LeO.ite ?_ ?_
   | refine LeO.bind ?_ (fun _ => ?_)
set_option maxHeartbeats 8000000 in
set_option maxRecDepth 100000 in
theorem spec_DrawOccsOk.calls (k : Nat) (A0 : Option Addr) (c0 : Nat) (l0 : List Int) (r : List (S27)) (w : World) (hr0 : Kd.C (Kd.int .u8) w A0 l0.length l0) (hc0 : l0.length ≤ c0) (h : spec_DrawOccsOk.f k l0 = some r) :
  Calls Try.prog 63 #[.slice A0 l0.length c0] w fun e w' => ∃ v0_ : Value, e = .returned (v0_) ∧ Kd.N k27 27 w' w.heap.size (fun k_ => (w.heap.size ≤ k_)) v0_ r ∧ Below w.heap.size w w' := by
 have HR0 := Aside0.mk hr0
 have HC0 := Aside0.mk hc0
 clear hr0 hc0
 have HB := Aside0.mk (Below.refl w.heap.size w)
 have H : ((spec_l14Open.f l0).bind fun bt101 => ((spec_l3Bent.f k bt101.1 bt101.2).bind fun bt104 => (some bt104.1))) = some r := h
 clear h
 replace H := Option.bind_eq_some_iff.mp H
 obtain ⟨⟨t101, t102⟩, A20, H⟩ := H
 replace H : ((spec_l3Bent.f k t101 t102).bind fun bt104 => (some bt104.1)) = some r := H
 have A2 := Aside0.mk A20
 clear A20
 replace H := Option.bind_eq_some_iff.mp H
 obtain ⟨⟨t104, t107⟩, A30, H⟩ := H
 replace H : (some t104) = some r := H
 have A3 := Aside0.mk A30
 clear A30
 obtain rfl := Option.some.inj H
 go_enter Try.func63, Try.ntmps63
 go_wp2_with (first | ((with_reducible refine gate_callee (f := 72) rfl ?_);refine goesL_ (some 4) rfl rfl Try.func72 (by kernel_rfl) rfl #[.slice A0 l0.length c0] rfl (by (try simp only [List.map_toArray, List.map_cons, List.map_nil]);first | done | rfl | (simp only [List.length_drop, List.length_take];rfl)) ?_;(with_reducible refine (spec_l14Open.calls _ _ l0 t101 t102 w _ ?side1 ?side2 ?side3 A2.out).mono ?_);(case side1 => repeat (first | (with_reducible first | exact HB.out | apply below_alloc | apply pw_below_drewN | apply below_drew1) | exact HB.out));(case side2 => exact HR0.out);(case side3 => exact HC0.out);rintro e w4 ⟨g103, rfl, hi, hb, hb2⟩;refine ⟨_, rfl, ?_⟩;replace HB := Aside0.mk (hb);have HI103 := Aside0.mk (hi);(try clear hb);(try clear hb2);(try clear hk);(try clear hi)) | ((with_reducible refine gate_callee (f := 77) rfl ?_);refine goesL_ (some 5) rfl rfl Try.func77 (by kernel_rfl) rfl #[.pointer (some ⟨g103, 0, none⟩)] rfl (by (try simp only [List.map_toArray, List.map_cons, List.map_nil]);first | done | rfl | (simp only [List.length_drop, List.length_take];rfl)) ?_;(with_reducible refine (spec_l3Bent.calls k g103 t101 t102 t104 t107 w _ ?side1 ?side2 A3.out).mono ?_);(case side1 => repeat (first | (with_reducible first | exact HI103.out | apply IsS100.alloc | apply IsS100.drewN | apply IsS100.drew | apply IsS100.set_1) | exact HI103.out));(case side2 => repeat (first | (with_reducible first | exact HB.out | apply below_alloc | apply pw_below_drewN | apply below_drew1 | refine below_set ?_ (IsS100.ge HI103.out)) | exact HB.out));rintro e w5 ⟨v105, rfl, ho0, hi, hb, hk⟩;refine ⟨_, rfl, ?_⟩;have HO106 := Aside0.mk (Kd.N_lower (Kd.N_mono (ok' := fun k_ => (w.heap.size ≤ k_) ∧ k_ ≠ g103) ho0 (fun k_ hk_ => ⟨(Nat.le_trans (below_size (by repeat (first | (with_reducible first | exact HB.out | apply below_alloc | apply pw_below_drewN | apply below_drew1 | refine below_set ?_ (IsS100.ge HI103.out)) | exact HB.out))) hk_), (IsS100.fresh (by repeat (first | (with_reducible first | exact HI103.out | apply IsS100.alloc | apply IsS100.drewN | apply IsS100.drew | apply IsS100.set_1) | exact HI103.out)) k_ hk_)⟩)) (below_size (by repeat (first | (with_reducible first | exact HB.out | apply below_alloc | apply pw_below_drewN | apply below_drew1 | refine below_set ?_ (IsS100.ge HI103.out)) | exact HB.out))));replace HB := Aside0.mk (hb);replace HI103 := Aside0.mk (hi);(try clear hb);(try clear hb2);(try clear hk);(try clear hi);(try clear ho0)))
 go_ret
 exact ⟨_, by first | rfl | (simp [errW_none, errW_some] <;> rfl) | (simp [*, errW_none, errW_some] <;> rfl), by (with_reducible repeat (first | apply Kd.N_alloc | apply Kd.N_drewN | apply Kd.N_drew));exact Kd.N_mono HO106.out (fun _ hk => hk.1), by repeat (first | (with_reducible first | exact HB.out | apply below_alloc | apply pw_below_drewN | apply below_drew1 | refine below_set ?_ (IsS100.ge HI103.out)) | exact HB.out)⟩

end Go.Proofs.Ytiplpckgmikmeaa.M
namespace Go.Proofs.Ytiplpckgmikmeaa.M
set_option linter.unusedVariables false
set_option linter.unusedSimpArgs false
open Go.RowKit Go.Proofs.YtiplpckgmikmeaaW.PrintWords Go.Proofs.YtiplpckgmikmeaaW.PrintLast

theorem Few.mid {l : List S27} (h : Few l) : Mid l := fun x hx => Nat.le_trans (h x hx) (by omega)
theorem DrawSeqOf_ev (l : List Int) (hl : l.length ≤ 9223372036854775807) (hw : ∀ x ∈ l, (Lit.int .u8 x).wf = true) : ∃ (m : Int) (a b : List S27), Ev (fun k => spec_DrawSeqOf.f k l) (m, a, b) ∧ a.length ≤ 7 ∧ b.length ≤ 7 ∧ Few a ∧ Few b := by
  have hb := open_bytes hw
  have ho : Ev (fun _ => spec_l14Open.f l) (l.take 2000, (0 : Int)) := Ev.one (fun _ => l14Open_is l hl)
  obtain ⟨m, hm, _⟩ := num_ev _ hb 0 [0, 1, 2, 3, 4, 0, 1, 2, 3, 4, 0, 1, 2, 3, 4, (-1), 5] (by simp) (by simp) (by omega) (by omega)
  obtain ⟨a, p, h1, h2, h3, h4, h5⟩ := l3Bent_ev _ hb (0 + 1) (by omega) (by omega)
  obtain ⟨b, q, g1, g2, g3, _, _⟩ := l3Bent_ev _ hb p h4 (by omega)
  refine ⟨m, a, b, ?_, h2, g2, h3, g3⟩
  unfold spec_DrawSeqOf.f
  refine Ev.bind ho ?_
  have hd : Ev (fun k => spec_l4Draw.f k (l.take 2000) 0) (m, 0 + 1) := by
    unfold spec_l4Draw.f
    exact Ev.bindS hm rfl
  exact Ev.bind hd (Ev.bind h1 (Ev.bindS g1 rfl))
theorem DrawOrOf_ev (l : List Int) (hl : l.length ≤ 9223372036854775807) (hw : ∀ x ∈ l, (Lit.int .u8 x).wf = true) : ∃ (a b : List S27), Ev (fun k => spec_DrawOrOf.f k l) (a, b) ∧ a.length ≤ 7 ∧ b.length ≤ 7 ∧ Few a ∧ Few b := by
  obtain ⟨m, a, b, h, h1, h2, h3, h4⟩ := DrawSeqOf_ev l hl hw
  refine ⟨a, b, ?_, h1, h2, h3, h4⟩
  unfold spec_DrawOrOf.f
  exact Ev.bindS h rfl
theorem DrawOccsOk_ev (l : List Int) (hl : l.length ≤ 9223372036854775807) (hw : ∀ x ∈ l, (Lit.int .u8 x).wf = true) : ∃ (a : List S27), Ev (fun k => spec_DrawOccsOk.f k l) a ∧ a.length ≤ 7 ∧ Few a := by
  have hb := open_bytes hw
  have ho : Ev (fun _ => spec_l14Open.f l) (l.take 2000, (0 : Int)) := Ev.one (fun _ => l14Open_is l hl)
  obtain ⟨a, p, h1, h2, h3, _, _⟩ := l3Bent_ev _ hb 0 (by omega) (by omega)
  refine ⟨a, ?_, h2, h3⟩
  unfold spec_DrawOccsOk.f
  exact Ev.bind ho (Ev.bindS h1 rfl)
theorem DrawPlusOf_ev (l : List Int) (hl : l.length ≤ 9223372036854775807) (hw : ∀ x ∈ l, (Lit.int .u8 x).wf = true) : ∃ (a : List S27) (n till : Int), Ev (fun k => spec_DrawPlusOf.f k l) (a, n, till) ∧ a.length ≤ 7 ∧ Few a ∧ (0 ≤ n ∧ n ≤ 21) ∧ (-1 ≤ till ∧ till ≤ 2000) := by
  have hb := open_bytes hw
  have ho : Ev (fun _ => spec_l14Open.f l) (l.take 2000, (0 : Int)) := Ev.one (fun _ => l14Open_is l hl)
  obtain ⟨a, p, h1, h2, h3, h4, h5⟩ := l3Bent_ev _ hb 0 (by omega) (by omega)
  obtain ⟨n, hn, hn2⟩ := num_ev _ hb p [1, 2, 5, 20, 0, 21] (by simp) (by simp) h4 (by omega)
  obtain ⟨t, ht, ht2⟩ := num_ev _ hb (p + 1) [6, 10, 20, 2000, 0, (-1)] (by simp) (by simp) (by omega) (by omega)
  refine ⟨a, n, t, ?_, h2, h3, ?_, ?_⟩
  · unfold spec_DrawPlusOf.f
    exact Ev.bind ho (Ev.bind h1 (Ev.bind hn (Ev.bindS ht rfl)))
  · simp only [List.mem_cons, List.not_mem_nil, or_false] at hn2
    omega
  · simp only [List.mem_cons, List.not_mem_nil, or_false] at ht2
    omega
end Go.Proofs.Ytiplpckgmikmeaa.M
namespace Go.Proofs.Ytiplpckgmikmeaa.M
set_option linter.unusedVariables false
set_option linter.unusedSimpArgs false
open Go.RowKit Go.Proofs.YtiplpckgmikmeaaW.PrintWords Go.Proofs.YtiplpckgmikmeaaW.PrintLast

section
variable (a : List S27) (n till : Int) (ha : a.length ≤ 7) (hf : Few a) (h1 : 1 ≤ n) (h2 : n ≤ 20) (c : occsOkB a = true)
include ha hf h1 h2 c
theorem plus_end : Ev (fun k => (impl_PlusOf.f k (plusL a n till) 3 till).bind fun bt123 => ((impl_PlusOf.f k a (wrap64 (n + 3)) till).bind fun bt127 => (if ((plusL a n till).length : Int) = ((plusL a n till).length : Int) then (if bt123.2 = true then (if bt127.2 = true then ((impl_OccsSame.f k bt123.1 bt127.1).bind fun t131 => (if t131 = true then ((impl_OccsOk.f k (plusL a n till)).bind fun t132 => (some t132)) else (some false))) else ((impl_OccsOk.f k (plusL a n till)).bind fun t133 => (some t133))) else (some false)) else (some false)))) true := by
  have hm : Mid (plusL a n till) := hf.mid.plus n till
  have hok := plus_ok c n till (by omega)
  have hlen := len_plusL a n till
  have hlen2 := len_plusL (plusL a n till) 3 till
  have e1 : plusO (plusL a n till) 3 till = (plusL (plusL a n till) 3 till, true) := by unfold plusO; rw [if_pos ⟨hok, by omega, by omega⟩]
  have p1 := impl_PlusOf_ev (plusL a n till) (by omega) hm 3 till
  rw [e1] at p1
  have last : Ev (fun k => (impl_OccsOk.f k (plusL a n till)).bind fun t132 => (some t132)) true := Ev.bindS (impl_OccsOk_ev _ (by omega) hm.short) (by rw [hok])
  rw [w_small (by omega) (by omega)]
  refine Ev.bind p1 (Ev.bind (impl_PlusOf_ev a (by omega) hf.mid (n + 3) till) (Ev.pos rfl (Ev.pos rfl ?_)))
  by_cases d : n + 3 ≤ 20
  · have e2 : plusO a (n + 3) till = (plusL a (n + 3) till, true) := by unfold plusO; rw [if_pos ⟨c, by omega, d⟩]
    rw [e2, plus_plus a n 3 till (by omega)]
    have hlen3 := len_plusL a (n + 3) till
    have hm3 : Mid (plusL a (n + 3) till) := hf.mid.plus (n + 3) till
    exact Ev.pos rfl (Ev.bind (impl_OccsSame_ev (plusL a (n + 3) till) (plusL a (n + 3) till) (by omega) hm3.short hm3.short) (Ev.pos (occsEq_self _) last))
  · have e2 : plusO a (n + 3) till = ([], false) := by unfold plusO; rw [if_neg (fun hx => d hx.2.2)]
    rw [e2]
    exact Ev.neg (by decide) last
theorem plus_l1 : ∀ e m : Nat, m + e = a.length → Ev (fun k => laws_FnPlus.l1 k a n till (plusL a n till) ((plusL (a.take m) n till).length : Int) (m : Int)) true := by
  intro e
  induction e with
  | zero =>
    intro m h
    refine Ev.step (fun k => by simp only [laws_FnPlus.l1]; rw [if_neg (by omega)]) ?_
    rw [List.take_of_length_le (by omega)]
    exact plus_end a n till ha hf h1 h2 c
  | succ e ih =>
    intro m h
    have hw : wrap64 ((m : Int) + 1) = ((m + 1 : Nat) : Int) := by rw [w_small (by omega) (by omega)]; omega
    have hlen := len_plusL (a.take m) n till
    rw [List.length_take] at hlen
    have hw2 : wrap64 (((plusL (a.take m) n till).length : Int) + 1) = (((plusL (a.take m) n till).length + 1 : Nat) : Int) := by rw [w_small (by omega) (by omega)]; omega
    have hq := rd_small a n c h1 h2 m (by omega)
    refine Ev.step (fun k => by simp only [laws_FnPlus.l1]; rw [if_pos (by omega), if_pos (by omega), hw, hw2, hq]) ?_
    have nx := ih (m + 1) (by omega)
    rw [plus_next a n till m (by omega)] at nx
    by_cases g : inTime n till (rd_T27 a (m : Int)) = true
    · rw [if_pos g, List.length_append, List.length_singleton] at nx
      have g' := inTime_iff.1 g
      exact Ev.pos g'.1 (Ev.pos g'.2 nx)
    · rw [if_neg g, List.append_nil] at nx
      by_cases g1 : (rd_T27 a (m : Int)).f1 + n ≤ till
      · exact Ev.pos g1 (Ev.neg (fun g2 => g (inTime_iff.2 ⟨g1, g2⟩)) nx)
      · exact Ev.neg g1 nx
theorem plus_l0 : ∀ e m : Nat, m + e = (plusL a n till).length → Ev (fun k => laws_FnPlus.l0 k a n till (plusL a n till) (m : Int)) true := by
  have hlen := len_plusL a n till
  intro e
  induction e with
  | zero =>
    intro m h
    refine Ev.step (fun k => by simp only [laws_FnPlus.l0]; rw [if_neg (by omega)]) ?_
    have := plus_l1 a n till ha hf h1 h2 c a.length 0 (by omega)
    exact this
  | succ e ih =>
    intro m h
    have hw : wrap64 ((m : Int) + 1) = ((m + 1 : Nat) : Int) := by rw [w_small (by omega) (by omega)]; omega
    obtain ⟨o, ho, ht, he⟩ := mem_plusL.1 (rd_mem (l := plusL a n till) (m := m) (by omega))
    obtain ⟨_, g2, g3, _⟩ := (occOk_iff o).1 (((occsOkB_iff a).1 c).2.1 o ho)
    have g4 := inTime_iff.1 ht
    refine Ev.step (fun k => by simp only [laws_FnPlus.l0]; rw [if_pos (by omega), if_pos (by omega), hw, ← he]) ?_
    have e1 : (shO o n).f1 = o.f1 + n := rfl
    have e2 : wrap64 ((shO o n).f1 - n) = o.f1 := by rw [e1, w_small (by omega) (by omega)]; omega
    rw [e2]
    refine Ev.neg (by rw [e1]; omega) ?_
    have hp : putO a o = a := by
      unfold putO
      rw [if_pos ⟨c, ((occsOkB_iff a).1 c).2.1 o ho⟩]
      exact insO_same ((occsOkB_iff a).1 c).1 ho
    refine Ev.bind (impl_OccsPut_ev a (by omega) hf.mid o (hf.mid o ho)) ?_
    rw [hp]
    exact Ev.pos rfl (ih (m + 1) (by omega))
end
theorem FnPlus_pure (l0 : List Int) (h0 : l0.length ≤ maxLen ∧ ∀ y ∈ l0, (Lit.int .u8 y).wf = true) (_ : l0.length * 1 ≤ 140737488351232) : ∃ k, laws_FnPlus.f k l0 = some true := by
  refine Ev.rounds (g := fun k => laws_FnPlus.f k l0) ?_
  unfold laws_FnPlus.f
  by_cases c : (l0.length : Int) > 1048576
  · exact Ev.pos c (Ev.now _)
  · refine Ev.neg c ?_
    obtain ⟨a, n, till, g1, ha, hf, hn, ht⟩ := DrawPlusOf_ev l0 (maxLen_le h0.1) h0.2
    refine Ev.bind g1 (Ev.bind (impl_PlusOf_ev a (by omega) hf.mid n till) (Ev.bind (spec_PlusOf_ev a (by omega) hf.mid n till) (Ev.neg (by simp) ?_)))
    by_cases ok : occsOkB a = true ∧ 1 ≤ n ∧ n ≤ 20
    · have e1 : plusO a n till = (plusL a n till, true) := by unfold plusO; rw [if_pos ok]
      have hlen := len_plusL a n till
      have hm : Mid (plusL a n till) := hf.mid.plus n till
      rw [e1]
      refine Ev.bind (impl_OccsSame_ev (plusL a n till) (plusL a n till) (by omega) hm.short hm.short) ?_
      rw [occsEq_self]
      refine Ev.step (fun k => by simp only [laws_FnPlus.j0, Bool.not_true]; rw [if_neg (by decide), if_pos trivial]) ?_
      exact plus_l0 a n till ha hf ok.2.1 ok.2.2 ok.1 (plusL a n till).length 0 (by omega)
    · have e1 : plusO a n till = ([], false) := by unfold plusO; rw [if_neg ok]
      rw [e1]
      refine Ev.bind (impl_OccsSame_ev [] [] (by simp) (fun x hx => by simp at hx) (fun x hx => by simp at hx)) ?_
      rw [occsEq_self]
      exact Ev.last (fun k => by simp only [laws_FnPlus.j0, Bool.not_true]; rw [if_neg (by decide), if_neg (by decide)]; rfl)
end Go.Proofs.Ytiplpckgmikmeaa.M
