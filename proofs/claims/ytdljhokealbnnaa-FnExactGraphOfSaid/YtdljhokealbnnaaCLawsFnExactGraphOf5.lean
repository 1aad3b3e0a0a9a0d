/- What the claim's law leans on: the program's functions, what they compute, and the law over plain values; no condition is asked. (Part 5 of 5.) -/
import Derived.Test.YtdljhokealbnnaaCLawsFnExactGraphOf4
namespace Go.Proofs.Ytdljhokealbnnaa.M
set_option linter.unusedVariables false
set_option linter.unusedSimpArgs false
open Go.RowKit Go.Proofs.YtdljhokealbnnaaW.PrintWords Go.Proofs.YtdljhokealbnnaaW.PrintLast

theorem eqIs_l0_ev (l : List Int) (hl : l.length ≤ 9223372036854775806) : ∀ d n : Nat, n + d = l.length → Ev (fun k => laws_eqIntS.l0 k l l (n : Int)) true := by
  intro d
  induction d with
  | zero =>
    intro n hn
    exact Ev.last (fun k => by simp only [laws_eqIntS.l0]; rw [if_neg (by omega)])
  | succ d ih =>
    intro n hn
    refine Ev.step (fun k => by simp only [laws_eqIntS.l0]; rw [if_pos (by omega), if_pos (by omega), if_pos (by omega), if_pos trivial, w_succ (by omega)]) ?_
    exact ih (n + 1) (by omega)
theorem eqIs_ev (l : List Int) (hl : l.length ≤ 9223372036854775806) : Ev (fun k => laws_eqIntS.f k l l) true := by
  unfold laws_eqIntS.f
  exact Ev.pos rfl (eqIs_l0_ev l hl l.length 0 (by omega))
theorem rdN (l : List S104) (n : Nat) (h : n < l.length) : rd_T104 l (n : Int) = l[n] := by
  show l.getD n z104 = _
  rw [List.getD_eq_getElem?_getD, List.getElem?_eq_getElem h]
  rfl
def FewN (l : List S104) : Prop := l.length ≤ 1000000 ∧ ∀ m ∈ l, ∃ a b c ks d, m = mkE a b c ks d ∧ ks.length ≤ 1000000
theorem eqO_nil (k : Nat) : laws_eqOccS.f (k + 1) [] [] = some true := by
  simp [laws_eqOccS.f, laws_eqOccS.l0]
theorem heldO_nil (a : Int) (k : Nat) : laws_heldOccS.f (k + 1) [] a = some a := by
  simp [laws_heldOccS.f, laws_heldOccS.l0]
theorem eqO_ev : Ev (fun k => laws_eqOccS.f k [] []) true := Ev.last (fun k => eqO_nil k)
theorem heldO_ev (a : Int) : Ev (fun k => laws_heldOccS.f k [] a) a := Ev.last (fun k => heldO_nil a k)
theorem eqE_ev (a b c : Int) (ks : List Int) (d : Int) (h : ks.length ≤ 1000000) : Ev (fun k => laws_eqNode.f k a b c ks [] [] [] [] [] d a b c ks [] [] [] [] [] d) true := by
  have hp : Ev (fun k => laws_eqPair.f k [] [] [] []) true := by
    unfold laws_eqPair.f
    exact Ev.bind eqO_ev (Ev.pos rfl (Ev.bind eqO_ev (Ev.pos rfl (Ev.now _))))
  have hs : Ev (fun k => laws_eqSpan.f k [] [] [] []) true := by
    unfold laws_eqSpan.f
    exact Ev.bind eqO_ev (Ev.pos rfl (Ev.bind eqO_ev (Ev.pos rfl (Ev.now _))))
  unfold laws_eqNode.f
  exact Ev.pos rfl (Ev.pos rfl (Ev.pos rfl (Ev.bind (eqIs_ev ks (by omega)) (Ev.pos rfl (Ev.bind hp (Ev.pos rfl (Ev.bind hs (Ev.pos rfl (Ev.bind eqO_ev (Ev.pos rfl (Ev.pos rfl (Ev.now _))))))))))))
theorem eqNs_l0_ev (l : List S104) (hf : FewN l) : ∀ d n : Nat, n + d = l.length → Ev (fun k => laws_eqNodeS.l0 k l l (n : Int)) true := by
  have hl := hf.1
  intro d
  induction d with
  | zero =>
    intro n hn
    exact Ev.last (fun k => by simp only [laws_eqNodeS.l0]; rw [if_neg (by omega)])
  | succ d ih =>
    intro n hn
    have hlt : n < l.length := by omega
    obtain ⟨a, b, c, ks, d0, hm, hk⟩ := hf.2 l[n] (List.getElem_mem hlt)
    refine Ev.step (f := fun k => (laws_eqNode.f k a b c ks [] [] [] [] [] d0 a b c ks [] [] [] [] [] d0).bind fun t103 => (if t103 = true then (laws_eqNodeS.l0 k l l ((n + 1 : Nat) : Int)) else (some false))) (fun k => by simp only [laws_eqNodeS.l0]; rw [if_pos (by omega), if_pos (by omega), if_pos (by omega), rdN l n hlt, hm, w_succ (by omega)]; rfl) (Ev.bind (eqE_ev a b c ks d0 hk) (Ev.pos rfl (ih (n + 1) (by omega))))
theorem eqG_ev (a b c : Int) (d : Bool) (l : List S104) (hf : FewN l) : Ev (fun k => laws_eqGraph.f k a l b c d a l b c d) true := by
  have h : Ev (fun k => laws_eqNodeS.f k l l) true := by
    unfold laws_eqNodeS.f
    exact Ev.pos rfl (eqNs_l0_ev l hf l.length 0 (by omega))
  unfold laws_eqGraph.f
  exact Ev.pos rfl (Ev.bind h (Ev.pos rfl (Ev.pos rfl (Ev.pos rfl (Ev.neg (by cases d <;> decide) (Ev.now _))))))
def nM : List Nat → Int → List S104
  | [], _ => []
  | n :: ns, c => mkE c (c + 1) (c + 2) (iMarks n (c + 3)) (c + 3 + n) :: nM ns (c + 4 + n)
def nT : List Nat → Int
  | [] => 0
  | n :: ns => n + 4 + nT ns
theorem nT_pos : ∀ ns : List Nat, 0 ≤ nT ns
  | [] => Int.le_refl _
  | n :: ns => by have := nT_pos ns; rw [nT]; omega
theorem nM_len : ∀ (ns : List Nat) (c : Int), (nM ns c).length = ns.length
  | [], _ => rfl
  | n :: ns, c => by rw [nM, List.length_cons, nM_len ns, List.length_cons]
def lensN (l : List S104) : List Nat := l.map (fun m => m.f3.length)
theorem markN_ev : ∀ (d n : Nat) (l : List S104) (c : Int), n + d = l.length → l.length ≤ 1000000 → 0 ≤ c → c + nT (lensN (l.drop n)) ≤ 1000000000000 → Ev (fun k => markN k l c (n : Int)) (c + nT (lensN (l.drop n)), l.take n ++ nM (lensN (l.drop n)) c) := by
  intro d
  induction d with
  | zero =>
    intro n l c hn hl h0 h1
    rw [List.drop_of_length_le (by omega), List.take_of_length_le (by omega)]
    exact Ev.last (fun k => by rw [markN.eq_def (k + 1)]; simp only; rw [if_neg (by omega)]; simp [lensN, nT, nM])
  | succ d ih =>
    intro n l c hn hl h0 h1
    have hlt : n < l.length := by omega
    have hd : l.drop n = l[n] :: l.drop (n + 1) := List.drop_eq_getElem_cons hlt
    have hg : l.getD (n : Int).toNat z104 = l[n] := by
      rw [Int.toNat_natCast, List.getD_eq_getElem?_getD, List.getElem?_eq_getElem hlt]
      rfl
    rw [hd] at h1 ⊢
    simp only [lensN, List.map_cons, nT, nM] at h1 ⊢
    have hp := nT_pos (lensN (l.drop (n + 1)))
    unfold lensN at hp
    have w1 : wrap64 (c + 1) = c + 1 := w_small (by omega) (by omega)
    have w2 : wrap64 (c + 1 + 1) = c + 2 := by rw [w_small (by omega) (by omega)]; omega
    have w3 : wrap64 (c + 2 + 1) = c + 3 := by rw [w_small (by omega) (by omega)]; omega
    have w4 : wrap64 (c + 3 + (l[n].f3.length : Int) + 1) = c + 4 + (l[n].f3.length : Int) := by rw [w_small (by omega) (by omega)]; omega
    have hi := markIntS_ev l[n].f3 (c + 3) (by omega) (by omega) (by omega)
    have next := ih (n + 1) (l.set n (mkE c (c + 1) (c + 2) (iMarks l[n].f3.length (c + 3)) (c + 3 + (l[n].f3.length : Int)))) (c + 4 + (l[n].f3.length : Int)) (by rw [List.length_set]; omega) (by rw [List.length_set]; exact hl) (by omega) (by rw [List.drop_set_of_lt (by omega)]; unfold lensN; omega)
    rw [List.drop_set_of_lt (by omega), take_set l n _ hlt] at next
    refine Ev.step (fun k => by
      rw [markN.eq_def (k + 1)]
      simp only
      rw [if_pos (by omega), if_pos (by omega), hg, w1, w2, w3, w_succ (by omega)]) (Ev.bind hi ?_)
    simp only [Int.toNat_natCast, w4]
    refine Ev.val next ?_
    simp only [lensN, List.append_assoc, List.singleton_append, Prod.mk.injEq, and_true]
    omega
theorem heldN_ev (m : List S104) (hm : m.length ≤ 1000000) : ∀ (ns : List Nat) (n : Nat) (c : Int), n + ns.length = m.length → m.drop n = nM ns c → 0 ≤ c → c + nT ns ≤ 1000000000000 → Ev (fun k => laws_heldNodeS.l0 k m c (n : Int)) (c + nT ns)
  | [], n, c, hn, hd, h0, h1 => by
    rw [List.length_nil] at hn
    exact Ev.last (fun k => by simp only [laws_heldNodeS.l0]; rw [if_neg (by omega)]; simp [nT])
  | a :: ns, n, c, hn, hd, h0, h1 => by
    rw [List.length_cons] at hn
    have hlt : n < m.length := by omega
    rw [List.drop_eq_getElem_cons hlt, nM] at hd
    injection hd with hx hd
    simp only [nT] at h1 ⊢
    have hp := nT_pos ns
    have w1 : wrap64 (c + 1) = c + 1 := w_small (by omega) (by omega)
    have w2 : wrap64 (c + 1 + 1) = c + 2 := by rw [w_small (by omega) (by omega)]; omega
    have w3 : wrap64 (c + 2 + 1) = c + 3 := by rw [w_small (by omega) (by omega)]; omega
    have w4 : wrap64 (c + 3 + (a : Int) + 1) = c + 4 + (a : Int) := by rw [w_small (by omega) (by omega)]; omega
    have hi := heldIntS_ev a (c + 3) (by omega) (by omega) (by omega)
    have next := heldN_ev m hm ns (n + 1) (c + 4 + (a : Int)) (by omega) hd (by omega) (by omega)
    have ho := heldO_ev (c + 3 + (a : Int))
    refine Ev.step (f := fun k => ((laws_heldIntS.f k (iMarks a (c + 3)) (c + 3)).bind fun t105 => (if t105 < 0 then (some (-1)) else ((laws_heldOccS.f k [] t105).bind fun t107 => (if t107 < 0 then (some (-1)) else ((laws_heldOccS.f k [] t107).bind fun t109 => (if t109 < 0 then (some (-1)) else ((laws_heldOccS.f k [] t109).bind fun t111 => (if t111 < 0 then (some (-1)) else ((laws_heldOccS.f k [] t111).bind fun t113 => (if t113 < 0 then (some (-1)) else ((laws_heldOccS.f k [] t113).bind fun t115 => (if t115 < 0 then (some (-1)) else (if (c + 3 + (a : Int)) = t115 then (laws_heldNodeS.l0 k m (wrap64 (t115 + 1)) ((n + 1 : Nat) : Int)) else (some (-1)))))))))))))))) (fun k => by
      simp only [laws_heldNodeS.l0]
      rw [if_pos (by omega), if_pos (by omega), rdN m n hlt, hx, w1, w2, w3, w_succ (by omega), if_pos (show (mkE c (c + 1) (c + 2) (iMarks a (c + 3)) (c + 3 + a)).f0 = c from rfl), if_pos (show (mkE c (c + 1) (c + 2) (iMarks a (c + 3)) (c + 3 + a)).f1 = c + 1 from rfl), if_pos (show (mkE c (c + 1) (c + 2) (iMarks a (c + 3)) (c + 3 + a)).f2 = c + 2 from rfl)]
      rfl) (Ev.bind hi (Ev.neg (by omega) (Ev.bind ho (Ev.neg (by omega) (Ev.bind ho (Ev.neg (by omega) (Ev.bind ho (Ev.neg (by omega) (Ev.bind ho (Ev.neg (by omega) (Ev.bind ho (Ev.neg (by omega) (Ev.pos rfl ?_)))))))))))))
    rw [w4]
    exact Ev.val next (by omega)
theorem addX_few : ∀ (x : S37) (ns : List S104), (∀ m ∈ ns, m.f3.length ≤ 1000000) → allY x ≤ 1000000 → ∀ m ∈ (addX x ns).1, m.f3.length ≤ 1000000 := by
  have hks : ∀ (l : List S37) (ns : List S104) (ks : List Int), (addL l ns ks).2.length = ks.length + l.length := by
    intro l
    induction l with
    | nil => intro ns ks; rw [addL_nil]; rfl
    | cons x l ih => intro ns ks; rw [addL_cons, ih, List.length_append, List.length_singleton, List.length_cons]; omega
  have hL : ∀ (l : List S37), (∀ x ∈ l, ∀ ns : List S104, (∀ m ∈ ns, m.f3.length ≤ 1000000) → ∀ m ∈ (addX x ns).1, m.f3.length ≤ 1000000) → ∀ (ns : List S104) (ks : List Int), (∀ m ∈ ns, m.f3.length ≤ 1000000) → ∀ m ∈ (addL l ns ks).1, m.f3.length ≤ 1000000 := by
    intro l
    induction l with
    | nil => intro _ ns ks h; rw [addL_nil]; exact h
    | cons x l ih =>
      intro hx ns ks h
      rw [addL_cons]
      exact ih (fun y hy => hx y (by simp [hy])) _ _ (hx x (by simp) ns h)
  refine indI (fun x ih ns h ha => ?_)
  rw [allY_is] at ha
  have h2 := hL x.f3 (fun y hy ns hn => ih y hy ns hn (by have := kidsY_mem hy; omega)) ns [] h
  have h3 := hks x.f3 ns []
  rw [addX_is]
  unfold putN
  by_cases c : idxN x.f0 x.f1 x.f2 (addL x.f3 ns []).2 (addL x.f3 ns []).1 0 < 0
  · rw [if_pos c]
    intro m hm
    rcases List.mem_append.1 hm with hm | hm
    · exact h2 m hm
    rw [List.mem_singleton.1 hm]
    show (addL x.f3 ns []).2.length ≤ 1000000
    rw [h3, List.length_nil]
    omega
  · rw [if_neg c]
    exact h2
theorem graph_few (x : S37) (mo : Int) : FewN (selB (graphB x mo) (addX x []).1 []) ∧ (selB (graphB x mo) (addX x []).1 []).length ≤ 13 := by
  cases h : graphB x mo with
  | false => exact ⟨⟨by show ([] : List S104).length ≤ _; simp, fun m hm => by have : m ∈ ([] : List S104) := hm; simp at this⟩, by show ([] : List S104).length ≤ _; simp⟩
  | true =>
    have ho : okX x = true := by
      unfold graphB at h
      rw [Bool.and_eq_true] at h
      exact h.1
    have hm := (okX_fm ho).2
    have ha := manyY_all x
    have hl := addX_len x []
    rw [List.length_nil] at hl
    refine ⟨⟨?_, fun m hm2 => ?_⟩, ?_⟩
    · show (addX x []).1.length ≤ _
      omega
    · have hm3 : m ∈ (addX x []).1 := hm2
      obtain ⟨a, b, c, ks, d, e⟩ := addX_plain x [] PlainN.nil m hm3
      refine ⟨a, b, c, ks, d, e, ?_⟩
      have := addX_few x [] (fun m hm => by simp at hm) (by omega) m hm3
      rw [e] at this
      exact this
    · show (addX x []).1.length ≤ _
      omega
theorem nT_le : ∀ (l : List S104), (∀ m ∈ l, m.f3.length ≤ 1000000) → nT (lensN l) ≤ 1000004 * l.length
  | [], _ => by simp [lensN, nT]
  | m :: l, h => by
    have h1 := h m (by simp)
    have ih := nT_le l (fun y hy => h y (by simp [hy]))
    rw [List.length_cons]
    simp only [lensN, List.map_cons, nT] at ih ⊢
    omega
theorem graphF_some (x : S37) (mo : Int) (h : allY x ≤ 1048576) : graphF x mo = some (selB (graphB x mo) mo 0, selB (graphB x mo) (addX x []).1 [], 0, 0, false) := by
  unfold graphF
  rw [if_pos h]
theorem FnExactGraphOf_pure (x : S30) (h : good30 x) (mo : Int) (_ : (Lit.int .i64 mo).wf = true) : ∃ k, laws_FnExactGraphOf.f k x.f0 x.f1 x.f2 x.f3 mo = some true := by
  refine Ev.rounds (g := fun k => laws_FnExactGraphOf.f k x.f0 x.f1 x.f2 x.f3 mo) ?_
  unfold laws_FnExactGraphOf.f
  refine Ev.bind (szEx_ev x h 1048576 (by omega) (by omega)) ?_
  by_cases hs : ((allX x : Nat) : Int) ≤ 1048576
  rotate_left
  · rw [leftOf_neg hs]
    exact Ev.pos (by omega) (Ev.now _)
  rw [leftOf_pos hs]
  refine Ev.neg (by omega) ?_
  have ha : allY (cvX x) ≤ 1048576 := by rw [allY_cv]; omega
  obtain ⟨hf, h13⟩ := graph_few (cvX x) mo
  have hg : ∀ k : Nat, impl_GraphOf.f (cvX x).f0 (cvX x).f1 (cvX x).f2 (cvX x).f3 mo = some (selB (graphB (cvX x) mo) mo 0, selB (graphB (cvX x) mo) (addX (cvX x) []).1 [], 0, 0, false) := fun _ => by
    unfold impl_GraphOf.f
    rw [eta_E, graphF_some _ _ ha]
  have hv : ∀ k : Nat, spec_GraphOf.f (cvX x).f0 (cvX x).f1 (cvX x).f2 (cvX x).f3 mo = some (selB (graphB (cvX x) mo) mo 0, selB (graphB (cvX x) mo) (addX (cvX x) []).1 [], 0, 0, false) := fun _ => by
    unfold spec_GraphOf.f
    rw [eta_E, graphF_some _ _ ha]
  generalize selB (graphB (cvX x) mo) (addX (cvX x) []).1 [] = ns at *
  generalize selB (graphB (cvX x) mo) mo 0 = g0 at *
  have hfew : ∀ m ∈ ns, m.f3.length ≤ 1000000 := fun m hm => by
    obtain ⟨a, b, c, ks, d, e, hk⟩ := hf.2 m hm
    rw [e]
    exact hk
  have ht := nT_le ns hfew
  have hpos := nT_pos (lensN ns)
  have m1 := markN_ev ns.length 0 ns 1 (by omega) hf.1 (by omega) (by rw [List.drop_zero]; omega)
  rw [List.drop_zero, List.take_zero, List.nil_append] at m1
  have hlen : (lensN ns).length = ns.length := by unfold lensN; rw [List.length_map]
  have h1 := heldN_ev (nM (lensN ns) 1) (by rw [nM_len, hlen]; exact hf.1) (lensN ns) 0 1 (by rw [nM_len]; omega) rfl (by omega) (by omega)
  have hh : Ev (fun k => laws_heldGraph.f k g0 (nM (lensN ns) 1) 0 0 false 1) (1 + nT (lensN ns)) := by
    unfold laws_heldGraph.f laws_heldNodeS.f
    exact Ev.bind h1 (Ev.neg (by omega) (Ev.now _))
  exact Ev.bind (toEx_ev x (by omega)) (Ev.bind (Ev.one hv) (Ev.bind (Ev.one hg) (Ev.bind (eqG_ev _ _ _ _ _ hf) (Ev.bind (eqEx_ev (cvX x) ha) (Ev.bind (marksX_ev (cvX x) 1 (by omega) (by omega)) (Ev.bind m1 (Ev.bind hh (Ev.pos ⟨⟨rfl, rfl⟩, by omega, by omega, rfl⟩ (Ev.now _)))))))))
end Go.Proofs.Ytdljhokealbnnaa.M
