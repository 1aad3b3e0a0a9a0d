/- What the claim's law leans on: the program's functions, what they compute, and the law over plain values; no condition is asked. (Part 3 of 3.) -/
import Derived.Test.YtiplpckgmikmeaaCLawsFnExactOrOf2
import Derived.Laws.BitsAllLaws
import Derived.Laws.BitsLemmas
namespace Go.Proofs.Ytiplpckgmikmeaa.M
set_option linter.unusedVariables false
set_option linter.unusedSimpArgs false
open Go Go.RowKit Go.Proofs.YtiplpckgmikmeaaW.PrintWords Go.Proofs.YtiplpckgmikmeaaW.PrintLast Go.Proofs.YtiplpckgmikmeaaW.PrintMore

theorem reps_in {α : Type} {R : α → List Value → Prop} {l : List α} {xs vs : List Value} {o : α} {i : Nat} (h : Reps R 3 l xs) (hp : R o vs) (hv : vs.length = 3) (hi : i ≤ l.length) : Reps R 3 (l.take i ++ [o] ++ l.drop i) (xs.take (i * 3) ++ vs ++ xs.drop (i * 3)) := by
  have hl := h.1
  have la : (xs.take (i * 3)).length = i * 3 := by rw [List.length_take]; omega
  have lt : (l.take i).length = i := by rw [List.length_take]; omega
  refine ⟨?_, fun j p hj => ?_⟩
  · simp only [List.length_append, List.length_take, List.length_drop, List.length_singleton, hv]
    omega
  rw [List.append_assoc] at hj ⊢
  rcases Nat.lt_trichotomy j i with hlt | rfl | hgt
  · rw [List.getElem?_append_left (by omega), List.getElem?_take_of_lt hlt] at hj
    have h2 := h.2 j p hj
    rw [List.drop_append_of_le_length (by omega), List.take_append_of_le_length (by rw [List.length_drop]; omega), List.drop_take, List.take_take, Nat.min_eq_left (by omega)]
    exact h2
  · rw [List.getElem?_append_right (by omega), lt, Nat.sub_self] at hj
    have e : o = p := by simpa using hj
    subst e
    rw [List.drop_append_of_le_length (by omega), List.drop_of_length_le (by omega), List.nil_append, List.take_left' hv]
    exact hp
  obtain ⟨m, rfl⟩ : ∃ m, j = i + 1 + m := ⟨j - i - 1, by omega⟩
  rw [List.getElem?_append_right (by omega), lt, List.getElem?_append_right (by simp; omega)] at hj
  have e : i + 1 + m - i - [o].length = m := by simp; omega
  rw [e, List.getElem?_drop] at hj
  have h2 := h.2 (i + m) p hj
  have e3 : (i + 1 + m) * 3 = (xs.take (i * 3)).length + (vs.length + m * 3) := by rw [la, hv]; omega
  rw [e3, List.drop_length_add_append, List.drop_length_add_append, List.drop_drop]
  rw [show i * 3 + m * 3 = (i + m) * 3 by omega]
  exact h2
theorem raw_of_C {α : Type} {d : Kd α} {w : World} {A : Option Addr} {l : List α} (h : d.C w A l.length l) : ∃ xs : List Value, xs.length = l.length * d.sz ∧ (∀ ad, A = some ad → ∀ j u, xs[j]? = some u → w.cell? (ad.add j) = some u) ∧ (A = none → l.length = 0) ∧ (∀ u ∈ xs, u.oneCell' = true) ∧ (∀ w1, Below w.heap.size w w1 → Reps (d.K w1) d.sz l xs) := by
  have h0 : A = none → l.length = 0 := fun e => by
    rcases Nat.eq_zero_or_pos l.length with h1 | h1
    · exact h1
    · obtain ⟨ad, h2, _⟩ := h.2.2 h1
      rw [e] at h2; cases h2
  cases A with
  | none =>
    have e := List.eq_nil_of_length_eq_zero (h0 rfl)
    subst e
    exact ⟨[], by simp, (fun ad e => by cases e), h0, (fun u hu => by simp at hu), fun _ _ => Reps.none _ _⟩
  | some ad =>
    obtain ⟨xs, hr, hc⟩ := ReadsRow.inner_ h
    refine ⟨xs, hr.1, fun ad' e => by injection e with e; subst e; exact hc, h0, fun u hu => ?_, fun w1 hb => hr.imp_ (fun _ _ hp => d.K_below hb hp)⟩
    obtain ⟨m, hm, rfl⟩ := List.getElem_of_mem hu
    have hs : 0 < d.sz := by
      rcases Nat.eq_zero_or_pos d.sz with h1 | h1
      · rw [hr.1, h1, Nat.mul_zero] at hm; omega
      · exact h1
    have hj : m / d.sz < l.length := by rw [Nat.div_lt_iff_lt_mul hs, ← hr.1]; exact hm
    have h2 := d.K_one (hr.2 (m / d.sz) _ (List.getElem?_eq_getElem hj))
    refine h2 _ (List.mem_iff_getElem?.2 ⟨m % d.sz, ?_⟩)
    rw [List.getElem?_take_of_lt (Nat.mod_lt _ hs), List.getElem?_drop, show m / d.sz * d.sz + m % d.sz = m by rw [Nat.mul_comm]; exact Nat.div_add_mod m d.sz, List.getElem?_eq_getElem hm]
theorem new_of {w : World} {g : Nat} {o : Obj} (_ : w.heap[g]? = some o) (o' : Obj) : (w.alloc o').heap[w.heap.size]? = some o' := heap_alloc_new w o'
theorem putIn_length (l : List S27) (i : Nat) (o : S27) : (putIn l i o).length = l.length + 1 := by
  unfold putIn
  rw [List.length_append, List.length_append, List.length_take, List.length_drop, List.length_singleton]; omega
def impl_put.f (k : Nat) (l0 : List S27) (a0 a1 : Int) (l2 : List Int) : Option (List S27) := if l0.length < 1099511627776 then (impl_Occ_105.f k l0 a0 a1 l2).bind fun t => if t.2 = true then some l0 else if 0 ≤ t.1 ∧ t.1 ≤ (l0.length : Int) then some (putIn l0 t.1.toNat ⟨a0, a1, l2⟩) else none else none
set_option maxHeartbeats 4000000 in
set_option maxRecDepth 100000 in
theorem impl_put.calls (k : Nat) (A0 : Option Addr) (c0 : Nat) (l0 : List S27) (a0 a1 : Int) (A2 : Option Addr) (c2 : Nat) (l2 : List Int) (r : List S27) (w : World) (hr0 : Kd.C k27 w A0 l0.length l0) (hc0 : l0.length ≤ c0) (hr2 : Kd.C (Kd.int .i64) w A2 l2.length l2) (hc2 : l2.length ≤ c2) (h : impl_put.f k l0 a0 a1 l2 = some r) :
    Calls Try.prog 85 #[.slice A0 l0.length c0, .agg #[.int .i64 a0, .int .i64 a1, .slice A2 l2.length c2]] w fun e w' => ∃ (A : Option Addr) (c : Nat), e = .returned (.slice A r.length c) ∧ r.length ≤ c ∧ Kd.C k27 w' A r.length r ∧ Below w.heap.size w w' := by
  unfold impl_put.f at h
  by_cases hlen : l0.length < 1099511627776
  case neg => rw [if_neg hlen] at h; cases h
  rw [if_pos hlen] at h
  obtain ⟨⟨t1, t2⟩, ht, h⟩ := Option.bind_eq_some_iff.1 h
  have HLEN := m0_ hlen
  have HT := m0_ ht
  have HH := m0_ h
  have HR0 := m0_ hr0
  have HC0 := m0_ hc0
  have HR2 := m0_ hr2
  have HC2 := m0_ hc2
  have HB := m0_ (Below.refl w.heap.size w)
  clear ht h hr0 hc0 hr2 hc2 hlen
  go_enter Try.func85, Try.ntmps85
  go_upto_region 1 with (first | ((with_reducible refine gate_dst (N := 3) rfl ?_); refine box_event ?hg (N := 3) ?hd (cs := #[.int .i64 a0, .int .i64 a1, .slice A2 l2.length c2]) (t := 27) ?hr ?_; (case hd => rfl); (case hg => rfl); (case hr => first | (go_simp; done) | (go_simp; rfl)); intro gb1 hg wb1 hbox hb; have n0_ := m0_ (below_step HB.out hb); have n1_ := m0_ (hbox); have n2_ := m0_ ((by rw [hg]; exact below_size HB.out : w.heap.size ≤ gb1)); clear HB; have HB := n0_; have BK1 := n1_; have GE1 := n2_; clear n0_ n1_ n2_; clear hb hbox hg))
  have hz0 := (blk_cell BK1.out 0).trans (show _ = some (Value.int .i64 a0) from rfl)
  have hz1 := (blk_cell BK1.out 1).trans (show _ = some (Value.int .i64 a1) from rfl)
  have hz2 := (blk_cell BK1.out 2).trans (show _ = some (Value.slice A2 l2.length c2) from rfl)
  go_wp2_with (go_at_call 105; fail)
  clear hz0 hz1 hz2
  refine (impl_Occ_105.calls k A0 c0 l0 a0 a1 A2 c2 l2 t1 t2 _ (Kd.C_below HR0.out HB.out) HC0.out (Kd.C_below HR2.out HB.out) HC2.out HT.out).mono ?_
  rintro e w' ⟨rfl, hb⟩
  have n0_ := m0_ (blk_below BK1.out hb)
  have n1_ := m0_ (below_step HB.out hb)
  clear BK1
  clear HB
  have BK1 := n0_
  have HB := n1_
  clear n0_ n1_
  clear hb
  cases t2 with
  | true =>
    go_wp2
    go_ret
    obtain rfl := Option.some.inj (show some l0 = some r from by have := HH.out; rw [if_pos trivial] at this; exact this)
    exact ⟨_, _, rfl, HC0.out, Kd.C_below HR0.out HB.out, HB.out⟩
  | false =>
    have hh := HH.out
    rw [if_neg (by simp)] at hh
    by_cases hin : 0 ≤ t1 ∧ t1 ≤ (l0.length : Int)
    case neg => rw [if_neg hin] at hh; cases hh
    rw [if_pos hin] at hh
    obtain rfl := Option.some.inj hh
    clear hh HH
    obtain ⟨i, rfl⟩ := Int.eq_ofNat_of_zero_le hin.1
    have HIL := m0_ (show i ≤ l0.length by have := hin.2; omega)
    clear hin
    obtain ⟨xs, hx1, hx2, hx3, hx4, hx5⟩ := raw_of_C HR0.out
    have HX1 := m0_ (show xs.length = l0.length * 3 from hx1)
    have HX2 := m0_ hx2
    have HX3 := m0_ hx3
    have HX4 := m0_ hx4
    have HX5 := m0_ (show ∀ w1, Below w.heap.size w w1 → Reps (k27.K w1) 3 l0 xs from hx5)
    have H1V := m0_ (show ∀ u ∈ [Value.int .i64 a0, Value.int .i64 a1, Value.slice A2 l2.length c2], u.oneCell' = true from by intro q hq; simp only [List.mem_cons, List.not_mem_nil, or_false] at hq; rcases hq with rfl | rfl | rfl <;> rfl)
    clear hx1 hx2 hx3 hx4 hx5
    go_wp2
    have hb := below_drew (Below.refl w'.heap.size w')
    have n0_ := m0_ (blk_below BK1.out hb)
    have n1_ := m0_ (below_step HB.out hb)
    clear BK1
    clear HB
    have BK1 := n0_
    have HB := n1_
    clear n0_ n1_
    clear hb
    refine start_ (n := 7) (S := fun w' => w'.cell? ⟨gb1, 0, none⟩ = some (.int .i64 a0) ∧ w'.cell? ⟨gb1, 1, none⟩ = some (.int .i64 a1) ∧ w'.cell? ⟨gb1, 2, none⟩ = some (.slice A2 l2.length c2)) (ds := [5]) #[false, false, false, false, false, false, false] (by kernel_rfl) rfl rfl ⟨(blk_cell BK1.out 0).trans rfl, (blk_cell BK1.out 1).trans rfl, (blk_cell BK1.out 2).trans rfl⟩ (fun hHeld => ?_)
    refine pv_ 0 15 #[true, false, false, false, false, false, false] (by kernel_rfl) ?_
    refine pv_ 2 17 #[true, false, true, false, false, false, false] (by kernel_rfl) ?_
    refine take_ (i := 3) (N := some 18) (v := ?_) (a' := ?_) #[true, false, true, true, false, false, false] rfl rfl (by kernel_rfl) (fun _ _ _ h => h) (Or.inl ⟨by rfl, ?_⟩) hHeld ?_ ?_
    rotate_left
    · rintro w' ⟨s0, s1, s2⟩
      go_simp
      with_reducible rfl
    rotate_left
    · simp only [Act.put, List.setIfInBounds_toArray, List.set_cons_zero, List.set_cons_succ, i64_w, i32_w]
      rfl
    refine join_ (σ := Value × Nat) 2 #[true, true, true, true, true, false, false] (fun s => [(16, s.1), (19, .slice (some ⟨s.2, 0, none⟩) 1 1)]) (fun s w' => (w'.cell? ⟨gb1, 0, none⟩ = some (.int .i64 a0) ∧ w'.cell? ⟨gb1, 1, none⟩ = some (.int .i64 a1) ∧ w'.cell? ⟨gb1, 2, none⟩ = some (.slice A2 l2.length c2)) ∧ Aside0 (w'.ownsRow w.heap.size 27 3 s.1 l0.length xs) ∧ Aside0 (w'.heap[s.2]? = some (.cells #[.int .i64 a0, .int .i64 a1, .slice A2 l2.length c2] 27 (0, 0))) ∧ Aside0 (some s.2 ≠ s.1.ownBlock) ∧ Aside0 (Below w.heap.size w w')) ?_ ?_
    rotate_left
    · intro hCont
      refine two_ (i := 1) (j := 4) (Ni := some 16) (Nj := some 19) #[true, true, true, true, false, false, false] #[true, false, true, true, true, false, false] rfl rfl rfl rfl (by kernel_rfl) (by decide) (by decide) (fun K hK => ?_) (fun K hK => ?_)
      rotate_left
      · skip
        refine value_ (w1 := ?_) (v := ?_) (by rfl) rfl ?_ ?_
        rotate_left 2
        · go_simp
          constructor
          · rfl
          · rfl
        have HLT := m0_ (show ((w'.alloc (.cells #[.int .i64 a0, .int .i64 a1, .slice A2 l2.length c2] 27)).drew).heap[w'.heap.size]? = _ from new_of BK1.out (.cells #[.int .i64 a0, .int .i64 a1, .slice A2 l2.length c2] 27))
        have n0_ := m0_ (show ((w'.alloc (.cells #[.int .i64 a0, .int .i64 a1, .slice A2 l2.length c2] 27)).drew).heap[gb1]? = _ from blk_alloc BK1.out (.cells #[.int .i64 a0, .int .i64 a1, .slice A2 l2.length c2] 27))
        have n1_ := m0_ (show Below w.heap.size w ((w'.alloc (.cells #[.int .i64 a0, .int .i64 a1, .slice A2 l2.length c2] 27)).drew) from below_alloc HB.out (.cells #[.int .i64 a0, .int .i64 a1, .slice A2 l2.length c2] 27))
        clear BK1 HB
        have BK1 := n0_
        have HB := n1_
        clear n0_ n1_
        refine hK.out _ _ ⟨(blk_cell BK1.out 0).trans rfl, (blk_cell BK1.out 1).trans rfl, (blk_cell BK1.out 2).trans rfl⟩ (fun hHeld => ?_)
        clear hK K
        refine norm_ (a' := ?_) ?_ ?_
        rotate_left
        · show Act.put _ (some 19) _ = _
          simp only [Act.put, List.setIfInBounds_toArray, List.set_cons_zero, List.set_cons_succ, i64_w, i32_w]
          rfl
        refine one_ (i := 1) (N := some 16) #[true, true, true, true, true, false, false] rfl rfl (by kernel_rfl) (by decide) (fun K hK => ?_)
        refine goes_ Try.func107 (by kernel_rfl) rfl #[.slice A0 l0.length c0] (by rfl) rfl rfl (by simp only [List.map_toArray, List.map_cons, List.map_nil]; rfl) ?_
        with_reducible refine (Clone_walk A0 l0.length c0 xs _ HX1.out HLEN.out (fun ad e j u h => (HB.out.cell (World.block_lt_of_cell? _ _ (HX2.out ad e j u h))).trans (HX2.out ad e j u h)) HX3.out HX4.out).mono ?_
        rintro e w3 ⟨v16, rfl, ho, hb⟩
        refine ⟨_, rfl, ?_⟩
        have HNE := m0_ (show some w'.heap.size ≠ v16.ownBlock from fun e => by have h1 := own_base ho _ e.symm; have h2 := blk_lt HLT.out; omega)
        have n9_ := m0_ (blk_below HLT.out hb)
        clear HLT
        have HLT := n9_
        clear n9_
        have HOW := m0_ (own_weaken ho HB.out.size)
        clear ho
        have n0_ := m0_ (blk_below BK1.out hb)
        have n1_ := m0_ (below_step HB.out hb)
        clear BK1
        clear HB
        have BK1 := n0_
        have HB := n1_
        clear n0_ n1_
        clear hb
        refine hK.out _ _ ⟨(blk_cell BK1.out 0).trans rfl, (blk_cell BK1.out 1).trans rfl, (blk_cell BK1.out 2).trans rfl⟩ (fun hHeld => ?_)
        clear hK K
        refine norm_ (a' := ?_) ?_ ?_
        rotate_left
        · show Act.put _ (some 16) _ = _
          simp only [Act.put, List.setIfInBounds_toArray, List.set_cons_zero, List.set_cons_succ, i64_w, i32_w]
          rfl
        exact norm_ (by simp only [putAll, Act.put, List.setIfInBounds_toArray, List.set_cons_zero, List.set_cons_succ]) (hCont (v16, w'.heap.size) _ ⟨⟨(blk_cell BK1.out 0).trans rfl, (blk_cell BK1.out 1).trans rfl, (blk_cell BK1.out 2).trans rfl⟩, HOW, HLT, HNE, HB⟩)
      skip
      refine goes_ Try.func107 (by kernel_rfl) rfl #[.slice A0 l0.length c0] (by rfl) rfl rfl (by simp only [List.map_toArray, List.map_cons, List.map_nil]; rfl) ?_
      with_reducible refine (Clone_walk A0 l0.length c0 xs _ HX1.out HLEN.out (fun ad e j u h => (HB.out.cell (World.block_lt_of_cell? _ _ (HX2.out ad e j u h))).trans (HX2.out ad e j u h)) HX3.out HX4.out).mono ?_
      rintro e w3 ⟨v16, rfl, ho, hb⟩
      refine ⟨_, rfl, ?_⟩
      have HOW := m0_ (own_weaken ho HB.out.size)
      clear ho
      have n0_ := m0_ (blk_below BK1.out hb)
      have n1_ := m0_ (below_step HB.out hb)
      clear BK1
      clear HB
      have BK1 := n0_
      have HB := n1_
      clear n0_ n1_
      clear hb
      refine hK.out _ _ ⟨(blk_cell BK1.out 0).trans rfl, (blk_cell BK1.out 1).trans rfl, (blk_cell BK1.out 2).trans rfl⟩ (fun hHeld => ?_)
      clear hK K
      refine norm_ (a' := ?_) ?_ ?_
      rotate_left
      · show Act.put _ (some 16) _ = _
        simp only [Act.put, List.setIfInBounds_toArray, List.set_cons_zero, List.set_cons_succ, i64_w, i32_w]
        rfl
      refine one_ (i := 4) (N := some 19) #[true, true, true, true, true, false, false] rfl rfl (by kernel_rfl) (by decide) (fun K hK => ?_)
      refine value_ (w1 := ?_) (v := ?_) (by rfl) rfl ?_ ?_
      rotate_left 2
      · go_simp
        constructor
        · rfl
        · rfl
      have HNE := m0_ (show some w3.heap.size ≠ v16.ownBlock from fun e => Nat.lt_irrefl _ (own_lt HOW.out _ e.symm))
      have n9_ := m0_ (own_move HOW.out (fun k hk => (below_alloc (Below.refl _ _) (.cells #[.int .i64 a0, .int .i64 a1, .slice A2 l2.length c2] 27)).block k (own_lt HOW.out k hk)))
      clear HOW
      have HOW := n9_
      clear n9_
      have HLT := m0_ (show (w3.alloc (.cells #[.int .i64 a0, .int .i64 a1, .slice A2 l2.length c2] 27)).heap[w3.heap.size]? = _ from new_of BK1.out (.cells #[.int .i64 a0, .int .i64 a1, .slice A2 l2.length c2] 27))
      have n0_ := m0_ (show (w3.alloc (.cells #[.int .i64 a0, .int .i64 a1, .slice A2 l2.length c2] 27)).heap[gb1]? = _ from blk_alloc BK1.out (.cells #[.int .i64 a0, .int .i64 a1, .slice A2 l2.length c2] 27))
      have n1_ := m0_ (show Below w.heap.size w (w3.alloc (.cells #[.int .i64 a0, .int .i64 a1, .slice A2 l2.length c2] 27)) from below_alloc HB.out (.cells #[.int .i64 a0, .int .i64 a1, .slice A2 l2.length c2] 27))
      clear BK1 HB
      have BK1 := n0_
      have HB := n1_
      clear n0_ n1_
      refine hK.out _ _ ⟨(blk_cell BK1.out 0).trans rfl, (blk_cell BK1.out 1).trans rfl, (blk_cell BK1.out 2).trans rfl⟩ (fun hHeld => ?_)
      clear hK K
      refine norm_ (a' := ?_) ?_ ?_
      rotate_left
      · show Act.put _ (some 19) _ = _
        simp only [Act.put, List.setIfInBounds_toArray, List.set_cons_zero, List.set_cons_succ, i64_w, i32_w]
        rfl
      exact norm_ (by simp only [putAll, Act.put, List.setIfInBounds_toArray, List.set_cons_zero, List.set_cons_succ]) (hCont (v16, w3.heap.size) _ ⟨⟨(blk_cell BK1.out 0).trans rfl, (blk_cell BK1.out 1).trans rfl, (blk_cell BK1.out 2).trans rfl⟩, HOW, HLT, HNE, HB⟩)
    rintro ⟨v16, gl⟩ w4 ⟨hHeld, HOW, HLT, HNE, HB⟩
    clear BK1
    refine norm_ (a' := ?_) ?_ ?_
    rotate_left
    · simp only [putAll, Act.put, List.setIfInBounds_toArray, List.set_cons_zero, List.set_cons_succ]
      rfl
    refine last_ (i := 5) (N := some 20) #[true, true, true, true, true, true, false] rfl rfl (by kernel_rfl) (by decide) (fun K hK => ?_)
    refine goes_ Try.func106 (by kernel_rfl) rfl #[v16, .int .i64 (i : Int), .slice (some ⟨gl, 0, none⟩) 1 1] (by rfl) rfl rfl (by simp only [List.map_toArray, List.map_cons, List.map_nil]; rfl) ?_
    with_reducible refine (Insert_walk v16 l0.length i gl xs [.int .i64 a0, .int .i64 a1, .slice A2 l2.length c2] w.heap.size w _ HB.out HB.out.size HOW.out HIL.out HLEN.out HLT.out rfl HNE.out H1V.out HX4.out).mono ?_
    rintro e w5 ⟨v20, rfl, ho, hb⟩
    refine ⟨_, rfl, ?_⟩
    have HOZ := m0_ ho
    have HBZ := m0_ hb
    clear ho hb
    refine hK.out _ _ ?_
    clear hK K
    refine norm_ (a' := ?_) ?_ ?_
    rotate_left
    · show Act.put _ (some 20) _ = _
      simp only [Act.put, List.setIfInBounds_toArray, List.set_cons_zero, List.set_cons_succ, i64_w, i32_w]
      rfl
    refine pv_ 6 4 #[true, true, true, true, true, true, true] (by kernel_rfl) ?_
    refine done_ (by kernel_rfl) ?_

    go_wp2
    go_ret
    have hz := OwnRow.reads (R := k27.K w5) (e := 27) (size := 3) (w := w5) (base := w.heap.size) (v := v20) (ps := putIn l0 i ⟨a0, a1, l2⟩) ⟨_, (by rw [putIn_length]; exact HOZ.out), reps_in (HX5.out _ (HBZ.out)) (k27_mk w5 ⟨a0, a1, l2⟩ HC2.out (Kd.C_below HR2.out HBZ.out)) rfl HIL.out⟩
    obtain ⟨A, c, e, hl, hr⟩ := hz
    exact ⟨A, c, by rw [e]; rfl, hl, hr, HBZ.out⟩
theorem below_wr_ {B g : Nat} {w0 wr w1 w2 : World} (hb : Below wr.heap.size wr w1) (hg : wr.heap.size ≤ g) (hk : KeepBut w1 w2 g none) (hB : Below B w0 w2) (hB0 : Below B w0 wr) : Below wr.heap.size wr w2 :=
  ⟨hB.os.trans hB0.os.symm, hB.tape.trans hB0.tape.symm, hB.output.trans hB0.output.symm, Nat.le_trans hb.size hk.1, fun k hlt => (hk.2 k (Nat.lt_of_lt_of_le hlt hb.size) (by omega) (by simp)).trans (hb.block k hlt)⟩
def impl_putAll.l0 : Nat → List S27 → List S27 → Int → Option (List S27)
  | 0, _, _, _ => none
  | k + 1, a, b, i => if i < (b.length : Int) then (if 0 ≤ i then (impl_put.f k a (rd_T27 b i).f0 (rd_T27 b i).f1 (rd_T27 b i).f2).bind fun a2 => impl_putAll.l0 k a2 b (wrap64 (i + 1)) else none) else some a
def impl_putAll.f (k : Nat) (l0 l1 : List S27) : Option (List S27) := impl_putAll.l0 k l0 l1 0
set_option maxHeartbeats 4000000 in
set_option maxRecDepth 100000 in
theorem impl_putAll.calls (k : Nat) (A0 : Option Addr) (c0 : Nat) (l0 : List S27) (A1 : Option Addr) (c1 : Nat) (l1 : List S27) (r : List S27) (w : World) (hr0 : Kd.C k27 w A0 l0.length l0) (hc0 : l0.length ≤ c0) (hr1 : Kd.C k27 w A1 l1.length l1) (hc1 : l1.length ≤ c1) (h : impl_putAll.f k l0 l1 = some r) :
    Calls Try.prog 89 #[.slice A0 l0.length c0, .slice A1 l1.length c1] w fun e w' => ∃ (A : Option Addr) (c : Nat), e = .returned (.slice A r.length c) ∧ r.length ≤ c ∧ Kd.C k27 w' A r.length r ∧ Below w.heap.size w w' := by
  have HH := m0_ (show impl_putAll.l0 k l0 l1 0 = some r from h)
  have HR0 := m0_ hr0
  have HC0 := m0_ hc0
  have HR := m0_ hr1
  have HC := m0_ hc1
  have HB := m0_ (Below.refl w.heap.size w)
  clear h hr0 hc0 hr1 hc1
  go_enter Try.func89, Try.ntmps89
  go_wp2
  go_loopg [0, 9] k (fun kq v0 v9 w' => ∃ (a : List S27) (i : Int) (A : Option Addr) (c : Nat), v9 = .int .i64 i ∧ v0 = .slice A a.length c ∧ Aside0 (impl_putAll.l0 kq a l1 i = some r) ∧ Aside0 (kq ≤ k) ∧ Aside0 (Kd.C k27 w' A a.length a) ∧ Aside0 (a.length ≤ c) ∧ Aside0 (Below w.heap.size w w'))
  case atStart => exact ⟨l0, 0, A0, c0, rfl, rfl, HH, ⟨Nat.le_refl _⟩, HR0, HC0, HB⟩
  case round =>
    clear HB HH HR0 HC0
    obtain ⟨a, i, A, c, rfl, rfl, HA, HK1, HS, HL, HB⟩ := hrel
    have HBO := HB
    cases gk with
    | zero => exact absurd HA.out (by simp [impl_putAll.l0])
    | succ k1 =>
      have H := HA.out
      clear HA
      simp only [impl_putAll.l0] at H
      by_cases cc : i < (l1.length : Int)
      rotate_left
      · rw [if_neg cc] at H
        obtain rfl := Option.some.inj H
        have q1 : (i < (l1.length : Int)) = False := eq_false cc
        go_wp2
        go_ret
        exact ⟨A, c, rfl, HL.out, HS.out, HB.out⟩
      rw [if_pos cc] at H
      by_cases c0 : 0 ≤ i
      rotate_left
      · rw [if_neg c0] at H
        cases H
      rw [if_pos c0] at H
      obtain ⟨a2, hP, H2⟩ := Option.bind_eq_some_iff.1 H
      clear H
      obtain ⟨ad, A2, c2, e, h0, h1, h2, hl2, hg2⟩ := at_T27 HR.out i c0 cc
      subst e
      generalize rd_T27 l1 i = x at *
      have HP := m0_ hP
      have HH := m0_ H2
      have HL2 := m0_ hl2
      have HG2 := m0_ hg2
      clear hP H2 hl2 hg2
      replace h0 := (HB.out.cell (World.block_lt_of_cell? w _ h0)).trans h0
      replace h1 := (HB.out.cell (World.block_lt_of_cell? w _ h1)).trans h1
      replace h2 := (HB.out.cell (World.block_lt_of_cell? w _ h2)).trans h2
      have p1 : (0 ≤ i) = True := eq_true c0
      have q1 : (i < (l1.length : Int)) = True := eq_true cc
      go_upto_region 4 with (first | ((with_reducible refine gate_dst (N := 6) rfl ?_); refine box_event ?hg (N := 6) ?hd (cs := #[.int .i64 0, .int .i64 0, .slice none 0 0]) (t := 27) ?hr ?_; (case hd => rfl); (case hg => rfl); (case hr => first | (go_simp; done) | (go_simp; rfl)); intro gb6 hg wb6 hbox hb; have GE6 := m0_ (by rw [hg]; exact HB.out.size : w.heap.size ≤ gb6); have GR6 := m0_ (by rw [hg]; exact Nat.le_refl _ : wr.heap.size ≤ gb6); have n0_ := m0_ (hbox); have n1_ := m0_ (below_step HB.out hb); have n2_ := m0_ (hb); clear HB; have BK6 := n0_; have HB := n1_; have HBR := n2_; clear n0_ n1_ n2_; clear hbox hb hg) | ((with_reducible refine gate_store (t := 27) (p := 6) (v := .tmp 12) rfl ?_); refine store_blk (w0 := w) (base := w.heap.size) (e := 27) (g := gb6) (off := 0) (cur := #[.int .i64 0, .int .i64 0, .slice none 0 0]) (cur' := #[.int .i64 x.f0, .int .i64 x.f1, .slice A2 x.f2.length c2]) (u := .agg #[.int .i64 x.f0, .int .i64 x.f1, .slice A2 x.f2.length c2]) (seg := [.int .i64 x.f0, .int .i64 x.f1, .slice A2 x.f2.length c2]) rfl rfl rfl rfl rfl BK6.out rfl ?ht ?h1 (by simp) rfl HB.out GE6.out ?_; (case ht => kernel_rfl); (case h1 => intro q hq; simp only [List.mem_cons, List.not_mem_nil, or_false] at hq; first | (rcases hq with rfl | rfl | rfl <;> rfl) | (rcases hq with rfl | rfl <;> rfl) | (subst hq; rfl)); intro ws_ hs_ hk_ hB_; have n0_ := m0_ (hs_); have n1_ := m0_ (hB_); have n2_ := m0_ (Kd.C_below HS.out (below_wr_ HBR.out GR6.out hk_ hB_ HBO.out)); clear BK6; clear HB; clear HS; have BK6 := n0_; have HB := n1_; have HS := n2_; clear n0_ n1_ n2_; clear hs_ hk_ hB_))
      clear h0 h1 h2
      have hz0 := (blk_cell BK6.out 0).trans (show _ = some (Value.int .i64 x.f0) from rfl)
      have hz1 := (blk_cell BK6.out 1).trans (show _ = some (Value.int .i64 x.f1) from rfl)
      have hz2 := (blk_cell BK6.out 2).trans (show _ = some (Value.slice A2 x.f2.length c2) from rfl)
      go_wp2_with (go_at_call 85; fail)
      clear hz0 hz1 hz2
      refine (impl_put.calls k1 A c a x.f0 x.f1 A2 c2 x.f2 a2 _ HS.out HL.out (Kd.C_below HG2.out HB.out) HL2.out HP.out).mono ?_
      rintro e w4 ⟨A4, c4, rfl, hl4, hr4, hb4⟩
      have n0_ := m0_ hr4
      have n1_ := m0_ hl4
      have n2_ := m0_ (below_step HB.out hb4)
      clear HS HL HB hr4 hl4 hb4 HG2
      have HS := n0_
      have HL := n1_
      have HB := n2_
      clear n0_ n1_ n2_
      go_wp2
      go_roundg k1
      case measure => have := HK1.out; omega
      case rel => exact ⟨a2, wrap64 (i + 1), A4, c4, rfl, rfl, HH, ⟨by have := HK1.out; omega⟩, HS, HL, HB⟩
end Go.Proofs.Ytiplpckgmikmeaa.M
namespace Go.Proofs.Ytiplpckgmikmeaa.M
open Go.RowKit Go.Proofs.YtiplpckgmikmeaaW.PrintWords Go.Proofs.YtiplpckgmikmeaaW.PrintLast Go.Proofs.YtiplpckgmikmeaaW.PrintMore
attribute [local go_sem] max2_int min2_int max_two min_two max_three min_three max_four min_four
set_option linter.unusedVariables false
set_option linter.unusedSimpArgs false

def impl_OrOf.f (k : Nat) (l0 l1 : List (S27)) : Option (List (S27) × Bool) := (impl_OccsOk.f k l0).bind fun t => if t = true then (impl_OccsOk.f k l1).bind fun u => (if u = true then (impl_putAll.f k l0 l1).bind fun m => impl_few.f k m else some ([], false)) else some ([], false)
set_option maxHeartbeats 4000000 in
set_option maxRecDepth 100000 in
theorem impl_OrOf.calls (k : Nat) (A0 : Option Addr) (c0 : Nat) (l0 : List (S27)) (A1 : Option Addr) (c1 : Nat) (l1 : List (S27)) (r1 : List (S27)) (r2 : Bool) (w : World) (hr0 : Kd.C k27 w A0 l0.length l0) (hc0 : l0.length ≤ c0) (hr1 : Kd.C k27 w A1 l1.length l1) (hc1 : l1.length ≤ c1) (h : impl_OrOf.f k l0 l1 = some (r1, r2)) :
  Calls Try.prog 58 #[.slice A0 l0.length c0, .slice A1 l1.length c1] w fun e w' => ∃ v0_ : Value, e = .returned (.tuple #[v0_, .bool r2]) ∧ Kd.S k27 27 w' w.heap.size (fun _ => True) v0_ r1 ∧ Below w.heap.size w w' := by
 unfold impl_OrOf.f at h
 obtain ⟨t, ht, h⟩ := Option.bind_eq_some_iff.1 h
 have HT := m0_ ht
 have HH := m0_ h
 have HR0 := m0_ hr0
 have HC0 := m0_ hc0
 have HR1 := m0_ hr1
 have HC1 := m0_ hc1
 have HB := m0_ (Below.refl w.heap.size w)
 clear ht h hr0 hc0 hr1 hc1
 go_enter Try.func58, Try.ntmps58
 go_wp2_with (go_at_call 29;fail)
 refine (impl_OccsOk.calls k A0 c0 l0 t _ (Kd.C_below HR0.out HB.out) HC0.out HT.out).mono ?_
 rintro e w' ⟨rfl, hb⟩
 have n0_ := m0_ (below_step HB.out hb)
 clear HB hb
 have HB := n0_
 clear n0_
 cases t with
 | false =>
  go_wp2
  go_ret2
  have h1 : (([] : List S27), false) = (r1, r2) := Option.some.inj HH.out
  simp only [Prod.mk.injEq] at h1
  obtain ⟨rfl, rfl⟩ := h1
  exact ⟨_, rfl, Kd.S_nil _ _ _ _ _, HB.out⟩
 | true =>
  obtain ⟨u, hu, h⟩ := Option.bind_eq_some_iff.1 (show ((impl_OccsOk.f k l1).bind fun u => (if u = true then (impl_putAll.f k l0 l1).bind fun m => impl_few.f k m else some ([], false))) = some (r1, r2) from by have := HH.out;rw [if_pos rfl] at this;exact this)
  have HU := m0_ hu
  clear HH
  have HH := m0_ h
  clear hu h
  go_wp2_with (go_at_call 29;fail)
  refine (impl_OccsOk.calls k A1 c1 l1 u _ (Kd.C_below HR1.out HB.out) HC1.out HU.out).mono ?_
  rintro e w' ⟨rfl, hb⟩
  have n0_ := m0_ (below_step HB.out hb)
  clear HB hb
  have HB := n0_
  clear n0_
  cases u with
  | false =>
   go_wp2
   go_ret2
   have h1 : (([] : List S27), false) = (r1, r2) := Option.some.inj HH.out
   simp only [Prod.mk.injEq] at h1
   obtain ⟨rfl, rfl⟩ := h1
   exact ⟨_, rfl, Kd.S_nil _ _ _ _ _, HB.out⟩
  | true =>
   obtain ⟨m, hm, hp⟩ := Option.bind_eq_some_iff.1 (show ((impl_putAll.f k l0 l1).bind fun m => impl_few.f k m) = some (r1, r2) from by have := HH.out;rw [if_pos rfl] at this;exact this)
   have HM := m0_ hm
   have HP := m0_ hp
   clear hm hp
   go_wp2_with (go_at_call 89;fail)
   refine (impl_putAll.calls k A0 c0 l0 A1 c1 l1 m _ (Kd.C_below HR0.out HB.out) HC0.out (Kd.C_below HR1.out HB.out) HC1.out HM.out).mono ?_
   rintro e w4 ⟨A4, c4, rfl, hl4, hr4, hb⟩
   have HL4 := m0_ hl4
   have HR4 := m0_ hr4
   clear hl4 hr4
   have n0_ := m0_ (below_step HB.out hb)
   clear HB hb
   have HB := n0_
   clear n0_
   go_wp2_with (go_at_call 88;fail)
   refine (impl_few.calls k A4 c4 m r1 r2 _ HR4.out HL4.out HP.out).mono ?_
   rintro e w5 ⟨v5, rfl, hs, hb⟩
   have HS := m0_ (Kd.S_lower hs HB.out.size)
   clear hs
   have n0_ := m0_ (below_step HB.out hb)
   clear HB hb
   have HB := n0_
   clear n0_
   go_wp2
   go_ret2
   exact ⟨_, rfl, HS.out, HB.out⟩

def laws_FnExactOrOf.f (k : Nat) (l0 l1 : List S24) : Option Bool := (laws_szOccS.f k l0 1048576).bind fun t => if t < 0 then some true else (laws_szOccS.f k l1 t).bind fun u => if u < 0 then some true else
 (laws_toOccS.f k l0).bind fun a => (laws_toOccS.f k l1).bind fun b => (spec_OrOf.f k a b).bind fun v => (impl_OrOf.f k a b).bind fun g => (laws_eqOccS.f k g.1 v.1).bind fun e1 => (laws_eqOccS.f k a a).bind fun e2 => (laws_eqOccS.f k b b).bind fun e3 =>
 (laws_markOccS.f k a 1).bind fun m1 => (laws_markOccS.f k b m1.1).bind fun m2 => (laws_markOccS.f k g.1 1).bind fun m3 => (laws_heldOccS.f k m3.2 1).bind fun q => if (g.2 = v.2 ∧ e1 = true ∧ e2 = true ∧ e3 = true) ∧ (0 ≤ m2.1 ∧ 0 ≤ q ∧ q = m3.1) then some true else none
set_option maxHeartbeats 1600000 in
set_option maxRecDepth 100000 in
theorem laws_FnExactOrOf.calls (k : Nat) (A0 : Option Addr) (c0 : Nat) (l0 : List (S24)) (A1 : Option Addr) (c1 : Nat) (l1 : List (S24)) (r : Bool) (hT_ : Aside0 (r = true)) (w : World) (hr0 : Kd.C k24 w A0 l0.length l0) (hc0 : l0.length ≤ c0) (hr1 : Kd.C k24 w A1 l1.length l1) (hc1 : l1.length ≤ c1) (h : laws_FnExactOrOf.f k l0 l1 = some r) :
  Calls Try.prog 14 #[.slice A0 l0.length c0, .slice A1 l1.length c1] w fun e w' => e = .returned (.bool r) ∧ Below w.heap.size w w' := by
 obtain rfl := hT_.out
 unfold laws_FnExactOrOf.f at h
 obtain ⟨t, ht, h⟩ := Option.bind_eq_some_iff.1 h
 have HT1 := m0_ ht
 have HRA := m0_ hr0
 have HCA := m0_ hc0
 have HRB := m0_ hr1
 have HCB := m0_ hc1
 have HH := m0_ h
 have HB := m0_ (Below.refl w.heap.size w)
 clear ht hr0 hc0 hr1 hc1 h
 go_enter Try.func14, Try.ntmps14
 go_wp2_with (go_at_call 23;fail)
 refine (laws_szOccS.calls k _ _ l0 _ t _ (Kd.C_below HRA.out HB.out) HCA.out HT1.out).mono ?_
 rintro e w1 ⟨rfl, hb⟩
 have Z1 := m0_ hb.size
 have n0_ := m0_ (below_step HB.out hb)
 clear HB 
 have HB := n0_
 clear n0_ 
 clear hb
 by_cases c1_ : t < 0
 ·have c1b : decide (t < 0) = true := decide_eq_true c1_
  go_wp2
  go_ret
  exact ⟨rfl, HB.out⟩
 have c1b : decide (t < 0) = false := decide_eq_false c1_
 have h := HH.out
 rw [if_neg c1_] at h
 obtain ⟨u, hu, h⟩ := Option.bind_eq_some_iff.1 h
 have HT2 := m0_ hu
 have HH := m0_ h
 clear h hu c1_
 go_wp2_with (go_at_call 23;fail)
 refine (laws_szOccS.calls k _ _ l1 _ u _ (Kd.C_below HRB.out HB.out) HCB.out HT2.out).mono ?_
 rintro e w2 ⟨rfl, hb⟩
 have Z2 := m0_ hb.size
 have n0_ := m0_ (below_step HB.out hb)
 clear HB 
 have HB := n0_
 clear n0_ 
 clear hb
 by_cases c2_ : u < 0
 ·have c2b : decide (u < 0) = true := decide_eq_true c2_
  go_wp2
  go_ret
  exact ⟨rfl, HB.out⟩
 have c2b : decide (u < 0) = false := decide_eq_false c2_
 have h := HH.out
 rw [if_neg c2_] at h
 obtain ⟨a, hx, h⟩ := Option.bind_eq_some_iff.1 h
 have TA := m0_ hx
 clear hx
 obtain ⟨b, hx, h⟩ := Option.bind_eq_some_iff.1 h
 have TB := m0_ hx
 clear hx
 obtain ⟨⟨v1, v2⟩, hx, h⟩ := Option.bind_eq_some_iff.1 h
 have TV := m0_ hx
 clear hx
 obtain ⟨⟨g1, g2⟩, hx, h⟩ := Option.bind_eq_some_iff.1 h
 have TG := m0_ hx
 clear hx
 obtain ⟨e1, hx, h⟩ := Option.bind_eq_some_iff.1 h
 have E1 := m0_ hx
 clear hx
 obtain ⟨e2, hx, h⟩ := Option.bind_eq_some_iff.1 h
 have E2 := m0_ hx
 clear hx
 obtain ⟨e3, hx, h⟩ := Option.bind_eq_some_iff.1 h
 have E3 := m0_ hx
 clear hx
 obtain ⟨⟨p1, x1⟩, hx, h⟩ := Option.bind_eq_some_iff.1 h
 have M1 := m0_ hx
 clear hx
 obtain ⟨⟨p2, x2⟩, hx, h⟩ := Option.bind_eq_some_iff.1 h
 have M2 := m0_ hx
 clear hx
 obtain ⟨⟨p3, x3⟩, hx, h⟩ := Option.bind_eq_some_iff.1 h
 have M3 := m0_ hx
 clear hx
 obtain ⟨q, hx, h⟩ := Option.bind_eq_some_iff.1 h
 have TQ := m0_ hx
 clear hx
 have h2 := Decidable.byContradiction (fun c => by rw [if_neg c] at h;cases h) (p := (g2 = v2 ∧ e1 = true ∧ e2 = true ∧ e3 = true) ∧ (0 ≤ p2 ∧ 0 ≤ q ∧ q = p3))
 obtain ⟨⟨ex, rfl, rfl, rfl⟩, y1, y2, y3⟩ := h2
 subst y3
 have ex : g2 = v2 := ex
 subst ex
 have d1 : decide (p2 < 0) = false := decide_eq_false (by omega)
 have d2 : decide (q < 0) = false := decide_eq_false (by omega)
 have d3 : (q != q) = false := bne_self_eq_false q
 have d4 : (g2 != g2) = false := bne_self_eq_false g2
 have d5 : (g2 == g2) = true := beq_self_eq_true g2
 clear h HH y1 y2 c2_ HT1 HT2
 go_wp2_with (go_at_call 25;fail)
 refine (laws_toOccS.calls k _ _ l0 a _ (Kd.C_below HRA.out HB.out) HCA.out TA.out).mono ?_
 rintro e w3 ⟨v_, rfl, hs, hb⟩
 have hs := Kd.S_mono (ok' := fun k_ => w2.heap.size ≤ k_ ∧ k_ < w3.heap.size) (Kd.S_lower (Kd.S_bound hs) HB.out.size) (fun k_ hk => ⟨hk.2.1, hk.2.2.1⟩)
 obtain ⟨AS, cS, rfl⟩ := Kd.S_slice hs
 have n9_ := m0_ hs
 clear hs
 have Z3 := m0_ hb.size
 have n0_ := m0_ (below_step HB.out hb)
 clear HB 
 have HB := n0_
 clear n0_ 
 have FS := n9_
 clear n9_
 clear hb
 go_wp2_with (go_at_call 25;fail)
 refine (laws_toOccS.calls k _ _ l1 b _ (Kd.C_below HRB.out HB.out) HCB.out TB.out).mono ?_
 rintro e w4 ⟨v_, rfl, hs, hb⟩
 have hs := Kd.S_mono (ok' := fun k_ => w3.heap.size ≤ k_ ∧ k_ < w4.heap.size) (Kd.S_lower (Kd.S_bound hs) HB.out.size) (fun k_ hk => ⟨hk.2.1, hk.2.2.1⟩)
 obtain ⟨AU, cU, rfl⟩ := Kd.S_slice hs
 have n9_ := m0_ hs
 clear hs
 have Z4 := m0_ hb.size
 have n0_ := m0_ (below_step HB.out hb)
 have n1_ := m0_ (Kd.S_below FS.out hb)
 clear HB FS
 have HB := n0_
 have FS := n1_
 clear n0_ n1_
 have FU := n9_
 clear n9_
 clear hb
 go_wp2_with (go_at_call 57;fail)
 refine (spec_OrOf.calls k _ _ a _ _ b v1 g2 _ (Kd.S_reads' FS.out).2.2 (Kd.S_reads' FS.out).2.1 (Kd.S_reads' FU.out).2.2 (Kd.S_reads' FU.out).2.1 TV.out).mono ?_
 rintro e w5 ⟨v_, rfl, hs, hb⟩
 have hs := Kd.S_mono (ok' := fun k_ => w4.heap.size ≤ k_ ∧ k_ < w5.heap.size) (Kd.S_lower (Kd.S_bound hs) HB.out.size) (fun k_ hk => ⟨hk.2.1, hk.2.2.1⟩)
 obtain ⟨AV, cV, rfl⟩ := Kd.S_slice hs
 have n9_ := m0_ hs
 clear hs
 have Z5 := m0_ hb.size
 have n0_ := m0_ (below_step HB.out hb)
 have n1_ := m0_ (Kd.S_below FS.out hb)
 have n2_ := m0_ (Kd.S_below FU.out hb)
 clear HB FS FU
 have HB := n0_
 have FS := n1_
 have FU := n2_
 clear n0_ n1_ n2_
 have FV := n9_
 clear n9_
 clear hb
 clear FS FU
 go_wp2_with (go_at_call 25;fail)
 refine (laws_toOccS.calls k _ _ l0 a _ (Kd.C_below HRA.out HB.out) HCA.out TA.out).mono ?_
 rintro e w6 ⟨v_, rfl, hs, hb⟩
 have hs := Kd.S_mono (ok' := fun k_ => w5.heap.size ≤ k_ ∧ k_ < w6.heap.size) (Kd.S_lower (Kd.S_bound hs) HB.out.size) (fun k_ hk => ⟨hk.2.1, hk.2.2.1⟩)
 obtain ⟨AX, cX, rfl⟩ := Kd.S_slice hs
 have n9_ := m0_ hs
 clear hs
 have Z6 := m0_ hb.size
 have n0_ := m0_ (below_step HB.out hb)
 have n1_ := m0_ (Kd.S_below FV.out hb)
 clear HB FV
 have HB := n0_
 have FV := n1_
 clear n0_ n1_
 have FX := n9_
 clear n9_
 clear hb
 go_wp2_with (go_at_call 25;fail)
 refine (laws_toOccS.calls k _ _ l1 b _ (Kd.C_below HRB.out HB.out) HCB.out TB.out).mono ?_
 rintro e w7 ⟨v_, rfl, hs, hb⟩
 have hs := Kd.S_mono (ok' := fun k_ => w6.heap.size ≤ k_ ∧ k_ < w7.heap.size) (Kd.S_lower (Kd.S_bound hs) HB.out.size) (fun k_ hk => ⟨hk.2.1, hk.2.2.1⟩)
 obtain ⟨AY, cY, rfl⟩ := Kd.S_slice hs
 have n9_ := m0_ hs
 clear hs
 have Z7 := m0_ hb.size
 have n0_ := m0_ (below_step HB.out hb)
 have n1_ := m0_ (Kd.S_below FV.out hb)
 have n2_ := m0_ (Kd.S_below FX.out hb)
 clear HB FV FX
 have HB := n0_
 have FV := n1_
 have FX := n2_
 clear n0_ n1_ n2_
 have FY := n9_
 clear n9_
 clear hb
 go_wp2_with (go_at_call 58;fail)
 refine (impl_OrOf.calls k _ _ a _ _ b g1 g2 _ (Kd.S_reads' FX.out).2.2 (Kd.S_reads' FX.out).2.1 (Kd.S_reads' FY.out).2.2 (Kd.S_reads' FY.out).2.1 TG.out).mono ?_
 rintro e w8 ⟨v_, rfl, hs, hb⟩
 have hs := Kd.S_mono (ok' := fun k_ => w7.heap.size ≤ k_ ∧ k_ < w8.heap.size) (Kd.S_lower (Kd.S_bound hs) HB.out.size) (fun k_ hk => ⟨hk.2.1, hk.2.2.1⟩)
 obtain ⟨AG, cG, rfl⟩ := Kd.S_slice hs
 have n9_ := m0_ hs
 clear hs
 have Z8 := m0_ hb.size
 have n0_ := m0_ (below_step HB.out hb)
 have n1_ := m0_ (Kd.S_below FV.out hb)
 have n2_ := m0_ (Kd.S_below FX.out hb)
 have n3_ := m0_ (Kd.S_below FY.out hb)
 clear HB FV FX FY
 have HB := n0_
 have FV := n1_
 have FX := n2_
 have FY := n3_
 clear n0_ n1_ n2_ n3_
 have FG := n9_
 clear n9_
 clear hb
 go_wp2_with (go_at_call 27;fail)
 refine (laws_eqOccS.calls k _ _ g1 _ _ v1 true ⟨rfl⟩ _ (Kd.S_reads' FG.out).2.2 (Kd.S_reads' FG.out).2.1 (Kd.S_reads' FV.out).2.2 (Kd.S_reads' FV.out).2.1 E1.out).mono ?_
 rintro e w9 ⟨rfl, hb⟩
 have Z9 := m0_ hb.size
 have n0_ := m0_ (below_step HB.out hb)
 have n1_ := m0_ (Kd.S_below FV.out hb)
 have n2_ := m0_ (Kd.S_below FX.out hb)
 have n3_ := m0_ (Kd.S_below FY.out hb)
 have n4_ := m0_ (Kd.S_below FG.out hb)
 clear HB FV FX FY FG
 have HB := n0_
 have FV := n1_
 have FX := n2_
 have FY := n3_
 have FG := n4_
 clear n0_ n1_ n2_ n3_ n4_
 clear hb
 go_wp2_with (go_at_call 25;fail)
 refine (laws_toOccS.calls k _ _ l0 a _ (Kd.C_below HRA.out HB.out) HCA.out TA.out).mono ?_
 rintro e w10 ⟨v_, rfl, hs, hb⟩
 have hs := Kd.S_mono (ok' := fun k_ => w9.heap.size ≤ k_ ∧ k_ < w10.heap.size) (Kd.S_lower (Kd.S_bound hs) HB.out.size) (fun k_ hk => ⟨hk.2.1, hk.2.2.1⟩)
 obtain ⟨AS, cS, rfl⟩ := Kd.S_slice hs
 have n9_ := m0_ hs
 clear hs
 have Z10 := m0_ hb.size
 have n0_ := m0_ (below_step HB.out hb)
 have n1_ := m0_ (Kd.S_below FV.out hb)
 have n2_ := m0_ (Kd.S_below FX.out hb)
 have n3_ := m0_ (Kd.S_below FY.out hb)
 have n4_ := m0_ (Kd.S_below FG.out hb)
 clear HB FV FX FY FG
 have HB := n0_
 have FV := n1_
 have FX := n2_
 have FY := n3_
 have FG := n4_
 clear n0_ n1_ n2_ n3_ n4_
 have FS := n9_
 clear n9_
 clear hb
 go_wp2_with (go_at_call 27;fail)
 refine (laws_eqOccS.calls k _ _ a _ _ a true ⟨rfl⟩ _ (Kd.S_reads' FX.out).2.2 (Kd.S_reads' FX.out).2.1 (Kd.S_reads' FS.out).2.2 (Kd.S_reads' FS.out).2.1 E2.out).mono ?_
 rintro e w11 ⟨rfl, hb⟩
 have Z11 := m0_ hb.size
 have n0_ := m0_ (below_step HB.out hb)
 have n1_ := m0_ (Kd.S_below FV.out hb)
 have n2_ := m0_ (Kd.S_below FX.out hb)
 have n3_ := m0_ (Kd.S_below FY.out hb)
 have n4_ := m0_ (Kd.S_below FG.out hb)
 have n5_ := m0_ (Kd.S_below FS.out hb)
 clear HB FV FX FY FG FS
 have HB := n0_
 have FV := n1_
 have FX := n2_
 have FY := n3_
 have FG := n4_
 have FS := n5_
 clear n0_ n1_ n2_ n3_ n4_ n5_
 clear hb
 clear FS
 go_wp2_with (go_at_call 25;fail)
 refine (laws_toOccS.calls k _ _ l1 b _ (Kd.C_below HRB.out HB.out) HCB.out TB.out).mono ?_
 rintro e w12 ⟨v_, rfl, hs, hb⟩
 have hs := Kd.S_mono (ok' := fun k_ => w11.heap.size ≤ k_ ∧ k_ < w12.heap.size) (Kd.S_lower (Kd.S_bound hs) HB.out.size) (fun k_ hk => ⟨hk.2.1, hk.2.2.1⟩)
 obtain ⟨AS, cS, rfl⟩ := Kd.S_slice hs
 have n9_ := m0_ hs
 clear hs
 have Z12 := m0_ hb.size
 have n0_ := m0_ (below_step HB.out hb)
 have n1_ := m0_ (Kd.S_below FV.out hb)
 have n2_ := m0_ (Kd.S_below FX.out hb)
 have n3_ := m0_ (Kd.S_below FY.out hb)
 have n4_ := m0_ (Kd.S_below FG.out hb)
 clear HB FV FX FY FG
 have HB := n0_
 have FV := n1_
 have FX := n2_
 have FY := n3_
 have FG := n4_
 clear n0_ n1_ n2_ n3_ n4_
 have FS := n9_
 clear n9_
 clear hb
 go_wp2_with (go_at_call 27;fail)
 refine (laws_eqOccS.calls k _ _ b _ _ b true ⟨rfl⟩ _ (Kd.S_reads' FY.out).2.2 (Kd.S_reads' FY.out).2.1 (Kd.S_reads' FS.out).2.2 (Kd.S_reads' FS.out).2.1 E3.out).mono ?_
 rintro e w13 ⟨rfl, hb⟩
 have Z13 := m0_ hb.size
 have n0_ := m0_ (below_step HB.out hb)
 have n1_ := m0_ (Kd.S_below FV.out hb)
 have n2_ := m0_ (Kd.S_below FX.out hb)
 have n3_ := m0_ (Kd.S_below FY.out hb)
 have n4_ := m0_ (Kd.S_below FG.out hb)
 have n5_ := m0_ (Kd.S_below FS.out hb)
 clear HB FV FX FY FG FS
 have HB := n0_
 have FV := n1_
 have FX := n2_
 have FY := n3_
 have FG := n4_
 have FS := n5_
 clear n0_ n1_ n2_ n3_ n4_ n5_
 clear hb
 clear FS
 go_wp2_with (go_at_call 55;fail)
 refine (laws_markOccS.calls k _ _ a 1 p1 x1 w _ HB.out FX.out M1.out).mono ?_
 rintro e w14 ⟨rfl, hs, hb, hk⟩
 have Z14 := m0_ hk.1
 have n1_ := m0_ (Kd.S_kept FV.out hk (fun k_ h1 h2 => by have z1 := Z1.out;have z2 := Z2.out;have z3 := Z3.out;have z4 := Z4.out;have z5 := Z5.out;have z6 := Z6.out;have z7 := Z7.out;have z8 := Z8.out;have z9 := Z9.out;have z10 := Z10.out;have z11 := Z11.out;have z12 := Z12.out;have z13 := Z13.out;have z14 := Z14.out;omega))
 have n2_ := m0_ (Kd.S_kept FY.out hk (fun k_ h1 h2 => by have z1 := Z1.out;have z2 := Z2.out;have z3 := Z3.out;have z4 := Z4.out;have z5 := Z5.out;have z6 := Z6.out;have z7 := Z7.out;have z8 := Z8.out;have z9 := Z9.out;have z10 := Z10.out;have z11 := Z11.out;have z12 := Z12.out;have z13 := Z13.out;have z14 := Z14.out;omega))
 have n3_ := m0_ (Kd.S_kept FG.out hk (fun k_ h1 h2 => by have z1 := Z1.out;have z2 := Z2.out;have z3 := Z3.out;have z4 := Z4.out;have z5 := Z5.out;have z6 := Z6.out;have z7 := Z7.out;have z8 := Z8.out;have z9 := Z9.out;have z10 := Z10.out;have z11 := Z11.out;have z12 := Z12.out;have z13 := Z13.out;have z14 := Z14.out;omega))
 have n0_ := m0_ hb
 clear HB hs hb hk FV FX FY FG
 have HB := n0_
 have FV := n1_
 have FY := n2_
 have FG := n3_
 clear n0_ n1_ n2_ n3_
 go_wp2_with (go_at_call 55;fail)
 refine (laws_markOccS.calls k _ _ b p1 p2 x2 w _ HB.out FY.out M2.out).mono ?_
 rintro e w15 ⟨rfl, hs, hb, hk⟩
 have Z15 := m0_ hk.1
 have n1_ := m0_ (Kd.S_kept FV.out hk (fun k_ h1 h2 => by have z1 := Z1.out;have z2 := Z2.out;have z3 := Z3.out;have z4 := Z4.out;have z5 := Z5.out;have z6 := Z6.out;have z7 := Z7.out;have z8 := Z8.out;have z9 := Z9.out;have z10 := Z10.out;have z11 := Z11.out;have z12 := Z12.out;have z13 := Z13.out;have z14 := Z14.out;have z15 := Z15.out;omega))
 have n2_ := m0_ (Kd.S_kept FG.out hk (fun k_ h1 h2 => by have z1 := Z1.out;have z2 := Z2.out;have z3 := Z3.out;have z4 := Z4.out;have z5 := Z5.out;have z6 := Z6.out;have z7 := Z7.out;have z8 := Z8.out;have z9 := Z9.out;have z10 := Z10.out;have z11 := Z11.out;have z12 := Z12.out;have z13 := Z13.out;have z14 := Z14.out;have z15 := Z15.out;omega))
 have n0_ := m0_ hb
 clear HB hs hb hk FV FY FG
 have HB := n0_
 have FV := n1_
 have FG := n2_
 clear n0_ n1_ n2_
 go_wp2_with (go_at_call 27;fail)
 refine (laws_eqOccS.calls k _ _ g1 _ _ v1 true ⟨rfl⟩ _ (Kd.S_reads' FG.out).2.2 (Kd.S_reads' FG.out).2.1 (Kd.S_reads' FV.out).2.2 (Kd.S_reads' FV.out).2.1 E1.out).mono ?_
 rintro e w16 ⟨rfl, hb⟩
 have Z16 := m0_ hb.size
 have n0_ := m0_ (below_step HB.out hb)
 have n1_ := m0_ (Kd.S_below FV.out hb)
 have n2_ := m0_ (Kd.S_below FG.out hb)
 clear HB FV FG
 have HB := n0_
 have FV := n1_
 have FG := n2_
 clear n0_ n1_ n2_
 clear hb
 go_wp2_with (go_at_call 55;fail)
 refine (laws_markOccS.calls k _ _ g1 1 q x3 w _ HB.out FG.out M3.out).mono ?_
 rintro e w17 ⟨rfl, hs, hb, hk⟩
 have Z17 := m0_ hk.1
 have n1_ := m0_ (Kd.S_kept FV.out hk (fun k_ h1 h2 => by have z1 := Z1.out;have z2 := Z2.out;have z3 := Z3.out;have z4 := Z4.out;have z5 := Z5.out;have z6 := Z6.out;have z7 := Z7.out;have z8 := Z8.out;have z9 := Z9.out;have z10 := Z10.out;have z11 := Z11.out;have z12 := Z12.out;have z13 := Z13.out;have z14 := Z14.out;have z15 := Z15.out;have z16 := Z16.out;have z17 := Z17.out;omega))
 have eL := (Kd.S_reads' hs).1
 rw [eL] at hs
 rw [eL]
 clear eL
 have n8_ := m0_ hs
 have n0_ := m0_ hb
 clear HB hs hb hk FV FG
 have HB := n0_
 have FV := n1_
 have FG := n8_
 clear n0_ n1_ n8_
 go_wp2_with (go_at_call 56;fail)
 refine (laws_heldOccS.calls k _ _ x3 1 q _ (Kd.S_reads' FG.out).2.2 (Kd.S_reads' FG.out).2.1 TQ.out).mono ?_
 rintro e w18 ⟨rfl, hb⟩
 have hb := hb.below
 have Z18 := m0_ hb.size
 have n0_ := m0_ (below_step HB.out hb)
 have n1_ := m0_ (Kd.S_below FV.out hb)
 have n2_ := m0_ (Kd.S_below FG.out hb)
 clear HB FV FG
 have HB := n0_
 have FV := n1_
 have FG := n2_
 clear n0_ n1_ n2_
 clear hb
 go_wp2_with (go_at_call 25;fail)
 refine (laws_toOccS.calls k _ _ l0 a _ (Kd.C_below HRA.out HB.out) HCA.out TA.out).mono ?_
 rintro e w19 ⟨v_, rfl, hs, hb⟩
 have hs := Kd.S_mono (ok' := fun k_ => w18.heap.size ≤ k_ ∧ k_ < w19.heap.size) (Kd.S_lower (Kd.S_bound hs) HB.out.size) (fun k_ hk => ⟨hk.2.1, hk.2.2.1⟩)
 obtain ⟨AS, cS, rfl⟩ := Kd.S_slice hs
 have n9_ := m0_ hs
 clear hs
 have Z19 := m0_ hb.size
 have n0_ := m0_ (below_step HB.out hb)
 have n1_ := m0_ (Kd.S_below FV.out hb)
 have n2_ := m0_ (Kd.S_below FG.out hb)
 clear HB FV FG
 have HB := n0_
 have FV := n1_
 have FG := n2_
 clear n0_ n1_ n2_
 have FS := n9_
 clear n9_
 clear hb
 go_wp2_with (go_at_call 25;fail)
 refine (laws_toOccS.calls k _ _ l1 b _ (Kd.C_below HRB.out HB.out) HCB.out TB.out).mono ?_
 rintro e w20 ⟨v_, rfl, hs, hb⟩
 have hs := Kd.S_mono (ok' := fun k_ => w19.heap.size ≤ k_ ∧ k_ < w20.heap.size) (Kd.S_lower (Kd.S_bound hs) HB.out.size) (fun k_ hk => ⟨hk.2.1, hk.2.2.1⟩)
 obtain ⟨AU, cU, rfl⟩ := Kd.S_slice hs
 have n9_ := m0_ hs
 clear hs
 have Z20 := m0_ hb.size
 have n0_ := m0_ (below_step HB.out hb)
 have n1_ := m0_ (Kd.S_below FV.out hb)
 have n2_ := m0_ (Kd.S_below FG.out hb)
 have n3_ := m0_ (Kd.S_below FS.out hb)
 clear HB FV FG FS
 have HB := n0_
 have FV := n1_
 have FG := n2_
 have FS := n3_
 clear n0_ n1_ n2_ n3_
 have FU := n9_
 clear n9_
 clear hb
 go_wp2_with (go_at_call 58;fail)
 refine (impl_OrOf.calls k _ _ a _ _ b g1 g2 _ (Kd.S_reads' FS.out).2.2 (Kd.S_reads' FS.out).2.1 (Kd.S_reads' FU.out).2.2 (Kd.S_reads' FU.out).2.1 TG.out).mono ?_
 rintro e w21 ⟨v_, rfl, hs, hb⟩
 have hs := Kd.S_mono (ok' := fun k_ => w20.heap.size ≤ k_ ∧ k_ < w21.heap.size) (Kd.S_lower (Kd.S_bound hs) HB.out.size) (fun k_ hk => ⟨hk.2.1, hk.2.2.1⟩)
 obtain ⟨AH, cH, rfl⟩ := Kd.S_slice hs
 have n9_ := m0_ hs
 clear hs
 have Z21 := m0_ hb.size
 have n0_ := m0_ (below_step HB.out hb)
 have n1_ := m0_ (Kd.S_below FV.out hb)
 have n2_ := m0_ (Kd.S_below FG.out hb)
 have n3_ := m0_ (Kd.S_below FS.out hb)
 have n4_ := m0_ (Kd.S_below FU.out hb)
 clear HB FV FG FS FU
 have HB := n0_
 have FV := n1_
 have FG := n2_
 have FS := n3_
 have FU := n4_
 clear n0_ n1_ n2_ n3_ n4_
 have FH := n9_
 clear n9_
 clear hb
 clear FS FU
 go_wp2_with (go_at_call 27;fail)
 refine (laws_eqOccS.calls k _ _ g1 _ _ v1 true ⟨rfl⟩ _ (Kd.S_reads' FH.out).2.2 (Kd.S_reads' FH.out).2.1 (Kd.S_reads' FV.out).2.2 (Kd.S_reads' FV.out).2.1 E1.out).mono ?_
 rintro e w22 ⟨rfl, hb⟩
 have Z22 := m0_ hb.size
 have n0_ := m0_ (below_step HB.out hb)
 have n1_ := m0_ (Kd.S_below FV.out hb)
 have n2_ := m0_ (Kd.S_below FG.out hb)
 have n3_ := m0_ (Kd.S_below FH.out hb)
 clear HB FV FG FH
 have HB := n0_
 have FV := n1_
 have FG := n2_
 have FH := n3_
 clear n0_ n1_ n2_ n3_
 clear hb
 clear FH FV
 go_wp2_with (go_at_call 56;fail)
 refine (laws_heldOccS.calls k _ _ x3 1 q _ (Kd.S_reads' FG.out).2.2 (Kd.S_reads' FG.out).2.1 TQ.out).mono ?_
 rintro e w23 ⟨rfl, hb⟩
 have hb := hb.below
 have Z23 := m0_ hb.size
 have n0_ := m0_ (below_step HB.out hb)
 have n1_ := m0_ (Kd.S_below FG.out hb)
 clear HB FG
 have HB := n0_
 have FG := n1_
 clear n0_ n1_
 clear hb
 go_wp2
 go_ret
 exact ⟨rfl, HB.out⟩

end Go.Proofs.Ytiplpckgmikmeaa.M
namespace Go.Proofs.Ytiplpckgmikmeaa.M
set_option linter.unusedVariables false
set_option linter.unusedSimpArgs false
open Go.RowKit Go.Proofs.YtiplpckgmikmeaaW.PrintWords Go.Proofs.YtiplpckgmikmeaaW.PrintLast

theorem rd_nat (l : List Int) (n : Nat) : rd l (n : Int) = l.getD n 0 := rfl

theorem szIntS_ok (l : List Int) (a : Int) (h0 : 0 ≤ a) (h1 : a ≤ 1048576) (hl : l.length ≤ 9223372036854775807) : laws_szIntS.f l a = some (if (l.length : Int) ≤ a then a - l.length else -1) := by
  unfold laws_szIntS.f
  rw [w_small (by omega) (by omega)]
  by_cases h : (l.length : Int) ≤ a
  · rw [if_neg (by omega), if_pos h]
  · rw [if_pos (by omega), if_neg h]

theorem toIntS_l0_ev (l : List Int) (hl : l.length ≤ 9223372036854775807) : ∀ (d n : Nat) (a : List Int), n + d = l.length → a.length = l.length → Ev (fun k => laws_toIntS.l0 k l a (n : Int)) (a.take n ++ l.drop n) := by
  intro d
  induction d with
  | zero =>
    intro n a hn ha
    rw [List.drop_of_length_le (by omega), List.take_of_length_le (by omega), List.append_nil]
    exact Ev.last (fun k => by simp only [laws_toIntS.l0]; rw [if_neg (by omega)])
  | succ d ih =>
    intro n a hn ha
    rw [drop_at l 0 n (by omega)]
    have next := ih (n + 1) (a.set n (l.getD n 0)) (by omega) (by rw [List.length_set]; exact ha)
    rw [take_set a n _ (by omega), List.append_assoc] at next
    refine Ev.step (fun k => by simp only [laws_toIntS.l0]; rw [if_pos (by omega), if_pos (by omega), if_pos (by omega), w_succ (by omega), rd_nat, Int.toNat_natCast]) ?_
    exact next
theorem toIntS_ev (l : List Int) (hl : l.length ≤ 1048576) : Ev (fun k => laws_toIntS.f k l) l := by
  unfold laws_toIntS.f
  refine Ev.pos (by omega) (Ev.pos (by omega) ?_)
  have := toIntS_l0_ev l (by omega) l.length 0 (List.replicate l.length 0) (by omega) (by simp)
  rw [Int.toNat_natCast]
  exact this

theorem eqIntS_l0_ev (l : List Int) (hl : l.length ≤ 9223372036854775807) : ∀ d n : Nat, n + d = l.length → Ev (fun k => laws_eqIntS.l0 k l l (n : Int)) true := by
  intro d
  induction d with
  | zero =>
    intro n hn
    exact Ev.last (fun k => by simp only [laws_eqIntS.l0]; rw [if_neg (by omega)])
  | succ d ih =>
    intro n hn
    refine Ev.step (fun k => by simp only [laws_eqIntS.l0]; rw [if_pos (by omega), if_pos (by omega), if_pos (by omega), if_pos trivial, w_succ (by omega)]) ?_
    exact ih (n + 1) (by omega)
theorem eqIntS_ev (l : List Int) (hl : l.length ≤ 9223372036854775807) : Ev (fun k => laws_eqIntS.f k l l) true := by
  unfold laws_eqIntS.f
  exact Ev.pos rfl (eqIntS_l0_ev l hl l.length 0 (by omega))
theorem maxLen_le {n : Nat} (h : n ≤ maxLen) : n ≤ 9223372036854775807 := by unfold maxLen at h; omega
def leftOf (a : Int) (n : Nat) : Int := if (n : Int) ≤ a then a - n else -1
theorem leftOf_neg {a : Int} {n : Nat} (h : ¬ (n : Int) ≤ a) : leftOf a n = -1 := if_neg h
theorem leftOf_pos {a : Int} {n : Nat} (h : (n : Int) ≤ a) : leftOf a n = a - n := if_pos h
theorem getD_in {α : Type} {l : List α} {z : α} {n : Nat} (h : n < l.length) : l.getD n z = l[n] := by
  rw [List.getD_eq_getElem?_getD, List.getElem?_eq_getElem h]
  rfl

def iMarks : Nat → Int → List Int
  | 0, _ => []
  | n + 1, c => c :: iMarks n (c + 1)
theorem iMarks_len : ∀ (n : Nat) (c : Int), (iMarks n c).length = n
  | 0, _ => rfl
  | n + 1, c => by rw [iMarks, List.length_cons, iMarks_len n]
theorem markIntS_l0_ev : ∀ (d n : Nat) (l : List Int) (c : Int), n + d = l.length → l.length ≤ 1099511627776 → 0 ≤ c → c + d ≤ 1152921504606846976 → Ev (fun k => laws_markIntS.l0 k l c (n : Int)) (c + d, l.take n ++ iMarks d c) := by
  intro d
  induction d with
  | zero =>
    intro n l c hn hl h0 h1
    rw [List.take_of_length_le (by omega)]
    exact Ev.last (fun k => by simp only [laws_markIntS.l0]; rw [if_neg (by omega)]; simp [iMarks])
  | succ d ih =>
    intro n l c hn hl h0 h1
    have w1 : wrap64 (c + 1) = c + 1 := w_small (by omega) (by omega)
    have next := ih (n + 1) (l.set n c) (c + 1) (by rw [List.length_set]; omega) (by rw [List.length_set]; omega) (by omega) (by omega)
    rw [take_set l n _ (by omega)] at next
    refine Ev.step (fun k => by
      simp only [laws_markIntS.l0]
      rw [if_pos (by omega), if_pos (by omega), w1, Int.toNat_natCast, w_succ (by omega)]) ?_
    refine Ev.val next ?_
    rw [iMarks, List.append_assoc]
    simp only [Prod.mk.injEq]
    exact ⟨by omega, rfl⟩
theorem markIntS_ev (l : List Int) (c : Int) (hl : l.length ≤ 1099511627776) (h0 : 0 ≤ c) (h1 : c ≤ 1125899906842624) : Ev (fun k => laws_markIntS.f k l c) (c + l.length, iMarks l.length c) := by
  unfold laws_markIntS.f
  exact markIntS_l0_ev l.length 0 l c (by omega) hl h0 (by omega)
theorem heldIntS_l0_ev (m : List Int) (hm : m.length ≤ 1099511627776) : ∀ (d n : Nat) (c : Int), n + d = m.length → m.drop n = iMarks d c → 0 ≤ c → c + d ≤ 1152921504606846976 → Ev (fun k => laws_heldIntS.l0 k m c (n : Int)) (c + d) := by
  intro d
  induction d with
  | zero =>
    intro n c hn hd h0 h1
    exact Ev.last (fun k => by simp only [laws_heldIntS.l0]; rw [if_neg (by omega)]; simp)
  | succ d ih =>
    intro n c hn hd h0 h1
    have w1 : wrap64 (c + 1) = c + 1 := w_small (by omega) (by omega)
    rw [drop_at m 0 n (by omega), iMarks] at hd
    injection hd with hx hd
    have next := ih (n + 1) (c + 1) (by omega) hd (by omega) (by omega)
    refine Ev.step (fun k => by
      simp only [laws_heldIntS.l0]
      rw [if_pos (by omega), if_pos (by omega), rd_nat, hx, w1, if_pos rfl, w_succ (by omega)]) ?_
    refine Ev.val next ?_
    omega
theorem heldIntS_ev (n : Nat) (c : Int) (hn : n ≤ 1099511627776) (h0 : 0 ≤ c) (h1 : c ≤ 1125899906842624) : Ev (fun k => laws_heldIntS.f k (iMarks n c) c) (c + n) := by
  unfold laws_heldIntS.f
  exact heldIntS_l0_ev (iMarks n c) (by rw [iMarks_len]; exact hn) n 0 c (by rw [iMarks_len]; omega) rfl h0 (by omega)

theorem impl_in_is (a b c : Int) : impl_in.f a b c = some (decide (b ≤ a) && decide (a ≤ c)) := by
  unfold impl_in.f
  by_cases h : b ≤ a
  · rw [if_pos h]; simp [h]
  · rw [if_neg h]; simp [h]

def cmpI : List Int → List Int → Int
  | [], [] => 0
  | [], _ :: _ => -1
  | _ :: _, [] => 1
  | a :: xs, b :: ys => if a < b then -1 else if a > b then 1 else cmpI xs ys
def sgn (b : Bool) : Int := if b then -1 else 1
def cmpO (a b : S27) : Int := if a.f1 = b.f1 then (if a.f0 = b.f0 then cmpI a.f2 b.f2 else sgn (decide (a.f0 < b.f0))) else sgn (decide (a.f1 < b.f1))
def lessO (a b : S27) : Bool := decide (cmpO a b < 0)

theorem l3Ids_l0_ev (a b : List Int) (ha : a.length ≤ 9223372036854775806) (hb : b.length ≤ 9223372036854775806) : ∀ d n : Nat, n + d = a.length → n ≤ b.length → Ev (fun k => spec_l3Ids.l0 k a b (n : Int)) (cmpI (a.drop n) (b.drop n)) := by
  intro d
  have ends : ∀ (n : Nat), n ≤ a.length → n ≤ b.length → (n = a.length ∨ n = b.length) → Ev (fun k => spec_l3Ids.j1 k a b (n : Int) false) (cmpI (a.drop n) (b.drop n)) := by
    intro n h1 h2 h3
    refine Ev.last (fun k => ?_)
    simp only [spec_l3Ids.j1]
    rw [if_neg (by decide)]
    rcases Nat.lt_or_ge n a.length with ha' | ha'
    · have hbn : n = b.length := by omega
      rw [if_neg (by omega), if_pos (by omega), List.drop_eq_getElem_cons ha', List.drop_of_length_le (show b.length ≤ n by omega)]
      rfl
    rw [List.drop_of_length_le ha']
    rcases Nat.lt_or_ge n b.length with hb' | hb'
    · rw [if_pos (by omega), List.drop_eq_getElem_cons hb']
      rfl
    · rw [if_neg (by omega), if_neg (by omega), List.drop_of_length_le hb']
      rfl
  induction d with
  | zero =>
    intro n hn hb'
    refine Ev.step (fun k => by simp only [spec_l3Ids.l0]; rw [if_neg (by omega)]) ?_
    exact ends n (by omega) hb' (by omega)
  | succ d ih =>
    intro n hn hb'
    refine Ev.step (fun k => by simp only [spec_l3Ids.l0]; rw [if_pos (by omega)]) ?_
    rcases Nat.lt_or_ge n b.length with hlt | hge
    rotate_left
    · rw [decide_eq_false (show ¬ (n : Int) < (b.length : Int) by omega)]
      exact ends n (by omega) hb' (by omega)
    rw [decide_eq_true (show (n : Int) < (b.length : Int) by omega)]
    refine Ev.step (fun k => by simp only [spec_l3Ids.j1]; rw [if_pos trivial, if_pos (by omega), if_pos (by omega), if_pos (by omega), w_succ (by omega)]) ?_
    rw [drop_at a 0 n (by omega), drop_at b 0 n (by omega)]
    have next := ih (n + 1) (by omega) (by omega)
    have ra : rd a (n : Int) = a.getD n 0 := rfl
    have rb : rd b (n : Int) = b.getD n 0 := rfl
    rw [ra, rb]
    generalize a.getD n 0 = x at *
    generalize b.getD n 0 = y at *
    unfold cmpI
    by_cases h1 : x < y
    · rw [if_pos h1]
      exact Ev.pos h1 (Ev.now _)
    rw [if_neg h1]
    refine Ev.neg h1 ?_
    by_cases h2 : x > y
    · rw [if_pos h2]
      exact Ev.pos h2 (Ev.now _)
    · rw [if_neg h2]
      exact Ev.neg h2 next
theorem l3Ids_ev (a b : List Int) (ha : a.length ≤ 9223372036854775806) (hb : b.length ≤ 9223372036854775806) : Ev (fun k => spec_l3Ids.f k a b) (cmpI a b) := by
  unfold spec_l3Ids.f
  exact l3Ids_l0_ev a b ha hb a.length 0 (by omega) (by omega)

theorem spec_OccLess_ev (a b : S27) (ha : a.f2.length ≤ 9223372036854775806) (hb : b.f2.length ≤ 9223372036854775806) : Ev (fun k => spec_OccLess.f k a.f0 a.f1 a.f2 b.f0 b.f1 b.f2) (lessO a b) := by
  unfold spec_OccLess.f lessO cmpO
  by_cases h1 : a.f1 = b.f1
  · rw [if_pos h1]
    refine Ev.pos h1 ?_
    by_cases h2 : a.f0 = b.f0
    · rw [if_pos h2]
      exact Ev.pos h2 (Ev.bindS (l3Ids_ev _ _ ha hb) rfl)
    · rw [if_neg h2]
      refine Ev.neg h2 (Ev.one (fun _ => ?_))
      by_cases h3 : a.f0 < b.f0 <;> simp [h3, sgn]
  · rw [if_neg h1]
    refine Ev.neg h1 (Ev.one (fun _ => ?_))
    by_cases h3 : a.f1 < b.f1 <;> simp [h3, sgn]

def idsGo : Int → List Int → Bool
  | _, [] => true
  | p, x :: xs => decide (p < x) && decide (x < 24) && idsGo x xs
theorem idsGo_len : ∀ (l : List Int) (p : Int), idsGo p l = true → p ≤ 23 → (l.length : Int) + p ≤ 23
  | [], p, _, hp => by simp; exact hp
  | x :: xs, p, h, _ => by
    unfold idsGo at h
    simp only [Bool.and_eq_true, decide_eq_true_eq] at h
    have := idsGo_len xs x h.2 (by omega)
    rw [List.length_cons]
    omega
def occOkB (o : S27) : Bool := decide (1 ≤ o.f0) && decide (o.f0 ≤ o.f1) && decide (o.f1 ≤ 2000) && decide (1 ≤ o.f2.length) && idsGo (-1) o.f2
def idPrev (l : List Int) (n : Nat) : Int := if n = 0 then -1 else l.getD (n - 1) 0
theorem idPrev_succ (l : List Int) (n : Nat) : idPrev l (n + 1) = l.getD n 0 := by simp [idPrev]

theorem spec_OccOk_l0_ev (a b : Int) (l : List Int) (hl : l.length ≤ 9223372036854775806) : ∀ d n : Nat, n + d = l.length → -1 ≤ idPrev l n → Ev (fun k => spec_OccOk.l0 k (n : Int) a b l) (idsGo (idPrev l n) (l.drop n)) := by
  intro d
  induction d with
  | zero =>
    intro n hn hp
    rw [List.drop_of_length_le (by omega)]
    exact Ev.last (fun k => by simp only [spec_OccOk.l0]; rw [if_neg (by omega)]; rfl)
  | succ d ih =>
    intro n hn hp
    have hrd : rd l (n : Int) = l.getD n 0 := rfl
    rw [drop_at l 0 n (by omega)]
    refine Ev.step (fun k => by simp only [spec_OccOk.l0]; rw [if_pos (by omega), if_pos (by omega), w_succ (by omega), hrd]) ?_
    have next := ih (n + 1) (by omega)
    rw [idPrev_succ] at next
    generalize l.getD n 0 = x at *
    unfold idsGo
    by_cases h0 : x < 0
    · rw [decide_eq_false (show ¬ idPrev l n < x by omega)]
      exact Ev.pos h0 (Ev.now _)
    refine Ev.neg h0 ?_
    by_cases h1 : x ≥ 24
    · rw [decide_eq_false (show ¬ x < 24 by omega), Bool.and_false]
      exact Ev.pos h1 (Ev.now _)
    refine Ev.neg h1 ?_
    rw [decide_eq_true (show x < 24 by omega), Bool.and_true]
    rcases Nat.eq_zero_or_pos n with hz | hpos
    · subst hz
      rw [show idPrev l 0 = -1 from rfl, decide_eq_true (show (-1 : Int) < x by omega)]
      exact Ev.neg (by omega) (next (by omega))
    obtain ⟨m, rfl⟩ : ∃ m, n = m + 1 := ⟨n - 1, by omega⟩
    have hw : wrap64 (((m + 1 : Nat) : Int) - 1) = (m : Int) := by rw [w_small (by omega) (by omega)]; omega
    refine Ev.pos (by omega) ?_
    rw [hw]
    refine Ev.pos (by omega) (Ev.pos (by omega) ?_)
    have hr2 : rd l (m : Int) = l.getD m 0 := rfl
    rw [hr2, idPrev_succ]
    by_cases hc : x ≤ l.getD m 0
    · rw [decide_eq_false (show ¬ l.getD m 0 < x by omega)]
      exact Ev.pos hc (Ev.now _)
    · rw [decide_eq_true (show l.getD m 0 < x by omega)]
      exact Ev.neg hc (next (by omega))

theorem spec_OccOk_ev (o : S27) (hl : o.f2.length ≤ 9223372036854775806) : Ev (fun k => spec_OccOk.f k o.f0 o.f1 o.f2) (occOkB o) := by
  have bad : ∀ b : Bool, b = true → Ev (fun k => spec_OccOk.j0 k b o.f0 o.f1 o.f2) false := by
    intro b hb
    subst hb
    exact Ev.last (fun k => by simp only [spec_OccOk.j0]; rw [if_pos trivial])
  unfold spec_OccOk.f occOkB
  by_cases h0 : o.f0 < 1
  · rw [decide_eq_false (show ¬ 1 ≤ o.f0 by omega)]
    exact Ev.pos h0 (bad _ rfl)
  rw [decide_eq_true (show 1 ≤ o.f0 by omega)]
  refine Ev.neg h0 ?_
  by_cases h1 : o.f1 < o.f0
  · rw [decide_eq_false (show ¬ o.f0 ≤ o.f1 by omega)]
    exact Ev.pos h1 (bad _ rfl)
  rw [decide_eq_true (show o.f0 ≤ o.f1 by omega)]
  refine Ev.neg h1 ?_
  by_cases h2 : o.f1 > 2000
  · rw [decide_eq_false (show ¬ o.f1 ≤ 2000 by omega)]
    exact Ev.pos h2 (bad _ rfl)
  rw [decide_eq_true (show o.f1 ≤ 2000 by omega)]
  refine Ev.neg h2 ?_
  by_cases h3 : (o.f2.length : Int) < 1
  · rw [decide_eq_false (show ¬ 1 ≤ o.f2.length by omega)]
    exact Ev.pos h3 (bad _ rfl)
  rw [decide_eq_true (show 1 ≤ o.f2.length by omega)]
  refine Ev.neg h3 ?_
  by_cases h4 : (o.f2.length : Int) > 24
  · have : idsGo (-1) o.f2 = false := by
      rw [Bool.eq_false_iff]
      intro e
      have := idsGo_len o.f2 (-1) e (by omega)
      omega
    rw [this]
    exact bad _ (decide_eq_true h4)
  · rw [decide_eq_false h4]
    refine Ev.step (fun k => by simp only [spec_OccOk.j0]; rfl) ?_
    exact Ev.neg (by decide) (spec_OccOk_l0_ev o.f0 o.f1 o.f2 hl o.f2.length 0 (by omega) (by simp [idPrev]))

theorem impl_OccOk_l0_ev (o : S27) (l : List Int) (hl : l.length ≤ 9223372036854775806) : ∀ (d n : Nat) (p : Int), n + d = l.length → -1 ≤ p → p ≤ 23 → Ev (fun k => impl_OccOk.l0 k p l (l.length : Int) (n : Int) o.f0 o.f1 o.f2) (idsGo p (l.drop n) && (decide (1 ≤ o.f0) && (decide (o.f0 ≤ o.f1) && decide (o.f1 ≤ 2000) && decide (1 ≤ o.f2.length)))) := by
  intro d
  induction d with
  | zero =>
    intro n p hn h0 h1
    rw [List.drop_of_length_le (by omega), idsGo, Bool.true_and]
    refine Ev.last (fun k => ?_)
    simp only [impl_OccOk.l0, impl_in_is]
    rw [if_neg (by omega)]
    by_cases a : 1 ≤ o.f0
    · rw [if_pos a, decide_eq_true a]
      simp only [Option.bind_some]
      by_cases b : (decide (o.f0 ≤ o.f1) && decide (o.f1 ≤ 2000)) = true
      · rw [if_pos b, b]
        have e : ((o.f2.length : Int) ≥ 1) = (1 ≤ o.f2.length) := by rw [eq_iff_iff]; omega
        simp only [e, Bool.true_and]
      rw [if_neg b]
      simp only [Bool.not_eq_true] at b
      rw [b]
      rfl
    · rw [if_neg a, decide_eq_false a]
      rfl
  | succ d ih =>
    intro n p hn h0 h1
    have hrd : rd l (n : Int) = l.getD n 0 := rfl
    rw [drop_at l 0 n (by omega)]
    have w1 : wrap64 (p + 1) = p + 1 := w_small (by omega) (by omega)
    refine Ev.step (fun k => by simp only [impl_OccOk.l0]; rw [if_pos (by omega), if_pos (by omega), if_pos (by omega), w_succ (by omega), hrd, w1, impl_in_is, Option.bind_some]) ?_
    have next := ih (n + 1) (l.getD n 0) (by omega)
    generalize l.getD n 0 = x at *
    unfold idsGo
    by_cases hc : p + 1 ≤ x ∧ x ≤ 23
    · rw [decide_eq_true (show p < x by omega), decide_eq_true (show x < 24 by omega), decide_eq_true hc.1, decide_eq_true hc.2]
      exact Ev.pos rfl (next (by omega) (by omega))
    have e1 : (decide (p + 1 ≤ x) && decide (x ≤ 23)) = false := by
      rw [Bool.eq_false_iff]
      simp only [ne_eq, Bool.and_eq_true, decide_eq_true_eq]
      exact hc
    have e2 : (decide (p < x) && decide (x < 24)) = false := by
      rw [Bool.eq_false_iff]
      simp only [ne_eq, Bool.and_eq_true, decide_eq_true_eq]
      omega
    rw [e1, e2]
    exact Ev.neg (by decide) (Ev.now _)
theorem impl_OccOk_ev (o : S27) (hl : o.f2.length ≤ 9223372036854775806) : Ev (fun k => impl_OccOk.f k o.f0 o.f1 o.f2) (occOkB o) := by
  unfold impl_OccOk.f
  refine Ev.val (impl_OccOk_l0_ev o o.f2 hl o.f2.length 0 (-1) (by omega) (by omega) (by omega)) ?_
  rw [List.drop_zero, occOkB, Bool.and_comm]
  simp only [Bool.and_assoc]

theorem cmp_Compare_is (a b : Int) : cmp_Compare_int.f a b = some (if a < b then -1 else if a > b then 1 else 0) := by
  unfold cmp_Compare_int.f cmp_isNaN_int.f
  simp only [Option.bind_some, bne_self_eq_false]
  rw [if_neg (by decide), if_neg (by decide)]
  by_cases h : a < b
  · rw [if_pos h, if_pos h]
  rw [if_neg h, if_neg h]
  by_cases h2 : a > b
  · rw [if_pos h2, if_pos h2]
  · rw [if_neg h2, if_neg h2]
theorem impl_Compare_l0_ev (a b : List Int) (ha : a.length ≤ 9223372036854775806) (hb : b.length ≤ 9223372036854775806) : ∀ d n : Nat, n + d = a.length → n ≤ b.length → Ev (fun k => slices_Compare_int_int.l0 k a b a (a.length : Int) (n : Int)) (cmpI (a.drop n) (b.drop n)) := by
  intro d
  induction d with
  | zero =>
    intro n hn hb'
    refine Ev.last (fun k => ?_)
    simp only [slices_Compare_int_int.l0]
    rw [if_neg (by omega), List.drop_of_length_le (show a.length ≤ n by omega)]
    rcases Nat.lt_or_ge n b.length with hlt | hge
    · rw [if_pos (by omega), List.drop_eq_getElem_cons hlt]
      rfl
    · rw [if_neg (by omega), List.drop_of_length_le hge]
      rfl
  | succ d ih =>
    intro n hn hb'
    have ra : rd a (n : Int) = a.getD n 0 := rfl
    have rb : rd b (n : Int) = b.getD n 0 := rfl
    refine Ev.step (fun k => by simp only [slices_Compare_int_int.l0]; rw [if_pos (by omega), if_pos (by omega), if_pos (by omega), w_succ (by omega), ra, rb, cmp_Compare_is]) ?_
    rcases Nat.lt_or_ge n b.length with hlt | hge
    rotate_left
    · refine Ev.pos (by omega) ?_
      rw [drop_at a 0 n (by omega), List.drop_of_length_le hge]
      exact Ev.now _
    refine Ev.neg (by omega) (Ev.pos (by omega) ?_)
    rw [drop_at a 0 n (by omega), drop_at b 0 n (by omega)]
    have next := ih (n + 1) (by omega) (by omega)
    generalize a.getD n 0 = x at *
    generalize b.getD n 0 = y at *
    refine Ev.bind (Ev.now _) ?_
    unfold cmpI
    by_cases h1 : x < y
    · rw [if_pos h1, if_pos h1]
      exact Ev.neg (by decide) (Ev.now _)
    rw [if_neg h1, if_neg h1]
    by_cases h2 : x > y
    · rw [if_pos h2, if_pos h2]
      exact Ev.neg (by decide) (Ev.now _)
    · rw [if_neg h2, if_neg h2]
      exact Ev.pos rfl next
theorem impl_compare_ev (a b : S27) (ha : a.f2.length ≤ 9223372036854775806) (hb : b.f2.length ≤ 9223372036854775806) : Ev (fun k => impl_compare.f k a.f0 a.f1 a.f2 b.f0 b.f1 b.f2) (cmpO a b) := by
  unfold impl_compare.f cmpO impl_sign.f
  by_cases h1 : a.f1 = b.f1
  · rw [if_pos h1]
    refine Ev.pos h1 ?_
    by_cases h2 : a.f0 = b.f0
    · rw [if_pos h2]
      exact Ev.pos h2 (Ev.bindS (impl_Compare_l0_ev a.f2 b.f2 ha hb a.f2.length 0 (by omega) (by omega)) rfl)
    · rw [if_neg h2]
      refine Ev.neg h2 (Ev.one (fun _ => ?_))
      by_cases h3 : a.f0 < b.f0 <;> simp [h3, sgn]
  · rw [if_neg h1]
    refine Ev.neg h1 (Ev.one (fun _ => ?_))
    by_cases h3 : a.f1 < b.f1 <;> simp [h3, sgn]
theorem impl_OccLess_ev (a b : S27) (ha : a.f2.length ≤ 9223372036854775806) (hb : b.f2.length ≤ 9223372036854775806) : Ev (fun k => impl_OccLess.f k a.f0 a.f1 a.f2 b.f0 b.f1 b.f2) (lessO a b) := by
  unfold impl_OccLess.f
  exact Ev.bindS (impl_compare_ev a b ha hb) rfl

def occsGo : Option S27 → List S27 → Bool
  | _, [] => true
  | none, x :: xs => occOkB x && occsGo (some x) xs
  | some p, x :: xs => occOkB x && (lessO p x && occsGo (some x) xs)
def occsOkB (l : List S27) : Bool := occsGo none l && decide (l.length ≤ 40)
def occPrev (l : List S27) (n : Nat) : Option S27 := if n = 0 then none else some (l.getD (n - 1) z27)
def Short (l : List S27) : Prop := ∀ x ∈ l, x.f2.length ≤ 9223372036854775806
theorem Short.at_ {l : List S27} (h : Short l) (n : Nat) : (l.getD n z27).f2.length ≤ 9223372036854775806 := by
  rw [List.getD_eq_getElem?_getD]
  rcases Nat.lt_or_ge n l.length with hn | hn
  · rw [List.getElem?_eq_getElem hn]
    exact h _ (List.getElem_mem hn)
  · rw [List.getElem?_eq_none hn]
    show (z27).f2.length ≤ _
    simp [z27]
theorem occPrev_succ (l : List S27) (n : Nat) : occPrev l (n + 1) = some (l.getD n z27) := by simp [occPrev]

theorem spec_OccsOk_l0_ev (l : List S27) (hl : l.length ≤ 9223372036854775806) (hs : Short l) : ∀ d n : Nat, n + d = l.length → Ev (fun k => spec_OccsOk.l0 k l (n : Int)) (occsGo (occPrev l n) (l.drop n)) := by
  intro d
  induction d with
  | zero =>
    intro n hn
    rw [List.drop_of_length_le (by omega)]
    exact Ev.last (fun k => by simp only [spec_OccsOk.l0]; rw [if_neg (by omega)]; cases occPrev l n <;> rfl)
  | succ d ih =>
    intro n hn
    have hrd : rd_T27 l (n : Int) = l.getD n z27 := rfl
    have hx := hs.at_ n
    rw [drop_at l z27 n (by omega)]
    refine Ev.step (fun k => by simp only [spec_OccsOk.l0]; rw [if_pos (by omega), if_pos (by omega), w_succ (by omega), hrd]) ?_
    have next := ih (n + 1) (by omega)
    rw [occPrev_succ] at next
    generalize l.getD n z27 = x at *
    refine Ev.bind (spec_OccOk_ev x hx) ?_
    rcases Nat.eq_zero_or_pos n with hz | hpos
    · subst hz
      rw [show occPrev l 0 = none from rfl, occsGo]
      by_cases hk : occOkB x = true
      · rw [hk]
        exact Ev.pos rfl (Ev.neg (by omega) next)
      refine Ev.neg hk ?_
      simp only [Bool.not_eq_true] at hk
      rw [hk]
      exact Ev.now _
    obtain ⟨m, rfl⟩ : ∃ m, n = m + 1 := ⟨n - 1, by omega⟩
    have hw : wrap64 (((m + 1 : Nat) : Int) - 1) = (m : Int) := by rw [w_small (by omega) (by omega)]; omega
    have hr2 : rd_T27 l (m : Int) = l.getD m z27 := rfl
    rw [occPrev_succ, occsGo, hw, hr2]
    by_cases hk : occOkB x = true
    · rw [hk]
      refine Ev.pos rfl (Ev.pos (by omega) (Ev.pos (by omega) (Ev.pos (by omega) (Ev.bind (spec_OccLess_ev _ x (hs.at_ m) hx) ?_))))
      by_cases hls : lessO (l.getD m z27) x = true
      · rw [hls]
        exact Ev.pos rfl next
      refine Ev.neg hls ?_
      simp only [Bool.not_eq_true] at hls
      rw [hls]
      exact Ev.now _
    · refine Ev.neg hk ?_
      simp only [Bool.not_eq_true] at hk
      rw [hk]
      exact Ev.now _
theorem spec_OccsOk_ev (l : List S27) (hl : l.length ≤ 9223372036854775806) (hs : Short l) : Ev (fun k => spec_OccsOk.f k l) (occsOkB l) := by
  unfold spec_OccsOk.f occsOkB
  by_cases h : (l.length : Int) > 40
  · refine Ev.pos h ?_
    rw [decide_eq_false (by omega), Bool.and_false]
    exact Ev.now _
  · refine Ev.neg h ?_
    rw [decide_eq_true (by omega), Bool.and_true]
    exact spec_OccsOk_l0_ev l hl hs l.length 0 (by omega)

theorem impl_OccsOk_l0_ev (l : List S27) (hl : l.length ≤ 9223372036854775806) (hs : Short l) : ∀ d n : Nat, n + d = l.length → Ev (fun k => impl_OccsOk.l0 k l l (l.length : Int) (n : Int)) (occsGo (occPrev l n) (l.drop n) && decide (l.length ≤ 40)) := by
  intro d
  induction d with
  | zero =>
    intro n hn
    rw [List.drop_of_length_le (by omega)]
    refine Ev.last (fun k => ?_)
    simp only [impl_OccsOk.l0]
    rw [if_neg (by omega)]
    have e : ((l.length : Int) ≤ 40) = (l.length ≤ 40) := by rw [eq_iff_iff]; omega
    simp only [e]
    cases occPrev l n <;> rfl
  | succ d ih =>
    intro n hn
    have hrd : rd_T27 l (n : Int) = l.getD n z27 := rfl
    have hx := hs.at_ n
    rw [drop_at l z27 n (by omega)]
    refine Ev.step (fun k => by simp only [impl_OccsOk.l0]; rw [if_pos (by omega), if_pos (by omega), if_pos (by omega), w_succ (by omega), hrd]) ?_
    have next := ih (n + 1) (by omega)
    rw [occPrev_succ] at next
    generalize l.getD n z27 = x at *
    refine Ev.bind (impl_OccOk_ev x hx) ?_
    rcases Nat.eq_zero_or_pos n with hz | hpos
    · subst hz
      rw [show occPrev l 0 = none from rfl, occsGo]
      by_cases hk : occOkB x = true
      · rw [hk]
        exact Ev.pos rfl (Ev.neg (by omega) next)
      refine Ev.neg hk ?_
      simp only [Bool.not_eq_true] at hk
      rw [hk]
      exact Ev.now _
    obtain ⟨m, rfl⟩ : ∃ m, n = m + 1 := ⟨n - 1, by omega⟩
    have hw : wrap64 (((m + 1 : Nat) : Int) - 1) = (m : Int) := by rw [w_small (by omega) (by omega)]; omega
    have hr2 : rd_T27 l (m : Int) = l.getD m z27 := rfl
    rw [occPrev_succ, occsGo, hw, hr2]
    by_cases hk : occOkB x = true
    · rw [hk]
      refine Ev.pos rfl (Ev.pos (by omega) (Ev.pos (by omega) (Ev.pos (by omega) (Ev.bind (impl_OccLess_ev _ x (hs.at_ m) hx) ?_))))
      by_cases hls : lessO (l.getD m z27) x = true
      · rw [hls]
        exact Ev.pos rfl next
      refine Ev.neg hls ?_
      simp only [Bool.not_eq_true] at hls
      rw [hls]
      exact Ev.now _
    · refine Ev.neg hk ?_
      simp only [Bool.not_eq_true] at hk
      rw [hk]
      exact Ev.now _
theorem impl_OccsOk_ev (l : List S27) (hl : l.length ≤ 9223372036854775806) (hs : Short l) : Ev (fun k => impl_OccsOk.f k l) (occsOkB l) := impl_OccsOk_l0_ev l hl hs l.length 0 (by omega)
end Go.Proofs.Ytiplpckgmikmeaa.M
namespace Go.Proofs.Ytiplpckgmikmeaa.M
open Go.RowKit Go.Proofs.YtiplpckgmikmeaaW.PrintWords Go.Proofs.YtiplpckgmikmeaaW.PrintLast Go.Proofs.YtiplpckgmikmeaaW.PrintMore
attribute [local go_sem] max2_int min2_int max_two min_two max_three min_three max_four min_four
set_option linter.unusedVariables false
set_option linter.unusedSimpArgs false



end Go.Proofs.Ytiplpckgmikmeaa.M
namespace Go.Proofs.Ytiplpckgmikmeaa.M
set_option linter.unusedVariables false
set_option linter.unusedSimpArgs false
open Go.RowKit Go.Proofs.YtiplpckgmikmeaaW.PrintWords Go.Proofs.YtiplpckgmikmeaaW.PrintLast

def cvO (x : S24) : S27 := ⟨x.f0, x.f1, x.f2⟩
def szO : List S24 → Nat
  | [] => 0
  | x :: xs => x.f2.length + szO xs
theorem szIntS_is (l : List Int) (a : Int) (h0 : 0 ≤ a) (h1 : a ≤ 1048576) (hl : l.length ≤ 9223372036854775807) : laws_szIntS.f l a = some (leftOf a l.length) := szIntS_ok l a h0 h1 hl
theorem szOcc_is (x : S24) (a : Int) (h0 : 0 ≤ a) (h1 : a ≤ 1048576) (hl : x.f2.length ≤ 9223372036854775807) : laws_szOcc.f x.f0 x.f1 x.f2 a = some (leftOf a x.f2.length) := by
  unfold laws_szOcc.f
  rw [szIntS_is _ _ h0 h1 hl, Option.bind_some]
  by_cases h : (x.f2.length : Int) ≤ a
  · rw [leftOf_pos h, if_neg (by omega)]
  · rw [leftOf_neg h, if_pos (by omega)]

def ShortL (l : List S24) : Prop := ∀ x ∈ l, x.f2.length ≤ 9223372036854775807
theorem ShortL.at_ {l : List S24} (h : ShortL l) (n : Nat) : (l.getD n z24).f2.length ≤ 9223372036854775807 := by
  rw [List.getD_eq_getElem?_getD]
  rcases Nat.lt_or_ge n l.length with hn | hn
  · rw [List.getElem?_eq_getElem hn]
    exact h _ (List.getElem_mem hn)
  · rw [List.getElem?_eq_none hn]
    show (z24).f2.length ≤ _
    simp [z24]
theorem szOccS_l0_ev (l : List S24) (hl : l.length ≤ 9223372036854775807) (hs : ShortL l) : ∀ (d n : Nat) (a : Int), n + d = l.length → 0 ≤ a → a ≤ 1048576 → Ev (fun k => laws_szOccS.l0 k l a (n : Int)) (leftOf a (szO (l.drop n))) := by
  intro d
  induction d with
  | zero =>
    intro n a hn h0 h1
    rw [List.drop_of_length_le (by omega), leftOf_pos (show ((szO [] : Nat) : Int) ≤ a from h0)]
    exact Ev.last (fun k => by simp only [laws_szOccS.l0]; rw [if_neg (by omega)]; simp [szO])
  | succ d ih =>
    intro n a hn h0 h1
    have hr : rd_T24 l (n : Int) = l.getD n z24 := rfl
    have hx := hs.at_ n
    rw [drop_at l z24 n (by omega)]
    refine Ev.step (fun k => by simp only [laws_szOccS.l0]; rw [if_pos (by omega), if_pos (by omega), hr, w_succ (by omega)]) ?_
    generalize l.getD n z24 = x at *
    refine Ev.bind (Ev.one (fun _ => szOcc_is x a h0 h1 hx)) ?_
    rw [szO]
    by_cases h : (x.f2.length : Int) ≤ a
    · rw [leftOf_pos h]
      refine Ev.neg (by omega) (Ev.val (ih (n + 1) (a - x.f2.length) (by omega) (by omega) (by omega)) ?_)
      unfold leftOf
      by_cases h2 : ((szO (l.drop (n + 1)) : Nat) : Int) ≤ a - x.f2.length
      · rw [if_pos h2, if_pos (by omega)]
        omega
      · rw [if_neg h2, if_neg (by omega)]
    · rw [leftOf_neg h, leftOf_neg (by omega)]
      exact Ev.pos (by omega) (Ev.now _)
def allO (l : List S24) : Nat := l.length + szO l
theorem szOccS_ev (l : List S24) (hl : l.length ≤ 9223372036854775807) (hs : ShortL l) (a : Int) (h0 : 0 ≤ a) (h1 : a ≤ 1048576) : Ev (fun k => laws_szOccS.f k l a) (leftOf a (allO l)) := by
  unfold laws_szOccS.f allO
  rw [w_small (by omega) (by omega)]
  by_cases h : (l.length : Int) ≤ a
  · refine Ev.neg (by omega) (Ev.val (szOccS_l0_ev l hl hs l.length 0 (a - l.length) (by omega) (by omega) (by omega)) ?_)
    rw [List.drop_zero]
    unfold leftOf
    by_cases h2 : ((szO l : Nat) : Int) ≤ a - l.length
    · rw [if_pos h2, if_pos (by omega)]
      omega
    · rw [if_neg h2, if_neg (by omega)]
  · rw [leftOf_neg (by omega)]
    exact Ev.pos (by omega) (Ev.now _)
theorem szO_mem : ∀ (l : List S24) (x : S24), x ∈ l → x.f2.length ≤ szO l
  | [], _, h => by simp at h
  | y :: ys, x, h => by
    rw [szO]
    rcases List.mem_cons.1 h with rfl | h
    · omega
    · have := szO_mem ys x h
      omega
def FewO (l : List S24) : Prop := allO l ≤ 1048576
theorem FewO.len {l : List S24} (h : FewO l) : l.length ≤ 1048576 := by unfold FewO allO at h; omega
theorem FewO.ids {l : List S24} (h : FewO l) (x : S24) (hx : x ∈ l) : x.f2.length ≤ 1048576 := by
  have := szO_mem l x hx
  unfold FewO allO at h
  omega

theorem toOcc_ev (x : S24) (hl : x.f2.length ≤ 1048576) : Ev (fun k => laws_toOcc.f k x.f0 x.f1 x.f2) (x.f0, x.f1, x.f2) := by
  unfold laws_toOcc.f
  exact Ev.bindS (toIntS_ev x.f2 hl) rfl
theorem toOccS_l0_ev (l : List S24) (hl : FewO l) : ∀ (d n : Nat) (a : List S27), n + d = l.length → a.length = l.length → Ev (fun k => laws_toOccS.l0 k l a (n : Int)) (a.take n ++ (l.drop n).map cvO) := by
  have hlen := hl.len
  intro d
  induction d with
  | zero =>
    intro n a hn ha
    rw [List.drop_of_length_le (by omega), List.take_of_length_le (by omega), List.map_nil, List.append_nil]
    exact Ev.last (fun k => by simp only [laws_toOccS.l0]; rw [if_neg (by omega)])
  | succ d ih =>
    intro n a hn ha
    have hlt : n < l.length := by omega
    have hr : rd_T24 l (n : Int) = l.getD n z24 := rfl
    have hx : (l.getD n z24).f2.length ≤ 1048576 := by
      refine hl.ids _ ?_
      rw [List.getD_eq_getElem?_getD, List.getElem?_eq_getElem hlt]
      exact List.getElem_mem hlt
    rw [drop_at l z24 n hlt]
    have next := ih (n + 1) (a.set n (cvO (l.getD n z24))) (by omega) (by rw [List.length_set]; exact ha)
    rw [take_set a n _ (by omega), List.append_assoc] at next
    refine Ev.step (fun k => by simp only [laws_toOccS.l0]; rw [if_pos (by omega), if_pos (by omega), w_succ (by omega), hr, Int.toNat_natCast]) ?_
    refine Ev.bind (toOcc_ev _ hx) (Ev.pos (by omega) ?_)
    rw [List.map_cons]
    exact next
theorem toOccS_ev (l : List S24) (hl : FewO l) : Ev (fun k => laws_toOccS.f k l) (l.map cvO) := by
  have hlen := hl.len
  unfold laws_toOccS.f
  refine Ev.pos (by omega) (Ev.pos (by omega) ?_)
  have := toOccS_l0_ev l hl l.length 0 (List.replicate l.length z27) (by omega) (by simp)
  rw [Int.toNat_natCast]
  exact this
theorem short_map (l : List S24) (hl : FewO l) : Short (l.map cvO) := by
  intro x hx
  obtain ⟨y, hy, rfl⟩ := List.mem_map.1 hx
  have := hl.ids y hy
  show y.f2.length ≤ _
  omega

theorem eqOcc_ev (o : S27) (hl : o.f2.length ≤ 9223372036854775806) : Ev (fun k => laws_eqOcc.f k o.f0 o.f1 o.f2 o.f0 o.f1 o.f2) true := by
  unfold laws_eqOcc.f
  exact Ev.pos rfl (Ev.pos rfl (Ev.bindS (eqIntS_ev o.f2 (by omega)) rfl))
theorem eqOccS_l0_ev (l : List S27) (hl : l.length ≤ 9223372036854775806) (hs : Short l) : ∀ d n : Nat, n + d = l.length → Ev (fun k => laws_eqOccS.l0 k l l (n : Int)) true := by
  intro d
  induction d with
  | zero =>
    intro n hn
    exact Ev.last (fun k => by simp only [laws_eqOccS.l0]; rw [if_neg (by omega)])
  | succ d ih =>
    intro n hn
    have hr : rd_T27 l (n : Int) = l.getD n z27 := rfl
    refine Ev.step (fun k => by simp only [laws_eqOccS.l0]; rw [if_pos (by omega), if_pos (by omega), if_pos (by omega), hr, w_succ (by omega)]) ?_
    exact Ev.bind (eqOcc_ev _ (hs.at_ n)) (Ev.pos rfl (ih (n + 1) (by omega)))
theorem eqOccS_ev (l : List S27) (hl : l.length ≤ 9223372036854775806) (hs : Short l) : Ev (fun k => laws_eqOccS.f k l l) true := by
  unfold laws_eqOccS.f
  exact Ev.pos rfl (eqOccS_l0_ev l hl hs l.length 0 (by omega))

theorem cmpI_eq : ∀ a b : List Int, cmpI a b = 0 ↔ a = b
  | [], [] => by simp [cmpI]
  | [], _ :: _ => by simp [cmpI]
  | _ :: _, [] => by simp [cmpI]
  | a :: xs, b :: ys => by
    unfold cmpI
    by_cases h1 : a < b
    · rw [if_pos h1]
      constructor
      · intro h; exact absurd h (by decide)
      · intro h; injection h with h _; omega
    rw [if_neg h1]
    by_cases h2 : a > b
    · rw [if_pos h2]
      constructor
      · intro h; exact absurd h (by decide)
      · intro h; injection h with h _; omega
    · rw [if_neg h2, cmpI_eq xs ys]
      have : a = b := by omega
      subst this
      simp
theorem sgn_ne (b : Bool) : sgn b ≠ 0 := by cases b <;> decide
theorem cmpO_eq (a b : S27) : cmpO a b = 0 ↔ a = b := by
  obtain ⟨a0, a1, a2⟩ := a
  obtain ⟨b0, b1, b2⟩ := b
  unfold cmpO
  dsimp only
  by_cases h1 : a1 = b1
  · rw [if_pos h1]
    by_cases h0 : a0 = b0
    · rw [if_pos h0, cmpI_eq]
      subst h1
      subst h0
      simp
    · rw [if_neg h0]
      constructor
      · intro h; exact absurd h (sgn_ne _)
      · intro h; injection h with h _ _; exact absurd h h0
  · rw [if_neg h1]
    constructor
    · intro h; exact absurd h (sgn_ne _)
    · intro h; injection h with _ h _; exact absurd h h1
theorem l3Same_ev (a b : S27) (ha : a.f2.length ≤ 9223372036854775806) (hb : b.f2.length ≤ 9223372036854775806) : Ev (fun k => spec_l3Same.f k a.f0 a.f1 a.f2 b.f0 b.f1 b.f2) (cmpO a b == 0) := by
  have no : a ≠ b → (cmpO a b == 0) = false := fun h => beq_eq_false_iff_ne.2 (fun e => h ((cmpO_eq a b).1 e))
  unfold spec_l3Same.f
  by_cases h0 : a.f0 = b.f0
  · refine Ev.pos h0 ?_
    by_cases h1 : a.f1 = b.f1
    · refine Ev.pos h1 ?_
      by_cases h2 : (a.f2.length : Int) = (b.f2.length : Int)
      · refine Ev.pos h2 (Ev.bindS (l3Ids_ev _ _ ha hb) ?_)
        unfold cmpO
        rw [if_pos h1, if_pos h0]
      · rw [no (fun e => h2 (by rw [e]))]
        exact Ev.neg h2 (Ev.now _)
    · rw [no (fun e => h1 (by rw [e]))]
      exact Ev.neg h1 (Ev.now _)
  · rw [no (fun e => h0 (by rw [e]))]
    exact Ev.neg h0 (Ev.now _)
end Go.Proofs.Ytiplpckgmikmeaa.M
namespace Go.Proofs.Ytiplpckgmikmeaa.M
open Go.RowKit Go.Proofs.YtiplpckgmikmeaaW.PrintWords Go.Proofs.YtiplpckgmikmeaaW.PrintLast Go.Proofs.YtiplpckgmikmeaaW.PrintMore
attribute [local go_sem] max2_int min2_int max_two min_two max_three min_three max_four min_four
set_option linter.unusedVariables false
set_option linter.unusedSimpArgs false


end Go.Proofs.Ytiplpckgmikmeaa.M
namespace Go.Proofs.Ytiplpckgmikmeaa.M
set_option linter.unusedVariables false
set_option linter.unusedSimpArgs false
open Go.RowKit Go.Proofs.YtiplpckgmikmeaaW.PrintWords Go.Proofs.YtiplpckgmikmeaaW.PrintLast

def putIx (l : List S27) (o : S27) : Nat → Nat → Nat
  | 0, i => i
  | d + 1, i => if lessO (l.getD i z27) o = true then putIx l o d (i + 1) else i
def putS (l : List S27) (o : S27) : List S27 := if putIx l o l.length 0 < l.length ∧ (cmpO (l.getD (putIx l o l.length 0) z27) o == 0) = true then l else putIn l (putIx l o l.length 0) o
theorem putAt_ev (l : List S27) (hs : Short l) (o : S27) (ho : o.f2.length ≤ 9223372036854775806) : ∀ d i : Nat, Ev (fun k => putAt (fun x => spec_OccLess.f k x.f0 x.f1 x.f2 o.f0 o.f1 o.f2) l d i) (putIx l o d i) := by
  intro d
  induction d with
  | zero => exact fun i => Ev.now _
  | succ d ih =>
    intro i
    unfold putIx
    refine Ev.bind (spec_OccLess_ev (l.getD i z27) o (hs.at_ i) ho) ?_
    by_cases c : lessO (l.getD i z27) o = true
    · rw [if_pos c]; exact Ev.pos c (ih (i + 1))
    · rw [if_neg c]; exact Ev.neg c (Ev.now _)
theorem l3Put_ev (l : List S27) (hl : l.length < 1099511627776) (hs : Short l) (o : S27) (ho : o.f2.length < 1099511627776) : Ev (fun k => spec_l3Put.f k l o.f0 o.f1 o.f2) (putS l o) := by
  unfold spec_l3Put.f
  refine Ev.pos ⟨hl, ho⟩ (Ev.bind (putAt_ev l hs o (by omega) l.length 0) ?_)
  unfold putS
  by_cases c : putIx l o l.length 0 < l.length
  · refine Ev.pos c (Ev.bindS (l3Same_ev (l.getD (putIx l o l.length 0) z27) o (hs.at_ _) (by omega)) ?_)
    by_cases e : (cmpO (l.getD (putIx l o l.length 0) z27) o == 0) = true
    · rw [if_pos e, if_pos ⟨c, e⟩]
    · rw [if_neg e, if_neg (fun h => e h.2)]
  · refine Ev.neg c (Ev.val (Ev.now _) ?_)
    rw [if_neg (fun h => c h.1)]
theorem putS_mem {l : List S27} {o x : S27} (h : x ∈ putS l o) : x ∈ l ∨ x = o := by
  unfold putS at h
  by_cases c : putIx l o l.length 0 < l.length ∧ (cmpO (l.getD (putIx l o l.length 0) z27) o == 0) = true
  · rw [if_pos c] at h; exact .inl h
  rw [if_neg c] at h
  unfold putIn at h
  rcases List.mem_append.1 h with h | h
  · rcases List.mem_append.1 h with h | h
    · exact .inl (List.mem_of_mem_take h)
    · exact .inr (List.mem_singleton.1 h)
  · exact .inl (List.mem_of_mem_drop h)
def Few (l : List S27) : Prop := ∀ x ∈ l, x.f2.length ≤ 100
theorem Few.short {l : List S27} (h : Few l) : Short l := fun x hx => Nat.le_trans (h x hx) (by omega)
theorem Few.put {l : List S27} (h : Few l) {o : S27} (ho : o.f2.length ≤ 100) : Few (putS l o) := fun x hx => (putS_mem hx).elim (h x) (fun e => by rw [e]; exact ho)
theorem Few.at_ {l : List S27} (h : Few l) (i : Int) : (rd_T27 l i).f2.length ≤ 100 := by
  show (l.getD i.toNat z27).f2.length ≤ 100
  rw [List.getD_eq_getElem?_getD]
  rcases Nat.lt_or_ge i.toNat l.length with hi | hi
  · rw [List.getElem?_eq_getElem hi]
    exact h _ (List.getElem_mem hi)
  · rw [List.getElem?_eq_none hi]
    decide
theorem Few.set {l : List S27} (h : Few l) (i : Nat) {o : S27} (ho : o.f2.length ≤ 100) : Few (l.set i o) := fun x hx => by
  rcases List.mem_or_eq_of_mem_set hx with hx | hx
  · exact h x hx
  · rw [hx]; exact ho
end Go.Proofs.Ytiplpckgmikmeaa.M
namespace Go.Proofs.Ytiplpckgmikmeaa.M
open Go.RowKit Go.Proofs.YtiplpckgmikmeaaW.PrintWords Go.Proofs.YtiplpckgmikmeaaW.PrintLast Go.Proofs.YtiplpckgmikmeaaW.PrintMore
attribute [local go_sem] max2_int min2_int max_two min_two max_three min_three max_four min_four
set_option linter.unusedVariables false
set_option linter.unusedSimpArgs false

end Go.Proofs.Ytiplpckgmikmeaa.M
namespace Go.Proofs.Ytiplpckgmikmeaa.M
set_option linter.unusedVariables false
set_option linter.unusedSimpArgs false
open Go.RowKit Go.Proofs.YtiplpckgmikmeaaW.PrintWords Go.Proofs.YtiplpckgmikmeaaW.PrintLast

theorem cmpI_anti : ∀ a b : List Int, cmpI b a = - cmpI a b
  | [], [] => by simp [cmpI]
  | [], _ :: _ => by simp [cmpI]
  | _ :: _, [] => by simp [cmpI]
  | x :: a, y :: b => by
    unfold cmpI
    have ih := cmpI_anti a b
    split <;> split <;> first | omega | (split <;> first | omega | (split <;> first | omega | exact ih))
theorem cmpI_trans : ∀ a b c : List Int, cmpI a b < 0 → cmpI b c < 0 → cmpI a c < 0
  | [], [], _, h, _ => by simp [cmpI] at h
  | [], _ :: _, [], _, h => by simp [cmpI] at h
  | [], _ :: _, _ :: _, _, _ => by simp [cmpI]
  | _ :: _, [], _, h, _ => by simp [cmpI] at h
  | _ :: _, _ :: _, [], _, h => by simp [cmpI] at h
  | x :: a, y :: b, z :: c, h1, h2 => by
    unfold cmpI at h1 h2 ⊢
    have ih := cmpI_trans a b c
    split at h1 <;> split at h2 <;> first | omega | (split at h1 <;> split at h2 <;> first | omega | (split <;> first | omega | (split <;> first | omega | exact ih (by omega) (by omega))))
theorem sgn_neg (b : Bool) : sgn b < 0 ↔ b = true := by cases b <;> decide
theorem lessO_iff (a b : S27) : lessO a b = true ↔ a.f1 < b.f1 ∨ (a.f1 = b.f1 ∧ (a.f0 < b.f0 ∨ (a.f0 = b.f0 ∧ cmpI a.f2 b.f2 < 0))) := by
  unfold lessO cmpO
  rw [decide_eq_true_iff]
  by_cases h1 : a.f1 = b.f1
  rotate_left
  · rw [if_neg h1, sgn_neg, decide_eq_true_iff]
    constructor
    · exact fun h => .inl h
    · rintro (h | ⟨h, _⟩)
      · exact h
      · exact absurd h h1
  rw [if_pos h1]
  by_cases h0 : a.f0 = b.f0
  · rw [if_pos h0]
    constructor
    · exact fun h => .inr ⟨h1, .inr ⟨h0, h⟩⟩
    rintro (h | ⟨_, h | ⟨_, h⟩⟩)
    · omega
    · omega
    · exact h
  · rw [if_neg h0, sgn_neg, decide_eq_true_iff]
    constructor
    · exact fun h => .inr ⟨h1, .inl h⟩
    rintro (h | ⟨_, h | ⟨h, _⟩⟩)
    · omega
    · exact h
    · exact absurd h h0
theorem lessO_trans {a b c : S27} (h1 : lessO a b = true) (h2 : lessO b c = true) : lessO a c = true := by
  rw [lessO_iff] at h1 h2 ⊢
  rcases h1 with h1 | ⟨e1, h1⟩
  · rcases h2 with h2 | ⟨e2, h2⟩
    · exact .inl (by omega)
    · exact .inl (by omega)
  rcases h2 with h2 | ⟨e2, h2⟩
  · exact .inl (by omega)
  refine .inr ⟨by omega, ?_⟩
  rcases h1 with h1 | ⟨d1, h1⟩
  · rcases h2 with h2 | ⟨d2, h2⟩
    · exact .inl (by omega)
    · exact .inl (by omega)
  · rcases h2 with h2 | ⟨d2, h2⟩
    · exact .inl (by omega)
    · exact .inr ⟨by omega, cmpI_trans _ _ _ h1 h2⟩
theorem lessO_tri {a b : S27} (h : lessO a b = false) (hn : a ≠ b) : lessO b a = true := by
  have h' : ¬ lessO a b = true := by rw [h]; decide
  rw [lessO_iff] at h' ⊢
  rcases Int.lt_trichotomy b.f1 a.f1 with h1 | h1 | h1
  · exact .inl h1
  · refine .inr ⟨h1, ?_⟩
    rcases Int.lt_trichotomy b.f0 a.f0 with h2 | h2 | h2
    · exact .inl h2
    · refine .inr ⟨h2, ?_⟩
      have h3 : ¬ cmpI a.f2 b.f2 < 0 := fun h3 => h' (.inr ⟨h1.symm, .inr ⟨h2.symm, h3⟩⟩)
      have h4 : cmpI a.f2 b.f2 ≠ 0 := fun h4 => hn (by
        have h5 := (cmpI_eq a.f2 b.f2).1 h4
        cases a; cases b
        simp only at h1 h2 h5
        rw [h1, h2, h5])
      rw [cmpI_anti]
      omega
    · exact absurd (.inr ⟨h1.symm, .inl h2⟩) h'
  · exact absurd (.inl h1) h'
abbrev AscO (l : List S27) : Prop := l.Pairwise (fun x y => lessO x y = true)
def insO : List S27 → S27 → List S27
  | [], o => [o]
  | x :: l, o => if lessO x o = true then x :: insO l o else if (cmpO x o == 0) = true then x :: l else o :: x :: l
theorem same_eq {a b : S27} : (cmpO a b == 0) = true ↔ a = b := by rw [beq_iff_eq]; exact cmpO_eq a b
theorem mem_insO (z : S27) : ∀ (l : List S27) (o : S27), z ∈ insO l o ↔ z ∈ l ∨ z = o
  | [], o => by simp [insO]
  | x :: l, o => by
    unfold insO
    have ih := mem_insO z l o
    split
    · rw [List.mem_cons, List.mem_cons, ih, or_assoc]
    split
    · rename_i h
      have e := same_eq.1 h
      subst e
      constructor
      · exact fun hz => .inl hz
      · rintro (hz | rfl)
        · exact hz
        · simp
    · rw [List.mem_cons]
      constructor
      · rintro (hz | hz)
        · exact .inr hz
        · exact .inl hz
      · rintro (hz | hz)
        · exact .inr hz
        · exact .inl hz
theorem asc_insO : ∀ (l : List S27) (o : S27), AscO l → AscO (insO l o)
  | [], o, _ => by simp [insO, AscO]
  | x :: l, o, h => by
    have h1 := List.pairwise_cons.1 h
    unfold insO
    split
    · rename_i c
      refine List.pairwise_cons.2 ⟨fun z hz => ?_, asc_insO l o h1.2⟩
      rcases (mem_insO z l o).1 hz with hz | rfl
      · exact h1.1 z hz
      · exact c
    rename_i c
    split
    · exact h
    rename_i c2
    have hox : lessO o x = true := lessO_tri (by simpa using c) (fun e => c2 (same_eq.2 e))
    refine List.pairwise_cons.2 ⟨fun z hz => ?_, h⟩
    rcases List.mem_cons.1 hz with rfl | hz
    · exact hox
    · exact lessO_trans hox (h1.1 z hz)
theorem len_insO : ∀ (l : List S27) (o : S27), (insO l o).length ≤ l.length + 1
  | [], o => by simp [insO]
  | x :: l, o => by
    have ih := len_insO l o
    unfold insO
    split
    · simp only [List.length_cons]; omega
    · split <;> simp only [List.length_cons] <;> omega
def ahead (l : List S27) (o : S27) : Nat := (l.takeWhile (fun x => lessO x o)).length
theorem ahead_le (l : List S27) (o : S27) : ahead l o ≤ l.length := (List.takeWhile_sublist _).length_le
theorem putIx_ahead (l : List S27) (o : S27) : ∀ d i : Nat, i + d = l.length → putIx l o d i = i + ahead (l.drop i) o
  | 0, i, h => by
    unfold putIx ahead
    rw [List.drop_of_length_le (by omega)]
    simp
  | d + 1, i, h => by
    have ih := putIx_ahead l o d (i + 1) (by omega)
    unfold putIx
    rw [drop_at l z27 i (by omega)]
    unfold ahead at ih ⊢
    by_cases c : lessO (l.getD i z27) o = true
    · rw [if_pos c, ih, List.takeWhile_cons, if_pos c, List.length_cons]; omega
    · rw [if_neg c, List.takeWhile_cons, if_neg c]; simp
def putN (l : List S27) (o : S27) (n : Nat) : List S27 := if n < l.length ∧ (cmpO (l.getD n z27) o == 0) = true then l else putIn l n o
theorem putN_ins : ∀ (l : List S27) (o : S27), putN l o (ahead l o) = insO l o
  | [], o => by simp [putN, ahead, insO, putIn]
  | x :: l, o => by
    have ih := putN_ins l o
    unfold insO
    by_cases c : lessO x o = true
    · have e : ahead (x :: l) o = ahead l o + 1 := by unfold ahead; rw [List.takeWhile_cons, if_pos c, List.length_cons]
      rw [if_pos c, e, ← ih]
      unfold putN
      rw [List.getD_cons_succ, List.length_cons]
      by_cases c2 : ahead l o < l.length ∧ (cmpO (l.getD (ahead l o) z27) o == 0) = true
      · rw [if_pos c2, if_pos ⟨by omega, c2.2⟩]
      · rw [if_neg c2, if_neg (fun h => c2 ⟨by omega, h.2⟩)]
        simp [putIn]
    · have e : ahead (x :: l) o = 0 := by unfold ahead; rw [List.takeWhile_cons, if_neg c]; rfl
      rw [if_neg c, e]
      unfold putN
      rw [List.getD_cons_zero]
      by_cases c2 : (cmpO x o == 0) = true
      · rw [if_pos ⟨by simp, c2⟩, if_pos c2]
      · rw [if_neg (fun h => c2 h.2), if_neg c2]
        simp [putIn]
theorem putS_ins (l : List S27) (o : S27) : putS l o = insO l o := by
  rw [← putN_ins]
  unfold putS putN
  rw [putIx_ahead l o l.length 0 (by omega), List.drop_zero, Nat.zero_add]
theorem ahead_is {l : List S27} {o : S27} {n : Nat} (hn : n ≤ l.length) (h1 : ∀ m, m < n → lessO (l.getD m z27) o = true) (h2 : n < l.length → ¬ lessO (l.getD n z27) o = true) : ahead l o = n := by
  induction l generalizing n with
  | nil => simp only [List.length_nil] at hn; simp [ahead]; omega
  | cons x l ih =>
    unfold ahead
    cases n with
    | zero =>
      have := h2 (by simp)
      rw [List.getD_cons_zero] at this
      rw [List.takeWhile_cons, if_neg this]; rfl
    | succ n =>
      have hx := h1 0 (by omega)
      rw [List.getD_cons_zero] at hx
      rw [List.takeWhile_cons, if_pos hx, List.length_cons]
      have := ih (n := n) (by simpa using hn) (fun m hm => by have := h1 (m + 1) (by omega); rwa [List.getD_cons_succ] at this) (fun hlt => by have := h2 (by simpa using hlt); rwa [List.getD_cons_succ] at this)
      unfold ahead at this
      omega
theorem asc_at {l : List S27} (h : AscO l) {i j : Nat} (hij : i < j) (hj : j < l.length) : lessO (l.getD i z27) (l.getD j z27) = true := by
  rw [getD_in (by omega), getD_in hj]
  exact List.pairwise_iff_getElem.1 h i j (by omega) hj hij
theorem u64_small {n : Int} (h0 : 0 ≤ n) (h1 : n ≤ 9223372036854775807) : IntKind.u64.wrap n = n := by
  simp only [IntKind.wrap, IntKind.bits, IntKind.signed]
  simp
  omega
def foundO (l : List S27) (o : S27) : Bool := decide (ahead l o < l.length) && (cmpO (l.getD (ahead l o) z27) o == 0)
section
variable (l : List S27) (hl : l.length < 1099511627776) (hs : Short l) (hA : AscO l) (o : S27) (ho : o.f2.length ≤ 9223372036854775806)
include hs ho in
theorem search_end (i : Nat) (hj : i ≤ l.length) (h1 : ∀ m, m < i → lessO (l.getD m z27) o = true) (h2 : ∀ m, i ≤ m → m < l.length → ¬ lessO (l.getD m z27) o = true) :
    Ev (fun k => impl_Occ_105.l0 k l (l.length : Int) (i : Int) (i : Int) o.f0 o.f1 o.f2) ((ahead l o : Int), foundO l o) := by
  have e : ahead l o = i := ahead_is hj h1 (fun hlt => h2 i (Nat.le_refl _) hlt)
  unfold foundO
  rw [e]
  clear h1 h2 e
  refine Ev.step (fun k => by simp only [impl_Occ_105.l0]; rw [if_neg (Int.lt_irrefl _)]) ?_
  by_cases c : i < l.length
  · refine Ev.pos (by omega) (Ev.pos (by omega) (Ev.pos (by omega) ?_))
    refine Ev.bindS (impl_compare_ev (rd_T27 l (i : Int)) o (hs.at_ i) ho) ?_
    rw [decide_eq_true c, Bool.true_and]
    rfl
  · refine Ev.neg (by omega) (Ev.val (Ev.now _) ?_)
    rw [decide_eq_false c, Bool.false_and]
theorem half_is (i j : Nat) (h : i ≤ j) (hj : j ≤ 1099511627776) : wrap64 ((IntKind.u64.wrap (wrap64 ((i : Int) + (j : Int)))) / 2) = (((i + j) / 2 : Nat) : Int) := by
  rw [w_small (i := (i : Int) + (j : Int)) (by omega) (by omega), u64_small (by omega) (by omega), w_small (by omega) (by omega)]
  omega
include hl hs hA ho in
theorem search_ev : ∀ (d i j : Nat), j - i ≤ d → i ≤ j → j ≤ l.length → (∀ m, m < i → lessO (l.getD m z27) o = true) → (∀ m, j ≤ m → m < l.length → ¬ lessO (l.getD m z27) o = true) →
    Ev (fun k => impl_Occ_105.l0 k l (l.length : Int) (i : Int) (j : Int) o.f0 o.f1 o.f2) ((ahead l o : Int), foundO l o) := by
  intro d
  induction d with
  | zero =>
    intro i j hd hij hj h1 h2
    obtain rfl : i = j := by omega
    exact search_end l hs o ho i hj h1 h2
  | succ d ih =>
    intro i j hd hij hj h1 h2
    by_cases c : i < j
    rotate_left
    · obtain rfl : i = j := by omega
      exact search_end l hs o ho i hj h1 h2
    obtain ⟨h, hh⟩ : ∃ h, h = (i + j) / 2 := ⟨_, rfl⟩
    have hb1 : i ≤ h := by omega
    have hb2 : h < j := by omega
    have hw := half_is i j hij (by omega)
    rw [← hh] at hw
    clear hh
    have ci : (i : Int) < (j : Int) := by omega
    refine Ev.step (fun k => by simp only [impl_Occ_105.l0]; rw [if_pos ci, hw]) ?_
    have c0 : (0 : Int) ≤ (h : Int) := by omega
    have c1 : (h : Int) < (l.length : Int) := by omega
    refine Ev.pos c0 (Ev.pos c1 ?_)
    refine Ev.bind (impl_compare_ev (rd_T27 l (h : Int)) o (hs.at_ h) ho) ?_
    have er : rd_T27 l (h : Int) = l.getD h z27 := rfl
    rw [er]
    by_cases c2 : cmpO (l.getD h z27) o < 0
    · have hw2 : wrap64 ((h : Int) + 1) = ((h + 1 : Nat) : Int) := by rw [w_small (by omega) (by omega)]; omega
      refine Ev.pos c2 ?_
      rw [hw2]
      have hlo : lessO (l.getD h z27) o = true := decide_eq_true c2
      have g1 : ∀ m, m < h + 1 → lessO (l.getD m z27) o = true := fun m hm => by
        rcases Nat.lt_or_ge m h with hlt | hge
        · exact lessO_trans (asc_at hA hlt (by omega)) hlo
        · obtain rfl : m = h := by omega
          exact hlo
      exact ih (h + 1) j (by omega) (by omega) hj g1 h2
    · refine Ev.neg c2 ?_
      have hlo : ¬ lessO (l.getD h z27) o = true := fun hx => c2 (of_decide_eq_true hx)
      have g2 : ∀ m, h ≤ m → m < l.length → ¬ lessO (l.getD m z27) o = true := fun m hm hml hx => by
        rcases Nat.lt_or_ge h m with hlt | hge
        · exact hlo (lessO_trans (asc_at hA hlt hml) hx)
        · obtain rfl : m = h := by omega
          exact hlo hx
      exact ih i h (by omega) (by omega) (by omega) h1 g2
include hl hs hA ho in
theorem impl_put_ev : Ev (fun k => impl_put.f k l o.f0 o.f1 o.f2) (insO l o) := by
  unfold impl_put.f
  have c := hl
  have h := search_ev l hl hs hA o ho l.length 0 l.length (by omega) (by omega) (Nat.le_refl _) (fun m hm => by omega) (fun m hm hml => by omega)
  refine Ev.pos c (Ev.bind h ?_)
  rw [← putN_ins]
  unfold putN
  have ha := ahead_le l o
  by_cases c2 : ahead l o < l.length ∧ (cmpO (l.getD (ahead l o) z27) o == 0) = true
  · rw [if_pos c2]
    refine Ev.pos ?_ (Ev.now _)
    unfold foundO
    rw [decide_eq_true c2.1, c2.2]; rfl
  rw [if_neg c2]
  refine Ev.neg (fun hx => c2 ?_) (Ev.pos ⟨by omega, by omega⟩ (Ev.val (Ev.now _) ?_))
  · have hx' : foundO l o = true := hx
    unfold foundO at hx'
    rw [Bool.and_eq_true] at hx'
    exact ⟨of_decide_eq_true hx'.1, hx'.2⟩
  · rw [Int.toNat_natCast]
end
def Mid (l : List S27) : Prop := ∀ x ∈ l, x.f2.length ≤ 1048576
theorem Mid.short {l : List S27} (h : Mid l) : Short l := fun x hx => Nat.le_trans (h x hx) (by omega)
theorem Mid.at_ {l : List S27} (h : Mid l) (i : Int) : (rd_T27 l i).f2.length ≤ 1048576 := by
  unfold rd_T27
  rw [List.getD_eq_getElem?_getD]
  rcases hx : l[i.toNat]? with _ | x
  · decide
  · exact h x (List.mem_of_getElem? hx)
theorem clone_is (o : S27) (ho : o.f2.length ≤ 1048576) : impl_Occ_clone.f o.f0 o.f1 o.f2 = some (o.f0, o.f1, o.f2) := by
  unfold impl_Occ_clone.f
  rw [if_pos (by rw [List.length_nil]; omega), List.nil_append]
theorem l3Copy_is (o : S27) (ho : o.f2.length ≤ 1048576) : spec_l3Copy.f o.f0 o.f1 o.f2 = some (o.f0, o.f1, o.f2) := by
  unfold spec_l3Copy.f
  simp only [Option.bind_some, List.nil_append, List.length_nil]
  rw [if_pos (by omega)]
theorem take_next (l : List S27) (n : Nat) (h : n < l.length) : l.take n ++ [rd_T27 l (n : Int)] = l.take (n + 1) := by
  have e : rd_T27 l (n : Int) = l[n] := by
    show l.getD n z27 = l[n]
    exact getD_in h
  rw [e, List.take_succ_eq_append_getElem h]
section
variable (l : List S27) (hl : l.length ≤ 1048576) (hs : Mid l)
include hl hs
theorem cloneOccs_l0_ev : ∀ d n : Nat, n + d = l.length → Ev (fun k => impl_cloneOccs.l0 k (l.take n) l (l.length : Int) (n : Int)) l := by
  intro d
  induction d with
  | zero =>
    intro n h
    refine Ev.step (fun k => by simp only [impl_cloneOccs.l0]; rw [if_neg (by omega)]) (Ev.val (Ev.now _) ?_)
    exact List.take_of_length_le (by omega)
  | succ d ih =>
    intro n h
    have hw : wrap64 ((n : Int) + 1) = ((n + 1 : Nat) : Int) := by rw [w_small (by omega) (by omega)]; omega
    refine Ev.step (fun k => by simp only [impl_cloneOccs.l0]; rw [if_pos (by omega), if_pos (by omega), if_pos (by omega), hw]) ?_
    refine Ev.bind (Ev.one (fun _ => clone_is _ (hs.at_ (n : Int)))) ?_
    refine Ev.pos (by rw [List.length_take]; omega) ?_
    rw [take_next l n (by omega)]
    exact ih (n + 1) (by omega)
theorem cloneOccs_ev : Ev (fun k => impl_cloneOccs.f k l) l := cloneOccs_l0_ev l hl hs l.length 0 (by omega)
theorem l3List_l0_ev : ∀ d n : Nat, n + d = l.length → Ev (fun k => spec_l3List.l0 k l (l.take n) (n : Int)) l := by
  intro d
  induction d with
  | zero =>
    intro n h
    refine Ev.step (fun k => by simp only [spec_l3List.l0]; rw [if_neg (by omega)]) (Ev.val (Ev.now _) ?_)
    exact List.take_of_length_le (by omega)
  | succ d ih =>
    intro n h
    have hw : wrap64 ((n : Int) + 1) = ((n + 1 : Nat) : Int) := by rw [w_small (by omega) (by omega)]; omega
    refine Ev.step (fun k => by simp only [spec_l3List.l0]; rw [if_pos (by omega), if_pos (by omega), hw]) ?_
    refine Ev.bind (Ev.one (fun _ => l3Copy_is _ (hs.at_ (n : Int)))) ?_
    refine Ev.pos (by rw [List.length_take]; omega) ?_
    rw [take_next l n (by omega)]
    exact ih (n + 1) (by omega)
theorem l3List_ev : Ev (fun k => spec_l3List.f k l) l := l3List_l0_ev l hl hs l.length 0 (by omega)
end
def toldO (l : List S27) : List S27 × Bool := if 40 < l.length then ([], false) else (l, true)
theorem few_ev (l : List S27) (hl : l.length ≤ 1048576) (hs : Mid l) : Ev (fun k => impl_few.f k l) (toldO l) := by
  unfold impl_few.f toldO
  by_cases c : 40 < l.length
  · rw [if_pos c]; exact Ev.pos (by omega) (Ev.now _)
  · rw [if_neg c]; exact Ev.neg (by omega) (Ev.bindS (cloneOccs_ev l hl hs) rfl)
theorem l4Told_ev (l : List S27) (hl : l.length ≤ 1048576) (hs : Mid l) : Ev (fun k => spec_l4Told.f k l) (toldO l) := by
  unfold spec_l4Told.f toldO
  by_cases c : 40 < l.length
  · rw [if_pos c]; exact Ev.pos (by omega) (Ev.now _)
  · rw [if_neg c]; exact Ev.neg (by omega) (Ev.bindS (l3List_ev l hl hs) rfl)
def mergeO (a b : List S27) : List S27 := b.foldl insO a
theorem mem_mergeO (z : S27) : ∀ (b a : List S27), z ∈ mergeO a b ↔ z ∈ a ∨ z ∈ b
  | [], a => by simp [mergeO]
  | x :: b, a => by
    have ih := mem_mergeO z b (insO a x)
    unfold mergeO at ih ⊢
    rw [List.foldl_cons, ih, mem_insO, List.mem_cons, or_assoc]
theorem asc_mergeO : ∀ (b a : List S27), AscO a → AscO (mergeO a b)
  | [], a, h => h
  | x :: b, a, h => asc_mergeO b (insO a x) (asc_insO a x h)
theorem len_mergeO : ∀ (b a : List S27), (mergeO a b).length ≤ a.length + b.length
  | [], a => by simp [mergeO]
  | x :: b, a => by
    have h1 := len_mergeO b (insO a x)
    have h2 := len_insO a x
    unfold mergeO at h1 ⊢
    rw [List.foldl_cons, List.length_cons]
    omega
theorem Mid.merge {a b : List S27} (ha : Mid a) (hb : Mid b) : Mid (mergeO a b) := fun x hx => ((mem_mergeO x b a).1 hx).elim (ha x) (hb x)
theorem merge_next (a l : List S27) (n : Nat) (h : n < l.length) : insO (mergeO a (l.take n)) (rd_T27 l (n : Int)) = mergeO a (l.take (n + 1)) := by
  unfold mergeO
  rw [← take_next l n h, List.foldl_append]
  rfl
section
variable (a b : List S27) (ha : a.length + b.length ≤ 1048576) (hs : Mid a) (ht : Mid b)
include ha hs ht
theorem l4Merge_l0_ev : ∀ d n : Nat, n + d = b.length → Ev (fun k => spec_l4Merge.l0 k (mergeO a (b.take n)) b (n : Int)) (mergeO a b) := by
  intro d
  induction d with
  | zero =>
    intro n h
    refine Ev.step (fun k => by simp only [spec_l4Merge.l0]; rw [if_neg (by omega)]) (Ev.val (Ev.now _) ?_)
    rw [List.take_of_length_le (by omega)]
  | succ d ih =>
    intro n h
    have hw : wrap64 ((n : Int) + 1) = ((n + 1 : Nat) : Int) := by rw [w_small (by omega) (by omega)]; omega
    have hm : (mergeO a (b.take n)).length ≤ 1048576 := by have := len_mergeO (b.take n) a; rw [List.length_take] at this; omega
    refine Ev.step (fun k => by simp only [spec_l4Merge.l0]; rw [if_pos (by omega), if_pos (by omega), hw]) ?_
    refine Ev.bind (l3Put_ev (mergeO a (b.take n)) (by omega) (hs.merge (fun x hx => ht x (List.mem_of_mem_take hx))).short (rd_T27 b (n : Int)) (by have := ht.at_ (n : Int); omega)) ?_
    rw [putS_ins, merge_next a b n (by omega)]
    exact ih (n + 1) (by omega)
theorem l4Merge_ev : Ev (fun k => spec_l4Merge.f k a b) (mergeO a b) := l4Merge_l0_ev a b ha hs ht b.length 0 (by omega)
theorem putAll_l0_ev (hA : AscO a) : ∀ d n : Nat, n + d = b.length → Ev (fun k => impl_putAll.l0 k (mergeO a (b.take n)) b (n : Int)) (mergeO a b) := by
  intro d
  induction d with
  | zero =>
    intro n h
    refine Ev.step (fun k => by simp only [impl_putAll.l0]; rw [if_neg (by omega)]) (Ev.val (Ev.now _) ?_)
    rw [List.take_of_length_le (by omega)]
  | succ d ih =>
    intro n h
    have hw : wrap64 ((n : Int) + 1) = ((n + 1 : Nat) : Int) := by rw [w_small (by omega) (by omega)]; omega
    have hm : (mergeO a (b.take n)).length ≤ 1048576 := by have := len_mergeO (b.take n) a; rw [List.length_take] at this; omega
    refine Ev.step (fun k => by simp only [impl_putAll.l0]; rw [if_pos (by omega), if_pos (by omega), hw]) ?_
    refine Ev.bind (impl_put_ev (mergeO a (b.take n)) (by omega) (hs.merge (fun x hx => ht x (List.mem_of_mem_take hx))).short (asc_mergeO _ _ hA) (rd_T27 b (n : Int)) (by have := ht.at_ (n : Int); omega)) ?_
    rw [merge_next a b n (by omega)]
    exact ih (n + 1) (by omega)
theorem putAll_ev (hA : AscO a) : Ev (fun k => impl_putAll.f k a b) (mergeO a b) := putAll_l0_ev a b ha hs ht hA b.length 0 (by omega)
end
theorem occsGo_asc : ∀ (l : List S27) (p : Option S27), occsGo p l = true ↔ AscO l ∧ (∀ x ∈ l, occOkB x = true) ∧ (∀ y, p = some y → ∀ x ∈ l, lessO y x = true)
  | [], p => by simp [occsGo, AscO]
  | x :: l, p => by
    have ih := occsGo_asc l (some x)
    have e : occsGo p (x :: l) = true ↔ occOkB x = true ∧ (∀ y, p = some y → lessO y x = true) ∧ occsGo (some x) l = true := by
      cases p with
      | none =>
        rw [show occsGo none (x :: l) = (occOkB x && occsGo (some x) l) from rfl]
        simp
      | some y =>
        rw [show occsGo (some y) (x :: l) = (occOkB x && (lessO y x && occsGo (some x) l)) from rfl]
        simp
    rw [e, ih]
    unfold AscO
    rw [List.pairwise_cons]
    constructor
    · rintro ⟨h1, h2, h3, h4, h5⟩
      refine ⟨⟨h5 x rfl, h3⟩, fun z hz => ?_, fun y hy z hz => ?_⟩
      · rcases List.mem_cons.1 hz with rfl | hz
        · exact h1
        · exact h4 z hz
      · rcases List.mem_cons.1 hz with rfl | hz
        · exact h2 y hy
        · exact lessO_trans (h2 y hy) (h5 x rfl z hz)
    · rintro ⟨⟨h1, h2⟩, h3, h4⟩
      exact ⟨h3 x (by simp), fun y hy => h4 y hy x (by simp), h2, fun z hz => h3 z (by simp [hz]), fun y hy => by injection hy with hy; subst hy; exact h1⟩
theorem occsOkB_iff (l : List S27) : occsOkB l = true ↔ AscO l ∧ (∀ x ∈ l, occOkB x = true) ∧ l.length ≤ 40 := by
  unfold occsOkB
  rw [Bool.and_eq_true, occsGo_asc, decide_eq_true_iff]
  constructor
  · rintro ⟨⟨h1, h2, _⟩, h3⟩
    exact ⟨h1, h2, h3⟩
  · rintro ⟨h1, h2, h3⟩
    exact ⟨⟨h1, h2, fun y hy => by cases hy⟩, h3⟩
def orO (a b : List S27) : List S27 × Bool := if occsOkB a = true ∧ occsOkB b = true then toldO (mergeO a b) else ([], false)
theorem impl_OrOf_ev (a b : List S27) (hl : a.length ≤ 1048576) (hs : Mid a) (hm : b.length ≤ 1048576) (ht : Mid b) : Ev (fun k => impl_OrOf.f k a b) (orO a b) := by
  unfold impl_OrOf.f orO
  refine Ev.bind (impl_OccsOk_ev a (by omega) hs.short) ?_
  by_cases c : occsOkB a = true
  · refine Ev.pos c (Ev.bind (impl_OccsOk_ev b (by omega) ht.short) ?_)
    by_cases c2 : occsOkB b = true
    · rw [if_pos ⟨c, c2⟩]
      obtain ⟨h1, _, h3⟩ := (occsOkB_iff a).1 c
      obtain ⟨_, _, h6⟩ := (occsOkB_iff b).1 c2
      refine Ev.pos c2 (Ev.bind (putAll_ev a b (by omega) hs ht h1) ?_)
      exact few_ev _ (by have := len_mergeO b a; omega) (hs.merge ht)
    · rw [if_neg (fun h => c2 h.2)]
      exact Ev.neg c2 (Ev.now _)
  · rw [if_neg (fun h => c h.1)]
    exact Ev.neg c (Ev.now _)
theorem spec_OrOf_ev (a b : List S27) (hl : a.length ≤ 1048576) (hs : Mid a) (hm : b.length ≤ 1048576) (ht : Mid b) : Ev (fun k => spec_OrOf.f k a b) (orO a b) := by
  unfold spec_OrOf.f orO
  refine Ev.bind (spec_OccsOk_ev a (by omega) hs.short) ?_
  by_cases c : occsOkB a = true
  · refine Ev.pos c (Ev.bind (spec_OccsOk_ev b (by omega) ht.short) ?_)
    by_cases c2 : occsOkB b = true
    · rw [if_pos ⟨c, c2⟩]
      obtain ⟨_, _, h3⟩ := (occsOkB_iff a).1 c
      obtain ⟨_, _, h6⟩ := (occsOkB_iff b).1 c2
      refine Ev.pos c2 (Ev.bind (l3List_ev a hl hs) (Ev.bind (l4Merge_ev a b (by omega) hs ht) ?_))
      exact l4Told_ev _ (by have := len_mergeO b a; omega) (hs.merge ht)
    · rw [if_neg (fun h => c2 h.2)]
      exact Ev.neg c2 (Ev.now _)
  · rw [if_neg (fun h => c h.1)]
    exact Ev.neg c (Ev.now _)
def totO : List S27 → Nat
  | [] => 0
  | x :: r => 2 + x.f2.length + totO r
def mkO : List S27 → Int → List S27
  | [], _ => []
  | x :: r, c => ⟨c, c + 1, iMarks x.f2.length (c + 2)⟩ :: mkO r (c + ((2 + x.f2.length : Nat) : Int))
theorem totO_le : ∀ l : List S27, Mid l → totO l ≤ l.length * 1048578
  | [], _ => Nat.zero_le _
  | x :: r, h => by
    have h1 := h x List.mem_cons_self
    have h2 := totO_le r (fun y hy => h y (List.mem_cons_of_mem _ hy))
    rw [totO, List.length_cons, Nat.succ_mul]
    omega
theorem at_pre (pre r : List S27) (x : S27) : rd_T27 (pre ++ x :: r) (pre.length : Int) = x := by
  show (pre ++ x :: r).getD pre.length z27 = x
  simp [List.getD_eq_getElem?_getD]
theorem markOccS_l0_ev : ∀ (rest pre : List S27) (c : Int), Mid rest → (pre ++ rest).length ≤ 1099511627776 → 0 ≤ c → c + (totO rest : Int) ≤ 1125899906842624 → Ev (fun k => laws_markOccS.l0 k (pre ++ rest) c (pre.length : Int)) (c + (totO rest : Int), pre ++ mkO rest c)
  | [], pre, c, _, hl, h0, h1 => by
    rw [List.append_nil] at hl ⊢
    refine Ev.last (fun k => ?_)
    simp only [laws_markOccS.l0]
    rw [if_neg (by omega)]
    simp [totO, mkO]
  | x :: r, pre, c, hm, hl, h0, h1 => by
    have hx := hm x List.mem_cons_self
    have ht : totO (x :: r) = 2 + x.f2.length + totO r := rfl
    have hlen : (pre ++ x :: r).length = pre.length + r.length + 1 := by simp; omega
    have w1 : wrap64 (c + 1) = c + 1 := w_small (by omega) (by omega)
    have w2 : wrap64 (c + 1 + 1) = c + 1 + 1 := w_small (by omega) (by omega)
    have w3 : wrap64 ((pre.length : Int) + 1) = ((pre ++ [(⟨c, c + 1, iMarks x.f2.length (c + 1 + 1)⟩ : S27)]).length : Int) := by
      rw [w_small (by omega) (by omega), List.length_append, List.length_singleton]; omega
    have hi := markIntS_ev x.f2 (c + 1 + 1) (by omega) (by omega) (by omega)
    have ih := markOccS_l0_ev r (pre ++ [(⟨c, c + 1, iMarks x.f2.length (c + 1 + 1)⟩ : S27)]) (c + 1 + 1 + (x.f2.length : Int)) (fun y hy => hm y (List.mem_cons_of_mem _ hy)) (by simp; omega) (by omega) (by omega)
    have hset : (pre ++ x :: r).set (pre.length : Int).toNat (⟨c, c + 1, iMarks x.f2.length (c + 1 + 1)⟩ : S27) = pre ++ [(⟨c, c + 1, iMarks x.f2.length (c + 1 + 1)⟩ : S27)] ++ r := by
      rw [Int.toNat_natCast]; simp
    refine Ev.step (fun k => by simp only [laws_markOccS.l0]; rw [if_pos (by omega), if_pos (by omega), at_pre, w1, w2]) ?_
    refine Ev.bind hi ?_
    simp only [hset, w3]
    refine Ev.val ih ?_
    have e2 : c + 1 + 1 + (x.f2.length : Int) = c + ((2 + x.f2.length : Nat) : Int) := by omega
    have e3 : c + 1 + 1 = c + 2 := by omega
    rw [e2, e3, List.append_assoc]
    refine Prod.ext ?_ rfl
    show c + ((2 + x.f2.length : Nat) : Int) + (totO r : Int) = c + (totO (x :: r) : Int)
    omega
theorem markOccS_ev (l : List S27) (c : Int) (hm : Mid l) (hl : l.length ≤ 1099511627776) (h0 : 0 ≤ c) (h1 : c + (totO l : Int) ≤ 1125899906842624) : Ev (fun k => laws_markOccS.f k l c) (c + (totO l : Int), mkO l c) := by
  unfold laws_markOccS.f
  exact markOccS_l0_ev l [] c hm hl h0 h1
theorem mkO_len : ∀ (l : List S27) (c : Int), (mkO l c).length = l.length
  | [], _ => rfl
  | x :: r, c => by rw [mkO, List.length_cons, List.length_cons, mkO_len r]
theorem heldOccS_l0_ev : ∀ (rest pre : List S27) (c : Int), Mid rest → (pre ++ rest).length ≤ 1099511627776 → 0 ≤ c → c + (totO rest : Int) ≤ 1125899906842624 → Ev (fun k => laws_heldOccS.l0 k (pre ++ mkO rest c) c (pre.length : Int)) (c + (totO rest : Int))
  | [], pre, c, _, hl, h0, h1 => by
    refine Ev.last (fun k => ?_)
    simp only [laws_heldOccS.l0, mkO, List.append_nil]
    rw [if_neg (by omega)]
    simp [totO]
  | x :: r, pre, c, hm, hl, h0, h1 => by
    have hx := hm x List.mem_cons_self
    have ht : totO (x :: r) = 2 + x.f2.length + totO r := rfl
    have w1 : wrap64 (c + 1) = c + 1 := w_small (by omega) (by omega)
    have w2 : wrap64 (c + 1 + 1) = c + 2 := by rw [w_small (by omega) (by omega)]; omega
    have hl' : pre.length + r.length + 1 ≤ 1099511627776 := by simp at hl; omega
    have e2 : c + 2 + (x.f2.length : Int) = c + ((2 + x.f2.length : Nat) : Int) := by omega
    have hi := heldIntS_ev x.f2.length (c + 2) (by omega) (by omega) (by omega)
    have ih := heldOccS_l0_ev r (pre ++ [(⟨c, c + 1, iMarks x.f2.length (c + 2)⟩ : S27)]) (c + ((2 + x.f2.length : Nat) : Int)) (fun y hy => hm y (List.mem_cons_of_mem _ hy)) (by simp; omega) (by omega) (by omega)
    have w3 : wrap64 ((pre.length : Int) + 1) = ((pre ++ [(⟨c, c + 1, iMarks x.f2.length (c + 2)⟩ : S27)]).length : Int) := by
      rw [w_small (by omega) (by omega), List.length_append, List.length_singleton]; omega
    have hm' : mkO (x :: r) c = ⟨c, c + 1, iMarks x.f2.length (c + 2)⟩ :: mkO r (c + ((2 + x.f2.length : Nat) : Int)) := rfl
    have hlen : (pre ++ (⟨c, c + 1, iMarks x.f2.length (c + 2)⟩ : S27) :: mkO r (c + ((2 + x.f2.length : Nat) : Int))).length = pre.length + r.length + 1 := by simp [mkO_len]; omega
    rw [hm']
    refine Ev.step (fun k => by simp only [laws_heldOccS.l0]; rw [if_pos (by omega), if_pos (by omega), at_pre, if_pos rfl, w1, if_pos rfl, w2]) ?_
    refine Ev.bind hi (Ev.neg (by omega) ?_)
    simp only [w3, e2]
    rw [List.append_assoc] at ih
    refine Ev.val ih ?_
    omega
theorem heldOccS_ev (l : List S27) (c : Int) (hm : Mid l) (hl : l.length ≤ 1099511627776) (h0 : 0 ≤ c) (h1 : c + (totO l : Int) ≤ 1125899906842624) : Ev (fun k => laws_heldOccS.f k (mkO l c) c) (c + (totO l : Int)) := by
  unfold laws_heldOccS.f
  exact heldOccS_l0_ev l [] c hm hl h0 h1
theorem good_ids (x : S24) (h : good24 x) : x.f2.length ≤ 9223372036854775807 := maxLen_le h.2.2.1
def goodOs (l : List S24) : Prop := l.length ≤ maxLen ∧ ∀ y ∈ l, good24 y
theorem goodOs.short {l : List S24} (h : goodOs l) : ShortL l := fun x hx => good_ids x (h.2 x hx)
theorem goodOs.sz {l : List S24} (h : goodOs l) (a : Int) (h0 : 0 ≤ a) (h1 : a ≤ 1048576) : Ev (fun k => laws_szOccS.f k l a) (leftOf a (allO l)) := szOccS_ev l (maxLen_le h.1) h.short a h0 h1
theorem few_cv {l : List S24} (h : FewO l) : (l.map cvO).length ≤ 1048576 := by rw [List.length_map]; exact h.len

theorem mid_map (l : List S24) (hl : FewO l) : Mid (l.map cvO) := by
  intro x hx
  obtain ⟨y, hy, rfl⟩ := List.mem_map.1 hx
  exact hl.ids y hy
theorem FnExactOrOf_pure (l : List S24) (h : l.length ≤ maxLen ∧ ∀ y ∈ l, good24 y) (m : List S24) (hm : m.length ≤ maxLen ∧ ∀ y ∈ m, good24 y) : ∃ k, laws_FnExactOrOf.f k l m = some true := by
  refine Ev.rounds (g := fun k => laws_FnExactOrOf.f k l m) ?_
  unfold laws_FnExactOrOf.f
  refine Ev.bind (goodOs.sz h 1048576 (by omega) (by omega)) ?_
  by_cases hs : ((allO l : Nat) : Int) ≤ 1048576
  rotate_left
  · rw [leftOf_neg hs]
    exact Ev.pos (by omega) (Ev.now _)
  rw [leftOf_pos hs]
  refine Ev.neg (by omega) (Ev.bind (goodOs.sz hm _ (by omega) (by omega)) ?_)
  by_cases hs2 : ((allO m : Nat) : Int) ≤ 1048576 - allO l
  rotate_left
  · rw [leftOf_neg hs2]
    exact Ev.pos (by omega) (Ev.now _)
  rw [leftOf_pos hs2]
  refine Ev.neg (by omega) ?_
  have hf : FewO l := by unfold FewO; omega
  have hf2 : FewO m := by unfold FewO; omega
  have k1 := few_cv hf
  have k2 := short_map l hf
  have k3 := few_cv hf2
  have k4 := short_map m hf2
  have m1 := mid_map l hf
  have m2 := mid_map m hf2
  have t1 := totO_le _ m1
  have t2 := totO_le _ m2
  have hg : Mid (orO (l.map cvO) (m.map cvO)).1 ∧ (orO (l.map cvO) (m.map cvO)).1.length ≤ 40 := by
    unfold orO
    by_cases c : occsOkB (l.map cvO) = true ∧ occsOkB (m.map cvO) = true
    · rw [if_pos c]
      unfold toldO
      by_cases d : 40 < (mergeO (l.map cvO) (m.map cvO)).length
      · rw [if_pos d]; exact ⟨fun x hx => by simp at hx, by simp⟩
      · rw [if_neg d]; exact ⟨m1.merge m2, by show (mergeO (l.map cvO) (m.map cvO)).length ≤ 40; omega⟩
    · rw [if_neg c]; exact ⟨fun x hx => by simp at hx, by simp⟩
  obtain ⟨m3, h3⟩ := hg
  have t3 := totO_le _ m3
  have b1 : totO (l.map cvO) ≤ 1100000000000 := Nat.le_trans t1 (Nat.le_trans (Nat.mul_le_mul_right _ k1) (by omega))
  have b2 : totO (m.map cvO) ≤ 1100000000000 := Nat.le_trans t2 (Nat.le_trans (Nat.mul_le_mul_right _ k3) (by omega))
  have b3 : totO (orO (l.map cvO) (m.map cvO)).1 ≤ 1100000000000 := Nat.le_trans t3 (Nat.le_trans (Nat.mul_le_mul_right _ h3) (by omega))
  refine Ev.bind (toOccS_ev l hf) (Ev.bind (toOccS_ev m hf2) (Ev.bind (spec_OrOf_ev _ _ k1 m1 k3 m2) (Ev.bind (impl_OrOf_ev _ _ k1 m1 k3 m2) ?_)))
  refine Ev.bind (eqOccS_ev _ (by omega) m3.short) (Ev.bind (eqOccS_ev _ (by omega) k2) (Ev.bind (eqOccS_ev _ (by omega) k4) ?_))
  refine Ev.bind (markOccS_ev _ 1 m1 (by omega) (by omega) (by omega)) (Ev.bind (markOccS_ev _ _ m2 (by omega) (by omega) (by omega)) (Ev.bind (markOccS_ev _ 1 m3 (by omega) (by omega) (by omega)) ?_))
  refine Ev.bind (heldOccS_ev _ 1 m3 (by omega) (by omega) (by omega)) ?_
  exact Ev.pos ⟨⟨rfl, rfl, rfl, rfl⟩, by omega, by omega, rfl⟩ (Ev.now _)
end Go.Proofs.Ytiplpckgmikmeaa.M
