/- What the claim's law leans on: the program's functions, what they compute, and the law over plain values; no condition is asked. (Part 3 of 3.) -/
import Derived.Test.YtiplpckgmikmeaaCLawsFnExactOccsPut2
import Derived.Laws.BitsAllLaws
import Derived.Laws.BitsLemmas
namespace Go.Proofs.Ytiplpckgmikmeaa.M
set_option linter.unusedVariables false
set_option linter.unusedSimpArgs false
open Go Go.RowKit Go.Proofs.YtiplpckgmikmeaaW.PrintWords Go.Proofs.YtiplpckgmikmeaaW.PrintLast Go.Proofs.YtiplpckgmikmeaaW.PrintMore

theorem reps_in {α : Type} {R : α → List Value → Prop} {l : List α} {xs vs : List Value} {o : α} {i : Nat} (h : Reps R 3 l xs) (hp : R o vs) (hv : vs.length = 3) (hi : i ≤ l.length) : Reps R 3 (l.take i ++ [o] ++ l.drop i) (xs.take (i * 3) ++ vs ++ xs.drop (i * 3)) := by
  have hl := h.1
  have la : (xs.take (i * 3)).length = i * 3 := by rw [List.length_take]; omega
  have lt : (l.take i).length = i := by rw [List.length_take]; omega
  refine ⟨?_, fun j p hj => ?_⟩
  · simp only [List.length_append, List.length_take, List.length_drop, List.length_singleton, hv]
    omega
  rw [List.append_assoc] at hj ⊢
  rcases Nat.lt_trichotomy j i with hlt | rfl | hgt
  · rw [List.getElem?_append_left (by omega), List.getElem?_take_of_lt hlt] at hj
    have h2 := h.2 j p hj
    rw [List.drop_append_of_le_length (by omega), List.take_append_of_le_length (by rw [List.length_drop]; omega), List.drop_take, List.take_take, Nat.min_eq_left (by omega)]
    exact h2
  · rw [List.getElem?_append_right (by omega), lt, Nat.sub_self] at hj
    have e : o = p := by simpa using hj
    subst e
    rw [List.drop_append_of_le_length (by omega), List.drop_of_length_le (by omega), List.nil_append, List.take_left' hv]
    exact hp
  obtain ⟨m, rfl⟩ : ∃ m, j = i + 1 + m := ⟨j - i - 1, by omega⟩
  rw [List.getElem?_append_right (by omega), lt, List.getElem?_append_right (by simp; omega)] at hj
  have e : i + 1 + m - i - [o].length = m := by simp; omega
  rw [e, List.getElem?_drop] at hj
  have h2 := h.2 (i + m) p hj
  have e3 : (i + 1 + m) * 3 = (xs.take (i * 3)).length + (vs.length + m * 3) := by rw [la, hv]; omega
  rw [e3, List.drop_length_add_append, List.drop_length_add_append, List.drop_drop]
  rw [show i * 3 + m * 3 = (i + m) * 3 by omega]
  exact h2
theorem raw_of_C {α : Type} {d : Kd α} {w : World} {A : Option Addr} {l : List α} (h : d.C w A l.length l) : ∃ xs : List Value, xs.length = l.length * d.sz ∧ (∀ ad, A = some ad → ∀ j u, xs[j]? = some u → w.cell? (ad.add j) = some u) ∧ (A = none → l.length = 0) ∧ (∀ u ∈ xs, u.oneCell' = true) ∧ (∀ w1, Below w.heap.size w w1 → Reps (d.K w1) d.sz l xs) := by
  have h0 : A = none → l.length = 0 := fun e => by
    rcases Nat.eq_zero_or_pos l.length with h1 | h1
    · exact h1
    · obtain ⟨ad, h2, _⟩ := h.2.2 h1
      rw [e] at h2; cases h2
  cases A with
  | none =>
    have e := List.eq_nil_of_length_eq_zero (h0 rfl)
    subst e
    exact ⟨[], by simp, (fun ad e => by cases e), h0, (fun u hu => by simp at hu), fun _ _ => Reps.none _ _⟩
  | some ad =>
    obtain ⟨xs, hr, hc⟩ := ReadsRow.inner_ h
    refine ⟨xs, hr.1, fun ad' e => by injection e with e; subst e; exact hc, h0, fun u hu => ?_, fun w1 hb => hr.imp_ (fun _ _ hp => d.K_below hb hp)⟩
    obtain ⟨m, hm, rfl⟩ := List.getElem_of_mem hu
    have hs : 0 < d.sz := by
      rcases Nat.eq_zero_or_pos d.sz with h1 | h1
      · rw [hr.1, h1, Nat.mul_zero] at hm; omega
      · exact h1
    have hj : m / d.sz < l.length := by rw [Nat.div_lt_iff_lt_mul hs, ← hr.1]; exact hm
    have h2 := d.K_one (hr.2 (m / d.sz) _ (List.getElem?_eq_getElem hj))
    refine h2 _ (List.mem_iff_getElem?.2 ⟨m % d.sz, ?_⟩)
    rw [List.getElem?_take_of_lt (Nat.mod_lt _ hs), List.getElem?_drop, show m / d.sz * d.sz + m % d.sz = m by rw [Nat.mul_comm]; exact Nat.div_add_mod m d.sz, List.getElem?_eq_getElem hm]
theorem new_of {w : World} {g : Nat} {o : Obj} (_ : w.heap[g]? = some o) (o' : Obj) : (w.alloc o').heap[w.heap.size]? = some o' := heap_alloc_new w o'
theorem putIn_length (l : List S27) (i : Nat) (o : S27) : (putIn l i o).length = l.length + 1 := by
  unfold putIn
  rw [List.length_append, List.length_append, List.length_take, List.length_drop, List.length_singleton]; omega
def impl_put.f (k : Nat) (l0 : List S27) (a0 a1 : Int) (l2 : List Int) : Option (List S27) := if l0.length < 1099511627776 then (impl_Occ_105.f k l0 a0 a1 l2).bind fun t => if t.2 = true then some l0 else if 0 ≤ t.1 ∧ t.1 ≤ (l0.length : Int) then some (putIn l0 t.1.toNat ⟨a0, a1, l2⟩) else none else none
set_option maxHeartbeats 4000000 in
set_option maxRecDepth 100000 in
theorem impl_put.calls (k : Nat) (A0 : Option Addr) (c0 : Nat) (l0 : List S27) (a0 a1 : Int) (A2 : Option Addr) (c2 : Nat) (l2 : List Int) (r : List S27) (w : World) (hr0 : Kd.C k27 w A0 l0.length l0) (hc0 : l0.length ≤ c0) (hr2 : Kd.C (Kd.int .i64) w A2 l2.length l2) (hc2 : l2.length ≤ c2) (h : impl_put.f k l0 a0 a1 l2 = some r) :
    Calls Try.prog 85 #[.slice A0 l0.length c0, .agg #[.int .i64 a0, .int .i64 a1, .slice A2 l2.length c2]] w fun e w' => ∃ (A : Option Addr) (c : Nat), e = .returned (.slice A r.length c) ∧ r.length ≤ c ∧ Kd.C k27 w' A r.length r ∧ Below w.heap.size w w' := by
  unfold impl_put.f at h
  by_cases hlen : l0.length < 1099511627776
  case neg => rw [if_neg hlen] at h; cases h
  rw [if_pos hlen] at h
  obtain ⟨⟨t1, t2⟩, ht, h⟩ := Option.bind_eq_some_iff.1 h
  have HLEN := m0_ hlen
  have HT := m0_ ht
  have HH := m0_ h
  have HR0 := m0_ hr0
  have HC0 := m0_ hc0
  have HR2 := m0_ hr2
  have HC2 := m0_ hc2
  have HB := m0_ (Below.refl w.heap.size w)
  clear ht h hr0 hc0 hr2 hc2 hlen
  go_enter Try.func85, Try.ntmps85
  go_upto_region 1 with (first | ((with_reducible refine gate_dst (N := 3) rfl ?_); refine box_event ?hg (N := 3) ?hd (cs := #[.int .i64 a0, .int .i64 a1, .slice A2 l2.length c2]) (t := 27) ?hr ?_; (case hd => rfl); (case hg => rfl); (case hr => first | (go_simp; done) | (go_simp; rfl)); intro gb1 hg wb1 hbox hb; have n0_ := m0_ (below_step HB.out hb); have n1_ := m0_ (hbox); have n2_ := m0_ ((by rw [hg]; exact below_size HB.out : w.heap.size ≤ gb1)); clear HB; have HB := n0_; have BK1 := n1_; have GE1 := n2_; clear n0_ n1_ n2_; clear hb hbox hg))
  have hz0 := (blk_cell BK1.out 0).trans (show _ = some (Value.int .i64 a0) from rfl)
  have hz1 := (blk_cell BK1.out 1).trans (show _ = some (Value.int .i64 a1) from rfl)
  have hz2 := (blk_cell BK1.out 2).trans (show _ = some (Value.slice A2 l2.length c2) from rfl)
  go_wp2_with (go_at_call 105; fail)
  clear hz0 hz1 hz2
  refine (impl_Occ_105.calls k A0 c0 l0 a0 a1 A2 c2 l2 t1 t2 _ (Kd.C_below HR0.out HB.out) HC0.out (Kd.C_below HR2.out HB.out) HC2.out HT.out).mono ?_
  rintro e w' ⟨rfl, hb⟩
  have n0_ := m0_ (blk_below BK1.out hb)
  have n1_ := m0_ (below_step HB.out hb)
  clear BK1
  clear HB
  have BK1 := n0_
  have HB := n1_
  clear n0_ n1_
  clear hb
  cases t2 with
  | true =>
    go_wp2
    go_ret
    obtain rfl := Option.some.inj (show some l0 = some r from by have := HH.out; rw [if_pos trivial] at this; exact this)
    exact ⟨_, _, rfl, HC0.out, Kd.C_below HR0.out HB.out, HB.out⟩
  | false =>
    have hh := HH.out
    rw [if_neg (by simp)] at hh
    by_cases hin : 0 ≤ t1 ∧ t1 ≤ (l0.length : Int)
    case neg => rw [if_neg hin] at hh; cases hh
    rw [if_pos hin] at hh
    obtain rfl := Option.some.inj hh
    clear hh HH
    obtain ⟨i, rfl⟩ := Int.eq_ofNat_of_zero_le hin.1
    have HIL := m0_ (show i ≤ l0.length by have := hin.2; omega)
    clear hin
    obtain ⟨xs, hx1, hx2, hx3, hx4, hx5⟩ := raw_of_C HR0.out
    have HX1 := m0_ (show xs.length = l0.length * 3 from hx1)
    have HX2 := m0_ hx2
    have HX3 := m0_ hx3
    have HX4 := m0_ hx4
    have HX5 := m0_ (show ∀ w1, Below w.heap.size w w1 → Reps (k27.K w1) 3 l0 xs from hx5)
    have H1V := m0_ (show ∀ u ∈ [Value.int .i64 a0, Value.int .i64 a1, Value.slice A2 l2.length c2], u.oneCell' = true from by intro q hq; simp only [List.mem_cons, List.not_mem_nil, or_false] at hq; rcases hq with rfl | rfl | rfl <;> rfl)
    clear hx1 hx2 hx3 hx4 hx5
    go_wp2
    have hb := below_drew (Below.refl w'.heap.size w')
    have n0_ := m0_ (blk_below BK1.out hb)
    have n1_ := m0_ (below_step HB.out hb)
    clear BK1
    clear HB
    have BK1 := n0_
    have HB := n1_
    clear n0_ n1_
    clear hb
    refine start_ (n := 7) (S := fun w' => w'.cell? ⟨gb1, 0, none⟩ = some (.int .i64 a0) ∧ w'.cell? ⟨gb1, 1, none⟩ = some (.int .i64 a1) ∧ w'.cell? ⟨gb1, 2, none⟩ = some (.slice A2 l2.length c2)) (ds := [5]) #[false, false, false, false, false, false, false] (by kernel_rfl) rfl rfl ⟨(blk_cell BK1.out 0).trans rfl, (blk_cell BK1.out 1).trans rfl, (blk_cell BK1.out 2).trans rfl⟩ (fun hHeld => ?_)
    refine pv_ 0 15 #[true, false, false, false, false, false, false] (by kernel_rfl) ?_
    refine pv_ 2 17 #[true, false, true, false, false, false, false] (by kernel_rfl) ?_
    refine take_ (i := 3) (N := some 18) (v := ?_) (a' := ?_) #[true, false, true, true, false, false, false] rfl rfl (by kernel_rfl) (fun _ _ _ h => h) (Or.inl ⟨by rfl, ?_⟩) hHeld ?_ ?_
    rotate_left
    · rintro w' ⟨s0, s1, s2⟩
      go_simp
      with_reducible rfl
    rotate_left
    · simp only [Act.put, List.setIfInBounds_toArray, List.set_cons_zero, List.set_cons_succ, i64_w, i32_w]
      rfl
    refine join_ (σ := Value × Nat) 2 #[true, true, true, true, true, false, false] (fun s => [(16, s.1), (19, .slice (some ⟨s.2, 0, none⟩) 1 1)]) (fun s w' => (w'.cell? ⟨gb1, 0, none⟩ = some (.int .i64 a0) ∧ w'.cell? ⟨gb1, 1, none⟩ = some (.int .i64 a1) ∧ w'.cell? ⟨gb1, 2, none⟩ = some (.slice A2 l2.length c2)) ∧ Aside0 (w'.ownsRow w.heap.size 27 3 s.1 l0.length xs) ∧ Aside0 (w'.heap[s.2]? = some (.cells #[.int .i64 a0, .int .i64 a1, .slice A2 l2.length c2] 27 (0, 0))) ∧ Aside0 (some s.2 ≠ s.1.ownBlock) ∧ Aside0 (Below w.heap.size w w')) ?_ ?_
    rotate_left
    · intro hCont
      refine two_ (i := 1) (j := 4) (Ni := some 16) (Nj := some 19) #[true, true, true, true, false, false, false] #[true, false, true, true, true, false, false] rfl rfl rfl rfl (by kernel_rfl) (by decide) (by decide) (fun K hK => ?_) (fun K hK => ?_)
      rotate_left
      · skip
        refine value_ (w1 := ?_) (v := ?_) (by rfl) rfl ?_ ?_
        rotate_left 2
        · go_simp
          constructor
          · rfl
          · rfl
        have HLT := m0_ (show ((w'.alloc (.cells #[.int .i64 a0, .int .i64 a1, .slice A2 l2.length c2] 27)).drew).heap[w'.heap.size]? = _ from new_of BK1.out (.cells #[.int .i64 a0, .int .i64 a1, .slice A2 l2.length c2] 27))
        have n0_ := m0_ (show ((w'.alloc (.cells #[.int .i64 a0, .int .i64 a1, .slice A2 l2.length c2] 27)).drew).heap[gb1]? = _ from blk_alloc BK1.out (.cells #[.int .i64 a0, .int .i64 a1, .slice A2 l2.length c2] 27))
        have n1_ := m0_ (show Below w.heap.size w ((w'.alloc (.cells #[.int .i64 a0, .int .i64 a1, .slice A2 l2.length c2] 27)).drew) from below_alloc HB.out (.cells #[.int .i64 a0, .int .i64 a1, .slice A2 l2.length c2] 27))
        clear BK1 HB
        have BK1 := n0_
        have HB := n1_
        clear n0_ n1_
        refine hK.out _ _ ⟨(blk_cell BK1.out 0).trans rfl, (blk_cell BK1.out 1).trans rfl, (blk_cell BK1.out 2).trans rfl⟩ (fun hHeld => ?_)
        clear hK K
        refine norm_ (a' := ?_) ?_ ?_
        rotate_left
        · show Act.put _ (some 19) _ = _
          simp only [Act.put, List.setIfInBounds_toArray, List.set_cons_zero, List.set_cons_succ, i64_w, i32_w]
          rfl
        refine one_ (i := 1) (N := some 16) #[true, true, true, true, true, false, false] rfl rfl (by kernel_rfl) (by decide) (fun K hK => ?_)
        refine goes_ Try.func107 (by kernel_rfl) rfl #[.slice A0 l0.length c0] (by rfl) rfl rfl (by simp only [List.map_toArray, List.map_cons, List.map_nil]; rfl) ?_
        with_reducible refine (Clone_walk A0 l0.length c0 xs _ HX1.out HLEN.out (fun ad e j u h => (HB.out.cell (World.block_lt_of_cell? _ _ (HX2.out ad e j u h))).trans (HX2.out ad e j u h)) HX3.out HX4.out).mono ?_
        rintro e w3 ⟨v16, rfl, ho, hb⟩
        refine ⟨_, rfl, ?_⟩
        have HNE := m0_ (show some w'.heap.size ≠ v16.ownBlock from fun e => by have h1 := own_base ho _ e.symm; have h2 := blk_lt HLT.out; omega)
        have n9_ := m0_ (blk_below HLT.out hb)
        clear HLT
        have HLT := n9_
        clear n9_
        have HOW := m0_ (own_weaken ho HB.out.size)
        clear ho
        have n0_ := m0_ (blk_below BK1.out hb)
        have n1_ := m0_ (below_step HB.out hb)
        clear BK1
        clear HB
        have BK1 := n0_
        have HB := n1_
        clear n0_ n1_
        clear hb
        refine hK.out _ _ ⟨(blk_cell BK1.out 0).trans rfl, (blk_cell BK1.out 1).trans rfl, (blk_cell BK1.out 2).trans rfl⟩ (fun hHeld => ?_)
        clear hK K
        refine norm_ (a' := ?_) ?_ ?_
        rotate_left
        · show Act.put _ (some 16) _ = _
          simp only [Act.put, List.setIfInBounds_toArray, List.set_cons_zero, List.set_cons_succ, i64_w, i32_w]
          rfl
        exact norm_ (by simp only [putAll, Act.put, List.setIfInBounds_toArray, List.set_cons_zero, List.set_cons_succ]) (hCont (v16, w'.heap.size) _ ⟨⟨(blk_cell BK1.out 0).trans rfl, (blk_cell BK1.out 1).trans rfl, (blk_cell BK1.out 2).trans rfl⟩, HOW, HLT, HNE, HB⟩)
      skip
      refine goes_ Try.func107 (by kernel_rfl) rfl #[.slice A0 l0.length c0] (by rfl) rfl rfl (by simp only [List.map_toArray, List.map_cons, List.map_nil]; rfl) ?_
      with_reducible refine (Clone_walk A0 l0.length c0 xs _ HX1.out HLEN.out (fun ad e j u h => (HB.out.cell (World.block_lt_of_cell? _ _ (HX2.out ad e j u h))).trans (HX2.out ad e j u h)) HX3.out HX4.out).mono ?_
      rintro e w3 ⟨v16, rfl, ho, hb⟩
      refine ⟨_, rfl, ?_⟩
      have HOW := m0_ (own_weaken ho HB.out.size)
      clear ho
      have n0_ := m0_ (blk_below BK1.out hb)
      have n1_ := m0_ (below_step HB.out hb)
      clear BK1
      clear HB
      have BK1 := n0_
      have HB := n1_
      clear n0_ n1_
      clear hb
      refine hK.out _ _ ⟨(blk_cell BK1.out 0).trans rfl, (blk_cell BK1.out 1).trans rfl, (blk_cell BK1.out 2).trans rfl⟩ (fun hHeld => ?_)
      clear hK K
      refine norm_ (a' := ?_) ?_ ?_
      rotate_left
      · show Act.put _ (some 16) _ = _
        simp only [Act.put, List.setIfInBounds_toArray, List.set_cons_zero, List.set_cons_succ, i64_w, i32_w]
        rfl
      refine one_ (i := 4) (N := some 19) #[true, true, true, true, true, false, false] rfl rfl (by kernel_rfl) (by decide) (fun K hK => ?_)
      refine value_ (w1 := ?_) (v := ?_) (by rfl) rfl ?_ ?_
      rotate_left 2
      · go_simp
        constructor
        · rfl
        · rfl
      have HNE := m0_ (show some w3.heap.size ≠ v16.ownBlock from fun e => Nat.lt_irrefl _ (own_lt HOW.out _ e.symm))
      have n9_ := m0_ (own_move HOW.out (fun k hk => (below_alloc (Below.refl _ _) (.cells #[.int .i64 a0, .int .i64 a1, .slice A2 l2.length c2] 27)).block k (own_lt HOW.out k hk)))
      clear HOW
      have HOW := n9_
      clear n9_
      have HLT := m0_ (show (w3.alloc (.cells #[.int .i64 a0, .int .i64 a1, .slice A2 l2.length c2] 27)).heap[w3.heap.size]? = _ from new_of BK1.out (.cells #[.int .i64 a0, .int .i64 a1, .slice A2 l2.length c2] 27))
      have n0_ := m0_ (show (w3.alloc (.cells #[.int .i64 a0, .int .i64 a1, .slice A2 l2.length c2] 27)).heap[gb1]? = _ from blk_alloc BK1.out (.cells #[.int .i64 a0, .int .i64 a1, .slice A2 l2.length c2] 27))
      have n1_ := m0_ (show Below w.heap.size w (w3.alloc (.cells #[.int .i64 a0, .int .i64 a1, .slice A2 l2.length c2] 27)) from below_alloc HB.out (.cells #[.int .i64 a0, .int .i64 a1, .slice A2 l2.length c2] 27))
      clear BK1 HB
      have BK1 := n0_
      have HB := n1_
      clear n0_ n1_
      refine hK.out _ _ ⟨(blk_cell BK1.out 0).trans rfl, (blk_cell BK1.out 1).trans rfl, (blk_cell BK1.out 2).trans rfl⟩ (fun hHeld => ?_)
      clear hK K
      refine norm_ (a' := ?_) ?_ ?_
      rotate_left
      · show Act.put _ (some 19) _ = _
        simp only [Act.put, List.setIfInBounds_toArray, List.set_cons_zero, List.set_cons_succ, i64_w, i32_w]
        rfl
      exact norm_ (by simp only [putAll, Act.put, List.setIfInBounds_toArray, List.set_cons_zero, List.set_cons_succ]) (hCont (v16, w3.heap.size) _ ⟨⟨(blk_cell BK1.out 0).trans rfl, (blk_cell BK1.out 1).trans rfl, (blk_cell BK1.out 2).trans rfl⟩, HOW, HLT, HNE, HB⟩)
    rintro ⟨v16, gl⟩ w4 ⟨hHeld, HOW, HLT, HNE, HB⟩
    clear BK1
    refine norm_ (a' := ?_) ?_ ?_
    rotate_left
    · simp only [putAll, Act.put, List.setIfInBounds_toArray, List.set_cons_zero, List.set_cons_succ]
      rfl
    refine last_ (i := 5) (N := some 20) #[true, true, true, true, true, true, false] rfl rfl (by kernel_rfl) (by decide) (fun K hK => ?_)
    refine goes_ Try.func106 (by kernel_rfl) rfl #[v16, .int .i64 (i : Int), .slice (some ⟨gl, 0, none⟩) 1 1] (by rfl) rfl rfl (by simp only [List.map_toArray, List.map_cons, List.map_nil]; rfl) ?_
    with_reducible refine (Insert_walk v16 l0.length i gl xs [.int .i64 a0, .int .i64 a1, .slice A2 l2.length c2] w.heap.size w _ HB.out HB.out.size HOW.out HIL.out HLEN.out HLT.out rfl HNE.out H1V.out HX4.out).mono ?_
    rintro e w5 ⟨v20, rfl, ho, hb⟩
    refine ⟨_, rfl, ?_⟩
    have HOZ := m0_ ho
    have HBZ := m0_ hb
    clear ho hb
    refine hK.out _ _ ?_
    clear hK K
    refine norm_ (a' := ?_) ?_ ?_
    rotate_left
    · show Act.put _ (some 20) _ = _
      simp only [Act.put, List.setIfInBounds_toArray, List.set_cons_zero, List.set_cons_succ, i64_w, i32_w]
      rfl
    refine pv_ 6 4 #[true, true, true, true, true, true, true] (by kernel_rfl) ?_
    refine done_ (by kernel_rfl) ?_

    go_wp2
    go_ret
    have hz := OwnRow.reads (R := k27.K w5) (e := 27) (size := 3) (w := w5) (base := w.heap.size) (v := v20) (ps := putIn l0 i ⟨a0, a1, l2⟩) ⟨_, (by rw [putIn_length]; exact HOZ.out), reps_in (HX5.out _ (HBZ.out)) (k27_mk w5 ⟨a0, a1, l2⟩ HC2.out (Kd.C_below HR2.out HBZ.out)) rfl HIL.out⟩
    obtain ⟨A, c, e, hl, hr⟩ := hz
    exact ⟨A, c, by rw [e]; rfl, hl, hr, HBZ.out⟩
end Go.Proofs.Ytiplpckgmikmeaa.M
namespace Go.Proofs.Ytiplpckgmikmeaa.M
open Go.RowKit Go.Proofs.YtiplpckgmikmeaaW.PrintWords Go.Proofs.YtiplpckgmikmeaaW.PrintLast Go.Proofs.YtiplpckgmikmeaaW.PrintMore
attribute [local go_sem] max2_int min2_int max_two min_two max_three min_three max_four min_four
set_option linter.unusedVariables false
set_option linter.unusedSimpArgs false

def impl_OccsPut.f (k : Nat) (l0 : List (S27)) (a1_0 : Int) (a1_1 : Int) (l1_2 : List Int) : Option (List (S27)) := (impl_OccsOk.f k l0).bind fun t => if t = true then (impl_OccOk.f k a1_0 a1_1 l1_2).bind fun u => (if u = true then (impl_put.f k l0 a1_0 a1_1 l1_2).bind fun m => impl_cloneOccs.f k m else some []) else some []
set_option maxHeartbeats 4000000 in
set_option maxRecDepth 100000 in
theorem impl_OccsPut.calls (k : Nat) (A0 : Option Addr) (c0 : Nat) (l0 : List (S27)) (a1_0 : Int) (a1_1 : Int) (A1_2 : Option Addr) (c1_2 : Nat) (l1_2 : List Int) (r : List (S27)) (w : World) (hr0 : Kd.C k27 w A0 l0.length l0) (hc0 : l0.length ≤ c0) (hr1_2 : Kd.C (Kd.int .i64) w A1_2 l1_2.length l1_2) (hc1_2 : l1_2.length ≤ c1_2) (h : impl_OccsPut.f k l0 a1_0 a1_1 l1_2 = some r) :
  Calls Try.prog 54 #[.slice A0 l0.length c0, .agg #[.int .i64 a1_0, .int .i64 a1_1, .slice A1_2 l1_2.length c1_2]] w fun e w' => ∃ v0_ : Value, e = .returned (v0_) ∧ Kd.S k27 27 w' w.heap.size (fun _ => True) v0_ r ∧ Below w.heap.size w w' := by
 unfold impl_OccsPut.f at h
 obtain ⟨t, ht, h⟩ := Option.bind_eq_some_iff.1 h
 have HT := m0_ ht
 have HH := m0_ h
 have HR0 := m0_ hr0
 have HC0 := m0_ hc0
 have HR1 := m0_ hr1_2
 have HC1 := m0_ hc1_2
 have HB := m0_ (Below.refl w.heap.size w)
 clear ht h hr0 hc0 hr1_2 hc1_2
 go_enter Try.func54, Try.ntmps54
 go_wp2_with (first | ((with_reducible refine gate_dst (N := 3) rfl ?_);refine box_event ?hg (N := 3) ?hd (cs := #[.int .i64 a1_0, .int .i64 a1_1, .slice A1_2 l1_2.length c1_2]) (t := 27) ?hr ?_;(case hd => rfl);(case hg => rfl);(case hr => first | (go_simp;done) | (go_simp;rfl));intro gb1 hg wb1 hbox hb;have BK1 := m0_ (hbox);have GE1 := m0_ ((by rw [hg];exact below_size HB.out : w.heap.size ≤ gb1));replace HB := m0_ (below_step HB.out hb);clear hb hbox hg) | (go_at_call 29;fail))
 refine (impl_OccsOk.calls k A0 c0 l0 t _ (Kd.C_below HR0.out HB.out) HC0.out HT.out).mono ?_
 rintro e w' ⟨rfl, hb⟩
 replace BK1 := m0_ (blk_below BK1.out hb)
 replace HB := m0_ (below_step HB.out hb)
 clear hb
 cases t with
 | false =>
  go_wp2
  go_ret
  obtain rfl := Option.some.inj HH.out
  exact ⟨_, rfl, Kd.S_nil _ _ _ _ _, HB.out⟩
 | true =>
  obtain ⟨u, hu, h⟩ := Option.bind_eq_some_iff.1 (show ((impl_OccOk.f k a1_0 a1_1 l1_2).bind fun u => (if u = true then (impl_put.f k l0 a1_0 a1_1 l1_2).bind fun m => impl_cloneOccs.f k m else some [])) = some r from by have := HH.out;rw [if_pos rfl] at this;exact this)
  have HU := m0_ hu
  clear HH
  have HH := m0_ h
  clear hu h
  have hz0 := (blk_cell BK1.out 0).trans (show _ = some (Value.int .i64 a1_0) from rfl)
  have hz1 := (blk_cell BK1.out 1).trans (show _ = some (Value.int .i64 a1_1) from rfl)
  have hz2 := (blk_cell BK1.out 2).trans (show _ = some (Value.slice A1_2 l1_2.length c1_2) from rfl)
  go_wp2_with (go_at_call 21;fail)
  clear hz0 hz1 hz2
  refine (impl_OccOk.calls k a1_0 a1_1 A1_2 c1_2 l1_2 u _ (Kd.C_below HR1.out HB.out) HC1.out HU.out).mono ?_
  rintro e w' ⟨rfl, hb⟩
  replace BK1 := m0_ (blk_below BK1.out hb)
  replace HB := m0_ (below_step HB.out hb)
  clear hb
  cases u with
  | false =>
   go_wp2
   go_ret
   obtain rfl := Option.some.inj HH.out
   exact ⟨_, rfl, Kd.S_nil _ _ _ _ _, HB.out⟩
  | true =>
   obtain ⟨m, hm, hp⟩ := Option.bind_eq_some_iff.1 (show ((impl_put.f k l0 a1_0 a1_1 l1_2).bind fun m => impl_cloneOccs.f k m) = some r from by have := HH.out;rw [if_pos rfl] at this;exact this)
   have HM := m0_ hm
   have HP := m0_ hp
   clear hm hp
   have hz0 := (blk_cell BK1.out 0).trans (show _ = some (Value.int .i64 a1_0) from rfl)
   have hz1 := (blk_cell BK1.out 1).trans (show _ = some (Value.int .i64 a1_1) from rfl)
   have hz2 := (blk_cell BK1.out 2).trans (show _ = some (Value.slice A1_2 l1_2.length c1_2) from rfl)
   go_wp2_with (go_at_call 85;fail)
   clear hz0 hz1 hz2
   refine (impl_put.calls k A0 c0 l0 a1_0 a1_1 A1_2 c1_2 l1_2 m _ (Kd.C_below HR0.out HB.out) HC0.out (Kd.C_below HR1.out HB.out) HC1.out HM.out).mono ?_
   rintro e w4 ⟨A4, c4, rfl, hl4, hr4, hb⟩
   have HL4 := m0_ hl4
   have HR4 := m0_ hr4
   have n0_ := m0_ (below_step HB.out hb)
   clear HB hl4 hr4 hb
   have HB := n0_
   clear n0_
   go_wp2_with (go_at_call 84;fail)
   refine (impl_cloneOccs.calls k A4 c4 m r _ HR4.out HL4.out HP.out).mono ?_
   rintro e w5 ⟨v5, rfl, hs, hb⟩
   have HS := m0_ (Kd.S_lower hs HB.out.size)
   have n0_ := m0_ (below_step HB.out hb)
   clear HB hs hb
   have HB := n0_
   clear n0_
   go_wp2
   go_ret
   exact ⟨_, rfl, HS.out, HB.out⟩

end Go.Proofs.Ytiplpckgmikmeaa.M
namespace Go.Proofs.Ytiplpckgmikmeaa.M
set_option linter.unusedVariables false
set_option linter.unusedSimpArgs false
open Go Go.RowKit Go.Proofs.YtiplpckgmikmeaaW.PrintWords Go.Proofs.YtiplpckgmikmeaaW.PrintLast Go.Proofs.YtiplpckgmikmeaaW.PrintMore

theorem S_inner {α : Type} {d : Kd α} {e base : Nat} {W W' : World} {ok oki : Nat → Prop} {v : Value} {xs : List α} {i : Int} {c : List Value} {x' : α} (HH : Kd.H d e W base ok v xs i oki c) (hk : Kept W W' oki) (hM : d.M W' base (fun k => oki k ∨ W.heap.size ≤ k) x' c) (hnew : ∀ k, W.heap.size ≤ k → ok k) : Kd.S d e W' base ok v (xs.set i.toNat x') :=
  Kd.H_back (Kd.H_kept (Kd.H_widen HH) hk (fun _ _ hn h => hn (.inl h))) hM (fun k h => h.elim .inl (fun h => .inr ⟨hnew k h, h⟩))
theorem getD_set {α : Type} (xs : List α) (n : Nat) (x z : α) (h : n < xs.length) : (xs.set n x).getD n z = x := by
  rw [List.getD_eq_getElem?_getD, List.getElem?_set_self h]; rfl
end Go.Proofs.Ytiplpckgmikmeaa.M
namespace Go.Proofs.Ytiplpckgmikmeaa.M
open Go.RowKit Go.Proofs.YtiplpckgmikmeaaW.PrintWords Go.Proofs.YtiplpckgmikmeaaW.PrintLast Go.Proofs.YtiplpckgmikmeaaW.PrintMore
attribute [local go_sem] max2_int min2_int max_two min_two max_three min_three max_four min_four
set_option linter.unusedVariables false
set_option linter.unusedSimpArgs false

def laws_markOccS.l0 : Nat → List S27 → Int → Int → Option (Int × List S27)
| 0, _, _, _ => none
| k + 1, x0, x1, x5 => if x5 < (x0.length : Int) then (if 0 ≤ x5 then ((laws_markIntS.f k (rd_T27 x0 x5).f2 (wrap64 (wrap64 (x1 + 1) + 1))).bind fun t => laws_markOccS.l0 k (x0.set x5.toNat ⟨x1, wrap64 (x1 + 1), t.2⟩) t.1 (wrap64 (x5 + 1))) else none) else some (x1, x0)
def laws_markOccS.f (k : Nat) (l0 : List S27) (a1 : Int) : Option (Int × List S27) := laws_markOccS.l0 k l0 a1 0
set_option maxHeartbeats 4000000 in
set_option maxRecDepth 100000 in
theorem laws_markOccS.calls (k : Nat) (P0_ : Nat → Prop) (u9000_ : Value) (l0 : List S27) (a1 : Int) (r1 : Int) (r2 : List S27) (w0 w : World) (hB : Below w0.heap.size w0 w) (ho0 : Kd.S k27 27 w w0.heap.size P0_ u9000_ l0) (h : laws_markOccS.f k l0 a1 = some (r1, r2)) :
  Calls Try.prog 55 #[u9000_, .int .i64 a1] w fun e w' => e = .returned (.int .i64 r1) ∧ Kd.S k27 27 w' w0.heap.size (fun k_ => (P0_ k_ ∨ w.heap.size ≤ k_)) u9000_ r2 ∧ Below w0.heap.size w0 w' ∧ Kept w w' (fun k_ => P0_ k_) := by
 have HO0 := m0_ (show Kd.S k27 27 w w0.heap.size (fun k_ => (P0_ k_ ∨ w.heap.size ≤ k_)) u9000_ l0 from Kd.S_mono ho0 (fun k_ hk => .inl hk))
 have HK0 := m0_ (Kept.refl w (fun k_ => P0_ k_))
 have HB0 := m0_ hB
 have hu27 := Try.underlying27
 have HH0 := m0_ (show laws_markOccS.l0 k l0 a1 0 = some (r1, r2) from h)
 clear hB ho0 h
 go_enter Try.func55, Try.ntmps55
 go_wp2
 go_loopg [1, 5] k (fun kq v1 v5 w' => ∃ (x0 : List S27) (x1 : Int) (x5 : Int), v1 = .int .i64 x1 ∧ v5 = .int .i64 x5 ∧ Aside0 (laws_markOccS.l0 kq x0 x1 x5 = some (r1, r2)) ∧ Aside0 (kq ≤ k) ∧ Aside0 (Kd.S k27 27 w' w0.heap.size (fun k_ => (P0_ k_ ∨ w.heap.size ≤ k_)) u9000_ x0) ∧ Aside0 (Kept w w' (fun k_ => P0_ k_)) ∧ Aside0 (Below w0.heap.size w0 w'))
 case atStart => exact ⟨l0, a1, 0, rfl, rfl, HH0, ⟨Nat.le_refl _⟩, HO0, HK0, HB0⟩
 case round =>
  clear HO0 HK0 HB0 HH0
  obtain ⟨x0, x1, x5, rfl, rfl, HA, HK1, HO, HK, HB⟩ := hrel
  cases gk with
  | zero => exact absurd HA.out (by simp [laws_markOccS.l0])
  | succ k1 =>
   have H := HA.out
   clear HA
   simp only [laws_markOccS.l0] at H
   by_cases c1 : x5 < (x0.length : Int)
   rotate_left
   ·rw [if_neg c1] at H
    obtain ⟨rfl, rfl⟩ := Prod.mk.inj (Option.some.inj H)
    have c1b : decide (x5 < (x0.length : Int)) = false := decide_eq_false c1
    obtain ⟨Ao, co, eo⟩ := Kd.S_slice HO.out
    subst eo
    go_wp2
    go_ret
    exact ⟨rfl, HO.out, HB.out, HK.out⟩
   rw [if_pos c1] at H
   by_cases c2 : 0 ≤ x5
   rotate_left
   ·rw [if_neg c2] at H
    cases H
   rw [if_pos c2] at H
   obtain ⟨⟨t1, t2⟩, ht, H⟩ := Option.bind_eq_some_iff.1 H
   have HT := m0_ ht
   have HN := m0_ H
   clear ht H
   have hlen : x5.toNat < x0.length := by omega
   obtain ⟨go, co, eo, gb, gl, cl, hg⟩ := Kd.S_form HO.out (by omega)
   subst eo
   have GB := m0_ gb
   have HMg := m0_ ((Kd.S_R HO.out).1 go rfl)
   clear gb gl hg
   obtain ⟨oki, c, hcl, hM, hcc, hoki, hH⟩ := Kd.S_lend HO.out z27 x5 c2 c1
   obtain ⟨v2, rfl, hv2⟩ := k27_openM hM
   have HH := m0_ hH
   have HV := m0_ hv2
   have HI := m0_ hoki
   clear hcl hM hcc hoki hH hv2 HO
   have c1b : decide (x5 < (x0.length : Int)) = true := decide_eq_true c1
   have p5 := eq_true c2
   have q5 := eq_true c1
   go_wp2_with (first | ((with_reducible refine gate_store (t := 3) (p := 16) rfl ?_);refine Kd.H_store k27 w0.heap.size rfl rfl 3 (.tmp 16) (.tmp 14) rfl 27 x5 0 x0 (⟨x1, (x0.getD x5.toNat z27).f1, (x0.getD x5.toNat z27).f2⟩ : S27) (.int .i64 x1) [.int .i64 x1] _ _ oki oki rfl ?hoff rfl rfl ?hti ?hone HH.out c2 c1 ?hj ?hM (fun _ h => h) HB.out ?_;(case hoff => rfl);(case hti => rfl);(case hone => (intro q hq;rw [List.mem_singleton.1 hq];rfl));(case hj => exact Nat.le_of_ble_eq_true rfl);(case hM => exact k27_mkM _ _ _ (⟨x1, (x0.getD x5.toNat z27).f1, (x0.getD x5.toNat z27).f2⟩ : S27) HV.out);intro w8 hs hb hg;have n1_ := m0_ hb;have n2_ := m0_ (Kept.of_grown (S := (fun k_ => P0_ k_)) hg HK.out (fun k_ e_ => (by injection e_ with e_;rw [← e_];exact HMg.out)));clear HB HK HH HV HI hb hg oki;have HB := n1_;have HK := n2_;clear n1_ n2_;obtain ⟨oki, cc, hcl, hM, hcc, hoki, hH⟩ := Kd.S_lend hs z27 x5 c2 c1;rw [getD_set _ _ _ _ (by first | exact hlen | (rw [List.length_set];exact hlen))] at hM;obtain ⟨v2, rfl, hv2⟩ := k27_openM hM;have HH := m0_ hH;have HV := m0_ hv2;have HI := m0_ hoki;clear hcl hM hcc hoki hH hv2 hs) | ((with_reducible refine gate_store (t := 3) (p := 23) rfl ?_);refine Kd.H_store k27 w0.heap.size rfl rfl 3 (.tmp 23) (.tmp 21) rfl 27 x5 1 (x0.set x5.toNat (⟨x1, (x0.getD x5.toNat z27).f1, (x0.getD x5.toNat z27).f2⟩ : S27)) (⟨x1, wrap64 (x1 + 1), (x0.getD x5.toNat z27).f2⟩ : S27) (.int .i64 (wrap64 (x1 + 1))) [.int .i64 (wrap64 (x1 + 1))] _ _ oki oki rfl ?hoff rfl rfl ?hti ?hone HH.out c2 c1 ?hj ?hM (fun _ h => h) HB.out ?_;(case hoff => rfl);(case hti => rfl);(case hone => (intro q hq;rw [List.mem_singleton.1 hq];rfl));(case hj => exact Nat.le_of_ble_eq_true rfl);(case hM => exact k27_mkM _ _ _ (⟨x1, wrap64 (x1 + 1), (x0.getD x5.toNat z27).f2⟩ : S27) HV.out);intro w8 hs hb hg;have n1_ := m0_ hb;have n2_ := m0_ (Kept.of_grown (S := (fun k_ => P0_ k_)) hg HK.out (fun k_ e_ => (by injection e_ with e_;rw [← e_];exact HMg.out)));clear HB HK HH HV HI hb hg oki;have HB := n1_;have HK := n2_;clear n1_ n2_;rw [List.set_set] at hs;obtain ⟨oki, cc, hcl, hM, hcc, hoki, hH⟩ := Kd.S_lend hs z27 x5 c2 c1;rw [getD_set _ _ _ _ (by first | exact hlen | (rw [List.length_set];exact hlen))] at hM;obtain ⟨v2, rfl, hv2⟩ := k27_openM hM;have HH := m0_ hH;have HV := m0_ hv2;have HI := m0_ hoki;have hcell : w8.cell? ⟨go, x5.toNat * 3 + 2, none⟩ = some v2 := hcc 2 _ rfl;clear hcl hM hcc hoki hH hv2 hs) | (go_at_call 80;fail))
   refine (laws_markIntS.calls k1 oki v2 _ _ t1 t2 w0 _ HB.out HV.out HT.out).mono ?_
   rintro e w10 ⟨rfl, hr, hb, hk⟩
   have hs := S_inner HH.out hk (k27_mkM _ _ _ (⟨x1, wrap64 (x1 + 1), t2⟩ : S27) hr) (fun k_ h_ => .inr (Nat.le_trans HK.out.1 h_))
   rw [List.set_set] at hs
   have HO2 := m0_ hs
   have HB2 := m0_ hb
   have HK2 := m0_ (HK.out.then_ hk (fun k_ h_ => (HI.out k_ h_).1))
   clear hs hr hb hk HH HV HI HB HK
   go_wp2
   go_roundg k1
   case measure => have := HK1.out;omega
   case rel => exact ⟨_, _, _, rfl, rfl, HN, ⟨by have := HK1.out;omega⟩, HO2, HK2, HB2⟩

def laws_heldIntS.l0 : Nat → List Int → Int → Int → Option (Int)
 | 0, _, _, _ => none
 | k + 1, x0, x1, x5 => if x5 < (x0.length : Int) then (if 0 ≤ x5 then (if (rd x0 x5) = x1 then (laws_heldIntS.l0 k x0 (wrap64 (x1 + 1)) (wrap64 (x5 + 1))) else (some (-1))) else (none)) else (some x1)
def laws_heldIntS.f (k : Nat) (l0 : List Int) (a1 : Int) : Option (Int) := laws_heldIntS.l0 k l0 a1 0
set_option maxHeartbeats 8000000 in
set_option maxRecDepth 100000 in
theorem laws_heldIntS.calls (k : Nat) (A0 : Option Addr) (c0 : Nat) (l0 : List Int) (a1 : Int) (r : Int) (w : World) (hr0 : Kd.C (Kd.int .i64) w A0 l0.length l0) (hc0 : l0.length ≤ c0) (h : laws_heldIntS.f k l0 a1 = some r) :
  Calls Try.prog 81 #[.slice A0 l0.length c0, .int .i64 a1] w fun e w' => e = .returned (.int .i64 r) ∧ Drawn0 w w' := by
 have HR0 := m0_ hr0
 have HC0 := m0_ hc0
 clear hr0 hc0
 have H : (laws_heldIntS.l0 k l0 a1 0) = some r := h
 clear h
 have H' := m0_ H
 clear H
 go_enter Try.func81, Try.ntmps81
 go_wp2
 go_loopg [1, 5] k (fun kq v1 v5 w' => ∃ (x1_1 : Int) (x5_1 : Int), v1 = .int .i64 x1_1 ∧ v5 = .int .i64 x5_1 ∧ Aside0 (laws_heldIntS.l0 kq l0 x1_1 x5_1 = some r) ∧ Aside0 (kq ≤ k) ∧ Drawn0 w w')
 case atStart => exact ⟨(a1), (0), (by first | rfl | (simp;done) | (simp [*];done)), (by first | rfl | (simp;done) | (simp [*];done)), H', ⟨Nat.le_refl _⟩, by repeat (first | exact Drawn0.refl _ | apply Drawn0.step)⟩
 case round =>
  clear H'
  try clear p2
  obtain ⟨x1_1, x5_1, rfl, rfl, HA, HK1, ⟨m1, rfl⟩⟩ := hrel
  cases gk with
  | zero => exact absurd HA.out (by simp [laws_heldIntS.l0])
  | succ k1 =>
   have H := HA.out
   clear HA
   simp only [laws_heldIntS.l0] at H
   by_cases c3 : x5_1 < (l0.length : Int)
   rotate_left
   ·rw [if_neg c3] at H
    have c3b0 : decide (x5_1 < (l0.length : Int)) = false := decide_eq_false c3
    clear c3
    obtain rfl := Option.some.inj H
    go_wp2
    go_ret
    exact ⟨by first | rfl | (simp;done) | (simp [*];done), by repeat (first | exact Drawn0.refl _ | apply Drawn0.step)⟩
   rw [if_pos c3] at H
   have c3b0 : decide (x5_1 < (l0.length : Int)) = true := decide_eq_true c3
   clear c3
   by_cases c4 : 0 ≤ x5_1
   rotate_left
   ·rw [if_neg c4] at H
    exact absurd H (by simp)
   rw [if_pos c4] at H
   have c4b0 : decide (0 ≤ x5_1) = true := decide_eq_true c4
   clear c4
   by_cases c5 : (rd l0 x5_1) = x1_1
   rotate_left
   ·rw [if_neg c5] at H
    have c5b0 : ((rd l0 x5_1) == x1_1) = false := beq_eq_false_iff_ne.mpr c5
    have c5b1 : ((rd l0 x5_1) != x1_1) = true := bne_iff_ne.mpr c5
    obtain rfl := Option.some.inj H
    have p101 : 0 ≤ (x5_1 : Int) := of_decide_eq_true (by first | (with_reducible assumption) | assumption)
    have q101 : x5_1 < (l0.length : Int) := of_decide_eq_true (by first | (with_reducible assumption) | assumption)
    obtain ⟨ad101, e101, hx101_0⟩ := Kd.at_int HR0.out x5_1 p101 q101
    cases e101
    replace p101 := eq_true p101
    replace q101 := eq_true q101
    go_wp2
    go_ret
    exact ⟨by first | rfl | (simp;done) | (simp [*];done), by repeat (first | exact Drawn0.refl _ | apply Drawn0.step)⟩
   rw [if_pos c5] at H
   have c5b0 : ((rd l0 x5_1) == x1_1) = true := beq_iff_eq.mpr c5
   have c5b1 : ((rd l0 x5_1) != x1_1) = false := bne_eq_false_iff_eq.mpr c5
   clear c5
   have H' := m0_ H
   clear H
   have p101 : 0 ≤ (x5_1 : Int) := of_decide_eq_true (by first | (with_reducible assumption) | assumption)
   have q101 : x5_1 < (l0.length : Int) := of_decide_eq_true (by first | (with_reducible assumption) | assumption)
   obtain ⟨ad101, e101, hx101_0⟩ := Kd.at_int HR0.out x5_1 p101 q101
   cases e101
   replace p101 := eq_true p101
   replace q101 := eq_true q101
   go_wp2
   go_roundg k1
   case measure => have := HK1.out;omega
   case rel => exact ⟨(wrap64 (x1_1 + 1)), (wrap64 (x5_1 + 1)), (by first | rfl | (simp;done) | (simp [*];done)), (by first | rfl | (simp;done) | (simp [*];done)), H', ⟨by have := HK1.out;omega⟩, by repeat (first | exact Drawn0.refl _ | apply Drawn0.step)⟩

def laws_heldOccS.l0 : Nat → List (S27) → Int → Int → Option (Int)
 | 0, _, _, _ => none
 | k + 1, x0, x1, x5 => if x5 < (x0.length : Int) then (if 0 ≤ x5 then (if ((rd_T27 x0 x5).f0) = x1 then (if ((rd_T27 x0 x5).f1) = (wrap64 (x1 + 1)) then ((laws_heldIntS.f k ((rd_T27 x0 x5).f2) (wrap64 ((wrap64 (x1 + 1)) + 1))).bind fun t104 => (if t104 < 0 then (some (-1)) else (laws_heldOccS.l0 k x0 t104 (wrap64 (x5 + 1))))) else (some (-1))) else (some (-1))) else (none)) else (some x1)
def laws_heldOccS.f (k : Nat) (l0 : List (S27)) (a1 : Int) : Option (Int) := laws_heldOccS.l0 k l0 a1 0
set_option maxHeartbeats 8000000 in
set_option maxRecDepth 100000 in
theorem laws_heldOccS.calls (k : Nat) (A0 : Option Addr) (c0 : Nat) (l0 : List (S27)) (a1 : Int) (r : Int) (w : World) (hr0 : Kd.C k27 w A0 l0.length l0) (hc0 : l0.length ≤ c0) (h : laws_heldOccS.f k l0 a1 = some r) :
  Calls Try.prog 56 #[.slice A0 l0.length c0, .int .i64 a1] w fun e w' => e = .returned (.int .i64 r) ∧ Drawn0 w w' := by
 have HR0 := m0_ hr0
 have HC0 := m0_ hc0
 clear hr0 hc0
 have H : (laws_heldOccS.l0 k l0 a1 0) = some r := h
 clear h
 have H' := m0_ H
 clear H
 go_enter Try.func56, Try.ntmps56
 go_wp2
 go_loopg [1, 5] k (fun kq v1 v5 w' => ∃ (x1_1 : Int) (x5_1 : Int), v1 = .int .i64 x1_1 ∧ v5 = .int .i64 x5_1 ∧ Aside0 (laws_heldOccS.l0 kq l0 x1_1 x5_1 = some r) ∧ Aside0 (kq ≤ k) ∧ Drawn0 w w')
 case atStart => exact ⟨(a1), (0), (by first | rfl | (simp;done) | (simp [*];done)), (by first | rfl | (simp;done) | (simp [*];done)), H', ⟨Nat.le_refl _⟩, by repeat (first | exact Drawn0.refl _ | apply Drawn0.step)⟩
 case round =>
  clear H'
  try clear p2
  obtain ⟨x1_1, x5_1, rfl, rfl, HA, HK1, ⟨m1, rfl⟩⟩ := hrel
  cases gk with
  | zero => exact absurd HA.out (by simp [laws_heldOccS.l0])
  | succ k1 =>
   have H := HA.out
   clear HA
   simp only [laws_heldOccS.l0] at H
   by_cases c3 : x5_1 < (l0.length : Int)
   rotate_left
   ·rw [if_neg c3] at H
    have c3b0 : decide (x5_1 < (l0.length : Int)) = false := decide_eq_false c3
    clear c3
    obtain rfl := Option.some.inj H
    go_wp2
    go_ret
    exact ⟨by first | rfl | (simp;done) | (simp [*];done), by repeat (first | exact Drawn0.refl _ | apply Drawn0.step)⟩
   rw [if_pos c3] at H
   have c3b0 : decide (x5_1 < (l0.length : Int)) = true := decide_eq_true c3
   clear c3
   by_cases c4 : 0 ≤ x5_1
   rotate_left
   ·rw [if_neg c4] at H
    exact absurd H (by simp)
   rw [if_pos c4] at H
   have c4b0 : decide (0 ≤ x5_1) = true := decide_eq_true c4
   clear c4
   by_cases c5 : ((rd_T27 l0 x5_1).f0) = x1_1
   rotate_left
   ·rw [if_neg c5] at H
    have c5b0 : (((rd_T27 l0 x5_1).f0) == x1_1) = false := beq_eq_false_iff_ne.mpr c5
    have c5b1 : (((rd_T27 l0 x5_1).f0) != x1_1) = true := bne_iff_ne.mpr c5
    obtain rfl := Option.some.inj H
    have p101 : 0 ≤ (x5_1 : Int) := of_decide_eq_true (by first | (with_reducible assumption) | assumption)
    have q101 : x5_1 < (l0.length : Int) := of_decide_eq_true (by first | (with_reducible assumption) | assumption)
    obtain ⟨ad101, A101_2, c101_2, e101, hx101_0, hx101_1, hx101_2, hl101_2, hi101_2⟩ := at_T27 HR0.out x5_1 p101 q101
    cases e101
    have HR101_2 := m0_ hi101_2
    have HC101_2 := m0_ hl101_2
    clear hi101_2 hl101_2
    replace p101 := eq_true p101
    replace q101 := eq_true q101
    go_wp2
    go_ret
    exact ⟨by first | rfl | (simp;done) | (simp [*];done), by repeat (first | exact Drawn0.refl _ | apply Drawn0.step)⟩
   rw [if_pos c5] at H
   have c5b0 : (((rd_T27 l0 x5_1).f0) == x1_1) = true := beq_iff_eq.mpr c5
   have c5b1 : (((rd_T27 l0 x5_1).f0) != x1_1) = false := bne_eq_false_iff_eq.mpr c5
   clear c5
   by_cases c6 : ((rd_T27 l0 x5_1).f1) = (wrap64 (x1_1 + 1))
   rotate_left
   ·rw [if_neg c6] at H
    have c6b0 : (((rd_T27 l0 x5_1).f1) == (wrap64 (x1_1 + 1))) = false := beq_eq_false_iff_ne.mpr c6
    have c6b1 : (((rd_T27 l0 x5_1).f1) != (wrap64 (x1_1 + 1))) = true := bne_iff_ne.mpr c6
    obtain rfl := Option.some.inj H
    have p101 : 0 ≤ (x5_1 : Int) := of_decide_eq_true (by first | (with_reducible assumption) | assumption)
    have q101 : x5_1 < (l0.length : Int) := of_decide_eq_true (by first | (with_reducible assumption) | assumption)
    obtain ⟨ad101, A101_2, c101_2, e101, hx101_0, hx101_1, hx101_2, hl101_2, hi101_2⟩ := at_T27 HR0.out x5_1 p101 q101
    cases e101
    have HR101_2 := m0_ hi101_2
    have HC101_2 := m0_ hl101_2
    clear hi101_2 hl101_2
    replace p101 := eq_true p101
    replace q101 := eq_true q101
    have p102 : 0 ≤ (x5_1 : Int) := of_decide_eq_true (by first | (with_reducible assumption) | assumption)
    have q102 : x5_1 < (l0.length : Int) := of_decide_eq_true (by first | (with_reducible assumption) | assumption)
    obtain ⟨ad102, A102_2, c102_2, e102, hx102_0, hx102_1, hx102_2, hl102_2, hi102_2⟩ := at_T27 HR0.out x5_1 p102 q102
    obtain rfl : ad101 = ad102 := (by injection e102)
    have HR102_2 := m0_ hi102_2
    have HC102_2 := m0_ hl102_2
    clear hi102_2 hl102_2
    replace p102 := eq_true p102
    replace q102 := eq_true q102
    have ea_ := Option.some.inj (hx101_2.symm.trans hx102_2)
    injection ea_ with ea_ en_ ec_
    subst ea_
    subst ec_
    clear en_
    go_wp2
    go_ret
    exact ⟨by first | rfl | (simp;done) | (simp [*];done), by repeat (first | exact Drawn0.refl _ | apply Drawn0.step)⟩
   rw [if_pos c6] at H
   have c6b0 : (((rd_T27 l0 x5_1).f1) == (wrap64 (x1_1 + 1))) = true := beq_iff_eq.mpr c6
   have c6b1 : (((rd_T27 l0 x5_1).f1) != (wrap64 (x1_1 + 1))) = false := bne_eq_false_iff_eq.mpr c6
   clear c6
   replace H := Option.bind_eq_some_iff.mp H
   obtain ⟨t104, A70, H⟩ := H
   replace H : (if t104 < 0 then (some (-1)) else (laws_heldOccS.l0 k1 l0 t104 (wrap64 (x5_1 + 1)))) = some r := H
   have A7 := m0_ A70
   clear A70
   by_cases c8 : t104 < 0
   ·rw [if_pos c8] at H
    have c8b0 : decide (t104 < 0) = true := decide_eq_true c8
    clear c8
    obtain rfl := Option.some.inj H
    have p101 : 0 ≤ (x5_1 : Int) := of_decide_eq_true (by first | (with_reducible assumption) | assumption)
    have q101 : x5_1 < (l0.length : Int) := of_decide_eq_true (by first | (with_reducible assumption) | assumption)
    obtain ⟨ad101, A101_2, c101_2, e101, hx101_0, hx101_1, hx101_2, hl101_2, hi101_2⟩ := at_T27 HR0.out x5_1 p101 q101
    cases e101
    have HR101_2 := m0_ hi101_2
    have HC101_2 := m0_ hl101_2
    clear hi101_2 hl101_2
    replace p101 := eq_true p101
    replace q101 := eq_true q101
    have p102 : 0 ≤ (x5_1 : Int) := of_decide_eq_true (by first | (with_reducible assumption) | assumption)
    have q102 : x5_1 < (l0.length : Int) := of_decide_eq_true (by first | (with_reducible assumption) | assumption)
    obtain ⟨ad102, A102_2, c102_2, e102, hx102_0, hx102_1, hx102_2, hl102_2, hi102_2⟩ := at_T27 HR0.out x5_1 p102 q102
    obtain rfl : ad101 = ad102 := (by injection e102)
    have HR102_2 := m0_ hi102_2
    have HC102_2 := m0_ hl102_2
    clear hi102_2 hl102_2
    replace p102 := eq_true p102
    replace q102 := eq_true q102
    have ea_ := Option.some.inj (hx101_2.symm.trans hx102_2)
    injection ea_ with ea_ en_ ec_
    subst ea_
    subst ec_
    clear en_
    have p103 : 0 ≤ (x5_1 : Int) := of_decide_eq_true (by first | (with_reducible assumption) | assumption)
    have q103 : x5_1 < (l0.length : Int) := of_decide_eq_true (by first | (with_reducible assumption) | assumption)
    obtain ⟨ad103, A103_2, c103_2, e103, hx103_0, hx103_1, hx103_2, hl103_2, hi103_2⟩ := at_T27 HR0.out x5_1 p103 q103
    obtain rfl : ad101 = ad103 := (by injection e103)
    have HR103_2 := m0_ hi103_2
    have HC103_2 := m0_ hl103_2
    clear hi103_2 hl103_2
    replace p103 := eq_true p103
    replace q103 := eq_true q103
    have ea_ := Option.some.inj (hx101_2.symm.trans hx103_2)
    injection ea_ with ea_ en_ ec_
    subst ea_
    subst ec_
    clear en_
    go_wp2_with (first | ((with_reducible refine gate_callee (f := 81) rfl ?_);refine goesL_ (some 36) rfl rfl Try.func81 (by kernel_rfl) rfl #[.slice A101_2 ((rd_T27 l0 x5_1).f2).length c101_2, .int .i64 (wrap64 ((wrap64 (x1_1 + 1)) + 1))] rfl (by (try simp only [List.map_toArray, List.map_cons, List.map_nil]);first | done | rfl | (simp only [List.length_drop, List.length_take];rfl) | (rw [Option.some.inj (hw101_2.symm.trans hw102_2)];rfl) | (rw [Option.some.inj (hx101_2.symm.trans hx102_2)];rfl) | (rw [Option.some.inj (hw101_2.symm.trans hw103_2)];rfl) | (rw [Option.some.inj (hx101_2.symm.trans hx103_2)];rfl) | (rw [Option.some.inj (hw102_2.symm.trans hw103_2)];rfl) | (rw [Option.some.inj (hx102_2.symm.trans hx103_2)];rfl) | (rw [Option.some.inj (hw102_2.symm.trans hw101_2)];rfl) | (rw [Option.some.inj (hx102_2.symm.trans hx101_2)];rfl) | (rw [Option.some.inj (hw103_2.symm.trans hw101_2)];rfl) | (rw [Option.some.inj (hx103_2.symm.trans hx101_2)];rfl) | (rw [Option.some.inj (hw103_2.symm.trans hw102_2)];rfl) | (rw [Option.some.inj (hx103_2.symm.trans hx102_2)];rfl)) ?_;(with_reducible refine (laws_heldIntS.calls k1 _ _ ((rd_T27 l0 x5_1).f2) (wrap64 ((wrap64 (x1_1 + 1)) + 1)) t104 _ ?side1 ?side2 A7.out).mono ?_);(case side1 => repeat (first | exact HR103_2.out | (with_reducible refine Kd.C_alloc ?_ _) | (with_reducible refine Kd.C_drewN ?_ _) | (with_reducible refine Kd.C_drew ?_)));(case side2 => exact HC103_2.out);rintro e w' ⟨rfl, ⟨nd, rfl⟩⟩;refine ⟨_, rfl, ?_⟩))
    go_ret
    exact ⟨by first | rfl | (simp;done) | (simp [*];done), by repeat (first | exact Drawn0.refl _ | apply Drawn0.step)⟩
   rw [if_neg c8] at H
   have c8b0 : decide (t104 < 0) = false := decide_eq_false c8
   clear c8
   have H' := m0_ H
   clear H
   have p101 : 0 ≤ (x5_1 : Int) := of_decide_eq_true (by first | (with_reducible assumption) | assumption)
   have q101 : x5_1 < (l0.length : Int) := of_decide_eq_true (by first | (with_reducible assumption) | assumption)
   obtain ⟨ad101, A101_2, c101_2, e101, hx101_0, hx101_1, hx101_2, hl101_2, hi101_2⟩ := at_T27 HR0.out x5_1 p101 q101
   cases e101
   have HR101_2 := m0_ hi101_2
   have HC101_2 := m0_ hl101_2
   clear hi101_2 hl101_2
   replace p101 := eq_true p101
   replace q101 := eq_true q101
   have p102 : 0 ≤ (x5_1 : Int) := of_decide_eq_true (by first | (with_reducible assumption) | assumption)
   have q102 : x5_1 < (l0.length : Int) := of_decide_eq_true (by first | (with_reducible assumption) | assumption)
   obtain ⟨ad102, A102_2, c102_2, e102, hx102_0, hx102_1, hx102_2, hl102_2, hi102_2⟩ := at_T27 HR0.out x5_1 p102 q102
   obtain rfl : ad101 = ad102 := (by injection e102)
   have HR102_2 := m0_ hi102_2
   have HC102_2 := m0_ hl102_2
   clear hi102_2 hl102_2
   replace p102 := eq_true p102
   replace q102 := eq_true q102
   have ea_ := Option.some.inj (hx101_2.symm.trans hx102_2)
   injection ea_ with ea_ en_ ec_
   subst ea_
   subst ec_
   clear en_
   have p103 : 0 ≤ (x5_1 : Int) := of_decide_eq_true (by first | (with_reducible assumption) | assumption)
   have q103 : x5_1 < (l0.length : Int) := of_decide_eq_true (by first | (with_reducible assumption) | assumption)
   obtain ⟨ad103, A103_2, c103_2, e103, hx103_0, hx103_1, hx103_2, hl103_2, hi103_2⟩ := at_T27 HR0.out x5_1 p103 q103
   obtain rfl : ad101 = ad103 := (by injection e103)
   have HR103_2 := m0_ hi103_2
   have HC103_2 := m0_ hl103_2
   clear hi103_2 hl103_2
   replace p103 := eq_true p103
   replace q103 := eq_true q103
   have ea_ := Option.some.inj (hx101_2.symm.trans hx103_2)
   injection ea_ with ea_ en_ ec_
   subst ea_
   subst ec_
   clear en_
   go_wp2_with (first | ((with_reducible refine gate_callee (f := 81) rfl ?_);refine goesL_ (some 36) rfl rfl Try.func81 (by kernel_rfl) rfl #[.slice A101_2 ((rd_T27 l0 x5_1).f2).length c101_2, .int .i64 (wrap64 ((wrap64 (x1_1 + 1)) + 1))] rfl (by (try simp only [List.map_toArray, List.map_cons, List.map_nil]);first | done | rfl | (simp only [List.length_drop, List.length_take];rfl) | (rw [Option.some.inj (hw101_2.symm.trans hw102_2)];rfl) | (rw [Option.some.inj (hx101_2.symm.trans hx102_2)];rfl) | (rw [Option.some.inj (hw101_2.symm.trans hw103_2)];rfl) | (rw [Option.some.inj (hx101_2.symm.trans hx103_2)];rfl) | (rw [Option.some.inj (hw102_2.symm.trans hw103_2)];rfl) | (rw [Option.some.inj (hx102_2.symm.trans hx103_2)];rfl) | (rw [Option.some.inj (hw102_2.symm.trans hw101_2)];rfl) | (rw [Option.some.inj (hx102_2.symm.trans hx101_2)];rfl) | (rw [Option.some.inj (hw103_2.symm.trans hw101_2)];rfl) | (rw [Option.some.inj (hx103_2.symm.trans hx101_2)];rfl) | (rw [Option.some.inj (hw103_2.symm.trans hw102_2)];rfl) | (rw [Option.some.inj (hx103_2.symm.trans hx102_2)];rfl)) ?_;(with_reducible refine (laws_heldIntS.calls k1 _ _ ((rd_T27 l0 x5_1).f2) (wrap64 ((wrap64 (x1_1 + 1)) + 1)) t104 _ ?side1 ?side2 A7.out).mono ?_);(case side1 => repeat (first | exact HR103_2.out | (with_reducible refine Kd.C_alloc ?_ _) | (with_reducible refine Kd.C_drewN ?_ _) | (with_reducible refine Kd.C_drew ?_)));(case side2 => exact HC103_2.out);rintro e w' ⟨rfl, ⟨nd, rfl⟩⟩;refine ⟨_, rfl, ?_⟩))
   go_roundg k1
   case measure => have := HK1.out;omega
   case rel => exact ⟨(t104), (wrap64 (x5_1 + 1)), (by first | rfl | (simp;done) | (simp [*];done)), (by first | rfl | (simp;done) | (simp [*];done)), H', ⟨by have := HK1.out;omega⟩, by repeat (first | exact Drawn0.refl _ | apply Drawn0.step)⟩

def laws_FnExactOccsPut.f (k : Nat) (l0 : List S24) (b0 b1 : Int) (l1 : List Int) : Option Bool := (laws_szOccS.f k l0 1048576).bind fun t => if t < 0 then some true else (laws_szOcc.f b0 b1 l1 t).bind fun u => if u < 0 then some true else
 (laws_toOccS.f k l0).bind fun a => (laws_toOcc.f k b0 b1 l1).bind fun o => (spec_OccsPut.f k a o.1 o.2.1 o.2.2).bind fun v => (impl_OccsPut.f k a o.1 o.2.1 o.2.2).bind fun g => (laws_eqOccS.f k g v).bind fun e1 => (laws_eqOccS.f k a a).bind fun e2 => (laws_eqOcc.f k o.1 o.2.1 o.2.2 o.1 o.2.1 o.2.2).bind fun e3 =>
 (laws_markOccS.f k a 1).bind fun m1 => (laws_markOcc.f k o.1 o.2.1 o.2.2 m1.1).bind fun m2 => (laws_markOccS.f k g 1).bind fun m3 => (laws_heldOccS.f k m3.2 1).bind fun q => if (e1 = true ∧ e2 = true ∧ e3 = true) ∧ (0 ≤ m2.1 ∧ 0 ≤ q ∧ q = m3.1) then some true else none
set_option maxHeartbeats 1600000 in
set_option maxRecDepth 100000 in
theorem laws_FnExactOccsPut.calls (k : Nat) (A0 : Option Addr) (c0 : Nat) (l0 : List (S24)) (b0 b1 : Int) (A1 : Option Addr) (c1 : Nat) (l1 : List Int) (r : Bool) (hT_ : Aside0 (r = true)) (w : World) (hr0 : Kd.C k24 w A0 l0.length l0) (hc0 : l0.length ≤ c0) (hr1 : Kd.C (Kd.int .i64) w A1 l1.length l1) (hc1 : l1.length ≤ c1) (h : laws_FnExactOccsPut.f k l0 b0 b1 l1 = some r) :
  Calls Try.prog 13 #[.slice A0 l0.length c0, .agg #[.int .i64 b0, .int .i64 b1, .slice A1 l1.length c1]] w fun e w' => e = .returned (.bool r) ∧ Below w.heap.size w w' := by
 obtain rfl := hT_.out
 unfold laws_FnExactOccsPut.f at h
 obtain ⟨t, ht, h⟩ := Option.bind_eq_some_iff.1 h
 have HT1 := m0_ ht
 have HRA := m0_ hr0
 have HCA := m0_ hc0
 have HRO := m0_ hr1
 have HCO := m0_ hc1
 have HH := m0_ h
 have HB := m0_ (Below.refl w.heap.size w)
 clear ht hr0 hc0 hr1 hc1 h
 go_enter Try.func13, Try.ntmps13
 go_wp2_with (first | ((with_reducible refine gate_dst (N := 3) rfl ?_);refine box_event ?hg (N := 3) ?hd (cs := #[.int .i64 b0, .int .i64 b1, .slice A1 l1.length c1]) (t := 24) ?hr ?_;(case hd => rfl);(case hg => rfl);(case hr => first | (go_simp;done) | (go_simp;rfl));intro gb3 hg wb3 hbox hb;have BK3 := m0_ (hbox);have GE3 := m0_ ((by rw [hg];exact below_size HB.out : w.heap.size ≤ gb3));replace HB := m0_ (below_step HB.out hb);clear hb hbox hg) | (go_at_call 23;fail))
 have L3 := m0_ (blk_lt BK3.out)
 refine (laws_szOccS.calls k _ _ l0 _ t _ (Kd.C_below HRA.out HB.out) HCA.out HT1.out).mono ?_
 rintro e w1 ⟨rfl, hb⟩
 have Z1 := m0_ (show wb3.heap.size ≤ w1.heap.size from hb.size)
 have n0_ := m0_ (blk_below BK3.out hb)
 have n1_ := m0_ (below_step HB.out hb)
 clear BK3 HB
 have BK3 := n0_
 have HB := n1_
 clear n0_ n1_
 clear hb
 by_cases c1_ : t < 0
 ·have c1b : decide (t < 0) = true := decide_eq_true c1_
  go_wp2
  go_ret
  exact ⟨rfl, HB.out⟩
 have c1b : decide (t < 0) = false := decide_eq_false c1_
 have h := HH.out
 rw [if_neg c1_] at h
 obtain ⟨u, hu, h⟩ := Option.bind_eq_some_iff.1 h
 have HT2 := m0_ hu
 have HH := m0_ h
 clear h hu c1_
 have hz0 := (blk_cell BK3.out 0).trans (show _ = some (Value.int .i64 b0) from rfl)
 have hz1 := (blk_cell BK3.out 1).trans (show _ = some (Value.int .i64 b1) from rfl)
 have hz2 := (blk_cell BK3.out 2).trans (show _ = some (Value.slice A1 l1.length c1) from rfl)
 go_wp2_with (go_at_call 18;fail)
 clear hz0 hz1 hz2
 refine (laws_szOcc.calls b0 b1 _ _ l1 _ u _ (Kd.C_below HRO.out HB.out) HCO.out HT2.out).mono ?_
 rintro e w2 ⟨rfl, hb⟩
 have Z2 := m0_ (show w1.heap.size ≤ w2.heap.size from hb.size)
 have n0_ := m0_ (blk_below BK3.out hb)
 have n1_ := m0_ (below_step HB.out hb)
 clear BK3 HB
 have BK3 := n0_
 have HB := n1_
 clear n0_ n1_
 clear hb
 by_cases c2_ : u < 0
 ·have c2b : decide (u < 0) = true := decide_eq_true c2_
  go_wp2
  go_ret
  exact ⟨rfl, HB.out⟩
 have c2b : decide (u < 0) = false := decide_eq_false c2_
 have h := HH.out
 rw [if_neg c2_] at h
 obtain ⟨a, hx, h⟩ := Option.bind_eq_some_iff.1 h
 have TA := m0_ hx
 clear hx
 obtain ⟨⟨o0, o1, o2⟩, hx, h⟩ := Option.bind_eq_some_iff.1 h
 have TO := m0_ hx
 clear hx
 obtain ⟨v1, hx, h⟩ := Option.bind_eq_some_iff.1 h
 have TV := m0_ hx
 clear hx
 obtain ⟨g1, hx, h⟩ := Option.bind_eq_some_iff.1 h
 have TG := m0_ hx
 clear hx
 obtain ⟨e1, hx, h⟩ := Option.bind_eq_some_iff.1 h
 have E1 := m0_ hx
 clear hx
 obtain ⟨e2, hx, h⟩ := Option.bind_eq_some_iff.1 h
 have E2 := m0_ hx
 clear hx
 obtain ⟨e3, hx, h⟩ := Option.bind_eq_some_iff.1 h
 have E3 := m0_ hx
 clear hx
 obtain ⟨⟨p1, x1⟩, hx, h⟩ := Option.bind_eq_some_iff.1 h
 have M1 := m0_ hx
 clear hx
 obtain ⟨⟨p2, x2⟩, hx, h⟩ := Option.bind_eq_some_iff.1 h
 have M2 := m0_ hx
 clear hx
 obtain ⟨⟨p3, x3⟩, hx, h⟩ := Option.bind_eq_some_iff.1 h
 have M3 := m0_ hx
 clear hx
 obtain ⟨q, hx, h⟩ := Option.bind_eq_some_iff.1 h
 have TQ := m0_ hx
 clear hx
 have h2 := Decidable.byContradiction (fun c => by rw [if_neg c] at h;cases h) (p := (e1 = true ∧ e2 = true ∧ e3 = true) ∧ (0 ≤ p2 ∧ 0 ≤ q ∧ q = p3))
 obtain ⟨⟨rfl, rfl, rfl⟩, y1, y2, y3⟩ := h2
 subst y3
 have d1 : decide (p2 < 0) = false := decide_eq_false (by omega)
 have d2 : decide (q < 0) = false := decide_eq_false (by omega)
 have d3 : (q != q) = false := bne_self_eq_false q
 clear h HH y1 y2 c2_ HT1 HT2
 go_upto_region 8 with (fail)
 have n0_ := m0_ (below_drew HB.out)
 have n1_ := m0_ (blk_drew BK3.out)
 clear HB BK3
 have HB := n0_
 have BK3 := n1_
 clear n0_ n1_
 refine start_ (n := 6) (S := fun w' => w'.cell? ⟨gb3, 0, none⟩ = some (.int .i64 b0) ∧ w'.cell? ⟨gb3, 1, none⟩ = some (.int .i64 b1) ∧ w'.cell? ⟨gb3, 2, none⟩ = some (.slice A1 l1.length c1)) (ds := []) #[false, false, false, false, false, false] (by kernel_rfl) rfl rfl ⟨(blk_cell BK3.out 0).trans rfl, (blk_cell BK3.out 1).trans rfl, (blk_cell BK3.out 2).trans rfl⟩ (fun hHeld => ?_)
 refine pv_ 0 24 #[true, false, false, false, false, false] (by kernel_rfl) ?_
 refine take_ (i := 2) (N := some 26) (v := ?_) (a' := ?_) #[true, false, true, false, false, false] rfl rfl (by kernel_rfl) (fun _ _ _ h => h) (Or.inl ⟨by rfl, ?_⟩) hHeld ?_ ?_
 rotate_left
 ·rintro w' ⟨s0, s1, s2⟩
  go_simp
  with_reducible rfl
 rotate_left
 ·simp only [Act.put, List.setIfInBounds_toArray, List.set_cons_zero, List.set_cons_succ, i64_w, i32_w]
  rfl
 refine one_ (i := 1) (N := some 25) #[true, true, true, false, false, false] rfl rfl (by kernel_rfl) (by decide) (fun K hK => ?_)
 refine goes_ Try.func25 (by kernel_rfl) rfl #[.slice A0 l0.length c0] (by rfl) rfl rfl (by simp only [List.map_toArray, List.map_cons, List.map_nil];rfl) ?_
 with_reducible refine (laws_toOccS.calls k _ _ l0 a _ (Kd.C_below HRA.out HB.out) HCA.out TA.out).mono ?_
 rintro e w3 ⟨v_, rfl, hs, hb⟩
 refine ⟨_, rfl, ?_⟩
 have Z3 := m0_ (show w2.heap.size ≤ w3.heap.size from hb.size)
 have hs := Kd.S_mono (ok' := fun k_ => w2.heap.size ≤ k_ ∧ k_ < w3.heap.size) (Kd.S_lower (Kd.S_bound hs) HB.out.size) (fun k_ hk => ⟨hk.2.1, hk.2.2.1⟩)
 obtain ⟨AS, cS, rfl⟩ := Kd.S_slice hs
 have FS := m0_ hs
 clear hs
 have n0_ := m0_ (blk_below BK3.out hb)
 have n1_ := m0_ (below_step HB.out hb)
 clear BK3 HB
 have BK3 := n0_
 have HB := n1_
 clear n0_ n1_
 clear hb
 refine hK.out _ _ ⟨(blk_cell BK3.out 0).trans rfl, (blk_cell BK3.out 1).trans rfl, (blk_cell BK3.out 2).trans rfl⟩ (fun hHeld => ?_)
 clear hK K
 refine norm_ (a' := ?_) ?_ ?_
 rotate_left
 ·show Act.put _ (some 25) _ = _
  simp only [Act.put, List.setIfInBounds_toArray, List.set_cons_zero, List.set_cons_succ, i64_w, i32_w]
  rfl
 refine one_ (i := 3) (N := some 27) #[true, true, true, true, false, false] rfl rfl (by kernel_rfl) (by decide) (fun K hK => ?_)
 refine goes_ Try.func20 (by kernel_rfl) rfl #[.agg #[.int .i64 b0, .int .i64 b1, .slice A1 l1.length c1]] (by rfl) rfl rfl (by simp only [List.map_toArray, List.map_cons, List.map_nil];rfl) ?_
 with_reducible refine (laws_toOcc.calls k b0 b1 _ _ l1 o0 o1 o2 _ (Kd.C_below HRO.out HB.out) HCO.out TO.out).mono ?_
 rintro e w4 ⟨v_, rfl, hs, hb⟩
 refine ⟨_, rfl, ?_⟩
 have Z4 := m0_ (show w3.heap.size ≤ w4.heap.size from hb.size)
 have hs := Kd.R_mono (ok' := fun k_ => w3.heap.size ≤ k_ ∧ k_ < w4.heap.size) (Kd.R_lower (Kd.R_bound hs) HB.out.size) (fun k_ hk => ⟨hk.2.1, hk.2.2.1⟩)
 obtain ⟨AI, cI, rfl⟩ := Kd.R_slice hs
 have FI := m0_ hs
 clear hs
 have n0_ := m0_ (blk_below BK3.out hb)
 have n1_ := m0_ (Kd.S_below FS.out hb)
 have n2_ := m0_ (below_step HB.out hb)
 clear BK3 FS HB
 have BK3 := n0_
 have FS := n1_
 have HB := n2_
 clear n0_ n1_ n2_
 clear hb
 refine hK.out _ _ ⟨(blk_cell BK3.out 0).trans rfl, (blk_cell BK3.out 1).trans rfl, (blk_cell BK3.out 2).trans rfl⟩ (fun hHeld => ?_)
 clear hK K
 refine norm_ (a' := ?_) ?_ ?_
 rotate_left
 ·show Act.put _ (some 27) _ = _
  simp only [Act.put, List.setIfInBounds_toArray, List.set_cons_zero, List.set_cons_succ, i64_w, i32_w]
  rfl
 refine one_ (i := 4) (N := some 28) #[true, true, true, true, true, false] rfl rfl (by kernel_rfl) (by decide) (fun K hK => ?_)
 refine goes_ Try.func53 (by kernel_rfl) rfl #[.slice AS a.length cS, .agg #[.int .i64 o0, .int .i64 o1, .slice AI o2.length cI]] (by rfl) rfl rfl (by simp only [List.map_toArray, List.map_cons, List.map_nil];rfl) ?_
 with_reducible refine (spec_OccsPut.calls k _ _ a o0 o1 _ _ o2 v1 _ (Kd.S_reads' FS.out).2.2 (Kd.S_reads' FS.out).2.1 (Kd.R_reads' FI.out).2.2 (Kd.R_reads' FI.out).2.1 TV.out).mono ?_
 rintro e w5 ⟨v_, rfl, hs, hb⟩
 refine ⟨_, rfl, ?_⟩
 have Z5 := m0_ (show w4.heap.size ≤ w5.heap.size from hb.size)
 have hs := Kd.S_mono (ok' := fun k_ => w4.heap.size ≤ k_ ∧ k_ < w5.heap.size) (Kd.S_lower (Kd.S_bound hs) HB.out.size) (fun k_ hk => ⟨hk.2.1, hk.2.2.1⟩)
 obtain ⟨AV, cV, rfl⟩ := Kd.S_slice hs
 have FV := m0_ hs
 clear hs
 have n0_ := m0_ (blk_below BK3.out hb)
 have n1_ := m0_ (Kd.S_below FS.out hb)
 have n2_ := m0_ (Kd.R_below FI.out hb)
 have n3_ := m0_ (below_step HB.out hb)
 clear BK3 FS FI HB
 have BK3 := n0_
 have FS := n1_
 have FI := n2_
 have HB := n3_
 clear n0_ n1_ n2_ n3_
 clear hb
 refine hK.out _ _ ⟨(blk_cell BK3.out 0).trans rfl, (blk_cell BK3.out 1).trans rfl, (blk_cell BK3.out 2).trans rfl⟩ (fun hHeld => ?_)
 clear hK K
 refine norm_ (a' := ?_) ?_ ?_
 rotate_left
 ·show Act.put _ (some 28) _ = _
  simp only [Act.put, List.setIfInBounds_toArray, List.set_cons_zero, List.set_cons_succ, i64_w, i32_w]
  rfl
 refine pv_ 5 6 #[true, true, true, true, true, true] (by kernel_rfl) ?_
 refine done_ (by kernel_rfl) ?_
 clear FS FI
 go_wp2_with (go_at_call 25;fail)
 refine (laws_toOccS.calls k _ _ l0 a _ (Kd.C_below HRA.out HB.out) HCA.out TA.out).mono ?_
 rintro e w6 ⟨v_, rfl, hs, hb⟩
 have Z6 := m0_ (show w5.heap.size ≤ w6.heap.size from hb.size)
 have hs := Kd.S_mono (ok' := fun k_ => w5.heap.size ≤ k_ ∧ k_ < w6.heap.size) (Kd.S_lower (Kd.S_bound hs) HB.out.size) (fun k_ hk => ⟨hk.2.1, hk.2.2.1⟩)
 obtain ⟨AX, cX, rfl⟩ := Kd.S_slice hs
 have FX := m0_ hs
 clear hs
 have n0_ := m0_ (blk_below BK3.out hb)
 have n1_ := m0_ (Kd.S_below FV.out hb)
 have n2_ := m0_ (below_step HB.out hb)
 clear BK3 FV HB
 have BK3 := n0_
 have FV := n1_
 have HB := n2_
 clear n0_ n1_ n2_
 clear hb
 have hz0 := (blk_cell BK3.out 0).trans (show _ = some (Value.int .i64 b0) from rfl)
 have hz1 := (blk_cell BK3.out 1).trans (show _ = some (Value.int .i64 b1) from rfl)
 have hz2 := (blk_cell BK3.out 2).trans (show _ = some (Value.slice A1 l1.length c1) from rfl)
 go_wp2_with (first | ((with_reducible refine gate_callee (f := 20) rfl ?_);refine goesL_ (some 32) rfl rfl Try.func20 (by kernel_rfl) rfl #[.agg #[.int .i64 b0, .int .i64 b1, .slice A1 l1.length c1]] rfl (by (try simp only [List.map_toArray, List.map_cons, List.map_nil]);first | done | rfl | (simp only [List.length_drop, List.length_take];rfl)) ?_;(with_reducible refine (laws_toOcc.calls k b0 b1 _ _ l1 o0 o1 o2 _ ?s1 ?s2 TO.out).mono ?_);(case s1 => exact Kd.C_below HRO.out HB.out);(case s2 => exact HCO.out);rintro e w7 ⟨v_, rfl, hs, hb⟩;refine ⟨_, rfl, ?_⟩;clear hz0 hz1 hz2;have Z7 := m0_ (show w6.heap.size ≤ w7.heap.size from hb.size);have hs := Kd.R_mono (ok' := fun k_ => w6.heap.size ≤ k_ ∧ k_ < w7.heap.size) (Kd.R_lower (Kd.R_bound hs) HB.out.size) (fun k_ hk => ⟨hk.2.1, hk.2.2.1⟩);obtain ⟨AJ, cJ, rfl⟩ := Kd.R_slice hs;have FJ := m0_ hs;clear hs;have n0_ := m0_ (blk_below BK3.out hb);have n1_ := m0_ (Kd.S_below FV.out hb);have n2_ := m0_ (Kd.S_below FX.out hb);have n3_ := m0_ (below_step HB.out hb);clear BK3 FV FX HB;have BK3 := n0_;have FV := n1_;have FX := n2_;have HB := n3_;clear n0_ n1_ n2_ n3_;clear hb) | ((with_reducible refine gate_dst (N := 8) rfl ?_);refine box_event ?hg (N := 8) ?hd (cs := #[.int .i64 0, .int .i64 0, .slice none 0 0]) (t := 27) ?hr ?_;(case hd => rfl);(case hg => rfl);(case hr => first | (go_simp;done) | (go_simp;rfl));intro gb8 hg wb8 hbox hb;have G8 := m0_ (show w7.heap.size ≤ gb8 from by rw [hg];exact Nat.le_refl _);have Zb8 := m0_ (show w7.heap.size ≤ wb8.heap.size from hb.size);have L8 := m0_ (blk_lt hbox);have n0_ := m0_ (blk_below BK3.out hb);have n1_ := m0_ (Kd.S_below FV.out hb);have n2_ := m0_ (Kd.S_below FX.out hb);have n3_ := m0_ (Kd.R_below FJ.out hb);have n4_ := m0_ (below_step HB.out hb);clear BK3 FV FX FJ HB;have BK3 := n0_;have FV := n1_;have FX := n2_;have FJ := n3_;have HB := n4_;clear n0_ n1_ n2_ n3_ n4_;have BK8 := m0_ hbox;clear hg hbox hb) | ((with_reducible refine gate_store (t := 27) (p := 8) (v := .tmp 32) rfl ?_);refine store_blk (w0 := w) (base := w.heap.size) (e := 27) (g := gb8) (off := 0) (cur := #[.int .i64 0, .int .i64 0, .slice none 0 0]) (cur' := #[.int .i64 o0, .int .i64 o1, .slice AJ o2.length cJ]) (u := .agg #[.int .i64 o0, .int .i64 o1, .slice AJ o2.length cJ]) (seg := [.int .i64 o0, .int .i64 o1, .slice AJ o2.length cJ]) rfl rfl rfl rfl rfl BK8.out rfl ?ht ?h1 (by simp) rfl HB.out (by have g_ := G8.out;have l_ := L3.out;have e_ := GE3.out;have z1 := Z1.out;have z2 := Z2.out;have z3 := Z3.out;have z4 := Z4.out;have z5 := Z5.out;have z6 := Z6.out;have z7 := Z7.out;have zb8 := Zb8.out;omega) ?_;(case ht => kernel_rfl);(case h1 => intro q hq;simp only [List.mem_cons, List.not_mem_nil, or_false] at hq;first | (rcases hq with rfl | rfl | rfl <;> rfl) | (rcases hq with rfl | rfl <;> rfl) | (subst hq;rfl));intro ws_ hs_ hk_ hB_;replace BK8 := m0_ (hs_);replace HB := m0_ (hB_);replace BK3 := m0_ (blk_keep BK3.out hk_ (by have g_ := G8.out;have l_ := L3.out;have z1 := Z1.out;have z2 := Z2.out;have z3 := Z3.out;have z4 := Z4.out;have z5 := Z5.out;have z6 := Z6.out;have z7 := Z7.out;have zb8 := Zb8.out;omega));have Zs8 := m0_ (hk_.1);replace FV := m0_ (Kd.S_keep FV.out hk_ (fun k_ h1 => by have g_ := G8.out;have z1 := Z1.out;have z2 := Z2.out;have z3 := Z3.out;have z4 := Z4.out;have z5 := Z5.out;have z6 := Z6.out;have z7 := Z7.out;have zb8 := Zb8.out;omega));replace FX := m0_ (Kd.S_keep FX.out hk_ (fun k_ h1 => by have g_ := G8.out;have z1 := Z1.out;have z2 := Z2.out;have z3 := Z3.out;have z4 := Z4.out;have z5 := Z5.out;have z6 := Z6.out;have z7 := Z7.out;have zb8 := Zb8.out;omega));replace FJ := m0_ (Kd.R_keep FJ.out hk_ (fun k_ h1 => by have g_ := G8.out;have z1 := Z1.out;have z2 := Z2.out;have z3 := Z3.out;have z4 := Z4.out;have z5 := Z5.out;have z6 := Z6.out;have z7 := Z7.out;have zb8 := Zb8.out;omega));clear hs_ hk_ hB_;have hy0 := (blk_cell BK8.out 0).trans (show _ = some (Value.int .i64 o0) from rfl);have hy1 := (blk_cell BK8.out 1).trans (show _ = some (Value.int .i64 o1) from rfl);have hy2 := (blk_cell BK8.out 2).trans (show _ = some (Value.slice AJ o2.length cJ) from rfl)) | (go_at_call 54;fail))
 clear hy0 hy1 hy2
 refine (impl_OccsPut.calls k _ _ a o0 o1 _ _ o2 g1 _ (Kd.S_reads' FX.out).2.2 (Kd.S_reads' FX.out).2.1 (Kd.R_reads' FJ.out).2.2 (Kd.R_reads' FJ.out).2.1 TG.out).mono ?_
 rintro e w8 ⟨v_, rfl, hs, hb⟩
 have Z8 := m0_ (show ws_.heap.size ≤ w8.heap.size from hb.size)
 have hs := Kd.S_mono (ok' := fun k_ => ws_.heap.size ≤ k_ ∧ k_ < w8.heap.size) (Kd.S_lower (Kd.S_bound hs) HB.out.size) (fun k_ hk => ⟨hk.2.1, hk.2.2.1⟩)
 obtain ⟨AG, cG, rfl⟩ := Kd.S_slice hs
 have FG := m0_ hs
 clear hs
 have n0_ := m0_ (blk_below BK3.out hb)
 have n1_ := m0_ (Kd.S_below FV.out hb)
 have n2_ := m0_ (Kd.S_below FX.out hb)
 have n3_ := m0_ (Kd.R_below FJ.out hb)
 have n4_ := m0_ (blk_below BK8.out hb)
 have n5_ := m0_ (below_step HB.out hb)
 clear BK3 FV FX FJ BK8 HB
 have BK3 := n0_
 have FV := n1_
 have FX := n2_
 have FJ := n3_
 have BK8 := n4_
 have HB := n5_
 clear n0_ n1_ n2_ n3_ n4_ n5_
 clear hb
 go_wp2_with (go_at_call 27;fail)
 refine (laws_eqOccS.calls k _ _ g1 _ _ v1 true ⟨rfl⟩ _ (Kd.S_reads' FG.out).2.2 (Kd.S_reads' FG.out).2.1 (Kd.S_reads' FV.out).2.2 (Kd.S_reads' FV.out).2.1 E1.out).mono ?_
 rintro e w9 ⟨rfl, hb⟩
 have Z9 := m0_ (show w8.heap.size ≤ w9.heap.size from hb.size)
 have n0_ := m0_ (blk_below BK3.out hb)
 have n1_ := m0_ (Kd.S_below FV.out hb)
 have n2_ := m0_ (Kd.S_below FX.out hb)
 have n3_ := m0_ (Kd.R_below FJ.out hb)
 have n4_ := m0_ (blk_below BK8.out hb)
 have n5_ := m0_ (Kd.S_below FG.out hb)
 have n6_ := m0_ (below_step HB.out hb)
 clear BK3 FV FX FJ BK8 FG HB
 have BK3 := n0_
 have FV := n1_
 have FX := n2_
 have FJ := n3_
 have BK8 := n4_
 have FG := n5_
 have HB := n6_
 clear n0_ n1_ n2_ n3_ n4_ n5_ n6_
 clear hb
 go_wp2_with (go_at_call 25;fail)
 refine (laws_toOccS.calls k _ _ l0 a _ (Kd.C_below HRA.out HB.out) HCA.out TA.out).mono ?_
 rintro e w10 ⟨v_, rfl, hs, hb⟩
 have Z10 := m0_ (show w9.heap.size ≤ w10.heap.size from hb.size)
 have hs := Kd.S_mono (ok' := fun k_ => w9.heap.size ≤ k_ ∧ k_ < w10.heap.size) (Kd.S_lower (Kd.S_bound hs) HB.out.size) (fun k_ hk => ⟨hk.2.1, hk.2.2.1⟩)
 obtain ⟨AS, cS, rfl⟩ := Kd.S_slice hs
 have FS := m0_ hs
 clear hs
 have n0_ := m0_ (blk_below BK3.out hb)
 have n1_ := m0_ (Kd.S_below FV.out hb)
 have n2_ := m0_ (Kd.S_below FX.out hb)
 have n3_ := m0_ (Kd.R_below FJ.out hb)
 have n4_ := m0_ (blk_below BK8.out hb)
 have n5_ := m0_ (Kd.S_below FG.out hb)
 have n6_ := m0_ (below_step HB.out hb)
 clear BK3 FV FX FJ BK8 FG HB
 have BK3 := n0_
 have FV := n1_
 have FX := n2_
 have FJ := n3_
 have BK8 := n4_
 have FG := n5_
 have HB := n6_
 clear n0_ n1_ n2_ n3_ n4_ n5_ n6_
 clear hb
 go_wp2_with (go_at_call 27;fail)
 refine (laws_eqOccS.calls k _ _ a _ _ a true ⟨rfl⟩ _ (Kd.S_reads' FX.out).2.2 (Kd.S_reads' FX.out).2.1 (Kd.S_reads' FS.out).2.2 (Kd.S_reads' FS.out).2.1 E2.out).mono ?_
 rintro e w11 ⟨rfl, hb⟩
 have Z11 := m0_ (show w10.heap.size ≤ w11.heap.size from hb.size)
 have n0_ := m0_ (blk_below BK3.out hb)
 have n1_ := m0_ (Kd.S_below FV.out hb)
 have n2_ := m0_ (Kd.S_below FX.out hb)
 have n3_ := m0_ (Kd.R_below FJ.out hb)
 have n4_ := m0_ (blk_below BK8.out hb)
 have n5_ := m0_ (Kd.S_below FG.out hb)
 have n6_ := m0_ (Kd.S_below FS.out hb)
 have n7_ := m0_ (below_step HB.out hb)
 clear BK3 FV FX FJ BK8 FG FS HB
 have BK3 := n0_
 have FV := n1_
 have FX := n2_
 have FJ := n3_
 have BK8 := n4_
 have FG := n5_
 have FS := n6_
 have HB := n7_
 clear n0_ n1_ n2_ n3_ n4_ n5_ n6_ n7_
 clear hb
 clear FS
 go_upto_region 16 with (fail)
 have n0_ := m0_ (below_drew HB.out)
 have n1_ := m0_ (blk_drew BK3.out)
 have n2_ := m0_ (Kd.S_drew FV.out)
 have n3_ := m0_ (Kd.S_drew FX.out)
 have n4_ := m0_ (Kd.R_drew FJ.out)
 have n5_ := m0_ (blk_drew BK8.out)
 have n6_ := m0_ (Kd.S_drew FG.out)
 clear HB BK3 FV FX FJ BK8 FG
 have HB := n0_
 have BK3 := n1_
 have FV := n2_
 have FX := n3_
 have FJ := n4_
 have BK8 := n5_
 have FG := n6_
 clear n0_ n1_ n2_ n3_ n4_ n5_ n6_
 refine start_ (n := 5) (S := fun w' => w'.cell? ⟨gb8, 0, none⟩ = some (.int .i64 o0) ∧ w'.cell? ⟨gb8, 1, none⟩ = some (.int .i64 o1) ∧ w'.cell? ⟨gb8, 2, none⟩ = some (.slice AJ o2.length cJ) ∧ w'.cell? ⟨gb3, 0, none⟩ = some (.int .i64 b0) ∧ w'.cell? ⟨gb3, 1, none⟩ = some (.int .i64 b1) ∧ w'.cell? ⟨gb3, 2, none⟩ = some (.slice A1 l1.length c1)) (ds := []) #[false, false, false, false, false] (by kernel_rfl) rfl rfl ⟨(blk_cell BK8.out 0).trans rfl, (blk_cell BK8.out 1).trans rfl, (blk_cell BK8.out 2).trans rfl, (blk_cell BK3.out 0).trans rfl, (blk_cell BK3.out 1).trans rfl, (blk_cell BK3.out 2).trans rfl⟩ (fun hHeld => ?_)
 refine take_ (i := 0) (N := some 45) (v := ?_) (a' := ?_) #[true, false, false, false, false] rfl rfl (by kernel_rfl) (fun _ _ _ h => h) (Or.inl ⟨by rfl, ?_⟩) hHeld ?_ ?_
 rotate_left
 ·rintro w' ⟨s0, s1, s2, s3, s4, s5⟩
  go_simp
  with_reducible rfl
 rotate_left
 ·simp only [Act.put, List.setIfInBounds_toArray, List.set_cons_zero, List.set_cons_succ, i64_w, i32_w]
  rfl
 refine take_ (i := 1) (N := some 46) (v := ?_) (a' := ?_) #[true, true, false, false, false] rfl rfl (by kernel_rfl) (fun _ _ _ h => h) (Or.inl ⟨by rfl, ?_⟩) hHeld ?_ ?_
 rotate_left
 ·rintro w' ⟨s0, s1, s2, s3, s4, s5⟩
  go_simp
  with_reducible rfl
 rotate_left
 ·simp only [Act.put, List.setIfInBounds_toArray, List.set_cons_zero, List.set_cons_succ, i64_w, i32_w]
  rfl
 refine one_ (i := 2) (N := some 47) #[true, true, true, false, false] rfl rfl (by kernel_rfl) (by decide) (fun K hK => ?_)
 refine goes_ Try.func20 (by kernel_rfl) rfl #[.agg #[.int .i64 b0, .int .i64 b1, .slice A1 l1.length c1]] (by rfl) rfl rfl (by simp only [List.map_toArray, List.map_cons, List.map_nil];rfl) ?_
 with_reducible refine (laws_toOcc.calls k b0 b1 _ _ l1 o0 o1 o2 _ (Kd.C_below HRO.out HB.out) HCO.out TO.out).mono ?_
 rintro e w12 ⟨v_, rfl, hs, hb⟩
 refine ⟨_, rfl, ?_⟩
 have Z12 := m0_ (show w11.heap.size ≤ w12.heap.size from hb.size)
 have hs := Kd.R_mono (ok' := fun k_ => w11.heap.size ≤ k_ ∧ k_ < w12.heap.size) (Kd.R_lower (Kd.R_bound hs) HB.out.size) (fun k_ hk => ⟨hk.2.1, hk.2.2.1⟩)
 obtain ⟨AI, cI, rfl⟩ := Kd.R_slice hs
 have FI := m0_ hs
 clear hs
 have n0_ := m0_ (blk_below BK3.out hb)
 have n1_ := m0_ (Kd.S_below FV.out hb)
 have n2_ := m0_ (Kd.S_below FX.out hb)
 have n3_ := m0_ (Kd.R_below FJ.out hb)
 have n4_ := m0_ (blk_below BK8.out hb)
 have n5_ := m0_ (Kd.S_below FG.out hb)
 have n6_ := m0_ (below_step HB.out hb)
 clear BK3 FV FX FJ BK8 FG HB
 have BK3 := n0_
 have FV := n1_
 have FX := n2_
 have FJ := n3_
 have BK8 := n4_
 have FG := n5_
 have HB := n6_
 clear n0_ n1_ n2_ n3_ n4_ n5_ n6_
 clear hb
 refine hK.out _ _ ⟨(blk_cell BK8.out 0).trans rfl, (blk_cell BK8.out 1).trans rfl, (blk_cell BK8.out 2).trans rfl, (blk_cell BK3.out 0).trans rfl, (blk_cell BK3.out 1).trans rfl, (blk_cell BK3.out 2).trans rfl⟩ (fun hHeld => ?_)
 clear hK K
 refine norm_ (a' := ?_) ?_ ?_
 rotate_left
 ·show Act.put _ (some 47) _ = _
  simp only [Act.put, List.setIfInBounds_toArray, List.set_cons_zero, List.set_cons_succ, i64_w, i32_w]
  rfl
 refine one_ (i := 3) (N := some 48) #[true, true, true, true, false] rfl rfl (by kernel_rfl) (by decide) (fun K hK => ?_)
 refine goes_ Try.func22 (by kernel_rfl) rfl #[.agg #[.int .i64 o0, .int .i64 o1, .slice AJ o2.length cJ], .agg #[.int .i64 o0, .int .i64 o1, .slice AI o2.length cI]] (by rfl) rfl rfl (by simp only [List.map_toArray, List.map_cons, List.map_nil];rfl) ?_
 with_reducible refine (laws_eqOcc.calls k o0 o1 _ _ o2 o0 o1 _ _ o2 true ⟨rfl⟩ _ (Kd.R_reads' FJ.out).2.2 (Kd.R_reads' FJ.out).2.1 (Kd.R_reads' FI.out).2.2 (Kd.R_reads' FI.out).2.1 E3.out).mono ?_
 rintro e w13 ⟨rfl, hb⟩
 refine ⟨_, rfl, ?_⟩
 have Z13 := m0_ (show w12.heap.size ≤ w13.heap.size from hb.size)
 have n0_ := m0_ (blk_below BK3.out hb)
 have n1_ := m0_ (Kd.S_below FV.out hb)
 have n2_ := m0_ (Kd.S_below FX.out hb)
 have n3_ := m0_ (Kd.R_below FJ.out hb)
 have n4_ := m0_ (blk_below BK8.out hb)
 have n5_ := m0_ (Kd.S_below FG.out hb)
 have n6_ := m0_ (Kd.R_below FI.out hb)
 have n7_ := m0_ (below_step HB.out hb)
 clear BK3 FV FX FJ BK8 FG FI HB
 have BK3 := n0_
 have FV := n1_
 have FX := n2_
 have FJ := n3_
 have BK8 := n4_
 have FG := n5_
 have FI := n6_
 have HB := n7_
 clear n0_ n1_ n2_ n3_ n4_ n5_ n6_ n7_
 clear hb
 refine hK.out _ _ ⟨(blk_cell BK8.out 0).trans rfl, (blk_cell BK8.out 1).trans rfl, (blk_cell BK8.out 2).trans rfl, (blk_cell BK3.out 0).trans rfl, (blk_cell BK3.out 1).trans rfl, (blk_cell BK3.out 2).trans rfl⟩ (fun hHeld => ?_)
 clear hK K
 refine norm_ (a' := ?_) ?_ ?_
 rotate_left
 ·show Act.put _ (some 48) _ = _
  simp only [Act.put, List.setIfInBounds_toArray, List.set_cons_zero, List.set_cons_succ, i64_w, i32_w]
  rfl
 refine pv_ 4 49 #[true, true, true, true, true] (by kernel_rfl) ?_
 refine done_ (by kernel_rfl) ?_
 clear FI
 go_wp2_with (go_at_call 55;fail)
 refine (laws_markOccS.calls k _ _ a 1 p1 x1 w _ HB.out FX.out M1.out).mono ?_
 rintro e w14 ⟨rfl, hs, hb, hk⟩
 have Z14 := m0_ (show w13.heap.size ≤ w14.heap.size from hk.1)
 have n0_ := m0_ (blk_kept BK3.out hk (fun h2 => by have l_ := L3.out;have z1 := Z1.out;have z2 := Z2.out;have z3 := Z3.out;have z4 := Z4.out;have z5 := Z5.out;have z6 := Z6.out;have z7 := Z7.out;have zb8 := Zb8.out;have zs8 := Zs8.out;have z8 := Z8.out;have z9 := Z9.out;have z10 := Z10.out;have z11 := Z11.out;have z12 := Z12.out;have z13 := Z13.out;have z14 := Z14.out;omega))
 have n1_ := m0_ (Kd.S_kept FV.out hk (fun k_ h1 h2 => by have z1 := Z1.out;have z2 := Z2.out;have z3 := Z3.out;have z4 := Z4.out;have z5 := Z5.out;have z6 := Z6.out;have z7 := Z7.out;have zb8 := Zb8.out;have zs8 := Zs8.out;have z8 := Z8.out;have z9 := Z9.out;have z10 := Z10.out;have z11 := Z11.out;have z12 := Z12.out;have z13 := Z13.out;have z14 := Z14.out;omega))
 have n2_ := m0_ (Kd.R_kept FJ.out hk (fun k_ h1 h2 => by have z1 := Z1.out;have z2 := Z2.out;have z3 := Z3.out;have z4 := Z4.out;have z5 := Z5.out;have z6 := Z6.out;have z7 := Z7.out;have zb8 := Zb8.out;have zs8 := Zs8.out;have z8 := Z8.out;have z9 := Z9.out;have z10 := Z10.out;have z11 := Z11.out;have z12 := Z12.out;have z13 := Z13.out;have z14 := Z14.out;omega))
 have n3_ := m0_ (blk_kept BK8.out hk (fun h2 => by have l_ := L8.out;have g_ := G8.out;have z1 := Z1.out;have z2 := Z2.out;have z3 := Z3.out;have z4 := Z4.out;have z5 := Z5.out;have z6 := Z6.out;have z7 := Z7.out;have zb8 := Zb8.out;have zs8 := Zs8.out;have z8 := Z8.out;have z9 := Z9.out;have z10 := Z10.out;have z11 := Z11.out;have z12 := Z12.out;have z13 := Z13.out;have z14 := Z14.out;omega))
 have n4_ := m0_ (Kd.S_kept FG.out hk (fun k_ h1 h2 => by have z1 := Z1.out;have z2 := Z2.out;have z3 := Z3.out;have z4 := Z4.out;have z5 := Z5.out;have z6 := Z6.out;have z7 := Z7.out;have zb8 := Zb8.out;have zs8 := Zs8.out;have z8 := Z8.out;have z9 := Z9.out;have z10 := Z10.out;have z11 := Z11.out;have z12 := Z12.out;have z13 := Z13.out;have z14 := Z14.out;omega))
 have n5_ := m0_ (hb)
 clear BK3 FV FJ BK8 FG HB
 have BK3 := n0_
 have FV := n1_
 have FJ := n2_
 have BK8 := n3_
 have FG := n4_
 have HB := n5_
 clear n0_ n1_ n2_ n3_ n4_ n5_
 clear FX
 clear hs hb hk
 have hy0 := (blk_cell BK8.out 0).trans (show _ = some (Value.int .i64 o0) from rfl)
 have hy1 := (blk_cell BK8.out 1).trans (show _ = some (Value.int .i64 o1) from rfl)
 have hy2 := (blk_cell BK8.out 2).trans (show _ = some (Value.slice AJ o2.length cJ) from rfl)
 go_wp2_with (go_at_call 50;fail)
 clear hy0 hy1 hy2
 refine (laws_markOcc.calls k o0 o1 _ _ o2 p1 p2 x2 w _ HB.out FJ.out M2.out).mono ?_
 rintro e w15 ⟨rfl, hs, hb, hk⟩
 have Z15 := m0_ (show w14.heap.size ≤ w15.heap.size from hk.1)
 have n0_ := m0_ (blk_kept BK3.out hk (fun h2 => by have l_ := L3.out;have z1 := Z1.out;have z2 := Z2.out;have z3 := Z3.out;have z4 := Z4.out;have z5 := Z5.out;have z6 := Z6.out;have z7 := Z7.out;have zb8 := Zb8.out;have zs8 := Zs8.out;have z8 := Z8.out;have z9 := Z9.out;have z10 := Z10.out;have z11 := Z11.out;have z12 := Z12.out;have z13 := Z13.out;have z14 := Z14.out;have z15 := Z15.out;omega))
 have n1_ := m0_ (Kd.S_kept FV.out hk (fun k_ h1 h2 => by have z1 := Z1.out;have z2 := Z2.out;have z3 := Z3.out;have z4 := Z4.out;have z5 := Z5.out;have z6 := Z6.out;have z7 := Z7.out;have zb8 := Zb8.out;have zs8 := Zs8.out;have z8 := Z8.out;have z9 := Z9.out;have z10 := Z10.out;have z11 := Z11.out;have z12 := Z12.out;have z13 := Z13.out;have z14 := Z14.out;have z15 := Z15.out;omega))
 have n2_ := m0_ (blk_kept BK8.out hk (fun h2 => by have l_ := L8.out;have g_ := G8.out;have z1 := Z1.out;have z2 := Z2.out;have z3 := Z3.out;have z4 := Z4.out;have z5 := Z5.out;have z6 := Z6.out;have z7 := Z7.out;have zb8 := Zb8.out;have zs8 := Zs8.out;have z8 := Z8.out;have z9 := Z9.out;have z10 := Z10.out;have z11 := Z11.out;have z12 := Z12.out;have z13 := Z13.out;have z14 := Z14.out;have z15 := Z15.out;omega))
 have n3_ := m0_ (Kd.S_kept FG.out hk (fun k_ h1 h2 => by have z1 := Z1.out;have z2 := Z2.out;have z3 := Z3.out;have z4 := Z4.out;have z5 := Z5.out;have z6 := Z6.out;have z7 := Z7.out;have zb8 := Zb8.out;have zs8 := Zs8.out;have z8 := Z8.out;have z9 := Z9.out;have z10 := Z10.out;have z11 := Z11.out;have z12 := Z12.out;have z13 := Z13.out;have z14 := Z14.out;have z15 := Z15.out;omega))
 have n4_ := m0_ (hb)
 clear BK3 FV BK8 FG HB
 have BK3 := n0_
 have FV := n1_
 have BK8 := n2_
 have FG := n3_
 have HB := n4_
 clear n0_ n1_ n2_ n3_ n4_
 clear FJ
 clear hs hb hk
 go_wp2_with (go_at_call 27;fail)
 refine (laws_eqOccS.calls k _ _ g1 _ _ v1 true ⟨rfl⟩ _ (Kd.S_reads' FG.out).2.2 (Kd.S_reads' FG.out).2.1 (Kd.S_reads' FV.out).2.2 (Kd.S_reads' FV.out).2.1 E1.out).mono ?_
 rintro e w16 ⟨rfl, hb⟩
 have Z16 := m0_ (show w15.heap.size ≤ w16.heap.size from hb.size)
 have n0_ := m0_ (blk_below BK3.out hb)
 have n1_ := m0_ (Kd.S_below FV.out hb)
 have n2_ := m0_ (blk_below BK8.out hb)
 have n3_ := m0_ (Kd.S_below FG.out hb)
 have n4_ := m0_ (below_step HB.out hb)
 clear BK3 FV BK8 FG HB
 have BK3 := n0_
 have FV := n1_
 have BK8 := n2_
 have FG := n3_
 have HB := n4_
 clear n0_ n1_ n2_ n3_ n4_
 clear hb
 go_wp2_with (go_at_call 55;fail)
 refine (laws_markOccS.calls k _ _ g1 1 q x3 w _ HB.out FG.out M3.out).mono ?_
 rintro e w17 ⟨rfl, hs, hb, hk⟩
 have Z17 := m0_ (show w16.heap.size ≤ w17.heap.size from hk.1)
 have eL := (Kd.S_reads' hs).1
 rw [eL] at hs
 rw [eL]
 clear eL
 have n0_ := m0_ (blk_kept BK3.out hk (fun h2 => by have l_ := L3.out;have z1 := Z1.out;have z2 := Z2.out;have z3 := Z3.out;have z4 := Z4.out;have z5 := Z5.out;have z6 := Z6.out;have z7 := Z7.out;have zb8 := Zb8.out;have zs8 := Zs8.out;have z8 := Z8.out;have z9 := Z9.out;have z10 := Z10.out;have z11 := Z11.out;have z12 := Z12.out;have z13 := Z13.out;have z14 := Z14.out;have z15 := Z15.out;have z16 := Z16.out;have z17 := Z17.out;omega))
 have n1_ := m0_ (Kd.S_kept FV.out hk (fun k_ h1 h2 => by have z1 := Z1.out;have z2 := Z2.out;have z3 := Z3.out;have z4 := Z4.out;have z5 := Z5.out;have z6 := Z6.out;have z7 := Z7.out;have zb8 := Zb8.out;have zs8 := Zs8.out;have z8 := Z8.out;have z9 := Z9.out;have z10 := Z10.out;have z11 := Z11.out;have z12 := Z12.out;have z13 := Z13.out;have z14 := Z14.out;have z15 := Z15.out;have z16 := Z16.out;have z17 := Z17.out;omega))
 have n2_ := m0_ (blk_kept BK8.out hk (fun h2 => by have l_ := L8.out;have g_ := G8.out;have z1 := Z1.out;have z2 := Z2.out;have z3 := Z3.out;have z4 := Z4.out;have z5 := Z5.out;have z6 := Z6.out;have z7 := Z7.out;have zb8 := Zb8.out;have zs8 := Zs8.out;have z8 := Z8.out;have z9 := Z9.out;have z10 := Z10.out;have z11 := Z11.out;have z12 := Z12.out;have z13 := Z13.out;have z14 := Z14.out;have z15 := Z15.out;have z16 := Z16.out;have z17 := Z17.out;omega))
 have n3_ := m0_ (hb)
 clear BK3 FV BK8 HB
 have BK3 := n0_
 have FV := n1_
 have BK8 := n2_
 have HB := n3_
 clear n0_ n1_ n2_ n3_
 clear FG
 have FG := m0_ hs
 clear hs hb hk
 go_wp2_with (go_at_call 56;fail)
 refine (laws_heldOccS.calls k _ _ x3 1 q _ (Kd.S_reads' FG.out).2.2 (Kd.S_reads' FG.out).2.1 TQ.out).mono ?_
 rintro e w18 ⟨rfl, hb⟩
 have hb := hb.below
 have Z18 := m0_ (show w17.heap.size ≤ w18.heap.size from hb.size)
 have n0_ := m0_ (blk_below BK3.out hb)
 have n1_ := m0_ (Kd.S_below FV.out hb)
 have n2_ := m0_ (blk_below BK8.out hb)
 have n3_ := m0_ (Kd.S_below FG.out hb)
 have n4_ := m0_ (below_step HB.out hb)
 clear BK3 FV BK8 FG HB
 have BK3 := n0_
 have FV := n1_
 have BK8 := n2_
 have FG := n3_
 have HB := n4_
 clear n0_ n1_ n2_ n3_ n4_
 clear hb
 go_upto_region 31 with (fail)
 have n0_ := m0_ (below_drew HB.out)
 have n1_ := m0_ (blk_drew BK3.out)
 have n2_ := m0_ (Kd.S_drew FV.out)
 have n3_ := m0_ (blk_drew BK8.out)
 have n4_ := m0_ (Kd.S_drew FG.out)
 clear HB BK3 FV BK8 FG
 have HB := n0_
 have BK3 := n1_
 have FV := n2_
 have BK8 := n3_
 have FG := n4_
 clear n0_ n1_ n2_ n3_ n4_
 refine start_ (n := 6) (S := fun w' => w'.cell? ⟨gb3, 0, none⟩ = some (.int .i64 b0) ∧ w'.cell? ⟨gb3, 1, none⟩ = some (.int .i64 b1) ∧ w'.cell? ⟨gb3, 2, none⟩ = some (.slice A1 l1.length c1)) (ds := []) #[false, false, false, false, false, false] (by kernel_rfl) rfl rfl ⟨(blk_cell BK3.out 0).trans rfl, (blk_cell BK3.out 1).trans rfl, (blk_cell BK3.out 2).trans rfl⟩ (fun hHeld => ?_)
 refine pv_ 0 75 #[true, false, false, false, false, false] (by kernel_rfl) ?_
 refine take_ (i := 2) (N := some 77) (v := ?_) (a' := ?_) #[true, false, true, false, false, false] rfl rfl (by kernel_rfl) (fun _ _ _ h => h) (Or.inl ⟨by rfl, ?_⟩) hHeld ?_ ?_
 rotate_left
 ·rintro w' ⟨s0, s1, s2⟩
  go_simp
  with_reducible rfl
 rotate_left
 ·simp only [Act.put, List.setIfInBounds_toArray, List.set_cons_zero, List.set_cons_succ, i64_w, i32_w]
  rfl
 refine one_ (i := 1) (N := some 76) #[true, true, true, false, false, false] rfl rfl (by kernel_rfl) (by decide) (fun K hK => ?_)
 refine goes_ Try.func25 (by kernel_rfl) rfl #[.slice A0 l0.length c0] (by rfl) rfl rfl (by simp only [List.map_toArray, List.map_cons, List.map_nil];rfl) ?_
 with_reducible refine (laws_toOccS.calls k _ _ l0 a _ (Kd.C_below HRA.out HB.out) HCA.out TA.out).mono ?_
 rintro e w19 ⟨v_, rfl, hs, hb⟩
 refine ⟨_, rfl, ?_⟩
 have Z19 := m0_ (show w18.heap.size ≤ w19.heap.size from hb.size)
 have hs := Kd.S_mono (ok' := fun k_ => w18.heap.size ≤ k_ ∧ k_ < w19.heap.size) (Kd.S_lower (Kd.S_bound hs) HB.out.size) (fun k_ hk => ⟨hk.2.1, hk.2.2.1⟩)
 obtain ⟨AS, cS, rfl⟩ := Kd.S_slice hs
 have FS := m0_ hs
 clear hs
 have n0_ := m0_ (blk_below BK3.out hb)
 have n1_ := m0_ (Kd.S_below FV.out hb)
 have n2_ := m0_ (blk_below BK8.out hb)
 have n3_ := m0_ (Kd.S_below FG.out hb)
 have n4_ := m0_ (below_step HB.out hb)
 clear BK3 FV BK8 FG HB
 have BK3 := n0_
 have FV := n1_
 have BK8 := n2_
 have FG := n3_
 have HB := n4_
 clear n0_ n1_ n2_ n3_ n4_
 clear hb
 refine hK.out _ _ ⟨(blk_cell BK3.out 0).trans rfl, (blk_cell BK3.out 1).trans rfl, (blk_cell BK3.out 2).trans rfl⟩ (fun hHeld => ?_)
 clear hK K
 refine norm_ (a' := ?_) ?_ ?_
 rotate_left
 ·show Act.put _ (some 76) _ = _
  simp only [Act.put, List.setIfInBounds_toArray, List.set_cons_zero, List.set_cons_succ, i64_w, i32_w]
  rfl
 refine one_ (i := 3) (N := some 78) #[true, true, true, true, false, false] rfl rfl (by kernel_rfl) (by decide) (fun K hK => ?_)
 refine goes_ Try.func20 (by kernel_rfl) rfl #[.agg #[.int .i64 b0, .int .i64 b1, .slice A1 l1.length c1]] (by rfl) rfl rfl (by simp only [List.map_toArray, List.map_cons, List.map_nil];rfl) ?_
 with_reducible refine (laws_toOcc.calls k b0 b1 _ _ l1 o0 o1 o2 _ (Kd.C_below HRO.out HB.out) HCO.out TO.out).mono ?_
 rintro e w20 ⟨v_, rfl, hs, hb⟩
 refine ⟨_, rfl, ?_⟩
 have Z20 := m0_ (show w19.heap.size ≤ w20.heap.size from hb.size)
 have hs := Kd.R_mono (ok' := fun k_ => w19.heap.size ≤ k_ ∧ k_ < w20.heap.size) (Kd.R_lower (Kd.R_bound hs) HB.out.size) (fun k_ hk => ⟨hk.2.1, hk.2.2.1⟩)
 obtain ⟨AI, cI, rfl⟩ := Kd.R_slice hs
 have FI := m0_ hs
 clear hs
 have n0_ := m0_ (blk_below BK3.out hb)
 have n1_ := m0_ (Kd.S_below FV.out hb)
 have n2_ := m0_ (blk_below BK8.out hb)
 have n3_ := m0_ (Kd.S_below FG.out hb)
 have n4_ := m0_ (Kd.S_below FS.out hb)
 have n5_ := m0_ (below_step HB.out hb)
 clear BK3 FV BK8 FG FS HB
 have BK3 := n0_
 have FV := n1_
 have BK8 := n2_
 have FG := n3_
 have FS := n4_
 have HB := n5_
 clear n0_ n1_ n2_ n3_ n4_ n5_
 clear hb
 refine hK.out _ _ ⟨(blk_cell BK3.out 0).trans rfl, (blk_cell BK3.out 1).trans rfl, (blk_cell BK3.out 2).trans rfl⟩ (fun hHeld => ?_)
 clear hK K
 refine norm_ (a' := ?_) ?_ ?_
 rotate_left
 ·show Act.put _ (some 78) _ = _
  simp only [Act.put, List.setIfInBounds_toArray, List.set_cons_zero, List.set_cons_succ, i64_w, i32_w]
  rfl
 refine one_ (i := 4) (N := some 79) #[true, true, true, true, true, false] rfl rfl (by kernel_rfl) (by decide) (fun K hK => ?_)
 refine goes_ Try.func54 (by kernel_rfl) rfl #[.slice AS a.length cS, .agg #[.int .i64 o0, .int .i64 o1, .slice AI o2.length cI]] (by rfl) rfl rfl (by simp only [List.map_toArray, List.map_cons, List.map_nil];rfl) ?_
 with_reducible refine (impl_OccsPut.calls k _ _ a o0 o1 _ _ o2 g1 _ (Kd.S_reads' FS.out).2.2 (Kd.S_reads' FS.out).2.1 (Kd.R_reads' FI.out).2.2 (Kd.R_reads' FI.out).2.1 TG.out).mono ?_
 rintro e w21 ⟨v_, rfl, hs, hb⟩
 refine ⟨_, rfl, ?_⟩
 have Z21 := m0_ (show w20.heap.size ≤ w21.heap.size from hb.size)
 have hs := Kd.S_mono (ok' := fun k_ => w20.heap.size ≤ k_ ∧ k_ < w21.heap.size) (Kd.S_lower (Kd.S_bound hs) HB.out.size) (fun k_ hk => ⟨hk.2.1, hk.2.2.1⟩)
 obtain ⟨AH, cH, rfl⟩ := Kd.S_slice hs
 have FH := m0_ hs
 clear hs
 have n0_ := m0_ (blk_below BK3.out hb)
 have n1_ := m0_ (Kd.S_below FV.out hb)
 have n2_ := m0_ (blk_below BK8.out hb)
 have n3_ := m0_ (Kd.S_below FG.out hb)
 have n4_ := m0_ (Kd.S_below FS.out hb)
 have n5_ := m0_ (Kd.R_below FI.out hb)
 have n6_ := m0_ (below_step HB.out hb)
 clear BK3 FV BK8 FG FS FI HB
 have BK3 := n0_
 have FV := n1_
 have BK8 := n2_
 have FG := n3_
 have FS := n4_
 have FI := n5_
 have HB := n6_
 clear n0_ n1_ n2_ n3_ n4_ n5_ n6_
 clear hb
 refine hK.out _ _ ⟨(blk_cell BK3.out 0).trans rfl, (blk_cell BK3.out 1).trans rfl, (blk_cell BK3.out 2).trans rfl⟩ (fun hHeld => ?_)
 clear hK K
 refine norm_ (a' := ?_) ?_ ?_
 rotate_left
 ·show Act.put _ (some 79) _ = _
  simp only [Act.put, List.setIfInBounds_toArray, List.set_cons_zero, List.set_cons_succ, i64_w, i32_w]
  rfl
 refine pv_ 5 13 #[true, true, true, true, true, true] (by kernel_rfl) ?_
 refine done_ (by kernel_rfl) ?_
 clear FS FI
 go_wp2_with (go_at_call 27;fail)
 refine (laws_eqOccS.calls k _ _ g1 _ _ v1 true ⟨rfl⟩ _ (Kd.S_reads' FH.out).2.2 (Kd.S_reads' FH.out).2.1 (Kd.S_reads' FV.out).2.2 (Kd.S_reads' FV.out).2.1 E1.out).mono ?_
 rintro e w22 ⟨rfl, hb⟩
 have Z22 := m0_ (show w21.heap.size ≤ w22.heap.size from hb.size)
 have n0_ := m0_ (blk_below BK3.out hb)
 have n1_ := m0_ (Kd.S_below FV.out hb)
 have n2_ := m0_ (blk_below BK8.out hb)
 have n3_ := m0_ (Kd.S_below FG.out hb)
 have n4_ := m0_ (Kd.S_below FH.out hb)
 have n5_ := m0_ (below_step HB.out hb)
 clear BK3 FV BK8 FG FH HB
 have BK3 := n0_
 have FV := n1_
 have BK8 := n2_
 have FG := n3_
 have FH := n4_
 have HB := n5_
 clear n0_ n1_ n2_ n3_ n4_ n5_
 clear hb
 clear FH FV
 go_wp2_with (go_at_call 56;fail)
 refine (laws_heldOccS.calls k _ _ x3 1 q _ (Kd.S_reads' FG.out).2.2 (Kd.S_reads' FG.out).2.1 TQ.out).mono ?_
 rintro e w23 ⟨rfl, hb⟩
 have hb := hb.below
 have Z23 := m0_ (show w22.heap.size ≤ w23.heap.size from hb.size)
 have n0_ := m0_ (blk_below BK3.out hb)
 have n1_ := m0_ (blk_below BK8.out hb)
 have n2_ := m0_ (Kd.S_below FG.out hb)
 have n3_ := m0_ (below_step HB.out hb)
 clear BK3 BK8 FG HB
 have BK3 := n0_
 have BK8 := n1_
 have FG := n2_
 have HB := n3_
 clear n0_ n1_ n2_ n3_
 clear hb
 go_wp2
 go_ret
 exact ⟨rfl, HB.out⟩

end Go.Proofs.Ytiplpckgmikmeaa.M
namespace Go.Proofs.Ytiplpckgmikmeaa.M
set_option linter.unusedVariables false
set_option linter.unusedSimpArgs false
open Go.RowKit Go.Proofs.YtiplpckgmikmeaaW.PrintWords Go.Proofs.YtiplpckgmikmeaaW.PrintLast

theorem rd_nat (l : List Int) (n : Nat) : rd l (n : Int) = l.getD n 0 := rfl

theorem szIntS_ok (l : List Int) (a : Int) (h0 : 0 ≤ a) (h1 : a ≤ 1048576) (hl : l.length ≤ 9223372036854775807) : laws_szIntS.f l a = some (if (l.length : Int) ≤ a then a - l.length else -1) := by
  unfold laws_szIntS.f
  rw [w_small (by omega) (by omega)]
  by_cases h : (l.length : Int) ≤ a
  · rw [if_neg (by omega), if_pos h]
  · rw [if_pos (by omega), if_neg h]

theorem toIntS_l0_ev (l : List Int) (hl : l.length ≤ 9223372036854775807) : ∀ (d n : Nat) (a : List Int), n + d = l.length → a.length = l.length → Ev (fun k => laws_toIntS.l0 k l a (n : Int)) (a.take n ++ l.drop n) := by
  intro d
  induction d with
  | zero =>
    intro n a hn ha
    rw [List.drop_of_length_le (by omega), List.take_of_length_le (by omega), List.append_nil]
    exact Ev.last (fun k => by simp only [laws_toIntS.l0]; rw [if_neg (by omega)])
  | succ d ih =>
    intro n a hn ha
    rw [drop_at l 0 n (by omega)]
    have next := ih (n + 1) (a.set n (l.getD n 0)) (by omega) (by rw [List.length_set]; exact ha)
    rw [take_set a n _ (by omega), List.append_assoc] at next
    refine Ev.step (fun k => by simp only [laws_toIntS.l0]; rw [if_pos (by omega), if_pos (by omega), if_pos (by omega), w_succ (by omega), rd_nat, Int.toNat_natCast]) ?_
    exact next
theorem toIntS_ev (l : List Int) (hl : l.length ≤ 1048576) : Ev (fun k => laws_toIntS.f k l) l := by
  unfold laws_toIntS.f
  refine Ev.pos (by omega) (Ev.pos (by omega) ?_)
  have := toIntS_l0_ev l (by omega) l.length 0 (List.replicate l.length 0) (by omega) (by simp)
  rw [Int.toNat_natCast]
  exact this

theorem eqIntS_l0_ev (l : List Int) (hl : l.length ≤ 9223372036854775807) : ∀ d n : Nat, n + d = l.length → Ev (fun k => laws_eqIntS.l0 k l l (n : Int)) true := by
  intro d
  induction d with
  | zero =>
    intro n hn
    exact Ev.last (fun k => by simp only [laws_eqIntS.l0]; rw [if_neg (by omega)])
  | succ d ih =>
    intro n hn
    refine Ev.step (fun k => by simp only [laws_eqIntS.l0]; rw [if_pos (by omega), if_pos (by omega), if_pos (by omega), if_pos trivial, w_succ (by omega)]) ?_
    exact ih (n + 1) (by omega)
theorem eqIntS_ev (l : List Int) (hl : l.length ≤ 9223372036854775807) : Ev (fun k => laws_eqIntS.f k l l) true := by
  unfold laws_eqIntS.f
  exact Ev.pos rfl (eqIntS_l0_ev l hl l.length 0 (by omega))
theorem maxLen_le {n : Nat} (h : n ≤ maxLen) : n ≤ 9223372036854775807 := by unfold maxLen at h; omega
def leftOf (a : Int) (n : Nat) : Int := if (n : Int) ≤ a then a - n else -1
theorem leftOf_neg {a : Int} {n : Nat} (h : ¬ (n : Int) ≤ a) : leftOf a n = -1 := if_neg h
theorem leftOf_pos {a : Int} {n : Nat} (h : (n : Int) ≤ a) : leftOf a n = a - n := if_pos h
theorem getD_in {α : Type} {l : List α} {z : α} {n : Nat} (h : n < l.length) : l.getD n z = l[n] := by
  rw [List.getD_eq_getElem?_getD, List.getElem?_eq_getElem h]
  rfl

def iMarks : Nat → Int → List Int
  | 0, _ => []
  | n + 1, c => c :: iMarks n (c + 1)
theorem iMarks_len : ∀ (n : Nat) (c : Int), (iMarks n c).length = n
  | 0, _ => rfl
  | n + 1, c => by rw [iMarks, List.length_cons, iMarks_len n]
theorem markIntS_l0_ev : ∀ (d n : Nat) (l : List Int) (c : Int), n + d = l.length → l.length ≤ 1099511627776 → 0 ≤ c → c + d ≤ 1152921504606846976 → Ev (fun k => laws_markIntS.l0 k l c (n : Int)) (c + d, l.take n ++ iMarks d c) := by
  intro d
  induction d with
  | zero =>
    intro n l c hn hl h0 h1
    rw [List.take_of_length_le (by omega)]
    exact Ev.last (fun k => by simp only [laws_markIntS.l0]; rw [if_neg (by omega)]; simp [iMarks])
  | succ d ih =>
    intro n l c hn hl h0 h1
    have w1 : wrap64 (c + 1) = c + 1 := w_small (by omega) (by omega)
    have next := ih (n + 1) (l.set n c) (c + 1) (by rw [List.length_set]; omega) (by rw [List.length_set]; omega) (by omega) (by omega)
    rw [take_set l n _ (by omega)] at next
    refine Ev.step (fun k => by
      simp only [laws_markIntS.l0]
      rw [if_pos (by omega), if_pos (by omega), w1, Int.toNat_natCast, w_succ (by omega)]) ?_
    refine Ev.val next ?_
    rw [iMarks, List.append_assoc]
    simp only [Prod.mk.injEq]
    exact ⟨by omega, rfl⟩
theorem markIntS_ev (l : List Int) (c : Int) (hl : l.length ≤ 1099511627776) (h0 : 0 ≤ c) (h1 : c ≤ 1125899906842624) : Ev (fun k => laws_markIntS.f k l c) (c + l.length, iMarks l.length c) := by
  unfold laws_markIntS.f
  exact markIntS_l0_ev l.length 0 l c (by omega) hl h0 (by omega)
theorem heldIntS_l0_ev (m : List Int) (hm : m.length ≤ 1099511627776) : ∀ (d n : Nat) (c : Int), n + d = m.length → m.drop n = iMarks d c → 0 ≤ c → c + d ≤ 1152921504606846976 → Ev (fun k => laws_heldIntS.l0 k m c (n : Int)) (c + d) := by
  intro d
  induction d with
  | zero =>
    intro n c hn hd h0 h1
    exact Ev.last (fun k => by simp only [laws_heldIntS.l0]; rw [if_neg (by omega)]; simp)
  | succ d ih =>
    intro n c hn hd h0 h1
    have w1 : wrap64 (c + 1) = c + 1 := w_small (by omega) (by omega)
    rw [drop_at m 0 n (by omega), iMarks] at hd
    injection hd with hx hd
    have next := ih (n + 1) (c + 1) (by omega) hd (by omega) (by omega)
    refine Ev.step (fun k => by
      simp only [laws_heldIntS.l0]
      rw [if_pos (by omega), if_pos (by omega), rd_nat, hx, w1, if_pos rfl, w_succ (by omega)]) ?_
    refine Ev.val next ?_
    omega
theorem heldIntS_ev (n : Nat) (c : Int) (hn : n ≤ 1099511627776) (h0 : 0 ≤ c) (h1 : c ≤ 1125899906842624) : Ev (fun k => laws_heldIntS.f k (iMarks n c) c) (c + n) := by
  unfold laws_heldIntS.f
  exact heldIntS_l0_ev (iMarks n c) (by rw [iMarks_len]; exact hn) n 0 c (by rw [iMarks_len]; omega) rfl h0 (by omega)

theorem impl_in_is (a b c : Int) : impl_in.f a b c = some (decide (b ≤ a) && decide (a ≤ c)) := by
  unfold impl_in.f
  by_cases h : b ≤ a
  · rw [if_pos h]; simp [h]
  · rw [if_neg h]; simp [h]

def cmpI : List Int → List Int → Int
  | [], [] => 0
  | [], _ :: _ => -1
  | _ :: _, [] => 1
  | a :: xs, b :: ys => if a < b then -1 else if a > b then 1 else cmpI xs ys
def sgn (b : Bool) : Int := if b then -1 else 1
def cmpO (a b : S27) : Int := if a.f1 = b.f1 then (if a.f0 = b.f0 then cmpI a.f2 b.f2 else sgn (decide (a.f0 < b.f0))) else sgn (decide (a.f1 < b.f1))
def lessO (a b : S27) : Bool := decide (cmpO a b < 0)

theorem l3Ids_l0_ev (a b : List Int) (ha : a.length ≤ 9223372036854775806) (hb : b.length ≤ 9223372036854775806) : ∀ d n : Nat, n + d = a.length → n ≤ b.length → Ev (fun k => spec_l3Ids.l0 k a b (n : Int)) (cmpI (a.drop n) (b.drop n)) := by
  intro d
  have ends : ∀ (n : Nat), n ≤ a.length → n ≤ b.length → (n = a.length ∨ n = b.length) → Ev (fun k => spec_l3Ids.j1 k a b (n : Int) false) (cmpI (a.drop n) (b.drop n)) := by
    intro n h1 h2 h3
    refine Ev.last (fun k => ?_)
    simp only [spec_l3Ids.j1]
    rw [if_neg (by decide)]
    rcases Nat.lt_or_ge n a.length with ha' | ha'
    · have hbn : n = b.length := by omega
      rw [if_neg (by omega), if_pos (by omega), List.drop_eq_getElem_cons ha', List.drop_of_length_le (show b.length ≤ n by omega)]
      rfl
    rw [List.drop_of_length_le ha']
    rcases Nat.lt_or_ge n b.length with hb' | hb'
    · rw [if_pos (by omega), List.drop_eq_getElem_cons hb']
      rfl
    · rw [if_neg (by omega), if_neg (by omega), List.drop_of_length_le hb']
      rfl
  induction d with
  | zero =>
    intro n hn hb'
    refine Ev.step (fun k => by simp only [spec_l3Ids.l0]; rw [if_neg (by omega)]) ?_
    exact ends n (by omega) hb' (by omega)
  | succ d ih =>
    intro n hn hb'
    refine Ev.step (fun k => by simp only [spec_l3Ids.l0]; rw [if_pos (by omega)]) ?_
    rcases Nat.lt_or_ge n b.length with hlt | hge
    rotate_left
    · rw [decide_eq_false (show ¬ (n : Int) < (b.length : Int) by omega)]
      exact ends n (by omega) hb' (by omega)
    rw [decide_eq_true (show (n : Int) < (b.length : Int) by omega)]
    refine Ev.step (fun k => by simp only [spec_l3Ids.j1]; rw [if_pos trivial, if_pos (by omega), if_pos (by omega), if_pos (by omega), w_succ (by omega)]) ?_
    rw [drop_at a 0 n (by omega), drop_at b 0 n (by omega)]
    have next := ih (n + 1) (by omega) (by omega)
    have ra : rd a (n : Int) = a.getD n 0 := rfl
    have rb : rd b (n : Int) = b.getD n 0 := rfl
    rw [ra, rb]
    generalize a.getD n 0 = x at *
    generalize b.getD n 0 = y at *
    unfold cmpI
    by_cases h1 : x < y
    · rw [if_pos h1]
      exact Ev.pos h1 (Ev.now _)
    rw [if_neg h1]
    refine Ev.neg h1 ?_
    by_cases h2 : x > y
    · rw [if_pos h2]
      exact Ev.pos h2 (Ev.now _)
    · rw [if_neg h2]
      exact Ev.neg h2 next
theorem l3Ids_ev (a b : List Int) (ha : a.length ≤ 9223372036854775806) (hb : b.length ≤ 9223372036854775806) : Ev (fun k => spec_l3Ids.f k a b) (cmpI a b) := by
  unfold spec_l3Ids.f
  exact l3Ids_l0_ev a b ha hb a.length 0 (by omega) (by omega)

theorem spec_OccLess_ev (a b : S27) (ha : a.f2.length ≤ 9223372036854775806) (hb : b.f2.length ≤ 9223372036854775806) : Ev (fun k => spec_OccLess.f k a.f0 a.f1 a.f2 b.f0 b.f1 b.f2) (lessO a b) := by
  unfold spec_OccLess.f lessO cmpO
  by_cases h1 : a.f1 = b.f1
  · rw [if_pos h1]
    refine Ev.pos h1 ?_
    by_cases h2 : a.f0 = b.f0
    · rw [if_pos h2]
      exact Ev.pos h2 (Ev.bindS (l3Ids_ev _ _ ha hb) rfl)
    · rw [if_neg h2]
      refine Ev.neg h2 (Ev.one (fun _ => ?_))
      by_cases h3 : a.f0 < b.f0 <;> simp [h3, sgn]
  · rw [if_neg h1]
    refine Ev.neg h1 (Ev.one (fun _ => ?_))
    by_cases h3 : a.f1 < b.f1 <;> simp [h3, sgn]

def idsGo : Int → List Int → Bool
  | _, [] => true
  | p, x :: xs => decide (p < x) && decide (x < 24) && idsGo x xs
theorem idsGo_len : ∀ (l : List Int) (p : Int), idsGo p l = true → p ≤ 23 → (l.length : Int) + p ≤ 23
  | [], p, _, hp => by simp; exact hp
  | x :: xs, p, h, _ => by
    unfold idsGo at h
    simp only [Bool.and_eq_true, decide_eq_true_eq] at h
    have := idsGo_len xs x h.2 (by omega)
    rw [List.length_cons]
    omega
def occOkB (o : S27) : Bool := decide (1 ≤ o.f0) && decide (o.f0 ≤ o.f1) && decide (o.f1 ≤ 2000) && decide (1 ≤ o.f2.length) && idsGo (-1) o.f2
def idPrev (l : List Int) (n : Nat) : Int := if n = 0 then -1 else l.getD (n - 1) 0
theorem idPrev_succ (l : List Int) (n : Nat) : idPrev l (n + 1) = l.getD n 0 := by simp [idPrev]

theorem spec_OccOk_l0_ev (a b : Int) (l : List Int) (hl : l.length ≤ 9223372036854775806) : ∀ d n : Nat, n + d = l.length → -1 ≤ idPrev l n → Ev (fun k => spec_OccOk.l0 k (n : Int) a b l) (idsGo (idPrev l n) (l.drop n)) := by
  intro d
  induction d with
  | zero =>
    intro n hn hp
    rw [List.drop_of_length_le (by omega)]
    exact Ev.last (fun k => by simp only [spec_OccOk.l0]; rw [if_neg (by omega)]; rfl)
  | succ d ih =>
    intro n hn hp
    have hrd : rd l (n : Int) = l.getD n 0 := rfl
    rw [drop_at l 0 n (by omega)]
    refine Ev.step (fun k => by simp only [spec_OccOk.l0]; rw [if_pos (by omega), if_pos (by omega), w_succ (by omega), hrd]) ?_
    have next := ih (n + 1) (by omega)
    rw [idPrev_succ] at next
    generalize l.getD n 0 = x at *
    unfold idsGo
    by_cases h0 : x < 0
    · rw [decide_eq_false (show ¬ idPrev l n < x by omega)]
      exact Ev.pos h0 (Ev.now _)
    refine Ev.neg h0 ?_
    by_cases h1 : x ≥ 24
    · rw [decide_eq_false (show ¬ x < 24 by omega), Bool.and_false]
      exact Ev.pos h1 (Ev.now _)
    refine Ev.neg h1 ?_
    rw [decide_eq_true (show x < 24 by omega), Bool.and_true]
    rcases Nat.eq_zero_or_pos n with hz | hpos
    · subst hz
      rw [show idPrev l 0 = -1 from rfl, decide_eq_true (show (-1 : Int) < x by omega)]
      exact Ev.neg (by omega) (next (by omega))
    obtain ⟨m, rfl⟩ : ∃ m, n = m + 1 := ⟨n - 1, by omega⟩
    have hw : wrap64 (((m + 1 : Nat) : Int) - 1) = (m : Int) := by rw [w_small (by omega) (by omega)]; omega
    refine Ev.pos (by omega) ?_
    rw [hw]
    refine Ev.pos (by omega) (Ev.pos (by omega) ?_)
    have hr2 : rd l (m : Int) = l.getD m 0 := rfl
    rw [hr2, idPrev_succ]
    by_cases hc : x ≤ l.getD m 0
    · rw [decide_eq_false (show ¬ l.getD m 0 < x by omega)]
      exact Ev.pos hc (Ev.now _)
    · rw [decide_eq_true (show l.getD m 0 < x by omega)]
      exact Ev.neg hc (next (by omega))

theorem spec_OccOk_ev (o : S27) (hl : o.f2.length ≤ 9223372036854775806) : Ev (fun k => spec_OccOk.f k o.f0 o.f1 o.f2) (occOkB o) := by
  have bad : ∀ b : Bool, b = true → Ev (fun k => spec_OccOk.j0 k b o.f0 o.f1 o.f2) false := by
    intro b hb
    subst hb
    exact Ev.last (fun k => by simp only [spec_OccOk.j0]; rw [if_pos trivial])
  unfold spec_OccOk.f occOkB
  by_cases h0 : o.f0 < 1
  · rw [decide_eq_false (show ¬ 1 ≤ o.f0 by omega)]
    exact Ev.pos h0 (bad _ rfl)
  rw [decide_eq_true (show 1 ≤ o.f0 by omega)]
  refine Ev.neg h0 ?_
  by_cases h1 : o.f1 < o.f0
  · rw [decide_eq_false (show ¬ o.f0 ≤ o.f1 by omega)]
    exact Ev.pos h1 (bad _ rfl)
  rw [decide_eq_true (show o.f0 ≤ o.f1 by omega)]
  refine Ev.neg h1 ?_
  by_cases h2 : o.f1 > 2000
  · rw [decide_eq_false (show ¬ o.f1 ≤ 2000 by omega)]
    exact Ev.pos h2 (bad _ rfl)
  rw [decide_eq_true (show o.f1 ≤ 2000 by omega)]
  refine Ev.neg h2 ?_
  by_cases h3 : (o.f2.length : Int) < 1
  · rw [decide_eq_false (show ¬ 1 ≤ o.f2.length by omega)]
    exact Ev.pos h3 (bad _ rfl)
  rw [decide_eq_true (show 1 ≤ o.f2.length by omega)]
  refine Ev.neg h3 ?_
  by_cases h4 : (o.f2.length : Int) > 24
  · have : idsGo (-1) o.f2 = false := by
      rw [Bool.eq_false_iff]
      intro e
      have := idsGo_len o.f2 (-1) e (by omega)
      omega
    rw [this]
    exact bad _ (decide_eq_true h4)
  · rw [decide_eq_false h4]
    refine Ev.step (fun k => by simp only [spec_OccOk.j0]; rfl) ?_
    exact Ev.neg (by decide) (spec_OccOk_l0_ev o.f0 o.f1 o.f2 hl o.f2.length 0 (by omega) (by simp [idPrev]))

theorem impl_OccOk_l0_ev (o : S27) (l : List Int) (hl : l.length ≤ 9223372036854775806) : ∀ (d n : Nat) (p : Int), n + d = l.length → -1 ≤ p → p ≤ 23 → Ev (fun k => impl_OccOk.l0 k p l (l.length : Int) (n : Int) o.f0 o.f1 o.f2) (idsGo p (l.drop n) && (decide (1 ≤ o.f0) && (decide (o.f0 ≤ o.f1) && decide (o.f1 ≤ 2000) && decide (1 ≤ o.f2.length)))) := by
  intro d
  induction d with
  | zero =>
    intro n p hn h0 h1
    rw [List.drop_of_length_le (by omega), idsGo, Bool.true_and]
    refine Ev.last (fun k => ?_)
    simp only [impl_OccOk.l0, impl_in_is]
    rw [if_neg (by omega)]
    by_cases a : 1 ≤ o.f0
    · rw [if_pos a, decide_eq_true a]
      simp only [Option.bind_some]
      by_cases b : (decide (o.f0 ≤ o.f1) && decide (o.f1 ≤ 2000)) = true
      · rw [if_pos b, b]
        have e : ((o.f2.length : Int) ≥ 1) = (1 ≤ o.f2.length) := by rw [eq_iff_iff]; omega
        simp only [e, Bool.true_and]
      rw [if_neg b]
      simp only [Bool.not_eq_true] at b
      rw [b]
      rfl
    · rw [if_neg a, decide_eq_false a]
      rfl
  | succ d ih =>
    intro n p hn h0 h1
    have hrd : rd l (n : Int) = l.getD n 0 := rfl
    rw [drop_at l 0 n (by omega)]
    have w1 : wrap64 (p + 1) = p + 1 := w_small (by omega) (by omega)
    refine Ev.step (fun k => by simp only [impl_OccOk.l0]; rw [if_pos (by omega), if_pos (by omega), if_pos (by omega), w_succ (by omega), hrd, w1, impl_in_is, Option.bind_some]) ?_
    have next := ih (n + 1) (l.getD n 0) (by omega)
    generalize l.getD n 0 = x at *
    unfold idsGo
    by_cases hc : p + 1 ≤ x ∧ x ≤ 23
    · rw [decide_eq_true (show p < x by omega), decide_eq_true (show x < 24 by omega), decide_eq_true hc.1, decide_eq_true hc.2]
      exact Ev.pos rfl (next (by omega) (by omega))
    have e1 : (decide (p + 1 ≤ x) && decide (x ≤ 23)) = false := by
      rw [Bool.eq_false_iff]
      simp only [ne_eq, Bool.and_eq_true, decide_eq_true_eq]
      exact hc
    have e2 : (decide (p < x) && decide (x < 24)) = false := by
      rw [Bool.eq_false_iff]
      simp only [ne_eq, Bool.and_eq_true, decide_eq_true_eq]
      omega
    rw [e1, e2]
    exact Ev.neg (by decide) (Ev.now _)
theorem impl_OccOk_ev (o : S27) (hl : o.f2.length ≤ 9223372036854775806) : Ev (fun k => impl_OccOk.f k o.f0 o.f1 o.f2) (occOkB o) := by
  unfold impl_OccOk.f
  refine Ev.val (impl_OccOk_l0_ev o o.f2 hl o.f2.length 0 (-1) (by omega) (by omega) (by omega)) ?_
  rw [List.drop_zero, occOkB, Bool.and_comm]
  simp only [Bool.and_assoc]

theorem cmp_Compare_is (a b : Int) : cmp_Compare_int.f a b = some (if a < b then -1 else if a > b then 1 else 0) := by
  unfold cmp_Compare_int.f cmp_isNaN_int.f
  simp only [Option.bind_some, bne_self_eq_false]
  rw [if_neg (by decide), if_neg (by decide)]
  by_cases h : a < b
  · rw [if_pos h, if_pos h]
  rw [if_neg h, if_neg h]
  by_cases h2 : a > b
  · rw [if_pos h2, if_pos h2]
  · rw [if_neg h2, if_neg h2]
theorem impl_Compare_l0_ev (a b : List Int) (ha : a.length ≤ 9223372036854775806) (hb : b.length ≤ 9223372036854775806) : ∀ d n : Nat, n + d = a.length → n ≤ b.length → Ev (fun k => slices_Compare_int_int.l0 k a b a (a.length : Int) (n : Int)) (cmpI (a.drop n) (b.drop n)) := by
  intro d
  induction d with
  | zero =>
    intro n hn hb'
    refine Ev.last (fun k => ?_)
    simp only [slices_Compare_int_int.l0]
    rw [if_neg (by omega), List.drop_of_length_le (show a.length ≤ n by omega)]
    rcases Nat.lt_or_ge n b.length with hlt | hge
    · rw [if_pos (by omega), List.drop_eq_getElem_cons hlt]
      rfl
    · rw [if_neg (by omega), List.drop_of_length_le hge]
      rfl
  | succ d ih =>
    intro n hn hb'
    have ra : rd a (n : Int) = a.getD n 0 := rfl
    have rb : rd b (n : Int) = b.getD n 0 := rfl
    refine Ev.step (fun k => by simp only [slices_Compare_int_int.l0]; rw [if_pos (by omega), if_pos (by omega), if_pos (by omega), w_succ (by omega), ra, rb, cmp_Compare_is]) ?_
    rcases Nat.lt_or_ge n b.length with hlt | hge
    rotate_left
    · refine Ev.pos (by omega) ?_
      rw [drop_at a 0 n (by omega), List.drop_of_length_le hge]
      exact Ev.now _
    refine Ev.neg (by omega) (Ev.pos (by omega) ?_)
    rw [drop_at a 0 n (by omega), drop_at b 0 n (by omega)]
    have next := ih (n + 1) (by omega) (by omega)
    generalize a.getD n 0 = x at *
    generalize b.getD n 0 = y at *
    refine Ev.bind (Ev.now _) ?_
    unfold cmpI
    by_cases h1 : x < y
    · rw [if_pos h1, if_pos h1]
      exact Ev.neg (by decide) (Ev.now _)
    rw [if_neg h1, if_neg h1]
    by_cases h2 : x > y
    · rw [if_pos h2, if_pos h2]
      exact Ev.neg (by decide) (Ev.now _)
    · rw [if_neg h2, if_neg h2]
      exact Ev.pos rfl next
theorem impl_compare_ev (a b : S27) (ha : a.f2.length ≤ 9223372036854775806) (hb : b.f2.length ≤ 9223372036854775806) : Ev (fun k => impl_compare.f k a.f0 a.f1 a.f2 b.f0 b.f1 b.f2) (cmpO a b) := by
  unfold impl_compare.f cmpO impl_sign.f
  by_cases h1 : a.f1 = b.f1
  · rw [if_pos h1]
    refine Ev.pos h1 ?_
    by_cases h2 : a.f0 = b.f0
    · rw [if_pos h2]
      exact Ev.pos h2 (Ev.bindS (impl_Compare_l0_ev a.f2 b.f2 ha hb a.f2.length 0 (by omega) (by omega)) rfl)
    · rw [if_neg h2]
      refine Ev.neg h2 (Ev.one (fun _ => ?_))
      by_cases h3 : a.f0 < b.f0 <;> simp [h3, sgn]
  · rw [if_neg h1]
    refine Ev.neg h1 (Ev.one (fun _ => ?_))
    by_cases h3 : a.f1 < b.f1 <;> simp [h3, sgn]
theorem impl_OccLess_ev (a b : S27) (ha : a.f2.length ≤ 9223372036854775806) (hb : b.f2.length ≤ 9223372036854775806) : Ev (fun k => impl_OccLess.f k a.f0 a.f1 a.f2 b.f0 b.f1 b.f2) (lessO a b) := by
  unfold impl_OccLess.f
  exact Ev.bindS (impl_compare_ev a b ha hb) rfl

def occsGo : Option S27 → List S27 → Bool
  | _, [] => true
  | none, x :: xs => occOkB x && occsGo (some x) xs
  | some p, x :: xs => occOkB x && (lessO p x && occsGo (some x) xs)
def occsOkB (l : List S27) : Bool := occsGo none l && decide (l.length ≤ 40)
def occPrev (l : List S27) (n : Nat) : Option S27 := if n = 0 then none else some (l.getD (n - 1) z27)
def Short (l : List S27) : Prop := ∀ x ∈ l, x.f2.length ≤ 9223372036854775806
theorem Short.at_ {l : List S27} (h : Short l) (n : Nat) : (l.getD n z27).f2.length ≤ 9223372036854775806 := by
  rw [List.getD_eq_getElem?_getD]
  rcases Nat.lt_or_ge n l.length with hn | hn
  · rw [List.getElem?_eq_getElem hn]
    exact h _ (List.getElem_mem hn)
  · rw [List.getElem?_eq_none hn]
    show (z27).f2.length ≤ _
    simp [z27]
theorem occPrev_succ (l : List S27) (n : Nat) : occPrev l (n + 1) = some (l.getD n z27) := by simp [occPrev]

theorem spec_OccsOk_l0_ev (l : List S27) (hl : l.length ≤ 9223372036854775806) (hs : Short l) : ∀ d n : Nat, n + d = l.length → Ev (fun k => spec_OccsOk.l0 k l (n : Int)) (occsGo (occPrev l n) (l.drop n)) := by
  intro d
  induction d with
  | zero =>
    intro n hn
    rw [List.drop_of_length_le (by omega)]
    exact Ev.last (fun k => by simp only [spec_OccsOk.l0]; rw [if_neg (by omega)]; cases occPrev l n <;> rfl)
  | succ d ih =>
    intro n hn
    have hrd : rd_T27 l (n : Int) = l.getD n z27 := rfl
    have hx := hs.at_ n
    rw [drop_at l z27 n (by omega)]
    refine Ev.step (fun k => by simp only [spec_OccsOk.l0]; rw [if_pos (by omega), if_pos (by omega), w_succ (by omega), hrd]) ?_
    have next := ih (n + 1) (by omega)
    rw [occPrev_succ] at next
    generalize l.getD n z27 = x at *
    refine Ev.bind (spec_OccOk_ev x hx) ?_
    rcases Nat.eq_zero_or_pos n with hz | hpos
    · subst hz
      rw [show occPrev l 0 = none from rfl, occsGo]
      by_cases hk : occOkB x = true
      · rw [hk]
        exact Ev.pos rfl (Ev.neg (by omega) next)
      refine Ev.neg hk ?_
      simp only [Bool.not_eq_true] at hk
      rw [hk]
      exact Ev.now _
    obtain ⟨m, rfl⟩ : ∃ m, n = m + 1 := ⟨n - 1, by omega⟩
    have hw : wrap64 (((m + 1 : Nat) : Int) - 1) = (m : Int) := by rw [w_small (by omega) (by omega)]; omega
    have hr2 : rd_T27 l (m : Int) = l.getD m z27 := rfl
    rw [occPrev_succ, occsGo, hw, hr2]
    by_cases hk : occOkB x = true
    · rw [hk]
      refine Ev.pos rfl (Ev.pos (by omega) (Ev.pos (by omega) (Ev.pos (by omega) (Ev.bind (spec_OccLess_ev _ x (hs.at_ m) hx) ?_))))
      by_cases hls : lessO (l.getD m z27) x = true
      · rw [hls]
        exact Ev.pos rfl next
      refine Ev.neg hls ?_
      simp only [Bool.not_eq_true] at hls
      rw [hls]
      exact Ev.now _
    · refine Ev.neg hk ?_
      simp only [Bool.not_eq_true] at hk
      rw [hk]
      exact Ev.now _
theorem spec_OccsOk_ev (l : List S27) (hl : l.length ≤ 9223372036854775806) (hs : Short l) : Ev (fun k => spec_OccsOk.f k l) (occsOkB l) := by
  unfold spec_OccsOk.f occsOkB
  by_cases h : (l.length : Int) > 40
  · refine Ev.pos h ?_
    rw [decide_eq_false (by omega), Bool.and_false]
    exact Ev.now _
  · refine Ev.neg h ?_
    rw [decide_eq_true (by omega), Bool.and_true]
    exact spec_OccsOk_l0_ev l hl hs l.length 0 (by omega)

theorem impl_OccsOk_l0_ev (l : List S27) (hl : l.length ≤ 9223372036854775806) (hs : Short l) : ∀ d n : Nat, n + d = l.length → Ev (fun k => impl_OccsOk.l0 k l l (l.length : Int) (n : Int)) (occsGo (occPrev l n) (l.drop n) && decide (l.length ≤ 40)) := by
  intro d
  induction d with
  | zero =>
    intro n hn
    rw [List.drop_of_length_le (by omega)]
    refine Ev.last (fun k => ?_)
    simp only [impl_OccsOk.l0]
    rw [if_neg (by omega)]
    have e : ((l.length : Int) ≤ 40) = (l.length ≤ 40) := by rw [eq_iff_iff]; omega
    simp only [e]
    cases occPrev l n <;> rfl
  | succ d ih =>
    intro n hn
    have hrd : rd_T27 l (n : Int) = l.getD n z27 := rfl
    have hx := hs.at_ n
    rw [drop_at l z27 n (by omega)]
    refine Ev.step (fun k => by simp only [impl_OccsOk.l0]; rw [if_pos (by omega), if_pos (by omega), if_pos (by omega), w_succ (by omega), hrd]) ?_
    have next := ih (n + 1) (by omega)
    rw [occPrev_succ] at next
    generalize l.getD n z27 = x at *
    refine Ev.bind (impl_OccOk_ev x hx) ?_
    rcases Nat.eq_zero_or_pos n with hz | hpos
    · subst hz
      rw [show occPrev l 0 = none from rfl, occsGo]
      by_cases hk : occOkB x = true
      · rw [hk]
        exact Ev.pos rfl (Ev.neg (by omega) next)
      refine Ev.neg hk ?_
      simp only [Bool.not_eq_true] at hk
      rw [hk]
      exact Ev.now _
    obtain ⟨m, rfl⟩ : ∃ m, n = m + 1 := ⟨n - 1, by omega⟩
    have hw : wrap64 (((m + 1 : Nat) : Int) - 1) = (m : Int) := by rw [w_small (by omega) (by omega)]; omega
    have hr2 : rd_T27 l (m : Int) = l.getD m z27 := rfl
    rw [occPrev_succ, occsGo, hw, hr2]
    by_cases hk : occOkB x = true
    · rw [hk]
      refine Ev.pos rfl (Ev.pos (by omega) (Ev.pos (by omega) (Ev.pos (by omega) (Ev.bind (impl_OccLess_ev _ x (hs.at_ m) hx) ?_))))
      by_cases hls : lessO (l.getD m z27) x = true
      · rw [hls]
        exact Ev.pos rfl next
      refine Ev.neg hls ?_
      simp only [Bool.not_eq_true] at hls
      rw [hls]
      exact Ev.now _
    · refine Ev.neg hk ?_
      simp only [Bool.not_eq_true] at hk
      rw [hk]
      exact Ev.now _
theorem impl_OccsOk_ev (l : List S27) (hl : l.length ≤ 9223372036854775806) (hs : Short l) : Ev (fun k => impl_OccsOk.f k l) (occsOkB l) := impl_OccsOk_l0_ev l hl hs l.length 0 (by omega)
end Go.Proofs.Ytiplpckgmikmeaa.M
namespace Go.Proofs.Ytiplpckgmikmeaa.M
open Go.RowKit Go.Proofs.YtiplpckgmikmeaaW.PrintWords Go.Proofs.YtiplpckgmikmeaaW.PrintLast Go.Proofs.YtiplpckgmikmeaaW.PrintMore
attribute [local go_sem] max2_int min2_int max_two min_two max_three min_three max_four min_four
set_option linter.unusedVariables false
set_option linter.unusedSimpArgs false



end Go.Proofs.Ytiplpckgmikmeaa.M
namespace Go.Proofs.Ytiplpckgmikmeaa.M
set_option linter.unusedVariables false
set_option linter.unusedSimpArgs false
open Go.RowKit Go.Proofs.YtiplpckgmikmeaaW.PrintWords Go.Proofs.YtiplpckgmikmeaaW.PrintLast

def cvO (x : S24) : S27 := ⟨x.f0, x.f1, x.f2⟩
def szO : List S24 → Nat
  | [] => 0
  | x :: xs => x.f2.length + szO xs
theorem szIntS_is (l : List Int) (a : Int) (h0 : 0 ≤ a) (h1 : a ≤ 1048576) (hl : l.length ≤ 9223372036854775807) : laws_szIntS.f l a = some (leftOf a l.length) := szIntS_ok l a h0 h1 hl
theorem szOcc_is (x : S24) (a : Int) (h0 : 0 ≤ a) (h1 : a ≤ 1048576) (hl : x.f2.length ≤ 9223372036854775807) : laws_szOcc.f x.f0 x.f1 x.f2 a = some (leftOf a x.f2.length) := by
  unfold laws_szOcc.f
  rw [szIntS_is _ _ h0 h1 hl, Option.bind_some]
  by_cases h : (x.f2.length : Int) ≤ a
  · rw [leftOf_pos h, if_neg (by omega)]
  · rw [leftOf_neg h, if_pos (by omega)]

def ShortL (l : List S24) : Prop := ∀ x ∈ l, x.f2.length ≤ 9223372036854775807
theorem ShortL.at_ {l : List S24} (h : ShortL l) (n : Nat) : (l.getD n z24).f2.length ≤ 9223372036854775807 := by
  rw [List.getD_eq_getElem?_getD]
  rcases Nat.lt_or_ge n l.length with hn | hn
  · rw [List.getElem?_eq_getElem hn]
    exact h _ (List.getElem_mem hn)
  · rw [List.getElem?_eq_none hn]
    show (z24).f2.length ≤ _
    simp [z24]
theorem szOccS_l0_ev (l : List S24) (hl : l.length ≤ 9223372036854775807) (hs : ShortL l) : ∀ (d n : Nat) (a : Int), n + d = l.length → 0 ≤ a → a ≤ 1048576 → Ev (fun k => laws_szOccS.l0 k l a (n : Int)) (leftOf a (szO (l.drop n))) := by
  intro d
  induction d with
  | zero =>
    intro n a hn h0 h1
    rw [List.drop_of_length_le (by omega), leftOf_pos (show ((szO [] : Nat) : Int) ≤ a from h0)]
    exact Ev.last (fun k => by simp only [laws_szOccS.l0]; rw [if_neg (by omega)]; simp [szO])
  | succ d ih =>
    intro n a hn h0 h1
    have hr : rd_T24 l (n : Int) = l.getD n z24 := rfl
    have hx := hs.at_ n
    rw [drop_at l z24 n (by omega)]
    refine Ev.step (fun k => by simp only [laws_szOccS.l0]; rw [if_pos (by omega), if_pos (by omega), hr, w_succ (by omega)]) ?_
    generalize l.getD n z24 = x at *
    refine Ev.bind (Ev.one (fun _ => szOcc_is x a h0 h1 hx)) ?_
    rw [szO]
    by_cases h : (x.f2.length : Int) ≤ a
    · rw [leftOf_pos h]
      refine Ev.neg (by omega) (Ev.val (ih (n + 1) (a - x.f2.length) (by omega) (by omega) (by omega)) ?_)
      unfold leftOf
      by_cases h2 : ((szO (l.drop (n + 1)) : Nat) : Int) ≤ a - x.f2.length
      · rw [if_pos h2, if_pos (by omega)]
        omega
      · rw [if_neg h2, if_neg (by omega)]
    · rw [leftOf_neg h, leftOf_neg (by omega)]
      exact Ev.pos (by omega) (Ev.now _)
def allO (l : List S24) : Nat := l.length + szO l
theorem szOccS_ev (l : List S24) (hl : l.length ≤ 9223372036854775807) (hs : ShortL l) (a : Int) (h0 : 0 ≤ a) (h1 : a ≤ 1048576) : Ev (fun k => laws_szOccS.f k l a) (leftOf a (allO l)) := by
  unfold laws_szOccS.f allO
  rw [w_small (by omega) (by omega)]
  by_cases h : (l.length : Int) ≤ a
  · refine Ev.neg (by omega) (Ev.val (szOccS_l0_ev l hl hs l.length 0 (a - l.length) (by omega) (by omega) (by omega)) ?_)
    rw [List.drop_zero]
    unfold leftOf
    by_cases h2 : ((szO l : Nat) : Int) ≤ a - l.length
    · rw [if_pos h2, if_pos (by omega)]
      omega
    · rw [if_neg h2, if_neg (by omega)]
  · rw [leftOf_neg (by omega)]
    exact Ev.pos (by omega) (Ev.now _)
theorem szO_mem : ∀ (l : List S24) (x : S24), x ∈ l → x.f2.length ≤ szO l
  | [], _, h => by simp at h
  | y :: ys, x, h => by
    rw [szO]
    rcases List.mem_cons.1 h with rfl | h
    · omega
    · have := szO_mem ys x h
      omega
def FewO (l : List S24) : Prop := allO l ≤ 1048576
theorem FewO.len {l : List S24} (h : FewO l) : l.length ≤ 1048576 := by unfold FewO allO at h; omega
theorem FewO.ids {l : List S24} (h : FewO l) (x : S24) (hx : x ∈ l) : x.f2.length ≤ 1048576 := by
  have := szO_mem l x hx
  unfold FewO allO at h
  omega

theorem toOcc_ev (x : S24) (hl : x.f2.length ≤ 1048576) : Ev (fun k => laws_toOcc.f k x.f0 x.f1 x.f2) (x.f0, x.f1, x.f2) := by
  unfold laws_toOcc.f
  exact Ev.bindS (toIntS_ev x.f2 hl) rfl
theorem toOccS_l0_ev (l : List S24) (hl : FewO l) : ∀ (d n : Nat) (a : List S27), n + d = l.length → a.length = l.length → Ev (fun k => laws_toOccS.l0 k l a (n : Int)) (a.take n ++ (l.drop n).map cvO) := by
  have hlen := hl.len
  intro d
  induction d with
  | zero =>
    intro n a hn ha
    rw [List.drop_of_length_le (by omega), List.take_of_length_le (by omega), List.map_nil, List.append_nil]
    exact Ev.last (fun k => by simp only [laws_toOccS.l0]; rw [if_neg (by omega)])
  | succ d ih =>
    intro n a hn ha
    have hlt : n < l.length := by omega
    have hr : rd_T24 l (n : Int) = l.getD n z24 := rfl
    have hx : (l.getD n z24).f2.length ≤ 1048576 := by
      refine hl.ids _ ?_
      rw [List.getD_eq_getElem?_getD, List.getElem?_eq_getElem hlt]
      exact List.getElem_mem hlt
    rw [drop_at l z24 n hlt]
    have next := ih (n + 1) (a.set n (cvO (l.getD n z24))) (by omega) (by rw [List.length_set]; exact ha)
    rw [take_set a n _ (by omega), List.append_assoc] at next
    refine Ev.step (fun k => by simp only [laws_toOccS.l0]; rw [if_pos (by omega), if_pos (by omega), w_succ (by omega), hr, Int.toNat_natCast]) ?_
    refine Ev.bind (toOcc_ev _ hx) (Ev.pos (by omega) ?_)
    rw [List.map_cons]
    exact next
theorem toOccS_ev (l : List S24) (hl : FewO l) : Ev (fun k => laws_toOccS.f k l) (l.map cvO) := by
  have hlen := hl.len
  unfold laws_toOccS.f
  refine Ev.pos (by omega) (Ev.pos (by omega) ?_)
  have := toOccS_l0_ev l hl l.length 0 (List.replicate l.length z27) (by omega) (by simp)
  rw [Int.toNat_natCast]
  exact this
theorem short_map (l : List S24) (hl : FewO l) : Short (l.map cvO) := by
  intro x hx
  obtain ⟨y, hy, rfl⟩ := List.mem_map.1 hx
  have := hl.ids y hy
  show y.f2.length ≤ _
  omega

theorem eqOcc_ev (o : S27) (hl : o.f2.length ≤ 9223372036854775806) : Ev (fun k => laws_eqOcc.f k o.f0 o.f1 o.f2 o.f0 o.f1 o.f2) true := by
  unfold laws_eqOcc.f
  exact Ev.pos rfl (Ev.pos rfl (Ev.bindS (eqIntS_ev o.f2 (by omega)) rfl))
theorem eqOccS_l0_ev (l : List S27) (hl : l.length ≤ 9223372036854775806) (hs : Short l) : ∀ d n : Nat, n + d = l.length → Ev (fun k => laws_eqOccS.l0 k l l (n : Int)) true := by
  intro d
  induction d with
  | zero =>
    intro n hn
    exact Ev.last (fun k => by simp only [laws_eqOccS.l0]; rw [if_neg (by omega)])
  | succ d ih =>
    intro n hn
    have hr : rd_T27 l (n : Int) = l.getD n z27 := rfl
    refine Ev.step (fun k => by simp only [laws_eqOccS.l0]; rw [if_pos (by omega), if_pos (by omega), if_pos (by omega), hr, w_succ (by omega)]) ?_
    exact Ev.bind (eqOcc_ev _ (hs.at_ n)) (Ev.pos rfl (ih (n + 1) (by omega)))
theorem eqOccS_ev (l : List S27) (hl : l.length ≤ 9223372036854775806) (hs : Short l) : Ev (fun k => laws_eqOccS.f k l l) true := by
  unfold laws_eqOccS.f
  exact Ev.pos rfl (eqOccS_l0_ev l hl hs l.length 0 (by omega))

theorem cmpI_eq : ∀ a b : List Int, cmpI a b = 0 ↔ a = b
  | [], [] => by simp [cmpI]
  | [], _ :: _ => by simp [cmpI]
  | _ :: _, [] => by simp [cmpI]
  | a :: xs, b :: ys => by
    unfold cmpI
    by_cases h1 : a < b
    · rw [if_pos h1]
      constructor
      · intro h; exact absurd h (by decide)
      · intro h; injection h with h _; omega
    rw [if_neg h1]
    by_cases h2 : a > b
    · rw [if_pos h2]
      constructor
      · intro h; exact absurd h (by decide)
      · intro h; injection h with h _; omega
    · rw [if_neg h2, cmpI_eq xs ys]
      have : a = b := by omega
      subst this
      simp
theorem sgn_ne (b : Bool) : sgn b ≠ 0 := by cases b <;> decide
theorem cmpO_eq (a b : S27) : cmpO a b = 0 ↔ a = b := by
  obtain ⟨a0, a1, a2⟩ := a
  obtain ⟨b0, b1, b2⟩ := b
  unfold cmpO
  dsimp only
  by_cases h1 : a1 = b1
  · rw [if_pos h1]
    by_cases h0 : a0 = b0
    · rw [if_pos h0, cmpI_eq]
      subst h1
      subst h0
      simp
    · rw [if_neg h0]
      constructor
      · intro h; exact absurd h (sgn_ne _)
      · intro h; injection h with h _ _; exact absurd h h0
  · rw [if_neg h1]
    constructor
    · intro h; exact absurd h (sgn_ne _)
    · intro h; injection h with _ h _; exact absurd h h1
theorem l3Same_ev (a b : S27) (ha : a.f2.length ≤ 9223372036854775806) (hb : b.f2.length ≤ 9223372036854775806) : Ev (fun k => spec_l3Same.f k a.f0 a.f1 a.f2 b.f0 b.f1 b.f2) (cmpO a b == 0) := by
  have no : a ≠ b → (cmpO a b == 0) = false := fun h => beq_eq_false_iff_ne.2 (fun e => h ((cmpO_eq a b).1 e))
  unfold spec_l3Same.f
  by_cases h0 : a.f0 = b.f0
  · refine Ev.pos h0 ?_
    by_cases h1 : a.f1 = b.f1
    · refine Ev.pos h1 ?_
      by_cases h2 : (a.f2.length : Int) = (b.f2.length : Int)
      · refine Ev.pos h2 (Ev.bindS (l3Ids_ev _ _ ha hb) ?_)
        unfold cmpO
        rw [if_pos h1, if_pos h0]
      · rw [no (fun e => h2 (by rw [e]))]
        exact Ev.neg h2 (Ev.now _)
    · rw [no (fun e => h1 (by rw [e]))]
      exact Ev.neg h1 (Ev.now _)
  · rw [no (fun e => h0 (by rw [e]))]
    exact Ev.neg h0 (Ev.now _)
end Go.Proofs.Ytiplpckgmikmeaa.M
namespace Go.Proofs.Ytiplpckgmikmeaa.M
open Go.RowKit Go.Proofs.YtiplpckgmikmeaaW.PrintWords Go.Proofs.YtiplpckgmikmeaaW.PrintLast Go.Proofs.YtiplpckgmikmeaaW.PrintMore
attribute [local go_sem] max2_int min2_int max_two min_two max_three min_three max_four min_four
set_option linter.unusedVariables false
set_option linter.unusedSimpArgs false


end Go.Proofs.Ytiplpckgmikmeaa.M
namespace Go.Proofs.Ytiplpckgmikmeaa.M
set_option linter.unusedVariables false
set_option linter.unusedSimpArgs false
open Go.RowKit Go.Proofs.YtiplpckgmikmeaaW.PrintWords Go.Proofs.YtiplpckgmikmeaaW.PrintLast

def putIx (l : List S27) (o : S27) : Nat → Nat → Nat
  | 0, i => i
  | d + 1, i => if lessO (l.getD i z27) o = true then putIx l o d (i + 1) else i
def putS (l : List S27) (o : S27) : List S27 := if putIx l o l.length 0 < l.length ∧ (cmpO (l.getD (putIx l o l.length 0) z27) o == 0) = true then l else putIn l (putIx l o l.length 0) o
theorem putAt_ev (l : List S27) (hs : Short l) (o : S27) (ho : o.f2.length ≤ 9223372036854775806) : ∀ d i : Nat, Ev (fun k => putAt (fun x => spec_OccLess.f k x.f0 x.f1 x.f2 o.f0 o.f1 o.f2) l d i) (putIx l o d i) := by
  intro d
  induction d with
  | zero => exact fun i => Ev.now _
  | succ d ih =>
    intro i
    unfold putIx
    refine Ev.bind (spec_OccLess_ev (l.getD i z27) o (hs.at_ i) ho) ?_
    by_cases c : lessO (l.getD i z27) o = true
    · rw [if_pos c]; exact Ev.pos c (ih (i + 1))
    · rw [if_neg c]; exact Ev.neg c (Ev.now _)
theorem l3Put_ev (l : List S27) (hl : l.length < 1099511627776) (hs : Short l) (o : S27) (ho : o.f2.length < 1099511627776) : Ev (fun k => spec_l3Put.f k l o.f0 o.f1 o.f2) (putS l o) := by
  unfold spec_l3Put.f
  refine Ev.pos ⟨hl, ho⟩ (Ev.bind (putAt_ev l hs o (by omega) l.length 0) ?_)
  unfold putS
  by_cases c : putIx l o l.length 0 < l.length
  · refine Ev.pos c (Ev.bindS (l3Same_ev (l.getD (putIx l o l.length 0) z27) o (hs.at_ _) (by omega)) ?_)
    by_cases e : (cmpO (l.getD (putIx l o l.length 0) z27) o == 0) = true
    · rw [if_pos e, if_pos ⟨c, e⟩]
    · rw [if_neg e, if_neg (fun h => e h.2)]
  · refine Ev.neg c (Ev.val (Ev.now _) ?_)
    rw [if_neg (fun h => c h.1)]
theorem putS_mem {l : List S27} {o x : S27} (h : x ∈ putS l o) : x ∈ l ∨ x = o := by
  unfold putS at h
  by_cases c : putIx l o l.length 0 < l.length ∧ (cmpO (l.getD (putIx l o l.length 0) z27) o == 0) = true
  · rw [if_pos c] at h; exact .inl h
  rw [if_neg c] at h
  unfold putIn at h
  rcases List.mem_append.1 h with h | h
  · rcases List.mem_append.1 h with h | h
    · exact .inl (List.mem_of_mem_take h)
    · exact .inr (List.mem_singleton.1 h)
  · exact .inl (List.mem_of_mem_drop h)
def Few (l : List S27) : Prop := ∀ x ∈ l, x.f2.length ≤ 100
theorem Few.short {l : List S27} (h : Few l) : Short l := fun x hx => Nat.le_trans (h x hx) (by omega)
theorem Few.put {l : List S27} (h : Few l) {o : S27} (ho : o.f2.length ≤ 100) : Few (putS l o) := fun x hx => (putS_mem hx).elim (h x) (fun e => by rw [e]; exact ho)
theorem Few.at_ {l : List S27} (h : Few l) (i : Int) : (rd_T27 l i).f2.length ≤ 100 := by
  show (l.getD i.toNat z27).f2.length ≤ 100
  rw [List.getD_eq_getElem?_getD]
  rcases Nat.lt_or_ge i.toNat l.length with hi | hi
  · rw [List.getElem?_eq_getElem hi]
    exact h _ (List.getElem_mem hi)
  · rw [List.getElem?_eq_none hi]
    decide
theorem Few.set {l : List S27} (h : Few l) (i : Nat) {o : S27} (ho : o.f2.length ≤ 100) : Few (l.set i o) := fun x hx => by
  rcases List.mem_or_eq_of_mem_set hx with hx | hx
  · exact h x hx
  · rw [hx]; exact ho
end Go.Proofs.Ytiplpckgmikmeaa.M
namespace Go.Proofs.Ytiplpckgmikmeaa.M
open Go.RowKit Go.Proofs.YtiplpckgmikmeaaW.PrintWords Go.Proofs.YtiplpckgmikmeaaW.PrintLast Go.Proofs.YtiplpckgmikmeaaW.PrintMore
attribute [local go_sem] max2_int min2_int max_two min_two max_three min_three max_four min_four
set_option linter.unusedVariables false
set_option linter.unusedSimpArgs false

end Go.Proofs.Ytiplpckgmikmeaa.M
namespace Go.Proofs.Ytiplpckgmikmeaa.M
set_option linter.unusedVariables false
set_option linter.unusedSimpArgs false
open Go.RowKit Go.Proofs.YtiplpckgmikmeaaW.PrintWords Go.Proofs.YtiplpckgmikmeaaW.PrintLast

theorem cmpI_trans : ∀ a b c : List Int, cmpI a b < 0 → cmpI b c < 0 → cmpI a c < 0
  | [], [], _, h, _ => by simp [cmpI] at h
  | [], _ :: _, [], _, h => by simp [cmpI] at h
  | [], _ :: _, _ :: _, _, _ => by simp [cmpI]
  | _ :: _, [], _, h, _ => by simp [cmpI] at h
  | _ :: _, _ :: _, [], _, h => by simp [cmpI] at h
  | x :: a, y :: b, z :: c, h1, h2 => by
    unfold cmpI at h1 h2 ⊢
    have ih := cmpI_trans a b c
    split at h1 <;> split at h2 <;> first | omega | (split at h1 <;> split at h2 <;> first | omega | (split <;> first | omega | (split <;> first | omega | exact ih (by omega) (by omega))))
theorem sgn_neg (b : Bool) : sgn b < 0 ↔ b = true := by cases b <;> decide
theorem lessO_iff (a b : S27) : lessO a b = true ↔ a.f1 < b.f1 ∨ (a.f1 = b.f1 ∧ (a.f0 < b.f0 ∨ (a.f0 = b.f0 ∧ cmpI a.f2 b.f2 < 0))) := by
  unfold lessO cmpO
  rw [decide_eq_true_iff]
  by_cases h1 : a.f1 = b.f1
  rotate_left
  · rw [if_neg h1, sgn_neg, decide_eq_true_iff]
    constructor
    · exact fun h => .inl h
    · rintro (h | ⟨h, _⟩)
      · exact h
      · exact absurd h h1
  rw [if_pos h1]
  by_cases h0 : a.f0 = b.f0
  · rw [if_pos h0]
    constructor
    · exact fun h => .inr ⟨h1, .inr ⟨h0, h⟩⟩
    rintro (h | ⟨_, h | ⟨_, h⟩⟩)
    · omega
    · omega
    · exact h
  · rw [if_neg h0, sgn_neg, decide_eq_true_iff]
    constructor
    · exact fun h => .inr ⟨h1, .inl h⟩
    rintro (h | ⟨_, h | ⟨h, _⟩⟩)
    · omega
    · exact h
    · exact absurd h h0
theorem lessO_trans {a b c : S27} (h1 : lessO a b = true) (h2 : lessO b c = true) : lessO a c = true := by
  rw [lessO_iff] at h1 h2 ⊢
  rcases h1 with h1 | ⟨e1, h1⟩
  · rcases h2 with h2 | ⟨e2, h2⟩
    · exact .inl (by omega)
    · exact .inl (by omega)
  rcases h2 with h2 | ⟨e2, h2⟩
  · exact .inl (by omega)
  refine .inr ⟨by omega, ?_⟩
  rcases h1 with h1 | ⟨d1, h1⟩
  · rcases h2 with h2 | ⟨d2, h2⟩
    · exact .inl (by omega)
    · exact .inl (by omega)
  · rcases h2 with h2 | ⟨d2, h2⟩
    · exact .inl (by omega)
    · exact .inr ⟨by omega, cmpI_trans _ _ _ h1 h2⟩
abbrev AscO (l : List S27) : Prop := l.Pairwise (fun x y => lessO x y = true)
def insO : List S27 → S27 → List S27
  | [], o => [o]
  | x :: l, o => if lessO x o = true then x :: insO l o else if (cmpO x o == 0) = true then x :: l else o :: x :: l
theorem same_eq {a b : S27} : (cmpO a b == 0) = true ↔ a = b := by rw [beq_iff_eq]; exact cmpO_eq a b
theorem mem_insO (z : S27) : ∀ (l : List S27) (o : S27), z ∈ insO l o ↔ z ∈ l ∨ z = o
  | [], o => by simp [insO]
  | x :: l, o => by
    unfold insO
    have ih := mem_insO z l o
    split
    · rw [List.mem_cons, List.mem_cons, ih, or_assoc]
    split
    · rename_i h
      have e := same_eq.1 h
      subst e
      constructor
      · exact fun hz => .inl hz
      · rintro (hz | rfl)
        · exact hz
        · simp
    · rw [List.mem_cons]
      constructor
      · rintro (hz | hz)
        · exact .inr hz
        · exact .inl hz
      · rintro (hz | hz)
        · exact .inr hz
        · exact .inl hz
theorem len_insO : ∀ (l : List S27) (o : S27), (insO l o).length ≤ l.length + 1
  | [], o => by simp [insO]
  | x :: l, o => by
    have ih := len_insO l o
    unfold insO
    split
    · simp only [List.length_cons]; omega
    · split <;> simp only [List.length_cons] <;> omega
def ahead (l : List S27) (o : S27) : Nat := (l.takeWhile (fun x => lessO x o)).length
theorem ahead_le (l : List S27) (o : S27) : ahead l o ≤ l.length := (List.takeWhile_sublist _).length_le
theorem putIx_ahead (l : List S27) (o : S27) : ∀ d i : Nat, i + d = l.length → putIx l o d i = i + ahead (l.drop i) o
  | 0, i, h => by
    unfold putIx ahead
    rw [List.drop_of_length_le (by omega)]
    simp
  | d + 1, i, h => by
    have ih := putIx_ahead l o d (i + 1) (by omega)
    unfold putIx
    rw [drop_at l z27 i (by omega)]
    unfold ahead at ih ⊢
    by_cases c : lessO (l.getD i z27) o = true
    · rw [if_pos c, ih, List.takeWhile_cons, if_pos c, List.length_cons]; omega
    · rw [if_neg c, List.takeWhile_cons, if_neg c]; simp
def putN (l : List S27) (o : S27) (n : Nat) : List S27 := if n < l.length ∧ (cmpO (l.getD n z27) o == 0) = true then l else putIn l n o
theorem putN_ins : ∀ (l : List S27) (o : S27), putN l o (ahead l o) = insO l o
  | [], o => by simp [putN, ahead, insO, putIn]
  | x :: l, o => by
    have ih := putN_ins l o
    unfold insO
    by_cases c : lessO x o = true
    · have e : ahead (x :: l) o = ahead l o + 1 := by unfold ahead; rw [List.takeWhile_cons, if_pos c, List.length_cons]
      rw [if_pos c, e, ← ih]
      unfold putN
      rw [List.getD_cons_succ, List.length_cons]
      by_cases c2 : ahead l o < l.length ∧ (cmpO (l.getD (ahead l o) z27) o == 0) = true
      · rw [if_pos c2, if_pos ⟨by omega, c2.2⟩]
      · rw [if_neg c2, if_neg (fun h => c2 ⟨by omega, h.2⟩)]
        simp [putIn]
    · have e : ahead (x :: l) o = 0 := by unfold ahead; rw [List.takeWhile_cons, if_neg c]; rfl
      rw [if_neg c, e]
      unfold putN
      rw [List.getD_cons_zero]
      by_cases c2 : (cmpO x o == 0) = true
      · rw [if_pos ⟨by simp, c2⟩, if_pos c2]
      · rw [if_neg (fun h => c2 h.2), if_neg c2]
        simp [putIn]
theorem putS_ins (l : List S27) (o : S27) : putS l o = insO l o := by
  rw [← putN_ins]
  unfold putS putN
  rw [putIx_ahead l o l.length 0 (by omega), List.drop_zero, Nat.zero_add]
theorem ahead_is {l : List S27} {o : S27} {n : Nat} (hn : n ≤ l.length) (h1 : ∀ m, m < n → lessO (l.getD m z27) o = true) (h2 : n < l.length → ¬ lessO (l.getD n z27) o = true) : ahead l o = n := by
  induction l generalizing n with
  | nil => simp only [List.length_nil] at hn; simp [ahead]; omega
  | cons x l ih =>
    unfold ahead
    cases n with
    | zero =>
      have := h2 (by simp)
      rw [List.getD_cons_zero] at this
      rw [List.takeWhile_cons, if_neg this]; rfl
    | succ n =>
      have hx := h1 0 (by omega)
      rw [List.getD_cons_zero] at hx
      rw [List.takeWhile_cons, if_pos hx, List.length_cons]
      have := ih (n := n) (by simpa using hn) (fun m hm => by have := h1 (m + 1) (by omega); rwa [List.getD_cons_succ] at this) (fun hlt => by have := h2 (by simpa using hlt); rwa [List.getD_cons_succ] at this)
      unfold ahead at this
      omega
theorem asc_at {l : List S27} (h : AscO l) {i j : Nat} (hij : i < j) (hj : j < l.length) : lessO (l.getD i z27) (l.getD j z27) = true := by
  rw [getD_in (by omega), getD_in hj]
  exact List.pairwise_iff_getElem.1 h i j (by omega) hj hij
theorem u64_small {n : Int} (h0 : 0 ≤ n) (h1 : n ≤ 9223372036854775807) : IntKind.u64.wrap n = n := by
  simp only [IntKind.wrap, IntKind.bits, IntKind.signed]
  simp
  omega
def foundO (l : List S27) (o : S27) : Bool := decide (ahead l o < l.length) && (cmpO (l.getD (ahead l o) z27) o == 0)
section
variable (l : List S27) (hl : l.length < 1099511627776) (hs : Short l) (hA : AscO l) (o : S27) (ho : o.f2.length ≤ 9223372036854775806)
include hs ho in
theorem search_end (i : Nat) (hj : i ≤ l.length) (h1 : ∀ m, m < i → lessO (l.getD m z27) o = true) (h2 : ∀ m, i ≤ m → m < l.length → ¬ lessO (l.getD m z27) o = true) :
    Ev (fun k => impl_Occ_105.l0 k l (l.length : Int) (i : Int) (i : Int) o.f0 o.f1 o.f2) ((ahead l o : Int), foundO l o) := by
  have e : ahead l o = i := ahead_is hj h1 (fun hlt => h2 i (Nat.le_refl _) hlt)
  unfold foundO
  rw [e]
  clear h1 h2 e
  refine Ev.step (fun k => by simp only [impl_Occ_105.l0]; rw [if_neg (Int.lt_irrefl _)]) ?_
  by_cases c : i < l.length
  · refine Ev.pos (by omega) (Ev.pos (by omega) (Ev.pos (by omega) ?_))
    refine Ev.bindS (impl_compare_ev (rd_T27 l (i : Int)) o (hs.at_ i) ho) ?_
    rw [decide_eq_true c, Bool.true_and]
    rfl
  · refine Ev.neg (by omega) (Ev.val (Ev.now _) ?_)
    rw [decide_eq_false c, Bool.false_and]
theorem half_is (i j : Nat) (h : i ≤ j) (hj : j ≤ 1099511627776) : wrap64 ((IntKind.u64.wrap (wrap64 ((i : Int) + (j : Int)))) / 2) = (((i + j) / 2 : Nat) : Int) := by
  rw [w_small (i := (i : Int) + (j : Int)) (by omega) (by omega), u64_small (by omega) (by omega), w_small (by omega) (by omega)]
  omega
include hl hs hA ho in
theorem search_ev : ∀ (d i j : Nat), j - i ≤ d → i ≤ j → j ≤ l.length → (∀ m, m < i → lessO (l.getD m z27) o = true) → (∀ m, j ≤ m → m < l.length → ¬ lessO (l.getD m z27) o = true) →
    Ev (fun k => impl_Occ_105.l0 k l (l.length : Int) (i : Int) (j : Int) o.f0 o.f1 o.f2) ((ahead l o : Int), foundO l o) := by
  intro d
  induction d with
  | zero =>
    intro i j hd hij hj h1 h2
    obtain rfl : i = j := by omega
    exact search_end l hs o ho i hj h1 h2
  | succ d ih =>
    intro i j hd hij hj h1 h2
    by_cases c : i < j
    rotate_left
    · obtain rfl : i = j := by omega
      exact search_end l hs o ho i hj h1 h2
    obtain ⟨h, hh⟩ : ∃ h, h = (i + j) / 2 := ⟨_, rfl⟩
    have hb1 : i ≤ h := by omega
    have hb2 : h < j := by omega
    have hw := half_is i j hij (by omega)
    rw [← hh] at hw
    clear hh
    have ci : (i : Int) < (j : Int) := by omega
    refine Ev.step (fun k => by simp only [impl_Occ_105.l0]; rw [if_pos ci, hw]) ?_
    have c0 : (0 : Int) ≤ (h : Int) := by omega
    have c1 : (h : Int) < (l.length : Int) := by omega
    refine Ev.pos c0 (Ev.pos c1 ?_)
    refine Ev.bind (impl_compare_ev (rd_T27 l (h : Int)) o (hs.at_ h) ho) ?_
    have er : rd_T27 l (h : Int) = l.getD h z27 := rfl
    rw [er]
    by_cases c2 : cmpO (l.getD h z27) o < 0
    · have hw2 : wrap64 ((h : Int) + 1) = ((h + 1 : Nat) : Int) := by rw [w_small (by omega) (by omega)]; omega
      refine Ev.pos c2 ?_
      rw [hw2]
      have hlo : lessO (l.getD h z27) o = true := decide_eq_true c2
      have g1 : ∀ m, m < h + 1 → lessO (l.getD m z27) o = true := fun m hm => by
        rcases Nat.lt_or_ge m h with hlt | hge
        · exact lessO_trans (asc_at hA hlt (by omega)) hlo
        · obtain rfl : m = h := by omega
          exact hlo
      exact ih (h + 1) j (by omega) (by omega) hj g1 h2
    · refine Ev.neg c2 ?_
      have hlo : ¬ lessO (l.getD h z27) o = true := fun hx => c2 (of_decide_eq_true hx)
      have g2 : ∀ m, h ≤ m → m < l.length → ¬ lessO (l.getD m z27) o = true := fun m hm hml hx => by
        rcases Nat.lt_or_ge h m with hlt | hge
        · exact hlo (lessO_trans (asc_at hA hlt hml) hx)
        · obtain rfl : m = h := by omega
          exact hlo hx
      exact ih i h (by omega) (by omega) (by omega) h1 g2
include hl hs hA ho in
theorem impl_put_ev : Ev (fun k => impl_put.f k l o.f0 o.f1 o.f2) (insO l o) := by
  unfold impl_put.f
  have c := hl
  have h := search_ev l hl hs hA o ho l.length 0 l.length (by omega) (by omega) (Nat.le_refl _) (fun m hm => by omega) (fun m hm hml => by omega)
  refine Ev.pos c (Ev.bind h ?_)
  rw [← putN_ins]
  unfold putN
  have ha := ahead_le l o
  by_cases c2 : ahead l o < l.length ∧ (cmpO (l.getD (ahead l o) z27) o == 0) = true
  · rw [if_pos c2]
    refine Ev.pos ?_ (Ev.now _)
    unfold foundO
    rw [decide_eq_true c2.1, c2.2]; rfl
  rw [if_neg c2]
  refine Ev.neg (fun hx => c2 ?_) (Ev.pos ⟨by omega, by omega⟩ (Ev.val (Ev.now _) ?_))
  · have hx' : foundO l o = true := hx
    unfold foundO at hx'
    rw [Bool.and_eq_true] at hx'
    exact ⟨of_decide_eq_true hx'.1, hx'.2⟩
  · rw [Int.toNat_natCast]
end
end Go.Proofs.Ytiplpckgmikmeaa.M
namespace Go.Proofs.Ytiplpckgmikmeaa.M
open Go.RowKit Go.Proofs.YtiplpckgmikmeaaW.PrintWords Go.Proofs.YtiplpckgmikmeaaW.PrintLast Go.Proofs.YtiplpckgmikmeaaW.PrintMore
attribute [local go_sem] max2_int min2_int max_two min_two max_three min_three max_four min_four
set_option linter.unusedVariables false
set_option linter.unusedSimpArgs false


end Go.Proofs.Ytiplpckgmikmeaa.M
namespace Go.Proofs.Ytiplpckgmikmeaa.M
set_option linter.unusedVariables false
set_option linter.unusedSimpArgs false
open Go.RowKit Go.Proofs.YtiplpckgmikmeaaW.PrintWords Go.Proofs.YtiplpckgmikmeaaW.PrintLast

def Mid (l : List S27) : Prop := ∀ x ∈ l, x.f2.length ≤ 1048576
theorem Mid.short {l : List S27} (h : Mid l) : Short l := fun x hx => Nat.le_trans (h x hx) (by omega)
theorem Mid.at_ {l : List S27} (h : Mid l) (i : Int) : (rd_T27 l i).f2.length ≤ 1048576 := by
  unfold rd_T27
  rw [List.getD_eq_getElem?_getD]
  rcases hx : l[i.toNat]? with _ | x
  · decide
  · exact h x (List.mem_of_getElem? hx)
theorem Mid.ins {l : List S27} (h : Mid l) {o : S27} (ho : o.f2.length ≤ 1048576) : Mid (insO l o) := fun x hx => by
  rcases (mem_insO x l o).1 hx with hx | rfl
  · exact h x hx
  · exact ho
theorem clone_is (o : S27) (ho : o.f2.length ≤ 1048576) : impl_Occ_clone.f o.f0 o.f1 o.f2 = some (o.f0, o.f1, o.f2) := by
  unfold impl_Occ_clone.f
  rw [if_pos (by rw [List.length_nil]; omega), List.nil_append]
theorem l3Copy_is (o : S27) (ho : o.f2.length ≤ 1048576) : spec_l3Copy.f o.f0 o.f1 o.f2 = some (o.f0, o.f1, o.f2) := by
  unfold spec_l3Copy.f
  simp only [Option.bind_some, List.nil_append, List.length_nil]
  rw [if_pos (by omega)]
theorem take_next (l : List S27) (n : Nat) (h : n < l.length) : l.take n ++ [rd_T27 l (n : Int)] = l.take (n + 1) := by
  have e : rd_T27 l (n : Int) = l[n] := by
    show l.getD n z27 = l[n]
    exact getD_in h
  rw [e, List.take_succ_eq_append_getElem h]
section
variable (l : List S27) (hl : l.length ≤ 1048576) (hs : Mid l)
include hl hs
theorem cloneOccs_l0_ev : ∀ d n : Nat, n + d = l.length → Ev (fun k => impl_cloneOccs.l0 k (l.take n) l (l.length : Int) (n : Int)) l := by
  intro d
  induction d with
  | zero =>
    intro n h
    refine Ev.step (fun k => by simp only [impl_cloneOccs.l0]; rw [if_neg (by omega)]) (Ev.val (Ev.now _) ?_)
    exact List.take_of_length_le (by omega)
  | succ d ih =>
    intro n h
    have hw : wrap64 ((n : Int) + 1) = ((n + 1 : Nat) : Int) := by rw [w_small (by omega) (by omega)]; omega
    refine Ev.step (fun k => by simp only [impl_cloneOccs.l0]; rw [if_pos (by omega), if_pos (by omega), if_pos (by omega), hw]) ?_
    refine Ev.bind (Ev.one (fun _ => clone_is _ (hs.at_ (n : Int)))) ?_
    refine Ev.pos (by rw [List.length_take]; omega) ?_
    rw [take_next l n (by omega)]
    exact ih (n + 1) (by omega)
theorem cloneOccs_ev : Ev (fun k => impl_cloneOccs.f k l) l := cloneOccs_l0_ev l hl hs l.length 0 (by omega)
theorem l3List_l0_ev : ∀ d n : Nat, n + d = l.length → Ev (fun k => spec_l3List.l0 k l (l.take n) (n : Int)) l := by
  intro d
  induction d with
  | zero =>
    intro n h
    refine Ev.step (fun k => by simp only [spec_l3List.l0]; rw [if_neg (by omega)]) (Ev.val (Ev.now _) ?_)
    exact List.take_of_length_le (by omega)
  | succ d ih =>
    intro n h
    have hw : wrap64 ((n : Int) + 1) = ((n + 1 : Nat) : Int) := by rw [w_small (by omega) (by omega)]; omega
    refine Ev.step (fun k => by simp only [spec_l3List.l0]; rw [if_pos (by omega), if_pos (by omega), hw]) ?_
    refine Ev.bind (Ev.one (fun _ => l3Copy_is _ (hs.at_ (n : Int)))) ?_
    refine Ev.pos (by rw [List.length_take]; omega) ?_
    rw [take_next l n (by omega)]
    exact ih (n + 1) (by omega)
theorem l3List_ev : Ev (fun k => spec_l3List.f k l) l := l3List_l0_ev l hl hs l.length 0 (by omega)
end
section
variable (a b : List S27) (ha : a.length + b.length ≤ 1048576) (hs : Mid a) (ht : Mid b)
include ha hs ht
end
theorem occsGo_asc : ∀ (l : List S27) (p : Option S27), occsGo p l = true ↔ AscO l ∧ (∀ x ∈ l, occOkB x = true) ∧ (∀ y, p = some y → ∀ x ∈ l, lessO y x = true)
  | [], p => by simp [occsGo, AscO]
  | x :: l, p => by
    have ih := occsGo_asc l (some x)
    have e : occsGo p (x :: l) = true ↔ occOkB x = true ∧ (∀ y, p = some y → lessO y x = true) ∧ occsGo (some x) l = true := by
      cases p with
      | none =>
        rw [show occsGo none (x :: l) = (occOkB x && occsGo (some x) l) from rfl]
        simp
      | some y =>
        rw [show occsGo (some y) (x :: l) = (occOkB x && (lessO y x && occsGo (some x) l)) from rfl]
        simp
    rw [e, ih]
    unfold AscO
    rw [List.pairwise_cons]
    constructor
    · rintro ⟨h1, h2, h3, h4, h5⟩
      refine ⟨⟨h5 x rfl, h3⟩, fun z hz => ?_, fun y hy z hz => ?_⟩
      · rcases List.mem_cons.1 hz with rfl | hz
        · exact h1
        · exact h4 z hz
      · rcases List.mem_cons.1 hz with rfl | hz
        · exact h2 y hy
        · exact lessO_trans (h2 y hy) (h5 x rfl z hz)
    · rintro ⟨⟨h1, h2⟩, h3, h4⟩
      exact ⟨h3 x (by simp), fun y hy => h4 y hy x (by simp), h2, fun z hz => h3 z (by simp [hz]), fun y hy => by injection hy with hy; subst hy; exact h1⟩
theorem occsOkB_iff (l : List S27) : occsOkB l = true ↔ AscO l ∧ (∀ x ∈ l, occOkB x = true) ∧ l.length ≤ 40 := by
  unfold occsOkB
  rw [Bool.and_eq_true, occsGo_asc, decide_eq_true_iff]
  constructor
  · rintro ⟨⟨h1, h2, _⟩, h3⟩
    exact ⟨h1, h2, h3⟩
  · rintro ⟨h1, h2, h3⟩
    exact ⟨⟨h1, h2, fun y hy => by cases hy⟩, h3⟩
def putO (l : List S27) (o : S27) : List S27 := if occsOkB l = true ∧ occOkB o = true then insO l o else []
theorem impl_OccsPut_ev (l : List S27) (hl : l.length ≤ 1048576) (hs : Mid l) (o : S27) (ho : o.f2.length ≤ 1048576) : Ev (fun k => impl_OccsPut.f k l o.f0 o.f1 o.f2) (putO l o) := by
  unfold impl_OccsPut.f putO
  refine Ev.bind (impl_OccsOk_ev l (by omega) hs.short) ?_
  by_cases c : occsOkB l = true
  · refine Ev.pos c (Ev.bind (impl_OccOk_ev o (by omega)) ?_)
    by_cases c2 : occOkB o = true
    · rw [if_pos ⟨c, c2⟩]
      obtain ⟨h1, h2, h3⟩ := (occsOkB_iff l).1 c
      refine Ev.pos c2 (Ev.bind (impl_put_ev l (by omega) hs.short h1 o (by omega)) ?_)
      exact cloneOccs_ev _ (by have := len_insO l o; omega) (hs.ins ho)
    · rw [if_neg (fun h => c2 h.2)]
      exact Ev.neg c2 (Ev.now _)
  · rw [if_neg (fun h => c h.1)]
    exact Ev.neg c (Ev.now _)
theorem spec_OccsPut_ev (l : List S27) (hl : l.length ≤ 1048576) (hs : Mid l) (o : S27) (ho : o.f2.length ≤ 1048576) : Ev (fun k => spec_OccsPut.f k l o.f0 o.f1 o.f2) (putO l o) := by
  unfold spec_OccsPut.f putO
  refine Ev.bind (spec_OccsOk_ev l (by omega) hs.short) ?_
  by_cases c : occsOkB l = true
  · refine Ev.pos c (Ev.bind (spec_OccOk_ev o (by omega)) ?_)
    by_cases c2 : occOkB o = true
    · rw [if_pos ⟨c, c2⟩]
      refine Ev.pos c2 (Ev.bind (l3List_ev l hl hs) ?_)
      exact Ev.val (l3Put_ev l (by omega) hs.short o (by omega)) (putS_ins l o)
    · rw [if_neg (fun h => c2 h.2)]
      exact Ev.neg c2 (Ev.now _)
  · rw [if_neg (fun h => c h.1)]
    exact Ev.neg c (Ev.now _)
def totO : List S27 → Nat
  | [] => 0
  | x :: r => 2 + x.f2.length + totO r
def mkO : List S27 → Int → List S27
  | [], _ => []
  | x :: r, c => ⟨c, c + 1, iMarks x.f2.length (c + 2)⟩ :: mkO r (c + ((2 + x.f2.length : Nat) : Int))
theorem totO_le : ∀ l : List S27, Mid l → totO l ≤ l.length * 1048578
  | [], _ => Nat.zero_le _
  | x :: r, h => by
    have h1 := h x List.mem_cons_self
    have h2 := totO_le r (fun y hy => h y (List.mem_cons_of_mem _ hy))
    rw [totO, List.length_cons, Nat.succ_mul]
    omega
theorem at_pre (pre r : List S27) (x : S27) : rd_T27 (pre ++ x :: r) (pre.length : Int) = x := by
  show (pre ++ x :: r).getD pre.length z27 = x
  simp [List.getD_eq_getElem?_getD]
theorem markOccS_l0_ev : ∀ (rest pre : List S27) (c : Int), Mid rest → (pre ++ rest).length ≤ 1099511627776 → 0 ≤ c → c + (totO rest : Int) ≤ 1125899906842624 → Ev (fun k => laws_markOccS.l0 k (pre ++ rest) c (pre.length : Int)) (c + (totO rest : Int), pre ++ mkO rest c)
  | [], pre, c, _, hl, h0, h1 => by
    rw [List.append_nil] at hl ⊢
    refine Ev.last (fun k => ?_)
    simp only [laws_markOccS.l0]
    rw [if_neg (by omega)]
    simp [totO, mkO]
  | x :: r, pre, c, hm, hl, h0, h1 => by
    have hx := hm x List.mem_cons_self
    have ht : totO (x :: r) = 2 + x.f2.length + totO r := rfl
    have hlen : (pre ++ x :: r).length = pre.length + r.length + 1 := by simp; omega
    have w1 : wrap64 (c + 1) = c + 1 := w_small (by omega) (by omega)
    have w2 : wrap64 (c + 1 + 1) = c + 1 + 1 := w_small (by omega) (by omega)
    have w3 : wrap64 ((pre.length : Int) + 1) = ((pre ++ [(⟨c, c + 1, iMarks x.f2.length (c + 1 + 1)⟩ : S27)]).length : Int) := by
      rw [w_small (by omega) (by omega), List.length_append, List.length_singleton]; omega
    have hi := markIntS_ev x.f2 (c + 1 + 1) (by omega) (by omega) (by omega)
    have ih := markOccS_l0_ev r (pre ++ [(⟨c, c + 1, iMarks x.f2.length (c + 1 + 1)⟩ : S27)]) (c + 1 + 1 + (x.f2.length : Int)) (fun y hy => hm y (List.mem_cons_of_mem _ hy)) (by simp; omega) (by omega) (by omega)
    have hset : (pre ++ x :: r).set (pre.length : Int).toNat (⟨c, c + 1, iMarks x.f2.length (c + 1 + 1)⟩ : S27) = pre ++ [(⟨c, c + 1, iMarks x.f2.length (c + 1 + 1)⟩ : S27)] ++ r := by
      rw [Int.toNat_natCast]; simp
    refine Ev.step (fun k => by simp only [laws_markOccS.l0]; rw [if_pos (by omega), if_pos (by omega), at_pre, w1, w2]) ?_
    refine Ev.bind hi ?_
    simp only [hset, w3]
    refine Ev.val ih ?_
    have e2 : c + 1 + 1 + (x.f2.length : Int) = c + ((2 + x.f2.length : Nat) : Int) := by omega
    have e3 : c + 1 + 1 = c + 2 := by omega
    rw [e2, e3, List.append_assoc]
    refine Prod.ext ?_ rfl
    show c + ((2 + x.f2.length : Nat) : Int) + (totO r : Int) = c + (totO (x :: r) : Int)
    omega
theorem markOccS_ev (l : List S27) (c : Int) (hm : Mid l) (hl : l.length ≤ 1099511627776) (h0 : 0 ≤ c) (h1 : c + (totO l : Int) ≤ 1125899906842624) : Ev (fun k => laws_markOccS.f k l c) (c + (totO l : Int), mkO l c) := by
  unfold laws_markOccS.f
  exact markOccS_l0_ev l [] c hm hl h0 h1
theorem mkO_len : ∀ (l : List S27) (c : Int), (mkO l c).length = l.length
  | [], _ => rfl
  | x :: r, c => by rw [mkO, List.length_cons, List.length_cons, mkO_len r]
theorem heldOccS_l0_ev : ∀ (rest pre : List S27) (c : Int), Mid rest → (pre ++ rest).length ≤ 1099511627776 → 0 ≤ c → c + (totO rest : Int) ≤ 1125899906842624 → Ev (fun k => laws_heldOccS.l0 k (pre ++ mkO rest c) c (pre.length : Int)) (c + (totO rest : Int))
  | [], pre, c, _, hl, h0, h1 => by
    refine Ev.last (fun k => ?_)
    simp only [laws_heldOccS.l0, mkO, List.append_nil]
    rw [if_neg (by omega)]
    simp [totO]
  | x :: r, pre, c, hm, hl, h0, h1 => by
    have hx := hm x List.mem_cons_self
    have ht : totO (x :: r) = 2 + x.f2.length + totO r := rfl
    have w1 : wrap64 (c + 1) = c + 1 := w_small (by omega) (by omega)
    have w2 : wrap64 (c + 1 + 1) = c + 2 := by rw [w_small (by omega) (by omega)]; omega
    have hl' : pre.length + r.length + 1 ≤ 1099511627776 := by simp at hl; omega
    have e2 : c + 2 + (x.f2.length : Int) = c + ((2 + x.f2.length : Nat) : Int) := by omega
    have hi := heldIntS_ev x.f2.length (c + 2) (by omega) (by omega) (by omega)
    have ih := heldOccS_l0_ev r (pre ++ [(⟨c, c + 1, iMarks x.f2.length (c + 2)⟩ : S27)]) (c + ((2 + x.f2.length : Nat) : Int)) (fun y hy => hm y (List.mem_cons_of_mem _ hy)) (by simp; omega) (by omega) (by omega)
    have w3 : wrap64 ((pre.length : Int) + 1) = ((pre ++ [(⟨c, c + 1, iMarks x.f2.length (c + 2)⟩ : S27)]).length : Int) := by
      rw [w_small (by omega) (by omega), List.length_append, List.length_singleton]; omega
    have hm' : mkO (x :: r) c = ⟨c, c + 1, iMarks x.f2.length (c + 2)⟩ :: mkO r (c + ((2 + x.f2.length : Nat) : Int)) := rfl
    have hlen : (pre ++ (⟨c, c + 1, iMarks x.f2.length (c + 2)⟩ : S27) :: mkO r (c + ((2 + x.f2.length : Nat) : Int))).length = pre.length + r.length + 1 := by simp [mkO_len]; omega
    rw [hm']
    refine Ev.step (fun k => by simp only [laws_heldOccS.l0]; rw [if_pos (by omega), if_pos (by omega), at_pre, if_pos rfl, w1, if_pos rfl, w2]) ?_
    refine Ev.bind hi (Ev.neg (by omega) ?_)
    simp only [w3, e2]
    rw [List.append_assoc] at ih
    refine Ev.val ih ?_
    omega
theorem heldOccS_ev (l : List S27) (c : Int) (hm : Mid l) (hl : l.length ≤ 1099511627776) (h0 : 0 ≤ c) (h1 : c + (totO l : Int) ≤ 1125899906842624) : Ev (fun k => laws_heldOccS.f k (mkO l c) c) (c + (totO l : Int)) := by
  unfold laws_heldOccS.f
  exact heldOccS_l0_ev l [] c hm hl h0 h1
theorem good_ids (x : S24) (h : good24 x) : x.f2.length ≤ 9223372036854775807 := maxLen_le h.2.2.1
def goodOs (l : List S24) : Prop := l.length ≤ maxLen ∧ ∀ y ∈ l, good24 y
theorem goodOs.short {l : List S24} (h : goodOs l) : ShortL l := fun x hx => good_ids x (h.2 x hx)
theorem goodOs.sz {l : List S24} (h : goodOs l) (a : Int) (h0 : 0 ≤ a) (h1 : a ≤ 1048576) : Ev (fun k => laws_szOccS.f k l a) (leftOf a (allO l)) := szOccS_ev l (maxLen_le h.1) h.short a h0 h1
theorem few_cv {l : List S24} (h : FewO l) : (l.map cvO).length ≤ 1048576 := by rw [List.length_map]; exact h.len

theorem mid_map' (l : List S24) (hl : FewO l) : Mid (l.map cvO) := by
  intro x hx
  obtain ⟨y, hy, rfl⟩ := List.mem_map.1 hx
  exact hl.ids y hy
theorem FnExactOccsPut_pure (l : List S24) (h : l.length ≤ maxLen ∧ ∀ y ∈ l, good24 y) (x : S24) (hx : good24 x) : ∃ k, laws_FnExactOccsPut.f k l x.f0 x.f1 x.f2 = some true := by
  refine Ev.rounds (g := fun k => laws_FnExactOccsPut.f k l x.f0 x.f1 x.f2) ?_
  unfold laws_FnExactOccsPut.f
  refine Ev.bind (goodOs.sz h 1048576 (by omega) (by omega)) ?_
  by_cases hs : ((allO l : Nat) : Int) ≤ 1048576
  rotate_left
  · rw [leftOf_neg hs]
    exact Ev.pos (by omega) (Ev.now _)
  rw [leftOf_pos hs]
  refine Ev.neg (by omega) (Ev.bind (Ev.one (fun _ => szOcc_is x _ (by omega) (by omega) (good_ids x hx))) ?_)
  by_cases hs2 : (x.f2.length : Int) ≤ 1048576 - allO l
  rotate_left
  · rw [leftOf_neg hs2]
    exact Ev.pos (by omega) (Ev.now _)
  rw [leftOf_pos hs2]
  refine Ev.neg (by omega) ?_
  have hf : FewO l := by unfold FewO; omega
  have k1 := few_cv hf
  have k2 := short_map l hf
  have m1 := mid_map' l hf
  have t1 := totO_le _ m1
  have hi : x.f2.length ≤ 1048576 := by omega
  have hg : Mid (putO (l.map cvO) (cvO x)) ∧ (putO (l.map cvO) (cvO x)).length ≤ 1048577 := by
    unfold putO
    by_cases c : occsOkB (l.map cvO) = true ∧ occOkB (cvO x) = true
    · rw [if_pos c]
      refine ⟨fun y hy => ?_, by have := len_insO (l.map cvO) (cvO x); omega⟩
      rcases (mem_insO y _ _).1 hy with hy | rfl
      · exact m1 y hy
      · exact hi
    · rw [if_neg c]; exact ⟨fun y hy => by simp at hy, by simp⟩
  obtain ⟨m3, h3⟩ := hg
  have t3 := totO_le _ m3
  have b1 : totO (l.map cvO) ≤ 1100000000000 := Nat.le_trans t1 (Nat.le_trans (Nat.mul_le_mul_right _ k1) (by omega))
  have b3 : totO (putO (l.map cvO) (cvO x)) ≤ 1100000000000 := Nat.le_trans t3 (Nat.le_trans (Nat.mul_le_mul_right _ h3) (by omega))
  have mk : ∀ c : Int, 0 ≤ c → c ≤ 1125899906842624 → Ev (fun k => laws_markOcc.f k x.f0 x.f1 x.f2 c) (c + x.f2.length, iMarks x.f2.length c) := fun c c0 c1 => by
    unfold laws_markOcc.f
    exact Ev.bindS (markIntS_ev x.f2 c (by omega) c0 c1) rfl
  refine Ev.bind (toOccS_ev l hf) (Ev.bind (toOcc_ev x hi) (Ev.bind (spec_OccsPut_ev _ k1 m1 (cvO x) hi) (Ev.bind (impl_OccsPut_ev _ k1 m1 (cvO x) hi) ?_)))
  refine Ev.bind (eqOccS_ev _ (by omega) m3.short) (Ev.bind (eqOccS_ev _ (by omega) k2) (Ev.bind (eqOcc_ev (cvO x) (by show x.f2.length ≤ _; omega)) ?_))
  refine Ev.bind (markOccS_ev _ 1 m1 (by omega) (by omega) (by omega)) (Ev.bind (mk _ (by omega) (by omega)) (Ev.bind (markOccS_ev _ 1 m3 (by omega) (by omega) (by omega)) ?_))
  refine Ev.bind (heldOccS_ev _ 1 m3 (by omega) (by omega) (by omega)) ?_
  exact Ev.pos ⟨⟨rfl, rfl, rfl⟩, by omega, by omega, rfl⟩ (Ev.now _)
end Go.Proofs.Ytiplpckgmikmeaa.M
