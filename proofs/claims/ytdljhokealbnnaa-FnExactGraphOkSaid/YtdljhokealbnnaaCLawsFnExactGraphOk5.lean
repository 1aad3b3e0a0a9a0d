/- What the claim's law leans on: the program's functions, what they compute, and the law over plain values; no condition is asked. (Part 5 of 5.) -/
import Derived.Test.YtdljhokealbnnaaCLawsFnExactGraphOk4
namespace Go.Proofs.Ytdljhokealbnnaa.M
set_option linter.unusedVariables false
set_option linter.unusedSimpArgs false
open Go.RowKit Go.Proofs.YtdljhokealbnnaaW.PrintWords Go.Proofs.YtdljhokealbnnaaW.PrintLast Go.Proofs.YtdljhokealbnnaaW.PrintMore
@[reducible] def qHNodeOk_0 : Array Bool := #[true, true, true, true, true, true, true, true, true, true, true, true, true, true, true, true, true, true, true]
@[reducible] def qHNodeOk_1 : Array Bool := #[true, true, true, true, true, true, true, true, true, true, true, true, true, true, true, true, true, true, false]
@[reducible] def qHNodeOk_2 : Array Bool := #[true, true, true, true, true, true, true, true, true, true, true, true, true, true, true, true, true, false, false]
@[reducible] def qHNodeOk_3 : Array Bool := #[true, true, true, true, true, true, true, true, true, true, true, true, true, true, true, false, false, false, false]
@[reducible] def qHNodeOk_4 : Array Bool := #[true, true, true, true, true, true, true, true, true, true, true, true, true, true, false, false, false, false, false]
@[reducible] def qHNodeOk_5 : Array Bool := #[true, true, true, true, true, true, true, true, true, true, true, true, true, false, false, false, false, false, false]
@[reducible] def qHNodeOk_6 : Array Bool := #[true, true, true, true, true, true, true, true, true, true, true, true, false, false, false, false, false, false, false]
@[reducible] def qHNodeOk_7 : Array Bool := #[true, true, true, true, true, true, true, true, true, true, true, false, false, false, false, false, false, false, false]
@[reducible] def qHNodeOk_8 : Array Bool := #[true, true, true, true, true, true, true, true, true, true, false, false, false, false, false, false, false, false, false]
@[reducible] def qHNodeOk_9 : Array Bool := #[true, true, true, true, true, true, true, true, true, false, false, false, false, false, false, false, false, false, false]
@[reducible] def qHNodeOk_10 : Array Bool := #[true, true, true, true, true, true, false, false, false, false, false, false, false, false, false, false, false, false, false]
@[reducible] def qHNodeOk_11 : Array Bool := #[true, true, true, true, true, false, false, false, false, false, false, false, false, false, false, false, false, false, false]
@[reducible] def qHNodeOk_12 : Array Bool := #[true, true, true, true, false, false, false, false, false, false, false, false, false, false, false, false, false, false, false]
@[reducible] def qHNodeOk_13 : Array Bool := #[true, true, true, false, false, false, false, false, false, false, false, false, false, false, false, false, false, false, false]
@[reducible] def qHNodeOk_14 : Array Bool := #[true, true, false, false, false, false, false, false, false, false, false, false, false, false, false, false, false, false, false]
@[reducible] def qHNodeOk_15 : Array Bool := #[true, false, false, false, false, false, false, false, false, false, false, false, false, false, false, false, false, false, false]
@[reducible] def qHNodeOk_16 : Array Bool := #[false, false, false, false, false, false, false, false, false, false, false, false, false, false, false, false, false, false, false]

theorem cell_at {w : World} {g i : Nat} {cs : Array Value} {t : TypeId} {v : Value} (h : w.heap[g]? = some (.cells cs t (0, 0))) (hv : cs[i]? = some v) : w.cell? ⟨g, i, none⟩ = some v := (blk_cell h i).trans hv
theorem isKind_some (a : Int) : impl_isKind.f a = some (inB a 1 7) := by
  unfold impl_isKind.f
  rw [in_some]; rfl
theorem isSym_some (a : Int) : impl_isSym.f a = some (inB a 0 4) := by
  unfold impl_isSym.f
  rw [in_some]; rfl
def kidsN (a : Int) : Int := rd [0, 0, 2, 2, 2, 3, 3, 1] a
theorem kids_some (a : Int) (h : inB a 1 7 = true) : impl_kids.f a = some (kidsN a) := by
  have h' : 1 ≤ a ∧ a ≤ 7 := by
    unfold inB at h
    by_cases c : 1 ≤ a
    · rw [if_pos c] at h; exact ⟨c, of_decide_eq_true h⟩
    · rw [if_neg c] at h; cases h
  unfold impl_kids.f
  simp only [Option.bind_some]
  rw [if_pos (by omega), if_pos (by simp; omega)]
  rfl
def nodeOk3 (x : S104) : Bool := if x.f0 = 7 then inB x.f2 1 20 else decide (x.f2 = 0) && decide (x.f6.length = 0)
def nodeOk1 (x : S104) (index : Int) : Bool := inB x.f0 1 7 && ((x.f3.length : Int) == kidsN x.f0) && !(x.f3.any fun a : Int => !inB a 0 (wrap64 (index - 1)))
def nodeOkB (x : S104) (index now : Int) (b1 b2 b3 : Bool) : Bool := nodeOk1 x index && (nodeOk3 x && (inB x.f1 0 4 && (inB x.f7 0 40 && (b1 && (b2 && (b3 && !(x.f6.any fun o : S106 => decide (o.f1 ≤ now))))))))
set_option maxHeartbeats 4000000 in
set_option maxRecDepth 100000 in
theorem nodeOk_walk (x : S104) (A3 A4 A5 A6 A7 A8 : Option Addr) (c3 c4 c5 c6 c7 c8 : Nat) (index now : Int) (b1 b2 b3 : Bool) (w : World) (hs : SlotsN w x A3 A4 A5 A6 A7 A8 c3 c4 c5 c6 c7 c8)
    (h1 : ∀ W : World, Below w.heap.size w W → Calls Try.prog 119 #[.agg #[.slice A4 x.f4.f0.length c4, .slice A5 x.f4.f1.length c5]] W fun e w' => e = .returned (.bool b1) ∧ Below W.heap.size W w')
    (h2 : ∀ W : World, Below w.heap.size w W → Calls Try.prog 120 #[.agg #[.slice A6 x.f5.f0.length c6, .slice A7 x.f5.f1.length c7]] W fun e w' => e = .returned (.bool b2) ∧ Below W.heap.size W w')
    (h3 : ∀ W : World, Below w.heap.size w W → Calls Try.prog 121 #[.slice A8 x.f6.length c8] W fun e w' => e = .returned (.bool b3) ∧ Below W.heap.size W w') :
    Calls Try.prog 79 #[valN x A3 A4 A5 A6 A7 A8 c3 c4 c5 c6 c7 c8, .int .i64 index, .int .i64 now] w fun e w' => e = .returned (.bool (nodeOkB x index now b1 b2 b3)) ∧ Below w.heap.size w w' := by
  have hu := Try.underlying104
  obtain ⟨⟨l3, g3⟩, _, _, _, _, ⟨l8, g8⟩⟩ := hs
  have HL3 := Aside0.mk l3
  have HG3 := Aside0.mk g3
  have HL8 := Aside0.mk l8
  have HG8 := Aside0.mk g8
  have H1 := Aside0.mk h1
  have H2 := Aside0.mk h2
  have H3 := Aside0.mk h3
  clear l3 g3 l8 g8 h1 h2 h3
  have HB := Aside0.mk (Below.refl w.heap.size w)
  have hmf : ∀ (fn : Fn) (first cap : Array Value) (w : World), (Instr.makeFunc fn first cap).run Try.prog w = .ok (.func fn first cap) w := fun _ _ _ _ => rfl
  unfold valN
  go_enter Try.func79, Try.ntmps79
  go_wp2_with (first | ((with_reducible refine gate_dst (N := 3) rfl ?_); refine box_event ?hg (N := 3) ?hd (cs := #[.int .i64 x.f0, .int .i64 x.f1, .int .i64 x.f2, .slice A3 x.f3.length c3, .slice A4 x.f4.f0.length c4, .slice A5 x.f4.f1.length c5, .slice A6 x.f5.f0.length c6, .slice A7 x.f5.f1.length c7, .slice A8 x.f6.length c8, .int .i64 x.f7]) (t := 104) ?hr ?_; (case hd => rfl); (case hg => rfl); (case hr => first | (go_simp; done) | (go_simp; rfl)); intro gb1 hg wb1 hbox hb; have n0_ := Aside0.mk (below_step HB.out hb); have n1_ := Aside0.mk (hbox); have n2_ := Aside0.mk ((by rw [hg]; exact below_size HB.out : w.heap.size ≤ gb1)); clear HB; have HB := n0_; have BK1 := n1_; have GE1 := n2_; clear n0_ n1_ n2_; clear hb hbox hg) | ((with_reducible refine gate_dst (N := 4) rfl ?_); refine box_event ?hg (N := 4) ?hd (cs := #[.int .i64 index]) (t := 3) ?hr ?_; (case hd => rfl); (case hg => rfl); (case hr => first | (go_simp; done) | (go_simp; rfl)); intro gb2 hg wb2 hbox hb; have n0_ := Aside0.mk (blk_below BK1.out hb); have n1_ := Aside0.mk (below_step HB.out hb); have n2_ := Aside0.mk (hbox); have n3_ := Aside0.mk ((by rw [hg]; exact below_size HB.out : w.heap.size ≤ gb2)); have n4_ := Aside0.mk ((by rw [hg]; exact Nat.ne_of_lt (blk_lt BK1.out) : gb1 ≠ gb2)); have n5_ := Aside0.mk ((by rw [hg]; exact Nat.ne_of_gt (blk_lt BK1.out) : gb2 ≠ gb1)); clear BK1; clear HB; have BK1 := n0_; have HB := n1_; have BK2 := n2_; have GE2 := n3_; have NB1_2 := n4_; have NB2_1 := n5_; clear n0_ n1_ n2_ n3_ n4_ n5_; clear hb hbox hg) | ((with_reducible refine gate_dst (N := 5) rfl ?_); refine box_event ?hg (N := 5) ?hd (cs := #[.int .i64 now]) (t := 3) ?hr ?_; (case hd => rfl); (case hg => rfl); (case hr => first | (go_simp; done) | (go_simp; rfl)); intro gb3 hg wb3 hbox hb; have n0_ := Aside0.mk (blk_below BK1.out hb); have n1_ := Aside0.mk (blk_below BK2.out hb); have n2_ := Aside0.mk (below_step HB.out hb); have n3_ := Aside0.mk (hbox); have n4_ := Aside0.mk ((by rw [hg]; exact below_size HB.out : w.heap.size ≤ gb3)); have n5_ := Aside0.mk ((by rw [hg]; exact Nat.ne_of_lt (blk_lt BK1.out) : gb1 ≠ gb3)); have n6_ := Aside0.mk ((by rw [hg]; exact Nat.ne_of_gt (blk_lt BK1.out) : gb3 ≠ gb1)); have n7_ := Aside0.mk ((by rw [hg]; exact Nat.ne_of_lt (blk_lt BK2.out) : gb2 ≠ gb3)); have n8_ := Aside0.mk ((by rw [hg]; exact Nat.ne_of_gt (blk_lt BK2.out) : gb3 ≠ gb2)); clear BK1; clear BK2; clear HB; have BK1 := n0_; have BK2 := n1_; have HB := n2_; have BK3 := n3_; have GE3 := n4_; have NB1_3 := n5_; have NB3_1 := n6_; have NB2_3 := n7_; have NB3_2 := n8_; clear n0_ n1_ n2_ n3_ n4_ n5_ n6_ n7_ n8_; clear hb hbox hg))
  have n0_ := Aside0.mk (blk_drew BK1.out)
  have n1_ := Aside0.mk (blk_drew BK2.out)
  have n2_ := Aside0.mk (blk_drew BK3.out)
  have n3_ := Aside0.mk (below_drew1 HB.out)
  clear BK1
  clear BK2
  clear BK3
  clear HB
  have BK1 := n0_
  have BK2 := n1_
  have BK3 := n2_
  have HB := n3_
  clear n0_ n1_ n2_ n3_
  cases hk : inB x.f0 1 7 with
  | false =>
    have HK := Aside0.mk (show impl_isKind.f x.f0 = some false by rw [isKind_some, hk])
    have HF := Aside0.mk (show nodeOkB x index now b1 b2 b3 = false by simp [nodeOkB, nodeOk1, hk])
    clear hk
    refine start_ (n := 19) (S := fun w' => w'.cell? ⟨gb1, 0, none⟩ = some (.int .i64 x.f0) ∧ w'.cell? ⟨gb1, 3, none⟩ = some (.slice A3 x.f3.length c3)) (ds := []) qHNodeOk_16 (by kernel_rfl) rfl rfl ⟨(blk_cell BK1.out 0).trans rfl, (blk_cell BK1.out 3).trans rfl⟩ (fun hHeld => ?_)
    refine pv_ 0 7 qHNodeOk_15 (by kernel_rfl) ?_
    refine take_ (i := 1) (N := some 8) (v := ?_) (a' := ?_) qHNodeOk_14 rfl rfl (by kernel_rfl) (fun _ _ _ h => h) (Or.inl ⟨by rfl, ?_⟩) hHeld ?_ ?_
    rotate_left
    · rintro w' ⟨s0, s1⟩
      go_simp
      with_reducible rfl
    rotate_left
    · simp only [Act.put, List.setIfInBounds_toArray, List.set_cons_zero, List.set_cons_succ, i64_w, i32_w]
      rfl
    refine one_ (i := 2) (N := some 9) qHNodeOk_13 rfl rfl (by kernel_rfl) (by decide) (fun K hK => ?_)
    refine goes_ Try.func114 (by kernel_rfl) rfl #[.int .i64 x.f0] (by rfl) rfl rfl (by simp only [List.map_toArray, List.map_cons, List.map_nil]; rfl) ?_
    with_reducible refine (impl_isKind.calls x.f0 false _ HK.out).mono ?_
    rintro e w' ⟨rfl, ⟨nd, rfl⟩⟩
    refine ⟨_, rfl, ?_⟩
    have n0_ := Aside0.mk (blk_drewN BK1.out nd)
    have n1_ := Aside0.mk (blk_drewN BK2.out nd)
    have n2_ := Aside0.mk (blk_drewN BK3.out nd)
    have n3_ := Aside0.mk (pw_below_drewN HB.out nd)
    clear BK1
    clear BK2
    clear BK3
    clear HB
    have BK1 := n0_
    have BK2 := n1_
    have BK3 := n2_
    have HB := n3_
    clear n0_ n1_ n2_ n3_
    refine hK.out _ _ ⟨(blk_cell BK1.out 0).trans rfl, (blk_cell BK1.out 3).trans rfl⟩ (fun hHeld => ?_)
    clear hK K
    refine norm_ (a' := ?_) ?_ ?_
    rotate_left
    · show Act.put _ (some 9) _ = _
      simp only [Act.put, List.setIfInBounds_toArray, List.set_cons_zero, List.set_cons_succ, i64_w, i32_w]
      rfl
    refine pv_ 3 10 qHNodeOk_12 (by kernel_rfl) ?_
    refine pv_ 4 11 qHNodeOk_11 (by kernel_rfl) ?_
    refine pu_ 5 12 qHNodeOk_10 (by kernel_rfl) ?_
    refine pu_ 6 13 #[true, true, true, true, true, true, true, false, false, false, false, false, false, false, false, false, false, false, false] (by kernel_rfl) ?_
    refine pu_ 7 14 #[true, true, true, true, true, true, true, true, false, false, false, false, false, false, false, false, false, false, false] (by kernel_rfl) ?_
    refine pu_ 8 15 qHNodeOk_9 (by kernel_rfl) ?_
    refine pu_ 9 16 qHNodeOk_8 (by kernel_rfl) ?_
    refine pu_ 10 17 qHNodeOk_7 (by kernel_rfl) ?_
    refine pu_ 11 18 qHNodeOk_6 (by kernel_rfl) ?_
    refine pv_ 12 19 qHNodeOk_5 (by kernel_rfl) ?_
    refine pv_ 13 20 qHNodeOk_4 (by kernel_rfl) ?_
    refine pu_ 14 21 qHNodeOk_3 (by kernel_rfl) ?_
    refine pu_ 15 22 #[true, true, true, true, true, true, true, true, true, true, true, true, true, true, true, true, false, false, false] (by kernel_rfl) ?_
    refine pu_ 16 23 qHNodeOk_2 (by kernel_rfl) ?_
    refine pu_ 17 24 qHNodeOk_1 (by kernel_rfl) ?_
    refine pv_ 18 25 qHNodeOk_0 (by kernel_rfl) ?_
    refine done_ (by kernel_rfl) ?_

    go_wp2
    go_ret
    exact ⟨by rw [HF.out]; rfl, HB.out⟩
  | true =>
    have HK := Aside0.mk (show impl_isKind.f x.f0 = some true by rw [isKind_some, hk])
    have HK0 := Aside0.mk hk
    obtain ⟨t, ht⟩ : ∃ t, t = kidsN x.f0 := ⟨_, rfl⟩
    have HT := Aside0.mk (show impl_kids.f x.f0 = some t by rw [kids_some _ hk, ht])
    have HTT := Aside0.mk ht
    clear hk ht
    cases hl : ((x.f3.length : Int) != t) with
    | true =>
      have HF := Aside0.mk (show nodeOkB x index now b1 b2 b3 = false by
        have : ((x.f3.length : Int) == t) = false := by simpa using hl
        unfold nodeOkB nodeOk1
        rw [← HTT.out, this, Bool.and_false, Bool.false_and, Bool.false_and])
      refine start_ (n := 19) (S := fun w' => w'.cell? ⟨gb1, 0, none⟩ = some (.int .i64 x.f0) ∧ w'.cell? ⟨gb1, 3, none⟩ = some (.slice A3 x.f3.length c3)) (ds := []) qHNodeOk_16 (by kernel_rfl) rfl rfl ⟨(blk_cell BK1.out 0).trans rfl, (blk_cell BK1.out 3).trans rfl⟩ (fun hHeld => ?_)
      refine pv_ 0 7 qHNodeOk_15 (by kernel_rfl) ?_
      refine take_ (i := 1) (N := some 8) (v := ?_) (a' := ?_) qHNodeOk_14 rfl rfl (by kernel_rfl) (fun _ _ _ h => h) (Or.inl ⟨by rfl, ?_⟩) hHeld ?_ ?_
      rotate_left
      · rintro w' ⟨s0, s1⟩
        go_simp
        with_reducible rfl
      rotate_left
      · simp only [Act.put, List.setIfInBounds_toArray, List.set_cons_zero, List.set_cons_succ, i64_w, i32_w]
        rfl
      refine one_ (i := 2) (N := some 9) qHNodeOk_13 rfl rfl (by kernel_rfl) (by decide) (fun K hK => ?_)
      refine goes_ Try.func114 (by kernel_rfl) rfl #[.int .i64 x.f0] (by rfl) rfl rfl (by simp only [List.map_toArray, List.map_cons, List.map_nil]; rfl) ?_
      with_reducible refine (impl_isKind.calls x.f0 true _ HK.out).mono ?_
      rintro e w' ⟨rfl, ⟨nd, rfl⟩⟩
      refine ⟨_, rfl, ?_⟩
      have n0_ := Aside0.mk (blk_drewN BK1.out nd)
      have n1_ := Aside0.mk (blk_drewN BK2.out nd)
      have n2_ := Aside0.mk (blk_drewN BK3.out nd)
      have n3_ := Aside0.mk (pw_below_drewN HB.out nd)
      clear BK1
      clear BK2
      clear BK3
      clear HB
      have BK1 := n0_
      have BK2 := n1_
      have BK3 := n2_
      have HB := n3_
      clear n0_ n1_ n2_ n3_
      refine hK.out _ _ ⟨(blk_cell BK1.out 0).trans rfl, (blk_cell BK1.out 3).trans rfl⟩ (fun hHeld => ?_)
      clear hK K
      refine norm_ (a' := ?_) ?_ ?_
      rotate_left
      · show Act.put _ (some 9) _ = _
        simp only [Act.put, List.setIfInBounds_toArray, List.set_cons_zero, List.set_cons_succ, i64_w, i32_w]
        rfl
      refine pv_ 3 10 qHNodeOk_12 (by kernel_rfl) ?_
      refine pv_ 4 11 qHNodeOk_11 (by kernel_rfl) ?_
      refine pv_ 5 12 qHNodeOk_10 (by kernel_rfl) ?_
      refine pv_ 8 15 #[true, true, true, true, true, true, false, false, true, false, false, false, false, false, false, false, false, false, false] (by kernel_rfl) ?_
      refine take_ (i := 6) (N := some 13) (v := ?_) (a' := ?_) #[true, true, true, true, true, true, true, false, true, false, false, false, false, false, false, false, false, false, false] rfl rfl (by kernel_rfl) (fun _ _ _ h => h) (Or.inl ⟨by rfl, ?_⟩) hHeld ?_ ?_
      rotate_left
      · rintro w' ⟨s0, s1⟩
        go_simp
        with_reducible rfl
      rotate_left
      · simp only [Act.put, List.setIfInBounds_toArray, List.set_cons_zero, List.set_cons_succ, i64_w, i32_w]
        rfl
      refine pv_ 7 14 qHNodeOk_9 (by kernel_rfl) ?_
      refine take_ (i := 9) (N := some 16) (v := ?_) (a' := ?_) qHNodeOk_8 rfl rfl (by kernel_rfl) (fun _ _ _ h => h) (Or.inl ⟨by rfl, ?_⟩) hHeld ?_ ?_
      rotate_left
      · rintro w' ⟨s0, s1⟩
        go_simp
        with_reducible rfl
      rotate_left
      · simp only [Act.put, List.setIfInBounds_toArray, List.set_cons_zero, List.set_cons_succ, i64_w, i32_w]
        rfl
      refine one_ (i := 10) (N := some 17) qHNodeOk_7 rfl rfl (by kernel_rfl) (by decide) (fun K hK => ?_)
      refine goes_ Try.func115 (by kernel_rfl) rfl #[.int .i64 x.f0] (by rfl) rfl rfl (by simp only [List.map_toArray, List.map_cons, List.map_nil]; rfl) ?_
      with_reducible refine (impl_kids.calls x.f0 t _ HT.out).mono ?_
      rintro e w8 ⟨rfl, hb⟩
      refine ⟨_, rfl, ?_⟩
      have n0_ := Aside0.mk (blk_below BK1.out hb)
      have n1_ := Aside0.mk (blk_below BK2.out hb)
      have n2_ := Aside0.mk (blk_below BK3.out hb)
      have n3_ := Aside0.mk (below_step HB.out hb)
      clear BK1
      clear BK2
      clear BK3
      clear HB
      have BK1 := n0_
      have BK2 := n1_
      have BK3 := n2_
      have HB := n3_
      clear n0_ n1_ n2_ n3_
      clear hb
      refine hK.out _ _ ⟨(blk_cell BK1.out 0).trans rfl, (blk_cell BK1.out 3).trans rfl⟩ (fun hHeld => ?_)
      clear hK K
      refine norm_ (a' := ?_) ?_ ?_
      rotate_left
      · show Act.put _ (some 17) _ = _
        simp only [Act.put, List.setIfInBounds_toArray, List.set_cons_zero, List.set_cons_succ, i64_w, i32_w]
        rfl
      refine pv_ 11 18 qHNodeOk_6 (by kernel_rfl) ?_
      refine pv_ 12 19 qHNodeOk_5 (by kernel_rfl) ?_
      refine pv_ 13 20 qHNodeOk_4 (by kernel_rfl) ?_
      refine pu_ 14 21 qHNodeOk_3 (by kernel_rfl) ?_
      refine pu_ 15 22 #[true, true, true, true, true, true, true, true, true, true, true, true, true, true, true, true, false, false, false] (by kernel_rfl) ?_
      refine pu_ 16 23 qHNodeOk_2 (by kernel_rfl) ?_
      refine pu_ 17 24 qHNodeOk_1 (by kernel_rfl) ?_
      refine pv_ 18 25 qHNodeOk_0 (by kernel_rfl) ?_
      refine done_ (by kernel_rfl) ?_
  
      go_wp2
      go_ret
      exact ⟨by rw [HF.out]; rfl, HB.out⟩
    | false =>
      have HF := Aside0.mk (show nodeOk1 x index = !(x.f3.any fun a : Int => !inB a 0 (wrap64 (index - 1))) by
        have : ((x.f3.length : Int) == t) = true := by simpa using hl
        unfold nodeOk1
        rw [HK0.out, ← HTT.out, this, Bool.true_and, Bool.true_and])
      refine start_ (n := 19) (S := fun w' => w'.cell? ⟨gb1, 0, none⟩ = some (.int .i64 x.f0) ∧ w'.cell? ⟨gb1, 3, none⟩ = some (.slice A3 x.f3.length c3)) (ds := []) qHNodeOk_16 (by kernel_rfl) rfl rfl ⟨(blk_cell BK1.out 0).trans rfl, (blk_cell BK1.out 3).trans rfl⟩ (fun hHeld => ?_)
      refine pv_ 0 7 qHNodeOk_15 (by kernel_rfl) ?_
      refine take_ (i := 1) (N := some 8) (v := ?_) (a' := ?_) qHNodeOk_14 rfl rfl (by kernel_rfl) (fun _ _ _ h => h) (Or.inl ⟨by rfl, ?_⟩) hHeld ?_ ?_
      rotate_left
      · rintro w' ⟨s0, s1⟩
        go_simp
        with_reducible rfl
      rotate_left
      · simp only [Act.put, List.setIfInBounds_toArray, List.set_cons_zero, List.set_cons_succ, i64_w, i32_w]
        rfl
      refine one_ (i := 2) (N := some 9) qHNodeOk_13 rfl rfl (by kernel_rfl) (by decide) (fun K hK => ?_)
      refine goes_ Try.func114 (by kernel_rfl) rfl #[.int .i64 x.f0] (by rfl) rfl rfl (by simp only [List.map_toArray, List.map_cons, List.map_nil]; rfl) ?_
      with_reducible refine (impl_isKind.calls x.f0 true _ HK.out).mono ?_
      rintro e w' ⟨rfl, ⟨nd, rfl⟩⟩
      refine ⟨_, rfl, ?_⟩
      have n0_ := Aside0.mk (blk_drewN BK1.out nd)
      have n1_ := Aside0.mk (blk_drewN BK2.out nd)
      have n2_ := Aside0.mk (blk_drewN BK3.out nd)
      have n3_ := Aside0.mk (pw_below_drewN HB.out nd)
      clear BK1
      clear BK2
      clear BK3
      clear HB
      have BK1 := n0_
      have BK2 := n1_
      have BK3 := n2_
      have HB := n3_
      clear n0_ n1_ n2_ n3_
      refine hK.out _ _ ⟨(blk_cell BK1.out 0).trans rfl, (blk_cell BK1.out 3).trans rfl⟩ (fun hHeld => ?_)
      clear hK K
      refine norm_ (a' := ?_) ?_ ?_
      rotate_left
      · show Act.put _ (some 9) _ = _
        simp only [Act.put, List.setIfInBounds_toArray, List.set_cons_zero, List.set_cons_succ, i64_w, i32_w]
        rfl
      refine pv_ 3 10 qHNodeOk_12 (by kernel_rfl) ?_
      refine pv_ 4 11 qHNodeOk_11 (by kernel_rfl) ?_
      refine pv_ 5 12 qHNodeOk_10 (by kernel_rfl) ?_
      refine pv_ 8 15 #[true, true, true, true, true, true, false, false, true, false, false, false, false, false, false, false, false, false, false] (by kernel_rfl) ?_
      refine take_ (i := 6) (N := some 13) (v := ?_) (a' := ?_) #[true, true, true, true, true, true, true, false, true, false, false, false, false, false, false, false, false, false, false] rfl rfl (by kernel_rfl) (fun _ _ _ h => h) (Or.inl ⟨by rfl, ?_⟩) hHeld ?_ ?_
      rotate_left
      · rintro w' ⟨s0, s1⟩
        go_simp
        with_reducible rfl
      rotate_left
      · simp only [Act.put, List.setIfInBounds_toArray, List.set_cons_zero, List.set_cons_succ, i64_w, i32_w]
        rfl
      refine pv_ 7 14 qHNodeOk_9 (by kernel_rfl) ?_
      refine take_ (i := 9) (N := some 16) (v := ?_) (a' := ?_) qHNodeOk_8 rfl rfl (by kernel_rfl) (fun _ _ _ h => h) (Or.inl ⟨by rfl, ?_⟩) hHeld ?_ ?_
      rotate_left
      · rintro w' ⟨s0, s1⟩
        go_simp
        with_reducible rfl
      rotate_left
      · simp only [Act.put, List.setIfInBounds_toArray, List.set_cons_zero, List.set_cons_succ, i64_w, i32_w]
        rfl
      refine one_ (i := 10) (N := some 17) qHNodeOk_7 rfl rfl (by kernel_rfl) (by decide) (fun K hK => ?_)
      refine goes_ Try.func115 (by kernel_rfl) rfl #[.int .i64 x.f0] (by rfl) rfl rfl (by simp only [List.map_toArray, List.map_cons, List.map_nil]; rfl) ?_
      with_reducible refine (impl_kids.calls x.f0 t _ HT.out).mono ?_
      rintro e w8 ⟨rfl, hb⟩
      refine ⟨_, rfl, ?_⟩
      have n0_ := Aside0.mk (blk_below BK1.out hb)
      have n1_ := Aside0.mk (blk_below BK2.out hb)
      have n2_ := Aside0.mk (blk_below BK3.out hb)
      have n3_ := Aside0.mk (below_step HB.out hb)
      clear BK1
      clear BK2
      clear BK3
      clear HB
      have BK1 := n0_
      have BK2 := n1_
      have BK3 := n2_
      have HB := n3_
      clear n0_ n1_ n2_ n3_
      clear hb
      refine hK.out _ _ ⟨(blk_cell BK1.out 0).trans rfl, (blk_cell BK1.out 3).trans rfl⟩ (fun hHeld => ?_)
      clear hK K
      refine norm_ (a' := ?_) ?_ ?_
      rotate_left
      · show Act.put _ (some 17) _ = _
        simp only [Act.put, List.setIfInBounds_toArray, List.set_cons_zero, List.set_cons_succ, i64_w, i32_w]
        rfl
      refine pv_ 11 18 qHNodeOk_6 (by kernel_rfl) ?_
      refine pv_ 12 19 qHNodeOk_5 (by kernel_rfl) ?_
      refine pv_ 13 20 qHNodeOk_4 (by kernel_rfl) ?_
      refine pv_ 14 21 qHNodeOk_3 (by kernel_rfl) ?_
      refine pv_ 16 23 #[true, true, true, true, true, true, true, true, true, true, true, true, true, true, true, false, true, false, false] (by kernel_rfl) ?_
      refine take_ (i := 15) (N := some 22) (v := ?_) (a' := ?_) qHNodeOk_2 rfl rfl (by kernel_rfl) (fun _ _ _ h => h) (Or.inl ⟨by rfl, ?_⟩) hHeld ?_ ?_
      rotate_left
      · rintro w' ⟨s0, s1⟩
        go_simp
        with_reducible rfl
      rotate_left
      · simp only [Act.put, List.setIfInBounds_toArray, List.set_cons_zero, List.set_cons_succ, i64_w, i32_w]
        rfl
      refine one_ (i := 17) (N := some 24) qHNodeOk_1 rfl rfl (by kernel_rfl) (by decide) (fun K hK => ?_)
      refine goes_ Try.func116 (by kernel_rfl) rfl #[.slice A3 x.f3.length c3, .func (.func 117) #[] #[.pointer (some ⟨gb2, 0, none⟩)]] (by rfl) rfl rfl (by simp only [List.map_toArray, List.map_cons, List.map_nil]; rfl) ?_
      with_reducible refine (ContainsFunc_kid A3 c3 x.f3 gb2 index _ (Kd.C_below HG3.out HB.out) HL3.out ((blk_cell BK2.out 0).trans rfl)).mono ?_
      rintro e w9 ⟨rfl, hb⟩
      refine ⟨_, rfl, ?_⟩
      have n0_ := Aside0.mk (blk_below BK1.out hb)
      have n1_ := Aside0.mk (blk_below BK2.out hb)
      have n2_ := Aside0.mk (blk_below BK3.out hb)
      have n3_ := Aside0.mk (below_step HB.out hb)
      clear BK1
      clear BK2
      clear BK3
      clear HB
      have BK1 := n0_
      have BK2 := n1_
      have BK3 := n2_
      have HB := n3_
      clear n0_ n1_ n2_ n3_
      clear hb
      refine hK.out _ _ ⟨(blk_cell BK1.out 0).trans rfl, (blk_cell BK1.out 3).trans rfl⟩ (fun hHeld => ?_)
      clear hK K
      refine norm_ (a' := ?_) ?_ ?_
      rotate_left
      · show Act.put _ (some 24) _ = _
        simp only [Act.put, List.setIfInBounds_toArray, List.set_cons_zero, List.set_cons_succ, i64_w, i32_w]
        rfl
      refine pv_ 18 25 qHNodeOk_0 (by kernel_rfl) ?_
      refine done_ (by kernel_rfl) ?_
  
      generalize hany : (x.f3.any fun a : Int => !inB a 0 (wrap64 (index - 1))) = q at *
      cases q with
      | true =>
        have HR := Aside0.mk (show nodeOkB x index now b1 b2 b3 = false by unfold nodeOkB; rw [HF.out]; rfl)
        go_wp2
        go_ret
        exact ⟨by rw [HR.out]; rfl, HB.out⟩
      | false =>
        have HQ := Aside0.mk (show nodeOk1 x index = true from HF.out)
        clear HF hany hl hHeld
        have HR := Aside0.mk (show nodeOkB x index now b1 b2 b3 = (nodeOk3 x && (inB x.f1 0 4 && (inB x.f7 0 40 && (b1 && (b2 && (b3 && !(x.f6.any fun o : S106 => decide (o.f1 ≤ now)))))))) by unfold nodeOkB; rw [HQ.out, Bool.true_and])
        clear HQ
        cases h7 : (x.f0 == 7) with
        | true =>
          have e7 : x.f0 = 7 := by simpa using h7
          have n7 : (x.f0 != 7) = false := by simp [e7]
          have HR3 := Aside0.mk (show nodeOk3 x = inB x.f2 1 20 by unfold nodeOk3; rw [if_pos e7])
          rw [HR3.out] at HR
          clear e7 HR3
          have hz0 := cell_at (i := 0) (v := .int .i64 x.f0) BK1.out rfl
          have hz2 := cell_at (i := 2) (v := .int .i64 x.f2) BK1.out rfl
          go_wp2_with (go_at_call 58; fail)
          clear hz0 hz2
          refine (impl_in.calls x.f2 1 20 (inB x.f2 1 20) _ (in_some _ _ _)).mono ?_
          rintro e w' ⟨rfl, hdr⟩
          have hb := hdr.below
          clear hdr
          have n0_ := Aside0.mk (blk_below BK1.out hb)
          have n1_ := Aside0.mk (blk_below BK3.out hb)
          have n2_ := Aside0.mk (below_step HB.out hb)
          clear BK1
          clear BK3
          clear HB
          have BK1 := n0_
          have BK3 := n1_
          have HB := n2_
          clear n0_ n1_ n2_
          clear hb
          have hz0 := cell_at (i := 0) (v := .int .i64 x.f0) BK1.out rfl
          cases hv : (inB x.f2 1 20 : Bool) with
          | false =>
            replace HR := Aside0.mk (HR.out.trans (by rw [hv, Bool.false_and]))
            clear hv
            go_wp2
            go_ret
            exact ⟨by rw [HR.out]; rfl, HB.out⟩
          | true =>
            replace HR := Aside0.mk (HR.out.trans (by rw [hv, Bool.true_and]))
            clear hv
            have hz1 := cell_at (i := 1) (v := .int .i64 x.f1) BK1.out rfl
            go_wp2_with (go_at_call 118; fail)
            clear hz1
            refine (impl_isSym.calls x.f1 (inB x.f1 0 4) _ (isSym_some _)).mono ?_
            rintro e w' ⟨rfl, hdr⟩
            have hb := hdr.below
            clear hdr
            have n0_ := Aside0.mk (blk_below BK1.out hb)
            have n1_ := Aside0.mk (blk_below BK3.out hb)
            have n2_ := Aside0.mk (below_step HB.out hb)
            clear BK1
            clear BK3
            clear HB
            have BK1 := n0_
            have BK3 := n1_
            have HB := n2_
            clear n0_ n1_ n2_
            clear hb
            cases hv : (inB x.f1 0 4 : Bool) with
            | false =>
              replace HR := Aside0.mk (HR.out.trans (by rw [hv, Bool.false_and]))
              clear hv
              go_wp2
              go_ret
              exact ⟨by rw [HR.out]; rfl, HB.out⟩
            | true =>
              replace HR := Aside0.mk (HR.out.trans (by rw [hv, Bool.true_and]))
              clear hv
              have hz9 := cell_at (i := 9) (v := .int .i64 x.f7) BK1.out rfl
              go_wp2_with (go_at_call 58; fail)
              clear hz9
              refine (impl_in.calls x.f7 0 40 (inB x.f7 0 40) _ (in_some _ _ _)).mono ?_
              rintro e w' ⟨rfl, hdr⟩
              have hb := hdr.below
              clear hdr
              have n0_ := Aside0.mk (blk_below BK1.out hb)
              have n1_ := Aside0.mk (blk_below BK3.out hb)
              have n2_ := Aside0.mk (below_step HB.out hb)
              clear BK1
              clear BK3
              clear HB
              have BK1 := n0_
              have BK3 := n1_
              have HB := n2_
              clear n0_ n1_ n2_
              clear hb
              cases hv : (inB x.f7 0 40 : Bool) with
              | false =>
                replace HR := Aside0.mk (HR.out.trans (by rw [hv, Bool.false_and]))
                clear hv
                go_wp2
                go_ret
                exact ⟨by rw [HR.out]; rfl, HB.out⟩
              | true =>
                replace HR := Aside0.mk (HR.out.trans (by rw [hv, Bool.true_and]))
                clear hv
                have hz4 := cell_at (i := 4) (v := .slice A4 x.f4.f0.length c4) BK1.out rfl
                have hz5 := cell_at (i := 5) (v := .slice A5 x.f4.f1.length c5) BK1.out rfl
                go_wp2_with (go_at_call 119; fail)
                clear hz4 hz5
                refine (H1.out _ HB.out).mono ?_
                rintro e w' ⟨rfl, hb⟩
                have n0_ := Aside0.mk (blk_below BK1.out hb)
                have n1_ := Aside0.mk (blk_below BK3.out hb)
                have n2_ := Aside0.mk (below_step HB.out hb)
                clear BK1
                clear BK3
                clear HB
                have BK1 := n0_
                have BK3 := n1_
                have HB := n2_
                clear n0_ n1_ n2_
                clear hb
                cases hv : (b1 : Bool) with
                | false =>
                  replace HR := Aside0.mk (HR.out.trans (by rw [hv, Bool.false_and]))
                  clear hv
                  go_wp2
                  go_ret
                  exact ⟨by rw [HR.out]; rfl, HB.out⟩
                | true =>
                  replace HR := Aside0.mk (HR.out.trans (by rw [hv, Bool.true_and]))
                  clear hv
                  have hz6 := cell_at (i := 6) (v := .slice A6 x.f5.f0.length c6) BK1.out rfl
                  have hz7 := cell_at (i := 7) (v := .slice A7 x.f5.f1.length c7) BK1.out rfl
                  go_wp2_with (go_at_call 120; fail)
                  clear hz6 hz7
                  refine (H2.out _ HB.out).mono ?_
                  rintro e w' ⟨rfl, hb⟩
                  have n0_ := Aside0.mk (blk_below BK1.out hb)
                  have n1_ := Aside0.mk (blk_below BK3.out hb)
                  have n2_ := Aside0.mk (below_step HB.out hb)
                  clear BK1
                  clear BK3
                  clear HB
                  have BK1 := n0_
                  have BK3 := n1_
                  have HB := n2_
                  clear n0_ n1_ n2_
                  clear hb
                  cases hv : (b2 : Bool) with
                  | false =>
                    replace HR := Aside0.mk (HR.out.trans (by rw [hv, Bool.false_and]))
                    clear hv
                    go_wp2
                    go_ret
                    exact ⟨by rw [HR.out]; rfl, HB.out⟩
                  | true =>
                    replace HR := Aside0.mk (HR.out.trans (by rw [hv, Bool.true_and]))
                    clear hv
                    have hz8 := cell_at (i := 8) (v := .slice A8 x.f6.length c8) BK1.out rfl
                    go_wp2_with (go_at_call 121; fail)
                    clear hz8
                    refine (H3.out _ HB.out).mono ?_
                    rintro e w' ⟨rfl, hb⟩
                    have n0_ := Aside0.mk (blk_below BK1.out hb)
                    have n1_ := Aside0.mk (blk_below BK3.out hb)
                    have n2_ := Aside0.mk (below_step HB.out hb)
                    clear BK1
                    clear BK3
                    clear HB
                    have BK1 := n0_
                    have BK3 := n1_
                    have HB := n2_
                    clear n0_ n1_ n2_
                    clear hb
                    cases hv : (b3 : Bool) with
                    | false =>
                      replace HR := Aside0.mk (HR.out.trans (by rw [hv, Bool.false_and]))
                      clear hv
                      go_wp2
                      go_ret
                      exact ⟨by rw [HR.out]; rfl, HB.out⟩
                    | true =>
                      replace HR := Aside0.mk (HR.out.trans (by rw [hv, Bool.true_and]))
                      clear hv
                      have hz8 := cell_at (i := 8) (v := .slice A8 x.f6.length c8) BK1.out rfl
                      go_wp2_with (go_at_call 122; fail)
                      clear hz8
                      refine (ContainsFunc_due A8 c8 x.f6 gb3 now _ (Kd.C_below HG8.out HB.out) HL8.out ((blk_cell BK3.out 0).trans rfl)).mono ?_
                      rintro e w' ⟨rfl, hb⟩
                      have n0_ := Aside0.mk (blk_below BK1.out hb)
                      have n1_ := Aside0.mk (blk_below BK3.out hb)
                      have n2_ := Aside0.mk (below_step HB.out hb)
                      clear BK1
                      clear BK3
                      clear HB
                      have BK1 := n0_
                      have BK3 := n1_
                      have HB := n2_
                      clear n0_ n1_ n2_
                      clear hb
                      go_wp2
                      go_ret
                      exact ⟨by rw [HR.out]; rfl, HB.out⟩
        | false =>
          have e7 : ¬ x.f0 = 7 := by simpa using h7
          have n7 : (x.f0 != 7) = true := by simpa using e7
          have HR3 := Aside0.mk (show nodeOk3 x = (decide (x.f2 = 0) && decide (x.f6.length = 0)) by unfold nodeOk3; rw [if_neg e7])
          rw [HR3.out, Bool.and_assoc] at HR
          clear e7 HR3
          have hz0 := cell_at (i := 0) (v := .int .i64 x.f0) BK1.out rfl
          have hz2 := cell_at (i := 2) (v := .int .i64 x.f2) BK1.out rfl
          have hz8 := cell_at (i := 8) (v := .slice A8 x.f6.length c8) BK1.out rfl
          cases h2 : (x.f2 != 0) with
          | true =>
            replace HR := Aside0.mk (HR.out.trans (by rw [decide_eq_false (by simpa using h2), Bool.false_and]))
            go_wp2
            go_ret
            exact ⟨by rw [HR.out]; rfl, HB.out⟩
          | false =>
            replace HR := Aside0.mk (HR.out.trans (by rw [decide_eq_true (by simpa using h2), Bool.true_and]))
            by_cases h8 : 0 < x.f6.length
            · have h8' : ((0 : Int) < (x.f6.length : Int)) := by omega
              replace HR := Aside0.mk (HR.out.trans (by rw [decide_eq_false (by omega), Bool.false_and]))
              go_wp2
              go_ret
              exact ⟨by rw [HR.out]; rfl, HB.out⟩
            · have h8' : ¬ ((0 : Int) < (x.f6.length : Int)) := by omega
              replace HR := Aside0.mk (HR.out.trans (by rw [decide_eq_true (by omega), Bool.true_and]))
              have hz1 := cell_at (i := 1) (v := .int .i64 x.f1) BK1.out rfl
              go_wp2_with (go_at_call 118; fail)
              clear hz1
              refine (impl_isSym.calls x.f1 (inB x.f1 0 4) _ (isSym_some _)).mono ?_
              rintro e w' ⟨rfl, hdr⟩
              have hb := hdr.below
              clear hdr
              have n0_ := Aside0.mk (blk_below BK1.out hb)
              have n1_ := Aside0.mk (blk_below BK3.out hb)
              have n2_ := Aside0.mk (below_step HB.out hb)
              clear BK1
              clear BK3
              clear HB
              have BK1 := n0_
              have BK3 := n1_
              have HB := n2_
              clear n0_ n1_ n2_
              clear hb
              cases hv : (inB x.f1 0 4 : Bool) with
              | false =>
                replace HR := Aside0.mk (HR.out.trans (by rw [hv, Bool.false_and]))
                clear hv
                go_wp2
                go_ret
                exact ⟨by rw [HR.out]; rfl, HB.out⟩
              | true =>
                replace HR := Aside0.mk (HR.out.trans (by rw [hv, Bool.true_and]))
                clear hv
                have hz9 := cell_at (i := 9) (v := .int .i64 x.f7) BK1.out rfl
                go_wp2_with (go_at_call 58; fail)
                clear hz9
                refine (impl_in.calls x.f7 0 40 (inB x.f7 0 40) _ (in_some _ _ _)).mono ?_
                rintro e w' ⟨rfl, hdr⟩
                have hb := hdr.below
                clear hdr
                have n0_ := Aside0.mk (blk_below BK1.out hb)
                have n1_ := Aside0.mk (blk_below BK3.out hb)
                have n2_ := Aside0.mk (below_step HB.out hb)
                clear BK1
                clear BK3
                clear HB
                have BK1 := n0_
                have BK3 := n1_
                have HB := n2_
                clear n0_ n1_ n2_
                clear hb
                cases hv : (inB x.f7 0 40 : Bool) with
                | false =>
                  replace HR := Aside0.mk (HR.out.trans (by rw [hv, Bool.false_and]))
                  clear hv
                  go_wp2
                  go_ret
                  exact ⟨by rw [HR.out]; rfl, HB.out⟩
                | true =>
                  replace HR := Aside0.mk (HR.out.trans (by rw [hv, Bool.true_and]))
                  clear hv
                  have hz4 := cell_at (i := 4) (v := .slice A4 x.f4.f0.length c4) BK1.out rfl
                  have hz5 := cell_at (i := 5) (v := .slice A5 x.f4.f1.length c5) BK1.out rfl
                  go_wp2_with (go_at_call 119; fail)
                  clear hz4 hz5
                  refine (H1.out _ HB.out).mono ?_
                  rintro e w' ⟨rfl, hb⟩
                  have n0_ := Aside0.mk (blk_below BK1.out hb)
                  have n1_ := Aside0.mk (blk_below BK3.out hb)
                  have n2_ := Aside0.mk (below_step HB.out hb)
                  clear BK1
                  clear BK3
                  clear HB
                  have BK1 := n0_
                  have BK3 := n1_
                  have HB := n2_
                  clear n0_ n1_ n2_
                  clear hb
                  cases hv : (b1 : Bool) with
                  | false =>
                    replace HR := Aside0.mk (HR.out.trans (by rw [hv, Bool.false_and]))
                    clear hv
                    go_wp2
                    go_ret
                    exact ⟨by rw [HR.out]; rfl, HB.out⟩
                  | true =>
                    replace HR := Aside0.mk (HR.out.trans (by rw [hv, Bool.true_and]))
                    clear hv
                    have hz6 := cell_at (i := 6) (v := .slice A6 x.f5.f0.length c6) BK1.out rfl
                    have hz7 := cell_at (i := 7) (v := .slice A7 x.f5.f1.length c7) BK1.out rfl
                    go_wp2_with (go_at_call 120; fail)
                    clear hz6 hz7
                    refine (H2.out _ HB.out).mono ?_
                    rintro e w' ⟨rfl, hb⟩
                    have n0_ := Aside0.mk (blk_below BK1.out hb)
                    have n1_ := Aside0.mk (blk_below BK3.out hb)
                    have n2_ := Aside0.mk (below_step HB.out hb)
                    clear BK1
                    clear BK3
                    clear HB
                    have BK1 := n0_
                    have BK3 := n1_
                    have HB := n2_
                    clear n0_ n1_ n2_
                    clear hb
                    cases hv : (b2 : Bool) with
                    | false =>
                      replace HR := Aside0.mk (HR.out.trans (by rw [hv, Bool.false_and]))
                      clear hv
                      go_wp2
                      go_ret
                      exact ⟨by rw [HR.out]; rfl, HB.out⟩
                    | true =>
                      replace HR := Aside0.mk (HR.out.trans (by rw [hv, Bool.true_and]))
                      clear hv
                      have hz8 := cell_at (i := 8) (v := .slice A8 x.f6.length c8) BK1.out rfl
                      go_wp2_with (go_at_call 121; fail)
                      clear hz8
                      refine (H3.out _ HB.out).mono ?_
                      rintro e w' ⟨rfl, hb⟩
                      have n0_ := Aside0.mk (blk_below BK1.out hb)
                      have n1_ := Aside0.mk (blk_below BK3.out hb)
                      have n2_ := Aside0.mk (below_step HB.out hb)
                      clear BK1
                      clear BK3
                      clear HB
                      have BK1 := n0_
                      have BK3 := n1_
                      have HB := n2_
                      clear n0_ n1_ n2_
                      clear hb
                      cases hv : (b3 : Bool) with
                      | false =>
                        replace HR := Aside0.mk (HR.out.trans (by rw [hv, Bool.false_and]))
                        clear hv
                        go_wp2
                        go_ret
                        exact ⟨by rw [HR.out]; rfl, HB.out⟩
                      | true =>
                        replace HR := Aside0.mk (HR.out.trans (by rw [hv, Bool.true_and]))
                        clear hv
                        have hz8 := cell_at (i := 8) (v := .slice A8 x.f6.length c8) BK1.out rfl
                        go_wp2_with (go_at_call 122; fail)
                        clear hz8
                        refine (ContainsFunc_due A8 c8 x.f6 gb3 now _ (Kd.C_below HG8.out HB.out) HL8.out ((blk_cell BK3.out 0).trans rfl)).mono ?_
                        rintro e w' ⟨rfl, hb⟩
                        have n0_ := Aside0.mk (blk_below BK1.out hb)
                        have n1_ := Aside0.mk (blk_below BK3.out hb)
                        have n2_ := Aside0.mk (below_step HB.out hb)
                        clear BK1
                        clear BK3
                        clear HB
                        have BK1 := n0_
                        have BK3 := n1_
                        have HB := n2_
                        clear n0_ n1_ n2_
                        clear hb
                        go_wp2
                        go_ret
                        exact ⟨by rw [HR.out]; rfl, HB.out⟩
end Go.Proofs.Ytdljhokealbnnaa.M
namespace Go.Proofs.Ytdljhokealbnnaa.M
open Go.RowKit Go.Proofs.YtdljhokealbnnaaW.PrintWords Go.Proofs.YtdljhokealbnnaaW.PrintLast Go.Proofs.YtdljhokealbnnaaW.PrintMore
attribute [local go_sem] max2_int min2_int max_two min_two max_three min_three max_four min_four
set_option linter.unusedVariables false
set_option linter.unusedSimpArgs false

def impl_Node_ok.f (k : Nat) (a0_0 a0_1 a0_2 : Int) (l0_3 : List Int) (l0_4 l0_5 l0_6 l0_7 l0_8 : List S106) (a0_9 a1 a2 : Int) : Option Bool := (impl_PairOk.f k l0_4 l0_5).bind fun b1 => ((impl_SpanOk.f k l0_6 l0_7).bind fun b2 => ((impl_OccsOk.f k l0_8).bind fun b3 => some (nodeOkB ⟨a0_0, a0_1, a0_2, l0_3, ⟨l0_4, l0_5⟩, ⟨l0_6, l0_7⟩, l0_8, a0_9⟩ a1 a2 b1 b2 b3)))
theorem impl_Node_ok.mono : ∀ a0 a1 a2 a3 a4 a5 a6 a7 a8 a9 a10 a11 k, LeO (impl_Node_ok.f k a0 a1 a2 a3 a4 a5 a6 a7 a8 a9 a10 a11) (impl_Node_ok.f (k + 1) a0 a1 a2 a3 a4 a5 a6 a7 a8 a9 a10 a11) := by
 intro a0 a1 a2 a3 a4 a5 a6 a7 a8 a9 a10 a11 k
 unfold impl_Node_ok.f
 exact LeO.bind (impl_PairOk.mono _ _ k) (fun _ => LeO.bind (impl_SpanOk.mono _ _ k) (fun _ => LeO.bind (impl_OccsOk.mono _ k) (fun _ => LeO.refl _)))
theorem impl_Node_ok.calls (k : Nat) (a0_0 : Int) (a0_1 : Int) (a0_2 : Int) (A0_3 : Option Addr) (c0_3 : Nat) (l0_3 : List Int) (A0_4 : Option Addr) (c0_4 : Nat) (l0_4 : List (S106)) (A0_5 : Option Addr) (c0_5 : Nat) (l0_5 : List (S106)) (A0_6 : Option Addr) (c0_6 : Nat) (l0_6 : List (S106)) (A0_7 : Option Addr) (c0_7 : Nat) (l0_7 : List (S106)) (A0_8 : Option Addr) (c0_8 : Nat) (l0_8 : List (S106)) (a0_9 : Int) (a1 : Int) (a2 : Int) (r : Bool) (w : World) (hr0_3 : Kd.C (Kd.int .i64) w A0_3 l0_3.length l0_3) (hc0_3 : l0_3.length ≤ c0_3) (hr0_4 : Kd.C k106 w A0_4 l0_4.length l0_4) (hc0_4 : l0_4.length ≤ c0_4) (hr0_5 : Kd.C k106 w A0_5 l0_5.length l0_5) (hc0_5 : l0_5.length ≤ c0_5) (hr0_6 : Kd.C k106 w A0_6 l0_6.length l0_6) (hc0_6 : l0_6.length ≤ c0_6) (hr0_7 : Kd.C k106 w A0_7 l0_7.length l0_7) (hc0_7 : l0_7.length ≤ c0_7) (hr0_8 : Kd.C k106 w A0_8 l0_8.length l0_8) (hc0_8 : l0_8.length ≤ c0_8) (h : impl_Node_ok.f k a0_0 a0_1 a0_2 l0_3 l0_4 l0_5 l0_6 l0_7 l0_8 a0_9 a1 a2 = some r) :
  Calls Try.prog 79 #[.agg #[.int .i64 a0_0, .int .i64 a0_1, .int .i64 a0_2, .slice A0_3 l0_3.length c0_3, .slice A0_4 l0_4.length c0_4, .slice A0_5 l0_5.length c0_5, .slice A0_6 l0_6.length c0_6, .slice A0_7 l0_7.length c0_7, .slice A0_8 l0_8.length c0_8, .int .i64 a0_9], .int .i64 a1, .int .i64 a2] w fun e w' => e = .returned (.bool r) ∧ Below w.heap.size w w' := by
 unfold impl_Node_ok.f at h
 obtain ⟨b1, h1, h⟩ := Option.bind_eq_some_iff.1 h
 obtain ⟨b2, h2, h⟩ := Option.bind_eq_some_iff.1 h
 obtain ⟨b3, h3, h⟩ := Option.bind_eq_some_iff.1 h
 obtain rfl := Option.some.inj h
 exact nodeOk_walk ⟨a0_0, a0_1, a0_2, l0_3, ⟨l0_4, l0_5⟩, ⟨l0_6, l0_7⟩, l0_8, a0_9⟩ A0_3 A0_4 A0_5 A0_6 A0_7 A0_8 c0_3 c0_4 c0_5 c0_6 c0_7 c0_8 a1 a2 b1 b2 b3 w
  ⟨⟨hc0_3, hr0_3⟩, ⟨hc0_4, hr0_4⟩, ⟨hc0_5, hr0_5⟩, ⟨hc0_6, hr0_6⟩, ⟨hc0_7, hr0_7⟩, ⟨hc0_8, hr0_8⟩⟩
  (fun W hb => impl_PairOk.calls k A0_4 c0_4 l0_4 A0_5 c0_5 l0_5 b1 W (Kd.C_below hr0_4 hb) hc0_4 (Kd.C_below hr0_5 hb) hc0_5 h1)
  (fun W hb => impl_SpanOk.calls k A0_6 c0_6 l0_6 A0_7 c0_7 l0_7 b2 W (Kd.C_below hr0_6 hb) hc0_6 (Kd.C_below hr0_7 hb) hc0_7 h2)
  (fun W hb => impl_OccsOk.calls k A0_8 c0_8 l0_8 b3 W (Kd.C_below hr0_8 hb) hc0_8 h3)

end Go.Proofs.Ytdljhokealbnnaa.M
namespace Go.Proofs.Ytdljhokealbnnaa.M
open Go.RowKit Go.Proofs.YtdljhokealbnnaaW.PrintWords Go.Proofs.YtdljhokealbnnaaW.PrintLast Go.Proofs.YtdljhokealbnnaaW.PrintMore
attribute [local go_sem] max2_int min2_int max_two min_two max_three min_three max_four min_four
set_option linter.unusedVariables false
set_option linter.unusedSimpArgs false

def impl_GraphOk.l0 : Nat → List (S104) → Int → Int → Int → List (S104) → Int → Int → Bool → Option (Bool)
 | 0, _, _, _, _, _, _, _, _ => none
 | k + 1, x6, x7, x8, x102000, x102001, x102002, x102003, x102004 => if x8 < x7 then (if 0 ≤ x8 then (if x8 < (x6.length : Int) then ((impl_Node_ok.f k ((rd_T104 x6 x8).f0) ((rd_T104 x6 x8).f1) ((rd_T104 x6 x8).f2) ((rd_T104 x6 x8).f3) ((rd_T104 x6 x8).f4.f0) ((rd_T104 x6 x8).f4.f1) ((rd_T104 x6 x8).f5.f0) ((rd_T104 x6 x8).f5.f1) ((rd_T104 x6 x8).f6) ((rd_T104 x6 x8).f7) x8 x102003).bind fun t104 => (if t104 = true then (impl_GraphOk.l0 k x6 x7 (wrap64 (x8 + 1)) x102000 x102001 x102002 x102003 x102004) else (some false))) else (none)) else (none)) else ((impl_isMode.f x102000).bind fun t105 => (if t105 = true then ((impl_in.f (x102001.length : Int) 1 12).bind fun t106 => (if t106 = true then ((impl_in.f x102002 0 24).bind fun t107 => (if t107 = true then ((impl_in.f x102003 0 1000).bind fun t108 => (some t108)) else (some false))) else (some false))) else (some false)))
def impl_GraphOk.f (k : Nat) (a0_0 : Int) (l0_1 : List (S104)) (a0_2 : Int) (a0_3 : Int) (a0_4 : Bool) : Option (Bool) := impl_GraphOk.l0 k l0_1 (l0_1.length : Int) 0 a0_0 l0_1 a0_2 a0_3 a0_4
theorem impl_GraphOk.mono_l : ∀ k, (∀ y0 y1 y2 y3 y4 y5 y6 y7, LeO (impl_GraphOk.l0 k y0 y1 y2 y3 y4 y5 y6 y7) (impl_GraphOk.l0 (k + 1) y0 y1 y2 y3 y4 y5 y6 y7))
 | 0 => fun _ _ _ _ _ _ _ _ r h => by simp [impl_GraphOk.l0] at h
 | k + 1 => by
  have ih0 := impl_GraphOk.mono_l k
  ·intro y0 y1 y2 y3 y4 y5 y6 y7
   unfold impl_GraphOk.l0
   repeat' first
   | (with_reducible exact ih0 _ _ _ _ _ _ _ _)
   | (with_reducible exact impl_Node_ok.mono _ _ _ _ _ _ _ _ _ _ _ _ _)
   | (with_reducible exact LeO.refl _)
   | (with_reducible exact LeO.none _)
   | (with_reducible refine LeO.ite ?_ ?_)
   | (with_reducible refine LeO.bind ?_ (fun _ => ?_))
   | exact ih0 _ _ _ _ _ _ _ _
   | exact impl_Node_ok.mono _ _ _ _ _ _ _ _ _ _ _ _ _
   | exact LeO.none _
   | refine LeO.ite ?_ ?_
   | refine LeO.bind ?_ (fun _ => ?_)
theorem impl_GraphOk.mono : ∀ a0 a1 a2 a3 a4 k, LeO (impl_GraphOk.f k a0 a1 a2 a3 a4) (impl_GraphOk.f (k + 1) a0 a1 a2 a3 a4) := by
 intro a0 a1 a2 a3 a4 k
 have ih0 := impl_GraphOk.mono_l k
 unfold impl_GraphOk.f
 repeat' first
   | (with_reducible exact ih0 _ _ _ _ _ _ _ _)
   | (with_reducible exact impl_Node_ok.mono _ _ _ _ _ _ _ _ _ _ _ _ _)
   | (with_reducible exact LeO.refl _)
   | (with_reducible exact LeO.none _)
   | (with_reducible refine LeO.ite ?_ ?_)
   | (with_reducible refine LeO.bind ?_ (fun _ => ?_))
   | exact ih0 _ _ _ _ _ _ _ _
   | exact impl_Node_ok.mono _ _ _ _ _ _ _ _ _ _ _ _ _
   | exact LeO.none _
   | refine LeO.ite ?_ ?_
   | refine LeO.bind ?_ (fun _ => ?_)
set_option maxHeartbeats 8000000 in
set_option maxRecDepth 100000 in
theorem impl_GraphOk.calls (k : Nat) (a0_0 : Int) (A0_1 : Option Addr) (c0_1 : Nat) (l0_1 : List (S104)) (a0_2 : Int) (a0_3 : Int) (a0_4 : Bool) (r : Bool) (w : World) (hr0_1 : Kd.C k104 w A0_1 l0_1.length l0_1) (hc0_1 : l0_1.length ≤ c0_1) (h : impl_GraphOk.f k a0_0 l0_1 a0_2 a0_3 a0_4 = some r) :
  Calls Try.prog 47 #[.agg #[.int .i64 a0_0, .slice A0_1 l0_1.length c0_1, .int .i64 a0_2, .int .i64 a0_3, .bool a0_4]] w fun e w' => e = .returned (.bool r) ∧ Below w.heap.size w w' := by
 have hu63 := Try.underlying63
 have hu104 := Try.underlying104
 have HR0_1 := Aside0.mk hr0_1
 have HC0_1 := Aside0.mk hc0_1
 clear hr0_1 hc0_1
 have HB := Aside0.mk (Below.refl w.heap.size w)
 have H : (impl_GraphOk.l0 k l0_1 (l0_1.length : Int) 0 a0_0 l0_1 a0_2 a0_3 a0_4) = some r := h
 clear h
 have H' := Aside0.mk H
 clear H
 go_enter Try.func47, Try.ntmps47
 go_wp2_with (first | ((with_reducible refine gate_dst (N := 1) rfl ?_);(try (refine gate_guard (by rfl) ?_;dsimp only));refine box_event ?hg (N := 1) ?hd (cs := #[.int .i64 a0_0, .slice A0_1 l0_1.length c0_1, .int .i64 a0_2, .int .i64 a0_3, .bool a0_4]) (t := 63) ?hr ?_;(case hd => rfl);(case hg => rfl);(case hr => first | (go_simp;done) | (go_simp;rfl));intro gb101 hg w2 hbox hb;have BK101 := Aside0.mk (hbox);have GW101 := Aside0.mk ((by rw [hg];exact (below_size (by repeat (first | (with_reducible first | exact HB.out | apply below_alloc | apply pw_below_drewN | apply below_drew1) | exact HB.out))) : w.heap.size ≤ gb101));have GE101 := Aside0.mk ((by rw [hg];exact (below_size (by repeat (first | (with_reducible first | exact HB.out | apply below_alloc | apply pw_below_drewN | apply below_drew1) | exact HB.out))) : w.heap.size ≤ gb101));replace HB := Aside0.mk (below_step (by repeat (first | (with_reducible first | exact HB.out | apply below_alloc | apply pw_below_drewN | apply below_drew1) | exact HB.out)) hb);clear hb hbox hg;obtain ⟨hcz3_0, hcz3_1, hcz3_2, hcz3_3, hcz3_4, hfz3_0, hfz3_1, hfz3_2, hfz3_3, hfz3_4⟩ := bx5 BK101.out))
 go_loopg [8] k (fun kq v8 w' => ∃ (x8_1 : Int), v8 = .int .i64 x8_1 ∧ Aside0 (impl_GraphOk.l0 kq l0_1 (l0_1.length : Int) x8_1 a0_0 l0_1 a0_2 a0_3 a0_4 = some r) ∧ Aside0 (kq ≤ k) ∧ Aside0 (w'.heap[gb101]? = some (.cells #[.int .i64 a0_0, (.slice A0_1 l0_1.length c0_1), .int .i64 a0_2, .int .i64 a0_3, .bool a0_4] 63 (0, 0))) ∧ Aside0 (Below w.heap.size w w'))
 case atStart => exact ⟨(0), (by first | rfl | (simp;done) | (simp [*];done)), H', ⟨Nat.le_refl _⟩, ⟨by (with_reducible repeat (first | refine blk_drewN ?_ _ | refine blk_drew ?_ | refine blk_alloc ?_ _));exact BK101.out⟩, ⟨by repeat (first | (with_reducible first | exact HB.out | apply below_alloc | apply pw_below_drewN | apply below_drew1 | refine below_set ?_ GE101.out) | exact HB.out)⟩⟩
 case round =>
  clear H'
  try clear p2
  try clear hcz3_0
  try clear hcz3_1
  try clear hcz3_2
  try clear hcz3_3
  try clear hcz3_4
  try clear hfz3_0
  try clear hfz3_1
  try clear hfz3_2
  try clear hfz3_3
  try clear hfz3_4
  obtain ⟨x8_1, rfl, HA, HK1, BK101, HB⟩ := hrel
  cases gk with
  | zero => exact absurd HA.out (by simp [impl_GraphOk.l0])
  | succ k1 =>
   have H := HA.out
   clear HA
   simp only [impl_GraphOk.l0] at H
   by_cases c4 : x8_1 < (l0_1.length : Int)
   ·rw [if_pos c4] at H
    have c4b0 : decide (x8_1 < (l0_1.length : Int)) = true := decide_eq_true c4
    clear c4
    by_cases c5 : 0 ≤ x8_1
    ·rw [if_pos c5] at H
     have c5b0 : decide (0 ≤ x8_1) = true := decide_eq_true c5
     clear c5
     by_cases c6 : x8_1 < (l0_1.length : Int)
     ·rw [if_pos c6] at H
      have c6b0 : decide (x8_1 < (l0_1.length : Int)) = true := decide_eq_true c6
      clear c6
      replace H := Option.bind_eq_some_iff.mp H
      obtain ⟨t104, A70, H⟩ := H
      replace H : (if t104 = true then (impl_GraphOk.l0 k1 l0_1 (l0_1.length : Int) (wrap64 (x8_1 + 1)) a0_0 l0_1 a0_2 a0_3 a0_4) else (some false)) = some r := H
      have A7 := Aside0.mk A70
      clear A70
      by_cases c8 : t104 = true
      ·subst c8
       have H1 : (impl_GraphOk.l0 k1 l0_1 (l0_1.length : Int) (wrap64 (x8_1 + 1)) a0_0 l0_1 a0_2 a0_3 a0_4) = some r := by rw [if_pos rfl] at H;exact H
       clear H
       have H := H1
       clear H1
       have H' := Aside0.mk H
       clear H
       have p102 : 0 ≤ (x8_1 : Int) := of_decide_eq_true (by first | (with_reducible assumption) | assumption)
       have q102 : x8_1 < (l0_1.length : Int) := of_decide_eq_true (by first | (with_reducible assumption) | assumption)
       obtain ⟨ad102, A102_3, c102_3, A102_4, c102_4, A102_5, c102_5, A102_6, c102_6, A102_7, c102_7, A102_8, c102_8, e102, hx102_0, hx102_1, hx102_2, hx102_3, hx102_4, hx102_5, hx102_6, hx102_7, hx102_8, hx102_9, hl102_3, hi102_3, hl102_4, hi102_4, hl102_5, hi102_5, hl102_6, hi102_6, hl102_7, hi102_7, hl102_8, hi102_8⟩ := at_T104 HR0_1.out x8_1 p102 q102
       cases e102
       replace hx102_0 := (HB.out.cell (World.block_lt_of_cell? w _ hx102_0)).trans hx102_0
       replace hx102_1 := (HB.out.cell (World.block_lt_of_cell? w _ hx102_1)).trans hx102_1
       replace hx102_2 := (HB.out.cell (World.block_lt_of_cell? w _ hx102_2)).trans hx102_2
       replace hx102_3 := (HB.out.cell (World.block_lt_of_cell? w _ hx102_3)).trans hx102_3
       replace hx102_4 := (HB.out.cell (World.block_lt_of_cell? w _ hx102_4)).trans hx102_4
       replace hx102_5 := (HB.out.cell (World.block_lt_of_cell? w _ hx102_5)).trans hx102_5
       replace hx102_6 := (HB.out.cell (World.block_lt_of_cell? w _ hx102_6)).trans hx102_6
       replace hx102_7 := (HB.out.cell (World.block_lt_of_cell? w _ hx102_7)).trans hx102_7
       replace hx102_8 := (HB.out.cell (World.block_lt_of_cell? w _ hx102_8)).trans hx102_8
       replace hx102_9 := (HB.out.cell (World.block_lt_of_cell? w _ hx102_9)).trans hx102_9
       have HR102_3 := Aside0.mk hi102_3
       have HC102_3 := Aside0.mk hl102_3
       clear hi102_3 hl102_3
       have HR102_4 := Aside0.mk hi102_4
       have HC102_4 := Aside0.mk hl102_4
       clear hi102_4 hl102_4
       have HR102_5 := Aside0.mk hi102_5
       have HC102_5 := Aside0.mk hl102_5
       clear hi102_5 hl102_5
       have HR102_6 := Aside0.mk hi102_6
       have HC102_6 := Aside0.mk hl102_6
       clear hi102_6 hl102_6
       have HR102_7 := Aside0.mk hi102_7
       have HC102_7 := Aside0.mk hl102_7
       clear hi102_7 hl102_7
       have HR102_8 := Aside0.mk hi102_8
       have HC102_8 := Aside0.mk hl102_8
       clear hi102_8 hl102_8
       replace p102 := eq_true p102
       replace q102 := eq_true q102
       go_wp2_with (first | ((with_reducible refine gate_dst (N := 4) rfl ?_);(try (refine gate_guard (by rfl) ?_;dsimp only));refine box_event ?hg (N := 4) ?hd (cs := #[.int .i64 0, .int .i64 0, .int .i64 0, .slice none 0 0, .slice none 0 0, .slice none 0 0, .slice none 0 0, .slice none 0 0, .slice none 0 0, .int .i64 0]) (t := 104) ?hr ?_;(case hd => rfl);(case hg => rfl);(case hr => first | (go_simp;done) | (go_simp;rfl));intro gb103 hg w9 hbox hb;have BK103 := Aside0.mk (hbox);have GW103 := Aside0.mk ((by rw [hg];exact (below_size (by repeat (first | (with_reducible first | exact HB.out | apply below_alloc | apply pw_below_drewN | apply below_drew1 | refine below_set ?_ GE101.out) | exact HB.out))) : w.heap.size ≤ gb103));have GE103 := Aside0.mk ((by rw [hg];exact (below_size (by repeat (first | (with_reducible first | exact HB.out | apply below_alloc | apply pw_below_drewN | apply below_drew1 | refine below_set ?_ GE101.out) | exact HB.out))) : w.heap.size ≤ gb103));replace HB := Aside0.mk (below_step (by repeat (first | (with_reducible first | exact HB.out | apply below_alloc | apply pw_below_drewN | apply below_drew1 | refine below_set ?_ GE101.out) | exact HB.out)) hb);have NB101_103 := Aside0.mk ((by rw [hg];exact Nat.ne_of_lt (blk_lt BK101.out) : gb101 ≠ gb103));have NB103_101 := Aside0.mk ((by rw [hg];exact Nat.ne_of_gt (blk_lt BK101.out) : gb103 ≠ gb101));replace BK101 := Aside0.mk (blk_below BK101.out hb);clear hb hbox hg;have hnb10 := NB103_101.out;have hnc10 := NB101_103.out;obtain ⟨hcz11_0, hcz11_1, hcz11_2, hcz11_3, hcz11_4, hcz11_5, hcz11_6, hcz11_7, hcz11_8, hcz11_9, hfz11_0, hfz11_1, hfz11_2, hfz11_3, hfz11_4, hfz11_5, hfz11_6, hfz11_7, hfz11_8, hfz11_9⟩ := bx10 BK103.out;obtain ⟨hcz12_0, hcz12_1, hcz12_2, hcz12_3, hcz12_4, hfz12_0, hfz12_1, hfz12_2, hfz12_3, hfz12_4⟩ := bx5 BK101.out) | ((with_reducible refine gate_callee (f := 79) rfl ?_);refine goesL_ (some 17) rfl rfl Try.func79 (by kernel_rfl) rfl #[.agg #[.int .i64 ((rd_T104 l0_1 x8_1).f0), .int .i64 ((rd_T104 l0_1 x8_1).f1), .int .i64 ((rd_T104 l0_1 x8_1).f2), .slice A102_3 ((rd_T104 l0_1 x8_1).f3).length c102_3, .slice A102_4 ((rd_T104 l0_1 x8_1).f4.f0).length c102_4, .slice A102_5 ((rd_T104 l0_1 x8_1).f4.f1).length c102_5, .slice A102_6 ((rd_T104 l0_1 x8_1).f5.f0).length c102_6, .slice A102_7 ((rd_T104 l0_1 x8_1).f5.f1).length c102_7, .slice A102_8 ((rd_T104 l0_1 x8_1).f6).length c102_8, .int .i64 ((rd_T104 l0_1 x8_1).f7)], .int .i64 x8_1, .int .i64 a0_3] rfl (by (try simp only [List.map_toArray, List.map_cons, List.map_nil]);first | done | rfl | (simp only [List.length_drop, List.length_take];rfl)) ?_;(with_reducible refine (impl_Node_ok.calls k1 ((rd_T104 l0_1 x8_1).f0) ((rd_T104 l0_1 x8_1).f1) ((rd_T104 l0_1 x8_1).f2) _ _ ((rd_T104 l0_1 x8_1).f3) _ _ ((rd_T104 l0_1 x8_1).f4.f0) _ _ ((rd_T104 l0_1 x8_1).f4.f1) _ _ ((rd_T104 l0_1 x8_1).f5.f0) _ _ ((rd_T104 l0_1 x8_1).f5.f1) _ _ ((rd_T104 l0_1 x8_1).f6) ((rd_T104 l0_1 x8_1).f7) x8_1 a0_3 true _ ?side1 ?side2 ?side3 ?side4 ?side5 ?side6 ?side7 ?side8 ?side9 ?side10 ?side11 ?side12 A7.out).mono ?_);(case side1 => exact Kd.C_below HR102_3.out (by repeat (first | (with_reducible first | exact HB.out | apply below_alloc | apply pw_below_drewN | apply below_drew1 | refine below_set ?_ GE101.out | refine below_set ?_ GE103.out) | exact HB.out)));(case side2 => exact HC102_3.out);(case side3 => exact Kd.C_below HR102_4.out (by repeat (first | (with_reducible first | exact HB.out | apply below_alloc | apply pw_below_drewN | apply below_drew1 | refine below_set ?_ GE101.out | refine below_set ?_ GE103.out) | exact HB.out)));(case side4 => exact HC102_4.out);(case side5 => exact Kd.C_below HR102_5.out (by repeat (first | (with_reducible first | exact HB.out | apply below_alloc | apply pw_below_drewN | apply below_drew1 | refine below_set ?_ GE101.out | refine below_set ?_ GE103.out) | exact HB.out)));(case side6 => exact HC102_5.out);(case side7 => exact Kd.C_below HR102_6.out (by repeat (first | (with_reducible first | exact HB.out | apply below_alloc | apply pw_below_drewN | apply below_drew1 | refine below_set ?_ GE101.out | refine below_set ?_ GE103.out) | exact HB.out)));(case side8 => exact HC102_6.out);(case side9 => exact Kd.C_below HR102_7.out (by repeat (first | (with_reducible first | exact HB.out | apply below_alloc | apply pw_below_drewN | apply below_drew1 | refine below_set ?_ GE101.out | refine below_set ?_ GE103.out) | exact HB.out)));(case side10 => exact HC102_7.out);(case side11 => exact Kd.C_below HR102_8.out (by repeat (first | (with_reducible first | exact HB.out | apply below_alloc | apply pw_below_drewN | apply below_drew1 | refine below_set ?_ GE101.out | refine below_set ?_ GE103.out) | exact HB.out)));(case side12 => exact HC102_8.out);rintro e w13 ⟨rfl, hb⟩;refine ⟨_, rfl, ?_⟩;replace BK101 := Aside0.mk (blk_below (g := gb101) (o := .cells #[.int .i64 a0_0, .slice (some ad102) l0_1.length c0_1, .int .i64 a0_2, .int .i64 a0_3, .bool a0_4] 63 (0, 0)) (by (with_reducible repeat (first | refine blk_drewN ?_ _ | refine blk_drew ?_ | refine blk_alloc ?_ _));refine blk_far ?_ NB101_103.out _;(with_reducible repeat (first | refine blk_drewN ?_ _ | refine blk_drew ?_ | refine blk_alloc ?_ _));refine blk_far ?_ NB101_103.out _;(with_reducible repeat (first | refine blk_drewN ?_ _ | refine blk_drew ?_ | refine blk_alloc ?_ _));refine blk_far ?_ NB101_103.out _;(with_reducible repeat (first | refine blk_drewN ?_ _ | refine blk_drew ?_ | refine blk_alloc ?_ _));refine blk_far ?_ NB101_103.out _;(with_reducible repeat (first | refine blk_drewN ?_ _ | refine blk_drew ?_ | refine blk_alloc ?_ _));refine blk_far ?_ NB101_103.out _;(with_reducible repeat (first | refine blk_drewN ?_ _ | refine blk_drew ?_ | refine blk_alloc ?_ _));refine blk_far ?_ NB101_103.out _;(with_reducible repeat (first | refine blk_drewN ?_ _ | refine blk_drew ?_ | refine blk_alloc ?_ _));refine blk_far ?_ NB101_103.out _;(with_reducible repeat (first | refine blk_drewN ?_ _ | refine blk_drew ?_ | refine blk_alloc ?_ _));refine blk_far ?_ NB101_103.out _;(with_reducible repeat (first | refine blk_drewN ?_ _ | refine blk_drew ?_ | refine blk_alloc ?_ _));refine blk_far ?_ NB101_103.out _;(with_reducible repeat (first | refine blk_drewN ?_ _ | refine blk_drew ?_ | refine blk_alloc ?_ _));refine blk_far ?_ NB101_103.out _;(with_reducible repeat (first | refine blk_drewN ?_ _ | refine blk_drew ?_ | refine blk_alloc ?_ _));exact BK101.out) hb);replace BK103 := Aside0.mk (blk_below (g := gb103) (o := .cells #[.int .i64 ((rd_T104 l0_1 x8_1).f0), .int .i64 ((rd_T104 l0_1 x8_1).f1), .int .i64 ((rd_T104 l0_1 x8_1).f2), .slice A102_3 ((rd_T104 l0_1 x8_1).f3).length c102_3, .slice A102_4 ((rd_T104 l0_1 x8_1).f4.f0).length c102_4, .slice A102_5 ((rd_T104 l0_1 x8_1).f4.f1).length c102_5, .slice A102_6 ((rd_T104 l0_1 x8_1).f5.f0).length c102_6, .slice A102_7 ((rd_T104 l0_1 x8_1).f5.f1).length c102_7, .slice A102_8 ((rd_T104 l0_1 x8_1).f6).length c102_8, .int .i64 ((rd_T104 l0_1 x8_1).f7)] 104 (0, 0)) (by (with_reducible repeat (first | refine blk_drewN ?_ _ | refine blk_drew ?_ | refine blk_alloc ?_ _));refine blk_put (cs := #[.int .i64 ((rd_T104 l0_1 x8_1).f0), .int .i64 ((rd_T104 l0_1 x8_1).f1), .int .i64 ((rd_T104 l0_1 x8_1).f2), .slice A102_3 ((rd_T104 l0_1 x8_1).f3).length c102_3, .slice A102_4 ((rd_T104 l0_1 x8_1).f4.f0).length c102_4, .slice A102_5 ((rd_T104 l0_1 x8_1).f4.f1).length c102_5, .slice A102_6 ((rd_T104 l0_1 x8_1).f5.f0).length c102_6, .slice A102_7 ((rd_T104 l0_1 x8_1).f5.f1).length c102_7, .slice A102_8 ((rd_T104 l0_1 x8_1).f6).length c102_8, .int .i64 0]) ?_ 9 _ rfl;(with_reducible repeat (first | refine blk_drewN ?_ _ | refine blk_drew ?_ | refine blk_alloc ?_ _));refine blk_put (cs := #[.int .i64 ((rd_T104 l0_1 x8_1).f0), .int .i64 ((rd_T104 l0_1 x8_1).f1), .int .i64 ((rd_T104 l0_1 x8_1).f2), .slice A102_3 ((rd_T104 l0_1 x8_1).f3).length c102_3, .slice A102_4 ((rd_T104 l0_1 x8_1).f4.f0).length c102_4, .slice A102_5 ((rd_T104 l0_1 x8_1).f4.f1).length c102_5, .slice A102_6 ((rd_T104 l0_1 x8_1).f5.f0).length c102_6, .slice A102_7 ((rd_T104 l0_1 x8_1).f5.f1).length c102_7, .slice none 0 0, .int .i64 0]) ?_ 8 _ rfl;(with_reducible repeat (first | refine blk_drewN ?_ _ | refine blk_drew ?_ | refine blk_alloc ?_ _));refine blk_put (cs := #[.int .i64 ((rd_T104 l0_1 x8_1).f0), .int .i64 ((rd_T104 l0_1 x8_1).f1), .int .i64 ((rd_T104 l0_1 x8_1).f2), .slice A102_3 ((rd_T104 l0_1 x8_1).f3).length c102_3, .slice A102_4 ((rd_T104 l0_1 x8_1).f4.f0).length c102_4, .slice A102_5 ((rd_T104 l0_1 x8_1).f4.f1).length c102_5, .slice A102_6 ((rd_T104 l0_1 x8_1).f5.f0).length c102_6, .slice none 0 0, .slice none 0 0, .int .i64 0]) ?_ 7 _ rfl;(with_reducible repeat (first | refine blk_drewN ?_ _ | refine blk_drew ?_ | refine blk_alloc ?_ _));refine blk_put (cs := #[.int .i64 ((rd_T104 l0_1 x8_1).f0), .int .i64 ((rd_T104 l0_1 x8_1).f1), .int .i64 ((rd_T104 l0_1 x8_1).f2), .slice A102_3 ((rd_T104 l0_1 x8_1).f3).length c102_3, .slice A102_4 ((rd_T104 l0_1 x8_1).f4.f0).length c102_4, .slice A102_5 ((rd_T104 l0_1 x8_1).f4.f1).length c102_5, .slice none 0 0, .slice none 0 0, .slice none 0 0, .int .i64 0]) ?_ 6 _ rfl;(with_reducible repeat (first | refine blk_drewN ?_ _ | refine blk_drew ?_ | refine blk_alloc ?_ _));refine blk_put (cs := #[.int .i64 ((rd_T104 l0_1 x8_1).f0), .int .i64 ((rd_T104 l0_1 x8_1).f1), .int .i64 ((rd_T104 l0_1 x8_1).f2), .slice A102_3 ((rd_T104 l0_1 x8_1).f3).length c102_3, .slice A102_4 ((rd_T104 l0_1 x8_1).f4.f0).length c102_4, .slice none 0 0, .slice none 0 0, .slice none 0 0, .slice none 0 0, .int .i64 0]) ?_ 5 _ rfl;(with_reducible repeat (first | refine blk_drewN ?_ _ | refine blk_drew ?_ | refine blk_alloc ?_ _));refine blk_put (cs := #[.int .i64 ((rd_T104 l0_1 x8_1).f0), .int .i64 ((rd_T104 l0_1 x8_1).f1), .int .i64 ((rd_T104 l0_1 x8_1).f2), .slice A102_3 ((rd_T104 l0_1 x8_1).f3).length c102_3, .slice none 0 0, .slice none 0 0, .slice none 0 0, .slice none 0 0, .slice none 0 0, .int .i64 0]) ?_ 4 _ rfl;(with_reducible repeat (first | refine blk_drewN ?_ _ | refine blk_drew ?_ | refine blk_alloc ?_ _));refine blk_put (cs := #[.int .i64 ((rd_T104 l0_1 x8_1).f0), .int .i64 ((rd_T104 l0_1 x8_1).f1), .int .i64 ((rd_T104 l0_1 x8_1).f2), .slice none 0 0, .slice none 0 0, .slice none 0 0, .slice none 0 0, .slice none 0 0, .slice none 0 0, .int .i64 0]) ?_ 3 _ rfl;(with_reducible repeat (first | refine blk_drewN ?_ _ | refine blk_drew ?_ | refine blk_alloc ?_ _));refine blk_put (cs := #[.int .i64 ((rd_T104 l0_1 x8_1).f0), .int .i64 ((rd_T104 l0_1 x8_1).f1), .int .i64 0, .slice none 0 0, .slice none 0 0, .slice none 0 0, .slice none 0 0, .slice none 0 0, .slice none 0 0, .int .i64 0]) ?_ 2 _ rfl;(with_reducible repeat (first | refine blk_drewN ?_ _ | refine blk_drew ?_ | refine blk_alloc ?_ _));refine blk_put (cs := #[.int .i64 ((rd_T104 l0_1 x8_1).f0), .int .i64 0, .int .i64 0, .slice none 0 0, .slice none 0 0, .slice none 0 0, .slice none 0 0, .slice none 0 0, .slice none 0 0, .int .i64 0]) ?_ 1 _ rfl;(with_reducible repeat (first | refine blk_drewN ?_ _ | refine blk_drew ?_ | refine blk_alloc ?_ _));refine blk_put (cs := #[.int .i64 0, .int .i64 0, .int .i64 0, .slice none 0 0, .slice none 0 0, .slice none 0 0, .slice none 0 0, .slice none 0 0, .slice none 0 0, .int .i64 0]) ?_ 0 _ rfl;(with_reducible repeat (first | refine blk_drewN ?_ _ | refine blk_drew ?_ | refine blk_alloc ?_ _));exact BK103.out) hb);replace HB := Aside0.mk (below_step (by repeat (first | (with_reducible first | exact HB.out | apply below_alloc | apply pw_below_drewN | apply below_drew1 | refine below_set ?_ GE101.out | refine below_set ?_ GE103.out) | exact HB.out)) hb);(try clear hb);(try clear hb2);(try clear hk);(try clear hi)))
       go_roundg k1
       case measure => have := HK1.out;omega
       case rel => exact ⟨(wrap64 (x8_1 + 1)), (by first | rfl | (simp;done) | (simp [*];done)), H', ⟨by have := HK1.out;omega⟩, ⟨by (with_reducible repeat (first | refine blk_drewN ?_ _ | refine blk_drew ?_ | refine blk_alloc ?_ _));exact BK101.out⟩, ⟨by repeat (first | (with_reducible first | exact HB.out | apply below_alloc | apply pw_below_drewN | apply below_drew1 | refine below_set ?_ GE101.out | refine below_set ?_ GE103.out) | exact HB.out)⟩⟩
      ·replace c8 := Bool.eq_false_iff.mpr c8
       subst c8
       have H1 : (some false) = some r := by rw [if_neg (show ¬ (false = true) by decide)] at H;exact H
       clear H
       have H := H1
       clear H1
       obtain rfl := Option.some.inj H
       have p102 : 0 ≤ (x8_1 : Int) := of_decide_eq_true (by first | (with_reducible assumption) | assumption)
       have q102 : x8_1 < (l0_1.length : Int) := of_decide_eq_true (by first | (with_reducible assumption) | assumption)
       obtain ⟨ad102, A102_3, c102_3, A102_4, c102_4, A102_5, c102_5, A102_6, c102_6, A102_7, c102_7, A102_8, c102_8, e102, hx102_0, hx102_1, hx102_2, hx102_3, hx102_4, hx102_5, hx102_6, hx102_7, hx102_8, hx102_9, hl102_3, hi102_3, hl102_4, hi102_4, hl102_5, hi102_5, hl102_6, hi102_6, hl102_7, hi102_7, hl102_8, hi102_8⟩ := at_T104 HR0_1.out x8_1 p102 q102
       cases e102
       replace hx102_0 := (HB.out.cell (World.block_lt_of_cell? w _ hx102_0)).trans hx102_0
       replace hx102_1 := (HB.out.cell (World.block_lt_of_cell? w _ hx102_1)).trans hx102_1
       replace hx102_2 := (HB.out.cell (World.block_lt_of_cell? w _ hx102_2)).trans hx102_2
       replace hx102_3 := (HB.out.cell (World.block_lt_of_cell? w _ hx102_3)).trans hx102_3
       replace hx102_4 := (HB.out.cell (World.block_lt_of_cell? w _ hx102_4)).trans hx102_4
       replace hx102_5 := (HB.out.cell (World.block_lt_of_cell? w _ hx102_5)).trans hx102_5
       replace hx102_6 := (HB.out.cell (World.block_lt_of_cell? w _ hx102_6)).trans hx102_6
       replace hx102_7 := (HB.out.cell (World.block_lt_of_cell? w _ hx102_7)).trans hx102_7
       replace hx102_8 := (HB.out.cell (World.block_lt_of_cell? w _ hx102_8)).trans hx102_8
       replace hx102_9 := (HB.out.cell (World.block_lt_of_cell? w _ hx102_9)).trans hx102_9
       have HR102_3 := Aside0.mk hi102_3
       have HC102_3 := Aside0.mk hl102_3
       clear hi102_3 hl102_3
       have HR102_4 := Aside0.mk hi102_4
       have HC102_4 := Aside0.mk hl102_4
       clear hi102_4 hl102_4
       have HR102_5 := Aside0.mk hi102_5
       have HC102_5 := Aside0.mk hl102_5
       clear hi102_5 hl102_5
       have HR102_6 := Aside0.mk hi102_6
       have HC102_6 := Aside0.mk hl102_6
       clear hi102_6 hl102_6
       have HR102_7 := Aside0.mk hi102_7
       have HC102_7 := Aside0.mk hl102_7
       clear hi102_7 hl102_7
       have HR102_8 := Aside0.mk hi102_8
       have HC102_8 := Aside0.mk hl102_8
       clear hi102_8 hl102_8
       replace p102 := eq_true p102
       replace q102 := eq_true q102
       go_wp2_with (first | ((with_reducible refine gate_dst (N := 4) rfl ?_);(try (refine gate_guard (by rfl) ?_;dsimp only));refine box_event ?hg (N := 4) ?hd (cs := #[.int .i64 0, .int .i64 0, .int .i64 0, .slice none 0 0, .slice none 0 0, .slice none 0 0, .slice none 0 0, .slice none 0 0, .slice none 0 0, .int .i64 0]) (t := 104) ?hr ?_;(case hd => rfl);(case hg => rfl);(case hr => first | (go_simp;done) | (go_simp;rfl));intro gb103 hg w14 hbox hb;have BK103 := Aside0.mk (hbox);have GW103 := Aside0.mk ((by rw [hg];exact (below_size (by repeat (first | (with_reducible first | exact HB.out | apply below_alloc | apply pw_below_drewN | apply below_drew1 | refine below_set ?_ GE101.out) | exact HB.out))) : w.heap.size ≤ gb103));have GE103 := Aside0.mk ((by rw [hg];exact (below_size (by repeat (first | (with_reducible first | exact HB.out | apply below_alloc | apply pw_below_drewN | apply below_drew1 | refine below_set ?_ GE101.out) | exact HB.out))) : w.heap.size ≤ gb103));replace HB := Aside0.mk (below_step (by repeat (first | (with_reducible first | exact HB.out | apply below_alloc | apply pw_below_drewN | apply below_drew1 | refine below_set ?_ GE101.out) | exact HB.out)) hb);have NB101_103 := Aside0.mk ((by rw [hg];exact Nat.ne_of_lt (blk_lt BK101.out) : gb101 ≠ gb103));have NB103_101 := Aside0.mk ((by rw [hg];exact Nat.ne_of_gt (blk_lt BK101.out) : gb103 ≠ gb101));replace BK101 := Aside0.mk (blk_below BK101.out hb);clear hb hbox hg;have hnb15 := NB103_101.out;have hnc15 := NB101_103.out;obtain ⟨hcz16_0, hcz16_1, hcz16_2, hcz16_3, hcz16_4, hcz16_5, hcz16_6, hcz16_7, hcz16_8, hcz16_9, hfz16_0, hfz16_1, hfz16_2, hfz16_3, hfz16_4, hfz16_5, hfz16_6, hfz16_7, hfz16_8, hfz16_9⟩ := bx10 BK103.out;obtain ⟨hcz17_0, hcz17_1, hcz17_2, hcz17_3, hcz17_4, hfz17_0, hfz17_1, hfz17_2, hfz17_3, hfz17_4⟩ := bx5 BK101.out) | ((with_reducible refine gate_callee (f := 79) rfl ?_);refine goesL_ (some 17) rfl rfl Try.func79 (by kernel_rfl) rfl #[.agg #[.int .i64 ((rd_T104 l0_1 x8_1).f0), .int .i64 ((rd_T104 l0_1 x8_1).f1), .int .i64 ((rd_T104 l0_1 x8_1).f2), .slice A102_3 ((rd_T104 l0_1 x8_1).f3).length c102_3, .slice A102_4 ((rd_T104 l0_1 x8_1).f4.f0).length c102_4, .slice A102_5 ((rd_T104 l0_1 x8_1).f4.f1).length c102_5, .slice A102_6 ((rd_T104 l0_1 x8_1).f5.f0).length c102_6, .slice A102_7 ((rd_T104 l0_1 x8_1).f5.f1).length c102_7, .slice A102_8 ((rd_T104 l0_1 x8_1).f6).length c102_8, .int .i64 ((rd_T104 l0_1 x8_1).f7)], .int .i64 x8_1, .int .i64 a0_3] rfl (by (try simp only [List.map_toArray, List.map_cons, List.map_nil]);first | done | rfl | (simp only [List.length_drop, List.length_take];rfl)) ?_;(with_reducible refine (impl_Node_ok.calls k1 ((rd_T104 l0_1 x8_1).f0) ((rd_T104 l0_1 x8_1).f1) ((rd_T104 l0_1 x8_1).f2) _ _ ((rd_T104 l0_1 x8_1).f3) _ _ ((rd_T104 l0_1 x8_1).f4.f0) _ _ ((rd_T104 l0_1 x8_1).f4.f1) _ _ ((rd_T104 l0_1 x8_1).f5.f0) _ _ ((rd_T104 l0_1 x8_1).f5.f1) _ _ ((rd_T104 l0_1 x8_1).f6) ((rd_T104 l0_1 x8_1).f7) x8_1 a0_3 false _ ?side1 ?side2 ?side3 ?side4 ?side5 ?side6 ?side7 ?side8 ?side9 ?side10 ?side11 ?side12 A7.out).mono ?_);(case side1 => exact Kd.C_below HR102_3.out (by repeat (first | (with_reducible first | exact HB.out | apply below_alloc | apply pw_below_drewN | apply below_drew1 | refine below_set ?_ GE101.out | refine below_set ?_ GE103.out) | exact HB.out)));(case side2 => exact HC102_3.out);(case side3 => exact Kd.C_below HR102_4.out (by repeat (first | (with_reducible first | exact HB.out | apply below_alloc | apply pw_below_drewN | apply below_drew1 | refine below_set ?_ GE101.out | refine below_set ?_ GE103.out) | exact HB.out)));(case side4 => exact HC102_4.out);(case side5 => exact Kd.C_below HR102_5.out (by repeat (first | (with_reducible first | exact HB.out | apply below_alloc | apply pw_below_drewN | apply below_drew1 | refine below_set ?_ GE101.out | refine below_set ?_ GE103.out) | exact HB.out)));(case side6 => exact HC102_5.out);(case side7 => exact Kd.C_below HR102_6.out (by repeat (first | (with_reducible first | exact HB.out | apply below_alloc | apply pw_below_drewN | apply below_drew1 | refine below_set ?_ GE101.out | refine below_set ?_ GE103.out) | exact HB.out)));(case side8 => exact HC102_6.out);(case side9 => exact Kd.C_below HR102_7.out (by repeat (first | (with_reducible first | exact HB.out | apply below_alloc | apply pw_below_drewN | apply below_drew1 | refine below_set ?_ GE101.out | refine below_set ?_ GE103.out) | exact HB.out)));(case side10 => exact HC102_7.out);(case side11 => exact Kd.C_below HR102_8.out (by repeat (first | (with_reducible first | exact HB.out | apply below_alloc | apply pw_below_drewN | apply below_drew1 | refine below_set ?_ GE101.out | refine below_set ?_ GE103.out) | exact HB.out)));(case side12 => exact HC102_8.out);rintro e w18 ⟨rfl, hb⟩;refine ⟨_, rfl, ?_⟩;replace BK101 := Aside0.mk (blk_below (g := gb101) (o := .cells #[.int .i64 a0_0, .slice (some ad102) l0_1.length c0_1, .int .i64 a0_2, .int .i64 a0_3, .bool a0_4] 63 (0, 0)) (by (with_reducible repeat (first | refine blk_drewN ?_ _ | refine blk_drew ?_ | refine blk_alloc ?_ _));refine blk_far ?_ NB101_103.out _;(with_reducible repeat (first | refine blk_drewN ?_ _ | refine blk_drew ?_ | refine blk_alloc ?_ _));refine blk_far ?_ NB101_103.out _;(with_reducible repeat (first | refine blk_drewN ?_ _ | refine blk_drew ?_ | refine blk_alloc ?_ _));refine blk_far ?_ NB101_103.out _;(with_reducible repeat (first | refine blk_drewN ?_ _ | refine blk_drew ?_ | refine blk_alloc ?_ _));refine blk_far ?_ NB101_103.out _;(with_reducible repeat (first | refine blk_drewN ?_ _ | refine blk_drew ?_ | refine blk_alloc ?_ _));refine blk_far ?_ NB101_103.out _;(with_reducible repeat (first | refine blk_drewN ?_ _ | refine blk_drew ?_ | refine blk_alloc ?_ _));refine blk_far ?_ NB101_103.out _;(with_reducible repeat (first | refine blk_drewN ?_ _ | refine blk_drew ?_ | refine blk_alloc ?_ _));refine blk_far ?_ NB101_103.out _;(with_reducible repeat (first | refine blk_drewN ?_ _ | refine blk_drew ?_ | refine blk_alloc ?_ _));refine blk_far ?_ NB101_103.out _;(with_reducible repeat (first | refine blk_drewN ?_ _ | refine blk_drew ?_ | refine blk_alloc ?_ _));refine blk_far ?_ NB101_103.out _;(with_reducible repeat (first | refine blk_drewN ?_ _ | refine blk_drew ?_ | refine blk_alloc ?_ _));refine blk_far ?_ NB101_103.out _;(with_reducible repeat (first | refine blk_drewN ?_ _ | refine blk_drew ?_ | refine blk_alloc ?_ _));exact BK101.out) hb);replace BK103 := Aside0.mk (blk_below (g := gb103) (o := .cells #[.int .i64 ((rd_T104 l0_1 x8_1).f0), .int .i64 ((rd_T104 l0_1 x8_1).f1), .int .i64 ((rd_T104 l0_1 x8_1).f2), .slice A102_3 ((rd_T104 l0_1 x8_1).f3).length c102_3, .slice A102_4 ((rd_T104 l0_1 x8_1).f4.f0).length c102_4, .slice A102_5 ((rd_T104 l0_1 x8_1).f4.f1).length c102_5, .slice A102_6 ((rd_T104 l0_1 x8_1).f5.f0).length c102_6, .slice A102_7 ((rd_T104 l0_1 x8_1).f5.f1).length c102_7, .slice A102_8 ((rd_T104 l0_1 x8_1).f6).length c102_8, .int .i64 ((rd_T104 l0_1 x8_1).f7)] 104 (0, 0)) (by (with_reducible repeat (first | refine blk_drewN ?_ _ | refine blk_drew ?_ | refine blk_alloc ?_ _));refine blk_put (cs := #[.int .i64 ((rd_T104 l0_1 x8_1).f0), .int .i64 ((rd_T104 l0_1 x8_1).f1), .int .i64 ((rd_T104 l0_1 x8_1).f2), .slice A102_3 ((rd_T104 l0_1 x8_1).f3).length c102_3, .slice A102_4 ((rd_T104 l0_1 x8_1).f4.f0).length c102_4, .slice A102_5 ((rd_T104 l0_1 x8_1).f4.f1).length c102_5, .slice A102_6 ((rd_T104 l0_1 x8_1).f5.f0).length c102_6, .slice A102_7 ((rd_T104 l0_1 x8_1).f5.f1).length c102_7, .slice A102_8 ((rd_T104 l0_1 x8_1).f6).length c102_8, .int .i64 0]) ?_ 9 _ rfl;(with_reducible repeat (first | refine blk_drewN ?_ _ | refine blk_drew ?_ | refine blk_alloc ?_ _));refine blk_put (cs := #[.int .i64 ((rd_T104 l0_1 x8_1).f0), .int .i64 ((rd_T104 l0_1 x8_1).f1), .int .i64 ((rd_T104 l0_1 x8_1).f2), .slice A102_3 ((rd_T104 l0_1 x8_1).f3).length c102_3, .slice A102_4 ((rd_T104 l0_1 x8_1).f4.f0).length c102_4, .slice A102_5 ((rd_T104 l0_1 x8_1).f4.f1).length c102_5, .slice A102_6 ((rd_T104 l0_1 x8_1).f5.f0).length c102_6, .slice A102_7 ((rd_T104 l0_1 x8_1).f5.f1).length c102_7, .slice none 0 0, .int .i64 0]) ?_ 8 _ rfl;(with_reducible repeat (first | refine blk_drewN ?_ _ | refine blk_drew ?_ | refine blk_alloc ?_ _));refine blk_put (cs := #[.int .i64 ((rd_T104 l0_1 x8_1).f0), .int .i64 ((rd_T104 l0_1 x8_1).f1), .int .i64 ((rd_T104 l0_1 x8_1).f2), .slice A102_3 ((rd_T104 l0_1 x8_1).f3).length c102_3, .slice A102_4 ((rd_T104 l0_1 x8_1).f4.f0).length c102_4, .slice A102_5 ((rd_T104 l0_1 x8_1).f4.f1).length c102_5, .slice A102_6 ((rd_T104 l0_1 x8_1).f5.f0).length c102_6, .slice none 0 0, .slice none 0 0, .int .i64 0]) ?_ 7 _ rfl;(with_reducible repeat (first | refine blk_drewN ?_ _ | refine blk_drew ?_ | refine blk_alloc ?_ _));refine blk_put (cs := #[.int .i64 ((rd_T104 l0_1 x8_1).f0), .int .i64 ((rd_T104 l0_1 x8_1).f1), .int .i64 ((rd_T104 l0_1 x8_1).f2), .slice A102_3 ((rd_T104 l0_1 x8_1).f3).length c102_3, .slice A102_4 ((rd_T104 l0_1 x8_1).f4.f0).length c102_4, .slice A102_5 ((rd_T104 l0_1 x8_1).f4.f1).length c102_5, .slice none 0 0, .slice none 0 0, .slice none 0 0, .int .i64 0]) ?_ 6 _ rfl;(with_reducible repeat (first | refine blk_drewN ?_ _ | refine blk_drew ?_ | refine blk_alloc ?_ _));refine blk_put (cs := #[.int .i64 ((rd_T104 l0_1 x8_1).f0), .int .i64 ((rd_T104 l0_1 x8_1).f1), .int .i64 ((rd_T104 l0_1 x8_1).f2), .slice A102_3 ((rd_T104 l0_1 x8_1).f3).length c102_3, .slice A102_4 ((rd_T104 l0_1 x8_1).f4.f0).length c102_4, .slice none 0 0, .slice none 0 0, .slice none 0 0, .slice none 0 0, .int .i64 0]) ?_ 5 _ rfl;(with_reducible repeat (first | refine blk_drewN ?_ _ | refine blk_drew ?_ | refine blk_alloc ?_ _));refine blk_put (cs := #[.int .i64 ((rd_T104 l0_1 x8_1).f0), .int .i64 ((rd_T104 l0_1 x8_1).f1), .int .i64 ((rd_T104 l0_1 x8_1).f2), .slice A102_3 ((rd_T104 l0_1 x8_1).f3).length c102_3, .slice none 0 0, .slice none 0 0, .slice none 0 0, .slice none 0 0, .slice none 0 0, .int .i64 0]) ?_ 4 _ rfl;(with_reducible repeat (first | refine blk_drewN ?_ _ | refine blk_drew ?_ | refine blk_alloc ?_ _));refine blk_put (cs := #[.int .i64 ((rd_T104 l0_1 x8_1).f0), .int .i64 ((rd_T104 l0_1 x8_1).f1), .int .i64 ((rd_T104 l0_1 x8_1).f2), .slice none 0 0, .slice none 0 0, .slice none 0 0, .slice none 0 0, .slice none 0 0, .slice none 0 0, .int .i64 0]) ?_ 3 _ rfl;(with_reducible repeat (first | refine blk_drewN ?_ _ | refine blk_drew ?_ | refine blk_alloc ?_ _));refine blk_put (cs := #[.int .i64 ((rd_T104 l0_1 x8_1).f0), .int .i64 ((rd_T104 l0_1 x8_1).f1), .int .i64 0, .slice none 0 0, .slice none 0 0, .slice none 0 0, .slice none 0 0, .slice none 0 0, .slice none 0 0, .int .i64 0]) ?_ 2 _ rfl;(with_reducible repeat (first | refine blk_drewN ?_ _ | refine blk_drew ?_ | refine blk_alloc ?_ _));refine blk_put (cs := #[.int .i64 ((rd_T104 l0_1 x8_1).f0), .int .i64 0, .int .i64 0, .slice none 0 0, .slice none 0 0, .slice none 0 0, .slice none 0 0, .slice none 0 0, .slice none 0 0, .int .i64 0]) ?_ 1 _ rfl;(with_reducible repeat (first | refine blk_drewN ?_ _ | refine blk_drew ?_ | refine blk_alloc ?_ _));refine blk_put (cs := #[.int .i64 0, .int .i64 0, .int .i64 0, .slice none 0 0, .slice none 0 0, .slice none 0 0, .slice none 0 0, .slice none 0 0, .slice none 0 0, .int .i64 0]) ?_ 0 _ rfl;(with_reducible repeat (first | refine blk_drewN ?_ _ | refine blk_drew ?_ | refine blk_alloc ?_ _));exact BK103.out) hb);replace HB := Aside0.mk (below_step (by repeat (first | (with_reducible first | exact HB.out | apply below_alloc | apply pw_below_drewN | apply below_drew1 | refine below_set ?_ GE101.out | refine below_set ?_ GE103.out) | exact HB.out)) hb);(try clear hb);(try clear hb2);(try clear hk);(try clear hi)))
       go_ret
       exact ⟨by first | rfl | (simp [errW_none, errW_some] <;> rfl) | (simp [*, errW_none, errW_some] <;> rfl), by repeat (first | (with_reducible first | exact HB.out | apply below_alloc | apply pw_below_drewN | apply below_drew1 | refine below_set ?_ GE101.out | refine below_set ?_ GE103.out) | exact HB.out)⟩
     ·rw [if_neg c6] at H
      exact absurd H (by simp)
    ·rw [if_neg c5] at H
     exact absurd H (by simp)
   ·rw [if_neg c4] at H
    have c4b0 : decide (x8_1 < (l0_1.length : Int)) = false := decide_eq_false c4
    clear c4
    replace H := Option.bind_eq_some_iff.mp H
    obtain ⟨t105, A190, H⟩ := H
    replace H : (if t105 = true then ((impl_in.f (l0_1.length : Int) 1 12).bind fun t106 => (if t106 = true then ((impl_in.f a0_2 0 24).bind fun t107 => (if t107 = true then ((impl_in.f a0_3 0 1000).bind fun t108 => (some t108)) else (some false))) else (some false))) else (some false)) = some r := H
    have A19 := Aside0.mk A190
    clear A190
    by_cases c20 : t105 = true
    ·subst c20
     have H1 : ((impl_in.f (l0_1.length : Int) 1 12).bind fun t106 => (if t106 = true then ((impl_in.f a0_2 0 24).bind fun t107 => (if t107 = true then ((impl_in.f a0_3 0 1000).bind fun t108 => (some t108)) else (some false))) else (some false))) = some r := by rw [if_pos rfl] at H;exact H
     clear H
     have H := H1
     clear H1
     replace H := Option.bind_eq_some_iff.mp H
     obtain ⟨t106, A210, H⟩ := H
     replace H : (if t106 = true then ((impl_in.f a0_2 0 24).bind fun t107 => (if t107 = true then ((impl_in.f a0_3 0 1000).bind fun t108 => (some t108)) else (some false))) else (some false)) = some r := H
     have A21 := Aside0.mk A210
     clear A210
     by_cases c22 : t106 = true
     ·subst c22
      have H1 : ((impl_in.f a0_2 0 24).bind fun t107 => (if t107 = true then ((impl_in.f a0_3 0 1000).bind fun t108 => (some t108)) else (some false))) = some r := by rw [if_pos rfl] at H;exact H
      clear H
      have H := H1
      clear H1
      replace H := Option.bind_eq_some_iff.mp H
      obtain ⟨t107, A230, H⟩ := H
      replace H : (if t107 = true then ((impl_in.f a0_3 0 1000).bind fun t108 => (some t108)) else (some false)) = some r := H
      have A23 := Aside0.mk A230
      clear A230
      by_cases c24 : t107 = true
      ·subst c24
       have H1 : ((impl_in.f a0_3 0 1000).bind fun t108 => (some t108)) = some r := by rw [if_pos rfl] at H;exact H
       clear H
       have H := H1
       clear H1
       replace H := Option.bind_eq_some_iff.mp H
       obtain ⟨t108, A250, H⟩ := H
       replace H : (some t108) = some r := H
       have A25 := Aside0.mk A250
       clear A250
       obtain rfl := Option.some.inj H
       obtain ⟨hcz26_0, hcz26_1, hcz26_2, hcz26_3, hcz26_4, hfz26_0, hfz26_1, hfz26_2, hfz26_3, hfz26_4⟩ := bx5 BK101.out
       go_wp2_with (first | ((with_reducible refine gate_callee (f := 59) rfl ?_);refine goesL_ (some 22) rfl rfl Try.func59 (by kernel_rfl) rfl #[.int .i64 a0_0] rfl (by (try simp only [List.map_toArray, List.map_cons, List.map_nil]);first | done | rfl | (simp only [List.length_drop, List.length_take];rfl)) ?_;(with_reducible refine (impl_isMode.calls a0_0 true _ A19.out).mono ?_);rintro e w' ⟨rfl, ⟨nd, rfl⟩⟩;refine ⟨_, rfl, ?_⟩) | (go_at_call 59;(with_reducible refine (impl_isMode.calls a0_0 true _ A19.out).mono ?_);rintro e w' ⟨rfl, ⟨nd, rfl⟩⟩) | (go_at_call 58;(with_reducible refine (impl_in.calls (l0_1.length : Int) 1 12 true _ A21.out).mono ?_);rintro e w' ⟨rfl, ⟨nd, rfl⟩⟩) | (go_at_call 58;(with_reducible refine (impl_in.calls a0_2 0 24 true _ A23.out).mono ?_);rintro e w' ⟨rfl, ⟨nd, rfl⟩⟩) | (go_at_call 58;(with_reducible refine (impl_in.calls a0_3 0 1000 t108 _ A25.out).mono ?_);rintro e w' ⟨rfl, ⟨nd, rfl⟩⟩))
       go_ret
       exact ⟨by first | rfl | (simp [errW_none, errW_some] <;> rfl) | (simp [*, errW_none, errW_some] <;> rfl), by repeat (first | (with_reducible first | exact HB.out | apply below_alloc | apply pw_below_drewN | apply below_drew1 | refine below_set ?_ GE101.out) | exact HB.out)⟩
      ·replace c24 := Bool.eq_false_iff.mpr c24
       subst c24
       have H1 : (some false) = some r := by rw [if_neg (show ¬ (false = true) by decide)] at H;exact H
       clear H
       have H := H1
       clear H1
       obtain rfl := Option.some.inj H
       obtain ⟨hcz27_0, hcz27_1, hcz27_2, hcz27_3, hcz27_4, hfz27_0, hfz27_1, hfz27_2, hfz27_3, hfz27_4⟩ := bx5 BK101.out
       go_wp2_with (first | ((with_reducible refine gate_callee (f := 59) rfl ?_);refine goesL_ (some 22) rfl rfl Try.func59 (by kernel_rfl) rfl #[.int .i64 a0_0] rfl (by (try simp only [List.map_toArray, List.map_cons, List.map_nil]);first | done | rfl | (simp only [List.length_drop, List.length_take];rfl)) ?_;(with_reducible refine (impl_isMode.calls a0_0 true _ A19.out).mono ?_);rintro e w' ⟨rfl, ⟨nd, rfl⟩⟩;refine ⟨_, rfl, ?_⟩) | (go_at_call 59;(with_reducible refine (impl_isMode.calls a0_0 true _ A19.out).mono ?_);rintro e w' ⟨rfl, ⟨nd, rfl⟩⟩) | (go_at_call 58;(with_reducible refine (impl_in.calls (l0_1.length : Int) 1 12 true _ A21.out).mono ?_);rintro e w' ⟨rfl, ⟨nd, rfl⟩⟩) | (go_at_call 58;(with_reducible refine (impl_in.calls a0_2 0 24 false _ A23.out).mono ?_);rintro e w' ⟨rfl, ⟨nd, rfl⟩⟩))
       go_ret
       exact ⟨by first | rfl | (simp [errW_none, errW_some] <;> rfl) | (simp [*, errW_none, errW_some] <;> rfl), by repeat (first | (with_reducible first | exact HB.out | apply below_alloc | apply pw_below_drewN | apply below_drew1 | refine below_set ?_ GE101.out) | exact HB.out)⟩
     ·replace c22 := Bool.eq_false_iff.mpr c22
      subst c22
      have H1 : (some false) = some r := by rw [if_neg (show ¬ (false = true) by decide)] at H;exact H
      clear H
      have H := H1
      clear H1
      obtain rfl := Option.some.inj H
      obtain ⟨hcz28_0, hcz28_1, hcz28_2, hcz28_3, hcz28_4, hfz28_0, hfz28_1, hfz28_2, hfz28_3, hfz28_4⟩ := bx5 BK101.out
      go_wp2_with (first | ((with_reducible refine gate_callee (f := 59) rfl ?_);refine goesL_ (some 22) rfl rfl Try.func59 (by kernel_rfl) rfl #[.int .i64 a0_0] rfl (by (try simp only [List.map_toArray, List.map_cons, List.map_nil]);first | done | rfl | (simp only [List.length_drop, List.length_take];rfl)) ?_;(with_reducible refine (impl_isMode.calls a0_0 true _ A19.out).mono ?_);rintro e w' ⟨rfl, ⟨nd, rfl⟩⟩;refine ⟨_, rfl, ?_⟩) | (go_at_call 59;(with_reducible refine (impl_isMode.calls a0_0 true _ A19.out).mono ?_);rintro e w' ⟨rfl, ⟨nd, rfl⟩⟩) | (go_at_call 58;(with_reducible refine (impl_in.calls (l0_1.length : Int) 1 12 false _ A21.out).mono ?_);rintro e w' ⟨rfl, ⟨nd, rfl⟩⟩))
      go_ret
      exact ⟨by first | rfl | (simp [errW_none, errW_some] <;> rfl) | (simp [*, errW_none, errW_some] <;> rfl), by repeat (first | (with_reducible first | exact HB.out | apply below_alloc | apply pw_below_drewN | apply below_drew1 | refine below_set ?_ GE101.out) | exact HB.out)⟩
    ·replace c20 := Bool.eq_false_iff.mpr c20
     subst c20
     have H1 : (some false) = some r := by rw [if_neg (show ¬ (false = true) by decide)] at H;exact H
     clear H
     have H := H1
     clear H1
     obtain rfl := Option.some.inj H
     obtain ⟨hcz29_0, hcz29_1, hcz29_2, hcz29_3, hcz29_4, hfz29_0, hfz29_1, hfz29_2, hfz29_3, hfz29_4⟩ := bx5 BK101.out
     go_wp2_with (first | ((with_reducible refine gate_callee (f := 59) rfl ?_);refine goesL_ (some 22) rfl rfl Try.func59 (by kernel_rfl) rfl #[.int .i64 a0_0] rfl (by (try simp only [List.map_toArray, List.map_cons, List.map_nil]);first | done | rfl | (simp only [List.length_drop, List.length_take];rfl)) ?_;(with_reducible refine (impl_isMode.calls a0_0 false _ A19.out).mono ?_);rintro e w' ⟨rfl, ⟨nd, rfl⟩⟩;refine ⟨_, rfl, ?_⟩) | (go_at_call 59;(with_reducible refine (impl_isMode.calls a0_0 false _ A19.out).mono ?_);rintro e w' ⟨rfl, ⟨nd, rfl⟩⟩))
     go_ret
     exact ⟨by first | rfl | (simp [errW_none, errW_some] <;> rfl) | (simp [*, errW_none, errW_some] <;> rfl), by repeat (first | (with_reducible first | exact HB.out | apply below_alloc | apply pw_below_drewN | apply below_drew1 | refine below_set ?_ GE101.out) | exact HB.out)⟩

end Go.Proofs.Ytdljhokealbnnaa.M
namespace Go.Proofs.Ytdljhokealbnnaa.M
open Go.RowKit Go.Proofs.YtdljhokealbnnaaW.PrintWords Go.Proofs.YtdljhokealbnnaaW.PrintLast Go.Proofs.YtdljhokealbnnaaW.PrintMore
attribute [local go_sem] max2_int min2_int max_two min_two max_three min_three max_four min_four
set_option linter.unusedVariables false
set_option linter.unusedSimpArgs false

def laws_FnExactGraphOk.f (k : Nat) (a0_0 : Int) (l0_1 : List (S141)) (a0_2 : Int) (a0_3 : Int) (a0_4 : Bool) : Option (Bool) := (laws_szGraph.f k a0_0 l0_1 a0_2 a0_3 a0_4 1048576).bind fun t102 => (if t102 < 0 then (some true) else ((laws_toGraph.f k a0_0 l0_1 a0_2 a0_3 a0_4).bind fun bt103 => ((spec_GraphOk.f k bt103.1 bt103.2.1 bt103.2.2.1 bt103.2.2.2.1 bt103.2.2.2.2).bind fun t110 => ((laws_toGraph.f k a0_0 l0_1 a0_2 a0_3 a0_4).bind fun bt111 => ((impl_GraphOk.f k bt111.1 bt111.2.1 bt111.2.2.1 bt111.2.2.2.1 bt111.2.2.2.2).bind fun t119 => (if (t119 != t110) = true then (some false) else ((laws_toGraph.f k a0_0 l0_1 a0_2 a0_3 a0_4).bind fun bt120 => ((laws_eqGraph.f k bt111.1 bt111.2.1 bt111.2.2.1 bt111.2.2.2.1 bt111.2.2.2.2 bt120.1 bt120.2.1 bt120.2.2.1 bt120.2.2.2.1 bt120.2.2.2.2).bind fun t127 => (if t127 = true then (some true) else (some false))))))))))
theorem laws_FnExactGraphOk.mono : ∀ a0 a1 a2 a3 a4 k, LeO (laws_FnExactGraphOk.f k a0 a1 a2 a3 a4) (laws_FnExactGraphOk.f (k + 1) a0 a1 a2 a3 a4) := by
 intro a0 a1 a2 a3 a4 k
 unfold laws_FnExactGraphOk.f
 repeat' first
   | (with_reducible exact impl_GraphOk.mono _ _ _ _ _ _)
   | (with_reducible exact laws_eqGraph.mono _ _ _ _ _ _ _ _ _ _ _)
   | (with_reducible exact laws_szGraph.mono _ _ _ _ _ _ _)
   | (with_reducible exact laws_toGraph.mono _ _ _ _ _ _)
   | (with_reducible exact spec_GraphOk.mono _ _ _ _ _ _)
   | (with_reducible exact LeO.refl _)
   | (with_reducible exact LeO.none _)
   | (with_reducible refine LeO.ite ?_ ?_)
   | (with_reducible refine LeO.bind ?_ (fun _ => ?_))
   | exact impl_GraphOk.mono _ _ _ _ _ _
   | exact laws_eqGraph.mono _ _ _ _ _ _ _ _ _ _ _
   | exact laws_szGraph.mono _ _ _ _ _ _ _
   | exact laws_toGraph.mono _ _ _ _ _ _
   | exact spec_GraphOk.mono _ _ _ _ _ _
   | exact LeO.none _
   | refine LeO.ite ?_ ?_
   | refine LeO.bind ?_ (fun _ => ?_)
set_option maxHeartbeats 8000000 in
set_option maxRecDepth 100000 in
theorem laws_FnExactGraphOk.calls (k : Nat) (a0_0 : Int) (A0_1 : Option Addr) (c0_1 : Nat) (l0_1 : List (S141)) (a0_2 : Int) (a0_3 : Int) (a0_4 : Bool) (r : Bool) (hT_ : Aside0 (r = true)) (w : World) (hr0_1 : Kd.C k141 w A0_1 l0_1.length l0_1) (hc0_1 : l0_1.length ≤ c0_1) (h : laws_FnExactGraphOk.f k a0_0 l0_1 a0_2 a0_3 a0_4 = some r) :
  Calls Try.prog 11 #[.agg #[.int .i64 a0_0, .slice A0_1 l0_1.length c0_1, .int .i64 a0_2, .int .i64 a0_3, .bool a0_4]] w fun e w' => e = .returned (.bool r) ∧ Below w.heap.size w w' := by
 have hu71 := Try.underlying71
 have hu63 := Try.underlying63
 have HR0_1 := Aside0.mk hr0_1
 have HC0_1 := Aside0.mk hc0_1
 clear hr0_1 hc0_1
 have HB := Aside0.mk (Below.refl w.heap.size w)
 have H : ((laws_szGraph.f k a0_0 l0_1 a0_2 a0_3 a0_4 1048576).bind fun t102 => (if t102 < 0 then (some true) else ((laws_toGraph.f k a0_0 l0_1 a0_2 a0_3 a0_4).bind fun bt103 => ((spec_GraphOk.f k bt103.1 bt103.2.1 bt103.2.2.1 bt103.2.2.2.1 bt103.2.2.2.2).bind fun t110 => ((laws_toGraph.f k a0_0 l0_1 a0_2 a0_3 a0_4).bind fun bt111 => ((impl_GraphOk.f k bt111.1 bt111.2.1 bt111.2.2.1 bt111.2.2.2.1 bt111.2.2.2.2).bind fun t119 => (if (t119 != t110) = true then (some false) else ((laws_toGraph.f k a0_0 l0_1 a0_2 a0_3 a0_4).bind fun bt120 => ((laws_eqGraph.f k bt111.1 bt111.2.1 bt111.2.2.1 bt111.2.2.2.1 bt111.2.2.2.2 bt120.1 bt120.2.1 bt120.2.2.1 bt120.2.2.2.1 bt120.2.2.2.2).bind fun t127 => (if t127 = true then (some true) else (some false))))))))))) = some r := h
 clear h
 replace H := Option.bind_eq_some_iff.mp H
 obtain ⟨t102, A20, H⟩ := H
 replace H : (if t102 < 0 then (some true) else ((laws_toGraph.f k a0_0 l0_1 a0_2 a0_3 a0_4).bind fun bt103 => ((spec_GraphOk.f k bt103.1 bt103.2.1 bt103.2.2.1 bt103.2.2.2.1 bt103.2.2.2.2).bind fun t110 => ((laws_toGraph.f k a0_0 l0_1 a0_2 a0_3 a0_4).bind fun bt111 => ((impl_GraphOk.f k bt111.1 bt111.2.1 bt111.2.2.1 bt111.2.2.2.1 bt111.2.2.2.2).bind fun t119 => (if (t119 != t110) = true then (some false) else ((laws_toGraph.f k a0_0 l0_1 a0_2 a0_3 a0_4).bind fun bt120 => ((laws_eqGraph.f k bt111.1 bt111.2.1 bt111.2.2.1 bt111.2.2.2.1 bt111.2.2.2.2 bt120.1 bt120.2.1 bt120.2.2.1 bt120.2.2.2.1 bt120.2.2.2.2).bind fun t127 => (if t127 = true then (some true) else (some false)))))))))) = some r := H
 have A2 := Aside0.mk A20
 clear A20
 by_cases c3 : t102 < 0
 ·rw [if_pos c3] at H
  have c3b0 : decide (t102 < 0) = true := decide_eq_true c3
  clear c3
  obtain rfl := Option.some.inj H
  go_enter Try.func11, Try.ntmps11
  go_wp2_with (first | ((with_reducible refine gate_dst (N := 1) rfl ?_);refine box_event ?hg (N := 1) ?hd (cs := #[.int .i64 a0_0, .slice A0_1 l0_1.length c0_1, .int .i64 a0_2, .int .i64 a0_3, .bool a0_4]) (t := 71) ?hr ?_;(case hd => rfl);(case hg => rfl);(case hr => first | (go_simp;done) | (go_simp;rfl));intro gb101 hg w4 hbox hb;have BK101 := Aside0.mk (hbox);have GW101 := Aside0.mk ((by rw [hg];exact (below_size (by repeat (first | (with_reducible first | exact HB.out | apply below_alloc | apply pw_below_drewN | apply below_drew1) | exact HB.out))) : w.heap.size ≤ gb101));have GE101 := Aside0.mk ((by rw [hg];exact (below_size (by repeat (first | (with_reducible first | exact HB.out | apply below_alloc | apply pw_below_drewN | apply below_drew1) | exact HB.out))) : w.heap.size ≤ gb101));replace HB := Aside0.mk (below_step (by repeat (first | (with_reducible first | exact HB.out | apply below_alloc | apply pw_below_drewN | apply below_drew1) | exact HB.out)) hb);clear hb hbox hg;obtain ⟨hcz5_0, hcz5_1, hcz5_2, hcz5_3, hcz5_4, hfz5_0, hfz5_1, hfz5_2, hfz5_3, hfz5_4⟩ := bx5 BK101.out) | ((with_reducible refine gate_callee (f := 44) rfl ?_);refine goesL_ (some 9) rfl rfl Try.func44 (by kernel_rfl) rfl #[.agg #[.int .i64 a0_0, .slice A0_1 l0_1.length c0_1, .int .i64 a0_2, .int .i64 a0_3, .bool a0_4], .int .i64 1048576] rfl (by (try simp only [List.map_toArray, List.map_cons, List.map_nil]);first | done | rfl | (simp only [List.length_drop, List.length_take];rfl)) ?_;(with_reducible refine (laws_szGraph.calls k a0_0 _ _ l0_1 a0_2 a0_3 a0_4 1048576 t102 _ ?side1 ?side2 A2.out).mono ?_);(case side1 => repeat (first | exact (Kd.C_below HR0_1.out HB.out) | (with_reducible refine Kd.C_alloc ?_ _) | (with_reducible refine Kd.C_drewN ?_ _) | (with_reducible refine Kd.C_drew ?_)));(case side2 => exact HC0_1.out);rintro e w6 ⟨rfl, hb⟩;refine ⟨_, rfl, ?_⟩;replace BK101 := Aside0.mk (blk_below BK101.out hb);replace HB := Aside0.mk (below_step (by repeat (first | (with_reducible first | exact HB.out | apply below_alloc | apply pw_below_drewN | apply below_drew1 | refine below_set ?_ GE101.out) | exact HB.out)) hb);(try clear hb);(try clear hb2);(try clear hk);(try clear hi)))
  go_ret
  exact ⟨by first | rfl | (simp [errW_none, errW_some] <;> rfl) | (simp [*, errW_none, errW_some] <;> rfl), by repeat (first | (with_reducible first | exact HB.out | apply below_alloc | apply pw_below_drewN | apply below_drew1 | refine below_set ?_ GE101.out) | exact HB.out)⟩
 ·rw [if_neg c3] at H
  have c3b0 : decide (t102 < 0) = false := decide_eq_false c3
  clear c3
  replace H := Option.bind_eq_some_iff.mp H
  obtain ⟨⟨t103, t104, t107, t108, t109⟩, A70, H⟩ := H
  replace H : ((spec_GraphOk.f k t103 t104 t107 t108 t109).bind fun t110 => ((laws_toGraph.f k a0_0 l0_1 a0_2 a0_3 a0_4).bind fun bt111 => ((impl_GraphOk.f k bt111.1 bt111.2.1 bt111.2.2.1 bt111.2.2.2.1 bt111.2.2.2.2).bind fun t119 => (if (t119 != t110) = true then (some false) else ((laws_toGraph.f k a0_0 l0_1 a0_2 a0_3 a0_4).bind fun bt120 => ((laws_eqGraph.f k bt111.1 bt111.2.1 bt111.2.2.1 bt111.2.2.2.1 bt111.2.2.2.2 bt120.1 bt120.2.1 bt120.2.2.1 bt120.2.2.2.1 bt120.2.2.2.2).bind fun t127 => (if t127 = true then (some true) else (some false)))))))) = some r := H
  have A7 := Aside0.mk A70
  clear A70
  replace H := Option.bind_eq_some_iff.mp H
  obtain ⟨t110, A80, H⟩ := H
  replace H : ((laws_toGraph.f k a0_0 l0_1 a0_2 a0_3 a0_4).bind fun bt111 => ((impl_GraphOk.f k bt111.1 bt111.2.1 bt111.2.2.1 bt111.2.2.2.1 bt111.2.2.2.2).bind fun t119 => (if (t119 != t110) = true then (some false) else ((laws_toGraph.f k a0_0 l0_1 a0_2 a0_3 a0_4).bind fun bt120 => ((laws_eqGraph.f k bt111.1 bt111.2.1 bt111.2.2.1 bt111.2.2.2.1 bt111.2.2.2.2 bt120.1 bt120.2.1 bt120.2.2.1 bt120.2.2.2.1 bt120.2.2.2.2).bind fun t127 => (if t127 = true then (some true) else (some false))))))) = some r := H
  have A8 := Aside0.mk A80
  clear A80
  replace H := Option.bind_eq_some_iff.mp H
  obtain ⟨⟨t111, t112, t115, t116, t117⟩, A90, H⟩ := H
  replace H : ((impl_GraphOk.f k t111 t112 t115 t116 t117).bind fun t119 => (if (t119 != t110) = true then (some false) else ((laws_toGraph.f k a0_0 l0_1 a0_2 a0_3 a0_4).bind fun bt120 => ((laws_eqGraph.f k t111 t112 t115 t116 t117 bt120.1 bt120.2.1 bt120.2.2.1 bt120.2.2.2.1 bt120.2.2.2.2).bind fun t127 => (if t127 = true then (some true) else (some false)))))) = some r := H
  have A9 := Aside0.mk A90
  clear A90
  replace H := Option.bind_eq_some_iff.mp H
  obtain ⟨t119, A100, H⟩ := H
  replace H : (if (t119 != t110) = true then (some false) else ((laws_toGraph.f k a0_0 l0_1 a0_2 a0_3 a0_4).bind fun bt120 => ((laws_eqGraph.f k t111 t112 t115 t116 t117 bt120.1 bt120.2.1 bt120.2.2.1 bt120.2.2.2.1 bt120.2.2.2.2).bind fun t127 => (if t127 = true then (some true) else (some false))))) = some r := H
  have A10 := Aside0.mk A100
  clear A100
  by_cases c11 : (t119 != t110) = true
  ·rw [if_pos c11] at H
   have c11b0 : (t119 != t110) = true := c11
   (try (have c11b1 : decide (t119 = t110) = false := by simpa using c11))
   (try (have c11b2 : (t119 == t110) = false := by simpa using c11))
   (try (have c11b3 : ¬ (t119 = t110) := by simpa using c11))
   clear c11
   exact absurd (Option.some.inj H) (by rw [hT_.out];decide)
  ·rw [if_neg c11] at H
   have c11b0 : (t119 != t110) = false := by simpa using c11
   (try (have c11b1 : decide (t119 = t110) = true := by simpa using c11))
   (try (have c11b2 : (t119 == t110) = true := by simpa using c11))
   clear c11
   replace H := Option.bind_eq_some_iff.mp H
   obtain ⟨⟨t120, t121, t124, t125, t126⟩, A120, H⟩ := H
   replace H : ((laws_eqGraph.f k t111 t112 t115 t116 t117 t120 t121 t124 t125 t126).bind fun t127 => (if t127 = true then (some true) else (some false))) = some r := H
   have A12 := Aside0.mk A120
   clear A120
   replace H := Option.bind_eq_some_iff.mp H
   obtain ⟨t127, A130, H⟩ := H
   replace H : (if t127 = true then (some true) else (some false)) = some r := H
   have A13 := Aside0.mk A130
   clear A130
   by_cases c14 : t127 = true
   ·subst c14
    have H1 : (some true) = some r := by rw [if_pos rfl] at H;exact H
    clear H
    have H := H1
    clear H1
    obtain rfl := Option.some.inj H
    go_enter Try.func11, Try.ntmps11
    try go_wp2_with (first | ((with_reducible refine gate_dst (N := 1) rfl ?_);refine box_event ?hg (N := 1) ?hd (cs := #[.int .i64 a0_0, .slice A0_1 l0_1.length c0_1, .int .i64 a0_2, .int .i64 a0_3, .bool a0_4]) (t := 71) ?hr ?_;(case hd => rfl);(case hg => rfl);(case hr => first | (go_simp;done) | (go_simp;rfl));intro gb101 hg w15 hbox hb;have BK101 := Aside0.mk (hbox);have GW101 := Aside0.mk ((by rw [hg];exact (below_size (by repeat (first | (with_reducible first | exact HB.out | apply below_alloc | apply pw_below_drewN | apply below_drew1) | exact HB.out))) : w.heap.size ≤ gb101));have GE101 := Aside0.mk ((by rw [hg];exact (below_size (by repeat (first | (with_reducible first | exact HB.out | apply below_alloc | apply pw_below_drewN | apply below_drew1) | exact HB.out))) : w.heap.size ≤ gb101));replace HB := Aside0.mk (below_step (by repeat (first | (with_reducible first | exact HB.out | apply below_alloc | apply pw_below_drewN | apply below_drew1) | exact HB.out)) hb);clear hb hbox hg;obtain ⟨hcz16_0, hcz16_1, hcz16_2, hcz16_3, hcz16_4, hfz16_0, hfz16_1, hfz16_2, hfz16_3, hfz16_4⟩ := bx5 BK101.out) | ((with_reducible refine gate_callee (f := 44) rfl ?_);refine goesL_ (some 9) rfl rfl Try.func44 (by kernel_rfl) rfl #[.agg #[.int .i64 a0_0, .slice A0_1 l0_1.length c0_1, .int .i64 a0_2, .int .i64 a0_3, .bool a0_4], .int .i64 1048576] rfl (by (try simp only [List.map_toArray, List.map_cons, List.map_nil]);first | done | rfl | (simp only [List.length_drop, List.length_take];rfl)) ?_;(with_reducible refine (laws_szGraph.calls k a0_0 _ _ l0_1 a0_2 a0_3 a0_4 1048576 t102 _ ?side1 ?side2 A2.out).mono ?_);(case side1 => repeat (first | exact (Kd.C_below HR0_1.out HB.out) | (with_reducible refine Kd.C_alloc ?_ _) | (with_reducible refine Kd.C_drewN ?_ _) | (with_reducible refine Kd.C_drew ?_)));(case side2 => exact HC0_1.out);rintro e w17 ⟨rfl, hb⟩;refine ⟨_, rfl, ?_⟩;replace BK101 := Aside0.mk (blk_below BK101.out hb);replace HB := Aside0.mk (below_step (by repeat (first | (with_reducible first | exact HB.out | apply below_alloc | apply pw_below_drewN | apply below_drew1 | refine below_set ?_ GE101.out) | exact HB.out)) hb);(try clear hb);(try clear hb2);(try clear hk);(try clear hi);obtain ⟨hcz18_0, hcz18_1, hcz18_2, hcz18_3, hcz18_4, hfz18_0, hfz18_1, hfz18_2, hfz18_3, hfz18_4⟩ := bx5 BK101.out) | ((with_reducible refine gate_callee (f := 46) rfl ?_);refine goesL_ (some 13) rfl rfl Try.func46 (by kernel_rfl) rfl #[.agg #[.int .i64 a0_0, .slice A0_1 l0_1.length c0_1, .int .i64 a0_2, .int .i64 a0_3, .bool a0_4]] rfl (by (try simp only [List.map_toArray, List.map_cons, List.map_nil]);first | done | rfl | (simp only [List.length_drop, List.length_take];rfl)) ?_;(with_reducible refine (laws_toGraph.calls k a0_0 _ _ l0_1 a0_2 a0_3 a0_4 t103 t104 t107 t108 t109 _ ?side1 ?side2 A7.out).mono ?_);(case side1 => repeat (first | exact (Kd.C_below HR0_1.out HB.out) | (with_reducible refine Kd.C_alloc ?_ _) | (with_reducible refine Kd.C_drewN ?_ _) | (with_reducible refine Kd.C_drew ?_)));(case side2 => exact HC0_1.out);rintro e w19 ⟨v105, rfl, ho0, hb⟩;refine ⟨_, rfl, ?_⟩;have HO106 := Aside0.mk (Kd.R_lower ho0 (below_size (by repeat (first | (with_reducible first | exact HB.out | apply below_alloc | apply pw_below_drewN | apply below_drew1 | refine below_set ?_ GE101.out) | exact HB.out))));replace BK101 := Aside0.mk (blk_below BK101.out hb);replace HB := Aside0.mk (below_step (by repeat (first | (with_reducible first | exact HB.out | apply below_alloc | apply pw_below_drewN | apply below_drew1 | refine below_set ?_ GE101.out) | exact HB.out)) hb);(try clear hb);(try clear hb2);(try clear hk);(try clear hi);(try clear ho0);obtain ⟨Ao20, co20, eo20⟩ := Kd.R_slice HO106.out;subst eo20) | ((with_reducible refine gate_callee (f := 45) rfl ?_);refine goesL_ (some 14) rfl rfl Try.func45 (by kernel_rfl) rfl #[.agg #[.int .i64 t103, .slice Ao20 t104.length co20, .int .i64 t107, .int .i64 t108, .bool t109]] rfl (by (try simp only [List.map_toArray, List.map_cons, List.map_nil]);first | done | rfl | (simp only [List.length_drop, List.length_take];rfl)) ?_;(with_reducible refine (spec_GraphOk.calls k t103 _ _ t104 t107 t108 t109 t110 _ ?side1 ?side2 A8.out).mono ?_);(case side1 => repeat (first | exact (Kd.R_reads' HO106.out).2.2 | (with_reducible refine Kd.C_alloc ?_ _) | (with_reducible refine Kd.C_drewN ?_ _) | (with_reducible refine Kd.C_drew ?_)));(case side2 => exact (Kd.R_reads' HO106.out).2.1);rintro e w21 ⟨rfl, hb⟩;refine ⟨_, rfl, ?_⟩;replace HO106 := Aside0.mk (Kd.R_below (by exact HO106.out) hb);replace BK101 := Aside0.mk (blk_below BK101.out hb);replace HB := Aside0.mk (below_step (by repeat (first | (with_reducible first | exact HB.out | apply below_alloc | apply pw_below_drewN | apply below_drew1 | refine below_set ?_ GE101.out) | exact HB.out)) hb);(try clear hb);(try clear hb2);(try clear hk);(try clear hi);obtain ⟨hcz22_0, hcz22_1, hcz22_2, hcz22_3, hcz22_4, hfz22_0, hfz22_1, hfz22_2, hfz22_3, hfz22_4⟩ := bx5 BK101.out) | ((with_reducible refine gate_callee (f := 46) rfl ?_);refine goesL_ (some 16) rfl rfl Try.func46 (by kernel_rfl) rfl #[.agg #[.int .i64 a0_0, .slice A0_1 l0_1.length c0_1, .int .i64 a0_2, .int .i64 a0_3, .bool a0_4]] rfl (by (try simp only [List.map_toArray, List.map_cons, List.map_nil]);first | done | rfl | (simp only [List.length_drop, List.length_take];rfl)) ?_;(with_reducible refine (laws_toGraph.calls k a0_0 _ _ l0_1 a0_2 a0_3 a0_4 t111 t112 t115 t116 t117 _ ?side1 ?side2 A9.out).mono ?_);(case side1 => repeat (first | exact (Kd.C_below HR0_1.out HB.out) | (with_reducible refine Kd.C_alloc ?_ _) | (with_reducible refine Kd.C_drewN ?_ _) | (with_reducible refine Kd.C_drew ?_)));(case side2 => exact HC0_1.out);rintro e w23 ⟨v113, rfl, ho0, hb⟩;refine ⟨_, rfl, ?_⟩;have HO114 := Aside0.mk (Kd.R_lower (Kd.R_new' ho0 (Kd.R_lt (by exact HO106.out))) (below_size (by repeat (first | (with_reducible first | exact HB.out | apply below_alloc | apply pw_below_drewN | apply below_drew1 | refine below_set ?_ GE101.out) | exact HB.out))));replace HO106 := Aside0.mk (Kd.R_elder' (by exact HO106.out) (Kd.R_base ho0) hb);replace BK101 := Aside0.mk (blk_below BK101.out hb);replace HB := Aside0.mk (below_step (by repeat (first | (with_reducible first | exact HB.out | apply below_alloc | apply pw_below_drewN | apply below_drew1 | refine below_set ?_ GE101.out) | exact HB.out)) hb);(try clear hb);(try clear hb2);(try clear hk);(try clear hi);(try clear ho0)) | ((with_reducible refine gate_dst (N := 5) rfl ?_);refine box_event ?hg (N := 5) ?hd (cs := #[.int .i64 0, .slice none 0 0, .int .i64 0, .int .i64 0, .bool false]) (t := 63) ?hr ?_;(case hd => rfl);(case hg => rfl);(case hr => first | (go_simp;done) | (go_simp;rfl));intro gb118 hg w24 hbox hb;replace HO106 := Aside0.mk (Kd.R_below (by exact HO106.out) hb);replace HO114 := Aside0.mk (Kd.R_below (by exact HO114.out) hb);have BK118 := Aside0.mk (hbox);have GW118 := Aside0.mk ((by rw [hg];exact (below_size (by repeat (first | (with_reducible first | exact HB.out | apply below_alloc | apply pw_below_drewN | apply below_drew1 | refine below_set ?_ GE101.out) | exact HB.out))) : w.heap.size ≤ gb118));have GE118 := Aside0.mk ((by rw [hg];exact (below_size (by repeat (first | (with_reducible first | exact HB.out | apply below_alloc | apply pw_below_drewN | apply below_drew1 | refine below_set ?_ GE101.out) | exact HB.out))) : w.heap.size ≤ gb118));replace HB := Aside0.mk (below_step (by repeat (first | (with_reducible first | exact HB.out | apply below_alloc | apply pw_below_drewN | apply below_drew1 | refine below_set ?_ GE101.out) | exact HB.out)) hb);have NB101_118 := Aside0.mk ((by rw [hg];exact Nat.ne_of_lt (blk_lt BK101.out) : gb101 ≠ gb118));have NB118_101 := Aside0.mk ((by rw [hg];exact Nat.ne_of_gt (blk_lt BK101.out) : gb118 ≠ gb101));replace BK101 := Aside0.mk (blk_below BK101.out hb);clear hb hbox hg;have hnb25 := NB118_101.out;have hnc25 := NB101_118.out;obtain ⟨hcz26_0, hcz26_1, hcz26_2, hcz26_3, hcz26_4, hfz26_0, hfz26_1, hfz26_2, hfz26_3, hfz26_4⟩ := bx5 BK118.out;obtain ⟨Ao27, co27, eo27⟩ := Kd.R_slice HO114.out;subst eo27) | ((with_reducible refine gate_callee (f := 47) rfl ?_);refine goesL_ (some 18) rfl rfl Try.func47 (by kernel_rfl) rfl #[.agg #[.int .i64 t111, .slice Ao27 t112.length co27, .int .i64 t115, .int .i64 t116, .bool t117]] rfl (by (try simp only [List.map_toArray, List.map_cons, List.map_nil]);first | done | rfl | (simp only [List.length_drop, List.length_take];rfl)) ?_;(with_reducible refine (impl_GraphOk.calls k t111 _ _ t112 t115 t116 t117 t119 _ ?side1 ?side2 A10.out).mono ?_);(case side1 => refine (Kd.R_reads' (e := 104) (base := w.heap.size) (ok := fun k_ => (True ∧ some k_ ≠ (.slice Ao20 t104.length co20 : Value).ownBlock)) (n := t112.length) (c := co27) ?_).2.2;exact (by (with_reducible repeat (first | apply Kd.R_alloc | apply Kd.R_drewN | apply Kd.R_drew));exact (Kd.R_mono (Kd.R_far (p := ⟨gb118, 4, none⟩) (Kd.R_far (p := ⟨gb118, 3, none⟩) (Kd.R_far (p := ⟨gb118, 2, none⟩) (Kd.R_far (p := ⟨gb118, 1, none⟩) (Kd.R_far (p := ⟨gb118, 0, none⟩) (Kd.R_types HO114.out BK118.out (by decide)) (fun _ hk => hk.2) (.int .i64 t111)) (fun _ hk => hk.2) (.slice Ao27 t112.length co27)) (fun _ hk => hk.2) (.int .i64 t115)) (fun _ hk => hk.2) (.int .i64 t116)) (fun _ hk => hk.2) (.bool t117)) (fun _ h_ => h_.1))));(case side2 => exact (Kd.R_reads' HO114.out).2.1);rintro e w28 ⟨rfl, hb⟩;refine ⟨_, rfl, ?_⟩;replace HO106 := Aside0.mk (Kd.R_below (by (with_reducible repeat (first | apply Kd.R_alloc | apply Kd.R_drewN | apply Kd.R_drew));exact (Kd.R_mono (Kd.R_far (p := ⟨gb118, 4, none⟩) (Kd.R_far (p := ⟨gb118, 3, none⟩) (Kd.R_far (p := ⟨gb118, 2, none⟩) (Kd.R_far (p := ⟨gb118, 1, none⟩) (Kd.R_far (p := ⟨gb118, 0, none⟩) (Kd.R_types HO106.out BK118.out (by decide)) (fun _ hk => hk.2) (.int .i64 t111)) (fun _ hk => hk.2) (.slice Ao27 t112.length co27)) (fun _ hk => hk.2) (.int .i64 t115)) (fun _ hk => hk.2) (.int .i64 t116)) (fun _ hk => hk.2) (.bool t117)) (fun _ h_ => h_.1))) hb);replace HO114 := Aside0.mk (Kd.R_below (by (with_reducible repeat (first | apply Kd.R_alloc | apply Kd.R_drewN | apply Kd.R_drew));exact (Kd.R_mono (Kd.R_far (p := ⟨gb118, 4, none⟩) (Kd.R_far (p := ⟨gb118, 3, none⟩) (Kd.R_far (p := ⟨gb118, 2, none⟩) (Kd.R_far (p := ⟨gb118, 1, none⟩) (Kd.R_far (p := ⟨gb118, 0, none⟩) (Kd.R_types HO114.out BK118.out (by decide)) (fun _ hk => hk.2) (.int .i64 t111)) (fun _ hk => hk.2) (.slice Ao27 t112.length co27)) (fun _ hk => hk.2) (.int .i64 t115)) (fun _ hk => hk.2) (.int .i64 t116)) (fun _ hk => hk.2) (.bool t117)) (fun _ h_ => h_.1))) hb);replace BK101 := Aside0.mk (blk_below (g := gb101) (o := .cells #[.int .i64 a0_0, .slice A0_1 l0_1.length c0_1, .int .i64 a0_2, .int .i64 a0_3, .bool a0_4] 71 (0, 0)) (by (with_reducible repeat (first | refine blk_drewN ?_ _ | refine blk_drew ?_ | refine blk_alloc ?_ _));refine blk_far ?_ NB101_118.out _;(with_reducible repeat (first | refine blk_drewN ?_ _ | refine blk_drew ?_ | refine blk_alloc ?_ _));refine blk_far ?_ NB101_118.out _;(with_reducible repeat (first | refine blk_drewN ?_ _ | refine blk_drew ?_ | refine blk_alloc ?_ _));refine blk_far ?_ NB101_118.out _;(with_reducible repeat (first | refine blk_drewN ?_ _ | refine blk_drew ?_ | refine blk_alloc ?_ _));refine blk_far ?_ NB101_118.out _;(with_reducible repeat (first | refine blk_drewN ?_ _ | refine blk_drew ?_ | refine blk_alloc ?_ _));refine blk_far ?_ NB101_118.out _;(with_reducible repeat (first | refine blk_drewN ?_ _ | refine blk_drew ?_ | refine blk_alloc ?_ _));exact BK101.out) hb);replace BK118 := Aside0.mk (blk_below (g := gb118) (o := .cells #[.int .i64 t111, .slice Ao27 t112.length co27, .int .i64 t115, .int .i64 t116, .bool t117] 63 (0, 0)) (by (with_reducible repeat (first | refine blk_drewN ?_ _ | refine blk_drew ?_ | refine blk_alloc ?_ _));refine blk_put (cs := #[.int .i64 t111, .slice Ao27 t112.length co27, .int .i64 t115, .int .i64 t116, .bool false]) ?_ 4 _ rfl;(with_reducible repeat (first | refine blk_drewN ?_ _ | refine blk_drew ?_ | refine blk_alloc ?_ _));refine blk_put (cs := #[.int .i64 t111, .slice Ao27 t112.length co27, .int .i64 t115, .int .i64 0, .bool false]) ?_ 3 _ rfl;(with_reducible repeat (first | refine blk_drewN ?_ _ | refine blk_drew ?_ | refine blk_alloc ?_ _));refine blk_put (cs := #[.int .i64 t111, .slice Ao27 t112.length co27, .int .i64 0, .int .i64 0, .bool false]) ?_ 2 _ rfl;(with_reducible repeat (first | refine blk_drewN ?_ _ | refine blk_drew ?_ | refine blk_alloc ?_ _));refine blk_put (cs := #[.int .i64 t111, .slice none 0 0, .int .i64 0, .int .i64 0, .bool false]) ?_ 1 _ rfl;(with_reducible repeat (first | refine blk_drewN ?_ _ | refine blk_drew ?_ | refine blk_alloc ?_ _));refine blk_put (cs := #[.int .i64 0, .slice none 0 0, .int .i64 0, .int .i64 0, .bool false]) ?_ 0 _ rfl;(with_reducible repeat (first | refine blk_drewN ?_ _ | refine blk_drew ?_ | refine blk_alloc ?_ _));exact BK118.out) hb);replace HB := Aside0.mk (below_step (by repeat (first | (with_reducible first | exact HB.out | apply below_alloc | apply pw_below_drewN | apply below_drew1 | refine below_set ?_ GE101.out | refine below_set ?_ GE118.out) | exact HB.out)) hb);(try clear hb);(try clear hb2);(try clear hk);(try clear hi)))
    replace HO106 := Aside0.mk (Kd.R_drew HO106.out)
    replace HO114 := Aside0.mk (Kd.R_drew HO114.out)
    replace BK101 := Aside0.mk (blk_drew BK101.out)
    replace BK118 := Aside0.mk (blk_drew BK118.out)
    replace HB := Aside0.mk (below_drew1 HB.out)
    refine start_ (n := 5) (S := fun w' => w'.cell? ⟨gb118, 0, none⟩ = some (.int .i64 t111) ∧ w'.cell? ⟨gb118, 1, none⟩ = some (.slice Ao27 t112.length co27) ∧ w'.cell? ⟨gb118, 2, none⟩ = some (.int .i64 t115) ∧ w'.cell? ⟨gb118, 3, none⟩ = some (.int .i64 t116) ∧ w'.cell? ⟨gb118, 4, none⟩ = some (.bool t117) ∧ w'.cell? ⟨gb101, 0, none⟩ = some (.int .i64 a0_0) ∧ w'.cell? ⟨gb101, 1, none⟩ = some (.slice A0_1 l0_1.length c0_1) ∧ w'.cell? ⟨gb101, 2, none⟩ = some (.int .i64 a0_2) ∧ w'.cell? ⟨gb101, 3, none⟩ = some (.int .i64 a0_3) ∧ w'.cell? ⟨gb101, 4, none⟩ = some (.bool a0_4)) (ds := []) #[false, false, false, false, false] (by kernel_rfl) rfl rfl ⟨(blk_cell BK118.out 0).trans rfl, (blk_cell BK118.out 1).trans rfl, (blk_cell BK118.out 2).trans rfl, (blk_cell BK118.out 3).trans rfl, (blk_cell BK118.out 4).trans rfl, (blk_cell BK101.out 0).trans rfl, (blk_cell BK101.out 1).trans rfl, (blk_cell BK101.out 2).trans rfl, (blk_cell BK101.out 3).trans rfl, (blk_cell BK101.out 4).trans rfl⟩ (fun hHeld => ?_)
    generalize w28.drew = w29 at HO106 HO114 BK101 BK118 HB hHeld ⊢
    refine take_ (i := 0) (N := some 22) (v := ?_) (a' := ?_) #[true, false, false, false, false] rfl rfl (by kernel_rfl) (fun _ _ _ h => h) (Or.inl ⟨by rfl, ?_⟩) hHeld ?_ ?_
    rotate_left
    ·rintro w' ⟨s0, s1, s2, s3, s4, s5, s6, s7, s8, s9⟩
     go_simp
     with_reducible rfl
    rotate_left
    ·simp only [Act.put, List.setIfInBounds_toArray, List.set_cons_zero, List.set_cons_succ, i64_w, i32_w]
     rfl
    refine take_ (i := 1) (N := some 23) (v := ?_) (a' := ?_) #[true, true, false, false, false] rfl rfl (by kernel_rfl) (fun _ _ _ h => h) (Or.inl ⟨by rfl, ?_⟩) hHeld ?_ ?_
    rotate_left
    ·rintro w' ⟨s0, s1, s2, s3, s4, s5, s6, s7, s8, s9⟩
     go_simp
     with_reducible rfl
    rotate_left
    ·simp only [Act.put, List.setIfInBounds_toArray, List.set_cons_zero, List.set_cons_succ, i64_w, i32_w]
     rfl
    refine one_ (i := 2) (N := some 24) #[true, true, true, false, false] rfl rfl (by kernel_rfl) (by decide) (fun K hK => ?_)
    refine goes_ Try.func46 (by kernel_rfl) rfl #[.agg #[.int .i64 a0_0, .slice A0_1 l0_1.length c0_1, .int .i64 a0_2, .int .i64 a0_3, .bool a0_4]] (by rfl) rfl rfl (by (try simp only [List.map_toArray, List.map_cons, List.map_nil]);first | done | rfl | (simp only [List.length_drop, List.length_take];rfl)) ?_
    with_reducible refine (laws_toGraph.calls k a0_0 _ _ l0_1 a0_2 a0_3 a0_4 t120 t121 t124 t125 t126 _ ?side1 ?side2 A12.out).mono ?_
    (case side1 => repeat (first | exact (Kd.C_below HR0_1.out HB.out) | (with_reducible refine Kd.C_alloc ?_ _) | (with_reducible refine Kd.C_drewN ?_ _) | (with_reducible refine Kd.C_drew ?_)))
    (case side2 => exact HC0_1.out)
    rintro e w30 ⟨v122, rfl, ho0, hb⟩
    refine ⟨_, rfl, ?_⟩
    have HO123 := Aside0.mk (Kd.R_lower (Kd.R_new' (Kd.R_new' ho0 (Kd.R_lt (by exact HO106.out))) (Kd.R_lt (by exact HO114.out))) (below_size (by repeat (first | (with_reducible first | exact HB.out | apply below_alloc | apply pw_below_drewN | apply below_drew1 | refine below_set ?_ GE101.out | refine below_set ?_ GE118.out) | exact HB.out))))
    replace HO106 := Aside0.mk (Kd.R_elder' (by exact HO106.out) (Kd.R_base ho0) hb)
    replace HO114 := Aside0.mk (Kd.R_elder' (by exact HO114.out) (Kd.R_base ho0) hb)
    replace BK101 := Aside0.mk (blk_below BK101.out hb)
    replace BK118 := Aside0.mk (blk_below BK118.out hb)
    replace HB := Aside0.mk (below_step (by repeat (first | (with_reducible first | exact HB.out | apply below_alloc | apply pw_below_drewN | apply below_drew1 | refine below_set ?_ GE101.out | refine below_set ?_ GE118.out) | exact HB.out)) hb)
    (try clear hb)
    (try clear hb2)
    (try clear hk)
    (try clear hi)
    (try clear ho0)
    obtain ⟨Ao31, co31, eo31⟩ := Kd.R_slice HO123.out
    (first | subst eo31 | (injection eo31 with f1_ f2_ f3_;have f4_ := f1_.symm;have f5_ := f3_.symm;clear f1_ f2_ f3_;subst f4_;subst f5_))
    refine hK.out _ _ ⟨(blk_cell BK118.out 0).trans rfl, (blk_cell BK118.out 1).trans rfl, (blk_cell BK118.out 2).trans rfl, (blk_cell BK118.out 3).trans rfl, (blk_cell BK118.out 4).trans rfl, (blk_cell BK101.out 0).trans rfl, (blk_cell BK101.out 1).trans rfl, (blk_cell BK101.out 2).trans rfl, (blk_cell BK101.out 3).trans rfl, (blk_cell BK101.out 4).trans rfl⟩ (fun hHeld => ?_)
    clear hK K
    refine norm_ (a' := ?_) ?_ ?_
    rotate_left
    ·show Act.put _ (some 24) _ = _
     simp only [Act.put, List.setIfInBounds_toArray, List.set_cons_zero, List.set_cons_succ, i64_w, i32_w]
     rfl
    refine one_ (i := 3) (N := some 25) #[true, true, true, true, false] rfl rfl (by kernel_rfl) (by decide) (fun K hK => ?_)
    refine goes_ Try.func40 (by kernel_rfl) rfl #[.agg #[.int .i64 t111, .slice Ao27 t112.length co27, .int .i64 t115, .int .i64 t116, .bool t117], .agg #[.int .i64 t120, .slice Ao31 t121.length co31, .int .i64 t124, .int .i64 t125, .bool t126]] (by rfl) rfl rfl (by (try simp only [List.map_toArray, List.map_cons, List.map_nil]);first | done | rfl | (simp only [List.length_drop, List.length_take];rfl)) ?_
    with_reducible refine (laws_eqGraph.calls k t111 _ _ t112 t115 t116 t117 t120 _ _ t121 t124 t125 t126 true ⟨rfl⟩ _ ?side1 ?side2 ?side3 ?side4 A13.out).mono ?_
    (case side1 => repeat (first | exact (Kd.R_reads' HO114.out).2.2 | (with_reducible refine Kd.C_alloc ?_ _) | (with_reducible refine Kd.C_drewN ?_ _) | (with_reducible refine Kd.C_drew ?_)))
    (case side2 => exact (Kd.R_reads' HO114.out).2.1)
    (case side3 => repeat (first | exact (Kd.R_reads' HO123.out).2.2 | (with_reducible refine Kd.C_alloc ?_ _) | (with_reducible refine Kd.C_drewN ?_ _) | (with_reducible refine Kd.C_drew ?_)))
    (case side4 => exact (Kd.R_reads' HO123.out).2.1)
    rintro e w32 ⟨rfl, hb⟩
    refine ⟨_, rfl, ?_⟩
    replace HO106 := Aside0.mk (Kd.R_below (by exact HO106.out) hb)
    replace HO114 := Aside0.mk (Kd.R_below (by exact HO114.out) hb)
    replace HO123 := Aside0.mk (Kd.R_below (by exact HO123.out) hb)
    replace BK101 := Aside0.mk (blk_below BK101.out hb)
    replace BK118 := Aside0.mk (blk_below BK118.out hb)
    replace HB := Aside0.mk (below_step (by repeat (first | (with_reducible first | exact HB.out | apply below_alloc | apply pw_below_drewN | apply below_drew1 | refine below_set ?_ GE101.out | refine below_set ?_ GE118.out) | exact HB.out)) hb)
    (try clear hb)
    (try clear hb2)
    (try clear hk)
    (try clear hi)
    refine hK.out _ _ ⟨(blk_cell BK118.out 0).trans rfl, (blk_cell BK118.out 1).trans rfl, (blk_cell BK118.out 2).trans rfl, (blk_cell BK118.out 3).trans rfl, (blk_cell BK118.out 4).trans rfl, (blk_cell BK101.out 0).trans rfl, (blk_cell BK101.out 1).trans rfl, (blk_cell BK101.out 2).trans rfl, (blk_cell BK101.out 3).trans rfl, (blk_cell BK101.out 4).trans rfl⟩ (fun hHeld => ?_)
    clear hK K
    refine norm_ (a' := ?_) ?_ ?_
    rotate_left
    ·show Act.put _ (some 25) _ = _
     simp only [Act.put, List.setIfInBounds_toArray, List.set_cons_zero, List.set_cons_succ, i64_w, i32_w]
     rfl
    refine pv_ 4 26 #[true, true, true, true, true] (by kernel_rfl) ?_
    refine done_ (by kernel_rfl) ?_
    try go_wp2
    go_ret
    exact ⟨by first | rfl | (simp [errW_none, errW_some] <;> rfl) | (simp [*, errW_none, errW_some] <;> rfl), by repeat (first | (with_reducible first | exact HB.out | apply below_alloc | apply pw_below_drewN | apply below_drew1 | refine below_set ?_ GE101.out | refine below_set ?_ GE118.out) | exact HB.out)⟩
   ·replace c14 := Bool.eq_false_iff.mpr c14
    subst c14
    have H1 : (some false) = some r := by rw [if_neg (show ¬ (false = true) by decide)] at H;exact H
    clear H
    have H := H1
    clear H1
    exact absurd (Option.some.inj H) (by rw [hT_.out];decide)

end Go.Proofs.Ytdljhokealbnnaa.M
namespace Go.Proofs.Ytdljhokealbnnaa.M
set_option linter.unusedVariables false
set_option linter.unusedSimpArgs false
open Go.RowKit Go.Proofs.YtdljhokealbnnaaW.PrintWords Go.Proofs.YtdljhokealbnnaaW.PrintLast

theorem rd_nat (l : List Int) (n : Nat) : rd l (n : Int) = l.getD n 0 := rfl

theorem szIntS_ok (l : List Int) (a : Int) (h0 : 0 ≤ a) (h1 : a ≤ 1048576) (hl : l.length ≤ 9223372036854775807) : laws_szIntS.f l a = some (if (l.length : Int) ≤ a then a - l.length else -1) := by
  unfold laws_szIntS.f
  rw [w_small (by omega) (by omega)]
  by_cases h : (l.length : Int) ≤ a
  · rw [if_neg (by omega), if_pos h]
  · rw [if_pos (by omega), if_neg h]

theorem toIntS_l0_ev (l : List Int) (hl : l.length ≤ 9223372036854775807) : ∀ (d n : Nat) (a : List Int), n + d = l.length → a.length = l.length → Ev (fun k => laws_toIntS.l0 k l a (n : Int)) (a.take n ++ l.drop n) := by
  intro d
  induction d with
  | zero =>
    intro n a hn ha
    rw [List.drop_of_length_le (by omega), List.take_of_length_le (by omega), List.append_nil]
    exact Ev.last (fun k => by simp only [laws_toIntS.l0]; rw [if_neg (by omega)])
  | succ d ih =>
    intro n a hn ha
    rw [drop_at l 0 n (by omega)]
    have next := ih (n + 1) (a.set n (l.getD n 0)) (by omega) (by rw [List.length_set]; exact ha)
    rw [take_set a n _ (by omega), List.append_assoc] at next
    refine Ev.step (fun k => by simp only [laws_toIntS.l0]; rw [if_pos (by omega), if_pos (by omega), if_pos (by omega), w_succ (by omega), rd_nat, Int.toNat_natCast]) ?_
    exact next
theorem toIntS_ev (l : List Int) (hl : l.length ≤ 1048576) : Ev (fun k => laws_toIntS.f k l) l := by
  unfold laws_toIntS.f
  refine Ev.pos (by omega) (Ev.pos (by omega) ?_)
  have := toIntS_l0_ev l (by omega) l.length 0 (List.replicate l.length 0) (by omega) (by simp)
  rw [Int.toNat_natCast]
  exact this

theorem eqIntS_l0_ev (l : List Int) (hl : l.length ≤ 9223372036854775807) : ∀ d n : Nat, n + d = l.length → Ev (fun k => laws_eqIntS.l0 k l l (n : Int)) true := by
  intro d
  induction d with
  | zero =>
    intro n hn
    exact Ev.last (fun k => by simp only [laws_eqIntS.l0]; rw [if_neg (by omega)])
  | succ d ih =>
    intro n hn
    refine Ev.step (fun k => by simp only [laws_eqIntS.l0]; rw [if_pos (by omega), if_pos (by omega), if_pos (by omega), if_pos trivial, w_succ (by omega)]) ?_
    exact ih (n + 1) (by omega)
theorem eqIntS_ev (l : List Int) (hl : l.length ≤ 9223372036854775807) : Ev (fun k => laws_eqIntS.f k l l) true := by
  unfold laws_eqIntS.f
  exact Ev.pos rfl (eqIntS_l0_ev l hl l.length 0 (by omega))
end Go.Proofs.Ytdljhokealbnnaa.M
namespace Go.Proofs.Ytdljhokealbnnaa.M
set_option linter.unusedVariables false
set_option linter.unusedSimpArgs false
open Go.RowKit Go.Proofs.YtdljhokealbnnaaW.PrintWords Go.Proofs.YtdljhokealbnnaaW.PrintLast

theorem maxLen_le {n : Nat} (h : n ≤ maxLen) : n ≤ 9223372036854775807 := by unfold maxLen at h; omega
def leftOf (a : Int) (n : Nat) : Int := if (n : Int) ≤ a then a - n else -1
theorem leftOf_neg {a : Int} {n : Nat} (h : ¬ (n : Int) ≤ a) : leftOf a n = -1 := if_neg h
theorem leftOf_pos {a : Int} {n : Nat} (h : (n : Int) ≤ a) : leftOf a n = a - n := if_pos h
def sumW {α : Type} (w : α → Nat) : List α → Nat
  | [] => 0
  | x :: xs => w x + sumW w xs
theorem sumW_mem {α : Type} (w : α → Nat) : ∀ (l : List α) (x : α), x ∈ l → w x ≤ sumW w l
  | [], _, h => by simp at h
  | y :: ys, x, h => by
    rw [sumW]
    rcases List.mem_cons.1 h with rfl | h
    · omega
    · have := sumW_mem w ys x h
      omega
theorem getD_in {α : Type} {l : List α} {z : α} {n : Nat} (h : n < l.length) : l.getD n z = l[n] := by
  rw [List.getD_eq_getElem?_getD, List.getElem?_eq_getElem h]
  rfl

theorem left_more {a : Int} {m n : Nat} : (if (m : Int) ≤ a then leftOf (a - m) n else -1) = leftOf a (m + n) := by
  unfold leftOf
  by_cases h : (m : Int) ≤ a
  · rw [if_pos h]
    by_cases h2 : (n : Int) ≤ a - m
    · rw [if_pos h2, if_pos (by omega)]
      omega
    · rw [if_neg h2, if_neg (by omega)]
  · rw [if_neg h, if_neg (by omega)]
theorem left_two {g : Nat → Option Int} {f : Int → Nat → Option Int} {a : Int} {m n : Nat} (h0 : 0 ≤ a) (hg : Ev g (leftOf a m)) (hf : (m : Int) ≤ a → Ev (f (a - m)) (leftOf (a - m) n)) : Ev (fun k => (g k).bind fun t => if t < 0 then some (-1) else f t k) (leftOf a (m + n)) := by
  refine Ev.bind hg ?_
  rw [← left_more]
  by_cases h : (m : Int) ≤ a
  · rw [leftOf_pos h, if_pos h]
    exact Ev.neg (by omega) (hf h)
  · rw [leftOf_neg h, if_neg h]
    exact Ev.pos (by omega) (Ev.now _)
theorem left_last {g : Nat → Option Int} {a : Int} {m : Nat} (h0 : 0 ≤ a) (hg : Ev g (leftOf a m)) : Ev (fun k => (g k).bind fun t => if t < 0 then some (-1) else some t) (leftOf a m) := by
  refine Ev.bind hg ?_
  by_cases h : (m : Int) ≤ a
  · rw [leftOf_pos h]
    exact Ev.neg (by omega) (Ev.now _)
  · rw [leftOf_neg h]
    exact Ev.pos (by omega) (Ev.now _)
theorem left_own {f : Int → Nat → Option Int} {a : Int} {m n : Nat} (h0 : 0 ≤ a) (h1 : a ≤ 1048576) (hm : m ≤ 9223372036854775807) (hf : (m : Int) ≤ a → Ev (f (a - m)) (leftOf (a - m) n)) : Ev (fun k => if wrap64 (a - (m : Int)) < 0 then some (-1) else f (wrap64 (a - (m : Int))) k) (leftOf a (m + n)) := by
  have hw : wrap64 (a - (m : Int)) = a - m := w_small (by omega) (by omega)
  rw [hw, ← left_more]
  by_cases h : (m : Int) ≤ a
  · rw [if_pos h]
    exact Ev.neg (by omega) (hf h)
  · rw [if_neg h]
    exact Ev.pos (by omega) (Ev.now _)

theorem gen_sz {α : Type} (z : α) (w : α → Nat) (e : Nat → α → Int → Option Int) (L : Nat → List α → Int → Int → Option Int)
    (hL : ∀ k l a n, L (k + 1) l a n = if n < (l.length : Int) then (if 0 ≤ n then ((e k (l.getD n.toNat z) a).bind fun t => (if t < 0 then (some (-1)) else (L k l t (wrap64 (n + 1))))) else none) else some a)
    (l : List α) (hl : l.length ≤ 9223372036854775807) (he : ∀ x ∈ l, ∀ a : Int, 0 ≤ a → a ≤ 1048576 → Ev (fun k => e k x a) (leftOf a (w x))) :
    ∀ (d n : Nat) (a : Int), n + d = l.length → 0 ≤ a → a ≤ 1048576 → Ev (fun k => L k l a (n : Int)) (leftOf a (sumW w (l.drop n))) := by
  intro d
  induction d with
  | zero =>
    intro n a hn h0 h1
    rw [List.drop_of_length_le (by omega), sumW, leftOf_pos (by omega)]
    exact Ev.last (fun k => by rw [hL, if_neg (by omega)]; simp)
  | succ d ih =>
    intro n a hn h0 h1
    have hlt : n < l.length := by omega
    rw [List.drop_eq_getElem_cons hlt, sumW]
    refine Ev.step (fun k => by rw [hL, if_pos (by omega), if_pos (by omega), Int.toNat_natCast, getD_in hlt, w_succ (by omega)]) ?_
    exact left_two (f := fun t k => L k l t ((n + 1 : Nat) : Int)) h0 (he _ (List.getElem_mem _) a h0 h1) (fun h => ih (n + 1) _ (by omega) (by omega) (by omega))
def allW {α : Type} (w : α → Nat) (l : List α) : Nat := l.length + sumW w l
theorem gen_szS {α : Type} (z : α) (w : α → Nat) (e : Nat → α → Int → Option Int) (L : Nat → List α → Int → Int → Option Int)
    (hL : ∀ k l a n, L (k + 1) l a n = if n < (l.length : Int) then (if 0 ≤ n then ((e k (l.getD n.toNat z) a).bind fun t => (if t < 0 then (some (-1)) else (L k l t (wrap64 (n + 1))))) else none) else some a)
    (l : List α) (hl : l.length ≤ 9223372036854775807) (he : ∀ x ∈ l, ∀ a : Int, 0 ≤ a → a ≤ 1048576 → Ev (fun k => e k x a) (leftOf a (w x))) (a : Int) (h0 : 0 ≤ a) (h1 : a ≤ 1048576) :
    Ev (fun k => if wrap64 (a - (l.length : Int)) < 0 then some (-1) else L k l (wrap64 (a - (l.length : Int))) 0) (leftOf a (allW w l)) :=
  left_own (f := fun t k => L k l t 0) h0 h1 hl (fun h => gen_sz z w e L hL l hl he l.length 0 _ (by omega) (by omega) (by omega))
theorem allW_mem {α : Type} {w : α → Nat} {l : List α} {x : α} (h : x ∈ l) : w x ≤ allW w l := by
  have := sumW_mem w l x h
  unfold allW
  omega
theorem allW_len {α : Type} {w : α → Nat} {l : List α} : l.length ≤ allW w l := by unfold allW; omega

theorem gen_to {α β γ : Type} (z : α) (cv : α → β) (u : α → γ) (pack : γ → β) (hp : ∀ x, pack (u x) = cv x) (e : Nat → α → Option γ) (L : Nat → List α → List β → Int → Option (List β))
    (hL : ∀ k l m n, L (k + 1) l m n = if n < (l.length : Int) then (if 0 ≤ n then ((e k (l.getD n.toNat z)).bind fun t => (if n < (m.length : Int) then (L k l (m.set n.toNat (pack t)) (wrap64 (n + 1))) else none)) else none) else some m)
    (l : List α) (hl : l.length ≤ 1048576) (he : ∀ x ∈ l, Ev (fun k => e k x) (u x)) :
    ∀ (d n : Nat) (m : List β), n + d = l.length → m.length = l.length → m.take n = (l.take n).map cv → Ev (fun k => L k l m (n : Int)) (l.map cv) := by
  intro d
  induction d with
  | zero =>
    intro n m hn hm ht
    refine Ev.last (fun k => by rw [hL, if_neg (by omega)]; rw [List.take_of_length_le (by omega), List.take_of_length_le (by omega)] at ht; rw [ht])
  | succ d ih =>
    intro n m hn hm ht
    have hlt : n < l.length := by omega
    refine Ev.step (fun k => by rw [hL, if_pos (by omega), if_pos (by omega), Int.toNat_natCast, getD_in hlt, w_succ (by omega)]) ?_
    refine Ev.bind (he _ (List.getElem_mem _)) (Ev.pos (by omega) ?_)
    refine ih (n + 1) _ (by omega) (by simp [hm]) ?_
    rw [take_set _ _ _ (by omega), ht, List.take_succ_eq_append_getElem hlt, List.map_append, hp]
    rfl
theorem gen_toS {α β γ : Type} (z : α) (zb : β) (cap : Nat) (hcap : 1048576 ≤ cap) (cv : α → β) (u : α → γ) (pack : γ → β) (hp : ∀ x, pack (u x) = cv x) (e : Nat → α → Option γ) (L : Nat → List α → List β → Int → Option (List β))
    (hL : ∀ k l m n, L (k + 1) l m n = if n < (l.length : Int) then (if 0 ≤ n then ((e k (l.getD n.toNat z)).bind fun t => (if n < (m.length : Int) then (L k l (m.set n.toNat (pack t)) (wrap64 (n + 1))) else none)) else none) else some m)
    (l : List α) (hl : l.length ≤ 1048576) (he : ∀ x ∈ l, Ev (fun k => e k x) (u x)) :
    Ev (fun k => if 0 ≤ (l.length : Int) then (if ((l.length : Int) : Int).toNat ≤ cap then (L k l (List.replicate ((l.length : Int) : Int).toNat zb) 0) else none) else none) (l.map cv) := by
  refine Ev.pos (by omega) (Ev.pos (by omega) ?_)
  rw [Int.toNat_natCast]
  exact gen_to z cv u pack hp e L hL l hl he l.length 0 _ (by omega) (by simp) (by simp)

theorem gen_eq {β : Type} (z : β) (e : Nat → β → β → Option Bool) (L : Nat → List β → List β → Int → Option Bool)
    (hL : ∀ k l m n, L (k + 1) l m n = if n < (l.length : Int) then (if 0 ≤ n then (if n < (m.length : Int) then ((e k (l.getD n.toNat z) (m.getD n.toNat z)).bind fun t => (if t = true then (L k l m (wrap64 (n + 1))) else some false)) else none) else none) else some true)
    (l : List β) (hl : l.length ≤ 1048576) (he : ∀ x ∈ l, Ev (fun k => e k x x) true) :
    ∀ (d n : Nat), n + d = l.length → Ev (fun k => L k l l (n : Int)) true := by
  intro d
  induction d with
  | zero =>
    intro n hn
    exact Ev.last (fun k => by rw [hL, if_neg (by omega)])
  | succ d ih =>
    intro n hn
    have hlt : n < l.length := by omega
    refine Ev.step (fun k => by rw [hL, if_pos (by omega), if_pos (by omega), if_pos (by omega), Int.toNat_natCast, getD_in hlt, w_succ (by omega)]) ?_
    exact Ev.bind (he _ (List.getElem_mem _)) (Ev.pos rfl (ih (n + 1) (by omega)))
theorem gen_eqS {β : Type} (z : β) (e : Nat → β → β → Option Bool) (L : Nat → List β → List β → Int → Option Bool)
    (hL : ∀ k l m n, L (k + 1) l m n = if n < (l.length : Int) then (if 0 ≤ n then (if n < (m.length : Int) then ((e k (l.getD n.toNat z) (m.getD n.toNat z)).bind fun t => (if t = true then (L k l m (wrap64 (n + 1))) else some false)) else none) else none) else some true)
    (l : List β) (hl : l.length ≤ 1048576) (he : ∀ x ∈ l, Ev (fun k => e k x x) true) :
    Ev (fun k => if (l.length : Int) = (l.length : Int) then L k l l 0 else some false) true :=
  Ev.pos rfl (gen_eq z e L hL l hl he l.length 0 (by omega))

theorem gen_two {β : Type} (z : β) (e f : Nat → β → β → Option Bool) (L M : Nat → List β → List β → Int → Option Bool)
    (hL : ∀ k l m n, L (k + 1) l m n = if n < (l.length : Int) then (if 0 ≤ n then (if n < (m.length : Int) then ((e k (l.getD n.toNat z) (m.getD n.toNat z)).bind fun t => (if t = true then (L k l m (wrap64 (n + 1))) else some false)) else none) else none) else some true)
    (hM : ∀ k l m n, M (k + 1) l m n = if n < (l.length : Int) then (if 0 ≤ n then (if n < (l.length : Int) then (if n < (m.length : Int) then ((f k (l.getD n.toNat z) (m.getD n.toNat z)).bind fun t => (if t = true then (M k l m (wrap64 (n + 1))) else some false)) else none) else none) else none) else some true)
    (l m : List β) (hl : l.length ≤ 1048576) (hm : l.length = m.length) (he : ∀ x ∈ l, ∀ y, ∃ v, Ev (fun k => e k x y) v ∧ Ev (fun k => f k x y) v) :
    ∀ (d n : Nat), n + d = l.length → ∃ v, Ev (fun k => L k l m (n : Int)) v ∧ Ev (fun k => M k l m (n : Int)) v := by
  intro d
  induction d with
  | zero =>
    intro n hn
    exact ⟨true, Ev.last (fun k => by rw [hL, if_neg (by omega)]), Ev.last (fun k => by rw [hM, if_neg (by omega)])⟩
  | succ d ih =>
    intro n hn
    have hlt : n < l.length := by omega
    have hlt2 : n < m.length := by omega
    obtain ⟨v, h1, h2⟩ := he l[n] (List.getElem_mem _) m[n]
    obtain ⟨v', h3, h4⟩ := ih (n + 1) (by omega)
    have sL : ∀ k, L (k + 1) l m (n : Int) = (e k l[n] m[n]).bind fun t => (if t = true then (L k l m ((n + 1 : Nat) : Int)) else some false) := fun k => by rw [hL, if_pos (by omega), if_pos (by omega), if_pos (by omega), Int.toNat_natCast, getD_in hlt, getD_in hlt2, w_succ (by omega)]
    have sM : ∀ k, M (k + 1) l m (n : Int) = (f k l[n] m[n]).bind fun t => (if t = true then (M k l m ((n + 1 : Nat) : Int)) else some false) := fun k => by rw [hM, if_pos (by omega), if_pos (by omega), if_pos (by omega), if_pos (by omega), Int.toNat_natCast, getD_in hlt, getD_in hlt2, w_succ (by omega)]
    cases v with
    | true => exact ⟨v', Ev.step sL (Ev.bind h1 (Ev.pos rfl h3)), Ev.step sM (Ev.bind h2 (Ev.pos rfl h4))⟩
    | false => exact ⟨false, Ev.step sL (Ev.bind h1 (Ev.neg (by decide) (Ev.now _))), Ev.step sM (Ev.bind h2 (Ev.neg (by decide) (Ev.now _)))⟩
theorem gen_twoS {β : Type} (z : β) (e f : Nat → β → β → Option Bool) (L M : Nat → List β → List β → Int → Option Bool)
    (hL : ∀ k l m n, L (k + 1) l m n = if n < (l.length : Int) then (if 0 ≤ n then (if n < (m.length : Int) then ((e k (l.getD n.toNat z) (m.getD n.toNat z)).bind fun t => (if t = true then (L k l m (wrap64 (n + 1))) else some false)) else none) else none) else some true)
    (hM : ∀ k l m n, M (k + 1) l m n = if n < (l.length : Int) then (if 0 ≤ n then (if n < (l.length : Int) then (if n < (m.length : Int) then ((f k (l.getD n.toNat z) (m.getD n.toNat z)).bind fun t => (if t = true then (M k l m (wrap64 (n + 1))) else some false)) else none) else none) else none) else some true)
    (l m : List β) (hl : l.length ≤ 1048576) (he : ∀ x ∈ l, ∀ y, ∃ v, Ev (fun k => e k x y) v ∧ Ev (fun k => f k x y) v) :
    ∃ v, Ev (fun k => if (l.length : Int) = (m.length : Int) then L k l m 0 else some false) v ∧ Ev (fun k => if (l.length : Int) = (m.length : Int) then M k l m 0 else some false) v := by
  by_cases h : l.length = m.length
  · obtain ⟨v, h1, h2⟩ := gen_two z e f L M hL hM l m hl h he l.length 0 (by omega)
    exact ⟨v, Ev.pos (by omega) h1, Ev.pos (by omega) h2⟩
  · exact ⟨false, Ev.neg (by omega) (Ev.now _), Ev.neg (by omega) (Ev.now _)⟩
end Go.Proofs.Ytdljhokealbnnaa.M
namespace Go.Proofs.Ytdljhokealbnnaa.M
open Go.RowKit Go.Proofs.YtdljhokealbnnaaW.PrintWords Go.Proofs.YtdljhokealbnnaaW.PrintLast Go.Proofs.YtdljhokealbnnaaW.PrintMore
attribute [local go_sem] max2_int min2_int max_two min_two max_three min_three max_four min_four
set_option linter.unusedVariables false
set_option linter.unusedSimpArgs false

def spec_l3Same.f (k : Nat) (a0_0 : Int) (a0_1 : Int) (l0_2 : List Int) (a1_0 : Int) (a1_1 : Int) (l1_2 : List Int) : Option (Bool) := if a0_0 = a1_0 then (if a0_1 = a1_1 then (if (l0_2.length : Int) = (l1_2.length : Int) then ((spec_l3Ids.f k l0_2 l1_2).bind fun t103 => (some (t103 == 0))) else (some false)) else (some false)) else (some false)
theorem spec_l3Same.mono : ∀ a0 a1 a2 a3 a4 a5 k, LeO (spec_l3Same.f k a0 a1 a2 a3 a4 a5) (spec_l3Same.f (k + 1) a0 a1 a2 a3 a4 a5) := by
 intro a0 a1 a2 a3 a4 a5 k
 unfold spec_l3Same.f
 repeat' first
   | (with_reducible exact spec_l3Ids.mono _ _ _)
   | (with_reducible exact LeO.refl _)
   | (with_reducible exact LeO.none _)
   | (with_reducible refine LeO.ite ?_ ?_)
   | (with_reducible refine LeO.bind ?_ (fun _ => ?_))
   | exact spec_l3Ids.mono _ _ _
   | exact LeO.none _
   | refine LeO.ite ?_ ?_
   | refine LeO.bind ?_ (fun _ => ?_)
set_option maxHeartbeats 8000000 in
set_option maxRecDepth 100000 in
theorem spec_l3Same.calls (k : Nat) (a0_0 : Int) (a0_1 : Int) (A0_2 : Option Addr) (c0_2 : Nat) (l0_2 : List Int) (a1_0 : Int) (a1_1 : Int) (A1_2 : Option Addr) (c1_2 : Nat) (l1_2 : List Int) (r : Bool) (w : World) (hr0_2 : Kd.C (Kd.int .i64) w A0_2 l0_2.length l0_2) (hc0_2 : l0_2.length ≤ c0_2) (hr1_2 : Kd.C (Kd.int .i64) w A1_2 l1_2.length l1_2) (hc1_2 : l1_2.length ≤ c1_2) (h : spec_l3Same.f k a0_0 a0_1 l0_2 a1_0 a1_1 l1_2 = some r) :
  Calls Try.prog 156 #[.agg #[.int .i64 a0_0, .int .i64 a0_1, .slice A0_2 l0_2.length c0_2], .agg #[.int .i64 a1_0, .int .i64 a1_1, .slice A1_2 l1_2.length c1_2]] w fun e w' => e = .returned (.bool r) ∧ Below w.heap.size w w' := by
 have hu106 := Try.underlying106
 have HR0_2 := Aside0.mk hr0_2
 have HC0_2 := Aside0.mk hc0_2
 clear hr0_2 hc0_2
 have HR1_2 := Aside0.mk hr1_2
 have HC1_2 := Aside0.mk hc1_2
 clear hr1_2 hc1_2
 have HB := Aside0.mk (Below.refl w.heap.size w)
 have H : (if a0_0 = a1_0 then (if a0_1 = a1_1 then (if (l0_2.length : Int) = (l1_2.length : Int) then ((spec_l3Ids.f k l0_2 l1_2).bind fun t103 => (some (t103 == 0))) else (some false)) else (some false)) else (some false)) = some r := h
 clear h
 by_cases c3 : a0_0 = a1_0
 ·rw [if_pos c3] at H
  have c3b0 : (a0_0 == a1_0) = true := beq_iff_eq.mpr c3
  have c3b1 : (a0_0 != a1_0) = false := bne_eq_false_iff_eq.mpr c3
  clear c3
  by_cases c4 : a0_1 = a1_1
  ·rw [if_pos c4] at H
   have c4b0 : (a0_1 == a1_1) = true := beq_iff_eq.mpr c4
   have c4b1 : (a0_1 != a1_1) = false := bne_eq_false_iff_eq.mpr c4
   clear c4
   by_cases c5 : (l0_2.length : Int) = (l1_2.length : Int)
   ·rw [if_pos c5] at H
    have c5b0 : ((l0_2.length : Int) == (l1_2.length : Int)) = true := beq_iff_eq.mpr c5
    have c5b1 : ((l0_2.length : Int) != (l1_2.length : Int)) = false := bne_eq_false_iff_eq.mpr c5
    have c5b2 : (l0_2.length == l1_2.length) = true := by first | simpa using c5 | (simp at c5 ⊢;omega)
    clear c5
    replace H := Option.bind_eq_some_iff.mp H
    obtain ⟨t103, A60, H⟩ := H
    replace H : (some (t103 == 0)) = some r := H
    have A6 := Aside0.mk A60
    clear A60
    obtain rfl := Option.some.inj H
    go_enter Try.func156, Try.ntmps156
    go_wp2_with (first | ((with_reducible refine gate_dst (N := 2) rfl ?_);(try (refine gate_guard (by rfl) ?_;dsimp only));refine box_event ?hg (N := 2) ?hd (cs := #[.int .i64 a0_0, .int .i64 a0_1, .slice A0_2 l0_2.length c0_2]) (t := 106) ?hr ?_;(case hd => rfl);(case hg => rfl);(case hr => first | (go_simp;done) | (go_simp;rfl));intro gb101 hg w7 hbox hb;have BK101 := Aside0.mk (hbox);have GW101 := Aside0.mk ((by rw [hg];exact (below_size (by exact HB.out)) : w.heap.size ≤ gb101));have GE101 := Aside0.mk ((by rw [hg];exact (below_size (by exact HB.out)) : w.heap.size ≤ gb101));replace HB := Aside0.mk (below_step (by exact HB.out) hb);clear hb hbox hg) | ((with_reducible refine gate_dst (N := 3) rfl ?_);(try (refine gate_guard (by rfl) ?_;dsimp only));refine box_event ?hg (N := 3) ?hd (cs := #[.int .i64 a1_0, .int .i64 a1_1, .slice A1_2 l1_2.length c1_2]) (t := 106) ?hr ?_;(case hd => rfl);(case hg => rfl);(case hr => first | (go_simp;done) | (go_simp;rfl));intro gb102 hg w8 hbox hb;have BK102 := Aside0.mk (hbox);have GW102 := Aside0.mk ((by rw [hg];exact (below_size (by exact HB.out)) : w.heap.size ≤ gb102));have GE102 := Aside0.mk ((by rw [hg];exact (below_size (by exact HB.out)) : w.heap.size ≤ gb102));replace HB := Aside0.mk (below_step (by exact HB.out) hb);have NB101_102 := Aside0.mk ((by rw [hg];exact Nat.ne_of_lt (blk_lt BK101.out) : gb101 ≠ gb102));have NB102_101 := Aside0.mk ((by rw [hg];exact Nat.ne_of_gt (blk_lt BK101.out) : gb102 ≠ gb101));replace BK101 := Aside0.mk (blk_below BK101.out hb);clear hb hbox hg;have hnb9 := NB101_102.out;have hnc9 := NB102_101.out;obtain ⟨hcz10_0, hcz10_1, hcz10_2, hfz10_0, hfz10_1, hfz10_2⟩ := bx3 BK101.out;obtain ⟨hcz11_0, hcz11_1, hcz11_2, hfz11_0, hfz11_1, hfz11_2⟩ := bx3 BK102.out) | (go_at_call 165;(with_reducible refine (spec_l3Ids.calls k _ _ l0_2 _ _ l1_2 t103 _ ?side1 ?side2 ?side3 ?side4 A6.out).mono ?_);(case side1 => repeat (first | exact (Kd.C_below HR0_2.out HB.out) | (with_reducible refine Kd.C_alloc ?_ _) | (with_reducible refine Kd.C_drewN ?_ _) | (with_reducible refine Kd.C_drew ?_)));(case side2 => exact HC0_2.out);(case side3 => repeat (first | exact (Kd.C_below HR1_2.out HB.out) | (with_reducible refine Kd.C_alloc ?_ _) | (with_reducible refine Kd.C_drewN ?_ _) | (with_reducible refine Kd.C_drew ?_)));(case side4 => exact HC1_2.out);rintro e w' ⟨rfl, ⟨nd, rfl⟩⟩))
    go_ret
    exact ⟨by first | rfl | (simp [errW_none, errW_some] <;> rfl) | (simp [*, errW_none, errW_some] <;> rfl), by repeat (first | (with_reducible first | exact HB.out | apply below_alloc | apply pw_below_drewN | apply below_drew1 | refine below_set ?_ GE101.out | refine below_set ?_ GE102.out) | exact HB.out)⟩
   ·rw [if_neg c5] at H
    have c5b0 : ((l0_2.length : Int) == (l1_2.length : Int)) = false := beq_eq_false_iff_ne.mpr c5
    have c5b1 : ((l0_2.length : Int) != (l1_2.length : Int)) = true := bne_iff_ne.mpr c5
    have c5b2 : (l0_2.length == l1_2.length) = false := by first | simpa using c5 | (simp at c5 ⊢;omega)
    obtain rfl := Option.some.inj H
    go_enter Try.func156, Try.ntmps156
    go_wp2_with (first | ((with_reducible refine gate_dst (N := 2) rfl ?_);(try (refine gate_guard (by rfl) ?_;dsimp only));refine box_event ?hg (N := 2) ?hd (cs := #[.int .i64 a0_0, .int .i64 a0_1, .slice A0_2 l0_2.length c0_2]) (t := 106) ?hr ?_;(case hd => rfl);(case hg => rfl);(case hr => first | (go_simp;done) | (go_simp;rfl));intro gb101 hg w12 hbox hb;have BK101 := Aside0.mk (hbox);have GW101 := Aside0.mk ((by rw [hg];exact (below_size (by exact HB.out)) : w.heap.size ≤ gb101));have GE101 := Aside0.mk ((by rw [hg];exact (below_size (by exact HB.out)) : w.heap.size ≤ gb101));replace HB := Aside0.mk (below_step (by exact HB.out) hb);clear hb hbox hg) | ((with_reducible refine gate_dst (N := 3) rfl ?_);(try (refine gate_guard (by rfl) ?_;dsimp only));refine box_event ?hg (N := 3) ?hd (cs := #[.int .i64 a1_0, .int .i64 a1_1, .slice A1_2 l1_2.length c1_2]) (t := 106) ?hr ?_;(case hd => rfl);(case hg => rfl);(case hr => first | (go_simp;done) | (go_simp;rfl));intro gb102 hg w13 hbox hb;have BK102 := Aside0.mk (hbox);have GW102 := Aside0.mk ((by rw [hg];exact (below_size (by exact HB.out)) : w.heap.size ≤ gb102));have GE102 := Aside0.mk ((by rw [hg];exact (below_size (by exact HB.out)) : w.heap.size ≤ gb102));replace HB := Aside0.mk (below_step (by exact HB.out) hb);have NB101_102 := Aside0.mk ((by rw [hg];exact Nat.ne_of_lt (blk_lt BK101.out) : gb101 ≠ gb102));have NB102_101 := Aside0.mk ((by rw [hg];exact Nat.ne_of_gt (blk_lt BK101.out) : gb102 ≠ gb101));replace BK101 := Aside0.mk (blk_below BK101.out hb);clear hb hbox hg;have hnb14 := NB101_102.out;have hnc14 := NB102_101.out;obtain ⟨hcz15_0, hcz15_1, hcz15_2, hfz15_0, hfz15_1, hfz15_2⟩ := bx3 BK101.out;obtain ⟨hcz16_0, hcz16_1, hcz16_2, hfz16_0, hfz16_1, hfz16_2⟩ := bx3 BK102.out))
    go_ret
    exact ⟨by first | rfl | (simp [errW_none, errW_some] <;> rfl) | (simp [*, errW_none, errW_some] <;> rfl), by repeat (first | (with_reducible first | exact HB.out | apply below_alloc | apply pw_below_drewN | apply below_drew1 | refine below_set ?_ GE101.out | refine below_set ?_ GE102.out) | exact HB.out)⟩
  ·rw [if_neg c4] at H
   have c4b0 : (a0_1 == a1_1) = false := beq_eq_false_iff_ne.mpr c4
   have c4b1 : (a0_1 != a1_1) = true := bne_iff_ne.mpr c4
   obtain rfl := Option.some.inj H
   go_enter Try.func156, Try.ntmps156
   go_wp2_with (first | ((with_reducible refine gate_dst (N := 2) rfl ?_);(try (refine gate_guard (by rfl) ?_;dsimp only));refine box_event ?hg (N := 2) ?hd (cs := #[.int .i64 a0_0, .int .i64 a0_1, .slice A0_2 l0_2.length c0_2]) (t := 106) ?hr ?_;(case hd => rfl);(case hg => rfl);(case hr => first | (go_simp;done) | (go_simp;rfl));intro gb101 hg w17 hbox hb;have BK101 := Aside0.mk (hbox);have GW101 := Aside0.mk ((by rw [hg];exact (below_size (by exact HB.out)) : w.heap.size ≤ gb101));have GE101 := Aside0.mk ((by rw [hg];exact (below_size (by exact HB.out)) : w.heap.size ≤ gb101));replace HB := Aside0.mk (below_step (by exact HB.out) hb);clear hb hbox hg) | ((with_reducible refine gate_dst (N := 3) rfl ?_);(try (refine gate_guard (by rfl) ?_;dsimp only));refine box_event ?hg (N := 3) ?hd (cs := #[.int .i64 a1_0, .int .i64 a1_1, .slice A1_2 l1_2.length c1_2]) (t := 106) ?hr ?_;(case hd => rfl);(case hg => rfl);(case hr => first | (go_simp;done) | (go_simp;rfl));intro gb102 hg w18 hbox hb;have BK102 := Aside0.mk (hbox);have GW102 := Aside0.mk ((by rw [hg];exact (below_size (by exact HB.out)) : w.heap.size ≤ gb102));have GE102 := Aside0.mk ((by rw [hg];exact (below_size (by exact HB.out)) : w.heap.size ≤ gb102));replace HB := Aside0.mk (below_step (by exact HB.out) hb);have NB101_102 := Aside0.mk ((by rw [hg];exact Nat.ne_of_lt (blk_lt BK101.out) : gb101 ≠ gb102));have NB102_101 := Aside0.mk ((by rw [hg];exact Nat.ne_of_gt (blk_lt BK101.out) : gb102 ≠ gb101));replace BK101 := Aside0.mk (blk_below BK101.out hb);clear hb hbox hg;have hnb19 := NB101_102.out;have hnc19 := NB102_101.out;obtain ⟨hcz20_0, hcz20_1, hcz20_2, hfz20_0, hfz20_1, hfz20_2⟩ := bx3 BK101.out;obtain ⟨hcz21_0, hcz21_1, hcz21_2, hfz21_0, hfz21_1, hfz21_2⟩ := bx3 BK102.out))
   go_ret
   exact ⟨by first | rfl | (simp [errW_none, errW_some] <;> rfl) | (simp [*, errW_none, errW_some] <;> rfl), by repeat (first | (with_reducible first | exact HB.out | apply below_alloc | apply pw_below_drewN | apply below_drew1 | refine below_set ?_ GE101.out | refine below_set ?_ GE102.out) | exact HB.out)⟩
 ·rw [if_neg c3] at H
  have c3b0 : (a0_0 == a1_0) = false := beq_eq_false_iff_ne.mpr c3
  have c3b1 : (a0_0 != a1_0) = true := bne_iff_ne.mpr c3
  obtain rfl := Option.some.inj H
  go_enter Try.func156, Try.ntmps156
  go_wp2_with (first | ((with_reducible refine gate_dst (N := 2) rfl ?_);(try (refine gate_guard (by rfl) ?_;dsimp only));refine box_event ?hg (N := 2) ?hd (cs := #[.int .i64 a0_0, .int .i64 a0_1, .slice A0_2 l0_2.length c0_2]) (t := 106) ?hr ?_;(case hd => rfl);(case hg => rfl);(case hr => first | (go_simp;done) | (go_simp;rfl));intro gb101 hg w22 hbox hb;have BK101 := Aside0.mk (hbox);have GW101 := Aside0.mk ((by rw [hg];exact (below_size (by exact HB.out)) : w.heap.size ≤ gb101));have GE101 := Aside0.mk ((by rw [hg];exact (below_size (by exact HB.out)) : w.heap.size ≤ gb101));replace HB := Aside0.mk (below_step (by exact HB.out) hb);clear hb hbox hg) | ((with_reducible refine gate_dst (N := 3) rfl ?_);(try (refine gate_guard (by rfl) ?_;dsimp only));refine box_event ?hg (N := 3) ?hd (cs := #[.int .i64 a1_0, .int .i64 a1_1, .slice A1_2 l1_2.length c1_2]) (t := 106) ?hr ?_;(case hd => rfl);(case hg => rfl);(case hr => first | (go_simp;done) | (go_simp;rfl));intro gb102 hg w23 hbox hb;have BK102 := Aside0.mk (hbox);have GW102 := Aside0.mk ((by rw [hg];exact (below_size (by exact HB.out)) : w.heap.size ≤ gb102));have GE102 := Aside0.mk ((by rw [hg];exact (below_size (by exact HB.out)) : w.heap.size ≤ gb102));replace HB := Aside0.mk (below_step (by exact HB.out) hb);have NB101_102 := Aside0.mk ((by rw [hg];exact Nat.ne_of_lt (blk_lt BK101.out) : gb101 ≠ gb102));have NB102_101 := Aside0.mk ((by rw [hg];exact Nat.ne_of_gt (blk_lt BK101.out) : gb102 ≠ gb101));replace BK101 := Aside0.mk (blk_below BK101.out hb);clear hb hbox hg;have hnb24 := NB101_102.out;have hnc24 := NB102_101.out;obtain ⟨hcz25_0, hcz25_1, hcz25_2, hfz25_0, hfz25_1, hfz25_2⟩ := bx3 BK101.out;obtain ⟨hcz26_0, hcz26_1, hcz26_2, hfz26_0, hfz26_1, hfz26_2⟩ := bx3 BK102.out))
  go_ret
  exact ⟨by first | rfl | (simp [errW_none, errW_some] <;> rfl) | (simp [*, errW_none, errW_some] <;> rfl), by repeat (first | (with_reducible first | exact HB.out | apply below_alloc | apply pw_below_drewN | apply below_drew1 | refine below_set ?_ GE101.out | refine below_set ?_ GE102.out) | exact HB.out)⟩

end Go.Proofs.Ytdljhokealbnnaa.M
namespace Go.Proofs.Ytdljhokealbnnaa.M
open Go.RowKit Go.Proofs.YtdljhokealbnnaaW.PrintWords Go.Proofs.YtdljhokealbnnaaW.PrintLast Go.Proofs.YtdljhokealbnnaaW.PrintMore
attribute [local go_sem] max2_int min2_int max_two min_two max_three min_three max_four min_four
set_option linter.unusedVariables false
set_option linter.unusedSimpArgs false

def spec_OccsSame.l0 : Nat → List (S106) → List (S106) → Int → Option (Bool)
 | 0, _, _, _ => none
 | k + 1, x0, x1, x5 => if x5 < (x0.length : Int) then (if 0 ≤ x5 then (if x5 < (x1.length : Int) then ((spec_l3Same.f k ((rd_T106 x0 x5).f0) ((rd_T106 x0 x5).f1) ((rd_T106 x0 x5).f2) ((rd_T106 x1 x5).f0) ((rd_T106 x1 x5).f1) ((rd_T106 x1 x5).f2)).bind fun t103 => (if t103 = true then (spec_OccsSame.l0 k x0 x1 (wrap64 (x5 + 1))) else (some false))) else (none)) else (none)) else (some true)
def spec_OccsSame.f (k : Nat) (l0 : List (S106)) (l1 : List (S106)) : Option (Bool) := if (l0.length : Int) = (l1.length : Int) then (spec_OccsSame.l0 k l0 l1 0) else (some false)
theorem spec_OccsSame.mono_l : ∀ k, (∀ y0 y1 y2, LeO (spec_OccsSame.l0 k y0 y1 y2) (spec_OccsSame.l0 (k + 1) y0 y1 y2))
 | 0 => fun _ _ _ r h => by simp [spec_OccsSame.l0] at h
 | k + 1 => by
  have ih0 := spec_OccsSame.mono_l k
  ·intro y0 y1 y2
   unfold spec_OccsSame.l0
   repeat' first
   | (with_reducible exact ih0 _ _ _)
   | (with_reducible exact spec_l3Same.mono _ _ _ _ _ _ _)
   | (with_reducible exact LeO.refl _)
   | (with_reducible exact LeO.none _)
   | (with_reducible refine LeO.ite ?_ ?_)
   | (with_reducible refine LeO.bind ?_ (fun _ => ?_))
   | exact ih0 _ _ _
   | exact spec_l3Same.mono _ _ _ _ _ _ _
   | exact LeO.none _
   | refine LeO.ite ?_ ?_
   | refine LeO.bind ?_ (fun _ => ?_)
theorem spec_OccsSame.mono : ∀ a0 a1 k, LeO (spec_OccsSame.f k a0 a1) (spec_OccsSame.f (k + 1) a0 a1) := by
 intro a0 a1 k
 have ih0 := spec_OccsSame.mono_l k
 unfold spec_OccsSame.f
 repeat' first
   | (with_reducible exact ih0 _ _ _)
   | (with_reducible exact spec_l3Same.mono _ _ _ _ _ _ _)
   | (with_reducible exact LeO.refl _)
   | (with_reducible exact LeO.none _)
   | (with_reducible refine LeO.ite ?_ ?_)
   | (with_reducible refine LeO.bind ?_ (fun _ => ?_))
   | exact ih0 _ _ _
   | exact spec_l3Same.mono _ _ _ _ _ _ _
   | exact LeO.none _
   | refine LeO.ite ?_ ?_
   | refine LeO.bind ?_ (fun _ => ?_)
def spec_OccsSame.T6 : Bool × List (List Nat × List Nat) := (true, [([], []), ([], []), ([0, 1], [0, 1]), ([2], [2]), ([], []), ([], []), ([4, 5], [4, 5]), ([6], [6]), ([3, 7], [3, 7]), ([8], [8])])
def spec_OccsSame.B6 : List Nat := [0, 0, 3, 7, 0, 0, 48, 112, 255, 511]
theorem spec_OccsSame.tab6 : rtab .any (opsOf Try.f126 6) = spec_OccsSame.T6 := by kernel_rfl
theorem spec_OccsSame.bits6 : waitsOk spec_OccsSame.T6.2 spec_OccsSame.B6 = true := by kernel_rfl
set_option maxHeartbeats 8000000 in
set_option maxRecDepth 100000 in
theorem spec_OccsSame.calls (k : Nat) (A0 : Option Addr) (c0 : Nat) (l0 : List (S106)) (A1 : Option Addr) (c1 : Nat) (l1 : List (S106)) (r : Bool) (w : World) (hr0 : Kd.C k106 w A0 l0.length l0) (hc0 : l0.length ≤ c0) (hr1 : Kd.C k106 w A1 l1.length l1) (hc1 : l1.length ≤ c1) (h : spec_OccsSame.f k l0 l1 = some r) :
  Calls Try.prog 126 #[.slice A0 l0.length c0, .slice A1 l1.length c1] w fun e w' => e = .returned (.bool r) ∧ Below w.heap.size w w' := by
 have hu106 := Try.underlying106
 have HR0 := Aside0.mk hr0
 have HC0 := Aside0.mk hc0
 clear hr0 hc0
 have HR1 := Aside0.mk hr1
 have HC1 := Aside0.mk hc1
 clear hr1 hc1
 have HB := Aside0.mk (Below.refl w.heap.size w)
 have H : (if (l0.length : Int) = (l1.length : Int) then (spec_OccsSame.l0 k l0 l1 0) else (some false)) = some r := h
 clear h
 by_cases c3 : (l0.length : Int) = (l1.length : Int)
 ·rw [if_pos c3] at H
  have c3b0 : ((l0.length : Int) == (l1.length : Int)) = true := beq_iff_eq.mpr c3
  have c3b1 : ((l0.length : Int) != (l1.length : Int)) = false := bne_eq_false_iff_eq.mpr c3
  have c3b2 : (l0.length == l1.length) = true := by first | simpa using c3 | (simp at c3 ⊢;omega)
  clear c3
  have H' := Aside0.mk H
  clear H
  go_enter Try.func126, Try.ntmps126
  go_wp2
  go_loopg [5] k (fun kq v5 w' => ∃ (x5_1 : Int), v5 = .int .i64 x5_1 ∧ Aside0 (spec_OccsSame.l0 kq l0 l1 x5_1 = some r) ∧ Aside0 (kq ≤ k) ∧ Aside0 (Below w.heap.size w w'))
  case atStart => exact ⟨(0), (by first | rfl | (simp;done) | (simp [*];done)), H', ⟨Nat.le_refl _⟩, ⟨by repeat (first | (with_reducible first | exact HB.out | apply below_alloc | apply pw_below_drewN | apply below_drew1) | exact HB.out)⟩⟩
  case round =>
   clear H'
   try clear c1
   try clear p2
   try clear c3
   try clear c3b0
   try clear c3b1
   try clear c3b2
   obtain ⟨x5_1, rfl, HA, HK1, HB⟩ := hrel
   cases gk with
   | zero => exact absurd HA.out (by simp [spec_OccsSame.l0])
   | succ k1 =>
    have H := HA.out
    clear HA
    simp only [spec_OccsSame.l0] at H
    by_cases c4 : x5_1 < (l0.length : Int)
    ·rw [if_pos c4] at H
     have c4b0 : decide (x5_1 < (l0.length : Int)) = true := decide_eq_true c4
     clear c4
     by_cases c5 : 0 ≤ x5_1
     ·rw [if_pos c5] at H
      have c5b0 : decide (0 ≤ x5_1) = true := decide_eq_true c5
      clear c5
      by_cases c6 : x5_1 < (l1.length : Int)
      ·rw [if_pos c6] at H
       have c6b0 : decide (x5_1 < (l1.length : Int)) = true := decide_eq_true c6
       clear c6
       replace H := Option.bind_eq_some_iff.mp H
       obtain ⟨t103, A70, H⟩ := H
       replace H : (if t103 = true then (spec_OccsSame.l0 k1 l0 l1 (wrap64 (x5_1 + 1))) else (some false)) = some r := H
       have A7 := Aside0.mk A70
       clear A70
       by_cases c8 : t103 = true
       ·subst c8
        have H1 : (spec_OccsSame.l0 k1 l0 l1 (wrap64 (x5_1 + 1))) = some r := by rw [if_pos rfl] at H;exact H
        clear H
        have H := H1
        clear H1
        have H' := Aside0.mk H
        clear H
        try go_wp2
        replace HB := Aside0.mk (below_drew1 HB.out)
        have p101 : 0 ≤ (x5_1 : Int) := of_decide_eq_true (by first | (with_reducible assumption) | assumption)
        have q101 : x5_1 < (l0.length : Int) := of_decide_eq_true (by first | (with_reducible assumption) | assumption)
        obtain ⟨ad101, A101_2, c101_2, e101, hx101_0, hx101_1, hx101_2, hl101_2, hi101_2⟩ := at_T106 HR0.out x5_1 p101 q101
        have hw101_2 := hx101_2
        have hw101_1 := hx101_1
        have hw101_0 := hx101_0
        cases e101
        replace hx101_0 := (HB.out.cell (World.block_lt_of_cell? w _ hx101_0)).trans hx101_0
        replace hx101_1 := (HB.out.cell (World.block_lt_of_cell? w _ hx101_1)).trans hx101_1
        replace hx101_2 := (HB.out.cell (World.block_lt_of_cell? w _ hx101_2)).trans hx101_2
        have HR101_2 := Aside0.mk hi101_2
        have HC101_2 := Aside0.mk hl101_2
        clear hi101_2 hl101_2
        replace p101 := eq_true p101
        replace q101 := eq_true q101
        have p102 : 0 ≤ (x5_1 : Int) := of_decide_eq_true (by first | (with_reducible assumption) | assumption)
        have q102 : x5_1 < (l1.length : Int) := of_decide_eq_true (by first | (with_reducible assumption) | assumption)
        obtain ⟨ad102, A102_2, c102_2, e102, hx102_0, hx102_1, hx102_2, hl102_2, hi102_2⟩ := at_T106 HR1.out x5_1 p102 q102
        have hw102_2 := hx102_2
        have hw102_1 := hx102_1
        have hw102_0 := hx102_0
        cases e102
        replace hx102_0 := (HB.out.cell (World.block_lt_of_cell? w _ hx102_0)).trans hx102_0
        replace hx102_1 := (HB.out.cell (World.block_lt_of_cell? w _ hx102_1)).trans hx102_1
        replace hx102_2 := (HB.out.cell (World.block_lt_of_cell? w _ hx102_2)).trans hx102_2
        have HR102_2 := Aside0.mk hi102_2
        have HC102_2 := Aside0.mk hl102_2
        clear hi102_2 hl102_2
        replace p102 := eq_true p102
        replace q102 := eq_true q102
        refine start_ (n := 10) (S := fun w' => w'.cell? (ad101.add ((x5_1).toNat * 3)) = some (.int .i64 ((rd_T106 l0 x5_1).f0)) ∧ w'.cell? ⟨(ad101.add ((x5_1).toNat * 3)).block, (ad101.add ((x5_1).toNat * 3)).off + 1, none⟩ = some (.int .i64 ((rd_T106 l0 x5_1).f1)) ∧ w'.cell? ⟨(ad101.add ((x5_1).toNat * 3)).block, (ad101.add ((x5_1).toNat * 3)).off + 2, none⟩ = some (.slice A101_2 ((rd_T106 l0 x5_1).f2).length c101_2) ∧ w'.cell? (ad102.add ((x5_1).toNat * 3)) = some (.int .i64 ((rd_T106 l1 x5_1).f0)) ∧ w'.cell? ⟨(ad102.add ((x5_1).toNat * 3)).block, (ad102.add ((x5_1).toNat * 3)).off + 1, none⟩ = some (.int .i64 ((rd_T106 l1 x5_1).f1)) ∧ w'.cell? ⟨(ad102.add ((x5_1).toNat * 3)).block, (ad102.add ((x5_1).toNat * 3)).off + 2, none⟩ = some (.slice A102_2 ((rd_T106 l1 x5_1).f2).length c102_2)) (ds := []) #[false, false, false, false, false, false, false, false, false, false] (by kernel_rfl) rfl rfl ⟨((HB.out.cell (World.block_lt_of_cell? w _ hw101_0)).trans hw101_0), ((HB.out.cell (World.block_lt_of_cell? w _ hw101_1)).trans hw101_1), ((HB.out.cell (World.block_lt_of_cell? w _ hw101_2)).trans hw101_2), ((HB.out.cell (World.block_lt_of_cell? w _ hw102_0)).trans hw102_0), ((HB.out.cell (World.block_lt_of_cell? w _ hw102_1)).trans hw102_1), ((HB.out.cell (World.block_lt_of_cell? w _ hw102_2)).trans hw102_2)⟩ (fun hHeld => ?_);refine with_tabW spec_OccsSame.tab6 spec_OccsSame.bits6 (fun HT_ HW_ => ?_)
        generalize wr.drew = w9 at HB HR101_2 HR102_2 hx101_0 hx101_1 hx101_2 hx102_0 hx102_1 hx102_2 hHeld ⊢
        refine pv_ 0 17 #[true, false, false, false, false, false, false, false, false, false] (any_of HT_.out (by kernel_rfl)) ?_
        refine pv_ 1 18 #[true, true, false, false, false, false, false, false, false, false] (any_of HT_.out (by kernel_rfl)) ?_
        refine pv_ 2 19 #[true, true, true, false, false, false, false, false, false, false] (any_of HT_.out (by kernel_rfl)) ?_
        refine pv_ 4 21 #[true, true, true, false, true, false, false, false, false, false] (any_of HT_.out (by kernel_rfl)) ?_
        refine pv_ 5 22 #[true, true, true, false, true, true, false, false, false, false] (any_of HT_.out (by kernel_rfl)) ?_
        refine pv_ 6 23 #[true, true, true, false, true, true, true, false, false, false] (any_of HT_.out (by kernel_rfl)) ?_
        refine take_ (i := 3) (N := some 20) (v := ?_) (a' := ?_) #[true, true, true, true, true, true, true, false, false, false] rfl rfl (take_ofW HT_.out HW_.out (by kernel_rfl)) (fun _ _ _ h => h) (Or.inl ⟨by rfl, ?_⟩) hHeld ?_ ?_
        rotate_left
        ·rintro w' ⟨s0, s1, s2, s3, s4, s5⟩
         go_simp
         with_reducible rfl
        rotate_left
        ·simp only [Act.put, List.setIfInBounds_toArray, List.set_cons_zero, List.set_cons_succ, i64_w, i32_w]
         rfl
        refine take_ (i := 7) (N := some 24) (v := ?_) (a' := ?_) #[true, true, true, true, true, true, true, true, false, false] rfl rfl (take_ofW HT_.out HW_.out (by kernel_rfl)) (fun _ _ _ h => h) (Or.inl ⟨by rfl, ?_⟩) hHeld ?_ ?_
        rotate_left
        ·rintro w' ⟨s0, s1, s2, s3, s4, s5⟩
         go_simp
         with_reducible rfl
        rotate_left
        ·simp only [Act.put, List.setIfInBounds_toArray, List.set_cons_zero, List.set_cons_succ, i64_w, i32_w]
         rfl
        refine one_ (i := 8) (N := some 25) #[true, true, true, true, true, true, true, true, true, false] rfl rfl (one_of HT_.out (by kernel_rfl)) (by decide) (fun K hK => ?_)
        refine goes_ Try.func156 (by kernel_rfl) rfl #[.agg #[.int .i64 ((rd_T106 l0 x5_1).f0), .int .i64 ((rd_T106 l0 x5_1).f1), .slice A101_2 ((rd_T106 l0 x5_1).f2).length c101_2], .agg #[.int .i64 ((rd_T106 l1 x5_1).f0), .int .i64 ((rd_T106 l1 x5_1).f1), .slice A102_2 ((rd_T106 l1 x5_1).f2).length c102_2]] (by rfl) rfl rfl (by (try simp only [List.map_toArray, List.map_cons, List.map_nil]);first | done | rfl | (simp only [List.length_drop, List.length_take];rfl)) ?_
        with_reducible refine (spec_l3Same.calls k1 ((rd_T106 l0 x5_1).f0) ((rd_T106 l0 x5_1).f1) _ _ ((rd_T106 l0 x5_1).f2) ((rd_T106 l1 x5_1).f0) ((rd_T106 l1 x5_1).f1) _ _ ((rd_T106 l1 x5_1).f2) true _ ?side1 ?side2 ?side3 ?side4 A7.out).mono ?_
        (case side1 => repeat (first | exact (Kd.C_below HR101_2.out HB.out) | (with_reducible refine Kd.C_alloc ?_ _) | (with_reducible refine Kd.C_drewN ?_ _) | (with_reducible refine Kd.C_drew ?_)))
        (case side2 => exact HC101_2.out)
        (case side3 => repeat (first | exact (Kd.C_below HR102_2.out HB.out) | (with_reducible refine Kd.C_alloc ?_ _) | (with_reducible refine Kd.C_drewN ?_ _) | (with_reducible refine Kd.C_drew ?_)))
        (case side4 => exact HC102_2.out)
        rintro e w10 ⟨rfl, hb⟩
        refine ⟨_, rfl, ?_⟩
        replace HB := Aside0.mk (below_step (by exact HB.out) hb)
        (try clear hb)
        (try clear hb2)
        (try clear hk)
        (try clear hi)
        refine hK.out _ _ ⟨((HB.out.cell (World.block_lt_of_cell? w _ hw101_0)).trans hw101_0), ((HB.out.cell (World.block_lt_of_cell? w _ hw101_1)).trans hw101_1), ((HB.out.cell (World.block_lt_of_cell? w _ hw101_2)).trans hw101_2), ((HB.out.cell (World.block_lt_of_cell? w _ hw102_0)).trans hw102_0), ((HB.out.cell (World.block_lt_of_cell? w _ hw102_1)).trans hw102_1), ((HB.out.cell (World.block_lt_of_cell? w _ hw102_2)).trans hw102_2)⟩ (fun hHeld => ?_)
        clear hK K
        refine norm_ (a' := ?_) ?_ ?_
        rotate_left
        ·show Act.put _ (some 25) _ = _
         simp only [Act.put, List.setIfInBounds_toArray, List.set_cons_zero, List.set_cons_succ, i64_w, i32_w]
         rfl
        refine pv_ 9 26 #[true, true, true, true, true, true, true, true, true, true] (any_of HT_.out (by kernel_rfl)) ?_
        refine done_ (done_of HT_.out (by kernel_rfl)) ?_
        try go_wp2
        go_roundg k1
        case measure => have := HK1.out;omega
        case rel => exact ⟨(wrap64 (x5_1 + 1)), (by first | rfl | (simp;done) | (simp [*];done)), H', ⟨by have := HK1.out;omega⟩, ⟨by repeat (first | (with_reducible first | exact HB.out | apply below_alloc | apply pw_below_drewN | apply below_drew1) | exact HB.out)⟩⟩
       ·replace c8 := Bool.eq_false_iff.mpr c8
        subst c8
        have H1 : (some false) = some r := by rw [if_neg (show ¬ (false = true) by decide)] at H;exact H
        clear H
        have H := H1
        clear H1
        obtain rfl := Option.some.inj H
        try go_wp2
        replace HB := Aside0.mk (below_drew1 HB.out)
        have p101 : 0 ≤ (x5_1 : Int) := of_decide_eq_true (by first | (with_reducible assumption) | assumption)
        have q101 : x5_1 < (l0.length : Int) := of_decide_eq_true (by first | (with_reducible assumption) | assumption)
        obtain ⟨ad101, A101_2, c101_2, e101, hx101_0, hx101_1, hx101_2, hl101_2, hi101_2⟩ := at_T106 HR0.out x5_1 p101 q101
        have hw101_2 := hx101_2
        have hw101_1 := hx101_1
        have hw101_0 := hx101_0
        cases e101
        replace hx101_0 := (HB.out.cell (World.block_lt_of_cell? w _ hx101_0)).trans hx101_0
        replace hx101_1 := (HB.out.cell (World.block_lt_of_cell? w _ hx101_1)).trans hx101_1
        replace hx101_2 := (HB.out.cell (World.block_lt_of_cell? w _ hx101_2)).trans hx101_2
        have HR101_2 := Aside0.mk hi101_2
        have HC101_2 := Aside0.mk hl101_2
        clear hi101_2 hl101_2
        replace p101 := eq_true p101
        replace q101 := eq_true q101
        have p102 : 0 ≤ (x5_1 : Int) := of_decide_eq_true (by first | (with_reducible assumption) | assumption)
        have q102 : x5_1 < (l1.length : Int) := of_decide_eq_true (by first | (with_reducible assumption) | assumption)
        obtain ⟨ad102, A102_2, c102_2, e102, hx102_0, hx102_1, hx102_2, hl102_2, hi102_2⟩ := at_T106 HR1.out x5_1 p102 q102
        have hw102_2 := hx102_2
        have hw102_1 := hx102_1
        have hw102_0 := hx102_0
        cases e102
        replace hx102_0 := (HB.out.cell (World.block_lt_of_cell? w _ hx102_0)).trans hx102_0
        replace hx102_1 := (HB.out.cell (World.block_lt_of_cell? w _ hx102_1)).trans hx102_1
        replace hx102_2 := (HB.out.cell (World.block_lt_of_cell? w _ hx102_2)).trans hx102_2
        have HR102_2 := Aside0.mk hi102_2
        have HC102_2 := Aside0.mk hl102_2
        clear hi102_2 hl102_2
        replace p102 := eq_true p102
        replace q102 := eq_true q102
        refine start_ (n := 10) (S := fun w' => w'.cell? (ad101.add ((x5_1).toNat * 3)) = some (.int .i64 ((rd_T106 l0 x5_1).f0)) ∧ w'.cell? ⟨(ad101.add ((x5_1).toNat * 3)).block, (ad101.add ((x5_1).toNat * 3)).off + 1, none⟩ = some (.int .i64 ((rd_T106 l0 x5_1).f1)) ∧ w'.cell? ⟨(ad101.add ((x5_1).toNat * 3)).block, (ad101.add ((x5_1).toNat * 3)).off + 2, none⟩ = some (.slice A101_2 ((rd_T106 l0 x5_1).f2).length c101_2) ∧ w'.cell? (ad102.add ((x5_1).toNat * 3)) = some (.int .i64 ((rd_T106 l1 x5_1).f0)) ∧ w'.cell? ⟨(ad102.add ((x5_1).toNat * 3)).block, (ad102.add ((x5_1).toNat * 3)).off + 1, none⟩ = some (.int .i64 ((rd_T106 l1 x5_1).f1)) ∧ w'.cell? ⟨(ad102.add ((x5_1).toNat * 3)).block, (ad102.add ((x5_1).toNat * 3)).off + 2, none⟩ = some (.slice A102_2 ((rd_T106 l1 x5_1).f2).length c102_2)) (ds := []) #[false, false, false, false, false, false, false, false, false, false] (by kernel_rfl) rfl rfl ⟨((HB.out.cell (World.block_lt_of_cell? w _ hw101_0)).trans hw101_0), ((HB.out.cell (World.block_lt_of_cell? w _ hw101_1)).trans hw101_1), ((HB.out.cell (World.block_lt_of_cell? w _ hw101_2)).trans hw101_2), ((HB.out.cell (World.block_lt_of_cell? w _ hw102_0)).trans hw102_0), ((HB.out.cell (World.block_lt_of_cell? w _ hw102_1)).trans hw102_1), ((HB.out.cell (World.block_lt_of_cell? w _ hw102_2)).trans hw102_2)⟩ (fun hHeld => ?_);refine with_tabW spec_OccsSame.tab6 spec_OccsSame.bits6 (fun HT_ HW_ => ?_)
        generalize wr.drew = w11 at HB HR101_2 HR102_2 hx101_0 hx101_1 hx101_2 hx102_0 hx102_1 hx102_2 hHeld ⊢
        refine pv_ 0 17 #[true, false, false, false, false, false, false, false, false, false] (any_of HT_.out (by kernel_rfl)) ?_
        refine pv_ 1 18 #[true, true, false, false, false, false, false, false, false, false] (any_of HT_.out (by kernel_rfl)) ?_
        refine pv_ 2 19 #[true, true, true, false, false, false, false, false, false, false] (any_of HT_.out (by kernel_rfl)) ?_
        refine pv_ 4 21 #[true, true, true, false, true, false, false, false, false, false] (any_of HT_.out (by kernel_rfl)) ?_
        refine pv_ 5 22 #[true, true, true, false, true, true, false, false, false, false] (any_of HT_.out (by kernel_rfl)) ?_
        refine pv_ 6 23 #[true, true, true, false, true, true, true, false, false, false] (any_of HT_.out (by kernel_rfl)) ?_
        refine take_ (i := 3) (N := some 20) (v := ?_) (a' := ?_) #[true, true, true, true, true, true, true, false, false, false] rfl rfl (take_ofW HT_.out HW_.out (by kernel_rfl)) (fun _ _ _ h => h) (Or.inl ⟨by rfl, ?_⟩) hHeld ?_ ?_
        rotate_left
        ·rintro w' ⟨s0, s1, s2, s3, s4, s5⟩
         go_simp
         with_reducible rfl
        rotate_left
        ·simp only [Act.put, List.setIfInBounds_toArray, List.set_cons_zero, List.set_cons_succ, i64_w, i32_w]
         rfl
        refine take_ (i := 7) (N := some 24) (v := ?_) (a' := ?_) #[true, true, true, true, true, true, true, true, false, false] rfl rfl (take_ofW HT_.out HW_.out (by kernel_rfl)) (fun _ _ _ h => h) (Or.inl ⟨by rfl, ?_⟩) hHeld ?_ ?_
        rotate_left
        ·rintro w' ⟨s0, s1, s2, s3, s4, s5⟩
         go_simp
         with_reducible rfl
        rotate_left
        ·simp only [Act.put, List.setIfInBounds_toArray, List.set_cons_zero, List.set_cons_succ, i64_w, i32_w]
         rfl
        refine one_ (i := 8) (N := some 25) #[true, true, true, true, true, true, true, true, true, false] rfl rfl (one_of HT_.out (by kernel_rfl)) (by decide) (fun K hK => ?_)
        refine goes_ Try.func156 (by kernel_rfl) rfl #[.agg #[.int .i64 ((rd_T106 l0 x5_1).f0), .int .i64 ((rd_T106 l0 x5_1).f1), .slice A101_2 ((rd_T106 l0 x5_1).f2).length c101_2], .agg #[.int .i64 ((rd_T106 l1 x5_1).f0), .int .i64 ((rd_T106 l1 x5_1).f1), .slice A102_2 ((rd_T106 l1 x5_1).f2).length c102_2]] (by rfl) rfl rfl (by (try simp only [List.map_toArray, List.map_cons, List.map_nil]);first | done | rfl | (simp only [List.length_drop, List.length_take];rfl)) ?_
        with_reducible refine (spec_l3Same.calls k1 ((rd_T106 l0 x5_1).f0) ((rd_T106 l0 x5_1).f1) _ _ ((rd_T106 l0 x5_1).f2) ((rd_T106 l1 x5_1).f0) ((rd_T106 l1 x5_1).f1) _ _ ((rd_T106 l1 x5_1).f2) false _ ?side1 ?side2 ?side3 ?side4 A7.out).mono ?_
        (case side1 => repeat (first | exact (Kd.C_below HR101_2.out HB.out) | (with_reducible refine Kd.C_alloc ?_ _) | (with_reducible refine Kd.C_drewN ?_ _) | (with_reducible refine Kd.C_drew ?_)))
        (case side2 => exact HC101_2.out)
        (case side3 => repeat (first | exact (Kd.C_below HR102_2.out HB.out) | (with_reducible refine Kd.C_alloc ?_ _) | (with_reducible refine Kd.C_drewN ?_ _) | (with_reducible refine Kd.C_drew ?_)))
        (case side4 => exact HC102_2.out)
        rintro e w12 ⟨rfl, hb⟩
        refine ⟨_, rfl, ?_⟩
        replace HB := Aside0.mk (below_step (by exact HB.out) hb)
        (try clear hb)
        (try clear hb2)
        (try clear hk)
        (try clear hi)
        refine hK.out _ _ ⟨((HB.out.cell (World.block_lt_of_cell? w _ hw101_0)).trans hw101_0), ((HB.out.cell (World.block_lt_of_cell? w _ hw101_1)).trans hw101_1), ((HB.out.cell (World.block_lt_of_cell? w _ hw101_2)).trans hw101_2), ((HB.out.cell (World.block_lt_of_cell? w _ hw102_0)).trans hw102_0), ((HB.out.cell (World.block_lt_of_cell? w _ hw102_1)).trans hw102_1), ((HB.out.cell (World.block_lt_of_cell? w _ hw102_2)).trans hw102_2)⟩ (fun hHeld => ?_)
        clear hK K
        refine norm_ (a' := ?_) ?_ ?_
        rotate_left
        ·show Act.put _ (some 25) _ = _
         simp only [Act.put, List.setIfInBounds_toArray, List.set_cons_zero, List.set_cons_succ, i64_w, i32_w]
         rfl
        refine pv_ 9 26 #[true, true, true, true, true, true, true, true, true, true] (any_of HT_.out (by kernel_rfl)) ?_
        refine done_ (done_of HT_.out (by kernel_rfl)) ?_
        try go_wp2
        go_ret
        exact ⟨by first | rfl | (simp [errW_none, errW_some] <;> rfl) | (simp [*, errW_none, errW_some] <;> rfl), by repeat (first | (with_reducible first | exact HB.out | apply below_alloc | apply pw_below_drewN | apply below_drew1) | exact HB.out)⟩
      ·rw [if_neg c6] at H
       exact absurd H (by simp)
     ·rw [if_neg c5] at H
      exact absurd H (by simp)
    ·rw [if_neg c4] at H
     have c4b0 : decide (x5_1 < (l0.length : Int)) = false := decide_eq_false c4
     clear c4
     obtain rfl := Option.some.inj H
     go_wp2
     go_ret
     exact ⟨by first | rfl | (simp [errW_none, errW_some] <;> rfl) | (simp [*, errW_none, errW_some] <;> rfl), by repeat (first | (with_reducible first | exact HB.out | apply below_alloc | apply pw_below_drewN | apply below_drew1) | exact HB.out)⟩
 ·rw [if_neg c3] at H
  have c3b0 : ((l0.length : Int) == (l1.length : Int)) = false := beq_eq_false_iff_ne.mpr c3
  have c3b1 : ((l0.length : Int) != (l1.length : Int)) = true := bne_iff_ne.mpr c3
  have c3b2 : (l0.length == l1.length) = false := by first | simpa using c3 | (simp at c3 ⊢;omega)
  obtain rfl := Option.some.inj H
  go_enter Try.func126, Try.ntmps126
  go_wp2
  go_ret
  exact ⟨by first | rfl | (simp [errW_none, errW_some] <;> rfl) | (simp [*, errW_none, errW_some] <;> rfl), by repeat (first | (with_reducible first | exact HB.out | apply below_alloc | apply pw_below_drewN | apply below_drew1) | exact HB.out)⟩

end Go.Proofs.Ytdljhokealbnnaa.M
namespace Go.Proofs.Ytdljhokealbnnaa.M
open Go.RowKit Go.Proofs.YtdljhokealbnnaaW.PrintWords Go.Proofs.YtdljhokealbnnaaW.PrintLast Go.Proofs.YtdljhokealbnnaaW.PrintMore
attribute [local go_sem] max2_int min2_int max_two min_two max_three min_three max_four min_four
set_option linter.unusedVariables false
set_option linter.unusedSimpArgs false

def impl_OccsSame_1.f (k : Nat) (a0_0 : Int) (a0_1 : Int) (l0_2 : List Int) (a1_0 : Int) (a1_1 : Int) (l1_2 : List Int) : Option (Bool) := (impl_compare.f k a0_0 a0_1 l0_2 a1_0 a1_1 l1_2).bind fun t103 => (some (t103 == 0))
theorem impl_OccsSame_1.mono : ∀ a0 a1 a2 a3 a4 a5 k, LeO (impl_OccsSame_1.f k a0 a1 a2 a3 a4 a5) (impl_OccsSame_1.f (k + 1) a0 a1 a2 a3 a4 a5) := by
 intro a0 a1 a2 a3 a4 a5 k
 unfold impl_OccsSame_1.f
 repeat' first
   | (with_reducible exact impl_compare.mono _ _ _ _ _ _ _)
   | (with_reducible exact LeO.refl _)
   | (with_reducible exact LeO.none _)
   | (with_reducible refine LeO.ite ?_ ?_)
   | (with_reducible refine LeO.bind ?_ (fun _ => ?_))
   | exact impl_compare.mono _ _ _ _ _ _ _
   | exact LeO.none _
   | refine LeO.ite ?_ ?_
   | refine LeO.bind ?_ (fun _ => ?_)
set_option maxHeartbeats 8000000 in
set_option maxRecDepth 100000 in
theorem impl_OccsSame_1.calls (k : Nat) (a0_0 : Int) (a0_1 : Int) (A0_2 : Option Addr) (c0_2 : Nat) (l0_2 : List Int) (a1_0 : Int) (a1_1 : Int) (A1_2 : Option Addr) (c1_2 : Nat) (l1_2 : List Int) (r : Bool) (w : World) (hr0_2 : Kd.C (Kd.int .i64) w A0_2 l0_2.length l0_2) (hc0_2 : l0_2.length ≤ c0_2) (hr1_2 : Kd.C (Kd.int .i64) w A1_2 l1_2.length l1_2) (hc1_2 : l1_2.length ≤ c1_2) (h : impl_OccsSame_1.f k a0_0 a0_1 l0_2 a1_0 a1_1 l1_2 = some r) :
  Calls Try.prog 128 #[.agg #[.int .i64 a0_0, .int .i64 a0_1, .slice A0_2 l0_2.length c0_2], .agg #[.int .i64 a1_0, .int .i64 a1_1, .slice A1_2 l1_2.length c1_2]] w fun e w' => e = .returned (.bool r) ∧ Below w.heap.size w w' := by
 have hu106 := Try.underlying106
 have HR0_2 := Aside0.mk hr0_2
 have HC0_2 := Aside0.mk hc0_2
 clear hr0_2 hc0_2
 have HR1_2 := Aside0.mk hr1_2
 have HC1_2 := Aside0.mk hc1_2
 clear hr1_2 hc1_2
 have HB := Aside0.mk (Below.refl w.heap.size w)
 have H : ((impl_compare.f k a0_0 a0_1 l0_2 a1_0 a1_1 l1_2).bind fun t103 => (some (t103 == 0))) = some r := h
 clear h
 replace H := Option.bind_eq_some_iff.mp H
 obtain ⟨t103, A30, H⟩ := H
 replace H : (some (t103 == 0)) = some r := H
 have A3 := Aside0.mk A30
 clear A30
 obtain rfl := Option.some.inj H
 go_enter Try.func128, Try.ntmps128
 go_wp2_with (first | ((with_reducible refine gate_dst (N := 2) rfl ?_);refine box_event ?hg (N := 2) ?hd (cs := #[.int .i64 a0_0, .int .i64 a0_1, .slice A0_2 l0_2.length c0_2]) (t := 106) ?hr ?_;(case hd => rfl);(case hg => rfl);(case hr => first | (go_simp;done) | (go_simp;rfl));intro gb101 hg w4 hbox hb;have BK101 := Aside0.mk (hbox);have GW101 := Aside0.mk ((by rw [hg];exact (below_size (by exact HB.out)) : w.heap.size ≤ gb101));have GE101 := Aside0.mk ((by rw [hg];exact (below_size (by exact HB.out)) : w.heap.size ≤ gb101));replace HB := Aside0.mk (below_step (by exact HB.out) hb);clear hb hbox hg) | ((with_reducible refine gate_dst (N := 3) rfl ?_);refine box_event ?hg (N := 3) ?hd (cs := #[.int .i64 a1_0, .int .i64 a1_1, .slice A1_2 l1_2.length c1_2]) (t := 106) ?hr ?_;(case hd => rfl);(case hg => rfl);(case hr => first | (go_simp;done) | (go_simp;rfl));intro gb102 hg w5 hbox hb;have BK102 := Aside0.mk (hbox);have GW102 := Aside0.mk ((by rw [hg];exact (below_size (by exact HB.out)) : w.heap.size ≤ gb102));have GE102 := Aside0.mk ((by rw [hg];exact (below_size (by exact HB.out)) : w.heap.size ≤ gb102));replace HB := Aside0.mk (below_step (by exact HB.out) hb);have NB101_102 := Aside0.mk ((by rw [hg];exact Nat.ne_of_lt (blk_lt BK101.out) : gb101 ≠ gb102));have NB102_101 := Aside0.mk ((by rw [hg];exact Nat.ne_of_gt (blk_lt BK101.out) : gb102 ≠ gb101));replace BK101 := Aside0.mk (blk_below BK101.out hb);clear hb hbox hg;have hnb6 := NB101_102.out;have hnc6 := NB102_101.out;obtain ⟨hcz7_0, hcz7_1, hcz7_2, hfz7_0, hfz7_1, hfz7_2⟩ := bx3 BK101.out;obtain ⟨hcz8_0, hcz8_1, hcz8_2, hfz8_0, hfz8_1, hfz8_2⟩ := bx3 BK102.out) | ((with_reducible refine gate_callee (f := 129) rfl ?_);refine goesL_ (some 7) rfl rfl Try.func129 (by kernel_rfl) rfl #[.agg #[.int .i64 a0_0, .int .i64 a0_1, .slice A0_2 l0_2.length c0_2], .agg #[.int .i64 a1_0, .int .i64 a1_1, .slice A1_2 l1_2.length c1_2]] rfl (by (try simp only [List.map_toArray, List.map_cons, List.map_nil]);first | done | rfl | (simp only [List.length_drop, List.length_take];rfl)) ?_;(with_reducible refine (impl_compare.calls k a0_0 a0_1 _ _ l0_2 a1_0 a1_1 _ _ l1_2 t103 _ ?side1 ?side2 ?side3 ?side4 A3.out).mono ?_);(case side1 => repeat (first | exact (Kd.C_below HR0_2.out HB.out) | (with_reducible refine Kd.C_alloc ?_ _) | (with_reducible refine Kd.C_drewN ?_ _) | (with_reducible refine Kd.C_drew ?_)));(case side2 => exact HC0_2.out);(case side3 => repeat (first | exact (Kd.C_below HR1_2.out HB.out) | (with_reducible refine Kd.C_alloc ?_ _) | (with_reducible refine Kd.C_drewN ?_ _) | (with_reducible refine Kd.C_drew ?_)));(case side4 => exact HC1_2.out);rintro e w9 ⟨rfl, hb⟩;refine ⟨_, rfl, ?_⟩;replace BK101 := Aside0.mk (blk_below BK101.out hb);replace BK102 := Aside0.mk (blk_below BK102.out hb);replace HB := Aside0.mk (below_step (by exact HB.out) hb);(try clear hb);(try clear hb2);(try clear hk);(try clear hi)))
 go_ret
 exact ⟨by first | rfl | (simp [errW_none, errW_some] <;> rfl) | (simp [*, errW_none, errW_some] <;> rfl), by repeat (first | (with_reducible first | exact HB.out | apply below_alloc | apply pw_below_drewN | apply below_drew1 | refine below_set ?_ GE101.out | refine below_set ?_ GE102.out) | exact HB.out)⟩

end Go.Proofs.Ytdljhokealbnnaa.M
namespace Go.Proofs.Ytdljhokealbnnaa.M
open Go.RowKit Go.Proofs.YtdljhokealbnnaaW.PrintWords Go.Proofs.YtdljhokealbnnaaW.PrintLast Go.Proofs.YtdljhokealbnnaaW.PrintMore
attribute [local go_sem] max2_int min2_int max_two min_two max_three min_three max_four min_four
set_option linter.unusedVariables false
set_option linter.unusedSimpArgs false

def impl_Occ.l0 : Nat → List (S106) → List (S106) → Int → Int → Option (Bool)
 | 0, _, _, _, _ => none
 | k + 1, x1, x15, x16, x17 => if x17 < x16 then (if 0 ≤ x17 then (if x17 < (x15.length : Int) then (if x17 < (x1.length : Int) then ((impl_OccsSame_1.f k ((rd_T106 x15 x17).f0) ((rd_T106 x15 x17).f1) ((rd_T106 x15 x17).f2) ((rd_T106 x1 x17).f0) ((rd_T106 x1 x17).f1) ((rd_T106 x1 x17).f2)).bind fun t105 => (if t105 = true then (impl_Occ.l0 k x1 x15 x16 (wrap64 (x17 + 1))) else (some false))) else (none)) else (none)) else (none)) else (some true)
def impl_Occ.f (k : Nat) (l0 : List (S106)) (l1 : List (S106))  : Option (Bool) := if (l0.length : Int) = (l1.length : Int) then (impl_Occ.l0 k l1 l0 (l0.length : Int) 0) else (some false)
theorem impl_Occ.mono_l : ∀ k, (∀ y0 y1 y2 y3, LeO (impl_Occ.l0 k y0 y1 y2 y3) (impl_Occ.l0 (k + 1) y0 y1 y2 y3))
 | 0 => fun _ _ _ _ r h => by simp [impl_Occ.l0] at h
 | k + 1 => by
  have ih0 := impl_Occ.mono_l k
  ·intro y0 y1 y2 y3
   unfold impl_Occ.l0
   repeat' first
   | (with_reducible exact ih0 _ _ _ _)
   | (with_reducible exact impl_OccsSame_1.mono _ _ _ _ _ _ _)
   | (with_reducible exact LeO.refl _)
   | (with_reducible exact LeO.none _)
   | (with_reducible refine LeO.ite ?_ ?_)
   | (with_reducible refine LeO.bind ?_ (fun _ => ?_))
   | exact ih0 _ _ _ _
   | exact impl_OccsSame_1.mono _ _ _ _ _ _ _
   | exact LeO.none _
   | refine LeO.ite ?_ ?_
   | refine LeO.bind ?_ (fun _ => ?_)
theorem impl_Occ.mono : ∀ a0 a1 k, LeO (impl_Occ.f k a0 a1) (impl_Occ.f (k + 1) a0 a1) := by
 intro a0 a1 k
 have ih0 := impl_Occ.mono_l k
 unfold impl_Occ.f
 repeat' first
   | (with_reducible exact ih0 _ _ _ _)
   | (with_reducible exact impl_OccsSame_1.mono _ _ _ _ _ _ _)
   | (with_reducible exact LeO.refl _)
   | (with_reducible exact LeO.none _)
   | (with_reducible refine LeO.ite ?_ ?_)
   | (with_reducible refine LeO.bind ?_ (fun _ => ?_))
   | exact ih0 _ _ _ _
   | exact impl_OccsSame_1.mono _ _ _ _ _ _ _
   | exact LeO.none _
   | refine LeO.ite ?_ ?_
   | refine LeO.bind ?_ (fun _ => ?_)
set_option maxHeartbeats 8000000 in
set_option maxRecDepth 100000 in
theorem impl_Occ.calls (k : Nat) (A0 : Option Addr) (c0 : Nat) (l0 : List (S106)) (A1 : Option Addr) (c1 : Nat) (l1 : List (S106))  (r : Bool) (w : World) (hr0 : Kd.C k106 w A0 l0.length l0) (hc0 : l0.length ≤ c0) (hr1 : Kd.C k106 w A1 l1.length l1) (hc1 : l1.length ≤ c1) (h : impl_Occ.f k l0 l1 = some r) :
  Calls Try.prog 127 #[.slice A0 l0.length c0, .slice A1 l1.length c1, .func (.func 128) #[] #[]] w fun e w' => e = .returned (.bool r) ∧ Below w.heap.size w w' := by
 have hu106 := Try.underlying106
 have HR0 := Aside0.mk hr0
 have HC0 := Aside0.mk hc0
 clear hr0 hc0
 have HR1 := Aside0.mk hr1
 have HC1 := Aside0.mk hc1
 clear hr1 hc1
 have HB := Aside0.mk (Below.refl w.heap.size w)
 have H : (if (l0.length : Int) = (l1.length : Int) then (impl_Occ.l0 k l1 l0 (l0.length : Int) 0) else (some false)) = some r := h
 clear h
 by_cases c4 : (l0.length : Int) = (l1.length : Int)
 ·rw [if_pos c4] at H
  have c4b0 : ((l0.length : Int) == (l1.length : Int)) = true := beq_iff_eq.mpr c4
  have c4b1 : ((l0.length : Int) != (l1.length : Int)) = false := bne_eq_false_iff_eq.mpr c4
  have c4b2 : (l0.length == l1.length) = true := by first | simpa using c4 | (simp at c4 ⊢;omega)
  clear c4
  have H' := Aside0.mk H
  clear H
  go_enter Try.func127, Try.ntmps127
  go_wp2
  go_loopg [17] k (fun kq v17 w' => ∃ (x17_1 : Int), v17 = .int .i64 x17_1 ∧ Aside0 (impl_Occ.l0 kq l1 l0 (l0.length : Int) x17_1 = some r) ∧ Aside0 (kq ≤ k) ∧ Aside0 (Below w.heap.size w w'))
  case atStart => exact ⟨(0), (by first | rfl | (simp;done) | (simp [*];done)), H', ⟨Nat.le_refl _⟩, ⟨by repeat (first | (with_reducible first | exact HB.out | apply below_alloc | apply pw_below_drewN | apply below_drew1) | exact HB.out)⟩⟩
  case round =>
   clear H'
   try clear c1
   try clear p2
   try clear c4
   try clear c4b0
   try clear c4b1
   try clear c4b2
   obtain ⟨x17_1, rfl, HA, HK1, HB⟩ := hrel
   cases gk with
   | zero => exact absurd HA.out (by simp [impl_Occ.l0])
   | succ k1 =>
    have H := HA.out
    clear HA
    simp only [impl_Occ.l0] at H
    by_cases c5 : x17_1 < (l0.length : Int)
    ·rw [if_pos c5] at H
     have c5b0 : decide (x17_1 < (l0.length : Int)) = true := decide_eq_true c5
     clear c5
     by_cases c6 : 0 ≤ x17_1
     ·rw [if_pos c6] at H
      have c6b0 : decide (0 ≤ x17_1) = true := decide_eq_true c6
      clear c6
      by_cases c7 : x17_1 < (l0.length : Int)
      ·rw [if_pos c7] at H
       have c7b0 : decide (x17_1 < (l0.length : Int)) = true := decide_eq_true c7
       clear c7
       by_cases c8 : x17_1 < (l1.length : Int)
       ·rw [if_pos c8] at H
        have c8b0 : decide (x17_1 < (l1.length : Int)) = true := decide_eq_true c8
        clear c8
        replace H := Option.bind_eq_some_iff.mp H
        obtain ⟨t105, A90, H⟩ := H
        replace H : (if t105 = true then (impl_Occ.l0 k1 l1 l0 (l0.length : Int) (wrap64 (x17_1 + 1))) else (some false)) = some r := H
        have A9 := Aside0.mk A90
        clear A90
        by_cases c10 : t105 = true
        ·subst c10
         have H1 : (impl_Occ.l0 k1 l1 l0 (l0.length : Int) (wrap64 (x17_1 + 1))) = some r := by rw [if_pos rfl] at H;exact H
         clear H
         have H := H1
         clear H1
         have H' := Aside0.mk H
         clear H
         have p101 : 0 ≤ (x17_1 : Int) := of_decide_eq_true (by first | (with_reducible assumption) | assumption)
         have q101 : x17_1 < (l0.length : Int) := of_decide_eq_true (by first | (with_reducible assumption) | assumption)
         obtain ⟨ad101, A101_2, c101_2, e101, hx101_0, hx101_1, hx101_2, hl101_2, hi101_2⟩ := at_T106 HR0.out x17_1 p101 q101
         cases e101
         replace hx101_0 := (HB.out.cell (World.block_lt_of_cell? w _ hx101_0)).trans hx101_0
         replace hx101_1 := (HB.out.cell (World.block_lt_of_cell? w _ hx101_1)).trans hx101_1
         replace hx101_2 := (HB.out.cell (World.block_lt_of_cell? w _ hx101_2)).trans hx101_2
         have HR101_2 := Aside0.mk hi101_2
         have HC101_2 := Aside0.mk hl101_2
         clear hi101_2 hl101_2
         replace p101 := eq_true p101
         replace q101 := eq_true q101
         go_wp2_with (first | ((with_reducible refine gate_dst (N := 8) rfl ?_);refine box_event ?hg (N := 8) ?hd (cs := #[.int .i64 0, .int .i64 0, .slice none 0 0]) (t := 106) ?hr ?_;(case hd => rfl);(case hg => rfl);(case hr => first | (go_simp;done) | (go_simp;rfl));intro gb102 hg w11 hbox hb;have n0_ := Aside0.mk (below_step (by repeat (first | (with_reducible first | exact HB.out | apply below_alloc | apply pw_below_drewN | apply below_drew1) | exact HB.out)) hb);have n1_ := Aside0.mk (hbox);have n2_ := Aside0.mk ((by rw [hg];exact (below_size (by repeat (first | (with_reducible first | exact HB.out | apply below_alloc | apply pw_below_drewN | apply below_drew1) | exact HB.out))) : w.heap.size ≤ gb102));have n3_ := Aside0.mk ((by rw [hg];exact (below_size (by repeat (first | (with_reducible first | exact HB.out | apply below_alloc | apply pw_below_drewN | apply below_drew1) | exact HB.out))) : w.heap.size ≤ gb102));clear HB;have HB := n0_;have BK102 := n1_;have GW102 := n2_;have GE102 := n3_;clear n0_ n1_ n2_ n3_;clear hb hbox hg;obtain ⟨hcz12_0, hcz12_1, hcz12_2, hfz12_0, hfz12_1, hfz12_2⟩ := bx3 BK102.out;have p103 : 0 ≤ (x17_1 : Int) := of_decide_eq_true (by first | (with_reducible assumption) | assumption);have q103 : x17_1 < (l1.length : Int) := of_decide_eq_true (by first | (with_reducible assumption) | assumption);obtain ⟨ad103, A103_2, c103_2, e103, hx103_0, hx103_1, hx103_2, hl103_2, hi103_2⟩ := at_T106 HR1.out x17_1 p103 q103;cases e103;have hn103_0 : ad103.block ≠ gb102 := Nat.ne_of_lt (Nat.lt_of_lt_of_le (by have := World.block_lt_of_cell? _ _ hx103_0;first | rwa [add_block] at this | exact this) GW102.out);have hn103_1 : ad103.block ≠ gb102 := Nat.ne_of_lt (Nat.lt_of_lt_of_le (by have := World.block_lt_of_cell? _ _ hx103_0;first | rwa [add_block] at this | exact this) GW102.out);have hn103_2 : ad103.block ≠ gb102 := Nat.ne_of_lt (Nat.lt_of_lt_of_le (by have := World.block_lt_of_cell? _ _ hx103_0;first | rwa [add_block] at this | exact this) GW102.out);replace hx103_0 := (HB.out.cell (World.block_lt_of_cell? w _ hx103_0)).trans hx103_0;replace hx103_1 := (HB.out.cell (World.block_lt_of_cell? w _ hx103_1)).trans hx103_1;replace hx103_2 := (HB.out.cell (World.block_lt_of_cell? w _ hx103_2)).trans hx103_2;have HR103_2 := Aside0.mk hi103_2;have HC103_2 := Aside0.mk hl103_2;clear hi103_2 hl103_2;replace hx103_0 := (cell_far (p := ⟨gb102, 0, none⟩) (by first | (rw [add_block];exact hn103_0) | (show (Addr.add _ _).block ≠ _;rw [add_block];exact hn103_0) | exact hn103_0) (.int .i64 ((rd_T106 l0 x17_1).f0))).trans hx103_0;replace hx103_1 := (cell_far (p := ⟨gb102, 0, none⟩) (by first | (rw [add_block];exact hn103_0) | (show (Addr.add _ _).block ≠ _;rw [add_block];exact hn103_0) | exact hn103_0) (.int .i64 ((rd_T106 l0 x17_1).f0))).trans hx103_1;replace hx103_2 := (cell_far (p := ⟨gb102, 0, none⟩) (by first | (rw [add_block];exact hn103_0) | (show (Addr.add _ _).block ≠ _;rw [add_block];exact hn103_0) | exact hn103_0) (.int .i64 ((rd_T106 l0 x17_1).f0))).trans hx103_2;replace hx103_0 := (cell_far (p := ⟨gb102, 1, none⟩) (by first | (rw [add_block];exact hn103_1) | (show (Addr.add _ _).block ≠ _;rw [add_block];exact hn103_1) | exact hn103_1) (.int .i64 ((rd_T106 l0 x17_1).f1))).trans hx103_0;replace hx103_1 := (cell_far (p := ⟨gb102, 1, none⟩) (by first | (rw [add_block];exact hn103_1) | (show (Addr.add _ _).block ≠ _;rw [add_block];exact hn103_1) | exact hn103_1) (.int .i64 ((rd_T106 l0 x17_1).f1))).trans hx103_1;replace hx103_2 := (cell_far (p := ⟨gb102, 1, none⟩) (by first | (rw [add_block];exact hn103_1) | (show (Addr.add _ _).block ≠ _;rw [add_block];exact hn103_1) | exact hn103_1) (.int .i64 ((rd_T106 l0 x17_1).f1))).trans hx103_2;replace hx103_0 := (cell_far (p := ⟨gb102, 2, none⟩) (by first | (rw [add_block];exact hn103_2) | (show (Addr.add _ _).block ≠ _;rw [add_block];exact hn103_2) | exact hn103_2) (.slice A101_2 ((rd_T106 l0 x17_1).f2).length c101_2)).trans hx103_0;replace hx103_1 := (cell_far (p := ⟨gb102, 2, none⟩) (by first | (rw [add_block];exact hn103_2) | (show (Addr.add _ _).block ≠ _;rw [add_block];exact hn103_2) | exact hn103_2) (.slice A101_2 ((rd_T106 l0 x17_1).f2).length c101_2)).trans hx103_1;replace hx103_2 := (cell_far (p := ⟨gb102, 2, none⟩) (by first | (rw [add_block];exact hn103_2) | (show (Addr.add _ _).block ≠ _;rw [add_block];exact hn103_2) | exact hn103_2) (.slice A101_2 ((rd_T106 l0 x17_1).f2).length c101_2)).trans hx103_2;clear hn103_0;clear hn103_1;clear hn103_2;replace p103 := eq_true p103;replace q103 := eq_true q103) | ((with_reducible refine gate_dst (N := 9) rfl ?_);refine box_event ?hg (N := 9) ?hd (cs := #[.int .i64 0, .int .i64 0, .slice none 0 0]) (t := 106) ?hr ?_;(case hd => rfl);(case hg => rfl);(case hr => first | (go_simp;done) | (go_simp;rfl));intro gb104 hg w13 hbox hb;have n0_ := Aside0.mk (blk_below (g := gb102) (o := .cells #[.int .i64 ((rd_T106 l0 x17_1).f0), .int .i64 ((rd_T106 l0 x17_1).f1), .slice A101_2 ((rd_T106 l0 x17_1).f2).length c101_2] 106 (0, 0)) (by (with_reducible repeat (first | refine blk_drewN ?_ _ | refine blk_drew ?_ | refine blk_alloc ?_ _));refine blk_put (cs := #[.int .i64 ((rd_T106 l0 x17_1).f0), .int .i64 ((rd_T106 l0 x17_1).f1), .slice none 0 0]) ?_ 2 _ rfl;(with_reducible repeat (first | refine blk_drewN ?_ _ | refine blk_drew ?_ | refine blk_alloc ?_ _));refine blk_put (cs := #[.int .i64 ((rd_T106 l0 x17_1).f0), .int .i64 0, .slice none 0 0]) ?_ 1 _ rfl;(with_reducible repeat (first | refine blk_drewN ?_ _ | refine blk_drew ?_ | refine blk_alloc ?_ _));refine blk_put (cs := #[.int .i64 0, .int .i64 0, .slice none 0 0]) ?_ 0 _ rfl;(with_reducible repeat (first | refine blk_drewN ?_ _ | refine blk_drew ?_ | refine blk_alloc ?_ _));exact BK102.out) hb);have n1_ := Aside0.mk (below_step (by repeat (first | (with_reducible first | exact HB.out | apply below_alloc | apply pw_below_drewN | apply below_drew1 | refine below_set ?_ GE102.out) | exact HB.out)) hb);have n2_ := Aside0.mk (hbox);have n3_ := Aside0.mk ((by rw [hg];exact (below_size (by repeat (first | (with_reducible first | exact HB.out | apply below_alloc | apply pw_below_drewN | apply below_drew1 | refine below_set ?_ GE102.out) | exact HB.out))) : w.heap.size ≤ gb104));have n4_ := Aside0.mk ((by rw [hg];exact (below_size (by repeat (first | (with_reducible first | exact HB.out | apply below_alloc | apply pw_below_drewN | apply below_drew1 | refine below_set ?_ GE102.out) | exact HB.out))) : w.heap.size ≤ gb104));have n5_ := Aside0.mk ((by rw [hg];exact Nat.ne_of_lt (blk_lt (g := gb102) (o := .cells #[.int .i64 ((rd_T106 l0 x17_1).f0), .int .i64 ((rd_T106 l0 x17_1).f1), .slice A101_2 ((rd_T106 l0 x17_1).f2).length c101_2] 106 (0, 0)) (by (with_reducible repeat (first | refine blk_drewN ?_ _ | refine blk_drew ?_ | refine blk_alloc ?_ _));refine blk_put (cs := #[.int .i64 ((rd_T106 l0 x17_1).f0), .int .i64 ((rd_T106 l0 x17_1).f1), .slice none 0 0]) ?_ 2 _ rfl;(with_reducible repeat (first | refine blk_drewN ?_ _ | refine blk_drew ?_ | refine blk_alloc ?_ _));refine blk_put (cs := #[.int .i64 ((rd_T106 l0 x17_1).f0), .int .i64 0, .slice none 0 0]) ?_ 1 _ rfl;(with_reducible repeat (first | refine blk_drewN ?_ _ | refine blk_drew ?_ | refine blk_alloc ?_ _));refine blk_put (cs := #[.int .i64 0, .int .i64 0, .slice none 0 0]) ?_ 0 _ rfl;(with_reducible repeat (first | refine blk_drewN ?_ _ | refine blk_drew ?_ | refine blk_alloc ?_ _));exact BK102.out)) : gb102 ≠ gb104));have n6_ := Aside0.mk ((by rw [hg];exact Nat.ne_of_gt (blk_lt (g := gb102) (o := .cells #[.int .i64 ((rd_T106 l0 x17_1).f0), .int .i64 ((rd_T106 l0 x17_1).f1), .slice A101_2 ((rd_T106 l0 x17_1).f2).length c101_2] 106 (0, 0)) (by (with_reducible repeat (first | refine blk_drewN ?_ _ | refine blk_drew ?_ | refine blk_alloc ?_ _));refine blk_put (cs := #[.int .i64 ((rd_T106 l0 x17_1).f0), .int .i64 ((rd_T106 l0 x17_1).f1), .slice none 0 0]) ?_ 2 _ rfl;(with_reducible repeat (first | refine blk_drewN ?_ _ | refine blk_drew ?_ | refine blk_alloc ?_ _));refine blk_put (cs := #[.int .i64 ((rd_T106 l0 x17_1).f0), .int .i64 0, .slice none 0 0]) ?_ 1 _ rfl;(with_reducible repeat (first | refine blk_drewN ?_ _ | refine blk_drew ?_ | refine blk_alloc ?_ _));refine blk_put (cs := #[.int .i64 0, .int .i64 0, .slice none 0 0]) ?_ 0 _ rfl;(with_reducible repeat (first | refine blk_drewN ?_ _ | refine blk_drew ?_ | refine blk_alloc ?_ _));exact BK102.out)) : gb104 ≠ gb102));clear BK102;clear HB;have BK102 := n0_;have HB := n1_;have BK104 := n2_;have GW104 := n3_;have GE104 := n4_;have NB102_104 := n5_;have NB104_102 := n6_;clear n0_ n1_ n2_ n3_ n4_ n5_ n6_;clear hb hbox hg;have hnb14 := NB104_102.out;have hnc14 := NB102_104.out;obtain ⟨hcz15_0, hcz15_1, hcz15_2, hfz15_0, hfz15_1, hfz15_2⟩ := bx3 BK104.out;obtain ⟨hcz16_0, hcz16_1, hcz16_2, hfz16_0, hfz16_1, hfz16_2⟩ := bx3 BK102.out) | (go_at_call 128;(with_reducible refine (impl_OccsSame_1.calls k1 ((rd_T106 l0 x17_1).f0) ((rd_T106 l0 x17_1).f1) _ _ ((rd_T106 l0 x17_1).f2) ((rd_T106 l1 x17_1).f0) ((rd_T106 l1 x17_1).f1) _ _ ((rd_T106 l1 x17_1).f2) true _ ?side1 ?side2 ?side3 ?side4 A9.out).mono ?_);(case side1 => exact Kd.C_below HR101_2.out (by repeat (first | (with_reducible first | exact HB.out | apply below_alloc | apply pw_below_drewN | apply below_drew1 | refine below_set ?_ GE102.out | refine below_set ?_ GE104.out) | exact HB.out)));(case side2 => exact HC101_2.out);(case side3 => exact Kd.C_below HR103_2.out (by repeat (first | (with_reducible first | exact HB.out | apply below_alloc | apply pw_below_drewN | apply below_drew1 | refine below_set ?_ GE102.out | refine below_set ?_ GE104.out) | exact HB.out)));(case side4 => exact HC103_2.out);rintro e w17 ⟨rfl, hb⟩;have n0_ := Aside0.mk (blk_below (g := gb102) (o := .cells #[.int .i64 ((rd_T106 l0 x17_1).f0), .int .i64 ((rd_T106 l0 x17_1).f1), .slice A101_2 ((rd_T106 l0 x17_1).f2).length c101_2] 106 (0, 0)) (by (with_reducible repeat (first | refine blk_drewN ?_ _ | refine blk_drew ?_ | refine blk_alloc ?_ _));refine blk_far ?_ NB102_104.out _;(with_reducible repeat (first | refine blk_drewN ?_ _ | refine blk_drew ?_ | refine blk_alloc ?_ _));refine blk_far ?_ NB102_104.out _;(with_reducible repeat (first | refine blk_drewN ?_ _ | refine blk_drew ?_ | refine blk_alloc ?_ _));refine blk_far ?_ NB102_104.out _;(with_reducible repeat (first | refine blk_drewN ?_ _ | refine blk_drew ?_ | refine blk_alloc ?_ _));exact BK102.out) hb);have n1_ := Aside0.mk (blk_below (g := gb104) (o := .cells #[.int .i64 ((rd_T106 l1 x17_1).f0), .int .i64 ((rd_T106 l1 x17_1).f1), .slice A103_2 ((rd_T106 l1 x17_1).f2).length c103_2] 106 (0, 0)) (by (with_reducible repeat (first | refine blk_drewN ?_ _ | refine blk_drew ?_ | refine blk_alloc ?_ _));refine blk_put (cs := #[.int .i64 ((rd_T106 l1 x17_1).f0), .int .i64 ((rd_T106 l1 x17_1).f1), .slice none 0 0]) ?_ 2 _ rfl;(with_reducible repeat (first | refine blk_drewN ?_ _ | refine blk_drew ?_ | refine blk_alloc ?_ _));refine blk_put (cs := #[.int .i64 ((rd_T106 l1 x17_1).f0), .int .i64 0, .slice none 0 0]) ?_ 1 _ rfl;(with_reducible repeat (first | refine blk_drewN ?_ _ | refine blk_drew ?_ | refine blk_alloc ?_ _));refine blk_put (cs := #[.int .i64 0, .int .i64 0, .slice none 0 0]) ?_ 0 _ rfl;(with_reducible repeat (first | refine blk_drewN ?_ _ | refine blk_drew ?_ | refine blk_alloc ?_ _));exact BK104.out) hb);have n2_ := Aside0.mk (below_step (by repeat (first | (with_reducible first | exact HB.out | apply below_alloc | apply pw_below_drewN | apply below_drew1 | refine below_set ?_ GE102.out | refine below_set ?_ GE104.out) | exact HB.out)) hb);clear BK102;clear BK104;clear HB;have BK102 := n0_;have BK104 := n1_;have HB := n2_;clear n0_ n1_ n2_;(try clear hb);(try clear hb2);(try clear hk);(try clear hi)))
         go_roundg k1
         case measure => have := HK1.out;omega
         case rel => exact ⟨(wrap64 (x17_1 + 1)), (by first | rfl | (simp;done) | (simp [*];done)), H', ⟨by have := HK1.out;omega⟩, ⟨by repeat (first | (with_reducible first | exact HB.out | apply below_alloc | apply pw_below_drewN | apply below_drew1 | refine below_set ?_ GE102.out | refine below_set ?_ GE104.out) | exact HB.out)⟩⟩
        ·replace c10 := Bool.eq_false_iff.mpr c10
         subst c10
         have H1 : (some false) = some r := by rw [if_neg (show ¬ (false = true) by decide)] at H;exact H
         clear H
         have H := H1
         clear H1
         obtain rfl := Option.some.inj H
         have p101 : 0 ≤ (x17_1 : Int) := of_decide_eq_true (by first | (with_reducible assumption) | assumption)
         have q101 : x17_1 < (l0.length : Int) := of_decide_eq_true (by first | (with_reducible assumption) | assumption)
         obtain ⟨ad101, A101_2, c101_2, e101, hx101_0, hx101_1, hx101_2, hl101_2, hi101_2⟩ := at_T106 HR0.out x17_1 p101 q101
         cases e101
         replace hx101_0 := (HB.out.cell (World.block_lt_of_cell? w _ hx101_0)).trans hx101_0
         replace hx101_1 := (HB.out.cell (World.block_lt_of_cell? w _ hx101_1)).trans hx101_1
         replace hx101_2 := (HB.out.cell (World.block_lt_of_cell? w _ hx101_2)).trans hx101_2
         have HR101_2 := Aside0.mk hi101_2
         have HC101_2 := Aside0.mk hl101_2
         clear hi101_2 hl101_2
         replace p101 := eq_true p101
         replace q101 := eq_true q101
         go_wp2_with (first | ((with_reducible refine gate_dst (N := 8) rfl ?_);refine box_event ?hg (N := 8) ?hd (cs := #[.int .i64 0, .int .i64 0, .slice none 0 0]) (t := 106) ?hr ?_;(case hd => rfl);(case hg => rfl);(case hr => first | (go_simp;done) | (go_simp;rfl));intro gb102 hg w18 hbox hb;have n0_ := Aside0.mk (below_step (by repeat (first | (with_reducible first | exact HB.out | apply below_alloc | apply pw_below_drewN | apply below_drew1) | exact HB.out)) hb);have n1_ := Aside0.mk (hbox);have n2_ := Aside0.mk ((by rw [hg];exact (below_size (by repeat (first | (with_reducible first | exact HB.out | apply below_alloc | apply pw_below_drewN | apply below_drew1) | exact HB.out))) : w.heap.size ≤ gb102));have n3_ := Aside0.mk ((by rw [hg];exact (below_size (by repeat (first | (with_reducible first | exact HB.out | apply below_alloc | apply pw_below_drewN | apply below_drew1) | exact HB.out))) : w.heap.size ≤ gb102));clear HB;have HB := n0_;have BK102 := n1_;have GW102 := n2_;have GE102 := n3_;clear n0_ n1_ n2_ n3_;clear hb hbox hg;obtain ⟨hcz19_0, hcz19_1, hcz19_2, hfz19_0, hfz19_1, hfz19_2⟩ := bx3 BK102.out;have p103 : 0 ≤ (x17_1 : Int) := of_decide_eq_true (by first | (with_reducible assumption) | assumption);have q103 : x17_1 < (l1.length : Int) := of_decide_eq_true (by first | (with_reducible assumption) | assumption);obtain ⟨ad103, A103_2, c103_2, e103, hx103_0, hx103_1, hx103_2, hl103_2, hi103_2⟩ := at_T106 HR1.out x17_1 p103 q103;cases e103;have hn103_0 : ad103.block ≠ gb102 := Nat.ne_of_lt (Nat.lt_of_lt_of_le (by have := World.block_lt_of_cell? _ _ hx103_0;first | rwa [add_block] at this | exact this) GW102.out);have hn103_1 : ad103.block ≠ gb102 := Nat.ne_of_lt (Nat.lt_of_lt_of_le (by have := World.block_lt_of_cell? _ _ hx103_0;first | rwa [add_block] at this | exact this) GW102.out);have hn103_2 : ad103.block ≠ gb102 := Nat.ne_of_lt (Nat.lt_of_lt_of_le (by have := World.block_lt_of_cell? _ _ hx103_0;first | rwa [add_block] at this | exact this) GW102.out);replace hx103_0 := (HB.out.cell (World.block_lt_of_cell? w _ hx103_0)).trans hx103_0;replace hx103_1 := (HB.out.cell (World.block_lt_of_cell? w _ hx103_1)).trans hx103_1;replace hx103_2 := (HB.out.cell (World.block_lt_of_cell? w _ hx103_2)).trans hx103_2;have HR103_2 := Aside0.mk hi103_2;have HC103_2 := Aside0.mk hl103_2;clear hi103_2 hl103_2;replace hx103_0 := (cell_far (p := ⟨gb102, 0, none⟩) (by first | (rw [add_block];exact hn103_0) | (show (Addr.add _ _).block ≠ _;rw [add_block];exact hn103_0) | exact hn103_0) (.int .i64 ((rd_T106 l0 x17_1).f0))).trans hx103_0;replace hx103_1 := (cell_far (p := ⟨gb102, 0, none⟩) (by first | (rw [add_block];exact hn103_0) | (show (Addr.add _ _).block ≠ _;rw [add_block];exact hn103_0) | exact hn103_0) (.int .i64 ((rd_T106 l0 x17_1).f0))).trans hx103_1;replace hx103_2 := (cell_far (p := ⟨gb102, 0, none⟩) (by first | (rw [add_block];exact hn103_0) | (show (Addr.add _ _).block ≠ _;rw [add_block];exact hn103_0) | exact hn103_0) (.int .i64 ((rd_T106 l0 x17_1).f0))).trans hx103_2;replace hx103_0 := (cell_far (p := ⟨gb102, 1, none⟩) (by first | (rw [add_block];exact hn103_1) | (show (Addr.add _ _).block ≠ _;rw [add_block];exact hn103_1) | exact hn103_1) (.int .i64 ((rd_T106 l0 x17_1).f1))).trans hx103_0;replace hx103_1 := (cell_far (p := ⟨gb102, 1, none⟩) (by first | (rw [add_block];exact hn103_1) | (show (Addr.add _ _).block ≠ _;rw [add_block];exact hn103_1) | exact hn103_1) (.int .i64 ((rd_T106 l0 x17_1).f1))).trans hx103_1;replace hx103_2 := (cell_far (p := ⟨gb102, 1, none⟩) (by first | (rw [add_block];exact hn103_1) | (show (Addr.add _ _).block ≠ _;rw [add_block];exact hn103_1) | exact hn103_1) (.int .i64 ((rd_T106 l0 x17_1).f1))).trans hx103_2;replace hx103_0 := (cell_far (p := ⟨gb102, 2, none⟩) (by first | (rw [add_block];exact hn103_2) | (show (Addr.add _ _).block ≠ _;rw [add_block];exact hn103_2) | exact hn103_2) (.slice A101_2 ((rd_T106 l0 x17_1).f2).length c101_2)).trans hx103_0;replace hx103_1 := (cell_far (p := ⟨gb102, 2, none⟩) (by first | (rw [add_block];exact hn103_2) | (show (Addr.add _ _).block ≠ _;rw [add_block];exact hn103_2) | exact hn103_2) (.slice A101_2 ((rd_T106 l0 x17_1).f2).length c101_2)).trans hx103_1;replace hx103_2 := (cell_far (p := ⟨gb102, 2, none⟩) (by first | (rw [add_block];exact hn103_2) | (show (Addr.add _ _).block ≠ _;rw [add_block];exact hn103_2) | exact hn103_2) (.slice A101_2 ((rd_T106 l0 x17_1).f2).length c101_2)).trans hx103_2;clear hn103_0;clear hn103_1;clear hn103_2;replace p103 := eq_true p103;replace q103 := eq_true q103) | ((with_reducible refine gate_dst (N := 9) rfl ?_);refine box_event ?hg (N := 9) ?hd (cs := #[.int .i64 0, .int .i64 0, .slice none 0 0]) (t := 106) ?hr ?_;(case hd => rfl);(case hg => rfl);(case hr => first | (go_simp;done) | (go_simp;rfl));intro gb104 hg w20 hbox hb;have n0_ := Aside0.mk (blk_below (g := gb102) (o := .cells #[.int .i64 ((rd_T106 l0 x17_1).f0), .int .i64 ((rd_T106 l0 x17_1).f1), .slice A101_2 ((rd_T106 l0 x17_1).f2).length c101_2] 106 (0, 0)) (by (with_reducible repeat (first | refine blk_drewN ?_ _ | refine blk_drew ?_ | refine blk_alloc ?_ _));refine blk_put (cs := #[.int .i64 ((rd_T106 l0 x17_1).f0), .int .i64 ((rd_T106 l0 x17_1).f1), .slice none 0 0]) ?_ 2 _ rfl;(with_reducible repeat (first | refine blk_drewN ?_ _ | refine blk_drew ?_ | refine blk_alloc ?_ _));refine blk_put (cs := #[.int .i64 ((rd_T106 l0 x17_1).f0), .int .i64 0, .slice none 0 0]) ?_ 1 _ rfl;(with_reducible repeat (first | refine blk_drewN ?_ _ | refine blk_drew ?_ | refine blk_alloc ?_ _));refine blk_put (cs := #[.int .i64 0, .int .i64 0, .slice none 0 0]) ?_ 0 _ rfl;(with_reducible repeat (first | refine blk_drewN ?_ _ | refine blk_drew ?_ | refine blk_alloc ?_ _));exact BK102.out) hb);have n1_ := Aside0.mk (below_step (by repeat (first | (with_reducible first | exact HB.out | apply below_alloc | apply pw_below_drewN | apply below_drew1 | refine below_set ?_ GE102.out) | exact HB.out)) hb);have n2_ := Aside0.mk (hbox);have n3_ := Aside0.mk ((by rw [hg];exact (below_size (by repeat (first | (with_reducible first | exact HB.out | apply below_alloc | apply pw_below_drewN | apply below_drew1 | refine below_set ?_ GE102.out) | exact HB.out))) : w.heap.size ≤ gb104));have n4_ := Aside0.mk ((by rw [hg];exact (below_size (by repeat (first | (with_reducible first | exact HB.out | apply below_alloc | apply pw_below_drewN | apply below_drew1 | refine below_set ?_ GE102.out) | exact HB.out))) : w.heap.size ≤ gb104));have n5_ := Aside0.mk ((by rw [hg];exact Nat.ne_of_lt (blk_lt (g := gb102) (o := .cells #[.int .i64 ((rd_T106 l0 x17_1).f0), .int .i64 ((rd_T106 l0 x17_1).f1), .slice A101_2 ((rd_T106 l0 x17_1).f2).length c101_2] 106 (0, 0)) (by (with_reducible repeat (first | refine blk_drewN ?_ _ | refine blk_drew ?_ | refine blk_alloc ?_ _));refine blk_put (cs := #[.int .i64 ((rd_T106 l0 x17_1).f0), .int .i64 ((rd_T106 l0 x17_1).f1), .slice none 0 0]) ?_ 2 _ rfl;(with_reducible repeat (first | refine blk_drewN ?_ _ | refine blk_drew ?_ | refine blk_alloc ?_ _));refine blk_put (cs := #[.int .i64 ((rd_T106 l0 x17_1).f0), .int .i64 0, .slice none 0 0]) ?_ 1 _ rfl;(with_reducible repeat (first | refine blk_drewN ?_ _ | refine blk_drew ?_ | refine blk_alloc ?_ _));refine blk_put (cs := #[.int .i64 0, .int .i64 0, .slice none 0 0]) ?_ 0 _ rfl;(with_reducible repeat (first | refine blk_drewN ?_ _ | refine blk_drew ?_ | refine blk_alloc ?_ _));exact BK102.out)) : gb102 ≠ gb104));have n6_ := Aside0.mk ((by rw [hg];exact Nat.ne_of_gt (blk_lt (g := gb102) (o := .cells #[.int .i64 ((rd_T106 l0 x17_1).f0), .int .i64 ((rd_T106 l0 x17_1).f1), .slice A101_2 ((rd_T106 l0 x17_1).f2).length c101_2] 106 (0, 0)) (by (with_reducible repeat (first | refine blk_drewN ?_ _ | refine blk_drew ?_ | refine blk_alloc ?_ _));refine blk_put (cs := #[.int .i64 ((rd_T106 l0 x17_1).f0), .int .i64 ((rd_T106 l0 x17_1).f1), .slice none 0 0]) ?_ 2 _ rfl;(with_reducible repeat (first | refine blk_drewN ?_ _ | refine blk_drew ?_ | refine blk_alloc ?_ _));refine blk_put (cs := #[.int .i64 ((rd_T106 l0 x17_1).f0), .int .i64 0, .slice none 0 0]) ?_ 1 _ rfl;(with_reducible repeat (first | refine blk_drewN ?_ _ | refine blk_drew ?_ | refine blk_alloc ?_ _));refine blk_put (cs := #[.int .i64 0, .int .i64 0, .slice none 0 0]) ?_ 0 _ rfl;(with_reducible repeat (first | refine blk_drewN ?_ _ | refine blk_drew ?_ | refine blk_alloc ?_ _));exact BK102.out)) : gb104 ≠ gb102));clear BK102;clear HB;have BK102 := n0_;have HB := n1_;have BK104 := n2_;have GW104 := n3_;have GE104 := n4_;have NB102_104 := n5_;have NB104_102 := n6_;clear n0_ n1_ n2_ n3_ n4_ n5_ n6_;clear hb hbox hg;have hnb21 := NB104_102.out;have hnc21 := NB102_104.out;obtain ⟨hcz22_0, hcz22_1, hcz22_2, hfz22_0, hfz22_1, hfz22_2⟩ := bx3 BK104.out;obtain ⟨hcz23_0, hcz23_1, hcz23_2, hfz23_0, hfz23_1, hfz23_2⟩ := bx3 BK102.out) | (go_at_call 128;(with_reducible refine (impl_OccsSame_1.calls k1 ((rd_T106 l0 x17_1).f0) ((rd_T106 l0 x17_1).f1) _ _ ((rd_T106 l0 x17_1).f2) ((rd_T106 l1 x17_1).f0) ((rd_T106 l1 x17_1).f1) _ _ ((rd_T106 l1 x17_1).f2) false _ ?side1 ?side2 ?side3 ?side4 A9.out).mono ?_);(case side1 => exact Kd.C_below HR101_2.out (by repeat (first | (with_reducible first | exact HB.out | apply below_alloc | apply pw_below_drewN | apply below_drew1 | refine below_set ?_ GE102.out | refine below_set ?_ GE104.out) | exact HB.out)));(case side2 => exact HC101_2.out);(case side3 => exact Kd.C_below HR103_2.out (by repeat (first | (with_reducible first | exact HB.out | apply below_alloc | apply pw_below_drewN | apply below_drew1 | refine below_set ?_ GE102.out | refine below_set ?_ GE104.out) | exact HB.out)));(case side4 => exact HC103_2.out);rintro e w24 ⟨rfl, hb⟩;have n0_ := Aside0.mk (blk_below (g := gb102) (o := .cells #[.int .i64 ((rd_T106 l0 x17_1).f0), .int .i64 ((rd_T106 l0 x17_1).f1), .slice A101_2 ((rd_T106 l0 x17_1).f2).length c101_2] 106 (0, 0)) (by (with_reducible repeat (first | refine blk_drewN ?_ _ | refine blk_drew ?_ | refine blk_alloc ?_ _));refine blk_far ?_ NB102_104.out _;(with_reducible repeat (first | refine blk_drewN ?_ _ | refine blk_drew ?_ | refine blk_alloc ?_ _));refine blk_far ?_ NB102_104.out _;(with_reducible repeat (first | refine blk_drewN ?_ _ | refine blk_drew ?_ | refine blk_alloc ?_ _));refine blk_far ?_ NB102_104.out _;(with_reducible repeat (first | refine blk_drewN ?_ _ | refine blk_drew ?_ | refine blk_alloc ?_ _));exact BK102.out) hb);have n1_ := Aside0.mk (blk_below (g := gb104) (o := .cells #[.int .i64 ((rd_T106 l1 x17_1).f0), .int .i64 ((rd_T106 l1 x17_1).f1), .slice A103_2 ((rd_T106 l1 x17_1).f2).length c103_2] 106 (0, 0)) (by (with_reducible repeat (first | refine blk_drewN ?_ _ | refine blk_drew ?_ | refine blk_alloc ?_ _));refine blk_put (cs := #[.int .i64 ((rd_T106 l1 x17_1).f0), .int .i64 ((rd_T106 l1 x17_1).f1), .slice none 0 0]) ?_ 2 _ rfl;(with_reducible repeat (first | refine blk_drewN ?_ _ | refine blk_drew ?_ | refine blk_alloc ?_ _));refine blk_put (cs := #[.int .i64 ((rd_T106 l1 x17_1).f0), .int .i64 0, .slice none 0 0]) ?_ 1 _ rfl;(with_reducible repeat (first | refine blk_drewN ?_ _ | refine blk_drew ?_ | refine blk_alloc ?_ _));refine blk_put (cs := #[.int .i64 0, .int .i64 0, .slice none 0 0]) ?_ 0 _ rfl;(with_reducible repeat (first | refine blk_drewN ?_ _ | refine blk_drew ?_ | refine blk_alloc ?_ _));exact BK104.out) hb);have n2_ := Aside0.mk (below_step (by repeat (first | (with_reducible first | exact HB.out | apply below_alloc | apply pw_below_drewN | apply below_drew1 | refine below_set ?_ GE102.out | refine below_set ?_ GE104.out) | exact HB.out)) hb);clear BK102;clear BK104;clear HB;have BK102 := n0_;have BK104 := n1_;have HB := n2_;clear n0_ n1_ n2_;(try clear hb);(try clear hb2);(try clear hk);(try clear hi)))
         go_ret
         exact ⟨by first | rfl | (simp [errW_none, errW_some] <;> rfl) | (simp [*, errW_none, errW_some] <;> rfl), by repeat (first | (with_reducible first | exact HB.out | apply below_alloc | apply pw_below_drewN | apply below_drew1 | refine below_set ?_ GE102.out | refine below_set ?_ GE104.out) | exact HB.out)⟩
       ·rw [if_neg c8] at H
        exact absurd H (by simp)
      ·rw [if_neg c7] at H
       exact absurd H (by simp)
     ·rw [if_neg c6] at H
      exact absurd H (by simp)
    ·rw [if_neg c5] at H
     have c5b0 : decide (x17_1 < (l0.length : Int)) = false := decide_eq_false c5
     clear c5
     obtain rfl := Option.some.inj H
     go_wp2
     go_ret
     exact ⟨by first | rfl | (simp [errW_none, errW_some] <;> rfl) | (simp [*, errW_none, errW_some] <;> rfl), by repeat (first | (with_reducible first | exact HB.out | apply below_alloc | apply pw_below_drewN | apply below_drew1) | exact HB.out)⟩
 ·rw [if_neg c4] at H
  have c4b0 : ((l0.length : Int) == (l1.length : Int)) = false := beq_eq_false_iff_ne.mpr c4
  have c4b1 : ((l0.length : Int) != (l1.length : Int)) = true := bne_iff_ne.mpr c4
  have c4b2 : (l0.length == l1.length) = false := by first | simpa using c4 | (simp at c4 ⊢;omega)
  obtain rfl := Option.some.inj H
  go_enter Try.func127, Try.ntmps127
  go_wp2
  go_ret
  exact ⟨by first | rfl | (simp [errW_none, errW_some] <;> rfl) | (simp [*, errW_none, errW_some] <;> rfl), by repeat (first | (with_reducible first | exact HB.out | apply below_alloc | apply pw_below_drewN | apply below_drew1) | exact HB.out)⟩

end Go.Proofs.Ytdljhokealbnnaa.M
namespace Go.Proofs.Ytdljhokealbnnaa.M
open Go.RowKit Go.Proofs.YtdljhokealbnnaaW.PrintWords Go.Proofs.YtdljhokealbnnaaW.PrintLast Go.Proofs.YtdljhokealbnnaaW.PrintMore
attribute [local go_sem] max2_int min2_int max_two min_two max_three min_three max_four min_four
set_option linter.unusedVariables false
set_option linter.unusedSimpArgs false

def impl_OccsSame.f (k : Nat) (l0 : List (S106)) (l1 : List (S106)) : Option (Bool) := (impl_Occ.f k l0 l1).bind fun t101 => (some t101)
theorem impl_OccsSame.mono : ∀ a0 a1 k, LeO (impl_OccsSame.f k a0 a1) (impl_OccsSame.f (k + 1) a0 a1) := by
 intro a0 a1 k
 unfold impl_OccsSame.f
 repeat' first
   | (with_reducible exact impl_Occ.mono _ _ _)
   | (with_reducible exact LeO.refl _)
   | (with_reducible exact LeO.none _)
   | (with_reducible refine LeO.ite ?_ ?_)
   | (with_reducible refine LeO.bind ?_ (fun _ => ?_))
   | exact impl_Occ.mono _ _ _
   | exact LeO.none _
   | refine LeO.ite ?_ ?_
   | refine LeO.bind ?_ (fun _ => ?_)
set_option maxHeartbeats 8000000 in
set_option maxRecDepth 100000 in
theorem impl_OccsSame.calls (k : Nat) (A0 : Option Addr) (c0 : Nat) (l0 : List (S106)) (A1 : Option Addr) (c1 : Nat) (l1 : List (S106)) (r : Bool) (w : World) (hr0 : Kd.C k106 w A0 l0.length l0) (hc0 : l0.length ≤ c0) (hr1 : Kd.C k106 w A1 l1.length l1) (hc1 : l1.length ≤ c1) (h : impl_OccsSame.f k l0 l1 = some r) :
  Calls Try.prog 86 #[.slice A0 l0.length c0, .slice A1 l1.length c1] w fun e w' => e = .returned (.bool r) ∧ Below w.heap.size w w' := by
 have HR0 := Aside0.mk hr0
 have HC0 := Aside0.mk hc0
 clear hr0 hc0
 have HR1 := Aside0.mk hr1
 have HC1 := Aside0.mk hc1
 clear hr1 hc1
 have HB := Aside0.mk (Below.refl w.heap.size w)
 have H : ((impl_Occ.f k l0 l1).bind fun t101 => (some t101)) = some r := h
 clear h
 replace H := Option.bind_eq_some_iff.mp H
 obtain ⟨t101, A30, H⟩ := H
 replace H : (some t101) = some r := H
 have A3 := Aside0.mk A30
 clear A30
 obtain rfl := Option.some.inj H
 go_enter Try.func86, Try.ntmps86
 go_wp2_with (first | ((with_reducible refine gate_callee (f := 127) rfl ?_);refine goesL_ (some 7) rfl rfl Try.func127 (by kernel_rfl) rfl #[.slice A0 l0.length c0, .slice A1 l1.length c1, .func (.func 128) #[] #[]] rfl (by (try simp only [List.map_toArray, List.map_cons, List.map_nil]);first | done | rfl | (simp only [List.length_drop, List.length_take];rfl)) ?_;(with_reducible refine (impl_Occ.calls k _ _ l0 _ _ l1  t101 _ ?side1 ?side2 ?side3 ?side4 A3.out).mono ?_);(case side1 => repeat (first | exact HR0.out | (with_reducible refine Kd.C_alloc ?_ _) | (with_reducible refine Kd.C_drewN ?_ _) | (with_reducible refine Kd.C_drew ?_)));(case side2 => exact HC0.out);(case side3 => repeat (first | exact HR1.out | (with_reducible refine Kd.C_alloc ?_ _) | (with_reducible refine Kd.C_drewN ?_ _) | (with_reducible refine Kd.C_drew ?_)));(case side4 => exact HC1.out);rintro e w4 ⟨rfl, hb⟩;refine ⟨_, rfl, ?_⟩;replace HB := Aside0.mk (below_step (by exact HB.out) hb);(try clear hb);(try clear hb2);(try clear hk);(try clear hi)))
 go_ret
 exact ⟨by first | rfl | (simp [errW_none, errW_some] <;> rfl) | (simp [*, errW_none, errW_some] <;> rfl), by repeat (first | (with_reducible first | exact HB.out | apply below_alloc | apply pw_below_drewN | apply below_drew1) | exact HB.out)⟩

end Go.Proofs.Ytdljhokealbnnaa.M
namespace Go.Proofs.Ytdljhokealbnnaa.M
set_option linter.unusedVariables false
set_option linter.unusedSimpArgs false
open Go.RowKit Go.Proofs.YtdljhokealbnnaaW.PrintWords Go.Proofs.YtdljhokealbnnaaW.PrintLast

def cmpI : List Int → List Int → Int
  | [], [] => 0
  | [], _ :: _ => -1
  | _ :: _, [] => 1
  | a :: xs, b :: ys => if a < b then -1 else if a > b then 1 else cmpI xs ys
def sgn (b : Bool) : Int := if b then -1 else 1
def cmpO (a b : S106) : Int := if a.f1 = b.f1 then (if a.f0 = b.f0 then cmpI a.f2 b.f2 else sgn (decide (a.f0 < b.f0))) else sgn (decide (a.f1 < b.f1))
theorem l3Ids_l0_ev (a b : List Int) (ha : a.length ≤ 9223372036854775806) (hb : b.length ≤ 9223372036854775806) : ∀ d n : Nat, n + d = a.length → n ≤ b.length → Ev (fun k => spec_l3Ids.l0 k a b (n : Int)) (cmpI (a.drop n) (b.drop n)) := by
  intro d
  have ends : ∀ (n : Nat), n ≤ a.length → n ≤ b.length → (n = a.length ∨ n = b.length) → Ev (fun k => spec_l3Ids.j1 k a b (n : Int) false) (cmpI (a.drop n) (b.drop n)) := by
    intro n h1 h2 h3
    refine Ev.last (fun k => ?_)
    simp only [spec_l3Ids.j1]
    rw [if_neg (by decide)]
    rcases Nat.lt_or_ge n a.length with ha' | ha'
    · have hbn : n = b.length := by omega
      rw [if_neg (by omega), if_pos (by omega), List.drop_eq_getElem_cons ha', List.drop_of_length_le (show b.length ≤ n by omega)]
      rfl
    · rw [List.drop_of_length_le ha']
      rcases Nat.lt_or_ge n b.length with hb' | hb'
      · rw [if_pos (by omega), List.drop_eq_getElem_cons hb']
        rfl
      · rw [if_neg (by omega), if_neg (by omega), List.drop_of_length_le hb']
        rfl
  induction d with
  | zero =>
    intro n hn hb'
    refine Ev.step (fun k => by simp only [spec_l3Ids.l0]; rw [if_neg (by omega)]) ?_
    exact ends n (by omega) hb' (by omega)
  | succ d ih =>
    intro n hn hb'
    refine Ev.step (fun k => by simp only [spec_l3Ids.l0]; rw [if_pos (by omega)]) ?_
    rcases Nat.lt_or_ge n b.length with hlt | hge
    · rw [decide_eq_true (show (n : Int) < (b.length : Int) by omega)]
      refine Ev.step (fun k => by simp only [spec_l3Ids.j1]; rw [if_pos trivial, if_pos (by omega), if_pos (by omega), if_pos (by omega), w_succ (by omega)]) ?_
      rw [drop_at a 0 n (by omega), drop_at b 0 n (by omega)]
      have next := ih (n + 1) (by omega) (by omega)
      have ra : rd a (n : Int) = a.getD n 0 := rfl
      have rb : rd b (n : Int) = b.getD n 0 := rfl
      rw [ra, rb]
      generalize a.getD n 0 = x at *
      generalize b.getD n 0 = y at *
      unfold cmpI
      by_cases h1 : x < y
      · rw [if_pos h1]
        exact Ev.pos h1 (Ev.now _)
      · rw [if_neg h1]
        refine Ev.neg h1 ?_
        by_cases h2 : x > y
        · rw [if_pos h2]
          exact Ev.pos h2 (Ev.now _)
        · rw [if_neg h2]
          exact Ev.neg h2 next
    · rw [decide_eq_false (show ¬ (n : Int) < (b.length : Int) by omega)]
      exact ends n (by omega) hb' (by omega)
theorem l3Ids_ev (a b : List Int) (ha : a.length ≤ 9223372036854775806) (hb : b.length ≤ 9223372036854775806) : Ev (fun k => spec_l3Ids.f k a b) (cmpI a b) := by
  unfold spec_l3Ids.f
  exact l3Ids_l0_ev a b ha hb a.length 0 (by omega) (by omega)

theorem cmp_Compare_is (a b : Int) : cmp_Compare_int.f a b = some (if a < b then -1 else if a > b then 1 else 0) := by
  unfold cmp_Compare_int.f cmp_isNaN_int.f
  simp only [Option.bind_some, bne_self_eq_false]
  rw [if_neg (by decide), if_neg (by decide)]
  by_cases h : a < b
  · rw [if_pos h, if_pos h]
  · rw [if_neg h, if_neg h]
    by_cases h2 : a > b
    · rw [if_pos h2, if_pos h2]
    · rw [if_neg h2, if_neg h2]
theorem impl_Compare_l0_ev (a b : List Int) (ha : a.length ≤ 9223372036854775806) (hb : b.length ≤ 9223372036854775806) : ∀ d n : Nat, n + d = a.length → n ≤ b.length → Ev (fun k => slices_Compare_int_int.l0 k a b a (a.length : Int) (n : Int)) (cmpI (a.drop n) (b.drop n)) := by
  intro d
  induction d with
  | zero =>
    intro n hn hb'
    refine Ev.last (fun k => ?_)
    simp only [slices_Compare_int_int.l0]
    rw [if_neg (by omega), List.drop_of_length_le (show a.length ≤ n by omega)]
    rcases Nat.lt_or_ge n b.length with hlt | hge
    · rw [if_pos (by omega), List.drop_eq_getElem_cons hlt]
      rfl
    · rw [if_neg (by omega), List.drop_of_length_le hge]
      rfl
  | succ d ih =>
    intro n hn hb'
    have ra : rd a (n : Int) = a.getD n 0 := rfl
    have rb : rd b (n : Int) = b.getD n 0 := rfl
    refine Ev.step (fun k => by simp only [slices_Compare_int_int.l0]; rw [if_pos (by omega), if_pos (by omega), if_pos (by omega), w_succ (by omega), ra, rb, cmp_Compare_is]) ?_
    rcases Nat.lt_or_ge n b.length with hlt | hge
    · refine Ev.neg (by omega) (Ev.pos (by omega) ?_)
      rw [drop_at a 0 n (by omega), drop_at b 0 n (by omega)]
      have next := ih (n + 1) (by omega) (by omega)
      generalize a.getD n 0 = x at *
      generalize b.getD n 0 = y at *
      refine Ev.bind (Ev.now _) ?_
      unfold cmpI
      by_cases h1 : x < y
      · rw [if_pos h1, if_pos h1]
        exact Ev.neg (by decide) (Ev.now _)
      · rw [if_neg h1, if_neg h1]
        by_cases h2 : x > y
        · rw [if_pos h2, if_pos h2]
          exact Ev.neg (by decide) (Ev.now _)
        · rw [if_neg h2, if_neg h2]
          exact Ev.pos rfl next
    · refine Ev.pos (by omega) ?_
      rw [drop_at a 0 n (by omega), List.drop_of_length_le hge]
      exact Ev.now _
theorem impl_compare_ev (a b : S106) (ha : a.f2.length ≤ 9223372036854775806) (hb : b.f2.length ≤ 9223372036854775806) : Ev (fun k => impl_compare.f k a.f0 a.f1 a.f2 b.f0 b.f1 b.f2) (cmpO a b) := by
  unfold impl_compare.f cmpO impl_sign.f
  by_cases h1 : a.f1 = b.f1
  · rw [if_pos h1]
    refine Ev.pos h1 ?_
    by_cases h2 : a.f0 = b.f0
    · rw [if_pos h2]
      exact Ev.pos h2 (Ev.bindS (impl_Compare_l0_ev a.f2 b.f2 ha hb a.f2.length 0 (by omega) (by omega)) rfl)
    · rw [if_neg h2]
      refine Ev.neg h2 (Ev.one (fun _ => ?_))
      by_cases h3 : a.f0 < b.f0 <;> simp [h3, sgn]
  · rw [if_neg h1]
    refine Ev.neg h1 (Ev.one (fun _ => ?_))
    by_cases h3 : a.f1 < b.f1 <;> simp [h3, sgn]
def Short (l : List S106) : Prop := ∀ x ∈ l, x.f2.length ≤ 9223372036854775806
theorem Short.at_ {l : List S106} (h : Short l) (n : Nat) : (l.getD n z106).f2.length ≤ 9223372036854775806 := by
  rw [List.getD_eq_getElem?_getD]
  rcases Nat.lt_or_ge n l.length with hn | hn
  · rw [List.getElem?_eq_getElem hn]
    exact h _ (List.getElem_mem hn)
  · rw [List.getElem?_eq_none hn]
    show (z106).f2.length ≤ _
    simp [z106]

def cvO (x : S173) : S106 := ⟨x.f0, x.f1, x.f2⟩
def szO : List S173 → Nat
  | [] => 0
  | x :: xs => x.f2.length + szO xs
theorem szIntS_is (l : List Int) (a : Int) (h0 : 0 ≤ a) (h1 : a ≤ 1048576) (hl : l.length ≤ 9223372036854775807) : laws_szIntS.f l a = some (leftOf a l.length) := szIntS_ok l a h0 h1 hl
theorem szOcc_is (x : S173) (a : Int) (h0 : 0 ≤ a) (h1 : a ≤ 1048576) (hl : x.f2.length ≤ 9223372036854775807) : laws_szOcc.f x.f0 x.f1 x.f2 a = some (leftOf a x.f2.length) := by
  unfold laws_szOcc.f
  rw [szIntS_is _ _ h0 h1 hl, Option.bind_some]
  by_cases h : (x.f2.length : Int) ≤ a
  · rw [leftOf_pos h, if_neg (by omega)]
  · rw [leftOf_neg h, if_pos (by omega)]

def ShortL (l : List S173) : Prop := ∀ x ∈ l, x.f2.length ≤ 9223372036854775807
theorem ShortL.at_ {l : List S173} (h : ShortL l) (n : Nat) : (l.getD n z173).f2.length ≤ 9223372036854775807 := by
  rw [List.getD_eq_getElem?_getD]
  rcases Nat.lt_or_ge n l.length with hn | hn
  · rw [List.getElem?_eq_getElem hn]
    exact h _ (List.getElem_mem hn)
  · rw [List.getElem?_eq_none hn]
    show (z173).f2.length ≤ _
    simp [z173]
theorem szOccS_l0_ev (l : List S173) (hl : l.length ≤ 9223372036854775807) (hs : ShortL l) : ∀ (d n : Nat) (a : Int), n + d = l.length → 0 ≤ a → a ≤ 1048576 → Ev (fun k => laws_szOccS.l0 k l a (n : Int)) (leftOf a (szO (l.drop n))) := by
  intro d
  induction d with
  | zero =>
    intro n a hn h0 h1
    rw [List.drop_of_length_le (by omega), leftOf_pos (show ((szO [] : Nat) : Int) ≤ a from h0)]
    exact Ev.last (fun k => by simp only [laws_szOccS.l0]; rw [if_neg (by omega)]; simp [szO])
  | succ d ih =>
    intro n a hn h0 h1
    have hr : rd_T173 l (n : Int) = l.getD n z173 := rfl
    have hx := hs.at_ n
    rw [drop_at l z173 n (by omega)]
    refine Ev.step (fun k => by simp only [laws_szOccS.l0]; rw [if_pos (by omega), if_pos (by omega), hr, w_succ (by omega)]) ?_
    generalize l.getD n z173 = x at *
    refine Ev.bind (Ev.one (fun _ => szOcc_is x a h0 h1 hx)) ?_
    rw [szO]
    by_cases h : (x.f2.length : Int) ≤ a
    · rw [leftOf_pos h]
      refine Ev.neg (by omega) (Ev.val (ih (n + 1) (a - x.f2.length) (by omega) (by omega) (by omega)) ?_)
      unfold leftOf
      by_cases h2 : ((szO (l.drop (n + 1)) : Nat) : Int) ≤ a - x.f2.length
      · rw [if_pos h2, if_pos (by omega)]
        omega
      · rw [if_neg h2, if_neg (by omega)]
    · rw [leftOf_neg h, leftOf_neg (by omega)]
      exact Ev.pos (by omega) (Ev.now _)
def allO (l : List S173) : Nat := l.length + szO l
theorem szOccS_ev (l : List S173) (hl : l.length ≤ 9223372036854775807) (hs : ShortL l) (a : Int) (h0 : 0 ≤ a) (h1 : a ≤ 1048576) : Ev (fun k => laws_szOccS.f k l a) (leftOf a (allO l)) := by
  unfold laws_szOccS.f allO
  rw [w_small (by omega) (by omega)]
  by_cases h : (l.length : Int) ≤ a
  · refine Ev.neg (by omega) (Ev.val (szOccS_l0_ev l hl hs l.length 0 (a - l.length) (by omega) (by omega) (by omega)) ?_)
    rw [List.drop_zero]
    unfold leftOf
    by_cases h2 : ((szO l : Nat) : Int) ≤ a - l.length
    · rw [if_pos h2, if_pos (by omega)]
      omega
    · rw [if_neg h2, if_neg (by omega)]
  · rw [leftOf_neg (by omega)]
    exact Ev.pos (by omega) (Ev.now _)
theorem szO_mem : ∀ (l : List S173) (x : S173), x ∈ l → x.f2.length ≤ szO l
  | [], _, h => by simp at h
  | y :: ys, x, h => by
    rw [szO]
    rcases List.mem_cons.1 h with rfl | h
    · omega
    · have := szO_mem ys x h
      omega
def FewO (l : List S173) : Prop := allO l ≤ 1048576
theorem FewO.len {l : List S173} (h : FewO l) : l.length ≤ 1048576 := by unfold FewO allO at h; omega
theorem FewO.ids {l : List S173} (h : FewO l) (x : S173) (hx : x ∈ l) : x.f2.length ≤ 1048576 := by
  have := szO_mem l x hx
  unfold FewO allO at h
  omega

theorem toOcc_ev (x : S173) (hl : x.f2.length ≤ 1048576) : Ev (fun k => laws_toOcc.f k x.f0 x.f1 x.f2) (x.f0, x.f1, x.f2) := by
  unfold laws_toOcc.f
  exact Ev.bindS (toIntS_ev x.f2 hl) rfl
theorem toOccS_l0_ev (l : List S173) (hl : FewO l) : ∀ (d n : Nat) (a : List S106), n + d = l.length → a.length = l.length → Ev (fun k => laws_toOccS.l0 k l a (n : Int)) (a.take n ++ (l.drop n).map cvO) := by
  have hlen := hl.len
  intro d
  induction d with
  | zero =>
    intro n a hn ha
    rw [List.drop_of_length_le (by omega), List.take_of_length_le (by omega), List.map_nil, List.append_nil]
    exact Ev.last (fun k => by simp only [laws_toOccS.l0]; rw [if_neg (by omega)])
  | succ d ih =>
    intro n a hn ha
    have hlt : n < l.length := by omega
    have hr : rd_T173 l (n : Int) = l.getD n z173 := rfl
    have hx : (l.getD n z173).f2.length ≤ 1048576 := by
      refine hl.ids _ ?_
      rw [List.getD_eq_getElem?_getD, List.getElem?_eq_getElem hlt]
      exact List.getElem_mem hlt
    rw [drop_at l z173 n hlt]
    have next := ih (n + 1) (a.set n (cvO (l.getD n z173))) (by omega) (by rw [List.length_set]; exact ha)
    rw [take_set a n _ (by omega), List.append_assoc] at next
    refine Ev.step (fun k => by simp only [laws_toOccS.l0]; rw [if_pos (by omega), if_pos (by omega), w_succ (by omega), hr, Int.toNat_natCast]) ?_
    refine Ev.bind (toOcc_ev _ hx) (Ev.pos (by omega) ?_)
    rw [List.map_cons]
    exact next
theorem toOccS_ev (l : List S173) (hl : FewO l) : Ev (fun k => laws_toOccS.f k l) (l.map cvO) := by
  have hlen := hl.len
  unfold laws_toOccS.f
  refine Ev.pos (by omega) (Ev.pos (by omega) ?_)
  have := toOccS_l0_ev l hl l.length 0 (List.replicate l.length z106) (by omega) (by simp)
  rw [Int.toNat_natCast]
  exact this
theorem short_map (l : List S173) (hl : FewO l) : Short (l.map cvO) := by
  intro x hx
  obtain ⟨y, hy, rfl⟩ := List.mem_map.1 hx
  have := hl.ids y hy
  show y.f2.length ≤ _
  omega

theorem eqOcc_ev (o : S106) (hl : o.f2.length ≤ 9223372036854775806) : Ev (fun k => laws_eqOcc.f k o.f0 o.f1 o.f2 o.f0 o.f1 o.f2) true := by
  unfold laws_eqOcc.f
  exact Ev.pos rfl (Ev.pos rfl (Ev.bindS (eqIntS_ev o.f2 (by omega)) rfl))
theorem eqOccS_l0_ev (l : List S106) (hl : l.length ≤ 9223372036854775806) (hs : Short l) : ∀ d n : Nat, n + d = l.length → Ev (fun k => laws_eqOccS.l0 k l l (n : Int)) true := by
  intro d
  induction d with
  | zero =>
    intro n hn
    exact Ev.last (fun k => by simp only [laws_eqOccS.l0]; rw [if_neg (by omega)])
  | succ d ih =>
    intro n hn
    have hr : rd_T106 l (n : Int) = l.getD n z106 := rfl
    refine Ev.step (fun k => by simp only [laws_eqOccS.l0]; rw [if_pos (by omega), if_pos (by omega), if_pos (by omega), hr, w_succ (by omega)]) ?_
    exact Ev.bind (eqOcc_ev _ (hs.at_ n)) (Ev.pos rfl (ih (n + 1) (by omega)))
theorem eqOccS_ev (l : List S106) (hl : l.length ≤ 9223372036854775806) (hs : Short l) : Ev (fun k => laws_eqOccS.f k l l) true := by
  unfold laws_eqOccS.f
  exact Ev.pos rfl (eqOccS_l0_ev l hl hs l.length 0 (by omega))

theorem cmpI_eq : ∀ a b : List Int, cmpI a b = 0 ↔ a = b
  | [], [] => by simp [cmpI]
  | [], _ :: _ => by simp [cmpI]
  | _ :: _, [] => by simp [cmpI]
  | a :: xs, b :: ys => by
    unfold cmpI
    by_cases h1 : a < b
    · rw [if_pos h1]
      constructor
      · intro h; exact absurd h (by decide)
      · intro h; injection h with h _; omega
    · rw [if_neg h1]
      by_cases h2 : a > b
      · rw [if_pos h2]
        constructor
        · intro h; exact absurd h (by decide)
        · intro h; injection h with h _; omega
      · rw [if_neg h2, cmpI_eq xs ys]
        have : a = b := by omega
        subst this
        simp
theorem sgn_ne (b : Bool) : sgn b ≠ 0 := by cases b <;> decide
theorem cmpO_eq (a b : S106) : cmpO a b = 0 ↔ a = b := by
  obtain ⟨a0, a1, a2⟩ := a
  obtain ⟨b0, b1, b2⟩ := b
  unfold cmpO
  dsimp only
  by_cases h1 : a1 = b1
  · rw [if_pos h1]
    by_cases h0 : a0 = b0
    · rw [if_pos h0, cmpI_eq]
      subst h1
      subst h0
      simp
    · rw [if_neg h0]
      constructor
      · intro h; exact absurd h (sgn_ne _)
      · intro h; injection h with h _ _; exact absurd h h0
  · rw [if_neg h1]
    constructor
    · intro h; exact absurd h (sgn_ne _)
    · intro h; injection h with _ h _; exact absurd h h1
def occsEq : List S106 → List S106 → Bool
  | [], [] => true
  | x :: xs, y :: ys => (cmpO x y == 0) && occsEq xs ys
  | _, _ => false
theorem occsEq_iff : ∀ a b : List S106, occsEq a b = true ↔ a = b
  | [], [] => by simp [occsEq]
  | [], _ :: _ => by simp [occsEq]
  | _ :: _, [] => by simp [occsEq]
  | x :: xs, y :: ys => by
    unfold occsEq
    rw [Bool.and_eq_true, occsEq_iff xs ys, beq_iff_eq, cmpO_eq]
    simp
theorem occsEq_self (a : List S106) : occsEq a a = true := (occsEq_iff a a).2 rfl
theorem occsEq_len (a b : List S106) (h : a.length ≠ b.length) : occsEq a b = false := by
  rw [Bool.eq_false_iff]
  intro e
  exact h (by rw [(occsEq_iff a b).1 e])

theorem l3Same_ev (a b : S106) (ha : a.f2.length ≤ 9223372036854775806) (hb : b.f2.length ≤ 9223372036854775806) : Ev (fun k => spec_l3Same.f k a.f0 a.f1 a.f2 b.f0 b.f1 b.f2) (cmpO a b == 0) := by
  have no : a ≠ b → (cmpO a b == 0) = false := fun h => beq_eq_false_iff_ne.2 (fun e => h ((cmpO_eq a b).1 e))
  unfold spec_l3Same.f
  by_cases h0 : a.f0 = b.f0
  · refine Ev.pos h0 ?_
    by_cases h1 : a.f1 = b.f1
    · refine Ev.pos h1 ?_
      by_cases h2 : (a.f2.length : Int) = (b.f2.length : Int)
      · refine Ev.pos h2 (Ev.bindS (l3Ids_ev _ _ ha hb) ?_)
        unfold cmpO
        rw [if_pos h1, if_pos h0]
      · rw [no (fun e => h2 (by rw [e]))]
        exact Ev.neg h2 (Ev.now _)
    · rw [no (fun e => h1 (by rw [e]))]
      exact Ev.neg h1 (Ev.now _)
  · rw [no (fun e => h0 (by rw [e]))]
    exact Ev.neg h0 (Ev.now _)
theorem spec_OccsSame_l0_ev (a b : List S106) (hl : a.length ≤ 9223372036854775806) (ha : Short a) (hb : Short b) (hab : a.length = b.length) : ∀ d n : Nat, n + d = a.length → Ev (fun k => spec_OccsSame.l0 k a b (n : Int)) (occsEq (a.drop n) (b.drop n)) := by
  intro d
  induction d with
  | zero =>
    intro n hn
    rw [List.drop_of_length_le (by omega), List.drop_of_length_le (by omega)]
    exact Ev.last (fun k => by simp only [spec_OccsSame.l0]; rw [if_neg (by omega)]; rfl)
  | succ d ih =>
    intro n hn
    have hra : rd_T106 a (n : Int) = a.getD n z106 := rfl
    have hrb : rd_T106 b (n : Int) = b.getD n z106 := rfl
    have hx := ha.at_ n
    have hy := hb.at_ n
    rw [drop_at a z106 n (by omega), drop_at b z106 n (by omega)]
    have next := ih (n + 1) (by omega)
    refine Ev.step (fun k => by simp only [spec_OccsSame.l0]; rw [if_pos (by omega), if_pos (by omega), if_pos (by omega), hra, hrb, w_succ (by omega)]) ?_
    generalize a.getD n z106 = x at *
    generalize b.getD n z106 = y at *
    refine Ev.bind (l3Same_ev x y hx hy) ?_
    unfold occsEq
    by_cases h : (cmpO x y == 0) = true
    · rw [h]
      exact Ev.pos rfl next
    · refine Ev.neg h ?_
      simp only [Bool.not_eq_true] at h
      rw [h]
      exact Ev.now _
theorem spec_OccsSame_ev (a b : List S106) (hl : a.length ≤ 9223372036854775806) (ha : Short a) (hb : Short b) : Ev (fun k => spec_OccsSame.f k a b) (occsEq a b) := by
  unfold spec_OccsSame.f
  by_cases h : a.length = b.length
  · exact Ev.pos (by omega) (spec_OccsSame_l0_ev a b hl ha hb h a.length 0 (by omega))
  · rw [occsEq_len a b h]
    exact Ev.neg (by omega) (Ev.now _)
theorem impl_EqualFunc_l0_ev (a b : List S106) (hl : a.length ≤ 9223372036854775806) (ha : Short a) (hb : Short b) (hab : a.length = b.length) : ∀ d n : Nat, n + d = a.length → Ev (fun k => impl_Occ.l0 k b a (a.length : Int) (n : Int)) (occsEq (a.drop n) (b.drop n)) := by
  intro d
  induction d with
  | zero =>
    intro n hn
    rw [List.drop_of_length_le (by omega), List.drop_of_length_le (by omega)]
    exact Ev.last (fun k => by simp only [impl_Occ.l0]; rw [if_neg (by omega)]; rfl)
  | succ d ih =>
    intro n hn
    have hra : rd_T106 a (n : Int) = a.getD n z106 := rfl
    have hrb : rd_T106 b (n : Int) = b.getD n z106 := rfl
    have hx := ha.at_ n
    have hy := hb.at_ n
    rw [drop_at a z106 n (by omega), drop_at b z106 n (by omega)]
    have next := ih (n + 1) (by omega)
    refine Ev.step (fun k => by simp only [impl_Occ.l0, impl_OccsSame_1.f]; rw [if_pos (by omega), if_pos (by omega), if_pos (by omega), if_pos (by omega), hra, hrb, w_succ (by omega)]) ?_
    generalize a.getD n z106 = x at *
    generalize b.getD n z106 = y at *
    refine Ev.bind (a := cmpO x y == 0) (Ev.bindS (impl_compare_ev x y hx hy) rfl) ?_
    unfold occsEq
    by_cases h : (cmpO x y == 0) = true
    · rw [h]
      exact Ev.pos rfl next
    · refine Ev.neg h ?_
      simp only [Bool.not_eq_true] at h
      rw [h]
      exact Ev.now _
theorem impl_OccsSame_ev (a b : List S106) (hl : a.length ≤ 9223372036854775806) (ha : Short a) (hb : Short b) : Ev (fun k => impl_OccsSame.f k a b) (occsEq a b) := by
  unfold impl_OccsSame.f impl_Occ.f
  refine Ev.bindS (a := occsEq a b) ?_ rfl
  by_cases h : a.length = b.length
  · exact Ev.pos (by omega) (impl_EqualFunc_l0_ev a b hl ha hb h a.length 0 (by omega))
  · rw [occsEq_len a b h]
    exact Ev.neg (by omega) (Ev.now _)
end Go.Proofs.Ytdljhokealbnnaa.M
namespace Go.Proofs.Ytdljhokealbnnaa.M
set_option linter.unusedVariables false
set_option linter.unusedSimpArgs false
open Go.RowKit Go.Proofs.YtdljhokealbnnaaW.PrintWords Go.Proofs.YtdljhokealbnnaaW.PrintLast

theorem good_ids (x : S173) (h : good173 x) : x.f2.length ≤ 9223372036854775807 := maxLen_le h.2.2.1
def goodOs (l : List S173) : Prop := l.length ≤ maxLen ∧ ∀ y ∈ l, good173 y
theorem goodOs.short {l : List S173} (h : goodOs l) : ShortL l := fun x hx => good_ids x (h.2 x hx)
theorem goodOs.sz {l : List S173} (h : goodOs l) (a : Int) (h0 : 0 ≤ a) (h1 : a ≤ 1048576) : Ev (fun k => laws_szOccS.f k l a) (leftOf a (allO l)) := szOccS_ev l (maxLen_le h.1) h.short a h0 h1
theorem few_cv {l : List S173} (h : FewO l) : (l.map cvO).length ≤ 1048576 := by rw [List.length_map]; exact h.len
theorem sz2 {p q : List S173} (h : goodOs p) (g : goodOs q) (a : Int) (h0 : 0 ≤ a) (h1 : a ≤ 1048576) : Ev (fun k => (laws_szOccS.f k p a).bind fun t => (if t < 0 then (some (-1)) else ((laws_szOccS.f k q t).bind fun t => (if t < 0 then (some (-1)) else (some t))))) (leftOf a (allO p + allO q)) :=
  left_two (f := fun t k => (laws_szOccS.f k q t).bind fun t => (if t < 0 then (some (-1)) else (some t))) h0 (h.sz a h0 h1) (fun hm => left_last (by omega) (g.sz _ (by omega) (by omega)))
theorem to2 {p q : List S173} (h : FewO p) (g : FewO q) : Ev (fun k => (laws_toOccS.f k p).bind fun t => ((laws_toOccS.f k q).bind fun u => (some (t, u)))) (p.map cvO, q.map cvO) := Ev.bind (toOccS_ev p h) (Ev.bindS (toOccS_ev q g) rfl)
theorem and2 {f g : Nat → Option Bool} {a b : Bool} (h : Ev f a) (k : Ev g b) : Ev (fun n => (f n).bind fun t => (if t = true then ((g n).bind fun u => (some u)) else (some false))) (a && b) := by
  refine Ev.bind h ?_
  cases a with
  | true => exact Ev.pos rfl (Ev.bindS k (by simp))
  | false => exact Ev.neg (by decide) (Ev.now _)
theorem eq2 {p q : List S173} (h : FewO p) (g : FewO q) : Ev (fun n => (laws_eqOccS.f n (p.map cvO) (p.map cvO)).bind fun t => (if t = true then ((laws_eqOccS.f n (q.map cvO) (q.map cvO)).bind fun t => (if t = true then (some true) else (some false))) else (some false))) true := by
  have k1 := few_cv h
  have k2 := few_cv g
  exact Ev.bind (eqOccS_ev _ (by omega) (short_map p h)) (Ev.pos rfl (Ev.bindS (eqOccS_ev _ (by omega) (short_map q g)) rfl))

def allN (x : S141) : Nat := x.f3.length + ((allO x.f4.f0 + allO x.f4.f1) + ((allO x.f5.f0 + allO x.f5.f1) + allO x.f6))
def cvN (x : S141) : S104 := ⟨x.f0, x.f1, x.f2, x.f3, ⟨x.f4.f0.map cvO, x.f4.f1.map cvO⟩, ⟨x.f5.f0.map cvO, x.f5.f1.map cvO⟩, x.f6.map cvO, x.f7⟩
theorem szNode_ev (x : S141) (h : good141 x) (a : Int) (h0 : 0 ≤ a) (h1 : a ≤ 1048576) : Ev (fun k => laws_szNode.f k x.f0 x.f1 x.f2 x.f3 x.f4.f0 x.f4.f1 x.f5.f0 x.f5.f1 x.f6 x.f7 a) (leftOf a (allN x)) := by
  unfold laws_szNode.f allN
  obtain ⟨_, _, _, h3, h4, h5, h6, _⟩ := h
  refine left_two (f := fun t k => (laws_szPair.f k x.f4.f0 x.f4.f1 t).bind fun t103 => (if t103 < 0 then (some (-1)) else ((laws_szSpan.f k x.f5.f0 x.f5.f1 t103).bind fun t104 => (if t104 < 0 then (some (-1)) else ((laws_szOccS.f k x.f6 t104).bind fun t105 => (if t105 < 0 then (some (-1)) else (some t105))))))) h0 (Ev.one (fun _ => szIntS_is x.f3 a h0 h1 (maxLen_le h3.1))) (fun hm => ?_)
  refine left_two (f := fun t k => (laws_szSpan.f k x.f5.f0 x.f5.f1 t).bind fun t104 => (if t104 < 0 then (some (-1)) else ((laws_szOccS.f k x.f6 t104).bind fun t105 => (if t105 < 0 then (some (-1)) else (some t105))))) (by omega) (sz2 h4.1 h4.2 _ (by omega) (by omega)) (fun hm2 => ?_)
  refine left_two (f := fun t k => (laws_szOccS.f k x.f6 t).bind fun t105 => (if t105 < 0 then (some (-1)) else (some t105))) (by omega) (sz2 h5.1 h5.2 _ (by omega) (by omega)) (fun hm3 => ?_)
  exact left_last (by omega) (goodOs.sz h6 _ (by omega) (by omega))
theorem toNode_ev (x : S141) (h : allN x ≤ 1048576) : Ev (fun k => laws_toNode.f k x.f0 x.f1 x.f2 x.f3 x.f4.f0 x.f4.f1 x.f5.f0 x.f5.f1 x.f6 x.f7) (x.f0, x.f1, x.f2, x.f3, x.f4.f0.map cvO, x.f4.f1.map cvO, x.f5.f0.map cvO, x.f5.f1.map cvO, x.f6.map cvO, x.f7) := by
  unfold allN at h
  have g1 : FewO x.f4.f0 := by unfold FewO; omega
  have g2 : FewO x.f4.f1 := by unfold FewO; omega
  have g3 : FewO x.f5.f0 := by unfold FewO; omega
  have g4 : FewO x.f5.f1 := by unfold FewO; omega
  have g5 : FewO x.f6 := by unfold FewO; omega
  unfold laws_toNode.f
  exact Ev.bind (toIntS_ev x.f3 (by omega)) (Ev.bind (to2 g1 g2) (Ev.bind (to2 g3 g4) (Ev.bindS (toOccS_ev _ g5) rfl)))
theorem eqNode_ev (x : S141) (h : allN x ≤ 1048576) : Ev (fun k => laws_eqNode.f k (cvN x).f0 (cvN x).f1 (cvN x).f2 (cvN x).f3 (cvN x).f4.f0 (cvN x).f4.f1 (cvN x).f5.f0 (cvN x).f5.f1 (cvN x).f6 (cvN x).f7 (cvN x).f0 (cvN x).f1 (cvN x).f2 (cvN x).f3 (cvN x).f4.f0 (cvN x).f4.f1 (cvN x).f5.f0 (cvN x).f5.f1 (cvN x).f6 (cvN x).f7) true := by
  unfold allN at h
  have g1 : FewO x.f4.f0 := by unfold FewO; omega
  have g2 : FewO x.f4.f1 := by unfold FewO; omega
  have g3 : FewO x.f5.f0 := by unfold FewO; omega
  have g4 : FewO x.f5.f1 := by unfold FewO; omega
  have g5 : FewO x.f6 := by unfold FewO; omega
  have k5 := few_cv g5
  unfold laws_eqNode.f
  exact Ev.pos rfl (Ev.pos rfl (Ev.pos rfl (Ev.bind (eqIntS_ev x.f3 (by omega)) (Ev.pos rfl (Ev.bind (eq2 g1 g2) (Ev.pos rfl (Ev.bind (eq2 g3 g4) (Ev.pos rfl (Ev.bind (eqOccS_ev (x.f6.map cvO) (by omega) (short_map _ g5)) (Ev.pos rfl (Ev.pos rfl (Ev.now _))))))))))))

theorem szNodeS_ev (l : List S141) (hl : l.length ≤ maxLen) (hg : ∀ x ∈ l, good141 x) (a : Int) (h0 : 0 ≤ a) (h1 : a ≤ 1048576) : Ev (fun k => laws_szNodeS.f k l a) (leftOf a (allW allN l)) := by
  unfold laws_szNodeS.f
  exact gen_szS z141 allN (fun k x a => laws_szNode.f k x.f0 x.f1 x.f2 x.f3 x.f4.f0 x.f4.f1 x.f5.f0 x.f5.f1 x.f6 x.f7 a) laws_szNodeS.l0 (fun _ _ _ _ => rfl) l (maxLen_le hl) (fun x hx a h0 h1 => szNode_ev x (hg x hx) a h0 h1) a h0 h1
theorem toNodeS_ev (l : List S141) (h : allW allN l ≤ 1048576) : Ev (fun k => laws_toNodeS.f k l) (l.map cvN) := by
  have hl := allW_len (w := allN) (l := l)
  unfold laws_toNodeS.f
  exact gen_toS z141 z104 _ (by omega) cvN (fun x => (x.f0, x.f1, x.f2, x.f3, x.f4.f0.map cvO, x.f4.f1.map cvO, x.f5.f0.map cvO, x.f5.f1.map cvO, x.f6.map cvO, x.f7))
    (fun t => (⟨t.1, t.2.1, t.2.2.1, t.2.2.2.1, ⟨t.2.2.2.2.1, t.2.2.2.2.2.1⟩, ⟨t.2.2.2.2.2.2.1, t.2.2.2.2.2.2.2.1⟩, t.2.2.2.2.2.2.2.2.1, t.2.2.2.2.2.2.2.2.2⟩ : S104))
    (fun _ => rfl) (fun k x => laws_toNode.f k x.f0 x.f1 x.f2 x.f3 x.f4.f0 x.f4.f1 x.f5.f0 x.f5.f1 x.f6 x.f7) laws_toNodeS.l0 (fun _ _ _ _ => rfl) l (by omega) (fun x hx => toNode_ev x (by have := allW_mem (w := allN) hx; omega))
theorem eqNodeS_ev (l : List S141) (h : allW allN l ≤ 1048576) : Ev (fun k => laws_eqNodeS.f k (l.map cvN) (l.map cvN)) true := by
  have hl := allW_len (w := allN) (l := l)
  unfold laws_eqNodeS.f
  refine gen_eqS z104 (fun k x y => laws_eqNode.f k x.f0 x.f1 x.f2 x.f3 x.f4.f0 x.f4.f1 x.f5.f0 x.f5.f1 x.f6 x.f7 y.f0 y.f1 y.f2 y.f3 y.f4.f0 y.f4.f1 y.f5.f0 y.f5.f1 y.f6 y.f7) laws_eqNodeS.l0 (fun _ _ _ _ => rfl) (l.map cvN) (by rw [List.length_map]; omega) (fun y hy => ?_)
  obtain ⟨x, hx, rfl⟩ := List.mem_map.1 hy
  exact eqNode_ev x (by have := allW_mem (w := allN) hx; omega)
end Go.Proofs.Ytdljhokealbnnaa.M
namespace Go.Proofs.Ytdljhokealbnnaa.M
set_option linter.unusedVariables false
set_option linter.unusedSimpArgs false
open Go.RowKit Go.Proofs.YtdljhokealbnnaaW.PrintWords Go.Proofs.YtdljhokealbnnaaW.PrintLast

structure SmallM (a : S104) : Prop where
  n3 : a.f3.length ≤ 1048576
  l4 : a.f4.f0.length ≤ 1048576 ∧ Short a.f4.f0
  l5 : a.f4.f1.length ≤ 1048576 ∧ Short a.f4.f1
  l6 : a.f5.f0.length ≤ 1048576 ∧ Short a.f5.f0
  l7 : a.f5.f1.length ≤ 1048576 ∧ Short a.f5.f1
  l8 : a.f6.length ≤ 1048576 ∧ Short a.f6
theorem smallM_cv (x : S141) (h : allN x ≤ 1048576) : SmallM (cvN x) := by
  unfold allN at h
  have one : ∀ l : List S173, allO l ≤ 1048576 → (l.map cvO).length ≤ 1048576 ∧ Short (l.map cvO) := fun l hl => ⟨few_cv hl, short_map l hl⟩
  exact ⟨by show x.f3.length ≤ _; omega, one _ (by omega), one _ (by omega), one _ (by omega), one _ (by omega), one _ (by omega)⟩
theorem szGraph_ev2 (x : S71) (h : good71 x) (a : Int) (h0 : 0 ≤ a) (h1 : a ≤ 1048576) : Ev (fun k => laws_szGraph.f k x.f0 x.f1 x.f2 x.f3 x.f4 a) (leftOf a (allW allN x.f1)) := by
  unfold laws_szGraph.f
  exact left_last h0 (szNodeS_ev x.f1 h.2.1.1 h.2.1.2 a h0 h1)
theorem toGraph_ev2 (x : S71) (h : allW allN x.f1 ≤ 1048576) : Ev (fun k => laws_toGraph.f k x.f0 x.f1 x.f2 x.f3 x.f4) (x.f0, x.f1.map cvN, x.f2, x.f3, x.f4) := by
  unfold laws_toGraph.f
  exact Ev.bindS (toNodeS_ev x.f1 h) rfl
theorem eqGraph_ev2 (x : S71) (h : allW allN x.f1 ≤ 1048576) : Ev (fun k => laws_eqGraph.f k x.f0 (x.f1.map cvN) x.f2 x.f3 x.f4 x.f0 (x.f1.map cvN) x.f2 x.f3 x.f4) true := by
  unfold laws_eqGraph.f
  exact Ev.pos rfl (Ev.bind (eqNodeS_ev x.f1 h) (Ev.pos rfl (Ev.pos rfl (Ev.pos rfl (Ev.neg (by simp) (Ev.now _))))))
theorem smallMs (l : List S141) (h : allW allN l ≤ 1048576) : ∀ y ∈ l.map cvN, SmallM y := by
  intro y hy
  obtain ⟨x, hx, rfl⟩ := List.mem_map.1 hy
  exact smallM_cv x (by have := allW_mem (w := allN) hx; omega)
end Go.Proofs.Ytdljhokealbnnaa.M
namespace Go.Proofs.Ytdljhokealbnnaa.M
set_option linter.unusedVariables false
set_option linter.unusedSimpArgs false
open Go.RowKit Go.Proofs.YtdljhokealbnnaaW.PrintWords Go.Proofs.YtdljhokealbnnaaW.PrintLast

theorem impl_in_is (a b c : Int) : impl_in.f a b c = some (decide (b ≤ a) && decide (a ≤ c)) := by
  unfold impl_in.f
  by_cases h : b ≤ a
  · rw [if_pos h]; simp [h]
  · rw [if_neg h]; simp [h]
def lessO (a b : S106) : Bool := decide (cmpO a b < 0)
theorem spec_OccLess_ev (a b : S106) (ha : a.f2.length ≤ 9223372036854775806) (hb : b.f2.length ≤ 9223372036854775806) : Ev (fun k => spec_OccLess.f k a.f0 a.f1 a.f2 b.f0 b.f1 b.f2) (lessO a b) := by
  unfold spec_OccLess.f lessO cmpO
  by_cases h1 : a.f1 = b.f1
  · rw [if_pos h1]
    refine Ev.pos h1 ?_
    by_cases h2 : a.f0 = b.f0
    · rw [if_pos h2]
      exact Ev.pos h2 (Ev.bindS (l3Ids_ev _ _ ha hb) rfl)
    · rw [if_neg h2]
      refine Ev.neg h2 (Ev.one (fun _ => ?_))
      by_cases h3 : a.f0 < b.f0 <;> simp [h3, sgn]
  · rw [if_neg h1]
    refine Ev.neg h1 (Ev.one (fun _ => ?_))
    by_cases h3 : a.f1 < b.f1 <;> simp [h3, sgn]
def idsGo : Int → List Int → Bool
  | _, [] => true
  | p, x :: xs => decide (p < x) && decide (x < 24) && idsGo x xs
theorem idsGo_len : ∀ (l : List Int) (p : Int), idsGo p l = true → p ≤ 23 → (l.length : Int) + p ≤ 23
  | [], p, _, hp => by simp; exact hp
  | x :: xs, p, h, _ => by
    unfold idsGo at h
    simp only [Bool.and_eq_true, decide_eq_true_eq] at h
    have := idsGo_len xs x h.2 (by omega)
    rw [List.length_cons]
    omega
def occOkB (o : S106) : Bool := decide (1 ≤ o.f0) && decide (o.f0 ≤ o.f1) && decide (o.f1 ≤ 2000) && decide (1 ≤ o.f2.length) && idsGo (-1) o.f2
def idPrev (l : List Int) (n : Nat) : Int := if n = 0 then -1 else l.getD (n - 1) 0
theorem idPrev_succ (l : List Int) (n : Nat) : idPrev l (n + 1) = l.getD n 0 := by simp [idPrev]
theorem spec_OccOk_l0_ev (a b : Int) (l : List Int) (hl : l.length ≤ 9223372036854775806) : ∀ d n : Nat, n + d = l.length → -1 ≤ idPrev l n → Ev (fun k => spec_OccOk.l0 k (n : Int) a b l) (idsGo (idPrev l n) (l.drop n)) := by
  intro d
  induction d with
  | zero =>
    intro n hn hp
    rw [List.drop_of_length_le (by omega)]
    exact Ev.last (fun k => by simp only [spec_OccOk.l0]; rw [if_neg (by omega)]; rfl)
  | succ d ih =>
    intro n hn hp
    have hrd : rd l (n : Int) = l.getD n 0 := rfl
    rw [drop_at l 0 n (by omega)]
    refine Ev.step (fun k => by simp only [spec_OccOk.l0]; rw [if_pos (by omega), if_pos (by omega), w_succ (by omega), hrd]) ?_
    have next := ih (n + 1) (by omega)
    rw [idPrev_succ] at next
    generalize l.getD n 0 = x at *
    unfold idsGo
    by_cases h0 : x < 0
    · rw [decide_eq_false (show ¬ idPrev l n < x by omega)]
      exact Ev.pos h0 (Ev.now _)
    · refine Ev.neg h0 ?_
      by_cases h1 : x ≥ 24
      · rw [decide_eq_false (show ¬ x < 24 by omega), Bool.and_false]
        exact Ev.pos h1 (Ev.now _)
      · refine Ev.neg h1 ?_
        rw [decide_eq_true (show x < 24 by omega), Bool.and_true]
        rcases Nat.eq_zero_or_pos n with hz | hpos
        · subst hz
          rw [show idPrev l 0 = -1 from rfl, decide_eq_true (show (-1 : Int) < x by omega)]
          exact Ev.neg (by omega) (next (by omega))
        · obtain ⟨m, rfl⟩ : ∃ m, n = m + 1 := ⟨n - 1, by omega⟩
          have hw : wrap64 (((m + 1 : Nat) : Int) - 1) = (m : Int) := by rw [w_small (by omega) (by omega)]; omega
          refine Ev.pos (by omega) ?_
          rw [hw]
          refine Ev.pos (by omega) (Ev.pos (by omega) ?_)
          have hr2 : rd l (m : Int) = l.getD m 0 := rfl
          rw [hr2, idPrev_succ]
          by_cases hc : x ≤ l.getD m 0
          · rw [decide_eq_false (show ¬ l.getD m 0 < x by omega)]
            exact Ev.pos hc (Ev.now _)
          · rw [decide_eq_true (show l.getD m 0 < x by omega)]
            exact Ev.neg hc (next (by omega))
theorem spec_OccOk_ev (o : S106) (hl : o.f2.length ≤ 9223372036854775806) : Ev (fun k => spec_OccOk.f k o.f0 o.f1 o.f2) (occOkB o) := by
  have bad : ∀ b : Bool, b = true → Ev (fun k => spec_OccOk.j0 k b o.f0 o.f1 o.f2) false := by
    intro b hb
    subst hb
    exact Ev.last (fun k => by simp only [spec_OccOk.j0]; rw [if_pos trivial])
  unfold spec_OccOk.f occOkB
  by_cases h0 : o.f0 < 1
  · rw [decide_eq_false (show ¬ 1 ≤ o.f0 by omega)]
    exact Ev.pos h0 (bad _ rfl)
  · rw [decide_eq_true (show 1 ≤ o.f0 by omega)]
    refine Ev.neg h0 ?_
    by_cases h1 : o.f1 < o.f0
    · rw [decide_eq_false (show ¬ o.f0 ≤ o.f1 by omega)]
      exact Ev.pos h1 (bad _ rfl)
    · rw [decide_eq_true (show o.f0 ≤ o.f1 by omega)]
      refine Ev.neg h1 ?_
      by_cases h2 : o.f1 > 2000
      · rw [decide_eq_false (show ¬ o.f1 ≤ 2000 by omega)]
        exact Ev.pos h2 (bad _ rfl)
      · rw [decide_eq_true (show o.f1 ≤ 2000 by omega)]
        refine Ev.neg h2 ?_
        by_cases h3 : (o.f2.length : Int) < 1
        · rw [decide_eq_false (show ¬ 1 ≤ o.f2.length by omega)]
          exact Ev.pos h3 (bad _ rfl)
        · rw [decide_eq_true (show 1 ≤ o.f2.length by omega)]
          refine Ev.neg h3 ?_
          by_cases h4 : (o.f2.length : Int) > 24
          · have : idsGo (-1) o.f2 = false := by
              rw [Bool.eq_false_iff]
              intro e
              have := idsGo_len o.f2 (-1) e (by omega)
              omega
            rw [this]
            exact bad _ (decide_eq_true h4)
          · rw [decide_eq_false h4]
            refine Ev.step (fun k => by simp only [spec_OccOk.j0]; rfl) ?_
            exact Ev.neg (by decide) (spec_OccOk_l0_ev o.f0 o.f1 o.f2 hl o.f2.length 0 (by omega) (by simp [idPrev]))
theorem impl_OccOk_l0_ev (o : S106) (l : List Int) (hl : l.length ≤ 9223372036854775806) : ∀ (d n : Nat) (p : Int), n + d = l.length → -1 ≤ p → p ≤ 23 → Ev (fun k => impl_OccOk.l0 k p l (l.length : Int) (n : Int) o.f0 o.f1 o.f2) (idsGo p (l.drop n) && (decide (1 ≤ o.f0) && (decide (o.f0 ≤ o.f1) && decide (o.f1 ≤ 2000) && decide (1 ≤ o.f2.length)))) := by
  intro d
  induction d with
  | zero =>
    intro n p hn h0 h1
    rw [List.drop_of_length_le (by omega), idsGo, Bool.true_and]
    refine Ev.last (fun k => ?_)
    simp only [impl_OccOk.l0, impl_in_is]
    rw [if_neg (by omega)]
    by_cases a : 1 ≤ o.f0
    · rw [if_pos a, decide_eq_true a]
      simp only [Option.bind_some]
      by_cases b : (decide (o.f0 ≤ o.f1) && decide (o.f1 ≤ 2000)) = true
      · rw [if_pos b, b]
        have e : ((o.f2.length : Int) ≥ 1) = (1 ≤ o.f2.length) := by rw [eq_iff_iff]; omega
        simp only [e, Bool.true_and]
      · rw [if_neg b]
        simp only [Bool.not_eq_true] at b
        rw [b]
        rfl
    · rw [if_neg a, decide_eq_false a]
      rfl
  | succ d ih =>
    intro n p hn h0 h1
    have hrd : rd l (n : Int) = l.getD n 0 := rfl
    rw [drop_at l 0 n (by omega)]
    have w1 : wrap64 (p + 1) = p + 1 := w_small (by omega) (by omega)
    refine Ev.step (fun k => by simp only [impl_OccOk.l0]; rw [if_pos (by omega), if_pos (by omega), if_pos (by omega), w_succ (by omega), hrd, w1, impl_in_is, Option.bind_some]) ?_
    have next := ih (n + 1) (l.getD n 0) (by omega)
    generalize l.getD n 0 = x at *
    unfold idsGo
    by_cases hc : p + 1 ≤ x ∧ x ≤ 23
    · rw [decide_eq_true (show p < x by omega), decide_eq_true (show x < 24 by omega), decide_eq_true hc.1, decide_eq_true hc.2]
      exact Ev.pos rfl (next (by omega) (by omega))
    · have e1 : (decide (p + 1 ≤ x) && decide (x ≤ 23)) = false := by
        rw [Bool.eq_false_iff]
        simp only [ne_eq, Bool.and_eq_true, decide_eq_true_eq]
        exact hc
      have e2 : (decide (p < x) && decide (x < 24)) = false := by
        rw [Bool.eq_false_iff]
        simp only [ne_eq, Bool.and_eq_true, decide_eq_true_eq]
        omega
      rw [e1, e2]
      exact Ev.neg (by decide) (Ev.now _)
theorem impl_OccOk_ev (o : S106) (hl : o.f2.length ≤ 9223372036854775806) : Ev (fun k => impl_OccOk.f k o.f0 o.f1 o.f2) (occOkB o) := by
  unfold impl_OccOk.f
  refine Ev.val (impl_OccOk_l0_ev o o.f2 hl o.f2.length 0 (-1) (by omega) (by omega) (by omega)) ?_
  rw [List.drop_zero, occOkB, Bool.and_comm]
  simp only [Bool.and_assoc]
theorem impl_OccLess_ev (a b : S106) (ha : a.f2.length ≤ 9223372036854775806) (hb : b.f2.length ≤ 9223372036854775806) : Ev (fun k => impl_OccLess.f k a.f0 a.f1 a.f2 b.f0 b.f1 b.f2) (lessO a b) := by
  unfold impl_OccLess.f
  exact Ev.bindS (impl_compare_ev a b ha hb) rfl
def occsGo : Option S106 → List S106 → Bool
  | _, [] => true
  | none, x :: xs => occOkB x && occsGo (some x) xs
  | some p, x :: xs => occOkB x && (lessO p x && occsGo (some x) xs)
def occsOkB (l : List S106) : Bool := occsGo none l && decide (l.length ≤ 40)
def occPrev (l : List S106) (n : Nat) : Option S106 := if n = 0 then none else some (l.getD (n - 1) z106)
theorem occPrev_succ (l : List S106) (n : Nat) : occPrev l (n + 1) = some (l.getD n z106) := by simp [occPrev]
theorem spec_OccsOk_l0_ev (l : List S106) (hl : l.length ≤ 9223372036854775806) (hs : Short l) : ∀ d n : Nat, n + d = l.length → Ev (fun k => spec_OccsOk.l0 k l (n : Int)) (occsGo (occPrev l n) (l.drop n)) := by
  intro d
  induction d with
  | zero =>
    intro n hn
    rw [List.drop_of_length_le (by omega)]
    exact Ev.last (fun k => by simp only [spec_OccsOk.l0]; rw [if_neg (by omega)]; cases occPrev l n <;> rfl)
  | succ d ih =>
    intro n hn
    have hrd : rd_T106 l (n : Int) = l.getD n z106 := rfl
    have hx := hs.at_ n
    rw [drop_at l z106 n (by omega)]
    refine Ev.step (fun k => by simp only [spec_OccsOk.l0]; rw [if_pos (by omega), if_pos (by omega), w_succ (by omega), hrd]) ?_
    have next := ih (n + 1) (by omega)
    rw [occPrev_succ] at next
    generalize l.getD n z106 = x at *
    refine Ev.bind (spec_OccOk_ev x hx) ?_
    rcases Nat.eq_zero_or_pos n with hz | hpos
    · subst hz
      rw [show occPrev l 0 = none from rfl, occsGo]
      by_cases hk : occOkB x = true
      · rw [hk]
        exact Ev.pos rfl (Ev.neg (by omega) next)
      · refine Ev.neg hk ?_
        simp only [Bool.not_eq_true] at hk
        rw [hk]
        exact Ev.now _
    · obtain ⟨m, rfl⟩ : ∃ m, n = m + 1 := ⟨n - 1, by omega⟩
      have hw : wrap64 (((m + 1 : Nat) : Int) - 1) = (m : Int) := by rw [w_small (by omega) (by omega)]; omega
      have hr2 : rd_T106 l (m : Int) = l.getD m z106 := rfl
      rw [occPrev_succ, occsGo, hw, hr2]
      by_cases hk : occOkB x = true
      · rw [hk]
        refine Ev.pos rfl (Ev.pos (by omega) (Ev.pos (by omega) (Ev.pos (by omega) (Ev.bind (spec_OccLess_ev _ x (hs.at_ m) hx) ?_))))
        by_cases hls : lessO (l.getD m z106) x = true
        · rw [hls]
          exact Ev.pos rfl next
        · refine Ev.neg hls ?_
          simp only [Bool.not_eq_true] at hls
          rw [hls]
          exact Ev.now _
      · refine Ev.neg hk ?_
        simp only [Bool.not_eq_true] at hk
        rw [hk]
        exact Ev.now _
theorem spec_OccsOk_ev (l : List S106) (hl : l.length ≤ 9223372036854775806) (hs : Short l) : Ev (fun k => spec_OccsOk.f k l) (occsOkB l) := by
  unfold spec_OccsOk.f occsOkB
  by_cases h : (l.length : Int) > 40
  · refine Ev.pos h ?_
    rw [decide_eq_false (by omega), Bool.and_false]
    exact Ev.now _
  · refine Ev.neg h ?_
    rw [decide_eq_true (by omega), Bool.and_true]
    exact spec_OccsOk_l0_ev l hl hs l.length 0 (by omega)
theorem impl_OccsOk_l0_ev (l : List S106) (hl : l.length ≤ 9223372036854775806) (hs : Short l) : ∀ d n : Nat, n + d = l.length → Ev (fun k => impl_OccsOk.l0 k l l (l.length : Int) (n : Int)) (occsGo (occPrev l n) (l.drop n) && decide (l.length ≤ 40)) := by
  intro d
  induction d with
  | zero =>
    intro n hn
    rw [List.drop_of_length_le (by omega)]
    refine Ev.last (fun k => ?_)
    simp only [impl_OccsOk.l0]
    rw [if_neg (by omega)]
    have e : ((l.length : Int) ≤ 40) = (l.length ≤ 40) := by rw [eq_iff_iff]; omega
    simp only [e]
    cases occPrev l n <;> rfl
  | succ d ih =>
    intro n hn
    have hrd : rd_T106 l (n : Int) = l.getD n z106 := rfl
    have hx := hs.at_ n
    rw [drop_at l z106 n (by omega)]
    refine Ev.step (fun k => by simp only [impl_OccsOk.l0]; rw [if_pos (by omega), if_pos (by omega), if_pos (by omega), w_succ (by omega), hrd]) ?_
    have next := ih (n + 1) (by omega)
    rw [occPrev_succ] at next
    generalize l.getD n z106 = x at *
    refine Ev.bind (impl_OccOk_ev x hx) ?_
    rcases Nat.eq_zero_or_pos n with hz | hpos
    · subst hz
      rw [show occPrev l 0 = none from rfl, occsGo]
      by_cases hk : occOkB x = true
      · rw [hk]
        exact Ev.pos rfl (Ev.neg (by omega) next)
      · refine Ev.neg hk ?_
        simp only [Bool.not_eq_true] at hk
        rw [hk]
        exact Ev.now _
    · obtain ⟨m, rfl⟩ : ∃ m, n = m + 1 := ⟨n - 1, by omega⟩
      have hw : wrap64 (((m + 1 : Nat) : Int) - 1) = (m : Int) := by rw [w_small (by omega) (by omega)]; omega
      have hr2 : rd_T106 l (m : Int) = l.getD m z106 := rfl
      rw [occPrev_succ, occsGo, hw, hr2]
      by_cases hk : occOkB x = true
      · rw [hk]
        refine Ev.pos rfl (Ev.pos (by omega) (Ev.pos (by omega) (Ev.pos (by omega) (Ev.bind (impl_OccLess_ev _ x (hs.at_ m) hx) ?_))))
        by_cases hls : lessO (l.getD m z106) x = true
        · rw [hls]
          exact Ev.pos rfl next
        · refine Ev.neg hls ?_
          simp only [Bool.not_eq_true] at hls
          rw [hls]
          exact Ev.now _
      · refine Ev.neg hk ?_
        simp only [Bool.not_eq_true] at hk
        rw [hk]
        exact Ev.now _
theorem impl_OccsOk_ev (l : List S106) (hl : l.length ≤ 9223372036854775806) (hs : Short l) : Ev (fun k => impl_OccsOk.f k l) (occsOkB l) := impl_OccsOk_l0_ev l hl hs l.length 0 (by omega)
end Go.Proofs.Ytdljhokealbnnaa.M
namespace Go.Proofs.Ytdljhokealbnnaa.M
set_option linter.unusedVariables false
set_option linter.unusedSimpArgs false
open Go.RowKit Go.Proofs.YtdljhokealbnnaaW.PrintWords Go.Proofs.YtdljhokealbnnaaW.PrintLast

def kidsOf2 (a : Int) : Int := if a = 1 then 0 else if a = 7 then 1 else if a = 2 ∨ a = 3 ∨ a = 4 then 2 else if a = 5 ∨ a = 6 then 3 else -1
theorem l2Kids_ev2 (a : Int) : Ev (fun k => spec_l2Kids.f k a) (kidsOf2 a) := by
  unfold spec_l2Kids.f kidsOf2
  by_cases h1 : a = 1
  · exact Ev.pos h1 (Ev.val (Ev.now _) (by rw [if_pos h1]))
  refine Ev.neg h1 ?_
  rw [if_neg h1]
  by_cases h7 : a = 7
  · exact Ev.pos h7 (Ev.val (Ev.now _) (by rw [if_pos h7]))
  refine Ev.neg h7 ?_
  rw [if_neg h7]
  have yes : a = 2 ∨ a = 3 ∨ a = 4 → Ev (fun k => spec_l2Kids.j0 k a true) (if a = 2 ∨ a = 3 ∨ a = 4 then 2 else if a = 5 ∨ a = 6 then 3 else -1) := fun h => Ev.last (fun k => by simp only [spec_l2Kids.j0]; rw [if_pos trivial, if_pos h])
  by_cases h2 : a = 2
  · refine Ev.pos h2 ?_
    rw [show (a == 2) = true by simp [h2]]
    exact yes (by omega)
  refine Ev.neg h2 ?_
  by_cases h3 : a = 3
  · refine Ev.pos h3 ?_
    rw [show (a == 3) = true by simp [h3]]
    exact yes (by omega)
  refine Ev.neg h3 ?_
  by_cases h4 : a = 4
  · rw [show (a == 4) = true by simp [h4]]
    exact yes (by omega)
  rw [show (a == 4) = false by simp [h4]]
  rw [if_neg (by omega)]
  by_cases h5 : a = 5
  · exact Ev.last (fun k => by simp only [spec_l2Kids.j0]; rw [if_neg (by decide), if_pos h5, if_pos (by omega)])
  by_cases h6 : a = 6
  · exact Ev.last (fun k => by simp only [spec_l2Kids.j0]; rw [if_neg (by decide), if_neg h5, if_pos h6, if_pos (by omega)])
  · exact Ev.last (fun k => by simp only [spec_l2Kids.j0]; rw [if_neg (by decide), if_neg h5, if_neg h6, if_neg (by omega)])
end Go.Proofs.Ytdljhokealbnnaa.M
namespace Go.Proofs.Ytdljhokealbnnaa.M
set_option linter.unusedVariables false
set_option linter.unusedSimpArgs false
open Go.RowKit Go.Proofs.YtdljhokealbnnaaW.PrintWords Go.Proofs.YtdljhokealbnnaaW.PrintLast

theorem okS {l : List S106} (h : l.length ≤ 1048576 ∧ Short l) : Ev (fun k => spec_OccsOk.f k l) (occsOkB l) := spec_OccsOk_ev l (by omega) h.2
theorem okI {l : List S106} (h : l.length ≤ 1048576 ∧ Short l) : Ev (fun k => impl_OccsOk.f k l) (occsOkB l) := impl_OccsOk_ev l (by omega) h.2
theorem both_ok {f g : Nat → Option Bool} {a b : Bool} (h : Ev f a) (k : Ev g b) : Ev (fun n => (f n).bind fun t => (if t = true then ((g n).bind fun u => (some u)) else (some false))) (a && b) := by
  refine Ev.bind h ?_
  cases a with
  | true => exact Ev.pos rfl (Ev.bindS k (by simp))
  | false => exact Ev.neg (by decide) (Ev.now _)
def pairB (x : S104) : Bool := occsOkB x.f4.f0 && occsOkB x.f4.f1
def spanB (x : S104) : Bool := occsOkB x.f5.f0 && occsOkB x.f5.f1
theorem impl_nodeok_ev (x : S104) (hx : SmallM x) (a b : Int) : Ev (fun k => impl_Node_ok.f k x.f0 x.f1 x.f2 x.f3 x.f4.f0 x.f4.f1 x.f5.f0 x.f5.f1 x.f6 x.f7 a b) (nodeOkB x a b (pairB x) (spanB x) (occsOkB x.f6)) := by
  unfold impl_Node_ok.f
  exact Ev.bind (by unfold impl_PairOk.f; exact both_ok (okI hx.l4) (okI hx.l5)) (Ev.bind (by unfold impl_SpanOk.f; exact both_ok (okI hx.l6) (okI hx.l7)) (Ev.bindS (okI hx.l8) rfl))
def kidsIn (l : List Int) (n : Int) : Bool := l.all fun a => decide (0 ≤ a) && decide (a < n)
def three (x : S104) : Bool := if x.f0 = 7 then (if x.f2 < 1 then false else if x.f2 > 20 then false else true) else (if x.f2 = 0 then !decide ((x.f6.length : Int) > 0) else false)
def specNode (x : S104) (n : Int) : Bool := decide (kidsOf2 x.f0 = x.f3.length) && (decide (0 ≤ x.f1) && (decide (x.f1 < 5) && (decide (0 ≤ x.f7) && (decide (x.f7 ≤ 40) && (pairB x && (spanB x && (occsOkB x.f6 && (three x && kidsIn x.f3 n))))))))
section
variable (x : S104) (a : Int)
theorem l7Node_l0_ev (hx : SmallM x) : ∀ d n : Nat, n + d = x.f3.length → Ev (fun k => spec_l7Node.l0 k a (n : Int) x.f0 x.f1 x.f2 x.f3 x.f4.f0 x.f4.f1 x.f5.f0 x.f5.f1 x.f6 x.f7) (kidsIn (x.f3.drop n) a) := by
  have h3 := hx.n3
  intro d
  induction d with
  | zero =>
    intro n hn
    rw [List.drop_of_length_le (by omega)]
    exact Ev.last (fun k => by simp only [spec_l7Node.l0]; rw [if_neg (by omega)]; rfl)
  | succ d ih =>
    intro n hn
    have hr : rd x.f3 (n : Int) = x.f3.getD n 0 := rfl
    rw [drop_at x.f3 0 n (by omega)]
    refine Ev.step (fun k => by simp only [spec_l7Node.l0]; rw [if_pos (by omega), if_pos (by omega), hr, w_succ (by omega)]) ?_
    by_cases h1 : x.f3.getD n 0 < 0
    · exact Ev.pos h1 (Ev.val (Ev.now _) (by rw [kidsIn, List.all_cons, decide_eq_false (by omega)]; rfl))
    refine Ev.neg h1 ?_
    by_cases h2 : x.f3.getD n 0 ≥ a
    · exact Ev.pos h2 (Ev.val (Ev.now _) (by rw [kidsIn, List.all_cons, decide_eq_true (p := 0 ≤ _) (by omega), decide_eq_false (by omega)]; rfl))
    exact Ev.neg h2 (Ev.val (ih (n + 1) (by omega)) (by rw [kidsIn, kidsIn, List.all_cons, decide_eq_true (p := 0 ≤ _) (by omega), decide_eq_true (by omega)]; rfl))
theorem l7Node_bad : Ev (fun k => spec_l7Node.j0 k a true x.f0 x.f1 x.f2 x.f3 x.f4.f0 x.f4.f1 x.f5.f0 x.f5.f1 x.f6 x.f7) false := Ev.last (fun k => by simp only [spec_l7Node.j0]; rw [if_pos trivial])
theorem l7Node_three (hx : SmallM x) : Ev (fun k => spec_l7Node.j0 k a false x.f0 x.f1 x.f2 x.f3 x.f4.f0 x.f4.f1 x.f5.f0 x.f5.f1 x.f6 x.f7) (three x && kidsIn x.f3 a) := by
  have bad : Ev (fun k => spec_l7Node.j1 k a true x.f0 x.f1 x.f2 x.f3 x.f4.f0 x.f4.f1 x.f5.f0 x.f5.f1 x.f6 x.f7) false := Ev.last (fun k => by simp only [spec_l7Node.j1]; rw [if_pos trivial])
  have on : Ev (fun k => spec_l7Node.j1 k a false x.f0 x.f1 x.f2 x.f3 x.f4.f0 x.f4.f1 x.f5.f0 x.f5.f1 x.f6 x.f7) (kidsIn x.f3 a) := Ev.step (fun k => by simp only [spec_l7Node.j1]; rw [if_neg (by decide)]; rfl) (l7Node_l0_ev x a hx x.f3.length 0 (by omega))
  refine Ev.step (fun k => by simp only [spec_l7Node.j0]; rw [if_neg (by decide)]) ?_
  unfold three
  by_cases h7 : x.f0 = 7
  · rw [if_pos h7]
    refine Ev.pos h7 ?_
    by_cases h1 : x.f2 < 1
    · exact Ev.pos h1 (Ev.val bad (by rw [if_pos h1]; rfl))
    refine Ev.neg h1 ?_
    by_cases h2 : x.f2 > 20
    · exact Ev.pos h2 (Ev.val bad (by rw [if_neg h1, if_pos h2]; rfl))
    exact Ev.neg h2 (Ev.val on (by rw [if_neg h1, if_neg h2]; rfl))
  · rw [if_neg h7]
    refine Ev.neg h7 ?_
    by_cases h2 : x.f2 = 0
    · refine Ev.pos h2 ?_
      rw [if_pos h2]
      by_cases h8 : (x.f6.length : Int) > 0
      · rw [decide_eq_true h8]; exact bad
      · rw [decide_eq_false h8]; exact on
    · exact Ev.neg h2 (Ev.val bad (by rw [if_neg h2]; rfl))
theorem l7Node_ev (hx : SmallM x) : Ev (fun k => spec_l7Node.f k x.f0 x.f1 x.f2 x.f3 x.f4.f0 x.f4.f1 x.f5.f0 x.f5.f1 x.f6 x.f7 a) (specNode x a) := by
  have bad := l7Node_bad x a
  unfold spec_l7Node.f specNode
  refine Ev.bind (l2Kids_ev2 x.f0) ?_
  by_cases h0 : kidsOf2 x.f0 = (x.f3.length : Int)
  case neg => exact Ev.neg h0 (Ev.val bad (by rw [decide_eq_false h0]; rfl))
  refine Ev.pos h0 ?_
  rw [decide_eq_true h0, Bool.true_and]
  by_cases h1 : x.f1 < 0
  · exact Ev.pos h1 (Ev.val bad (by rw [decide_eq_false (by omega)]; rfl))
  refine Ev.neg h1 ?_
  rw [decide_eq_true (p := 0 ≤ x.f1) (by omega), Bool.true_and]
  by_cases h2 : x.f1 ≥ 5
  · exact Ev.pos h2 (Ev.val bad (by rw [decide_eq_false (by omega)]; rfl))
  refine Ev.neg h2 ?_
  rw [decide_eq_true (p := x.f1 < 5) (by omega), Bool.true_and]
  by_cases h3 : x.f7 < 0
  · exact Ev.pos h3 (Ev.val bad (by rw [decide_eq_false (by omega)]; rfl))
  refine Ev.neg h3 ?_
  rw [decide_eq_true (p := 0 ≤ x.f7) (by omega), Bool.true_and]
  by_cases h4 : x.f7 > 40
  · exact Ev.pos h4 (Ev.val bad (by rw [decide_eq_false (by omega)]; rfl))
  refine Ev.neg h4 ?_
  rw [decide_eq_true (p := x.f7 ≤ 40) (by omega), Bool.true_and]
  refine Ev.bind (a := pairB x) (by unfold spec_PairOk.f; exact both_ok (okS hx.l4) (okS hx.l5)) ?_
  cases pairB x with
  | false => exact Ev.neg (by decide) bad
  | true =>
    refine Ev.pos rfl (Ev.bind (a := spanB x) (by unfold spec_SpanOk.f; exact both_ok (okS hx.l6) (okS hx.l7)) ?_)
    cases spanB x with
    | false => exact Ev.neg (by decide) bad
    | true =>
      refine Ev.pos rfl (Ev.bind (okS hx.l8) ?_)
      cases occsOkB x.f6 with
      | false => exact bad
      | true => exact l7Node_three x a hx
end
theorem inB_iff (a b c : Int) : inB a b c = true ↔ b ≤ a ∧ a ≤ c := by
  unfold inB
  by_cases h : b ≤ a
  · rw [if_pos h]; simp [h]
  · rw [if_neg h]; simp [h]
theorem kids_iff (a : Int) (n : Nat) : kidsOf2 a = (n : Int) ↔ (inB a 1 7 = true ∧ ((n : Int) == kidsN a) = true) := by
  rw [inB_iff, beq_iff_eq]
  by_cases h : 1 ≤ a ∧ a ≤ 7
  · have : a = 1 ∨ a = 2 ∨ a = 3 ∨ a = 4 ∨ a = 5 ∨ a = 6 ∨ a = 7 := by omega
    have e : kidsOf2 a = kidsN a := by rcases this with rfl | rfl | rfl | rfl | rfl | rfl | rfl <;> rfl
    rw [e]
    exact ⟨fun g => ⟨h, g.symm⟩, fun g => g.2.symm⟩
  · constructor
    · intro g
      exfalso
      unfold kidsOf2 at g
      rw [if_neg (by omega), if_neg (by omega), if_neg (by omega), if_neg (by omega)] at g
      omega
    · exact fun g => absurd g.1 h
theorem kidsIn_any (l : List Int) (n : Nat) (hn : (n : Int) ≤ 1048576) : kidsIn l n = !(l.any fun a : Int => !inB a 0 (wrap64 ((n : Int) - 1))) := by
  have hw : wrap64 ((n : Int) - 1) = (n : Int) - 1 := by unfold wrap64; omega
  rw [hw]
  unfold kidsIn
  induction l with
  | nil => rfl
  | cons a l ih =>
    rw [List.all_cons, List.any_cons, Bool.not_or, Bool.not_not, ih]
    congr 1
    rw [Bool.eq_iff_iff, inB_iff]
    simp
    omega
theorem node_same (x : S104) (n : Nat) (hn : (n : Int) ≤ 1048576) (now : Int) : (specNode x n && !(x.f6.any fun o : S106 => decide (o.f1 ≤ now))) = nodeOkB x n now (pairB x) (spanB x) (occsOkB x.f6) := by
  have h3 : three x = nodeOk3 x := by
    unfold three nodeOk3
    by_cases h7 : x.f0 = 7
    · rw [if_pos h7, if_pos h7, Bool.eq_iff_iff, inB_iff]
      by_cases h1 : x.f2 < 1
      · rw [if_pos h1]; simp; omega
      · rw [if_neg h1]
        by_cases h2 : x.f2 > 20
        · rw [if_pos h2]; simp; omega
        · rw [if_neg h2]; simp; omega
    · rw [if_neg h7, if_neg h7]
      by_cases h2 : x.f2 = 0
      · rw [if_pos h2, decide_eq_true h2, Bool.true_and, Bool.eq_iff_iff]
        simp
      · rw [if_neg h2, decide_eq_false h2]; rfl
  have hk : (decide (kidsOf2 x.f0 = (x.f3.length : Int))) = (inB x.f0 1 7 && ((x.f3.length : Int) == kidsN x.f0)) := by
    rw [Bool.eq_iff_iff, decide_eq_true_iff, Bool.and_eq_true]
    exact kids_iff x.f0 x.f3.length
  have hs : (decide (0 ≤ x.f1) && decide (x.f1 < 5)) = inB x.f1 0 4 := by
    rw [Bool.eq_iff_iff, inB_iff, Bool.and_eq_true, decide_eq_true_iff, decide_eq_true_iff]
    omega
  have hm : (decide (0 ≤ x.f7) && decide (x.f7 ≤ 40)) = inB x.f7 0 40 := by
    rw [Bool.eq_iff_iff, inB_iff, Bool.and_eq_true, decide_eq_true_iff, decide_eq_true_iff]
  unfold specNode nodeOkB nodeOk1
  rw [kidsIn_any x.f3 n hn, h3, hk, ← hs, ← hm]
  generalize (x.f6.any fun o : S106 => decide (o.f1 ≤ now)) = q
  generalize (x.f3.any fun a : Int => !inB a 0 (wrap64 ((n : Int) - 1))) = q2
  generalize inB x.f0 1 7 = c1
  generalize ((x.f3.length : Int) == kidsN x.f0) = c2
  generalize decide (0 ≤ x.f1) = c3
  generalize decide (x.f1 < 5) = c4
  generalize decide (0 ≤ x.f7) = c5
  generalize decide (x.f7 ≤ 40) = c6
  generalize pairB x = c7
  generalize spanB x = c8
  generalize occsOkB x.f6 = c9
  generalize nodeOk3 x = c10
  simp only [Bool.and_assoc]
  cases c1 <;> cases c2 <;> cases c3 <;> cases c4 <;> cases c5 <;> cases c6 <;> cases c7 <;> cases c8 <;> cases c9 <;> cases c10 <;> cases q2 <;> rfl

structure GraphI where
  f0 : Int
  f1 : List S104
  f2 : Int
  f3 : Int
  f4 : Bool
section
variable (g : GraphI)
def nodesGo (l : List S104) (now : Int) : Nat → Nat → Bool
  | 0, _ => true
  | d + 1, n => nodeOkB (l.getD n z104) n now (pairB (l.getD n z104)) (spanB (l.getD n z104)) (occsOkB (l.getD n z104).f6) && nodesGo l now d (n + 1)
def headB : Bool := inB g.f0 0 4 && (inB g.f1.length 1 12 && (inB g.f2 0 24 && inB g.f3 0 1000))
theorem impl_graph_l0_ev (hl : g.f1.length ≤ 1048576) (hs : ∀ x ∈ g.f1, SmallM x) : ∀ d n : Nat, n + d = g.f1.length → Ev (fun k => impl_GraphOk.l0 k g.f1 (g.f1.length : Int) (n : Int) g.f0 g.f1 g.f2 g.f3 g.f4) (nodesGo g.f1 g.f3 d n && headB g) := by
  intro d
  induction d with
  | zero =>
    intro n hn
    rw [nodesGo, Bool.true_and]
    refine Ev.step (fun k => by simp only [impl_GraphOk.l0]; rw [if_neg (by omega)]) ?_
    unfold headB
    refine Ev.bind (Ev.one (fun _ => show impl_isMode.f g.f0 = some (inB g.f0 0 4) by unfold impl_isMode.f; rw [in_some]; rfl)) ?_
    cases inB g.f0 0 4 with
    | false => exact Ev.neg (by decide) (Ev.now _)
    | true =>
      refine Ev.pos rfl (Ev.bind (Ev.one (fun _ => in_some _ _ _)) ?_)
      cases inB (g.f1.length : Int) 1 12 with
      | false => exact Ev.neg (by decide) (Ev.now _)
      | true =>
        refine Ev.pos rfl (Ev.bind (Ev.one (fun _ => in_some _ _ _)) ?_)
        cases inB g.f2 0 24 with
        | false => exact Ev.neg (by decide) (Ev.now _)
        | true => exact Ev.pos rfl (Ev.bindS (Ev.one (fun _ => in_some _ _ _)) (by rw [Bool.true_and, Bool.true_and, Bool.true_and]))
  | succ d ih =>
    intro n hn
    have hr : rd_T104 g.f1 (n : Int) = g.f1.getD n z104 := rfl
    have hx : SmallM (g.f1.getD n z104) := hs _ (by rw [getD_in (by omega)]; exact List.getElem_mem _)
    refine Ev.step (fun k => by simp only [impl_GraphOk.l0]; rw [if_pos (by omega), if_pos (by omega), if_pos (by omega), hr, w_succ (by omega)]) (Ev.bind (impl_nodeok_ev _ hx n g.f3) ?_)
    rw [nodesGo]
    cases nodeOkB (g.f1.getD n z104) n g.f3 (pairB (g.f1.getD n z104)) (spanB (g.f1.getD n z104)) (occsOkB (g.f1.getD n z104).f6) with
    | false => exact Ev.neg (by decide) (Ev.val (Ev.now _) (by simp))
    | true => exact Ev.pos rfl (Ev.val (ih (n + 1) (by omega)) (by simp))
theorem spec_graph_l1_ev (n : Nat) (hn : n < g.f1.length) (hx : SmallM (g.f1.getD n z104)) (v : Bool) (next : Ev (fun k => spec_GraphOk.l0 k (wrap64 ((n : Int) + 1)) g.f0 g.f1 g.f2 g.f3 g.f4) v) : ∀ d m : Nat, m + d = (g.f1.getD n z104).f6.length → Ev (fun k => spec_GraphOk.l1 k (n : Int) (m : Int) g.f0 g.f1 g.f2 g.f3 g.f4) (!(((g.f1.getD n z104).f6.drop m).any fun o : S106 => decide (o.f1 ≤ g.f3)) && v) := by
  have h8 := hx.l8.1
  have hr : rd_T104 g.f1 (n : Int) = g.f1.getD n z104 := rfl
  intro d
  induction d with
  | zero =>
    intro m hm
    rw [List.drop_of_length_le (by omega)]
    exact Ev.step (fun k => by simp only [spec_GraphOk.l1]; rw [if_pos (by omega), if_pos (by omega), hr, if_neg (by omega)]) (Ev.val next (by simp))
  | succ d ih =>
    intro m hm
    have ho : rd_T106 (g.f1.getD n z104).f6 (m : Int) = (g.f1.getD n z104).f6.getD m z106 := rfl
    rw [drop_at (g.f1.getD n z104).f6 z106 m (by omega), List.any_cons]
    refine Ev.step (fun k => by simp only [spec_GraphOk.l1]; rw [if_pos (by omega), if_pos (by omega), hr, if_pos (by omega), if_pos (by omega), ho, w_succ (by omega)]) ?_
    by_cases h : ((g.f1.getD n z104).f6.getD m z106).f1 ≤ g.f3
    · exact Ev.pos h (Ev.val (Ev.now _) (by rw [decide_eq_true h]; rfl))
    · exact Ev.neg h (Ev.val (ih (m + 1) (by omega)) (by rw [decide_eq_false h, Bool.false_or]))
theorem spec_graph_l0_ev (hl : g.f1.length ≤ 1048576) (hs : ∀ x ∈ g.f1, SmallM x) : ∀ d n : Nat, n + d = g.f1.length → Ev (fun k => spec_GraphOk.l0 k (n : Int) g.f0 g.f1 g.f2 g.f3 g.f4) (nodesGo g.f1 g.f3 d n) := by
  intro d
  induction d with
  | zero =>
    intro n hn
    exact Ev.last (fun k => by simp only [spec_GraphOk.l0]; rw [if_neg (by omega)]; rfl)
  | succ d ih =>
    intro n hn
    have hr : rd_T104 g.f1 (n : Int) = g.f1.getD n z104 := rfl
    have hx : SmallM (g.f1.getD n z104) := hs _ (by rw [getD_in (by omega)]; exact List.getElem_mem _)
    have same := node_same (g.f1.getD n z104) n (by omega) g.f3
    rw [nodesGo, ← same]
    refine Ev.step (fun k => by simp only [spec_GraphOk.l0]; rw [if_pos (by omega), if_pos (by omega), hr]) (Ev.bind (l7Node_ev _ n hx) ?_)
    cases specNode (g.f1.getD n z104) n with
    | false => exact Ev.neg (by decide) (Ev.val (Ev.now _) (by simp))
    | true =>
      have := spec_graph_l1_ev g n (by omega) hx _ (by rw [w_succ (by omega)]; exact ih (n + 1) (by omega)) (g.f1.getD n z104).f6.length 0 (by omega)
      exact Ev.pos rfl (Ev.val this (by rw [List.drop_zero, Bool.true_and]))
theorem spec_graph_ev (hl : g.f1.length ≤ 1048576) (hs : ∀ x ∈ g.f1, SmallM x) : Ev (fun k => spec_GraphOk.f k g.f0 g.f1 g.f2 g.f3 g.f4) (nodesGo g.f1 g.f3 g.f1.length 0 && headB g) := by
  have bad : Ev (fun k => spec_GraphOk.j0 k true g.f0 g.f1 g.f2 g.f3 g.f4) false := Ev.last (fun k => by simp only [spec_GraphOk.j0]; rw [if_pos trivial])
  have on : Ev (fun k => spec_GraphOk.j0 k false g.f0 g.f1 g.f2 g.f3 g.f4) (nodesGo g.f1 g.f3 g.f1.length 0) := Ev.step (fun k => by simp only [spec_GraphOk.j0]; rw [if_neg (by decide)]; rfl) (spec_graph_l0_ev g hl hs g.f1.length 0 (by omega))
  have no : headB g = false → Ev (fun k => spec_GraphOk.j0 k true g.f0 g.f1 g.f2 g.f3 g.f4) (nodesGo g.f1 g.f3 g.f1.length 0 && headB g) := fun h => Ev.val bad (by rw [h, Bool.and_false])
  have hh : headB g = true ↔ (0 ≤ g.f0 ∧ g.f0 ≤ 4) ∧ (1 ≤ (g.f1.length : Int) ∧ (g.f1.length : Int) ≤ 12) ∧ (0 ≤ g.f2 ∧ g.f2 ≤ 24) ∧ 0 ≤ g.f3 ∧ g.f3 ≤ 1000 := by
    unfold headB
    simp only [Bool.and_eq_true, inB_iff]
  have nn : ¬ ((0 ≤ g.f0 ∧ g.f0 ≤ 4) ∧ (1 ≤ (g.f1.length : Int) ∧ (g.f1.length : Int) ≤ 12) ∧ (0 ≤ g.f2 ∧ g.f2 ≤ 24) ∧ 0 ≤ g.f3 ∧ g.f3 ≤ 1000) → headB g = false := fun h => by
    cases hb : headB g with
    | false => rfl
    | true => exact absurd (hh.1 hb) h
  unfold spec_GraphOk.f spec_l4Mode.f
  by_cases m0 : g.f0 ≥ 0
  case neg => exact Ev.bind (a := false) (Ev.neg m0 (Ev.now _)) (Ev.neg (by decide) (no (nn (by omega))))
  refine Ev.bind (a := decide (g.f0 < 5)) (Ev.pos m0 (Ev.now _)) ?_
  by_cases m1 : g.f0 < 5
  case neg => rw [decide_eq_false m1]; exact Ev.neg (by decide) (no (nn (by omega)))
  rw [decide_eq_true m1]
  refine Ev.pos rfl ?_
  by_cases n1 : (g.f1.length : Int) < 1
  · exact Ev.pos n1 (no (nn (by omega)))
  refine Ev.neg n1 ?_
  by_cases n2 : (g.f1.length : Int) > 12
  · exact Ev.pos n2 (no (nn (by omega)))
  refine Ev.neg n2 ?_
  by_cases s1 : g.f2 < 0
  · exact Ev.pos s1 (no (nn (by omega)))
  refine Ev.neg s1 ?_
  by_cases s2 : g.f2 > 24
  · exact Ev.pos s2 (no (nn (by omega)))
  refine Ev.neg s2 ?_
  by_cases w1 : g.f3 < 0
  · exact Ev.pos w1 (no (nn (by omega)))
  refine Ev.neg w1 ?_
  by_cases w2 : g.f3 > 1000
  · rw [decide_eq_true w2]; exact no (nn (by omega))
  rw [decide_eq_false w2]
  exact Ev.val on (by rw [hh.2 (by omega), Bool.and_true])
theorem impl_graph_ev (hl : g.f1.length ≤ 1048576) (hs : ∀ x ∈ g.f1, SmallM x) : Ev (fun k => impl_GraphOk.f k g.f0 g.f1 g.f2 g.f3 g.f4) (nodesGo g.f1 g.f3 g.f1.length 0 && headB g) := by
  unfold impl_GraphOk.f
  exact impl_graph_l0_ev g hl hs g.f1.length 0 (by omega)
end
theorem FnExactGraphOk_pure (x : S71) (h : good71 x) : ∃ k, laws_FnExactGraphOk.f k x.f0 x.f1 x.f2 x.f3 x.f4 = some true := by
  refine Ev.rounds (g := fun k => laws_FnExactGraphOk.f k x.f0 x.f1 x.f2 x.f3 x.f4) ?_
  unfold laws_FnExactGraphOk.f
  refine Ev.bind (szGraph_ev2 x h 1048576 (by omega) (by omega)) ?_
  by_cases hs : ((allW allN x.f1 : Nat) : Int) ≤ 1048576
  · rw [leftOf_pos hs]
    refine Ev.neg (by omega) ?_
    have tx := toGraph_ev2 x (by omega)
    have hl := allW_len (w := allN) (l := x.f1)
    have s1 := spec_graph_ev ⟨x.f0, x.f1.map cvN, x.f2, x.f3, x.f4⟩ (by show (x.f1.map cvN).length ≤ _; rw [List.length_map]; omega) (smallMs x.f1 (by omega))
    have s2 := impl_graph_ev ⟨x.f0, x.f1.map cvN, x.f2, x.f3, x.f4⟩ (by show (x.f1.map cvN).length ≤ _; rw [List.length_map]; omega) (smallMs x.f1 (by omega))
    refine Ev.bind tx (Ev.bind s1 (Ev.bind tx (Ev.bind s2 (Ev.neg (by simp) ?_))))
    exact Ev.bind tx (Ev.bindS (eqGraph_ev2 x (by omega)) rfl)
  · rw [leftOf_neg hs]
    exact Ev.pos (by omega) (Ev.now _)
end Go.Proofs.Ytdljhokealbnnaa.M
