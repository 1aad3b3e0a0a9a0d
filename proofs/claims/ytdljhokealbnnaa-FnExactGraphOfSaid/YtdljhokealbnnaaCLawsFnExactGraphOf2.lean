/- What the claim's law leans on: the program's functions, what they compute, and the law over plain values; no condition is asked. (Part 2 of 5.) -/
import Derived.Test.YtdljhokealbnnaaCLawsFnExactGraphOf1
import Derived.Lib.ItoaNum
namespace Go.Proofs.Ytdljhokealbnnaa.M
set_option linter.unusedVariables false
set_option linter.unusedSimpArgs false
open Go Go.RowKit Go.Proofs.YtdljhokealbnnaaW.PrintWords Go.Proofs.YtdljhokealbnnaaW.PrintLast Go.Proofs.YtdljhokealbnnaaW.PrintMore

set_option maxHeartbeats 8000000 in
set_option maxRecDepth 100000 in
theorem l7_walk (T : S37 → ByteArray) (mo : Int) (w0 : World) : ∀ (x : S37) (A : Option Addr) (c : Nat) (w : World) (P0 : Nat → Prop) (v vt : Value) (ns : List S104) (ts : List ByteArray), TOk T x → x.f3.length ≤ c → Kd.C k37 w0 A x.f3.length x.f3 → Kd.S k104 104 w w0.heap.size P0 v ns → Kd.R Kd.string 9 w w0.heap.size (fun _ => True) vt ts → Below w0.heap.size w0 w → ns.length + allY x + 1 ≤ 1000 → ts.length + allY x + 1 ≤ 1000 →
    Calls Try.prog 71 #[.agg #[.int .i64 mo, v, .int .i64 0, .int .i64 0, .bool false], vt, .agg #[.int .i64 x.f0, .int .i64 x.f1, .int .i64 x.f2, .slice A x.f3.length c]] w fun e w' => ∃ v' vt' : Value, e = .returned (.tuple #[.agg (graphC mo v'), vt', .int .i64 (addT T x ns ts).2.2]) ∧ Kd.S k104 104 w' w0.heap.size (fun k => P0 k ∨ w.heap.size ≤ k) v' (addT T x ns ts).1 ∧ Kd.R Kd.string 9 w' w0.heap.size (fun _ => True) vt' (addT T x ns ts).2.1 ∧ (∀ k, vt'.ownBlock = some k → some k = vt.ownBlock ∨ w.heap.size ≤ k) ∧ Below w0.heap.size w0 w' ∧ Kept w w' (fun k => P0 k ∨ some k = vt.ownBlock) := by
  refine indI ?_
  intro x ih A c w P0 v vt ns ts hT hc hC hs ht hb hn hn2
  obtain ⟨AT, cT, eT⟩ := Kd.R_slice ht
  subst eT
  obtain ⟨kq, hkq⟩ := hT.here
  obtain ⟨kt, hkt⟩ := at_is (T x) ts (by omega)
  have HI := m0_ ih
  have HTK := m0_ hT.kid
  have HQ := m0_ hkq
  have HQT := m0_ hkt
  have HC := m0_ hc
  have HK := m0_ hC
  have HSN := m0_ hs
  have HTX := m0_ ht
  have HB := m0_ hb
  have HN := m0_ hn
  have HN2 := m0_ hn2
  have HKL := m0_ hC.2.1
  have HBW := m0_ (Below.refl w.heap.size w)
  have hu1_ := Try.underlying37
  have hu2_ := Try.underlying104
  have hu3_ := Try.underlying63
  clear ih hT hkq hkt hc hC hs ht hb hn hn2
  go_enter Try.func71, Try.ntmps71
  go_wp2_with (first | ((with_reducible refine gate_dst (N := 3) rfl ?_); refine box_event ?hg (N := 3) ?hd (cs := #[.int .i64 mo, v, .int .i64 0, .int .i64 0, .bool false]) (t := 63) ?hr ?_; (case hd => rfl); (case hg => rfl); (case hr => first | (go_simp; done) | (go_simp; rfl)); intro g3 hg wg3 hbox hb; have G3 := m0_ (by rw [hg]; exact HBW.out.size : w.heap.size ≤ g3); have n0_ := m0_ (below_step HBW.out hb); have n1_ := m0_ (hbox); clear HBW; have HBW := n0_; have BKg3 := n1_; clear n0_ n1_; clear hb hbox hg) | ((with_reducible refine gate_dst (N := 5) rfl ?_); refine box_event ?hg (N := 5) ?hd (cs := #[.int .i64 x.f0, .int .i64 x.f1, .int .i64 x.f2, .slice A x.f3.length c]) (t := 37) ?hr ?_; (case hd => rfl); (case hg => rfl); (case hr => first | (go_simp; done) | (go_simp; rfl)); intro g5 hg wg5 hbox hb; have G5 := m0_ (by rw [hg]; exact HBW.out.size : w.heap.size ≤ g5); have n0_ := m0_ ((by rw [hg]; exact Nat.ne_of_lt (blk_lt BKg3.out) : g3 ≠ g5)); have n1_ := m0_ (blk_below BKg3.out hb); have n2_ := m0_ (below_step HBW.out hb); have n3_ := m0_ (hbox); clear BKg3; clear HBW; have N35 := n0_; have BKg3 := n1_; have HBW := n2_; have BKg5 := n3_; clear n0_ n1_ n2_ n3_; clear hb hbox hg) | ((with_reducible refine gate_dst (N := 6) rfl ?_); refine box_event ?hg (N := 6) ?hd (cs := #[.int .i64 0, .slice none 0 0, .int .i64 0, .int .i64 0, .bool false]) (t := 63) ?hr ?_; (case hd => rfl); (case hg => rfl); (case hr => first | (go_simp; done) | (go_simp; rfl)); intro g6 hg wg6 hbox hb; have G6 := m0_ (by rw [hg]; exact HBW.out.size : w.heap.size ≤ g6); have n0_ := m0_ ((by rw [hg]; exact Nat.ne_of_lt (blk_lt BKg3.out) : g3 ≠ g6)); have n1_ := m0_ ((by rw [hg]; exact Nat.ne_of_lt (blk_lt BKg5.out) : g5 ≠ g6)); have n2_ := m0_ (blk_below BKg3.out hb); have n3_ := m0_ (blk_below BKg5.out hb); have n4_ := m0_ (below_step HBW.out hb); have n5_ := m0_ (hbox); clear BKg3; clear BKg5; clear HBW; have N36 := n0_; have N56 := n1_; have BKg3 := n2_; have BKg5 := n3_; have HBW := n4_; have BKg6 := n5_; clear n0_ n1_ n2_ n3_ n4_ n5_; clear hb hbox hg; have hz0 := (blk_cell BKg5.out 0).trans (show _ = some (Value.int .i64 x.f0) from rfl); have hz1 := (blk_cell BKg5.out 1).trans (show _ = some (Value.int .i64 x.f1) from rfl); have hz2 := (blk_cell BKg5.out 2).trans (show _ = some (Value.int .i64 x.f2) from rfl); have hz3 := (blk_cell BKg5.out 3).trans (show _ = some (Value.slice A x.f3.length c) from rfl)) | (go_at_call 101; fail))
  clear hz0 hz1 hz2 hz3
  refine (spec_l2Text.calls kq x.f0 x.f1 x.f2 A c x.f3 (T x) _ (Kd.C_below HK.out (below_step HB.out HBW.out)) HC.out HQ.out).mono ?_
  rintro e w4 ⟨rfl, hb⟩
  have n0_ := m0_ (blk_below BKg3.out hb)
  have n1_ := m0_ (blk_below BKg5.out hb)
  have n2_ := m0_ (blk_below BKg6.out hb)
  have n3_ := m0_ (below_step HBW.out hb)
  clear BKg3
  clear BKg5
  clear BKg6
  clear HBW
  have BKg3 := n0_
  have BKg5 := n1_
  have BKg6 := n2_
  have HBW := n3_
  clear n0_ n1_ n2_ n3_
  clear hb
  go_wp2_with (go_at_call 102; fail)
  refine (spec_l7At.calls kt AT cT ts (T x) _ _ (Kd.C_below (Kd.R_reads' HTX.out).2.2 HBW.out) (Kd.R_reads' HTX.out).2.1 HQT.out).mono ?_
  rintro e w5 ⟨rfl, hd⟩
  have hb := hd.below
  have n0_ := m0_ (blk_below BKg3.out hb)
  have n1_ := m0_ (blk_below BKg5.out hb)
  have n2_ := m0_ (blk_below BKg6.out hb)
  have n3_ := m0_ (below_step HBW.out hb)
  clear BKg3
  clear BKg5
  clear BKg6
  clear HBW
  have BKg3 := n0_
  have BKg5 := n1_
  have BKg6 := n2_
  have HBW := n3_
  clear n0_ n1_ n2_ n3_
  clear hb hd
  by_cases hi : 0 ≤ idxT (T x) ts 0
  · have i1 : decide (idxT (T x) ts 0 ≥ 0) = true := decide_eq_true hi
    have HAY := m0_ (show addT T x ns ts = (ns, ts, idxT (T x) ts 0) from by rw [addT_is, if_pos hi])
    obtain ⟨AV, cV, eV⟩ := Kd.S_slice HSN.out
    subst eV
    have hz0 := (blk_cell BKg3.out 0).trans (show _ = some (Value.int .i64 mo) from rfl)
    have hz1 := (blk_cell BKg3.out 1).trans (show _ = some (Value.slice AV ns.length cV) from rfl)
    have hz2 := (blk_cell BKg3.out 2).trans (show _ = some (Value.int .i64 0) from rfl)
    have hz3 := (blk_cell BKg3.out 3).trans (show _ = some (Value.int .i64 0) from rfl)
    have hz4 := (blk_cell BKg3.out 4).trans (show _ = some (Value.bool false) from rfl)
    go_wp2_with (first | ((with_reducible refine gate_store (t := 63) (p := 6) (v := .tmp 21) rfl ?_); refine store_blk (w0 := w) (base := w.heap.size) (e := 63) (g := g6) (off := 0) (cur := #[.int .i64 0, .slice none 0 0, .int .i64 0, .int .i64 0, .bool false]) (cur' := #[.int .i64 mo, .slice AV ns.length cV, .int .i64 0, .int .i64 0, .bool false]) (u := .agg #[.int .i64 mo, .slice AV ns.length cV, .int .i64 0, .int .i64 0, .bool false]) (seg := [.int .i64 mo, .slice AV ns.length cV, .int .i64 0, .int .i64 0, .bool false]) rfl rfl rfl rfl rfl BKg6.out rfl ?ht ?h1 (by simp) rfl HBW.out G6.out ?_; (case ht => kernel_rfl); (case h1 => intro q hq; simp only [List.mem_cons, List.not_mem_nil, or_false] at hq; first | (subst hq; rfl) | (rcases hq with rfl | rfl | rfl | rfl <;> rfl) | (rcases hq with rfl | rfl | rfl | rfl | rfl <;> rfl) | (rcases hq with rfl | rfl | rfl | rfl | rfl | rfl | rfl | rfl | rfl | rfl <;> rfl)); intro ws_ hs_ hk_ hB_; have n0_ := m0_ (hs_); have n1_ := m0_ (hB_); clear BKg6; clear HBW; have BKg6 := n0_; have HBW := n1_; clear n0_ n1_; clear hs_ hk_ hB_))
    refine bodyPost_ret (results_ctt rfl _ _ g6 63 #[.int .i64 mo, .slice AV ns.length cV, .int .i64 0, .int .i64 0, .bool false] (0, 0) _ rfl BKg6.out Try.underlying63 rfl (by kernel_rfl)) rfl ?_
    rw [HAY.out]
    exact ⟨_, _, rfl, Kd.S_mono (Kd.S_below HSN.out HBW.out) (fun k hk => .inl hk), Kd.R_below HTX.out HBW.out, (fun k hk => .inl hk.symm), below_step HB.out HBW.out, Kept.of_below HBW.out _⟩
  have i1 : decide (idxT (T x) ts 0 ≥ 0) = false := decide_eq_false hi
  have HAY := m0_ (show addT T x ns ts = ((addTL T x.f3 ns ts []).1 ++ [mkN x.f0 x.f1 x.f2 (addTL T x.f3 ns ts []).2.2], (addTL T x.f3 ns ts []).2.1 ++ [T x], ((addTL T x.f3 ns ts []).1.length : Int)) from by rw [addT_is, if_neg hi])
  clear hi
  have hz0 := (blk_cell BKg5.out 0).trans (show _ = some (Value.int .i64 x.f0) from rfl)
  have hz1 := (blk_cell BKg5.out 1).trans (show _ = some (Value.int .i64 x.f1) from rfl)
  have hz2 := (blk_cell BKg5.out 2).trans (show _ = some (Value.int .i64 x.f2) from rfl)
  have hz3 := (blk_cell BKg5.out 3).trans (show _ = some (Value.slice A x.f3.length c) from rfl)
  go_wp2_with (first | ((with_reducible refine gate_dst (N := 11) rfl ?_); refine box_event ?hg (N := 11) ?hd (cs := #[.int .i64 0, .int .i64 0, .int .i64 0, .slice none 0 0, .slice none 0 0, .slice none 0 0, .slice none 0 0, .slice none 0 0, .slice none 0 0, .int .i64 0]) (t := 104) ?hr ?_; (case hd => rfl); (case hg => rfl); (case hr => first | (go_simp; done) | (go_simp; rfl)); intro gb hg wgb hbox hb; clear hz0 hz1 hz2 hz3; have n0_ := m0_ ((by rw [hg]; exact Nat.ne_of_lt (blk_lt BKg3.out) : g3 ≠ gb)); have n1_ := m0_ ((by rw [hg]; exact Nat.ne_of_lt (blk_lt BKg5.out) : g5 ≠ gb)); have n2_ := m0_ ((by rw [hg]; exact Nat.ne_of_lt (blk_lt BKg6.out) : g6 ≠ gb)); have n3_ := m0_ ((by rw [hg]; exact HBW.out.size : w.heap.size ≤ gb)); have n4_ := m0_ (blk_below BKg3.out hb); have n5_ := m0_ (blk_below BKg5.out hb); have n6_ := m0_ (blk_below BKg6.out hb); have n7_ := m0_ (below_step HBW.out hb); have n8_ := m0_ (hbox); clear BKg3; clear BKg5; clear BKg6; clear HBW; have N3b := n0_; have N5b := n1_; have N6b := n2_; have GB := n3_; have BKg3 := n4_; have BKg5 := n5_; have BKg6 := n6_; have HBW := n7_; have BKgb := n8_; clear n0_ n1_ n2_ n3_ n4_ n5_ n6_ n7_ n8_; clear hb hbox hg) | ((with_reducible refine gate_store (t := 104) (p := 11) (v := .tmp 30) rfl ?_); refine store_blk (w0 := w) (base := w.heap.size) (e := 104) (g := gb) (off := 0) (cur := #[.int .i64 0, .int .i64 0, .int .i64 0, .slice none 0 0, .slice none 0 0, .slice none 0 0, .slice none 0 0, .slice none 0 0, .slice none 0 0, .int .i64 0]) (cur' := #[.int .i64 x.f0, .int .i64 x.f1, .int .i64 x.f2, .slice none 0 0, .slice none 0 0, .slice none 0 0, .slice none 0 0, .slice none 0 0, .slice none 0 0, .int .i64 0]) (u := .agg #[.int .i64 x.f0, .int .i64 x.f1, .int .i64 x.f2, .slice none 0 0, .slice none 0 0, .slice none 0 0, .slice none 0 0, .slice none 0 0, .slice none 0 0, .int .i64 0]) (seg := [.int .i64 x.f0, .int .i64 x.f1, .int .i64 x.f2, .slice none 0 0, .slice none 0 0, .slice none 0 0, .slice none 0 0, .slice none 0 0, .slice none 0 0, .int .i64 0]) rfl rfl rfl rfl rfl BKgb.out rfl ?ht ?h1 (by simp) rfl HBW.out GB.out ?_; (case ht => kernel_rfl); (case h1 => intro q hq; simp only [List.mem_cons, List.not_mem_nil, or_false] at hq; first | (subst hq; rfl) | (rcases hq with rfl | rfl | rfl | rfl <;> rfl) | (rcases hq with rfl | rfl | rfl | rfl | rfl <;> rfl) | (rcases hq with rfl | rfl | rfl | rfl | rfl | rfl | rfl | rfl | rfl | rfl <;> rfl)); intro ws_ hs_ hk_ hB_; have n0_ := m0_ (hs_); have n1_ := m0_ (blk_keep BKg3.out hk_ N3b.out); have n2_ := m0_ (blk_keep BKg5.out hk_ N5b.out); have n3_ := m0_ (blk_keep BKg6.out hk_ N6b.out); have n4_ := m0_ (hB_); clear BKgb; clear BKg3; clear BKg5; clear BKg6; clear HBW; have BKgb := n0_; have BKg3 := n1_; have BKg5 := n2_; have BKg6 := n3_; have HBW := n4_; clear n0_ n1_ n2_ n3_ n4_; clear hs_ hk_ hB_))
  have HS := m0_ (show AddTs w0 w _ g3 g5 g6 gb mo #[.int .i64 x.f0, .int .i64 x.f1, .int .i64 x.f2, .slice A x.f3.length c] x.f0 x.f1 x.f2 P0 (fun k => some k = (Value.slice AT ts.length cT).ownBlock) v (.slice none 0 0) (.slice none 0 0) (.slice AT ts.length cT) ns [] ts from ⟨⟨fun k => P0 k ∧ k < w.heap.size, fun k hk => ⟨.inl hk.1, (by have a_ := G3.out; have b_ := hk.2; omega), (by have a_ := G5.out; have b_ := hk.2; omega), (by have a_ := G6.out; have b_ := hk.2; omega), (by have a_ := GB.out; have b_ := hk.2; omega), (by simp [Value.ownBlock])⟩, Kd.S_below (Kd.S_mono (Kd.S_bound HSN.out) (fun k hk => ⟨hk.1, hk.2.2.1⟩)) HBW.out⟩, Kd.R_below HTX.out HBW.out, (fun k hk => .inl hk.symm), Kd.R_nil _ _ _ _ _, (fun k hk => by simp [Value.ownBlock] at hk), BKg3.out, BKg5.out, BKg6.out, BKgb.out, below_step HB.out HBW.out, Kept.of_below HBW.out _⟩)
  clear HSN HTX BKg3 BKg5 BKg6 BKgb HBW i1
  go_loopw [1, 12] (fun v1 v12 w' => ∃ n : Nat, n ≤ x.f3.length ∧ v12 = .int .i64 n ∧ ∃ (v vk : Value) (ns' : List S104) (ks : List Int) (ts' : List ByteArray), Aside0 (addTL T (x.f3.drop n) ns' ts' ks = addTL T x.f3 ns ts []) ∧ Aside0 (ns'.length + kidsY (x.f3.drop n) + (x.f3.drop n).length + 1 ≤ 1000 ∧ ts'.length + kidsY (x.f3.drop n) + (x.f3.drop n).length + 1 ≤ 1000) ∧ Aside0 (ks.length ≤ n) ∧ Aside0 (AddTs w0 w w' g3 g5 g6 gb mo #[.int .i64 x.f0, .int .i64 x.f1, .int .i64 x.f2, .slice A x.f3.length c] x.f0 x.f1 x.f2 P0 (fun k => some k = (Value.slice AT ts.length cT).ownBlock) v vk vk v1 ns' ks ts')) (fun _ v12 _ => x.f3.length - (intOf v12).toNat)
  case atStart =>
    exact ⟨0, Nat.zero_le _, rfl, v, _, ns, [], ts, ⟨by rw [List.drop_zero]⟩, ⟨by rw [List.drop_zero]; have a_ := HN.out; have b_ := HN2.out; rw [allY_is] at a_ b_; omega⟩, ⟨Nat.le_refl _⟩, HS⟩
  case round =>
    rename_i wr
    clear HS
    obtain ⟨n, hn, rfl, v, vk, ns', ks, ts', HE, HLN, HKS, HS⟩ := hrel
    have hkl := HKL.out
    have hK1000 := m0_ (show x.f3.length ≤ 1000 by have a_ := HN.out; rw [allY_is] at a_; omega)
    obtain ⟨AU, cU, eU⟩ := Kd.R_slice HS.out.tex
    subst eU
    by_cases hlt : n < x.f3.length
    · have hHB := HS.out.below
      obtain ⟨ad, A3, c3, e, k0, k1, k2, k3, hx6, hx7⟩ := at_T37 HK.out (n : Int) (by omega) (by omega)
      simp only [Int.toNat_natCast] at k0 k1 k2 k3
      have HRD := m0_ (show rd_T37 x.f3 (n : Int) = x.f3.getD n z37 from rfl)
      have HMEM := m0_ (show rd_T37 x.f3 (n : Int) ∈ x.f3 from by rw [HRD.out, List.getD_eq_getElem?_getD, List.getElem?_eq_getElem hlt]; exact List.getElem_mem _)
      have hdr := kidsY_drop x.f3 n hlt
      rw [← HRD.out] at hdr
      have HDR := m0_ hdr
      have HX6 := m0_ hx6
      have HKX := m0_ hx7
      clear hx6 hx7 hdr hHB
      generalize rd_T37 x.f3 (n : Int) = y at *
      have K0 := m0_ k0
      have K1 := m0_ k1
      have K2 := m0_ k2
      have K3 := m0_ k3
      clear k0 k1 k2 k3
      subst e
      have hln := addT_len T y ns' ts'
      have HLY := m0_ (show ns'.length + allY y + 1 ≤ 1000 ∧ ts'.length + allY y + 1 ≤ 1000 from by have q1 := HLN.out; rw [HDR.out, kidsY_cons, List.length_cons] at q1; omega)
      have HLZ := m0_ (show (addT T y ns' ts').1.length + kidsY (x.f3.drop (n + 1)) + (x.f3.drop (n + 1)).length + 1 ≤ 1000 ∧ (addT T y ns' ts').2.1.length + kidsY (x.f3.drop (n + 1)) + (x.f3.drop (n + 1)).length + 1 ≤ 1000 from by have q1 := HLN.out; rw [HDR.out, kidsY_cons, List.length_cons] at q1; omega)
      have HE2 := m0_ (show addTL T (x.f3.drop (n + 1)) (addT T y ns' ts').1 (addT T y ns' ts').2.1 (ks ++ [(addT T y ns' ts').2.2]) = addTL T x.f3 ns ts [] from by rw [← HE.out, HDR.out, addTL_cons])
      have HK2 := m0_ (show (ks ++ [(addT T y ns' ts').2.2]).length ≤ n + 1 from by rw [List.length_append, List.length_singleton]; have a_ := HKS.out; omega)
      clear HE HLN hln
      have l1 : decide ((n : Int) < (x.f3.length : Int)) = true := decide_eq_true (by omega)
      have l2 : (n : Int) < (x.f3.length : Int) := by omega
      have l3 : (0 : Int) ≤ (n : Int) := by omega
      have hx3 := (blk_cell HS.out.b5 3).trans (show _ = some (Value.slice (some ad) x.f3.length c) from rfl)
      go_upto_region 10 with (fail)
      clear hx3
      have HS2 := m0_ HS.out.drew
      clear HS
      obtain ⟨P, hP, hs⟩ := HS2.out.ex
      have HPP := m0_ hP
      have HSS := m0_ hs
      clear hP hs
      refine start_ (n := 15) (S := fun w' => w'.cell? ⟨g3, 0, none⟩ = some (.int .i64 mo) ∧ w'.cell? ⟨g3, 1, none⟩ = some (v) ∧ w'.cell? ⟨g3, 2, none⟩ = some (.int .i64 0) ∧ w'.cell? ⟨g3, 3, none⟩ = some (.int .i64 0) ∧ w'.cell? ⟨g3, 4, none⟩ = some (.bool false) ∧ w'.cell? ⟨g5, 3, none⟩ = some (.slice (some ad) x.f3.length c) ∧ w'.cell? (ad.add (n * 4)) = some (.int .i64 y.f0) ∧ w'.cell? ⟨(ad.add (n * 4)).block, (ad.add (n * 4)).off + 1, none⟩ = some (.int .i64 y.f1) ∧ w'.cell? ⟨(ad.add (n * 4)).block, (ad.add (n * 4)).off + 2, none⟩ = some (.int .i64 y.f2) ∧ w'.cell? ⟨(ad.add (n * 4)).block, (ad.add (n * 4)).off + 3, none⟩ = some (.slice A3 y.f3.length c3)) (ds := [7, 12]) #[false, false, false, false, false, false, false, false, false, false, false, false, false, false, false] (by kernel_rfl) rfl rfl ⟨(blk_cell HS2.out.b3 0).trans rfl, (blk_cell HS2.out.b3 1).trans rfl, (blk_cell HS2.out.b3 2).trans rfl, (blk_cell HS2.out.b3 3).trans rfl, (blk_cell HS2.out.b3 4).trans rfl, (blk_cell HS2.out.b5 3).trans rfl, (HS2.out.below.cell (World.block_lt_of_cell? _ _ K0.out)).trans K0.out, (HS2.out.below.cell (World.block_lt_of_cell? _ _ K1.out)).trans K1.out, (HS2.out.below.cell (World.block_lt_of_cell? _ _ K2.out)).trans K2.out, (HS2.out.below.cell (World.block_lt_of_cell? _ _ K3.out)).trans K3.out⟩ (fun hHeld => ?_)
      refine pv_ 1 40 #[false, true, false, false, false, false, false, false, false, false, false, false, false, false, false] (by kernel_rfl) ?_
      refine pv_ 2 41 #[false, true, true, false, false, false, false, false, false, false, false, false, false, false, false] (by kernel_rfl) ?_
      refine pv_ 4 43 #[false, true, true, false, true, false, false, false, false, false, false, false, false, false, false] (by kernel_rfl) ?_
      refine take_ (i := 0) (N := some 39) (v := ?_) (a' := ?_) #[true, true, true, false, true, false, false, false, false, false, false, false, false, false, false] rfl rfl (by kernel_rfl) (fun _ _ _ h => h) (Or.inl ⟨by rfl, ?_⟩) hHeld ?_ ?_
      rotate_left
      · rintro w' ⟨s0, s1, s2, s3, s4, s5, s6, s7, s8, s9⟩
        go_simp
        with_reducible rfl
      rotate_left
      · simp only [Act.put, List.setIfInBounds_toArray, List.set_cons_zero, List.set_cons_succ, i64_w, i32_w]
        rfl
      refine take_ (i := 3) (N := some 42) (v := ?_) (a' := ?_) #[true, true, true, true, true, false, false, false, false, false, false, false, false, false, false] rfl rfl (by kernel_rfl) (fun _ _ _ h => h) (Or.inl ⟨by rfl, ?_⟩) hHeld ?_ ?_
      rotate_left
      · rintro w' ⟨s0, s1, s2, s3, s4, s5, s6, s7, s8, s9⟩
        go_simp
        with_reducible rfl
      rotate_left
      · simp only [Act.put, List.setIfInBounds_toArray, List.set_cons_zero, List.set_cons_succ, i64_w, i32_w]
        rfl
      refine pv_ 5 44 #[true, true, true, true, true, true, false, false, false, false, false, false, false, false, false] (by kernel_rfl) ?_
      refine take_ (i := 6) (N := some 45) (v := ?_) (a' := ?_) #[true, true, true, true, true, true, true, false, false, false, false, false, false, false, false] rfl rfl (by kernel_rfl) (fun _ _ _ h => h) (Or.inl ⟨by rfl, ?_⟩) hHeld ?_ ?_
      rotate_left
      · rintro w' ⟨s0, s1, s2, s3, s4, s5, s6, s7, s8, s9⟩
        go_simp
        with_reducible rfl
      rotate_left
      · simp only [Act.put, List.setIfInBounds_toArray, List.set_cons_zero, List.set_cons_succ, i64_w, i32_w]
        rfl
      refine last_ (i := 7) (N := some 46) #[true, true, true, true, true, true, true, true, false, false, false, false, false, false, false] rfl rfl (by kernel_rfl) (by decide) (fun K hK => ?_)
      refine goes_ Try.func71 (by kernel_rfl) rfl #[.agg #[.int .i64 mo, v, .int .i64 0, .int .i64 0, .bool false], .slice AU ts'.length cU, .agg #[.int .i64 y.f0, .int .i64 y.f1, .int .i64 y.f2, .slice A3 y.f3.length c3]] (by rfl) rfl rfl (by simp only [List.map_toArray, List.map_cons, List.map_nil]; rfl) ?_
      with_reducible refine (HI.out y HMEM.out A3 c3 _ P v (.slice AU ts'.length cU) ns' ts' (HTK.out y HMEM.out) HX6.out HKX.out HSS.out HS2.out.tex HS2.out.below HLY.out.1 HLY.out.2).mono ?_
      rintro e w3 ⟨v2, vt2, rfl, hs2, ht2, hto2, hb2, hk2⟩
      refine ⟨_, rfl, ?_⟩
      obtain ⟨A8, c8, e8⟩ := Kd.S_slice hs2
      obtain ⟨A9, c9, e9⟩ := Kd.R_slice ht2
      subst e8
      subst e9
      have B3_ := m0_ (AddTs.keep3 HS2.out HPP.out hk2)
      have HS3_ := AddTs.call HS2.out HPP.out G3.out N35.out N36.out N3b.out HB.out.size hs2 ht2 hto2 hb2 hk2
      clear HS2 HSS hs2 ht2 hto2 hb2 hk2
      refine hK.out _ _ ?_
      clear hK K
      refine norm_ (a' := ?_) ?_ ?_
      rotate_left
      · show Act.put _ (some 46) _ = _
        simp only [Act.put, List.setIfInBounds_toArray, List.set_cons_zero, List.set_cons_succ, i64_w, i32_w]
        rfl
      refine pv_ 8 38 #[true, true, true, true, true, true, true, true, true, false, false, false, false, false, false] (by kernel_rfl) ?_
      refine pv_ 9 47 #[true, true, true, true, true, true, true, true, true, true, false, false, false, false, false] (by kernel_rfl) ?_
      refine pv_ 10 48 #[true, true, true, true, true, true, true, true, true, true, true, false, false, false, false] (by kernel_rfl) ?_
      refine pv_ 11 49 #[true, true, true, true, true, true, true, true, true, true, true, true, false, false, false] (by kernel_rfl) ?_
      refine last_ (i := 12) (N := none) #[true, true, true, true, true, true, true, true, true, true, true, true, true, false, false] rfl rfl (by kernel_rfl) (by decide) (fun K hK => ?_)
      refine store_step (W1 := w3.setRow g3 #[.int .i64 mo, .slice A8 (addT T y ns' ts').1.length c8, .int .i64 0, .int .i64 0, .bool false]) (by rfl) rfl (store_run (e := 63) (g := g3) (off := 0) (cur := #[.int .i64 mo, v, .int .i64 0, .int .i64 0, .bool false]) (cur' := #[.int .i64 mo, .slice A8 (addT T y ns' ts').1.length c8, .int .i64 0, .int .i64 0, .bool false]) (u := .agg #[.int .i64 mo, .slice A8 (addT T y ns' ts').1.length c8, .int .i64 0, .int .i64 0, .bool false]) (seg := [.int .i64 mo, .slice A8 (addT T y ns' ts').1.length c8, .int .i64 0, .int .i64 0, .bool false]) rfl rfl rfl B3_.out rfl ?ht ?h1 (by simp) rfl) ?_
      (case ht => kernel_rfl)
      (case h1 => intro q hq; simp only [List.mem_cons, List.not_mem_nil, or_false] at hq; first | (subst hq; rfl) | (rcases hq with rfl | rfl | rfl | rfl <;> rfl) | (rcases hq with rfl | rfl | rfl | rfl | rfl <;> rfl) | (rcases hq with rfl | rfl | rfl | rfl | rfl | rfl | rfl | rfl | rfl | rfl <;> rfl))
      intro wS eS
      rw [show w3.setRow g3 (graphC mo (.slice A8 (addT T y ns' ts').1.length c8)) = wS from eS.symm] at HS3_
      have HS3 := m0_ HS3_
      clear B3_ HS3_ eS
      refine hK.out _ _ ?_
      clear hK K
      refine pv_ 13 1 #[true, true, true, true, true, true, true, true, true, true, true, true, true, true, false] (by kernel_rfl) ?_
      refine pv_ 14 13 #[true, true, true, true, true, true, true, true, true, true, true, true, true, true, true] (by kernel_rfl) ?_
      refine done_ (by kernel_rfl) ?_
      have hk_ := (show wS.cell? ⟨gb, 3, none⟩ = some vk from (blk_cell HS3.out.bn 3).trans rfl)
      go_upto_region 11 with (fail)
      go_wp2_with (first | ((with_reducible refine gate_builtin (b := .append) (xs := #[.tmp 51, .tmp 53]) rfl ?_); at_builtin; clear hk_; refine Kd.R_append (Kd.int .i64) (w0 := w0) w0.heap.size ?aG (.tmp 51) (.tmp 53) 45 3 (.int .i64 0) 8 ?aH Try.underlying45 info3 rfl (by decide) (by omega) vk ks (addT T y ns' ts').2.2 [.int .i64 (addT T y ns' ts').2.2] (fun _ => True) (fun _ => False) ?aX ?aY ?aP (fun _ hk => hk.elim) ?aF ?aO ?aB ?aS ?aL ?_; (case aG => rfl); (case aH => rfl); (case aX => rfl); (case aY => rfl); (case aP => exact rfl); (case aF => exact (fun _ _ => trivial)); (case aO => exact HS3.out.row); (case aB => exact HS3.out.below); (case aS => exact HS3.out.below.size); (case aL => have a_ := HKS.out; have b_ := hK1000.out; omega); intro v1 w4 ho hb hg hat; have HS4 := m0_ (AddTs.grow HS3.out ho hb hg hat); clear HS3 ho hb hg hat; obtain ⟨A1, c1, e1⟩ := Kd.R_slice HS4.out.row; rw [List.length_append, List.length_singleton] at e1; subst e1) | ((with_reducible refine gate_store (t := 45) (p := 55) (v := .tmp 54) rfl ?_); refine store_blk (w0 := w0) (base := w0.heap.size) (e := 104) (g := gb) (off := 3) (cur := #[.int .i64 x.f0, .int .i64 x.f1, .int .i64 x.f2, vk, .slice none 0 0, .slice none 0 0, .slice none 0 0, .slice none 0 0, .slice none 0 0, .int .i64 0]) (cur' := #[.int .i64 x.f0, .int .i64 x.f1, .int .i64 x.f2, .slice A1 (ks.length + 1) c1, .slice none 0 0, .slice none 0 0, .slice none 0 0, .slice none 0 0, .slice none 0 0, .int .i64 0]) (u := .slice A1 (ks.length + 1) c1) (seg := [.slice A1 (ks.length + 1) c1]) rfl rfl rfl rfl rfl HS4.out.bn rfl ?ht ?h1 (by simp) rfl HS4.out.below (Nat.le_trans HB.out.size GB.out) ?_; (case ht => kernel_rfl); (case h1 => intro q hq; simp only [List.mem_cons, List.not_mem_nil, or_false] at hq; first | (subst hq; rfl) | (rcases hq with rfl | rfl | rfl | rfl <;> rfl) | (rcases hq with rfl | rfl | rfl | rfl | rfl <;> rfl) | (rcases hq with rfl | rfl | rfl | rfl | rfl | rfl | rfl | rfl | rfl | rfl <;> rfl)); intro ws_ hs_ hk_ hB_; have HS5 := m0_ (AddTs.set HS4.out N3b.out N5b.out N6b.out GB.out hk_ hs_ hB_); clear HS4 hs_ hk_ hB_))
      go_roundw
      case rel => exact ⟨n + 1, by omega, by go_num, _, _, _, _, _, HE2, HLZ, HK2, HS5⟩
      case measure => simp [intOf]; omega
    have l1 : decide ((n : Int) < (x.f3.length : Int)) = false := decide_eq_false (by omega)
    have l2 : ¬ (n : Int) < (x.f3.length : Int) := by omega
    have HE2 := m0_ (show (ns', ts', ks) = addTL T x.f3 ns ts [] from by rw [← HE.out, List.drop_of_length_le (by omega), addTL_nil])
    have HLE := m0_ (show ns'.length ≤ 1000 ∧ ts'.length ≤ 1000 from by have a_ := HLN.out; omega)
    have HAZ := m0_ (show addT T x ns ts = (ns' ++ [mkN x.f0 x.f1 x.f2 ks], ts' ++ [T x], (ns'.length : Int)) from by rw [HAY.out, ← HE2.out])
    clear HE HLN HE2 HAY
    obtain ⟨P, hP, hs⟩ := HS.out.ex
    obtain ⟨AV, cV, eV⟩ := Kd.S_slice hs
    subst eV
    obtain ⟨AK, cK, eK⟩ := Kd.R_slice HS.out.row
    subst eK
    have HPP := m0_ hP
    have HSS := m0_ hs
    clear hP hs
    have hx3 := (blk_cell HS.out.b5 3).trans (show _ = some (Value.slice A x.f3.length c) from rfl)
    have hg1 := (blk_cell HS.out.b3 1).trans (show _ = some (Value.slice AV ns'.length cV) from rfl)
    have hn0 := (blk_cell HS.out.bn 0).trans (show _ = some (Value.int .i64 x.f0) from rfl)
    have hn1 := (blk_cell HS.out.bn 1).trans (show _ = some (Value.int .i64 x.f1) from rfl)
    have hn2 := (blk_cell HS.out.bn 2).trans (show _ = some (Value.int .i64 x.f2) from rfl)
    have hn3 := (blk_cell HS.out.bn 3).trans (show _ = some (Value.slice AK ks.length cK) from rfl)
    have hn4 := (blk_cell HS.out.bn 4).trans (show _ = some (Value.slice none 0 0) from rfl)
    have hn5 := (blk_cell HS.out.bn 5).trans (show _ = some (Value.slice none 0 0) from rfl)
    have hn6 := (blk_cell HS.out.bn 6).trans (show _ = some (Value.slice none 0 0) from rfl)
    have hn7 := (blk_cell HS.out.bn 7).trans (show _ = some (Value.slice none 0 0) from rfl)
    have hn8 := (blk_cell HS.out.bn 8).trans (show _ = some (Value.slice none 0 0) from rfl)
    have hn9 := (blk_cell HS.out.bn 9).trans (show _ = some (Value.int .i64 0) from rfl)
    go_upto_region 13 with (first | ((with_reducible refine gate_builtin (b := .append) (xs := #[.tmp 57, .tmp 59]) rfl ?_); at_builtin; clear hx3 hg1 hn0 hn1 hn2 hn3 hn4 hn5 hn6 hn7 hn8 hn9; refine Kd.S_append k104 (w0 := w0) w0.heap.size ?aG (.tmp 57) (.tmp 59) 61 104 (.agg #[(.int .i64 0), (.int .i64 0), (.int .i64 0), (.slice none 0 0), (.slice none 0 0), (.slice none 0 0), (.slice none 0 0), (.slice none 0 0), (.slice none 0 0), (.int .i64 0)]) 176 ?aH Try.underlying61 info104 rfl (by decide) (by omega) (.slice AV ns'.length cV) ns' (mkN x.f0 x.f1 x.f2 ks) [.int .i64 x.f0, .int .i64 x.f1, .int .i64 x.f2, .slice AK ks.length cK, .slice none 0 0, .slice none 0 0, .slice none 0 0, .slice none 0 0, .slice none 0 0, .int .i64 0] (fun k => P k ∨ some k = (Value.slice AK ks.length cK).ownBlock ∨ (w.heap.size ≤ k ∧ k ≠ g3 ∧ k ≠ g6)) (fun k => some k = (Value.slice AK ks.length cK).ownBlock) ?aX ?aY ?aP ?aK ?aF ?aO ?aB ?aS ?aL ?_; (case aG => rfl); (case aH => rfl); (case aX => rfl); (case aY => rfl); (case aP => exact node_M x.f0 x.f1 x.f2 (Kd.R_tight rfl HS.out.row)); (case aK => exact fun k hk => ⟨.inr (.inl hk), fun e_ => (HPP.out k (HSS.out.choose_spec.1 k e_.symm)).2.2.2.2.2 hk.symm⟩); (case aF => exact fun k hk => .inr (.inr ⟨Nat.le_trans HS.out.kept.1 hk, by have a_ := blk_lt HS.out.b3; omega, by have a_ := blk_lt HS.out.b6; omega⟩)); (case aO => exact Kd.S_mono HSS.out (fun k hk => ⟨.inl hk, fun e_ => (HPP.out k hk).2.2.2.2.2 e_.symm⟩)); (case aB => exact HS.out.below); (case aS => exact HS.out.below.size); (case aL => have a_ := HLE.out; omega); intro v1 w8 ho hb hg hat; obtain ⟨A1, c1, e1⟩ := Kd.S_slice ho; rw [List.length_append, List.length_singleton] at e1; subst e1; have HNW := m0_ (Kd.S_mono (ok' := fun k => (P0 k ∨ w.heap.size ≤ k) ∧ k ≠ g3 ∧ k ≠ g6) ho (fun k hk => by rcases hk with q | q | q; exact ⟨(HPP.out k q).1, (HPP.out k q).2.1, (HPP.out k q).2.2.2.1⟩; exact ⟨.inr (HS.out.own k q.symm).1, (HS.out.own k q.symm).2.1, (HS.out.own k q.symm).2.2.2.1⟩; exact ⟨.inr q.1, q.2.1, q.2.2⟩)); have HBN := m0_ hb; have B3 := m0_ (blk_grown HS.out.b3 hg (fun e_ => (HPP.out _ (HSS.out.choose_spec.1 _ e_.symm)).2.1 rfl)); have B6 := m0_ (blk_grown HS.out.b6 hg (fun e_ => (HPP.out _ (HSS.out.choose_spec.1 _ e_.symm)).2.2.2.1 rfl)); have HKN := m0_ (Kept.of_grown hg HS.out.kept (fun k hk => by rcases (HPP.out k (HSS.out.choose_spec.1 k hk)).1 with q | q; exact .inl (.inl q); exact .inr q)); have HTX := m0_ (Kd.R_over' HS.out.tex (Kd.S_typed HSS.out) (by decide) hg); have HTO := m0_ HS.out.town; clear HS HSS ho hb hg hat) | ((with_reducible refine gate_store (t := 61) (p := 61) (v := .tmp 60) rfl ?_); refine store_blk (w0 := w0) (base := w0.heap.size) (e := 63) (g := g3) (off := 1) (cur := #[.int .i64 mo, .slice AV ns'.length cV, .int .i64 0, .int .i64 0, .bool false]) (cur' := #[.int .i64 mo, .slice A1 (ns'.length + 1) c1, .int .i64 0, .int .i64 0, .bool false]) (u := .slice A1 (ns'.length + 1) c1) (seg := [.slice A1 (ns'.length + 1) c1]) rfl rfl rfl rfl rfl B3.out rfl ?ht ?h1 (by simp) rfl HBN.out (Nat.le_trans HB.out.size G3.out) ?_; (case ht => kernel_rfl); (case h1 => intro q hq; simp only [List.mem_cons, List.not_mem_nil, or_false] at hq; first | (subst hq; rfl) | (rcases hq with rfl | rfl | rfl | rfl <;> rfl) | (rcases hq with rfl | rfl | rfl | rfl | rfl <;> rfl) | (rcases hq with rfl | rfl | rfl | rfl | rfl | rfl | rfl | rfl | rfl | rfl <;> rfl)); intro ws_ hs_ hk_ hB_; have n0_ := m0_ (Kd.R_mono (Kd.R_keep (Kd.R_types HTX.out B3.out (by decide)) hk_ (fun k hk => hk.2)) (fun _ _ => trivial)); have n1_ := m0_ (hs_); have n2_ := m0_ (blk_keep B6.out hk_ (Ne.symm N36.out)); have n3_ := m0_ (Kd.S_keep HNW.out hk_ (fun k hk => hk.2.1)); have n4_ := m0_ (Kept.of_keep HKN.out hk_ (.inr G3.out)); have n5_ := m0_ (hB_); clear HTX; clear B3; clear B6; clear HNW; clear HKN; clear HBN; have HTX := n0_; have B3 := n1_; have B6 := n2_; have HNW := n3_; have HKN := n4_; have HBN := n5_; clear n0_ n1_ n2_ n3_ n4_ n5_; clear hs_ hk_ hB_))
    have n0_ := m0_ (blk_drew B3.out)
    have n1_ := m0_ (blk_drew B6.out)
    have n2_ := m0_ (Kd.S_drew HNW.out)
    have n3_ := m0_ (Kd.R_drew HTX.out)
    have n4_ := m0_ (HKN.out.drew)
    have n5_ := m0_ (below_drew HBN.out)
    clear B3
    clear B6
    clear HNW
    clear HTX
    clear HKN
    clear HBN
    have B3 := n0_
    have B6 := n1_
    have HNW := n2_
    have HTX := n3_
    have HKN := n4_
    have HBN := n5_
    clear n0_ n1_ n2_ n3_ n4_ n5_
    refine start_ (n := 12) (S := fun w' => w'.cell? ⟨g3, 0, none⟩ = some (.int .i64 mo) ∧ w'.cell? ⟨g3, 1, none⟩ = some (.slice A1 (ns'.length + 1) c1) ∧ w'.cell? ⟨g3, 2, none⟩ = some (.int .i64 0) ∧ w'.cell? ⟨g3, 3, none⟩ = some (.int .i64 0) ∧ w'.cell? ⟨g3, 4, none⟩ = some (.bool false)) (ds := []) #[false, false, false, false, false, false, false, false, false, false, false, false] (by kernel_rfl) rfl rfl ⟨(blk_cell (B3.out) 0).trans rfl, (blk_cell (B3.out) 1).trans rfl, (blk_cell (B3.out) 2).trans rfl, (blk_cell (B3.out) 3).trans rfl, (blk_cell (B3.out) 4).trans rfl⟩ (fun hHeld => ?_)
    refine pv_ 1 63 #[false, true, false, false, false, false, false, false, false, false, false, false] (by kernel_rfl) ?_
    refine pv_ 2 64 #[false, true, true, false, false, false, false, false, false, false, false, false] (by kernel_rfl) ?_
    refine pv_ 5 67 #[false, true, true, false, false, true, false, false, false, false, false, false] (by kernel_rfl) ?_
    refine take_ (i := 0) (N := some 62) (v := ?_) (a' := ?_) #[true, true, true, false, false, true, false, false, false, false, false, false] rfl rfl (by kernel_rfl) (fun _ _ _ h => h) (Or.inl ⟨by rfl, ?_⟩) hHeld ?_ ?_
    rotate_left
    · rintro w' ⟨s0, s1, s2, s3, s4⟩
      go_simp
      with_reducible rfl
    rotate_left
    · simp only [Act.put, List.setIfInBounds_toArray, List.set_cons_zero, List.set_cons_succ, i64_w, i32_w]
      rfl
    refine take_ (i := 6) (N := some 68) (v := ?_) (a' := ?_) #[true, true, true, false, false, true, true, false, false, false, false, false] rfl rfl (by kernel_rfl) (fun _ _ _ h => h) (Or.inl ⟨by rfl, ?_⟩) hHeld ?_ ?_
    rotate_left
    · rintro w' ⟨s0, s1, s2, s3, s4⟩
      go_simp
      with_reducible rfl
    rotate_left
    · simp only [Act.put, List.setIfInBounds_toArray, List.set_cons_zero, List.set_cons_succ, i64_w, i32_w]
      rfl
    refine pv_ 7 69 #[true, true, true, false, false, true, true, true, false, false, false, false] (by kernel_rfl) ?_
    refine pv_ 8 70 #[true, true, true, false, false, true, true, true, true, false, false, false] (by kernel_rfl) ?_
    refine one_ (i := 3) (N := some 65) #[true, true, true, true, false, true, true, true, true, false, false, false] rfl rfl (by kernel_rfl) (by decide) (fun K hK => ?_)
    refine value_ (w1 := ws_.drew.alloc (.cells #[.string (T x)] 9)) (v := .slice (some ⟨ws_.heap.size, 0, none⟩) 1 1) (by rfl) rfl ?_ ?_
    · go_simp
      first | done | rfl | (constructor <;> rfl)
    refine hK.out _ _ ⟨(blk_cell (blk_alloc B3.out _) 0).trans rfl, (blk_cell (blk_alloc B3.out _) 1).trans rfl, (blk_cell (blk_alloc B3.out _) 2).trans rfl, (blk_cell (blk_alloc B3.out _) 3).trans rfl, (blk_cell (blk_alloc B3.out _) 4).trans rfl⟩ (fun hHeld => ?_)
    clear hK K
    refine norm_ (a' := ?_) ?_ ?_
    rotate_left
    · show Act.put _ (some 65) _ = _
      simp only [Act.put, List.setIfInBounds_toArray, List.set_cons_zero, List.set_cons_succ, i64_w, i32_w]
      rfl
    refine one_ (i := 4) (N := some 66) #[true, true, true, true, true, true, true, true, true, false, false, false] rfl rfl (by kernel_rfl) (by decide) (fun K hK => ?_)
    refine Kd.R_append_step Kd.string (w0 := w0) w0.heap.size ?aW (.tmp 63) (.tmp 65) 91 9 (.string ⟨#[]⟩) 16 ?aH Try.underlying91 info9 rfl (by decide) (by omega) (.slice AU ts'.length cU) ts' (T x) [.string (T x)] (fun _ => True) (fun _ => False) ?aX ?aY ?aP (fun _ hk => hk.elim) ?aF ?aO ?aB ?aS ?aL ?_
    (case aW => rfl)
    (case aH => rfl)
    (case aX => rfl)
    (case aY => rfl)
    (case aP => exact rfl)
    (case aF => exact (fun _ _ => trivial))
    (case aO => exact HTX.out)
    (case aB => exact HBN.out)
    (case aS => exact HBN.out.size)
    (case aL => have a_ := HLE.out; omega)
    intro v5 w9 ho hb hg hat
    have HTO2 := m0_ (show ∀ k, v5.ownBlock = some k → some k = (Value.slice AT ts.length cT).ownBlock ∨ w.heap.size ≤ k from fun k e_ => by rcases hat with q | ⟨b, q, q2⟩; (rw [q] at e_; exact HTO.out k e_); (rw [q] at e_; injection e_ with e_; subst e_; exact .inr (Nat.le_trans HKN.out.1 q2)))
    have n0_ := m0_ (Kd.S_over' HNW.out (Kd.R_typed HTX.out) (by decide) hg)
    have n1_ := m0_ (blk_grown B3.out hg (Kd.R_ne HTX.out B3.out (by decide)))
    have n2_ := m0_ (blk_grown B6.out hg (Kd.R_ne HTX.out B6.out (by decide)))
    have n3_ := m0_ (Kept.of_grown hg HKN.out (fun k hk => by rcases HTO.out k hk with q | q; exact .inl (.inr q); exact .inr q))
    have n4_ := m0_ (ho)
    have n5_ := m0_ (hb)
    clear HNW
    clear B3
    clear B6
    clear HKN
    clear HTX
    clear HBN
    have HNW := n0_
    have B3 := n1_
    have B6 := n2_
    have HKN := n3_
    have HTX := n4_
    have HBN := n5_
    clear n0_ n1_ n2_ n3_ n4_ n5_
    clear ho hb hg hat HTO
    obtain ⟨A7, c7, e7⟩ := Kd.R_slice HTX.out
    rw [List.length_append, List.length_singleton] at e7
    subst e7
    refine hK.out _ _ ⟨(blk_cell (B3.out) 0).trans rfl, (blk_cell (B3.out) 1).trans rfl, (blk_cell (B3.out) 2).trans rfl, (blk_cell (B3.out) 3).trans rfl, (blk_cell (B3.out) 4).trans rfl⟩ (fun hHeld => ?_)
    clear hK K
    refine norm_ (a' := ?_) ?_ ?_
    rotate_left
    · show Act.put _ (some 66) _ = _
      simp only [Act.put, List.setIfInBounds_toArray, List.set_cons_zero, List.set_cons_succ, i64_w, i32_w]
      rfl
    refine one_ (i := 9) (N := none) #[true, true, true, true, true, true, true, true, true, true, false, false] rfl rfl (by kernel_rfl) (by decide) (fun K hK => ?_)
    refine skip_ (w1 := w9.setRow g6 #[.int .i64 mo, .slice A1 (ns'.length + 1) c1, .int .i64 0, .int .i64 0, .bool false]) (by rfl) rfl (store_run (e := 63) (g := g6) (off := 0) (cur := #[.int .i64 0, .slice none 0 0, .int .i64 0, .int .i64 0, .bool false]) (cur' := #[.int .i64 mo, .slice A1 (ns'.length + 1) c1, .int .i64 0, .int .i64 0, .bool false]) (u := .agg #[.int .i64 mo, .slice A1 (ns'.length + 1) c1, .int .i64 0, .int .i64 0, .bool false]) (seg := [.int .i64 mo, .slice A1 (ns'.length + 1) c1, .int .i64 0, .int .i64 0, .bool false]) rfl rfl rfl B6.out rfl ?ht ?h1 (by simp) rfl) ?_
    (case ht => kernel_rfl)
    (case h1 => intro q hq; simp only [List.mem_cons, List.not_mem_nil, or_false] at hq; first | (subst hq; rfl) | (rcases hq with rfl | rfl | rfl | rfl <;> rfl) | (rcases hq with rfl | rfl | rfl | rfl | rfl <;> rfl) | (rcases hq with rfl | rfl | rfl | rfl | rfl | rfl | rfl | rfl | rfl | rfl <;> rfl))
    have kb_ := keep_setRow (w := w9) (g := g6) #[.int .i64 mo, .slice A1 (ns'.length + 1) c1, .int .i64 0, .int .i64 0, .bool false]
    have n0_ := m0_ (Kd.S_keep HNW.out kb_ (fun k hk => hk.2.2))
    have n1_ := m0_ (blk_keep B3.out kb_ N36.out)
    have n2_ := m0_ (Kd.R_mono (Kd.R_keep (Kd.R_types HTX.out B6.out (by decide)) kb_ (fun k hk => hk.2)) (fun _ _ => trivial))
    have n3_ := m0_ ((show (w9.setRow g6 #[.int .i64 mo, .slice A1 (ns'.length + 1) c1, .int .i64 0, .int .i64 0, .bool false]).heap[g6]? = some (.cells #[.int .i64 mo, .slice A1 (ns'.length + 1) c1, .int .i64 0, .int .i64 0, .bool false] 63 (0, 0)) from setRow_heap w9 g6 _ _ _ _ B6.out))
    have n4_ := m0_ (Kept.of_keep HKN.out kb_ (.inr G6.out))
    have n5_ := m0_ (below_setRow HBN.out (Nat.le_trans HB.out.size G6.out) #[.int .i64 mo, .slice A1 (ns'.length + 1) c1, .int .i64 0, .int .i64 0, .bool false])
    clear HNW
    clear B3
    clear HTX
    clear B6
    clear HKN
    clear HBN
    have HNW := n0_
    have B3 := n1_
    have HTX := n2_
    have B6 := n3_
    have HKN := n4_
    have HBN := n5_
    clear n0_ n1_ n2_ n3_ n4_ n5_
    clear kb_
    refine hK.out _ _ ⟨(blk_cell (B3.out) 0).trans rfl, (blk_cell (B3.out) 1).trans rfl, (blk_cell (B3.out) 2).trans rfl, (blk_cell (B3.out) 3).trans rfl, (blk_cell (B3.out) 4).trans rfl⟩ (fun hHeld => ?_)
    clear hK K
    refine pv_ 10 7 #[true, true, true, true, true, true, true, true, true, true, true, false] (by kernel_rfl) ?_
    refine pv_ 11 8 #[true, true, true, true, true, true, true, true, true, true, true, true] (by kernel_rfl) ?_
    refine done_ (by kernel_rfl) ?_
    have hw_ : wrap64 (ns'.length : Int) = (ns'.length : Int) := w_small (by have a_ := HLE.out; omega) (by have a_ := HLE.out; omega)
    go_wp2
    refine bodyPost_ret (results_ctt rfl _ _ g6 63 #[.int .i64 mo, .slice A1 (ns'.length + 1) c1, .int .i64 0, .int .i64 0, .bool false] (0, 0) _ rfl B6.out Try.underlying63 rfl (by kernel_rfl)) rfl ?_
    rw [HAZ.out]
    refine ⟨.slice A1 (ns'.length + 1) c1, .slice A7 (ts'.length + 1) c7, ?_, Kd.S_mono HNW.out (fun _ hk => hk.1), HTX.out, HTO2.out, HBN.out, HKN.out⟩
    rfl
end Go.Proofs.Ytdljhokealbnnaa.M
namespace Go.Proofs.Ytdljhokealbnnaa.M
open Go.RowKit Go.Proofs.YtdljhokealbnnaaW.PrintWords Go.Proofs.YtdljhokealbnnaaW.PrintLast Go.Proofs.YtdljhokealbnnaaW.PrintMore
attribute [local go_sem] max2_int min2_int max_two min_two max_three min_three max_four min_four
set_option linter.unusedVariables false
set_option linter.unusedSimpArgs false

def spec_l2Kids.j0 : Nat → Int → Bool → Option (Int)
 | 0, _, _ => none
 | k + 1, x3, x8 => if x8 = true then (some 2) else (if x3 = 5 then (some 3) else (if x3 = 6 then (some 3) else (some (-1))))
def spec_l2Kids.f (k : Nat) (a0 : Int) : Option (Int) := if a0 = 1 then (some 0) else (if a0 = 7 then (some 1) else (if a0 = 2 then (spec_l2Kids.j0 k a0 (a0 == 2)) else (if a0 = 3 then (spec_l2Kids.j0 k a0 (a0 == 3)) else (spec_l2Kids.j0 k a0 (a0 == 4)))))
set_option maxHeartbeats 8000000 in
set_option maxRecDepth 100000 in
theorem spec_l2Kids.calls (k : Nat) (a0 : Int) (r : Int) (w : World) (h : spec_l2Kids.f k a0 = some r) :
  Calls Try.prog 109 #[.int .i64 a0] w fun e w' => e = .returned (.int .i64 r) ∧ Drawn0 w w' := by
 have H : (if a0 = 1 then (some 0) else (if a0 = 7 then (some 1) else (if a0 = 2 then (spec_l2Kids.j0 k a0 (a0 == 2)) else (if a0 = 3 then (spec_l2Kids.j0 k a0 (a0 == 3)) else (spec_l2Kids.j0 k a0 (a0 == 4)))))) = some r := h
 clear h
 by_cases c2 : a0 = 1
 ·rw [if_pos c2] at H
  have c2b0 : (a0 == 1) = true := beq_iff_eq.mpr c2
  have c2b1 : (a0 != 1) = false := bne_eq_false_iff_eq.mpr c2
  clear c2
  obtain rfl := Option.some.inj H
  go_enter Try.func109, Try.ntmps109
  go_wp2
  go_ret
  exact ⟨by first | rfl | (simp;done) | (simp [*];done), by repeat (first | exact Drawn0.refl _ | apply Drawn0.step)⟩
 rw [if_neg c2] at H
 have c2b0 : (a0 == 1) = false := beq_eq_false_iff_ne.mpr c2
 have c2b1 : (a0 != 1) = true := bne_iff_ne.mpr c2
 by_cases c3 : a0 = 7
 ·rw [if_pos c3] at H
  have c3b0 : (a0 == 7) = true := beq_iff_eq.mpr c3
  have c3b1 : (a0 != 7) = false := bne_eq_false_iff_eq.mpr c3
  clear c3
  obtain rfl := Option.some.inj H
  go_enter Try.func109, Try.ntmps109
  go_wp2
  go_ret
  exact ⟨by first | rfl | (simp;done) | (simp [*];done), by repeat (first | exact Drawn0.refl _ | apply Drawn0.step)⟩
 rw [if_neg c3] at H
 have c3b0 : (a0 == 7) = false := beq_eq_false_iff_ne.mpr c3
 have c3b1 : (a0 != 7) = true := bne_iff_ne.mpr c3
 have HC4 := m0_ H
 clear H
 go_enter Try.func109, Try.ntmps109
 go_upto_if 8 with (fail)
 go_cut [8] (fun v8 wc => ∃ (kq : Nat) (x8_3 : Bool), v8 = .bool x8_3 ∧ Aside0 (spec_l2Kids.j0 kq a0 x8_3 = some r) ∧ Aside0 (kq ≤ k) ∧ Drawn0 w wc)
 case first =>
  have H := HC4.out
  clear HC4
  by_cases c5 : a0 = 2
  ·rw [if_pos c5] at H
   have c5b0 : (a0 == 2) = true := beq_iff_eq.mpr c5
   have c5b1 : (a0 != 2) = false := bne_eq_false_iff_eq.mpr c5
   clear c5
   (first | rw [c5b0] | (simp only [i64_w, i32_w];rw [c5b0]) | skip)
   have H' := m0_ H
   clear H
   go_wp2
   go_meet
   case rel => exact ⟨_, ((a0 == 2)), (by first | rfl | (simp;done) | (simp [*];done)), H', ⟨by first | omega | exact Nat.le_refl _⟩, by repeat (first | exact Drawn0.refl _ | apply Drawn0.step)⟩
  rw [if_neg c5] at H
  have c5b0 : (a0 == 2) = false := beq_eq_false_iff_ne.mpr c5
  have c5b1 : (a0 != 2) = true := bne_iff_ne.mpr c5
  (first | rw [c5b0] | (simp only [i64_w, i32_w];rw [c5b0]) | skip)
  by_cases c6 : a0 = 3
  ·rw [if_pos c6] at H
   have c6b0 : (a0 == 3) = true := beq_iff_eq.mpr c6
   have c6b1 : (a0 != 3) = false := bne_eq_false_iff_eq.mpr c6
   clear c6
   have H' := m0_ H
   clear H
   go_wp2
   go_meet
   case rel => exact ⟨_, ((a0 == 3)), (by first | rfl | (simp;done) | (simp [*];done)), H', ⟨by first | omega | exact Nat.le_refl _⟩, by repeat (first | exact Drawn0.refl _ | apply Drawn0.step)⟩
  ·rw [if_neg c6] at H
   have c6b0 : (a0 == 3) = false := beq_eq_false_iff_ne.mpr c6
   have c6b1 : (a0 != 3) = true := bne_iff_ne.mpr c6
   have H' := m0_ H
   clear H
   go_wp2
   go_meet
   case rel => exact ⟨_, ((a0 == 4)), (by first | rfl | (simp;done) | (simp [*];done)), H', ⟨by first | omega | exact Nat.le_refl _⟩, by repeat (first | exact Drawn0.refl _ | apply Drawn0.step)⟩
 case rest =>
  clear HC4
  try clear c1
  try clear c2
  try clear c2b0
  try clear c2b1
  try clear p2
  try clear c3
  try clear c3b0
  try clear c3b1
  try clear c5
  try clear c5b0
  try clear c5b1
  try clear c6
  try clear c6b0
  try clear c6b1
  obtain ⟨kq, x8_3, rfl, HA, HJ3, ⟨mc3, rfl⟩⟩ := hcut
  cases kq with
  | zero => exact absurd HA.out (by simp [spec_l2Kids.j0])
  | succ kj3 =>
   have H := HA.out
   clear HA
   simp only [spec_l2Kids.j0] at H
   by_cases c7 : x8_3 = true
   ·subst c7
    have H1 : (some 2) = some r := by rw [if_pos rfl] at H;exact H
    clear H
    have H := H1
    clear H1
    obtain rfl := Option.some.inj H
    go_wp2
    go_ret
    exact ⟨by first | rfl | (simp;done) | (simp [*];done), by repeat (first | exact Drawn0.refl _ | apply Drawn0.step)⟩
   replace c7 := Bool.eq_false_iff.mpr c7
   subst c7
   have H1 : (if a0 = 5 then (some 3) else (if a0 = 6 then (some 3) else (some (-1)))) = some r := by rw [if_neg (show ¬ (false = true) by decide)] at H;exact H
   clear H
   have H := H1
   clear H1
   by_cases c8 : a0 = 5
   ·rw [if_pos c8] at H
    have c8b0 : (a0 == 5) = true := beq_iff_eq.mpr c8
    have c8b1 : (a0 != 5) = false := bne_eq_false_iff_eq.mpr c8
    clear c8
    obtain rfl := Option.some.inj H
    go_wp2
    go_ret
    exact ⟨by first | rfl | (simp;done) | (simp [*];done), by repeat (first | exact Drawn0.refl _ | apply Drawn0.step)⟩
   rw [if_neg c8] at H
   have c8b0 : (a0 == 5) = false := beq_eq_false_iff_ne.mpr c8
   have c8b1 : (a0 != 5) = true := bne_iff_ne.mpr c8
   by_cases c9 : a0 = 6
   ·rw [if_pos c9] at H
    have c9b0 : (a0 == 6) = true := beq_iff_eq.mpr c9
    have c9b1 : (a0 != 6) = false := bne_eq_false_iff_eq.mpr c9
    clear c9
    obtain rfl := Option.some.inj H
    go_wp2
    go_ret
    exact ⟨by first | rfl | (simp;done) | (simp [*];done), by repeat (first | exact Drawn0.refl _ | apply Drawn0.step)⟩
   ·rw [if_neg c9] at H
    have c9b0 : (a0 == 6) = false := beq_eq_false_iff_ne.mpr c9
    have c9b1 : (a0 != 6) = true := bne_iff_ne.mpr c9
    obtain rfl := Option.some.inj H
    go_wp2
    go_ret
    exact ⟨by first | rfl | (simp;done) | (simp [*];done), by repeat (first | exact Drawn0.refl _ | apply Drawn0.step)⟩

@[reducible] def q89_0 : Array Bool := #[true, true, true, true, true, true, true, true, true, true, true, true, true, true, true, true, true, true, true, true, true, true, true, true, true, true, true, true, true, true, true]
@[reducible] def q89_1 : Array Bool := #[true, true, true, true, true, true, true, true, true, true, true, true, true, true, true, true, true, true, true, true, true, true, true, true, true, true, true, true, true, true, false]
@[reducible] def q89_2 : Array Bool := #[true, true, true, true, true, true, true, true, true, true, true, true, true, true, true, true, true, true, true, true, true, true, true, true, true, true, true, true, true, false, false]
@[reducible] def q89_3 : Array Bool := #[true, true, true, true, true, true, true, true, true, true, true, true, true, true, true, true, true, true, true, true, true, true, true, true, true, true, true, true, false, false, false]
@[reducible] def q89_4 : Array Bool := #[true, true, true, true, true, true, true, true, true, true, true, true, true, true, true, true, true, true, true, true, true, true, true, true, true, true, true, false, false, false, false]
@[reducible] def q89_5 : Array Bool := #[true, true, true, true, true, true, true, true, true, true, true, true, true, true, true, true, true, true, true, true, true, true, true, true, true, true, false, false, false, false, false]
@[reducible] def q89_6 : Array Bool := #[true, true, true, true, true, true, true, true, true, true, true, true, true, true, true, true, true, true, true, true, true, true, true, true, true, false, false, false, false, false, false]
@[reducible] def q89_7 : Array Bool := #[true, true, true, true, true, true, true, true, true, true, true, true, true, true, true, true, true, true, true, true, true, true, true, true, false, false, false, false, false, false, false]
@[reducible] def q89_8 : Array Bool := #[true, true, true, true, true, true, true, true, true, true, true, true, true, true, true, true, true, true, true, true, true, true, true, false, false, false, false, false, false, false, false]
@[reducible] def q89_9 : Array Bool := #[true, true, true, true, true, true, true, true, true, true, true, true, true, true, true, true, true, true, true, true, true, true, false, false, false, false, false, false, false, false, false]
@[reducible] def q89_10 : Array Bool := #[true, true, true, true, true, true, true, true, true, true, true, true, true, true, true, true, true, true, true, true, true, false, false, false, false, false, false, false, false, false, false]
@[reducible] def q89_11 : Array Bool := #[true, true, true, true, true, true, true, true, true, true, true, true, true, true, true, true, true, true, true, true, false, false, false, false, false, false, false, false, false, false, false]
@[reducible] def q89_12 : Array Bool := #[true, true, true, true, true, true, true, true, true, true, true, true, true, true, true, true, true, true, true, false, false, false, false, false, false, false, false, false, false, false, false]
@[reducible] def q89_13 : Array Bool := #[true, true, true, true, true, true, true, true, true, true, true, true, true, true, true, true, true, true, false, false, false, false, false, false, false, false, false, false, false, false, false]
@[reducible] def q89_14 : Array Bool := #[true, true, true, true, true, true, true, true, true, true, true, true, true, true, true, true, true, false, false, false, false, false, false, false, false, false, false, false, false, false, false]
@[reducible] def q89_15 : Array Bool := #[true, true, true, true, true, true, true, true, true, true, true, true, true, true, true, true, false, false, false, false, false, false, false, false, false, false, false, false, false, false, false]
@[reducible] def q89_16 : Array Bool := #[true, true, true, true, true, true, true, true, true, true, true, true, true, true, true, false, false, false, false, false, false, false, false, false, false, false, false, false, false, false, false]
@[reducible] def q89_17 : Array Bool := #[true, true, true, true, true, true, true, true, true, true, true, true, true, true, false, false, false, false, false, false, false, false, false, false, false, false, false, false, false, false, false]
@[reducible] def q89_18 : Array Bool := #[true, true, true, true, true, true, true, true, true, true, true, true, true, false, false, false, false, false, false, false, false, false, false, false, false, false, false, false, false, false, false]
@[reducible] def q89_19 : Array Bool := #[true, true, true, true, true, true, true, true, true, true, true, true, false, false, false, false, false, false, false, false, false, false, false, false, false, false, false, false, false, false, false]
@[reducible] def q89_20 : Array Bool := #[true, true, true, true, true, true, true, true, true, true, true, false, false, false, false, false, false, false, false, false, false, false, false, false, false, false, false, false, false, false, false]
@[reducible] def q89_21 : Array Bool := #[true, true, true, true, true, true, true, true, true, true, false, false, false, false, false, false, false, false, false, false, false, false, false, false, false, false, false, false, false, false, false]
@[reducible] def q89_22 : Array Bool := #[true, true, true, true, true, true, true, true, true, false, false, false, false, false, false, false, false, false, false, false, false, false, false, false, false, false, false, false, false, false, false]
@[reducible] def q89_23 : Array Bool := #[true, true, true, true, true, false, true, true, true, false, false, false, false, false, false, false, false, false, false, false, false, false, false, false, false, false, false, false, false, false, false]
@[reducible] def q89_24 : Array Bool := #[true, true, true, true, true, false, true, true, false, false, false, false, false, false, false, false, false, false, false, false, false, false, false, false, false, false, false, false, false, false, false]
@[reducible] def q89_25 : Array Bool := #[true, true, true, true, true, false, true, false, false, false, false, false, false, false, false, false, false, false, false, false, false, false, false, false, false, false, false, false, false, false, false]
@[reducible] def q89_26 : Array Bool := #[true, true, true, true, false, false, true, false, false, false, false, false, false, false, false, false, false, false, false, false, false, false, false, false, false, false, false, false, false, false, false]
@[reducible] def q89_27 : Array Bool := #[true, true, true, true, false, false, false, false, false, false, false, false, false, false, false, false, false, false, false, false, false, false, false, false, false, false, false, false, false, false, false]
@[reducible] def q89_28 : Array Bool := #[true, true, true, false, false, false, false, false, false, false, false, false, false, false, false, false, false, false, false, false, false, false, false, false, false, false, false, false, false, false, false]
@[reducible] def q89_29 : Array Bool := #[true, true, false, false, false, false, false, false, false, false, false, false, false, false, false, false, false, false, false, false, false, false, false, false, false, false, false, false, false, false, false]
@[reducible] def q89_30 : Array Bool := #[true, false, false, false, false, false, false, false, false, false, false, false, false, false, false, false, false, false, false, false, false, false, false, false, false, false, false, false, false, false, false]
@[reducible] def q89_31 : Array Bool := #[false, false, false, false, false, false, false, false, false, false, false, false, false, false, false, false, false, false, false, false, false, false, false, false, false, false, false, false, false, false, false]

mutual
def spec_l2Form.j0 : Nat → Int → Bool → Int → Int → Int → List (S37) → Option (Bool)
 | 0, _, _, _, _, _, _ => none
 | k + 1, x1, x36, x102000, x102001, x102002, x102003 => if x36 = true then (some false) else (if x102000 = 7 then (if x102002 < 1 then (spec_l2Form.j1 k x1 true x102000 x102001 x102002 x102003) else (if x102002 > 20 then (spec_l2Form.j1 k x1 true x102000 x102001 x102002 x102003) else (spec_l2Form.j1 k x1 false x102000 x102001 x102002 x102003))) else (spec_l2Form.j1 k x1 (x102002 != 0) x102000 x102001 x102002 x102003))
def spec_l2Form.j1 : Nat → Int → Bool → Int → Int → Int → List (S37) → Option (Bool)
 | 0, _, _, _, _, _, _ => none
 | k + 1, x1, x59, x102000, x102001, x102002, x102003 => if x59 = true then (some false) else (spec_l2Form.l0 k x1 0 x102000 x102001 x102002 x102003)
def spec_l2Form.l0 : Nat → Int → Int → Int → Int → Int → List (S37) → Option (Bool)
 | 0, _, _, _, _, _, _ => none
 | k + 1, x1, x5, x102000, x102001, x102002, x102003 => if x5 < (x102003.length : Int) then (if 0 ≤ x5 then ((spec_l2Form.f k ((rd_T37 x102003 x5).f0) ((rd_T37 x102003 x5).f1) ((rd_T37 x102003 x5).f2) ((rd_T37 x102003 x5).f3) (wrap64 (x1 - 1))).bind fun t104 => (if t104 = true then (spec_l2Form.l0 k x1 (wrap64 (x5 + 1)) x102000 x102001 x102002 x102003) else (some false))) else (none)) else (some true)
def spec_l2Form.f : Nat → Int → Int → Int → List (S37) → Int → Option (Bool)
 | 0, _, _, _, _, _ => none
 | k + 1, a0_0, a0_1, a0_2, l0_3, a1 => if a1 < 1 then (spec_l2Form.j0 k a1 true a0_0 a0_1 a0_2 l0_3) else ((spec_l2Kids.f k a0_0).bind fun t102 => (if t102 = (l0_3.length : Int) then (if a0_1 < 0 then (spec_l2Form.j0 k a1 true a0_0 a0_1 a0_2 l0_3) else (if a0_1 ≥ 5 then (spec_l2Form.j0 k a1 true a0_0 a0_1 a0_2 l0_3) else (if a0_0 = 1 then (spec_l2Form.j0 k a1 false a0_0 a0_1 a0_2 l0_3) else (spec_l2Form.j0 k a1 (a0_1 != 0) a0_0 a0_1 a0_2 l0_3)))) else (spec_l2Form.j0 k a1 true a0_0 a0_1 a0_2 l0_3)))
end
def spec_l2Form.T1 : Bool × List (List Nat × List Nat) := (true, [([], []), ([0], [0]), ([1], [1]), ([2], [2]), ([3, 2], [2, 3]), ([4, 2, 2], [2, 4]), ([2], [2]), ([6, 2], [2, 6]), ([7, 2], [2, 7]), ([5, 8, 2], [2, 5, 8]), ([2, 9], [2, 9]), ([10, 5], [10]), ([11], [11]), ([12, 11], [11, 12]), ([13, 11], [11, 13]), ([11, 14], [11, 14]), ([15, 11], [15]), ([16], [16]), ([17, 16], [16, 17]), ([18, 16], [16, 18]), ([16, 19], [16, 19]), ([20, 16], [20]), ([21], [21]), ([22, 21], [21, 22]), ([23, 21], [21, 23]), ([24, 21, 21], [21, 24]), ([25], [25]), ([26, 25], [25, 26]), ([27, 25], [25, 27]), ([25, 28, 21], [21, 25, 28]), ([21, 29], [21, 29])])
def spec_l2Form.B1 : List Nat := [0, 1, 3, 7, 15, 31, 7, 71, 199, 511, 1023, 2047, 4095, 8191, 16383, 32767, 65535, 131071, 262143, 524287, 1048575, 2097151, 4194303, 8388607, 16777215, 33554431, 67108863, 134217727, 268435455, 536870911, 1073741823]
theorem spec_l2Form.tab1 : rtab .any (opsOf Try.f89 1) = spec_l2Form.T1 := by kernel_rfl
theorem spec_l2Form.bits1 : waitsOk spec_l2Form.T1.2 spec_l2Form.B1 = true := by kernel_rfl
set_option maxHeartbeats 8000000 in
set_option maxRecDepth 100000 in
theorem spec_l2Form.calls (k : Nat) : ∀ (a0_0 : Int) (a0_1 : Int) (a0_2 : Int) (A0_3 : Option Addr) (c0_3 : Nat) (l0_3 : List (S37)) (a1 : Int) (r : Bool) (w : World) (hr0_3 : Kd.C k37 w A0_3 l0_3.length l0_3) (hc0_3 : l0_3.length ≤ c0_3) (h : spec_l2Form.f k a0_0 a0_1 a0_2 l0_3 a1 = some r),
  Calls Try.prog 89 #[.agg #[.int .i64 a0_0, .int .i64 a0_1, .int .i64 a0_2, .slice A0_3 l0_3.length c0_3], .int .i64 a1] w fun e w' => e = .returned (.bool r) ∧ Below w.heap.size w w' := by
 induction k using Nat.strongRecOn with
 | _ k ih =>
 intro a0_0 a0_1 a0_2 A0_3 c0_3 l0_3 a1 r w hr0_3 hc0_3 h
 cases k with
 | zero => exact absurd h (by simp [spec_l2Form.f])
 | succ k =>
 simp only [spec_l2Form.f] at h
 have hu37 := Try.underlying37
 have HR0_3 := m0_ hr0_3
 have HC0_3 := m0_ hc0_3
 clear hr0_3 hc0_3
 have HB := m0_ (Below.refl w.heap.size w)
 have H : (if a1 < 1 then (spec_l2Form.j0 k a1 true a0_0 a0_1 a0_2 l0_3) else ((spec_l2Kids.f k a0_0).bind fun t102 => (if t102 = (l0_3.length : Int) then (if a0_1 < 0 then (spec_l2Form.j0 k a1 true a0_0 a0_1 a0_2 l0_3) else (if a0_1 ≥ 5 then (spec_l2Form.j0 k a1 true a0_0 a0_1 a0_2 l0_3) else (if a0_0 = 1 then (spec_l2Form.j0 k a1 false a0_0 a0_1 a0_2 l0_3) else (spec_l2Form.j0 k a1 (a0_1 != 0) a0_0 a0_1 a0_2 l0_3)))) else (spec_l2Form.j0 k a1 true a0_0 a0_1 a0_2 l0_3)))) = some r := h
 clear h
 have HC3 := m0_ H
 clear H
 go_enter Try.func89, Try.ntmps89
 go_upto_region 1 with (first | ((with_reducible refine gate_dst (N := 2) rfl ?_);(try (refine gate_guard (by rfl) ?_;dsimp only));refine box_event ?hg (N := 2) ?hd (cs := #[.int .i64 a0_0, .int .i64 a0_1, .int .i64 a0_2, .slice A0_3 l0_3.length c0_3]) (t := 37) ?hr ?_;(case hd => rfl);(case hg => rfl);(case hr => first | (go_simp;done) | (go_simp;rfl));intro gb101 hg w4 hbox hb;have BK101 := m0_ (hbox);have GW101 := m0_ ((by rw [hg];exact (below_size (by exact HB.out)) : w.heap.size ≤ gb101));have GE101 := m0_ ((by rw [hg];exact (below_size (by exact HB.out)) : w.heap.size ≤ gb101));replace HB := m0_ (below_step (by exact HB.out) hb);clear hb hbox hg))
 (try simp only [Act.put, List.setIfInBounds_toArray, List.set_cons_zero, List.set_cons_succ])
 go_cut [36] (fun v36 wc => ∃ (kq : Nat) (x36_2 : Bool), v36 = .bool x36_2 ∧ Aside0 (spec_l2Form.j0 kq a1 x36_2 a0_0 a0_1 a0_2 l0_3 = some r) ∧ Aside0 (kq ≤ k) ∧ Aside0 (wc.heap[gb101]? = some (.cells #[.int .i64 a0_0, .int .i64 a0_1, .int .i64 a0_2, (.slice A0_3 l0_3.length c0_3)] 37 (0, 0))) ∧ Aside0 (Below w.heap.size w wc))
 case first =>
  have H := HC3.out
  clear HC3
  by_cases c5 : a1 < 1
  ·rw [if_pos c5] at H
   have c5b0 : decide (a1 < 1) = true := decide_eq_true c5
   clear c5
   (first | rw [c5b0] | (simp only [i64_w, i32_w];rw [c5b0]) | skip)
   have H' := m0_ H
   clear H
   try go_wp2
   replace BK101 := m0_ (blk_drew BK101.out)
   replace HB := m0_ (below_drew1 HB.out)
   refine start_ (n := 31) (S := fun w' => True) (ds := []) q89_31 (by kernel_rfl) rfl rfl trivial (fun hHeld => ?_);refine with_tabW spec_l2Form.tab1 spec_l2Form.bits1 (fun HT_ HW_ => ?_)
   generalize w4.drew = w6 at BK101 HB hHeld ⊢
   refine pv_ 0 6 q89_30 (any_of HT_.out (by kernel_rfl)) ?_
   refine pv_ 1 7 q89_29 (any_of HT_.out (by kernel_rfl)) ?_
   refine pv_ 2 8 q89_28 (any_of HT_.out (by kernel_rfl)) ?_
   refine pu_ 3 9 q89_27 (any_of HT_.out (by kernel_rfl)) ?_
   refine pu_ 4 10 #[true, true, true, true, true, false, false, false, false, false, false, false, false, false, false, false, false, false, false, false, false, false, false, false, false, false, false, false, false, false, false] (any_of HT_.out (by kernel_rfl)) ?_
   refine pu_ 5 11 #[true, true, true, true, true, true, false, false, false, false, false, false, false, false, false, false, false, false, false, false, false, false, false, false, false, false, false, false, false, false, false] (any_of HT_.out (by kernel_rfl)) ?_
   refine pu_ 6 12 #[true, true, true, true, true, true, true, false, false, false, false, false, false, false, false, false, false, false, false, false, false, false, false, false, false, false, false, false, false, false, false] (any_of HT_.out (by kernel_rfl)) ?_
   refine pu_ 7 13 #[true, true, true, true, true, true, true, true, false, false, false, false, false, false, false, false, false, false, false, false, false, false, false, false, false, false, false, false, false, false, false] (any_of HT_.out (by kernel_rfl)) ?_
   refine pu_ 8 14 q89_22 (any_of HT_.out (by kernel_rfl)) ?_
   refine pu_ 9 15 q89_21 (any_of HT_.out (by kernel_rfl)) ?_
   refine pv_ 10 16 q89_20 (any_of HT_.out (by kernel_rfl)) ?_
   refine pv_ 11 17 q89_19 (any_of HT_.out (by kernel_rfl)) ?_
   refine pu_ 12 18 q89_18 (any_of HT_.out (by kernel_rfl)) ?_
   refine pu_ 13 19 q89_17 (any_of HT_.out (by kernel_rfl)) ?_
   refine pu_ 14 20 q89_16 (any_of HT_.out (by kernel_rfl)) ?_
   refine pv_ 15 21 q89_15 (any_of HT_.out (by kernel_rfl)) ?_
   refine pv_ 16 22 q89_14 (any_of HT_.out (by kernel_rfl)) ?_
   refine pu_ 17 23 q89_13 (any_of HT_.out (by kernel_rfl)) ?_
   refine pu_ 18 24 q89_12 (any_of HT_.out (by kernel_rfl)) ?_
   refine pu_ 19 25 q89_11 (any_of HT_.out (by kernel_rfl)) ?_
   refine pv_ 20 26 q89_10 (any_of HT_.out (by kernel_rfl)) ?_
   refine pv_ 21 27 q89_9 (any_of HT_.out (by kernel_rfl)) ?_
   refine pu_ 22 28 q89_8 (any_of HT_.out (by kernel_rfl)) ?_
   refine pu_ 23 29 q89_7 (any_of HT_.out (by kernel_rfl)) ?_
   refine pu_ 24 30 q89_6 (any_of HT_.out (by kernel_rfl)) ?_
   refine pu_ 25 31 q89_5 (any_of HT_.out (by kernel_rfl)) ?_
   refine pu_ 26 32 q89_4 (any_of HT_.out (by kernel_rfl)) ?_
   refine pu_ 27 33 q89_3 (any_of HT_.out (by kernel_rfl)) ?_
   refine pu_ 28 34 q89_2 (any_of HT_.out (by kernel_rfl)) ?_
   refine pu_ 29 35 q89_1 (any_of HT_.out (by kernel_rfl)) ?_
   refine pv_ 30 36 q89_0 (any_of HT_.out (by kernel_rfl)) ?_
   refine done_ (done_of HT_.out (by kernel_rfl)) ?_
   try go_wp2
   go_meet
   case rel => exact ⟨_, (true), (by first | rfl | (simp;done) | (simp [*];done)), H', ⟨by first | omega | exact Nat.le_refl _⟩, ⟨by (with_reducible repeat (first | refine blk_drewN ?_ _ | refine blk_drew ?_ | refine blk_alloc ?_ _));exact BK101.out⟩, ⟨by repeat (first | (with_reducible first | exact HB.out | apply below_alloc | apply pw_below_drewN | apply below_drew1 | refine below_set ?_ GE101.out) | exact HB.out)⟩⟩
  rw [if_neg c5] at H
  have c5b0 : decide (a1 < 1) = false := decide_eq_false c5
  clear c5
  (first | rw [c5b0] | (simp only [i64_w, i32_w];rw [c5b0]) | skip)
  replace H := Option.bind_eq_some_iff.mp H
  obtain ⟨t102, A70, H⟩ := H
  replace H : (if t102 = (l0_3.length : Int) then (if a0_1 < 0 then (spec_l2Form.j0 k a1 true a0_0 a0_1 a0_2 l0_3) else (if a0_1 ≥ 5 then (spec_l2Form.j0 k a1 true a0_0 a0_1 a0_2 l0_3) else (if a0_0 = 1 then (spec_l2Form.j0 k a1 false a0_0 a0_1 a0_2 l0_3) else (spec_l2Form.j0 k a1 (a0_1 != 0) a0_0 a0_1 a0_2 l0_3)))) else (spec_l2Form.j0 k a1 true a0_0 a0_1 a0_2 l0_3)) = some r := H
  have A7 := m0_ A70
  clear A70
  by_cases c8 : t102 = (l0_3.length : Int)
  rotate_left
  ·rw [if_neg c8] at H
   have c8b0 : (t102 == (l0_3.length : Int)) = false := beq_eq_false_iff_ne.mpr c8
   have c8b1 : (t102 != (l0_3.length : Int)) = true := bne_iff_ne.mpr c8
   have H' := m0_ H
   clear H
   try go_wp2
   replace BK101 := m0_ (blk_drew BK101.out)
   replace HB := m0_ (below_drew1 HB.out)
   refine start_ (n := 31) (S := fun w' => w'.cell? ⟨gb101, 0, none⟩ = some (.int .i64 a0_0) ∧ w'.cell? ⟨gb101, 1, none⟩ = some (.int .i64 a0_1) ∧ w'.cell? ⟨gb101, 2, none⟩ = some (.int .i64 a0_2) ∧ w'.cell? ⟨gb101, 3, none⟩ = some (.slice A0_3 l0_3.length c0_3)) (ds := []) q89_31 (by kernel_rfl) rfl rfl ⟨(blk_cell BK101.out 0).trans rfl, (blk_cell BK101.out 1).trans rfl, (blk_cell BK101.out 2).trans rfl, (blk_cell BK101.out 3).trans rfl⟩ (fun hHeld => ?_);refine with_tabW spec_l2Form.tab1 spec_l2Form.bits1 (fun HT_ HW_ => ?_)
   generalize w4.drew = w16 at BK101 HB hHeld ⊢
   refine pv_ 0 6 q89_30 (any_of HT_.out (by kernel_rfl)) ?_
   refine pv_ 1 7 q89_29 (any_of HT_.out (by kernel_rfl)) ?_
   refine pv_ 2 8 q89_28 (any_of HT_.out (by kernel_rfl)) ?_
   refine pv_ 3 9 q89_27 (any_of HT_.out (by kernel_rfl)) ?_
   refine pv_ 6 12 q89_26 (any_of HT_.out (by kernel_rfl)) ?_
   refine take_ (i := 4) (N := some 10) (v := ?_) (a' := ?_) q89_25 rfl rfl (take_ofW HT_.out HW_.out (by kernel_rfl)) (fun _ _ _ h => h) (Or.inl ⟨by rfl, ?_⟩) hHeld ?_ ?_
   rotate_left
   ·rintro w' ⟨s0, s1, s2, s3⟩
    go_simp
    with_reducible rfl
   rotate_left
   ·simp only [Act.put, List.setIfInBounds_toArray, List.set_cons_zero, List.set_cons_succ, i64_w, i32_w]
    rfl
   refine take_ (i := 7) (N := some 13) (v := ?_) (a' := ?_) q89_24 rfl rfl (take_ofW HT_.out HW_.out (by kernel_rfl)) (fun _ _ _ h => h) (Or.inl ⟨by rfl, ?_⟩) hHeld ?_ ?_
   rotate_left
   ·rintro w' ⟨s0, s1, s2, s3⟩
    go_simp
    with_reducible rfl
   rotate_left
   ·simp only [Act.put, List.setIfInBounds_toArray, List.set_cons_zero, List.set_cons_succ, i64_w, i32_w]
    rfl
   refine pv_ 8 14 q89_23 (any_of HT_.out (by kernel_rfl)) ?_
   refine one_ (i := 5) (N := some 11) q89_22 rfl rfl (one_of HT_.out (by kernel_rfl)) (by decide) (fun K hK => ?_)
   refine goes_ Try.func109 (by kernel_rfl) rfl #[.int .i64 a0_0] (by rfl) rfl rfl (by (try simp only [List.map_toArray, List.map_cons, List.map_nil]);first | done | rfl | (simp only [List.length_drop, List.length_take];rfl)) ?_
   with_reducible refine (spec_l2Kids.calls k a0_0 t102 _ A7.out).mono ?_
   rintro e w' ⟨rfl, ⟨nd, rfl⟩⟩
   refine ⟨_, rfl, ?_⟩
   refine hK.out _ _ ⟨(blk_cell BK101.out 0).trans rfl, (blk_cell BK101.out 1).trans rfl, (blk_cell BK101.out 2).trans rfl, (blk_cell BK101.out 3).trans rfl⟩ (fun hHeld => ?_)
   clear hK K
   refine norm_ (a' := ?_) ?_ ?_
   rotate_left
   ·show Act.put _ (some 11) _ = _
    simp only [Act.put, List.setIfInBounds_toArray, List.set_cons_zero, List.set_cons_succ, i64_w, i32_w]
    rfl
   refine pv_ 9 15 q89_21 (any_of HT_.out (by kernel_rfl)) ?_
   refine pv_ 10 16 q89_20 (any_of HT_.out (by kernel_rfl)) ?_
   refine pv_ 11 17 q89_19 (any_of HT_.out (by kernel_rfl)) ?_
   refine pu_ 12 18 q89_18 (any_of HT_.out (by kernel_rfl)) ?_
   refine pu_ 13 19 q89_17 (any_of HT_.out (by kernel_rfl)) ?_
   refine pu_ 14 20 q89_16 (any_of HT_.out (by kernel_rfl)) ?_
   refine pv_ 15 21 q89_15 (any_of HT_.out (by kernel_rfl)) ?_
   refine pv_ 16 22 q89_14 (any_of HT_.out (by kernel_rfl)) ?_
   refine pu_ 17 23 q89_13 (any_of HT_.out (by kernel_rfl)) ?_
   refine pu_ 18 24 q89_12 (any_of HT_.out (by kernel_rfl)) ?_
   refine pu_ 19 25 q89_11 (any_of HT_.out (by kernel_rfl)) ?_
   refine pv_ 20 26 q89_10 (any_of HT_.out (by kernel_rfl)) ?_
   refine pv_ 21 27 q89_9 (any_of HT_.out (by kernel_rfl)) ?_
   refine pu_ 22 28 q89_8 (any_of HT_.out (by kernel_rfl)) ?_
   refine pu_ 23 29 q89_7 (any_of HT_.out (by kernel_rfl)) ?_
   refine pu_ 24 30 q89_6 (any_of HT_.out (by kernel_rfl)) ?_
   refine pu_ 25 31 q89_5 (any_of HT_.out (by kernel_rfl)) ?_
   refine pu_ 26 32 q89_4 (any_of HT_.out (by kernel_rfl)) ?_
   refine pu_ 27 33 q89_3 (any_of HT_.out (by kernel_rfl)) ?_
   refine pu_ 28 34 q89_2 (any_of HT_.out (by kernel_rfl)) ?_
   refine pu_ 29 35 q89_1 (any_of HT_.out (by kernel_rfl)) ?_
   refine pv_ 30 36 q89_0 (any_of HT_.out (by kernel_rfl)) ?_
   refine done_ (done_of HT_.out (by kernel_rfl)) ?_
   try go_wp2
   go_meet
   case rel => exact ⟨_, (true), (by first | rfl | (simp;done) | (simp [*];done)), H', ⟨by first | omega | exact Nat.le_refl _⟩, ⟨by (with_reducible repeat (first | refine blk_drewN ?_ _ | refine blk_drew ?_ | refine blk_alloc ?_ _));exact BK101.out⟩, ⟨by repeat (first | (with_reducible first | exact HB.out | apply below_alloc | apply pw_below_drewN | apply below_drew1 | refine below_set ?_ GE101.out) | exact HB.out)⟩⟩
  rw [if_pos c8] at H
  have c8b0 : (t102 == (l0_3.length : Int)) = true := beq_iff_eq.mpr c8
  have c8b1 : (t102 != (l0_3.length : Int)) = false := bne_eq_false_iff_eq.mpr c8
  clear c8
  by_cases c9 : a0_1 < 0
  ·rw [if_pos c9] at H
   have c9b0 : decide (a0_1 < 0) = true := decide_eq_true c9
   clear c9
   have H' := m0_ H
   clear H
   try go_wp2
   replace BK101 := m0_ (blk_drew BK101.out)
   replace HB := m0_ (below_drew1 HB.out)
   refine start_ (n := 31) (S := fun w' => w'.cell? ⟨gb101, 0, none⟩ = some (.int .i64 a0_0) ∧ w'.cell? ⟨gb101, 1, none⟩ = some (.int .i64 a0_1) ∧ w'.cell? ⟨gb101, 2, none⟩ = some (.int .i64 a0_2) ∧ w'.cell? ⟨gb101, 3, none⟩ = some (.slice A0_3 l0_3.length c0_3)) (ds := []) q89_31 (by kernel_rfl) rfl rfl ⟨(blk_cell BK101.out 0).trans rfl, (blk_cell BK101.out 1).trans rfl, (blk_cell BK101.out 2).trans rfl, (blk_cell BK101.out 3).trans rfl⟩ (fun hHeld => ?_);refine with_tabW spec_l2Form.tab1 spec_l2Form.bits1 (fun HT_ HW_ => ?_)
   generalize w4.drew = w10 at BK101 HB hHeld ⊢
   refine pv_ 0 6 q89_30 (any_of HT_.out (by kernel_rfl)) ?_
   refine pv_ 1 7 q89_29 (any_of HT_.out (by kernel_rfl)) ?_
   refine pv_ 2 8 q89_28 (any_of HT_.out (by kernel_rfl)) ?_
   refine pv_ 3 9 q89_27 (any_of HT_.out (by kernel_rfl)) ?_
   refine pv_ 6 12 q89_26 (any_of HT_.out (by kernel_rfl)) ?_
   refine take_ (i := 4) (N := some 10) (v := ?_) (a' := ?_) q89_25 rfl rfl (take_ofW HT_.out HW_.out (by kernel_rfl)) (fun _ _ _ h => h) (Or.inl ⟨by rfl, ?_⟩) hHeld ?_ ?_
   rotate_left
   ·rintro w' ⟨s0, s1, s2, s3⟩
    go_simp
    with_reducible rfl
   rotate_left
   ·simp only [Act.put, List.setIfInBounds_toArray, List.set_cons_zero, List.set_cons_succ, i64_w, i32_w]
    rfl
   refine take_ (i := 7) (N := some 13) (v := ?_) (a' := ?_) q89_24 rfl rfl (take_ofW HT_.out HW_.out (by kernel_rfl)) (fun _ _ _ h => h) (Or.inl ⟨by rfl, ?_⟩) hHeld ?_ ?_
   rotate_left
   ·rintro w' ⟨s0, s1, s2, s3⟩
    go_simp
    with_reducible rfl
   rotate_left
   ·simp only [Act.put, List.setIfInBounds_toArray, List.set_cons_zero, List.set_cons_succ, i64_w, i32_w]
    rfl
   refine pv_ 8 14 q89_23 (any_of HT_.out (by kernel_rfl)) ?_
   refine one_ (i := 5) (N := some 11) q89_22 rfl rfl (one_of HT_.out (by kernel_rfl)) (by decide) (fun K hK => ?_)
   refine goes_ Try.func109 (by kernel_rfl) rfl #[.int .i64 a0_0] (by rfl) rfl rfl (by (try simp only [List.map_toArray, List.map_cons, List.map_nil]);first | done | rfl | (simp only [List.length_drop, List.length_take];rfl)) ?_
   with_reducible refine (spec_l2Kids.calls k a0_0 t102 _ A7.out).mono ?_
   rintro e w' ⟨rfl, ⟨nd, rfl⟩⟩
   refine ⟨_, rfl, ?_⟩
   refine hK.out _ _ ⟨(blk_cell BK101.out 0).trans rfl, (blk_cell BK101.out 1).trans rfl, (blk_cell BK101.out 2).trans rfl, (blk_cell BK101.out 3).trans rfl⟩ (fun hHeld => ?_)
   clear hK K
   refine norm_ (a' := ?_) ?_ ?_
   rotate_left
   ·show Act.put _ (some 11) _ = _
    simp only [Act.put, List.setIfInBounds_toArray, List.set_cons_zero, List.set_cons_succ, i64_w, i32_w]
    rfl
   refine pv_ 9 15 q89_21 (any_of HT_.out (by kernel_rfl)) ?_
   refine pv_ 10 16 q89_20 (any_of HT_.out (by kernel_rfl)) ?_
   refine pv_ 11 17 q89_19 (any_of HT_.out (by kernel_rfl)) ?_
   refine pv_ 12 18 q89_18 (any_of HT_.out (by kernel_rfl)) ?_
   refine take_ (i := 13) (N := some 19) (v := ?_) (a' := ?_) q89_17 rfl rfl (take_ofW HT_.out HW_.out (by kernel_rfl)) (fun _ _ _ h => h) (Or.inl ⟨by rfl, ?_⟩) hHeld ?_ ?_
   rotate_left
   ·rintro w' ⟨s0, s1, s2, s3⟩
    go_simp
    with_reducible rfl
   rotate_left
   ·simp only [Act.put, List.setIfInBounds_toArray, List.set_cons_zero, List.set_cons_succ, i64_w, i32_w]
    rfl
   refine pv_ 14 20 q89_16 (any_of HT_.out (by kernel_rfl)) ?_
   refine pv_ 15 21 q89_15 (any_of HT_.out (by kernel_rfl)) ?_
   refine pv_ 16 22 q89_14 (any_of HT_.out (by kernel_rfl)) ?_
   refine pu_ 17 23 q89_13 (any_of HT_.out (by kernel_rfl)) ?_
   refine pu_ 18 24 q89_12 (any_of HT_.out (by kernel_rfl)) ?_
   refine pu_ 19 25 q89_11 (any_of HT_.out (by kernel_rfl)) ?_
   refine pv_ 20 26 q89_10 (any_of HT_.out (by kernel_rfl)) ?_
   refine pv_ 21 27 q89_9 (any_of HT_.out (by kernel_rfl)) ?_
   refine pu_ 22 28 q89_8 (any_of HT_.out (by kernel_rfl)) ?_
   refine pu_ 23 29 q89_7 (any_of HT_.out (by kernel_rfl)) ?_
   refine pu_ 24 30 q89_6 (any_of HT_.out (by kernel_rfl)) ?_
   refine pu_ 25 31 q89_5 (any_of HT_.out (by kernel_rfl)) ?_
   refine pu_ 26 32 q89_4 (any_of HT_.out (by kernel_rfl)) ?_
   refine pu_ 27 33 q89_3 (any_of HT_.out (by kernel_rfl)) ?_
   refine pu_ 28 34 q89_2 (any_of HT_.out (by kernel_rfl)) ?_
   refine pu_ 29 35 q89_1 (any_of HT_.out (by kernel_rfl)) ?_
   refine pv_ 30 36 q89_0 (any_of HT_.out (by kernel_rfl)) ?_
   refine done_ (done_of HT_.out (by kernel_rfl)) ?_
   try go_wp2
   go_meet
   case rel => exact ⟨_, (true), (by first | rfl | (simp;done) | (simp [*];done)), H', ⟨by first | omega | exact Nat.le_refl _⟩, ⟨by (with_reducible repeat (first | refine blk_drewN ?_ _ | refine blk_drew ?_ | refine blk_alloc ?_ _));exact BK101.out⟩, ⟨by repeat (first | (with_reducible first | exact HB.out | apply below_alloc | apply pw_below_drewN | apply below_drew1 | refine below_set ?_ GE101.out) | exact HB.out)⟩⟩
  rw [if_neg c9] at H
  have c9b0 : decide (a0_1 < 0) = false := decide_eq_false c9
  clear c9
  by_cases c11 : a0_1 ≥ 5
  ·rw [if_pos c11] at H
   have c11b0 : decide (5 ≤ a0_1) = true := decide_eq_true c11
   clear c11
   have H' := m0_ H
   clear H
   try go_wp2
   replace BK101 := m0_ (blk_drew BK101.out)
   replace HB := m0_ (below_drew1 HB.out)
   refine start_ (n := 31) (S := fun w' => w'.cell? ⟨gb101, 0, none⟩ = some (.int .i64 a0_0) ∧ w'.cell? ⟨gb101, 1, none⟩ = some (.int .i64 a0_1) ∧ w'.cell? ⟨gb101, 2, none⟩ = some (.int .i64 a0_2) ∧ w'.cell? ⟨gb101, 3, none⟩ = some (.slice A0_3 l0_3.length c0_3)) (ds := []) q89_31 (by kernel_rfl) rfl rfl ⟨(blk_cell BK101.out 0).trans rfl, (blk_cell BK101.out 1).trans rfl, (blk_cell BK101.out 2).trans rfl, (blk_cell BK101.out 3).trans rfl⟩ (fun hHeld => ?_);refine with_tabW spec_l2Form.tab1 spec_l2Form.bits1 (fun HT_ HW_ => ?_)
   generalize w4.drew = w12 at BK101 HB hHeld ⊢
   refine pv_ 0 6 q89_30 (any_of HT_.out (by kernel_rfl)) ?_
   refine pv_ 1 7 q89_29 (any_of HT_.out (by kernel_rfl)) ?_
   refine pv_ 2 8 q89_28 (any_of HT_.out (by kernel_rfl)) ?_
   refine pv_ 3 9 q89_27 (any_of HT_.out (by kernel_rfl)) ?_
   refine pv_ 6 12 q89_26 (any_of HT_.out (by kernel_rfl)) ?_
   refine take_ (i := 4) (N := some 10) (v := ?_) (a' := ?_) q89_25 rfl rfl (take_ofW HT_.out HW_.out (by kernel_rfl)) (fun _ _ _ h => h) (Or.inl ⟨by rfl, ?_⟩) hHeld ?_ ?_
   rotate_left
   ·rintro w' ⟨s0, s1, s2, s3⟩
    go_simp
    with_reducible rfl
   rotate_left
   ·simp only [Act.put, List.setIfInBounds_toArray, List.set_cons_zero, List.set_cons_succ, i64_w, i32_w]
    rfl
   refine take_ (i := 7) (N := some 13) (v := ?_) (a' := ?_) q89_24 rfl rfl (take_ofW HT_.out HW_.out (by kernel_rfl)) (fun _ _ _ h => h) (Or.inl ⟨by rfl, ?_⟩) hHeld ?_ ?_
   rotate_left
   ·rintro w' ⟨s0, s1, s2, s3⟩
    go_simp
    with_reducible rfl
   rotate_left
   ·simp only [Act.put, List.setIfInBounds_toArray, List.set_cons_zero, List.set_cons_succ, i64_w, i32_w]
    rfl
   refine pv_ 8 14 q89_23 (any_of HT_.out (by kernel_rfl)) ?_
   refine one_ (i := 5) (N := some 11) q89_22 rfl rfl (one_of HT_.out (by kernel_rfl)) (by decide) (fun K hK => ?_)
   refine goes_ Try.func109 (by kernel_rfl) rfl #[.int .i64 a0_0] (by rfl) rfl rfl (by (try simp only [List.map_toArray, List.map_cons, List.map_nil]);first | done | rfl | (simp only [List.length_drop, List.length_take];rfl)) ?_
   with_reducible refine (spec_l2Kids.calls k a0_0 t102 _ A7.out).mono ?_
   rintro e w' ⟨rfl, ⟨nd, rfl⟩⟩
   refine ⟨_, rfl, ?_⟩
   refine hK.out _ _ ⟨(blk_cell BK101.out 0).trans rfl, (blk_cell BK101.out 1).trans rfl, (blk_cell BK101.out 2).trans rfl, (blk_cell BK101.out 3).trans rfl⟩ (fun hHeld => ?_)
   clear hK K
   refine norm_ (a' := ?_) ?_ ?_
   rotate_left
   ·show Act.put _ (some 11) _ = _
    simp only [Act.put, List.setIfInBounds_toArray, List.set_cons_zero, List.set_cons_succ, i64_w, i32_w]
    rfl
   refine pv_ 9 15 q89_21 (any_of HT_.out (by kernel_rfl)) ?_
   refine pv_ 10 16 q89_20 (any_of HT_.out (by kernel_rfl)) ?_
   refine pv_ 11 17 q89_19 (any_of HT_.out (by kernel_rfl)) ?_
   refine pv_ 12 18 q89_18 (any_of HT_.out (by kernel_rfl)) ?_
   refine take_ (i := 13) (N := some 19) (v := ?_) (a' := ?_) q89_17 rfl rfl (take_ofW HT_.out HW_.out (by kernel_rfl)) (fun _ _ _ h => h) (Or.inl ⟨by rfl, ?_⟩) hHeld ?_ ?_
   rotate_left
   ·rintro w' ⟨s0, s1, s2, s3⟩
    go_simp
    with_reducible rfl
   rotate_left
   ·simp only [Act.put, List.setIfInBounds_toArray, List.set_cons_zero, List.set_cons_succ, i64_w, i32_w]
    rfl
   refine pv_ 14 20 q89_16 (any_of HT_.out (by kernel_rfl)) ?_
   refine pv_ 15 21 q89_15 (any_of HT_.out (by kernel_rfl)) ?_
   refine pv_ 16 22 q89_14 (any_of HT_.out (by kernel_rfl)) ?_
   refine pv_ 17 23 q89_13 (any_of HT_.out (by kernel_rfl)) ?_
   refine take_ (i := 18) (N := some 24) (v := ?_) (a' := ?_) q89_12 rfl rfl (take_ofW HT_.out HW_.out (by kernel_rfl)) (fun _ _ _ h => h) (Or.inl ⟨by rfl, ?_⟩) hHeld ?_ ?_
   rotate_left
   ·rintro w' ⟨s0, s1, s2, s3⟩
    go_simp
    with_reducible rfl
   rotate_left
   ·simp only [Act.put, List.setIfInBounds_toArray, List.set_cons_zero, List.set_cons_succ, i64_w, i32_w]
    rfl
   refine pv_ 19 25 q89_11 (any_of HT_.out (by kernel_rfl)) ?_
   refine pv_ 20 26 q89_10 (any_of HT_.out (by kernel_rfl)) ?_
   refine pv_ 21 27 q89_9 (any_of HT_.out (by kernel_rfl)) ?_
   refine pu_ 22 28 q89_8 (any_of HT_.out (by kernel_rfl)) ?_
   refine pu_ 23 29 q89_7 (any_of HT_.out (by kernel_rfl)) ?_
   refine pu_ 24 30 q89_6 (any_of HT_.out (by kernel_rfl)) ?_
   refine pu_ 25 31 q89_5 (any_of HT_.out (by kernel_rfl)) ?_
   refine pu_ 26 32 q89_4 (any_of HT_.out (by kernel_rfl)) ?_
   refine pu_ 27 33 q89_3 (any_of HT_.out (by kernel_rfl)) ?_
   refine pu_ 28 34 q89_2 (any_of HT_.out (by kernel_rfl)) ?_
   refine pu_ 29 35 q89_1 (any_of HT_.out (by kernel_rfl)) ?_
   refine pv_ 30 36 q89_0 (any_of HT_.out (by kernel_rfl)) ?_
   refine done_ (done_of HT_.out (by kernel_rfl)) ?_
   try go_wp2
   go_meet
   case rel => exact ⟨_, (true), (by first | rfl | (simp;done) | (simp [*];done)), H', ⟨by first | omega | exact Nat.le_refl _⟩, ⟨by (with_reducible repeat (first | refine blk_drewN ?_ _ | refine blk_drew ?_ | refine blk_alloc ?_ _));exact BK101.out⟩, ⟨by repeat (first | (with_reducible first | exact HB.out | apply below_alloc | apply pw_below_drewN | apply below_drew1 | refine below_set ?_ GE101.out) | exact HB.out)⟩⟩
  rw [if_neg c11] at H
  have c11b0 : decide (5 ≤ a0_1) = false := decide_eq_false c11
  clear c11
  by_cases c13 : a0_0 = 1
  ·rw [if_pos c13] at H
   have c13b0 : (a0_0 == 1) = true := beq_iff_eq.mpr c13
   have c13b1 : (a0_0 != 1) = false := bne_eq_false_iff_eq.mpr c13
   clear c13
   have H' := m0_ H
   clear H
   try go_wp2
   replace BK101 := m0_ (blk_drew BK101.out)
   replace HB := m0_ (below_drew1 HB.out)
   refine start_ (n := 31) (S := fun w' => w'.cell? ⟨gb101, 0, none⟩ = some (.int .i64 a0_0) ∧ w'.cell? ⟨gb101, 1, none⟩ = some (.int .i64 a0_1) ∧ w'.cell? ⟨gb101, 2, none⟩ = some (.int .i64 a0_2) ∧ w'.cell? ⟨gb101, 3, none⟩ = some (.slice A0_3 l0_3.length c0_3)) (ds := []) q89_31 (by kernel_rfl) rfl rfl ⟨(blk_cell BK101.out 0).trans rfl, (blk_cell BK101.out 1).trans rfl, (blk_cell BK101.out 2).trans rfl, (blk_cell BK101.out 3).trans rfl⟩ (fun hHeld => ?_);refine with_tabW spec_l2Form.tab1 spec_l2Form.bits1 (fun HT_ HW_ => ?_)
   generalize w4.drew = w14 at BK101 HB hHeld ⊢
   refine pv_ 0 6 q89_30 (any_of HT_.out (by kernel_rfl)) ?_
   refine pv_ 1 7 q89_29 (any_of HT_.out (by kernel_rfl)) ?_
   refine pv_ 2 8 q89_28 (any_of HT_.out (by kernel_rfl)) ?_
   refine pv_ 3 9 q89_27 (any_of HT_.out (by kernel_rfl)) ?_
   refine pv_ 6 12 q89_26 (any_of HT_.out (by kernel_rfl)) ?_
   refine take_ (i := 4) (N := some 10) (v := ?_) (a' := ?_) q89_25 rfl rfl (take_ofW HT_.out HW_.out (by kernel_rfl)) (fun _ _ _ h => h) (Or.inl ⟨by rfl, ?_⟩) hHeld ?_ ?_
   rotate_left
   ·rintro w' ⟨s0, s1, s2, s3⟩
    go_simp
    with_reducible rfl
   rotate_left
   ·simp only [Act.put, List.setIfInBounds_toArray, List.set_cons_zero, List.set_cons_succ, i64_w, i32_w]
    rfl
   refine take_ (i := 7) (N := some 13) (v := ?_) (a' := ?_) q89_24 rfl rfl (take_ofW HT_.out HW_.out (by kernel_rfl)) (fun _ _ _ h => h) (Or.inl ⟨by rfl, ?_⟩) hHeld ?_ ?_
   rotate_left
   ·rintro w' ⟨s0, s1, s2, s3⟩
    go_simp
    with_reducible rfl
   rotate_left
   ·simp only [Act.put, List.setIfInBounds_toArray, List.set_cons_zero, List.set_cons_succ, i64_w, i32_w]
    rfl
   refine pv_ 8 14 q89_23 (any_of HT_.out (by kernel_rfl)) ?_
   refine one_ (i := 5) (N := some 11) q89_22 rfl rfl (one_of HT_.out (by kernel_rfl)) (by decide) (fun K hK => ?_)
   refine goes_ Try.func109 (by kernel_rfl) rfl #[.int .i64 a0_0] (by rfl) rfl rfl (by (try simp only [List.map_toArray, List.map_cons, List.map_nil]);first | done | rfl | (simp only [List.length_drop, List.length_take];rfl)) ?_
   with_reducible refine (spec_l2Kids.calls k a0_0 t102 _ A7.out).mono ?_
   rintro e w' ⟨rfl, ⟨nd, rfl⟩⟩
   refine ⟨_, rfl, ?_⟩
   refine hK.out _ _ ⟨(blk_cell BK101.out 0).trans rfl, (blk_cell BK101.out 1).trans rfl, (blk_cell BK101.out 2).trans rfl, (blk_cell BK101.out 3).trans rfl⟩ (fun hHeld => ?_)
   clear hK K
   refine norm_ (a' := ?_) ?_ ?_
   rotate_left
   ·show Act.put _ (some 11) _ = _
    simp only [Act.put, List.setIfInBounds_toArray, List.set_cons_zero, List.set_cons_succ, i64_w, i32_w]
    rfl
   refine pv_ 9 15 q89_21 (any_of HT_.out (by kernel_rfl)) ?_
   refine pv_ 10 16 q89_20 (any_of HT_.out (by kernel_rfl)) ?_
   refine pv_ 11 17 q89_19 (any_of HT_.out (by kernel_rfl)) ?_
   refine pv_ 12 18 q89_18 (any_of HT_.out (by kernel_rfl)) ?_
   refine take_ (i := 13) (N := some 19) (v := ?_) (a' := ?_) q89_17 rfl rfl (take_ofW HT_.out HW_.out (by kernel_rfl)) (fun _ _ _ h => h) (Or.inl ⟨by rfl, ?_⟩) hHeld ?_ ?_
   rotate_left
   ·rintro w' ⟨s0, s1, s2, s3⟩
    go_simp
    with_reducible rfl
   rotate_left
   ·simp only [Act.put, List.setIfInBounds_toArray, List.set_cons_zero, List.set_cons_succ, i64_w, i32_w]
    rfl
   refine pv_ 14 20 q89_16 (any_of HT_.out (by kernel_rfl)) ?_
   refine pv_ 15 21 q89_15 (any_of HT_.out (by kernel_rfl)) ?_
   refine pv_ 16 22 q89_14 (any_of HT_.out (by kernel_rfl)) ?_
   refine pv_ 17 23 q89_13 (any_of HT_.out (by kernel_rfl)) ?_
   refine take_ (i := 18) (N := some 24) (v := ?_) (a' := ?_) q89_12 rfl rfl (take_ofW HT_.out HW_.out (by kernel_rfl)) (fun _ _ _ h => h) (Or.inl ⟨by rfl, ?_⟩) hHeld ?_ ?_
   rotate_left
   ·rintro w' ⟨s0, s1, s2, s3⟩
    go_simp
    with_reducible rfl
   rotate_left
   ·simp only [Act.put, List.setIfInBounds_toArray, List.set_cons_zero, List.set_cons_succ, i64_w, i32_w]
    rfl
   refine pv_ 19 25 q89_11 (any_of HT_.out (by kernel_rfl)) ?_
   refine pv_ 20 26 q89_10 (any_of HT_.out (by kernel_rfl)) ?_
   refine pv_ 21 27 q89_9 (any_of HT_.out (by kernel_rfl)) ?_
   refine pv_ 22 28 q89_8 (any_of HT_.out (by kernel_rfl)) ?_
   refine take_ (i := 23) (N := some 29) (v := ?_) (a' := ?_) q89_7 rfl rfl (take_ofW HT_.out HW_.out (by kernel_rfl)) (fun _ _ _ h => h) (Or.inl ⟨by rfl, ?_⟩) hHeld ?_ ?_
   rotate_left
   ·rintro w' ⟨s0, s1, s2, s3⟩
    go_simp
    with_reducible rfl
   rotate_left
   ·simp only [Act.put, List.setIfInBounds_toArray, List.set_cons_zero, List.set_cons_succ, i64_w, i32_w]
    rfl
   refine pv_ 24 30 q89_6 (any_of HT_.out (by kernel_rfl)) ?_
   refine pv_ 25 31 q89_5 (any_of HT_.out (by kernel_rfl)) ?_
   refine pu_ 26 32 q89_4 (any_of HT_.out (by kernel_rfl)) ?_
   refine pu_ 27 33 q89_3 (any_of HT_.out (by kernel_rfl)) ?_
   refine pu_ 28 34 q89_2 (any_of HT_.out (by kernel_rfl)) ?_
   refine pv_ 29 35 q89_1 (any_of HT_.out (by kernel_rfl)) ?_
   refine pv_ 30 36 q89_0 (any_of HT_.out (by kernel_rfl)) ?_
   refine done_ (done_of HT_.out (by kernel_rfl)) ?_
   try go_wp2
   go_meet
   case rel => exact ⟨_, (false), (by first | rfl | (simp;done) | (simp [*];done)), H', ⟨by first | omega | exact Nat.le_refl _⟩, ⟨by (with_reducible repeat (first | refine blk_drewN ?_ _ | refine blk_drew ?_ | refine blk_alloc ?_ _));exact BK101.out⟩, ⟨by repeat (first | (with_reducible first | exact HB.out | apply below_alloc | apply pw_below_drewN | apply below_drew1 | refine below_set ?_ GE101.out) | exact HB.out)⟩⟩
  rw [if_neg c13] at H
  have c13b0 : (a0_0 == 1) = false := beq_eq_false_iff_ne.mpr c13
  have c13b1 : (a0_0 != 1) = true := bne_iff_ne.mpr c13
  have H' := m0_ H
  clear H
  try go_wp2
  replace BK101 := m0_ (blk_drew BK101.out)
  replace HB := m0_ (below_drew1 HB.out)
  refine start_ (n := 31) (S := fun w' => w'.cell? ⟨gb101, 0, none⟩ = some (.int .i64 a0_0) ∧ w'.cell? ⟨gb101, 1, none⟩ = some (.int .i64 a0_1) ∧ w'.cell? ⟨gb101, 2, none⟩ = some (.int .i64 a0_2) ∧ w'.cell? ⟨gb101, 3, none⟩ = some (.slice A0_3 l0_3.length c0_3)) (ds := []) q89_31 (by kernel_rfl) rfl rfl ⟨(blk_cell BK101.out 0).trans rfl, (blk_cell BK101.out 1).trans rfl, (blk_cell BK101.out 2).trans rfl, (blk_cell BK101.out 3).trans rfl⟩ (fun hHeld => ?_);refine with_tabW spec_l2Form.tab1 spec_l2Form.bits1 (fun HT_ HW_ => ?_)
  generalize w4.drew = w15 at BK101 HB hHeld ⊢
  refine pv_ 0 6 q89_30 (any_of HT_.out (by kernel_rfl)) ?_
  refine pv_ 1 7 q89_29 (any_of HT_.out (by kernel_rfl)) ?_
  refine pv_ 2 8 q89_28 (any_of HT_.out (by kernel_rfl)) ?_
  refine pv_ 3 9 q89_27 (any_of HT_.out (by kernel_rfl)) ?_
  refine pv_ 6 12 q89_26 (any_of HT_.out (by kernel_rfl)) ?_
  refine take_ (i := 4) (N := some 10) (v := ?_) (a' := ?_) q89_25 rfl rfl (take_ofW HT_.out HW_.out (by kernel_rfl)) (fun _ _ _ h => h) (Or.inl ⟨by rfl, ?_⟩) hHeld ?_ ?_
  rotate_left
  ·rintro w' ⟨s0, s1, s2, s3⟩
   go_simp
   with_reducible rfl
  rotate_left
  ·simp only [Act.put, List.setIfInBounds_toArray, List.set_cons_zero, List.set_cons_succ, i64_w, i32_w]
   rfl
  refine take_ (i := 7) (N := some 13) (v := ?_) (a' := ?_) q89_24 rfl rfl (take_ofW HT_.out HW_.out (by kernel_rfl)) (fun _ _ _ h => h) (Or.inl ⟨by rfl, ?_⟩) hHeld ?_ ?_
  rotate_left
  ·rintro w' ⟨s0, s1, s2, s3⟩
   go_simp
   with_reducible rfl
  rotate_left
  ·simp only [Act.put, List.setIfInBounds_toArray, List.set_cons_zero, List.set_cons_succ, i64_w, i32_w]
   rfl
  refine pv_ 8 14 q89_23 (any_of HT_.out (by kernel_rfl)) ?_
  refine one_ (i := 5) (N := some 11) q89_22 rfl rfl (one_of HT_.out (by kernel_rfl)) (by decide) (fun K hK => ?_)
  refine goes_ Try.func109 (by kernel_rfl) rfl #[.int .i64 a0_0] (by rfl) rfl rfl (by (try simp only [List.map_toArray, List.map_cons, List.map_nil]);first | done | rfl | (simp only [List.length_drop, List.length_take];rfl)) ?_
  with_reducible refine (spec_l2Kids.calls k a0_0 t102 _ A7.out).mono ?_
  rintro e w' ⟨rfl, ⟨nd, rfl⟩⟩
  refine ⟨_, rfl, ?_⟩
  refine hK.out _ _ ⟨(blk_cell BK101.out 0).trans rfl, (blk_cell BK101.out 1).trans rfl, (blk_cell BK101.out 2).trans rfl, (blk_cell BK101.out 3).trans rfl⟩ (fun hHeld => ?_)
  clear hK K
  refine norm_ (a' := ?_) ?_ ?_
  rotate_left
  ·show Act.put _ (some 11) _ = _
   simp only [Act.put, List.setIfInBounds_toArray, List.set_cons_zero, List.set_cons_succ, i64_w, i32_w]
   rfl
  refine pv_ 9 15 q89_21 (any_of HT_.out (by kernel_rfl)) ?_
  refine pv_ 10 16 q89_20 (any_of HT_.out (by kernel_rfl)) ?_
  refine pv_ 11 17 q89_19 (any_of HT_.out (by kernel_rfl)) ?_
  refine pv_ 12 18 q89_18 (any_of HT_.out (by kernel_rfl)) ?_
  refine take_ (i := 13) (N := some 19) (v := ?_) (a' := ?_) q89_17 rfl rfl (take_ofW HT_.out HW_.out (by kernel_rfl)) (fun _ _ _ h => h) (Or.inl ⟨by rfl, ?_⟩) hHeld ?_ ?_
  rotate_left
  ·rintro w' ⟨s0, s1, s2, s3⟩
   go_simp
   with_reducible rfl
  rotate_left
  ·simp only [Act.put, List.setIfInBounds_toArray, List.set_cons_zero, List.set_cons_succ, i64_w, i32_w]
   rfl
  refine pv_ 14 20 q89_16 (any_of HT_.out (by kernel_rfl)) ?_
  refine pv_ 15 21 q89_15 (any_of HT_.out (by kernel_rfl)) ?_
  refine pv_ 16 22 q89_14 (any_of HT_.out (by kernel_rfl)) ?_
  refine pv_ 17 23 q89_13 (any_of HT_.out (by kernel_rfl)) ?_
  refine take_ (i := 18) (N := some 24) (v := ?_) (a' := ?_) q89_12 rfl rfl (take_ofW HT_.out HW_.out (by kernel_rfl)) (fun _ _ _ h => h) (Or.inl ⟨by rfl, ?_⟩) hHeld ?_ ?_
  rotate_left
  ·rintro w' ⟨s0, s1, s2, s3⟩
   go_simp
   with_reducible rfl
  rotate_left
  ·simp only [Act.put, List.setIfInBounds_toArray, List.set_cons_zero, List.set_cons_succ, i64_w, i32_w]
   rfl
  refine pv_ 19 25 q89_11 (any_of HT_.out (by kernel_rfl)) ?_
  refine pv_ 20 26 q89_10 (any_of HT_.out (by kernel_rfl)) ?_
  refine pv_ 21 27 q89_9 (any_of HT_.out (by kernel_rfl)) ?_
  refine pv_ 22 28 q89_8 (any_of HT_.out (by kernel_rfl)) ?_
  refine take_ (i := 23) (N := some 29) (v := ?_) (a' := ?_) q89_7 rfl rfl (take_ofW HT_.out HW_.out (by kernel_rfl)) (fun _ _ _ h => h) (Or.inl ⟨by rfl, ?_⟩) hHeld ?_ ?_
  rotate_left
  ·rintro w' ⟨s0, s1, s2, s3⟩
   go_simp
   with_reducible rfl
  rotate_left
  ·simp only [Act.put, List.setIfInBounds_toArray, List.set_cons_zero, List.set_cons_succ, i64_w, i32_w]
   rfl
  refine pv_ 24 30 q89_6 (any_of HT_.out (by kernel_rfl)) ?_
  refine pv_ 25 31 q89_5 (any_of HT_.out (by kernel_rfl)) ?_
  refine pv_ 26 32 q89_4 (any_of HT_.out (by kernel_rfl)) ?_
  refine take_ (i := 27) (N := some 33) (v := ?_) (a' := ?_) q89_3 rfl rfl (take_ofW HT_.out HW_.out (by kernel_rfl)) (fun _ _ _ h => h) (Or.inl ⟨by rfl, ?_⟩) hHeld ?_ ?_
  rotate_left
  ·rintro w' ⟨s0, s1, s2, s3⟩
   go_simp
   with_reducible rfl
  rotate_left
  ·simp only [Act.put, List.setIfInBounds_toArray, List.set_cons_zero, List.set_cons_succ, i64_w, i32_w]
   rfl
  refine pv_ 28 34 q89_2 (any_of HT_.out (by kernel_rfl)) ?_
  refine pv_ 29 35 q89_1 (any_of HT_.out (by kernel_rfl)) ?_
  refine pv_ 30 36 q89_0 (any_of HT_.out (by kernel_rfl)) ?_
  refine done_ (done_of HT_.out (by kernel_rfl)) ?_
  try go_wp2
  go_meet
  case rel => exact ⟨_, ((a0_1 != 0)), (by first | rfl | (simp;done) | (simp [*];done)), H', ⟨by first | omega | exact Nat.le_refl _⟩, ⟨by (with_reducible repeat (first | refine blk_drewN ?_ _ | refine blk_drew ?_ | refine blk_alloc ?_ _));exact BK101.out⟩, ⟨by repeat (first | (with_reducible first | exact HB.out | apply below_alloc | apply pw_below_drewN | apply below_drew1 | refine below_set ?_ GE101.out) | exact HB.out)⟩⟩
 case rest =>
  clear HC3
  try clear c1
  try clear p2
  try clear c8
  try clear c8b0
  try clear c8b1
  try clear c10
  try clear c13
  try clear c13b0
  try clear c13b1
  obtain ⟨kq, x36_2, rfl, HA, HJ2, BK101, HB⟩ := hcut
  cases kq with
  | zero => exact absurd HA.out (by simp [spec_l2Form.j0])
  | succ kj2 =>
   have H := HA.out
   clear HA
   simp only [spec_l2Form.j0] at H
   by_cases c17 : x36_2 = true
   ·subst c17
    have H1 : (some false) = some r := by rw [if_pos rfl] at H;exact H
    clear H
    have H := H1
    clear H1
    obtain rfl := Option.some.inj H
    go_wp2
    go_ret
    exact ⟨by first | rfl | (simp [errW_none, errW_some] <;> rfl) | (simp [*, errW_none, errW_some] <;> rfl), by repeat (first | (with_reducible first | exact HB.out | apply below_alloc | apply pw_below_drewN | apply below_drew1 | refine below_set ?_ GE101.out) | exact HB.out)⟩
   replace c17 := Bool.eq_false_iff.mpr c17
   subst c17
   have H1 : (if a0_0 = 7 then (if a0_2 < 1 then (spec_l2Form.j1 kj2 a1 true a0_0 a0_1 a0_2 l0_3) else (if a0_2 > 20 then (spec_l2Form.j1 kj2 a1 true a0_0 a0_1 a0_2 l0_3) else (spec_l2Form.j1 kj2 a1 false a0_0 a0_1 a0_2 l0_3))) else (spec_l2Form.j1 kj2 a1 (a0_2 != 0) a0_0 a0_1 a0_2 l0_3)) = some r := by rw [if_neg (show ¬ (false = true) by decide)] at H;exact H
   clear H
   have H := H1
   clear H1
   have HC18 := m0_ H
   clear H
   go_upto_region 3 with (fail)
   go_cut [59] (fun v59 wc => ∃ (kq : Nat) (x59_17 : Bool), v59 = .bool x59_17 ∧ Aside0 (spec_l2Form.j1 kq a1 x59_17 a0_0 a0_1 a0_2 l0_3 = some r) ∧ Aside0 (kq ≤ kj2) ∧ Aside0 (wc.heap[gb101]? = some (.cells #[.int .i64 a0_0, .int .i64 a0_1, .int .i64 a0_2, (.slice A0_3 l0_3.length c0_3)] 37 (0, 0))) ∧ Aside0 (Below w.heap.size w wc))
   case first =>
    have H := HC18.out
    clear HC18
    by_cases c19 : a0_0 = 7
    rotate_left
    ·rw [if_neg c19] at H
     have c19b0 : (a0_0 == 7) = false := beq_eq_false_iff_ne.mpr c19
     have c19b1 : (a0_0 != 7) = true := bne_iff_ne.mpr c19
     (first | rw [c19b0] | (simp only [i64_w, i32_w];rw [c19b0]) | skip)
     have H' := m0_ H
     clear H
     obtain ⟨hcz25_0, hcz25_1, hcz25_2, hcz25_3, hfz25_0, hfz25_1, hfz25_2, hfz25_3⟩ := bx4 BK101.out
     go_wp2
     go_meet
     case rel => exact ⟨_, ((a0_2 != 0)), (by first | rfl | (simp;done) | (simp [*];done)), H', ⟨by have := HJ2.out;first | omega | exact Nat.le_refl _⟩, ⟨by (with_reducible repeat (first | refine blk_drewN ?_ _ | refine blk_drew ?_ | refine blk_alloc ?_ _));exact BK101.out⟩, ⟨by repeat (first | (with_reducible first | exact HB.out | apply below_alloc | apply pw_below_drewN | apply below_drew1 | refine below_set ?_ GE101.out) | exact HB.out)⟩⟩
    rw [if_pos c19] at H
    have c19b0 : (a0_0 == 7) = true := beq_iff_eq.mpr c19
    have c19b1 : (a0_0 != 7) = false := bne_eq_false_iff_eq.mpr c19
    clear c19
    (first | rw [c19b0] | (simp only [i64_w, i32_w];rw [c19b0]) | skip)
    by_cases c20 : a0_2 < 1
    ·rw [if_pos c20] at H
     have c20b0 : decide (a0_2 < 1) = true := decide_eq_true c20
     clear c20
     have H' := m0_ H
     clear H
     obtain ⟨hcz21_0, hcz21_1, hcz21_2, hcz21_3, hfz21_0, hfz21_1, hfz21_2, hfz21_3⟩ := bx4 BK101.out
     go_wp2
     go_meet
     case rel => exact ⟨_, (true), (by first | rfl | (simp;done) | (simp [*];done)), H', ⟨by have := HJ2.out;first | omega | exact Nat.le_refl _⟩, ⟨by (with_reducible repeat (first | refine blk_drewN ?_ _ | refine blk_drew ?_ | refine blk_alloc ?_ _));exact BK101.out⟩, ⟨by repeat (first | (with_reducible first | exact HB.out | apply below_alloc | apply pw_below_drewN | apply below_drew1 | refine below_set ?_ GE101.out) | exact HB.out)⟩⟩
    rw [if_neg c20] at H
    have c20b0 : decide (a0_2 < 1) = false := decide_eq_false c20
    clear c20
    by_cases c22 : a0_2 > 20
    ·rw [if_pos c22] at H
     have c22b0 : decide (20 < a0_2) = true := decide_eq_true c22
     clear c22
     have H' := m0_ H
     clear H
     obtain ⟨hcz23_0, hcz23_1, hcz23_2, hcz23_3, hfz23_0, hfz23_1, hfz23_2, hfz23_3⟩ := bx4 BK101.out
     go_wp2
     go_meet
     case rel => exact ⟨_, (true), (by first | rfl | (simp;done) | (simp [*];done)), H', ⟨by have := HJ2.out;first | omega | exact Nat.le_refl _⟩, ⟨by (with_reducible repeat (first | refine blk_drewN ?_ _ | refine blk_drew ?_ | refine blk_alloc ?_ _));exact BK101.out⟩, ⟨by repeat (first | (with_reducible first | exact HB.out | apply below_alloc | apply pw_below_drewN | apply below_drew1 | refine below_set ?_ GE101.out) | exact HB.out)⟩⟩
    ·rw [if_neg c22] at H
     have c22b0 : decide (20 < a0_2) = false := decide_eq_false c22
     clear c22
     have H' := m0_ H
     clear H
     obtain ⟨hcz24_0, hcz24_1, hcz24_2, hcz24_3, hfz24_0, hfz24_1, hfz24_2, hfz24_3⟩ := bx4 BK101.out
     go_wp2
     go_meet
     case rel => exact ⟨_, (false), (by first | rfl | (simp;done) | (simp [*];done)), H', ⟨by have := HJ2.out;first | omega | exact Nat.le_refl _⟩, ⟨by (with_reducible repeat (first | refine blk_drewN ?_ _ | refine blk_drew ?_ | refine blk_alloc ?_ _));exact BK101.out⟩, ⟨by repeat (first | (with_reducible first | exact HB.out | apply below_alloc | apply pw_below_drewN | apply below_drew1 | refine below_set ?_ GE101.out) | exact HB.out)⟩⟩
   case rest =>
    clear HC18
    try clear c1
    try clear c2
    try clear p2
    try clear c8
    try clear c8b0
    try clear c8b1
    try clear c10
    try clear c13
    try clear c13b0
    try clear c13b1
    try clear c17
    try clear c19
    try clear c19b0
    try clear c19b1
    try clear c20
    try clear c20b0
    try clear c22
    try clear c22b0
    try clear hcz21_0
    try clear hcz21_1
    try clear hcz21_2
    try clear hcz21_3
    try clear hcz23_0
    try clear hcz23_1
    try clear hcz23_2
    try clear hcz23_3
    try clear hcz24_0
    try clear hcz24_1
    try clear hcz24_2
    try clear hcz24_3
    try clear hcz25_0
    try clear hcz25_1
    try clear hcz25_2
    try clear hcz25_3
    try clear hfz21_0
    try clear hfz21_1
    try clear hfz21_2
    try clear hfz21_3
    try clear hfz23_0
    try clear hfz23_1
    try clear hfz23_2
    try clear hfz23_3
    try clear hfz24_0
    try clear hfz24_1
    try clear hfz24_2
    try clear hfz24_3
    try clear hfz25_0
    try clear hfz25_1
    try clear hfz25_2
    try clear hfz25_3
    try clear p2
    obtain ⟨kq, x59_17, rfl, HA, HJ17, BK101, HB⟩ := hcut
    cases kq with
    | zero => exact absurd HA.out (by simp [spec_l2Form.j1])
    | succ kj17 =>
     have H := HA.out
     clear HA
     simp only [spec_l2Form.j1] at H
     by_cases c26 : x59_17 = true
     ·subst c26
      have H1 : (some false) = some r := by rw [if_pos rfl] at H;exact H
      clear H
      have H := H1
      clear H1
      obtain rfl := Option.some.inj H
      go_wp2
      go_ret
      exact ⟨by first | rfl | (simp [errW_none, errW_some] <;> rfl) | (simp [*, errW_none, errW_some] <;> rfl), by repeat (first | (with_reducible first | exact HB.out | apply below_alloc | apply pw_below_drewN | apply below_drew1 | refine below_set ?_ GE101.out) | exact HB.out)⟩
     replace c26 := Bool.eq_false_iff.mpr c26
     subst c26
     have H1 : (spec_l2Form.l0 kj17 a1 0 a0_0 a0_1 a0_2 l0_3) = some r := by rw [if_neg (show ¬ (false = true) by decide)] at H;exact H
     clear H
     have H := H1
     clear H1
     have H' := m0_ H
     clear H
     go_wp2
     go_loopg [5] kj17 (fun kq v5 w' => ∃ (x5_3 : Int), v5 = .int .i64 x5_3 ∧ Aside0 (spec_l2Form.l0 kq a1 x5_3 a0_0 a0_1 a0_2 l0_3 = some r) ∧ Aside0 (kq ≤ kj17) ∧ Aside0 (w'.heap[gb101]? = some (.cells #[.int .i64 a0_0, .int .i64 a0_1, .int .i64 a0_2, (.slice A0_3 l0_3.length c0_3)] 37 (0, 0))) ∧ Aside0 (Below w.heap.size w w'))
     case atStart => exact ⟨(0), (by first | rfl | (simp;done) | (simp [*];done)), H', ⟨Nat.le_refl _⟩, ⟨by (with_reducible repeat (first | refine blk_drewN ?_ _ | refine blk_drew ?_ | refine blk_alloc ?_ _));exact BK101.out⟩, ⟨by repeat (first | (with_reducible first | exact HB.out | apply below_alloc | apply pw_below_drewN | apply below_drew1 | refine below_set ?_ GE101.out) | exact HB.out)⟩⟩
     case round =>
      clear H'
      try clear c1
      try clear c2
      try clear p2
      try clear c8
      try clear c8b0
      try clear c8b1
      try clear c10
      try clear c13
      try clear c13b0
      try clear c13b1
      try clear c17
      try clear c19
      try clear c19b0
      try clear c19b1
      try clear c20
      try clear c20b0
      try clear c22
      try clear c22b0
      try clear c26
      try clear hcz21_0
      try clear hcz21_1
      try clear hcz21_2
      try clear hcz21_3
      try clear hcz23_0
      try clear hcz23_1
      try clear hcz23_2
      try clear hcz23_3
      try clear hcz24_0
      try clear hcz24_1
      try clear hcz24_2
      try clear hcz24_3
      try clear hcz25_0
      try clear hcz25_1
      try clear hcz25_2
      try clear hcz25_3
      try clear hfz21_0
      try clear hfz21_1
      try clear hfz21_2
      try clear hfz21_3
      try clear hfz23_0
      try clear hfz23_1
      try clear hfz23_2
      try clear hfz23_3
      try clear hfz24_0
      try clear hfz24_1
      try clear hfz24_2
      try clear hfz24_3
      try clear hfz25_0
      try clear hfz25_1
      try clear hfz25_2
      try clear hfz25_3
      try clear p2
      obtain ⟨x5_3, rfl, HA, HK3, BK101, HB⟩ := hrel
      cases gk with
      | zero => exact absurd HA.out (by simp [spec_l2Form.l0])
      | succ k3 =>
       have H := HA.out
       clear HA
       simp only [spec_l2Form.l0] at H
       by_cases c27 : x5_3 < (l0_3.length : Int)
       rotate_left
       ·rw [if_neg c27] at H
        have c27b0 : decide (x5_3 < (l0_3.length : Int)) = false := decide_eq_false c27
        clear c27
        obtain rfl := Option.some.inj H
        obtain ⟨hcz35_0, hcz35_1, hcz35_2, hcz35_3, hfz35_0, hfz35_1, hfz35_2, hfz35_3⟩ := bx4 BK101.out
        go_wp2
        go_ret
        exact ⟨by first | rfl | (simp [errW_none, errW_some] <;> rfl) | (simp [*, errW_none, errW_some] <;> rfl), by repeat (first | (with_reducible first | exact HB.out | apply below_alloc | apply pw_below_drewN | apply below_drew1 | refine below_set ?_ GE101.out) | exact HB.out)⟩
       rw [if_pos c27] at H
       have c27b0 : decide (x5_3 < (l0_3.length : Int)) = true := decide_eq_true c27
       clear c27
       by_cases c28 : 0 ≤ x5_3
       rotate_left
       ·rw [if_neg c28] at H
        exact absurd H (by simp)
       rw [if_pos c28] at H
       have c28b0 : decide (0 ≤ x5_3) = true := decide_eq_true c28
       clear c28
       replace H := Option.bind_eq_some_iff.mp H
       obtain ⟨t104, A290, H⟩ := H
       replace H : (if t104 = true then (spec_l2Form.l0 k3 a1 (wrap64 (x5_3 + 1)) a0_0 a0_1 a0_2 l0_3) else (some false)) = some r := H
       have A29 := m0_ A290
       clear A290
       by_cases c30 : t104 = true
       rotate_left
       ·replace c30 := Bool.eq_false_iff.mpr c30
        subst c30
        have H1 : (some false) = some r := by rw [if_neg (show ¬ (false = true) by decide)] at H;exact H
        clear H
        have H := H1
        clear H1
        obtain rfl := Option.some.inj H
        obtain ⟨hcz33_0, hcz33_1, hcz33_2, hcz33_3, hfz33_0, hfz33_1, hfz33_2, hfz33_3⟩ := bx4 BK101.out
        have p103 : 0 ≤ (x5_3 : Int) := of_decide_eq_true (by first | (with_reducible assumption) | assumption)
        have q103 : x5_3 < (l0_3.length : Int) := of_decide_eq_true (by first | (with_reducible assumption) | assumption)
        obtain ⟨ad103, A103_3, c103_3, e103, hx103_0, hx103_1, hx103_2, hx103_3, hl103_3, hi103_3⟩ := at_T37 HR0_3.out x5_3 p103 q103
        cases e103
        replace hx103_0 := (HB.out.cell (World.block_lt_of_cell? w _ hx103_0)).trans hx103_0
        replace hx103_1 := (HB.out.cell (World.block_lt_of_cell? w _ hx103_1)).trans hx103_1
        replace hx103_2 := (HB.out.cell (World.block_lt_of_cell? w _ hx103_2)).trans hx103_2
        replace hx103_3 := (HB.out.cell (World.block_lt_of_cell? w _ hx103_3)).trans hx103_3
        have HR103_3 := m0_ hi103_3
        have HC103_3 := m0_ hl103_3
        clear hi103_3 hl103_3
        replace p103 := eq_true p103
        replace q103 := eq_true q103
        go_wp2_with (first | ((with_reducible refine gate_callee (f := 89) rfl ?_);refine goesL_ (some 74) rfl rfl Try.func89 (by kernel_rfl) rfl #[.agg #[.int .i64 ((rd_T37 l0_3 x5_3).f0), .int .i64 ((rd_T37 l0_3 x5_3).f1), .int .i64 ((rd_T37 l0_3 x5_3).f2), .slice A103_3 ((rd_T37 l0_3 x5_3).f3).length c103_3], .int .i64 (wrap64 (a1 - 1))] rfl (by (try simp only [List.map_toArray, List.map_cons, List.map_nil]);first | done | rfl | (simp only [List.length_drop, List.length_take];rfl)) ?_;(with_reducible refine (ih k3 (by have := HJ2.out;have := HJ17.out;have := HK3.out;omega) ((rd_T37 l0_3 x5_3).f0) ((rd_T37 l0_3 x5_3).f1) ((rd_T37 l0_3 x5_3).f2) _ _ ((rd_T37 l0_3 x5_3).f3) (wrap64 (a1 - 1)) false _ ?side1 ?side2 A29.out).mono ?_);(case side1 => repeat (first | exact (Kd.C_below HR103_3.out HB.out) | (with_reducible refine Kd.C_alloc ?_ _) | (with_reducible refine Kd.C_drewN ?_ _) | (with_reducible refine Kd.C_drew ?_)));(case side2 => exact HC103_3.out);rintro e w34 ⟨rfl, hb⟩;refine ⟨_, rfl, ?_⟩;replace BK101 := m0_ (blk_below BK101.out hb);replace HB := m0_ (below_step (by exact HB.out) hb);(try clear hb);(try clear hb2);(try clear hk);(try clear hi)))
        go_ret
        exact ⟨by first | rfl | (simp [errW_none, errW_some] <;> rfl) | (simp [*, errW_none, errW_some] <;> rfl), by repeat (first | (with_reducible first | exact HB.out | apply below_alloc | apply pw_below_drewN | apply below_drew1 | refine below_set ?_ GE101.out) | exact HB.out)⟩
       subst c30
       have H1 : (spec_l2Form.l0 k3 a1 (wrap64 (x5_3 + 1)) a0_0 a0_1 a0_2 l0_3) = some r := by rw [if_pos rfl] at H;exact H
       clear H
       have H := H1
       clear H1
       have H' := m0_ H
       clear H
       obtain ⟨hcz31_0, hcz31_1, hcz31_2, hcz31_3, hfz31_0, hfz31_1, hfz31_2, hfz31_3⟩ := bx4 BK101.out
       have p103 : 0 ≤ (x5_3 : Int) := of_decide_eq_true (by first | (with_reducible assumption) | assumption)
       have q103 : x5_3 < (l0_3.length : Int) := of_decide_eq_true (by first | (with_reducible assumption) | assumption)
       obtain ⟨ad103, A103_3, c103_3, e103, hx103_0, hx103_1, hx103_2, hx103_3, hl103_3, hi103_3⟩ := at_T37 HR0_3.out x5_3 p103 q103
       cases e103
       replace hx103_0 := (HB.out.cell (World.block_lt_of_cell? w _ hx103_0)).trans hx103_0
       replace hx103_1 := (HB.out.cell (World.block_lt_of_cell? w _ hx103_1)).trans hx103_1
       replace hx103_2 := (HB.out.cell (World.block_lt_of_cell? w _ hx103_2)).trans hx103_2
       replace hx103_3 := (HB.out.cell (World.block_lt_of_cell? w _ hx103_3)).trans hx103_3
       have HR103_3 := m0_ hi103_3
       have HC103_3 := m0_ hl103_3
       clear hi103_3 hl103_3
       replace p103 := eq_true p103
       replace q103 := eq_true q103
       go_wp2_with (first | ((with_reducible refine gate_callee (f := 89) rfl ?_);refine goesL_ (some 74) rfl rfl Try.func89 (by kernel_rfl) rfl #[.agg #[.int .i64 ((rd_T37 l0_3 x5_3).f0), .int .i64 ((rd_T37 l0_3 x5_3).f1), .int .i64 ((rd_T37 l0_3 x5_3).f2), .slice A103_3 ((rd_T37 l0_3 x5_3).f3).length c103_3], .int .i64 (wrap64 (a1 - 1))] rfl (by (try simp only [List.map_toArray, List.map_cons, List.map_nil]);first | done | rfl | (simp only [List.length_drop, List.length_take];rfl)) ?_;(with_reducible refine (ih k3 (by have := HJ2.out;have := HJ17.out;have := HK3.out;omega) ((rd_T37 l0_3 x5_3).f0) ((rd_T37 l0_3 x5_3).f1) ((rd_T37 l0_3 x5_3).f2) _ _ ((rd_T37 l0_3 x5_3).f3) (wrap64 (a1 - 1)) true _ ?side1 ?side2 A29.out).mono ?_);(case side1 => repeat (first | exact (Kd.C_below HR103_3.out HB.out) | (with_reducible refine Kd.C_alloc ?_ _) | (with_reducible refine Kd.C_drewN ?_ _) | (with_reducible refine Kd.C_drew ?_)));(case side2 => exact HC103_3.out);rintro e w32 ⟨rfl, hb⟩;refine ⟨_, rfl, ?_⟩;replace BK101 := m0_ (blk_below BK101.out hb);replace HB := m0_ (below_step (by exact HB.out) hb);(try clear hb);(try clear hb2);(try clear hk);(try clear hi)))
       go_roundg k3
       case measure => have := HJ2.out;have := HJ17.out;have := HK3.out;omega
       case rel => exact ⟨(wrap64 (x5_3 + 1)), (by first | rfl | (simp;done) | (simp [*];done)), H', ⟨by have := HJ2.out;have := HJ17.out;have := HK3.out;omega⟩, ⟨by (with_reducible repeat (first | refine blk_drewN ?_ _ | refine blk_drew ?_ | refine blk_alloc ?_ _));exact BK101.out⟩, ⟨by repeat (first | (with_reducible first | exact HB.out | apply below_alloc | apply pw_below_drewN | apply below_drew1 | refine below_set ?_ GE101.out) | exact HB.out)⟩⟩

mutual
def spec_l2Many.l0 : Nat → Int → Int → Int → Int → Int → Int → List (S37) → Option (Int)
 | 0, _, _, _, _, _, _, _ => none
 | k + 1, x1, x5, x6, x102000, x102001, x102002, x102003 => if x6 < (x102003.length : Int) then (if x1 > 0 then (if 0 ≤ x6 then ((spec_l2Many.f k ((rd_T37 x102003 x6).f0) ((rd_T37 x102003 x6).f1) ((rd_T37 x102003 x6).f2) ((rd_T37 x102003 x6).f3) (wrap64 (x1 - 1))).bind fun t103 => (spec_l2Many.l0 k x1 (wrap64 (x5 + t103)) (wrap64 (x6 + 1)) x102000 x102001 x102002 x102003)) else (none)) else (some x5)) else (some x5)
def spec_l2Many.f : Nat → Int → Int → Int → List (S37) → Int → Option (Int)
 | 0, _, _, _, _, _ => none
 | k + 1, a0_0, a0_1, a0_2, l0_3, a1 => spec_l2Many.l0 k a1 1 0 a0_0 a0_1 a0_2 l0_3
end
set_option maxHeartbeats 8000000 in
set_option maxRecDepth 100000 in
theorem spec_l2Many.calls (k : Nat) : ∀ (a0_0 : Int) (a0_1 : Int) (a0_2 : Int) (A0_3 : Option Addr) (c0_3 : Nat) (l0_3 : List (S37)) (a1 : Int) (r : Int) (w : World) (hr0_3 : Kd.C k37 w A0_3 l0_3.length l0_3) (hc0_3 : l0_3.length ≤ c0_3) (h : spec_l2Many.f k a0_0 a0_1 a0_2 l0_3 a1 = some r),
  Calls Try.prog 90 #[.agg #[.int .i64 a0_0, .int .i64 a0_1, .int .i64 a0_2, .slice A0_3 l0_3.length c0_3], .int .i64 a1] w fun e w' => e = .returned (.int .i64 r) ∧ Below w.heap.size w w' := by
 induction k using Nat.strongRecOn with
 | _ k ih =>
 intro a0_0 a0_1 a0_2 A0_3 c0_3 l0_3 a1 r w hr0_3 hc0_3 h
 cases k with
 | zero => exact absurd h (by simp [spec_l2Many.f])
 | succ k =>
 simp only [spec_l2Many.f] at h
 have hu37 := Try.underlying37
 have HR0_3 := m0_ hr0_3
 have HC0_3 := m0_ hc0_3
 clear hr0_3 hc0_3
 have HB := m0_ (Below.refl w.heap.size w)
 have H : (spec_l2Many.l0 k a1 1 0 a0_0 a0_1 a0_2 l0_3) = some r := h
 clear h
 have H' := m0_ H
 clear H
 go_enter Try.func90, Try.ntmps90
 go_wp2_with (first | ((with_reducible refine gate_dst (N := 2) rfl ?_);refine box_event ?hg (N := 2) ?hd (cs := #[.int .i64 a0_0, .int .i64 a0_1, .int .i64 a0_2, .slice A0_3 l0_3.length c0_3]) (t := 37) ?hr ?_;(case hd => rfl);(case hg => rfl);(case hr => first | (go_simp;done) | (go_simp;rfl));intro gb101 hg w3 hbox hb;have BK101 := m0_ (hbox);have GW101 := m0_ ((by rw [hg];exact (below_size (by exact HB.out)) : w.heap.size ≤ gb101));have GE101 := m0_ ((by rw [hg];exact (below_size (by exact HB.out)) : w.heap.size ≤ gb101));replace HB := m0_ (below_step (by exact HB.out) hb);clear hb hbox hg))
 go_loopg [5, 6] k (fun kq v5 v6 w' => ∃ (x5_1 : Int) (x6_1 : Int), v5 = .int .i64 x5_1 ∧ v6 = .int .i64 x6_1 ∧ Aside0 (spec_l2Many.l0 kq a1 x5_1 x6_1 a0_0 a0_1 a0_2 l0_3 = some r) ∧ Aside0 (kq ≤ k) ∧ Aside0 (w'.heap[gb101]? = some (.cells #[.int .i64 a0_0, .int .i64 a0_1, .int .i64 a0_2, (.slice A0_3 l0_3.length c0_3)] 37 (0, 0))) ∧ Aside0 (Below w.heap.size w w'))
 case atStart => exact ⟨(1), (0), (by first | rfl | (simp;done) | (simp [*];done)), (by first | rfl | (simp;done) | (simp [*];done)), H', ⟨Nat.le_refl _⟩, ⟨by (with_reducible repeat (first | refine blk_drewN ?_ _ | refine blk_drew ?_ | refine blk_alloc ?_ _));exact BK101.out⟩, ⟨by repeat (first | (with_reducible first | exact HB.out | apply below_alloc | apply pw_below_drewN | apply below_drew1 | refine below_set ?_ GE101.out) | exact HB.out)⟩⟩
 case round =>
  clear H'
  try clear p2
  obtain ⟨x5_1, x6_1, rfl, rfl, HA, HK1, BK101, HB⟩ := hrel
  cases gk with
  | zero => exact absurd HA.out (by simp [spec_l2Many.l0])
  | succ k1 =>
   have H := HA.out
   clear HA
   simp only [spec_l2Many.l0] at H
   by_cases c4 : x6_1 < (l0_3.length : Int)
   rotate_left
   ·rw [if_neg c4] at H
    have c4b0 : decide (x6_1 < (l0_3.length : Int)) = false := decide_eq_false c4
    clear c4
    obtain rfl := Option.some.inj H
    obtain ⟨hcz11_0, hcz11_1, hcz11_2, hcz11_3, hfz11_0, hfz11_1, hfz11_2, hfz11_3⟩ := bx4 BK101.out
    go_wp2
    go_ret
    exact ⟨by first | rfl | (simp [errW_none, errW_some] <;> rfl) | (simp [*, errW_none, errW_some] <;> rfl), by repeat (first | (with_reducible first | exact HB.out | apply below_alloc | apply pw_below_drewN | apply below_drew1 | refine below_set ?_ GE101.out) | exact HB.out)⟩
   rw [if_pos c4] at H
   have c4b0 : decide (x6_1 < (l0_3.length : Int)) = true := decide_eq_true c4
   clear c4
   by_cases c5 : a1 > 0
   rotate_left
   ·rw [if_neg c5] at H
    have c5b0 : decide (0 < a1) = false := decide_eq_false c5
    clear c5
    obtain rfl := Option.some.inj H
    obtain ⟨hcz10_0, hcz10_1, hcz10_2, hcz10_3, hfz10_0, hfz10_1, hfz10_2, hfz10_3⟩ := bx4 BK101.out
    go_wp2
    go_ret
    exact ⟨by first | rfl | (simp [errW_none, errW_some] <;> rfl) | (simp [*, errW_none, errW_some] <;> rfl), by repeat (first | (with_reducible first | exact HB.out | apply below_alloc | apply pw_below_drewN | apply below_drew1 | refine below_set ?_ GE101.out) | exact HB.out)⟩
   rw [if_pos c5] at H
   have c5b0 : decide (0 < a1) = true := decide_eq_true c5
   clear c5
   by_cases c6 : 0 ≤ x6_1
   rotate_left
   ·rw [if_neg c6] at H
    exact absurd H (by simp)
   rw [if_pos c6] at H
   have c6b0 : decide (0 ≤ x6_1) = true := decide_eq_true c6
   clear c6
   replace H := Option.bind_eq_some_iff.mp H
   obtain ⟨t103, A70, H⟩ := H
   replace H : (spec_l2Many.l0 k1 a1 (wrap64 (x5_1 + t103)) (wrap64 (x6_1 + 1)) a0_0 a0_1 a0_2 l0_3) = some r := H
   have A7 := m0_ A70
   clear A70
   have H' := m0_ H
   clear H
   obtain ⟨hcz8_0, hcz8_1, hcz8_2, hcz8_3, hfz8_0, hfz8_1, hfz8_2, hfz8_3⟩ := bx4 BK101.out
   have p102 : 0 ≤ (x6_1 : Int) := of_decide_eq_true (by first | (with_reducible assumption) | assumption)
   have q102 : x6_1 < (l0_3.length : Int) := of_decide_eq_true (by first | (with_reducible assumption) | assumption)
   obtain ⟨ad102, A102_3, c102_3, e102, hx102_0, hx102_1, hx102_2, hx102_3, hl102_3, hi102_3⟩ := at_T37 HR0_3.out x6_1 p102 q102
   cases e102
   replace hx102_0 := (HB.out.cell (World.block_lt_of_cell? w _ hx102_0)).trans hx102_0
   replace hx102_1 := (HB.out.cell (World.block_lt_of_cell? w _ hx102_1)).trans hx102_1
   replace hx102_2 := (HB.out.cell (World.block_lt_of_cell? w _ hx102_2)).trans hx102_2
   replace hx102_3 := (HB.out.cell (World.block_lt_of_cell? w _ hx102_3)).trans hx102_3
   have HR102_3 := m0_ hi102_3
   have HC102_3 := m0_ hl102_3
   clear hi102_3 hl102_3
   replace p102 := eq_true p102
   replace q102 := eq_true q102
   go_wp2_with (first | ((with_reducible refine gate_callee (f := 90) rfl ?_);refine goesL_ (some 26) rfl rfl Try.func90 (by kernel_rfl) rfl #[.agg #[.int .i64 ((rd_T37 l0_3 x6_1).f0), .int .i64 ((rd_T37 l0_3 x6_1).f1), .int .i64 ((rd_T37 l0_3 x6_1).f2), .slice A102_3 ((rd_T37 l0_3 x6_1).f3).length c102_3], .int .i64 (wrap64 (a1 - 1))] rfl (by (try simp only [List.map_toArray, List.map_cons, List.map_nil]);first | done | rfl | (simp only [List.length_drop, List.length_take];rfl)) ?_;(with_reducible refine (ih k1 (by have := HK1.out;omega) ((rd_T37 l0_3 x6_1).f0) ((rd_T37 l0_3 x6_1).f1) ((rd_T37 l0_3 x6_1).f2) _ _ ((rd_T37 l0_3 x6_1).f3) (wrap64 (a1 - 1)) t103 _ ?side1 ?side2 A7.out).mono ?_);(case side1 => repeat (first | exact (Kd.C_below HR102_3.out HB.out) | (with_reducible refine Kd.C_alloc ?_ _) | (with_reducible refine Kd.C_drewN ?_ _) | (with_reducible refine Kd.C_drew ?_)));(case side2 => exact HC102_3.out);rintro e w9 ⟨rfl, hb⟩;refine ⟨_, rfl, ?_⟩;replace BK101 := m0_ (blk_below BK101.out hb);replace HB := m0_ (below_step (by exact HB.out) hb);(try clear hb);(try clear hb2);(try clear hk);(try clear hi)))
   go_roundg k1
   case measure => have := HK1.out;omega
   case rel => exact ⟨(wrap64 (x5_1 + t103)), (wrap64 (x6_1 + 1)), (by first | rfl | (simp;done) | (simp [*];done)), (by first | rfl | (simp;done) | (simp [*];done)), H', ⟨by have := HK1.out;omega⟩, ⟨by (with_reducible repeat (first | refine blk_drewN ?_ _ | refine blk_drew ?_ | refine blk_alloc ?_ _));exact BK101.out⟩, ⟨by repeat (first | (with_reducible first | exact HB.out | apply below_alloc | apply pw_below_drewN | apply below_drew1 | refine below_set ?_ GE101.out) | exact HB.out)⟩⟩

mutual
def impl_Ex_size.l0 : Nat → Int → Int → List (S37) → Int → Int → Option (Int × Int)
 | 0, _, _, _, _, _ => none
 | k + 1, x4, x5, x11, x12, x13 => if x13 < x12 then (if 0 ≤ x13 then (if x13 < (x11.length : Int) then ((impl_Ex_size.f k ((rd_T37 x11 x13).f0) ((rd_T37 x11 x13).f1) ((rd_T37 x11 x13).f2) ((rd_T37 x11 x13).f3)).bind fun bt104 => (impl_Ex_size.l0 k (wrap64 (x4 + bt104.1)) (mx x5 (wrap64 (bt104.2 + 1))) x11 x12 (wrap64 (x13 + 1)))) else (none)) else (none)) else (some (x4, x5))
def impl_Ex_size.f : Nat → Int → Int → Int → List (S37) → Option (Int × Int)
 | 0, _, _, _, _ => none
 | k + 1, a0_0, a0_1, a0_2, l0_3 => impl_Ex_size.l0 k 1 1 l0_3 (l0_3.length : Int) 0
end
set_option maxHeartbeats 8000000 in
set_option maxRecDepth 100000 in
theorem impl_Ex_size.calls (k : Nat) : ∀ (a0_0 : Int) (a0_1 : Int) (a0_2 : Int) (A0_3 : Option Addr) (c0_3 : Nat) (l0_3 : List (S37)) (r1 : Int) (r2 : Int) (w : World) (hr0_3 : Kd.C k37 w A0_3 l0_3.length l0_3) (hc0_3 : l0_3.length ≤ c0_3) (h : impl_Ex_size.f k a0_0 a0_1 a0_2 l0_3 = some (r1, r2)),
  Calls Try.prog 91 #[.agg #[.int .i64 a0_0, .int .i64 a0_1, .int .i64 a0_2, .slice A0_3 l0_3.length c0_3]] w fun e w' => e = .returned (.tuple #[.int .i64 r1, .int .i64 r2]) ∧ Below w.heap.size w w' := by
 induction k using Nat.strongRecOn with
 | _ k ih =>
 intro a0_0 a0_1 a0_2 A0_3 c0_3 l0_3 r1 r2 w hr0_3 hc0_3 h
 cases k with
 | zero => exact absurd h (by simp [impl_Ex_size.f])
 | succ k =>
 simp only [impl_Ex_size.f] at h
 have hu37 := Try.underlying37
 have HR0_3 := m0_ hr0_3
 have HC0_3 := m0_ hc0_3
 clear hr0_3 hc0_3
 have HB := m0_ (Below.refl w.heap.size w)
 have H : (impl_Ex_size.l0 k 1 1 l0_3 (l0_3.length : Int) 0) = some (r1, r2) := h
 clear h
 have H' := m0_ H
 clear H
 go_enter Try.func91, Try.ntmps91
 go_wp2_with (first | ((with_reducible refine gate_dst (N := 1) rfl ?_);refine box_event ?hg (N := 1) ?hd (cs := #[.int .i64 a0_0, .int .i64 a0_1, .int .i64 a0_2, .slice A0_3 l0_3.length c0_3]) (t := 37) ?hr ?_;(case hd => rfl);(case hg => rfl);(case hr => first | (go_simp;done) | (go_simp;rfl));intro gb101 hg w2 hbox hb;have n0_ := m0_ (below_step (by repeat (first | (with_reducible first | exact HB.out | apply below_alloc | apply pw_below_drewN | apply below_drew1) | exact HB.out)) hb);have n1_ := m0_ (hbox);have n2_ := m0_ ((by rw [hg];exact (below_size (by repeat (first | (with_reducible first | exact HB.out | apply below_alloc | apply pw_below_drewN | apply below_drew1) | exact HB.out))) : w.heap.size ≤ gb101));have n3_ := m0_ ((by rw [hg];exact (below_size (by repeat (first | (with_reducible first | exact HB.out | apply below_alloc | apply pw_below_drewN | apply below_drew1) | exact HB.out))) : w.heap.size ≤ gb101));clear HB;have HB := n0_;have BK101 := n1_;have GW101 := n2_;have GE101 := n3_;clear n0_ n1_ n2_ n3_;clear hb hbox hg;obtain ⟨hcz3_0, hcz3_1, hcz3_2, hcz3_3, hfz3_0, hfz3_1, hfz3_2, hfz3_3⟩ := bx4 BK101.out))
 go_loopg [4, 5, 13] k (fun kq v4 v5 v13 w' => ∃ (x4_1 : Int) (x5_1 : Int) (x13_1 : Int), v4 = .int .i64 x4_1 ∧ v5 = .int .i64 x5_1 ∧ v13 = .int .i64 x13_1 ∧ Aside0 (impl_Ex_size.l0 kq x4_1 x5_1 l0_3 (l0_3.length : Int) x13_1 = some (r1, r2)) ∧ Aside0 (kq ≤ k) ∧ Aside0 (w'.heap[gb101]? = some (.cells #[.int .i64 a0_0, .int .i64 a0_1, .int .i64 a0_2, (.slice A0_3 l0_3.length c0_3)] 37 (0, 0))) ∧ Aside0 (Below w.heap.size w w'))
 case atStart => exact ⟨(1), (1), (0), (by first | rfl | (simp;done) | (simp [*];done)), (by first | rfl | (simp;done) | (simp [*];done)), (by first | rfl | (simp;done) | (simp [*];done)), H', ⟨Nat.le_refl _⟩, ⟨by (with_reducible repeat (first | refine blk_drewN ?_ _ | refine blk_drew ?_ | refine blk_alloc ?_ _));exact BK101.out⟩, ⟨by repeat (first | (with_reducible first | exact HB.out | apply below_alloc | apply pw_below_drewN | apply below_drew1 | refine below_set ?_ GE101.out) | exact HB.out)⟩⟩
 case round =>
  clear H'
  try clear p2
  try clear hcz3_0
  try clear hcz3_1
  try clear hcz3_2
  try clear hcz3_3
  try clear hfz3_0
  try clear hfz3_1
  try clear hfz3_2
  try clear hfz3_3
  obtain ⟨x4_1, x5_1, x13_1, rfl, rfl, rfl, HA, HK1, BK101, HB⟩ := hrel
  cases gk with
  | zero => exact absurd HA.out (by simp [impl_Ex_size.l0])
  | succ k1 =>
   have H := HA.out
   clear HA
   simp only [impl_Ex_size.l0] at H
   by_cases c4 : x13_1 < (l0_3.length : Int)
   rotate_left
   ·rw [if_neg c4] at H
    have c4b0 : decide (x13_1 < (l0_3.length : Int)) = false := decide_eq_false c4
    clear c4
    simp only [Option.some.injEq, Prod.mk.injEq] at H
    obtain ⟨rfl, rfl⟩ := H
    go_wp2
    go_ret2
    exact ⟨by first | rfl | (simp [errW_none, errW_some] <;> rfl) | (simp [*, errW_none, errW_some] <;> rfl), by repeat (first | (with_reducible first | exact HB.out | apply below_alloc | apply pw_below_drewN | apply below_drew1 | refine below_set ?_ GE101.out) | exact HB.out)⟩
   rw [if_pos c4] at H
   have c4b0 : decide (x13_1 < (l0_3.length : Int)) = true := decide_eq_true c4
   clear c4
   by_cases c5 : 0 ≤ x13_1
   rotate_left
   ·rw [if_neg c5] at H
    exact absurd H (by simp)
   rw [if_pos c5] at H
   have c5b0 : decide (0 ≤ x13_1) = true := decide_eq_true c5
   clear c5
   by_cases c6 : x13_1 < (l0_3.length : Int)
   rotate_left
   ·rw [if_neg c6] at H
    exact absurd H (by simp)
   rw [if_pos c6] at H
   have c6b0 : decide (x13_1 < (l0_3.length : Int)) = true := decide_eq_true c6
   clear c6
   replace H := Option.bind_eq_some_iff.mp H
   obtain ⟨⟨t104, t105⟩, A70, H⟩ := H
   replace H : (impl_Ex_size.l0 k1 (wrap64 (x4_1 + t104)) (mx x5_1 (wrap64 (t105 + 1))) l0_3 (l0_3.length : Int) (wrap64 (x13_1 + 1))) = some (r1, r2) := H
   have A7 := m0_ A70
   clear A70
   obtain ⟨ji8, hji8⟩ : ∃ j_ : Int, (mx x5_1 (wrap64 (t105 + 1))) = j_ := ⟨_, rfl⟩
   replace H : (impl_Ex_size.l0 k1 (wrap64 (x4_1 + t104)) ji8 l0_3 (l0_3.length : Int) (wrap64 (x13_1 + 1))) = some (r1, r2) := by first | (rw [hji8] at H;exact H) | (simp only [hji8] at H ⊢;exact H)
   (try rw [hji8] at A7)
   have hji8_ : (if x5_1 < (wrap64 (t105 + 1)) then (wrap64 (t105 + 1)) else x5_1) = ji8 := hji8
   have H' := m0_ H
   clear H
   have p102 : 0 ≤ (x13_1 : Int) := of_decide_eq_true (by first | (with_reducible assumption) | assumption)
   have q102 : x13_1 < (l0_3.length : Int) := of_decide_eq_true (by first | (with_reducible assumption) | assumption)
   obtain ⟨ad102, A102_3, c102_3, e102, hx102_0, hx102_1, hx102_2, hx102_3, hl102_3, hi102_3⟩ := at_T37 HR0_3.out x13_1 p102 q102
   cases e102
   replace hx102_0 := (HB.out.cell (World.block_lt_of_cell? w _ hx102_0)).trans hx102_0
   replace hx102_1 := (HB.out.cell (World.block_lt_of_cell? w _ hx102_1)).trans hx102_1
   replace hx102_2 := (HB.out.cell (World.block_lt_of_cell? w _ hx102_2)).trans hx102_2
   replace hx102_3 := (HB.out.cell (World.block_lt_of_cell? w _ hx102_3)).trans hx102_3
   have HR102_3 := m0_ hi102_3
   have HC102_3 := m0_ hl102_3
   clear hi102_3 hl102_3
   replace p102 := eq_true p102
   replace q102 := eq_true q102
   go_wp2_with (first | ((with_reducible refine gate_dst (N := 7) rfl ?_);refine box_event ?hg (N := 7) ?hd (cs := #[.int .i64 0, .int .i64 0, .int .i64 0, .slice none 0 0]) (t := 37) ?hr ?_;(case hd => rfl);(case hg => rfl);(case hr => first | (go_simp;done) | (go_simp;rfl));intro gb103 hg w9 hbox hb;have n0_ := m0_ (blk_below BK101.out hb);have n1_ := m0_ (below_step (by repeat (first | (with_reducible first | exact HB.out | apply below_alloc | apply pw_below_drewN | apply below_drew1 | refine below_set ?_ GE101.out) | exact HB.out)) hb);have n2_ := m0_ (hbox);have n3_ := m0_ ((by rw [hg];exact (below_size (by repeat (first | (with_reducible first | exact HB.out | apply below_alloc | apply pw_below_drewN | apply below_drew1 | refine below_set ?_ GE101.out) | exact HB.out))) : w.heap.size ≤ gb103));have n4_ := m0_ ((by rw [hg];exact (below_size (by repeat (first | (with_reducible first | exact HB.out | apply below_alloc | apply pw_below_drewN | apply below_drew1 | refine below_set ?_ GE101.out) | exact HB.out))) : w.heap.size ≤ gb103));have n5_ := m0_ ((by rw [hg];exact Nat.ne_of_lt (blk_lt BK101.out) : gb101 ≠ gb103));have n6_ := m0_ ((by rw [hg];exact Nat.ne_of_gt (blk_lt BK101.out) : gb103 ≠ gb101));clear BK101;clear HB;have BK101 := n0_;have HB := n1_;have BK103 := n2_;have GW103 := n3_;have GE103 := n4_;have NB101_103 := n5_;have NB103_101 := n6_;clear n0_ n1_ n2_ n3_ n4_ n5_ n6_;clear hb hbox hg;have hnb10 := NB103_101.out;have hnc10 := NB101_103.out;obtain ⟨hcz11_0, hcz11_1, hcz11_2, hcz11_3, hfz11_0, hfz11_1, hfz11_2, hfz11_3⟩ := bx4 BK103.out) | ((with_reducible refine gate_callee (f := 91) rfl ?_);refine goesL_ (some 19) rfl rfl Try.func91 (by kernel_rfl) rfl #[.agg #[.int .i64 ((rd_T37 l0_3 x13_1).f0), .int .i64 ((rd_T37 l0_3 x13_1).f1), .int .i64 ((rd_T37 l0_3 x13_1).f2), .slice A102_3 ((rd_T37 l0_3 x13_1).f3).length c102_3]] rfl (by (try simp only [List.map_toArray, List.map_cons, List.map_nil]);first | done | rfl | (simp only [List.length_drop, List.length_take];rfl)) ?_;(with_reducible refine (ih k1 (by have := HK1.out;omega) ((rd_T37 l0_3 x13_1).f0) ((rd_T37 l0_3 x13_1).f1) ((rd_T37 l0_3 x13_1).f2) _ _ ((rd_T37 l0_3 x13_1).f3) t104 t105 _ ?side1 ?side2 A7.out).mono ?_);(case side1 => exact Kd.C_below HR102_3.out (by repeat (first | (with_reducible first | exact HB.out | apply below_alloc | apply pw_below_drewN | apply below_drew1 | refine below_set ?_ GE101.out | refine below_set ?_ GE103.out) | exact HB.out)));(case side2 => exact HC102_3.out);rintro e w12 ⟨rfl, hb⟩;refine ⟨_, rfl, ?_⟩;have n0_ := m0_ (blk_below (g := gb101) (o := .cells #[.int .i64 a0_0, .int .i64 a0_1, .int .i64 a0_2, .slice (some ad102) l0_3.length c0_3] 37 (0, 0)) (by (with_reducible repeat (first | refine blk_drewN ?_ _ | refine blk_drew ?_ | refine blk_alloc ?_ _));refine blk_far ?_ NB101_103.out _;(with_reducible repeat (first | refine blk_drewN ?_ _ | refine blk_drew ?_ | refine blk_alloc ?_ _));refine blk_far ?_ NB101_103.out _;(with_reducible repeat (first | refine blk_drewN ?_ _ | refine blk_drew ?_ | refine blk_alloc ?_ _));refine blk_far ?_ NB101_103.out _;(with_reducible repeat (first | refine blk_drewN ?_ _ | refine blk_drew ?_ | refine blk_alloc ?_ _));refine blk_far ?_ NB101_103.out _;(with_reducible repeat (first | refine blk_drewN ?_ _ | refine blk_drew ?_ | refine blk_alloc ?_ _));exact BK101.out) hb);have n1_ := m0_ (blk_below (g := gb103) (o := .cells #[.int .i64 ((rd_T37 l0_3 x13_1).f0), .int .i64 ((rd_T37 l0_3 x13_1).f1), .int .i64 ((rd_T37 l0_3 x13_1).f2), .slice A102_3 ((rd_T37 l0_3 x13_1).f3).length c102_3] 37 (0, 0)) (by (with_reducible repeat (first | refine blk_drewN ?_ _ | refine blk_drew ?_ | refine blk_alloc ?_ _));refine blk_put (cs := #[.int .i64 ((rd_T37 l0_3 x13_1).f0), .int .i64 ((rd_T37 l0_3 x13_1).f1), .int .i64 ((rd_T37 l0_3 x13_1).f2), .slice none 0 0]) ?_ 3 _ rfl;(with_reducible repeat (first | refine blk_drewN ?_ _ | refine blk_drew ?_ | refine blk_alloc ?_ _));refine blk_put (cs := #[.int .i64 ((rd_T37 l0_3 x13_1).f0), .int .i64 ((rd_T37 l0_3 x13_1).f1), .int .i64 0, .slice none 0 0]) ?_ 2 _ rfl;(with_reducible repeat (first | refine blk_drewN ?_ _ | refine blk_drew ?_ | refine blk_alloc ?_ _));refine blk_put (cs := #[.int .i64 ((rd_T37 l0_3 x13_1).f0), .int .i64 0, .int .i64 0, .slice none 0 0]) ?_ 1 _ rfl;(with_reducible repeat (first | refine blk_drewN ?_ _ | refine blk_drew ?_ | refine blk_alloc ?_ _));refine blk_put (cs := #[.int .i64 0, .int .i64 0, .int .i64 0, .slice none 0 0]) ?_ 0 _ rfl;(with_reducible repeat (first | refine blk_drewN ?_ _ | refine blk_drew ?_ | refine blk_alloc ?_ _));exact BK103.out) hb);have n2_ := m0_ (below_step (by repeat (first | (with_reducible first | exact HB.out | apply below_alloc | apply pw_below_drewN | apply below_drew1 | refine below_set ?_ GE101.out | refine below_set ?_ GE103.out) | exact HB.out)) hb);clear BK101;clear BK103;clear HB;have BK101 := n0_;have BK103 := n1_;have HB := n2_;clear n0_ n1_ n2_;(try clear hb);(try clear hb2);(try clear hk);(try clear hi)))
   go_roundg k1
   case measure => have := HK1.out;omega
   case rel => exact ⟨(wrap64 (x4_1 + t104)), (ji8), (wrap64 (x13_1 + 1)), (by first | rfl | (simp;done) | (simp [*];done)), (by first | rfl | (simp;done) | (simp only [← hji8] <;> (first | rfl | simp)) | (simp [*];done)), (by first | rfl | (simp;done) | (simp [*];done)), H', ⟨by have := HK1.out;omega⟩, ⟨by (with_reducible repeat (first | refine blk_drewN ?_ _ | refine blk_drew ?_ | refine blk_alloc ?_ _));exact BK101.out⟩, ⟨by repeat (first | (with_reducible first | exact HB.out | apply below_alloc | apply pw_below_drewN | apply below_drew1 | refine below_set ?_ GE101.out | refine below_set ?_ GE103.out) | exact HB.out)⟩⟩

def impl_in.f (a0 : Int) (a1 : Int) (a2 : Int) : Option (Bool) := if a1 ≤ a0 then (some (decide (a0 ≤ a2))) else (some false)
set_option maxHeartbeats 8000000 in
set_option maxRecDepth 100000 in
theorem impl_in.calls (a0 : Int) (a1 : Int) (a2 : Int) (r : Bool) (w : World) (h : impl_in.f a0 a1 a2 = some r) :
  Calls Try.prog 58 #[.int .i64 a0, .int .i64 a1, .int .i64 a2] w fun e w' => e = .returned (.bool r) ∧ Drawn0 w w' := by
 have H : (if a1 ≤ a0 then (some (decide (a0 ≤ a2))) else (some false)) = some r := h
 clear h
 by_cases c4 : a1 ≤ a0
 ·rw [if_pos c4] at H
  have c4b0 : decide (a1 ≤ a0) = true := decide_eq_true c4
  clear c4
  obtain rfl := Option.some.inj H
  go_enter Try.func58, Try.ntmps58
  go_wp2
  go_ret
  exact ⟨by first | rfl | (simp;done) | (simp [*];done), by repeat (first | exact Drawn0.refl _ | apply Drawn0.step)⟩
 ·rw [if_neg c4] at H
  have c4b0 : decide (a1 ≤ a0) = false := decide_eq_false c4
  clear c4
  obtain rfl := Option.some.inj H
  go_enter Try.func58, Try.ntmps58
  go_wp2
  go_ret
  exact ⟨by first | rfl | (simp;done) | (simp [*];done), by repeat (first | exact Drawn0.refl _ | apply Drawn0.step)⟩

def impl_isKind.f (a0 : Int) : Option (Bool) := (impl_in.f a0 1 7).bind fun t101 => (some t101)
set_option maxHeartbeats 8000000 in
set_option maxRecDepth 100000 in
theorem impl_isKind.calls (a0 : Int) (r : Bool) (w : World) (h : impl_isKind.f a0 = some r) :
  Calls Try.prog 114 #[.int .i64 a0] w fun e w' => e = .returned (.bool r) ∧ Drawn0 w w' := by
 have H : ((impl_in.f a0 1 7).bind fun t101 => (some t101)) = some r := h
 clear h
 replace H := Option.bind_eq_some_iff.mp H
 obtain ⟨t101, A20, H⟩ := H
 replace H : (some t101) = some r := H
 have A2 := m0_ A20
 clear A20
 obtain rfl := Option.some.inj H
 go_enter Try.func114, Try.ntmps114
 go_wp2_with (first | ((with_reducible refine gate_callee (f := 58) rfl ?_);refine goesL_ (some 4) rfl rfl Try.func58 (by kernel_rfl) rfl #[.int .i64 a0, .int .i64 1, .int .i64 7] rfl (by (try simp only [List.map_toArray, List.map_cons, List.map_nil]);first | done | rfl | (simp only [List.length_drop, List.length_take];rfl)) ?_;(with_reducible refine (impl_in.calls a0 1 7 t101 _ A2.out).mono ?_);rintro e w' ⟨rfl, ⟨nd, rfl⟩⟩;refine ⟨_, rfl, ?_⟩) | (go_at_call 58;(with_reducible refine (impl_in.calls a0 1 7 t101 _ A2.out).mono ?_);rintro e w' ⟨rfl, ⟨nd, rfl⟩⟩))
 go_ret
 exact ⟨by first | rfl | (simp;done) | (simp [*];done), by repeat (first | exact Drawn0.refl _ | apply Drawn0.step)⟩

def impl_kids.f (a0 : Int) : Option (Int) := (some (([0, 0, 2, 2, 2, 3, 3, 1] : List Int) : List Int)).bind fun y101 => (if 0 ≤ a0 then (if a0 < (y101.length : Int) then (some (rd y101 a0)) else (none)) else (none))
set_option maxHeartbeats 8000000 in
set_option maxRecDepth 100000 in
theorem impl_kids.calls (a0 : Int) (r : Int) (w : World) (h : impl_kids.f a0 = some r) :
  Calls Try.prog 115 #[.int .i64 a0] w fun e w' => e = .returned (.int .i64 r) ∧ Below w.heap.size w w' := by
 have HB := m0_ (Below.refl w.heap.size w)
 have H : ((some (([0, 0, 2, 2, 2, 3, 3, 1] : List Int) : List Int)).bind fun y101 => (if 0 ≤ a0 then (if a0 < (y101.length : Int) then (some (rd y101 a0)) else (none)) else (none))) = some r := h
 clear h
 obtain ⟨y101, hy101⟩ : ∃ y_ : List Int, y_ = (([0, 0, 2, 2, 2, 3, 3, 1] : List Int)) := ⟨_, rfl⟩
 replace H : (if 0 ≤ a0 then (if a0 < (y101.length : Int) then (some (rd y101 a0)) else (none)) else (none)) = some r := by first | (rw [hy101];with_reducible exact H) | (have H2_ := (Option.bind_some _ _).symm.trans H;rw [hy101];with_reducible exact H2_) | (have H2_ := (Option.bind_some _ _).symm.trans H;with_reducible exact H2_) | with_reducible exact H | (rw [hy101];exact H) | exact H
 have Ny101 := m0_ hy101
 clear hy101
 by_cases c2 : 0 ≤ a0
 ·rw [if_pos c2] at H
  have c2b0 : decide (0 ≤ a0) = true := decide_eq_true c2
  clear c2
  by_cases c3 : a0 < (y101.length : Int)
  ·rw [if_pos c3] at H
   have c3b0 : decide (a0 < (y101.length : Int)) = true := decide_eq_true c3
   clear c3
   obtain rfl := Option.some.inj H
   go_enter Try.func115, Try.ntmps115
   go_wp2_with (first | ((with_reducible refine gate_dst (N := 3) rfl ?_);refine Kd.R_lit (Kd.int .i64) _ 3 ?hg (N := 3) ?hd (xs := ([0, 0, 2, 2, 2, 3, 3, 1] : List Int)) (inner := [.int .i64 0, .int .i64 0, .int .i64 2, .int .i64 2, .int .i64 2, .int .i64 3, .int .i64 3, .int .i64 1]) (ok := fun _ => True) (okp := fun _ => True) ?hr ?hp (fun _ hk => hk) trivial (Below.refl _ _) (Nat.le_refl _) (by simp) ?_;(case hd => rfl);(case hg => rfl);(case hr => first | (go_simp;done) | (go_simp;rfl));(case hp => exact (Reps.one (show Kd.M (Kd.int .i64) _ _ _ 0 [.int .i64 0] from rfl) (Reps.one (show Kd.M (Kd.int .i64) _ _ _ 0 [.int .i64 0] from rfl) (Reps.one (show Kd.M (Kd.int .i64) _ _ _ 2 [.int .i64 2] from rfl) (Reps.one (show Kd.M (Kd.int .i64) _ _ _ 2 [.int .i64 2] from rfl) (Reps.one (show Kd.M (Kd.int .i64) _ _ _ 2 [.int .i64 2] from rfl) (Reps.one (show Kd.M (Kd.int .i64) _ _ _ 3 [.int .i64 3] from rfl) (Reps.one (show Kd.M (Kd.int .i64) _ _ _ 3 [.int .i64 3] from rfl) (Reps.one (show Kd.M (Kd.int .i64) _ _ _ 1 [.int .i64 1] from rfl) (Reps.none _ _))))))))));intro v102 w4 ho5 hb hg_ hnew_;clear hg_ hnew_;(first | rw [← Ny101.out] at ho5 | (simp only [Int.reduceToNat] at ho5;rw [← Ny101.out] at ho5));have HO103 := m0_ (Kd.R_lower ho5 (below_size (by exact HB.out)));replace HB := m0_ (below_step (by exact HB.out) hb);clear hb ho5;obtain ⟨Ao6, co6, eo6⟩ := Kd.R_slice HO103.out;subst eo6;have p104 : 0 ≤ (a0 : Int) := of_decide_eq_true (by first | (with_reducible assumption) | assumption);have q104 : a0 < (y101.length : Int) := of_decide_eq_true (by first | (with_reducible assumption) | assumption);obtain ⟨ad104, e104, hx104_0⟩ := Kd.at_int (Kd.R_reads' HO103.out).2.2 a0 p104 q104;cases e104;replace p104 := eq_true p104;replace q104 := eq_true q104))
   go_ret
   exact ⟨by first | rfl | (simp [errW_none, errW_some] <;> rfl) | (simp [*, errW_none, errW_some] <;> rfl), by repeat (first | (with_reducible first | exact HB.out | apply below_alloc | apply pw_below_drewN | apply below_drew1) | exact HB.out)⟩
  ·rw [if_neg c3] at H
   exact absurd H (by simp)
 ·rw [if_neg c2] at H
  exact absurd H (by simp)

def impl_isSym.f (a0 : Int) : Option (Bool) := (impl_in.f a0 0 4).bind fun t101 => (some t101)
set_option maxHeartbeats 8000000 in
set_option maxRecDepth 100000 in
theorem impl_isSym.calls (a0 : Int) (r : Bool) (w : World) (h : impl_isSym.f a0 = some r) :
  Calls Try.prog 118 #[.int .i64 a0] w fun e w' => e = .returned (.bool r) ∧ Drawn0 w w' := by
 have H : ((impl_in.f a0 0 4).bind fun t101 => (some t101)) = some r := h
 clear h
 replace H := Option.bind_eq_some_iff.mp H
 obtain ⟨t101, A20, H⟩ := H
 replace H : (some t101) = some r := H
 have A2 := m0_ A20
 clear A20
 obtain rfl := Option.some.inj H
 go_enter Try.func118, Try.ntmps118
 go_wp2_with (first | ((with_reducible refine gate_callee (f := 58) rfl ?_);refine goesL_ (some 4) rfl rfl Try.func58 (by kernel_rfl) rfl #[.int .i64 a0, .int .i64 0, .int .i64 4] rfl (by (try simp only [List.map_toArray, List.map_cons, List.map_nil]);first | done | rfl | (simp only [List.length_drop, List.length_take];rfl)) ?_;(with_reducible refine (impl_in.calls a0 0 4 t101 _ A2.out).mono ?_);rintro e w' ⟨rfl, ⟨nd, rfl⟩⟩;refine ⟨_, rfl, ?_⟩) | (go_at_call 58;(with_reducible refine (impl_in.calls a0 0 4 t101 _ A2.out).mono ?_);rintro e w' ⟨rfl, ⟨nd, rfl⟩⟩))
 go_ret
 exact ⟨by first | rfl | (simp;done) | (simp [*];done), by repeat (first | exact Drawn0.refl _ | apply Drawn0.step)⟩

mutual
def impl_Ex_formed_1.f : Nat → Int → Int → Int → List (S37) → Option (Bool)
 | 0, _, _, _, _ => none
 | k + 1, a0_0, a0_1, a0_2, l0_3 => (impl_Ex_formed.f k a0_0 a0_1 a0_2 l0_3).bind fun t102 => (some (!t102))
def impl_Ex_159.l0 : Nat → List (S37) → Int → Int → Option (Int)
 | 0, _, _, _ => none
 | k + 1, x0, x7, x8 => if x8 < x7 then (if 0 ≤ x8 then (if x8 < (x0.length : Int) then ((impl_Ex_formed_1.f k ((rd_T37 x0 x8).f0) ((rd_T37 x0 x8).f1) ((rd_T37 x0 x8).f2) ((rd_T37 x0 x8).f3)).bind fun t104 => (if t104 = true then (some x8) else (impl_Ex_159.l0 k x0 x7 (wrap64 (x8 + 1))))) else (none)) else (none)) else (some (-1))
def impl_Ex_159.f : Nat → List (S37) → Option (Int)
 | 0, _ => none
 | k + 1, l0 => impl_Ex_159.l0 k l0 (l0.length : Int) 0
def impl_Ex_130.f : Nat → List (S37) → Option (Bool)
 | 0, _ => none
 | k + 1, l0 => (impl_Ex_159.f k l0).bind fun t105 => (some (decide (t105 ≥ 0)))
def impl_Ex_formed.j0 : Nat → Bool → Int → Int → Int → List (S37) → Option (Bool)
 | 0, _, _, _, _, _ => none
 | k + 1, x15, x107000, x107001, x107002, x107003 => if x15 = true then (some false) else (if x107000 = 1 then ((impl_isSym.f x107001).bind fun t109 => (if t109 = true then (impl_Ex_formed.j1 k false x107000 x107001 x107002 x107003) else (impl_Ex_formed.j1 k true x107000 x107001 x107002 x107003))) else (impl_Ex_formed.j1 k (x107001 != 0) x107000 x107001 x107002 x107003))
def impl_Ex_formed.j1 : Nat → Bool → Int → Int → Int → List (S37) → Option (Bool)
 | 0, _, _, _, _, _ => none
 | k + 1, x34, x107000, x107001, x107002, x107003 => if x34 = true then (some false) else (if x107000 = 7 then ((impl_in.f x107002 1 20).bind fun t110 => (if t110 = true then ((impl_Ex_130.f k x107003).bind fun t111 => (some (!t111))) else (some false))) else (if x107002 = 0 then ((impl_Ex_130.f k x107003).bind fun t112 => (some (!t112))) else (some false)))
def impl_Ex_formed.f : Nat → Int → Int → Int → List (S37) → Option (Bool)
 | 0, _, _, _, _ => none
 | k + 1, a0_0, a0_1, a0_2, l0_3 => (impl_isKind.f a0_0).bind fun t107 => (if t107 = true then ((impl_kids.f a0_0).bind fun t108 => (impl_Ex_formed.j0 k ((l0_3.length : Int) != t108) a0_0 a0_1 a0_2 l0_3)) else (impl_Ex_formed.j0 k true a0_0 a0_1 a0_2 l0_3))
end
set_option maxHeartbeats 8000000 in
set_option maxRecDepth 100000 in
theorem impl_Ex_formed_1.calls_step (k : Nat) (ih_131 : ∀ k_, k_ < k → ∀ (a0_0 : Int) (a0_1 : Int) (a0_2 : Int) (A0_3 : Option Addr) (c0_3 : Nat) (l0_3 : List (S37)) (r : Bool) (w : World) (hr0_3 : Kd.C k37 w A0_3 l0_3.length l0_3) (hc0_3 : l0_3.length ≤ c0_3) (h : impl_Ex_formed_1.f k_ a0_0 a0_1 a0_2 l0_3 = some r),
  Calls Try.prog 131 #[.agg #[.int .i64 a0_0, .int .i64 a0_1, .int .i64 a0_2, .slice A0_3 l0_3.length c0_3]] w fun e w' => e = .returned (.bool r) ∧ Below w.heap.size w w') (ih_159 : ∀ k_, k_ < k → ∀ (A0 : Option Addr) (c0 : Nat) (l0 : List (S37))  (r : Int) (w : World) (hr0 : Kd.C k37 w A0 l0.length l0) (hc0 : l0.length ≤ c0) (h : impl_Ex_159.f k_ l0 = some r),
  Calls Try.prog 159 #[.slice A0 l0.length c0, .func (.func 131) #[] #[]] w fun e w' => e = .returned (.int .i64 r) ∧ Below w.heap.size w w') (ih_130 : ∀ k_, k_ < k → ∀ (A0 : Option Addr) (c0 : Nat) (l0 : List (S37))  (r : Bool) (w : World) (hr0 : Kd.C k37 w A0 l0.length l0) (hc0 : l0.length ≤ c0) (h : impl_Ex_130.f k_ l0 = some r),
  Calls Try.prog 130 #[.slice A0 l0.length c0, .func (.func 131) #[] #[]] w fun e w' => e = .returned (.bool r) ∧ Below w.heap.size w w') (ih_92 : ∀ k_, k_ < k → ∀ (a0_0 : Int) (a0_1 : Int) (a0_2 : Int) (A0_3 : Option Addr) (c0_3 : Nat) (l0_3 : List (S37)) (r : Bool) (w : World) (hr0_3 : Kd.C k37 w A0_3 l0_3.length l0_3) (hc0_3 : l0_3.length ≤ c0_3) (h : impl_Ex_formed.f k_ a0_0 a0_1 a0_2 l0_3 = some r),
  Calls Try.prog 92 #[.agg #[.int .i64 a0_0, .int .i64 a0_1, .int .i64 a0_2, .slice A0_3 l0_3.length c0_3]] w fun e w' => e = .returned (.bool r) ∧ Below w.heap.size w w') : ∀ (a0_0 : Int) (a0_1 : Int) (a0_2 : Int) (A0_3 : Option Addr) (c0_3 : Nat) (l0_3 : List (S37)) (r : Bool) (w : World) (hr0_3 : Kd.C k37 w A0_3 l0_3.length l0_3) (hc0_3 : l0_3.length ≤ c0_3) (h : impl_Ex_formed_1.f k a0_0 a0_1 a0_2 l0_3 = some r),
  Calls Try.prog 131 #[.agg #[.int .i64 a0_0, .int .i64 a0_1, .int .i64 a0_2, .slice A0_3 l0_3.length c0_3]] w fun e w' => e = .returned (.bool r) ∧ Below w.heap.size w w' := by
 intro a0_0 a0_1 a0_2 A0_3 c0_3 l0_3 r w hr0_3 hc0_3 h
 cases k with
 | zero => exact absurd h (by simp [impl_Ex_formed_1.f])
 | succ k =>
 simp only [impl_Ex_formed_1.f] at h
 have hu37 := Try.underlying37
 have HR0_3 := m0_ hr0_3
 have HC0_3 := m0_ hc0_3
 clear hr0_3 hc0_3
 have HB := m0_ (Below.refl w.heap.size w)
 have H : ((impl_Ex_formed.f k a0_0 a0_1 a0_2 l0_3).bind fun t102 => (some (!t102))) = some r := h
 clear h
 replace H := Option.bind_eq_some_iff.mp H
 obtain ⟨t102, A20, H⟩ := H
 replace H : (some (!t102)) = some r := H
 have A2 := m0_ A20
 clear A20
 obtain rfl := Option.some.inj H
 go_enter Try.func131, Try.ntmps131
 go_wp2_with (first | ((with_reducible refine gate_dst (N := 1) rfl ?_);refine box_event ?hg (N := 1) ?hd (cs := #[.int .i64 a0_0, .int .i64 a0_1, .int .i64 a0_2, .slice A0_3 l0_3.length c0_3]) (t := 37) ?hr ?_;(case hd => rfl);(case hg => rfl);(case hr => first | (go_simp;done) | (go_simp;rfl));intro gb101 hg w3 hbox hb;have n0_ := m0_ (below_step (by repeat (first | (with_reducible first | exact HB.out | apply below_alloc | apply pw_below_drewN | apply below_drew1) | exact HB.out)) hb);have n1_ := m0_ (hbox);have n2_ := m0_ ((by rw [hg];exact (below_size (by repeat (first | (with_reducible first | exact HB.out | apply below_alloc | apply pw_below_drewN | apply below_drew1) | exact HB.out))) : w.heap.size ≤ gb101));have n3_ := m0_ ((by rw [hg];exact (below_size (by repeat (first | (with_reducible first | exact HB.out | apply below_alloc | apply pw_below_drewN | apply below_drew1) | exact HB.out))) : w.heap.size ≤ gb101));clear HB;have HB := n0_;have BK101 := n1_;have GW101 := n2_;have GE101 := n3_;clear n0_ n1_ n2_ n3_;clear hb hbox hg;obtain ⟨hcz4_0, hcz4_1, hcz4_2, hcz4_3, hfz4_0, hfz4_1, hfz4_2, hfz4_3⟩ := bx4 BK101.out) | ((with_reducible refine gate_callee (f := 92) rfl ?_);refine goesL_ (some 4) rfl rfl Try.func92 (by kernel_rfl) rfl #[.agg #[.int .i64 a0_0, .int .i64 a0_1, .int .i64 a0_2, .slice A0_3 l0_3.length c0_3]] rfl (by (try simp only [List.map_toArray, List.map_cons, List.map_nil]);first | done | rfl | (simp only [List.length_drop, List.length_take];rfl)) ?_;(with_reducible refine (ih_92 k (by omega) a0_0 a0_1 a0_2 _ _ l0_3 t102 _ ?side1 ?side2 A2.out).mono ?_);(case side1 => repeat (first | exact (Kd.C_below HR0_3.out HB.out) | (with_reducible refine Kd.C_alloc ?_ _) | (with_reducible refine Kd.C_drewN ?_ _) | (with_reducible refine Kd.C_drew ?_)));(case side2 => exact HC0_3.out);rintro e w5 ⟨rfl, hb⟩;refine ⟨_, rfl, ?_⟩;have n0_ := m0_ (blk_below (g := gb101) (o := .cells #[.int .i64 a0_0, .int .i64 a0_1, .int .i64 a0_2, .slice A0_3 l0_3.length c0_3] 37 (0, 0)) (by (with_reducible repeat (first | refine blk_drewN ?_ _ | refine blk_drew ?_ | refine blk_alloc ?_ _));exact BK101.out) hb);have n1_ := m0_ (below_step (by repeat (first | (with_reducible first | exact HB.out | apply below_alloc | apply pw_below_drewN | apply below_drew1 | refine below_set ?_ GE101.out) | exact HB.out)) hb);clear BK101;clear HB;have BK101 := n0_;have HB := n1_;clear n0_ n1_;(try clear hb);(try clear hb2);(try clear hk);(try clear hi)))
 go_ret
 exact ⟨by first | rfl | (simp [errW_none, errW_some] <;> rfl) | (simp [*, errW_none, errW_some] <;> rfl), by repeat (first | (with_reducible first | exact HB.out | apply below_alloc | apply pw_below_drewN | apply below_drew1 | refine below_set ?_ GE101.out) | exact HB.out)⟩


set_option maxHeartbeats 8000000 in
set_option maxRecDepth 100000 in
theorem impl_Ex_159.calls_step (k : Nat) (ih_131 : ∀ k_, k_ < k → ∀ (a0_0 : Int) (a0_1 : Int) (a0_2 : Int) (A0_3 : Option Addr) (c0_3 : Nat) (l0_3 : List (S37)) (r : Bool) (w : World) (hr0_3 : Kd.C k37 w A0_3 l0_3.length l0_3) (hc0_3 : l0_3.length ≤ c0_3) (h : impl_Ex_formed_1.f k_ a0_0 a0_1 a0_2 l0_3 = some r),
  Calls Try.prog 131 #[.agg #[.int .i64 a0_0, .int .i64 a0_1, .int .i64 a0_2, .slice A0_3 l0_3.length c0_3]] w fun e w' => e = .returned (.bool r) ∧ Below w.heap.size w w') (ih_159 : ∀ k_, k_ < k → ∀ (A0 : Option Addr) (c0 : Nat) (l0 : List (S37))  (r : Int) (w : World) (hr0 : Kd.C k37 w A0 l0.length l0) (hc0 : l0.length ≤ c0) (h : impl_Ex_159.f k_ l0 = some r),
  Calls Try.prog 159 #[.slice A0 l0.length c0, .func (.func 131) #[] #[]] w fun e w' => e = .returned (.int .i64 r) ∧ Below w.heap.size w w') (ih_130 : ∀ k_, k_ < k → ∀ (A0 : Option Addr) (c0 : Nat) (l0 : List (S37))  (r : Bool) (w : World) (hr0 : Kd.C k37 w A0 l0.length l0) (hc0 : l0.length ≤ c0) (h : impl_Ex_130.f k_ l0 = some r),
  Calls Try.prog 130 #[.slice A0 l0.length c0, .func (.func 131) #[] #[]] w fun e w' => e = .returned (.bool r) ∧ Below w.heap.size w w') (ih_92 : ∀ k_, k_ < k → ∀ (a0_0 : Int) (a0_1 : Int) (a0_2 : Int) (A0_3 : Option Addr) (c0_3 : Nat) (l0_3 : List (S37)) (r : Bool) (w : World) (hr0_3 : Kd.C k37 w A0_3 l0_3.length l0_3) (hc0_3 : l0_3.length ≤ c0_3) (h : impl_Ex_formed.f k_ a0_0 a0_1 a0_2 l0_3 = some r),
  Calls Try.prog 92 #[.agg #[.int .i64 a0_0, .int .i64 a0_1, .int .i64 a0_2, .slice A0_3 l0_3.length c0_3]] w fun e w' => e = .returned (.bool r) ∧ Below w.heap.size w w') : ∀ (A0 : Option Addr) (c0 : Nat) (l0 : List (S37))  (r : Int) (w : World) (hr0 : Kd.C k37 w A0 l0.length l0) (hc0 : l0.length ≤ c0) (h : impl_Ex_159.f k l0 = some r),
  Calls Try.prog 159 #[.slice A0 l0.length c0, .func (.func 131) #[] #[]] w fun e w' => e = .returned (.int .i64 r) ∧ Below w.heap.size w w' := by
 intro A0 c0 l0 r w hr0 hc0 h
 cases k with
 | zero => exact absurd h (by simp [impl_Ex_159.f])
 | succ k =>
 simp only [impl_Ex_159.f] at h
 have hu37 := Try.underlying37
 have HR0 := m0_ hr0
 have HC0 := m0_ hc0
 clear hr0 hc0
 have HB := m0_ (Below.refl w.heap.size w)
 have H : (impl_Ex_159.l0 k l0 (l0.length : Int) 0) = some r := h
 clear h
 have H' := m0_ H
 clear H
 go_enter Try.func159, Try.ntmps159
 go_wp2
 go_loopg [8] k (fun kq v8 w' => ∃ (x8_1 : Int), v8 = .int .i64 x8_1 ∧ Aside0 (impl_Ex_159.l0 kq l0 (l0.length : Int) x8_1 = some r) ∧ Aside0 (kq ≤ k) ∧ Aside0 (Below w.heap.size w w'))
 case atStart => exact ⟨(0), (by first | rfl | (simp;done) | (simp [*];done)), H', ⟨Nat.le_refl _⟩, ⟨by repeat (first | (with_reducible first | exact HB.out | apply below_alloc | apply pw_below_drewN | apply below_drew1) | exact HB.out)⟩⟩
 case round =>
  clear H'
  try clear c1
  try clear p2
  obtain ⟨x8_1, rfl, HA, HK1, HB⟩ := hrel
  cases gk with
  | zero => exact absurd HA.out (by simp [impl_Ex_159.l0])
  | succ k1 =>
   have H := HA.out
   clear HA
   simp only [impl_Ex_159.l0] at H
   by_cases c3 : x8_1 < (l0.length : Int)
   rotate_left
   ·rw [if_neg c3] at H
    have c3b0 : decide (x8_1 < (l0.length : Int)) = false := decide_eq_false c3
    clear c3
    obtain rfl := Option.some.inj H
    go_wp2
    go_ret
    exact ⟨by first | rfl | (simp [errW_none, errW_some] <;> rfl) | (simp [*, errW_none, errW_some] <;> rfl), by repeat (first | (with_reducible first | exact HB.out | apply below_alloc | apply pw_below_drewN | apply below_drew1) | exact HB.out)⟩
   rw [if_pos c3] at H
   have c3b0 : decide (x8_1 < (l0.length : Int)) = true := decide_eq_true c3
   clear c3
   by_cases c4 : 0 ≤ x8_1
   rotate_left
   ·rw [if_neg c4] at H
    exact absurd H (by simp)
   rw [if_pos c4] at H
   have c4b0 : decide (0 ≤ x8_1) = true := decide_eq_true c4
   clear c4
   by_cases c5 : x8_1 < (l0.length : Int)
   rotate_left
   ·rw [if_neg c5] at H
    exact absurd H (by simp)
   rw [if_pos c5] at H
   have c5b0 : decide (x8_1 < (l0.length : Int)) = true := decide_eq_true c5
   clear c5
   replace H := Option.bind_eq_some_iff.mp H
   obtain ⟨t104, A60, H⟩ := H
   replace H : (if t104 = true then (some x8_1) else (impl_Ex_159.l0 k1 l0 (l0.length : Int) (wrap64 (x8_1 + 1)))) = some r := H
   have A6 := m0_ A60
   clear A60
   by_cases c7 : t104 = true
   ·subst c7
    have H1 : (some x8_1) = some r := by rw [if_pos rfl] at H;exact H
    clear H
    have H := H1
    clear H1
    obtain rfl := Option.some.inj H
    have p103 : 0 ≤ (x8_1 : Int) := of_decide_eq_true (by first | (with_reducible assumption) | assumption)
    have q103 : x8_1 < (l0.length : Int) := of_decide_eq_true (by first | (with_reducible assumption) | assumption)
    obtain ⟨ad103, A103_3, c103_3, e103, hx103_0, hx103_1, hx103_2, hx103_3, hl103_3, hi103_3⟩ := at_T37 HR0.out x8_1 p103 q103
    cases e103
    replace hx103_0 := (HB.out.cell (World.block_lt_of_cell? w _ hx103_0)).trans hx103_0
    replace hx103_1 := (HB.out.cell (World.block_lt_of_cell? w _ hx103_1)).trans hx103_1
    replace hx103_2 := (HB.out.cell (World.block_lt_of_cell? w _ hx103_2)).trans hx103_2
    replace hx103_3 := (HB.out.cell (World.block_lt_of_cell? w _ hx103_3)).trans hx103_3
    have HR103_3 := m0_ hi103_3
    have HC103_3 := m0_ hl103_3
    clear hi103_3 hl103_3
    replace p103 := eq_true p103
    replace q103 := eq_true q103
    go_wp2_with (first | (go_at_call 131;(with_reducible refine (ih_131 k1 (by have := HK1.out;omega) ((rd_T37 l0 x8_1).f0) ((rd_T37 l0 x8_1).f1) ((rd_T37 l0 x8_1).f2) _ _ ((rd_T37 l0 x8_1).f3) true _ ?side1 ?side2 A6.out).mono ?_);(case side1 => repeat (first | exact (Kd.C_below HR103_3.out HB.out) | (with_reducible refine Kd.C_alloc ?_ _) | (with_reducible refine Kd.C_drewN ?_ _) | (with_reducible refine Kd.C_drew ?_)));(case side2 => exact HC103_3.out);rintro e w8 ⟨rfl, hb⟩;have n0_ := m0_ (below_step (by repeat (first | (with_reducible first | exact HB.out | apply below_alloc | apply pw_below_drewN | apply below_drew1) | exact HB.out)) hb);clear HB;have HB := n0_;clear n0_;(try clear hb);(try clear hb2);(try clear hk);(try clear hi)))
    go_ret
    exact ⟨by first | rfl | (simp [errW_none, errW_some] <;> rfl) | (simp [*, errW_none, errW_some] <;> rfl), by repeat (first | (with_reducible first | exact HB.out | apply below_alloc | apply pw_below_drewN | apply below_drew1) | exact HB.out)⟩
   replace c7 := Bool.eq_false_iff.mpr c7
   subst c7
   have H1 : (impl_Ex_159.l0 k1 l0 (l0.length : Int) (wrap64 (x8_1 + 1))) = some r := by rw [if_neg (show ¬ (false = true) by decide)] at H;exact H
   clear H
   have H := H1
   clear H1
   have H' := m0_ H
   clear H
   have p103 : 0 ≤ (x8_1 : Int) := of_decide_eq_true (by first | (with_reducible assumption) | assumption)
   have q103 : x8_1 < (l0.length : Int) := of_decide_eq_true (by first | (with_reducible assumption) | assumption)
   obtain ⟨ad103, A103_3, c103_3, e103, hx103_0, hx103_1, hx103_2, hx103_3, hl103_3, hi103_3⟩ := at_T37 HR0.out x8_1 p103 q103
   cases e103
   replace hx103_0 := (HB.out.cell (World.block_lt_of_cell? w _ hx103_0)).trans hx103_0
   replace hx103_1 := (HB.out.cell (World.block_lt_of_cell? w _ hx103_1)).trans hx103_1
   replace hx103_2 := (HB.out.cell (World.block_lt_of_cell? w _ hx103_2)).trans hx103_2
   replace hx103_3 := (HB.out.cell (World.block_lt_of_cell? w _ hx103_3)).trans hx103_3
   have HR103_3 := m0_ hi103_3
   have HC103_3 := m0_ hl103_3
   clear hi103_3 hl103_3
   replace p103 := eq_true p103
   replace q103 := eq_true q103
   go_wp2_with (first | (go_at_call 131;(with_reducible refine (ih_131 k1 (by have := HK1.out;omega) ((rd_T37 l0 x8_1).f0) ((rd_T37 l0 x8_1).f1) ((rd_T37 l0 x8_1).f2) _ _ ((rd_T37 l0 x8_1).f3) false _ ?side1 ?side2 A6.out).mono ?_);(case side1 => repeat (first | exact (Kd.C_below HR103_3.out HB.out) | (with_reducible refine Kd.C_alloc ?_ _) | (with_reducible refine Kd.C_drewN ?_ _) | (with_reducible refine Kd.C_drew ?_)));(case side2 => exact HC103_3.out);rintro e w9 ⟨rfl, hb⟩;have n0_ := m0_ (below_step (by repeat (first | (with_reducible first | exact HB.out | apply below_alloc | apply pw_below_drewN | apply below_drew1) | exact HB.out)) hb);clear HB;have HB := n0_;clear n0_;(try clear hb);(try clear hb2);(try clear hk);(try clear hi)))
   go_roundg k1
   case measure => have := HK1.out;omega
   case rel => exact ⟨(wrap64 (x8_1 + 1)), (by first | rfl | (simp;done) | (simp [*];done)), H', ⟨by have := HK1.out;omega⟩, ⟨by repeat (first | (with_reducible first | exact HB.out | apply below_alloc | apply pw_below_drewN | apply below_drew1) | exact HB.out)⟩⟩


set_option maxHeartbeats 8000000 in
set_option maxRecDepth 100000 in
theorem impl_Ex_130.calls_step (k : Nat) (ih_131 : ∀ k_, k_ < k → ∀ (a0_0 : Int) (a0_1 : Int) (a0_2 : Int) (A0_3 : Option Addr) (c0_3 : Nat) (l0_3 : List (S37)) (r : Bool) (w : World) (hr0_3 : Kd.C k37 w A0_3 l0_3.length l0_3) (hc0_3 : l0_3.length ≤ c0_3) (h : impl_Ex_formed_1.f k_ a0_0 a0_1 a0_2 l0_3 = some r),
  Calls Try.prog 131 #[.agg #[.int .i64 a0_0, .int .i64 a0_1, .int .i64 a0_2, .slice A0_3 l0_3.length c0_3]] w fun e w' => e = .returned (.bool r) ∧ Below w.heap.size w w') (ih_159 : ∀ k_, k_ < k → ∀ (A0 : Option Addr) (c0 : Nat) (l0 : List (S37))  (r : Int) (w : World) (hr0 : Kd.C k37 w A0 l0.length l0) (hc0 : l0.length ≤ c0) (h : impl_Ex_159.f k_ l0 = some r),
  Calls Try.prog 159 #[.slice A0 l0.length c0, .func (.func 131) #[] #[]] w fun e w' => e = .returned (.int .i64 r) ∧ Below w.heap.size w w') (ih_130 : ∀ k_, k_ < k → ∀ (A0 : Option Addr) (c0 : Nat) (l0 : List (S37))  (r : Bool) (w : World) (hr0 : Kd.C k37 w A0 l0.length l0) (hc0 : l0.length ≤ c0) (h : impl_Ex_130.f k_ l0 = some r),
  Calls Try.prog 130 #[.slice A0 l0.length c0, .func (.func 131) #[] #[]] w fun e w' => e = .returned (.bool r) ∧ Below w.heap.size w w') (ih_92 : ∀ k_, k_ < k → ∀ (a0_0 : Int) (a0_1 : Int) (a0_2 : Int) (A0_3 : Option Addr) (c0_3 : Nat) (l0_3 : List (S37)) (r : Bool) (w : World) (hr0_3 : Kd.C k37 w A0_3 l0_3.length l0_3) (hc0_3 : l0_3.length ≤ c0_3) (h : impl_Ex_formed.f k_ a0_0 a0_1 a0_2 l0_3 = some r),
  Calls Try.prog 92 #[.agg #[.int .i64 a0_0, .int .i64 a0_1, .int .i64 a0_2, .slice A0_3 l0_3.length c0_3]] w fun e w' => e = .returned (.bool r) ∧ Below w.heap.size w w') : ∀ (A0 : Option Addr) (c0 : Nat) (l0 : List (S37))  (r : Bool) (w : World) (hr0 : Kd.C k37 w A0 l0.length l0) (hc0 : l0.length ≤ c0) (h : impl_Ex_130.f k l0 = some r),
  Calls Try.prog 130 #[.slice A0 l0.length c0, .func (.func 131) #[] #[]] w fun e w' => e = .returned (.bool r) ∧ Below w.heap.size w w' := by
 intro A0 c0 l0 r w hr0 hc0 h
 cases k with
 | zero => exact absurd h (by simp [impl_Ex_130.f])
 | succ k =>
 simp only [impl_Ex_130.f] at h
 have HR0 := m0_ hr0
 have HC0 := m0_ hc0
 clear hr0 hc0
 have HB := m0_ (Below.refl w.heap.size w)
 have H : ((impl_Ex_159.f k l0).bind fun t105 => (some (decide (t105 ≥ 0)))) = some r := h
 clear h
 replace H := Option.bind_eq_some_iff.mp H
 obtain ⟨t105, A30, H⟩ := H
 replace H : (some (decide (t105 ≥ 0))) = some r := H
 have A3 := m0_ A30
 clear A30
 obtain rfl := Option.some.inj H
 go_enter Try.func130, Try.ntmps130
 go_wp2_with (first | ((with_reducible refine gate_callee (f := 159) rfl ?_);refine goesL_ (some 7) rfl rfl Try.func159 (by kernel_rfl) rfl #[.slice A0 l0.length c0, .func (.func 131) #[] #[]] rfl (by (try simp only [List.map_toArray, List.map_cons, List.map_nil]);first | done | rfl | (simp only [List.length_drop, List.length_take];rfl)) ?_;(with_reducible refine (ih_159 k (by omega) _ _ l0  t105 _ ?side1 ?side2 A3.out).mono ?_);(case side1 => repeat (first | exact HR0.out | (with_reducible refine Kd.C_alloc ?_ _) | (with_reducible refine Kd.C_drewN ?_ _) | (with_reducible refine Kd.C_drew ?_)));(case side2 => exact HC0.out);rintro e w4 ⟨rfl, hb⟩;refine ⟨_, rfl, ?_⟩;have n0_ := m0_ (below_step (by repeat (first | (with_reducible first | exact HB.out | apply below_alloc | apply pw_below_drewN | apply below_drew1) | exact HB.out)) hb);clear HB;have HB := n0_;clear n0_;(try clear hb);(try clear hb2);(try clear hk);(try clear hi)))
 go_ret
 exact ⟨by first | rfl | (simp [errW_none, errW_some] <;> rfl) | (simp [*, errW_none, errW_some] <;> rfl), by repeat (first | (with_reducible first | exact HB.out | apply below_alloc | apply pw_below_drewN | apply below_drew1) | exact HB.out)⟩


def impl_Ex_formed.T1 : Bool × List (List Nat × List Nat) := (true, [([], []), ([0], [0]), ([1], [1]), ([2], [2]), ([3, 2], [3]), ([4], [4]), ([5, 4], [4, 5]), ([6, 4], [4, 6]), ([4], [4]), ([8, 4], [4, 8]), ([9, 4, 4], [4, 9]), ([7, 10, 4], [4, 7, 10]), ([4, 11], [4, 11])])
def impl_Ex_formed.B1 : List Nat := [0, 1, 3, 7, 15, 31, 63, 127, 31, 287, 799, 2047, 4095]
theorem impl_Ex_formed.tab1 : rtab .any (opsOf Try.f92 1) = impl_Ex_formed.T1 := by kernel_rfl
theorem impl_Ex_formed.bits1 : waitsOk impl_Ex_formed.T1.2 impl_Ex_formed.B1 = true := by kernel_rfl
set_option maxHeartbeats 8000000 in
set_option maxRecDepth 100000 in
theorem impl_Ex_formed.calls_step (k : Nat) (ih_131 : ∀ k_, k_ < k → ∀ (a0_0 : Int) (a0_1 : Int) (a0_2 : Int) (A0_3 : Option Addr) (c0_3 : Nat) (l0_3 : List (S37)) (r : Bool) (w : World) (hr0_3 : Kd.C k37 w A0_3 l0_3.length l0_3) (hc0_3 : l0_3.length ≤ c0_3) (h : impl_Ex_formed_1.f k_ a0_0 a0_1 a0_2 l0_3 = some r),
  Calls Try.prog 131 #[.agg #[.int .i64 a0_0, .int .i64 a0_1, .int .i64 a0_2, .slice A0_3 l0_3.length c0_3]] w fun e w' => e = .returned (.bool r) ∧ Below w.heap.size w w') (ih_159 : ∀ k_, k_ < k → ∀ (A0 : Option Addr) (c0 : Nat) (l0 : List (S37))  (r : Int) (w : World) (hr0 : Kd.C k37 w A0 l0.length l0) (hc0 : l0.length ≤ c0) (h : impl_Ex_159.f k_ l0 = some r),
  Calls Try.prog 159 #[.slice A0 l0.length c0, .func (.func 131) #[] #[]] w fun e w' => e = .returned (.int .i64 r) ∧ Below w.heap.size w w') (ih_130 : ∀ k_, k_ < k → ∀ (A0 : Option Addr) (c0 : Nat) (l0 : List (S37))  (r : Bool) (w : World) (hr0 : Kd.C k37 w A0 l0.length l0) (hc0 : l0.length ≤ c0) (h : impl_Ex_130.f k_ l0 = some r),
  Calls Try.prog 130 #[.slice A0 l0.length c0, .func (.func 131) #[] #[]] w fun e w' => e = .returned (.bool r) ∧ Below w.heap.size w w') (ih_92 : ∀ k_, k_ < k → ∀ (a0_0 : Int) (a0_1 : Int) (a0_2 : Int) (A0_3 : Option Addr) (c0_3 : Nat) (l0_3 : List (S37)) (r : Bool) (w : World) (hr0_3 : Kd.C k37 w A0_3 l0_3.length l0_3) (hc0_3 : l0_3.length ≤ c0_3) (h : impl_Ex_formed.f k_ a0_0 a0_1 a0_2 l0_3 = some r),
  Calls Try.prog 92 #[.agg #[.int .i64 a0_0, .int .i64 a0_1, .int .i64 a0_2, .slice A0_3 l0_3.length c0_3]] w fun e w' => e = .returned (.bool r) ∧ Below w.heap.size w w') : ∀ (a0_0 : Int) (a0_1 : Int) (a0_2 : Int) (A0_3 : Option Addr) (c0_3 : Nat) (l0_3 : List (S37)) (r : Bool) (w : World) (hr0_3 : Kd.C k37 w A0_3 l0_3.length l0_3) (hc0_3 : l0_3.length ≤ c0_3) (h : impl_Ex_formed.f k a0_0 a0_1 a0_2 l0_3 = some r),
  Calls Try.prog 92 #[.agg #[.int .i64 a0_0, .int .i64 a0_1, .int .i64 a0_2, .slice A0_3 l0_3.length c0_3]] w fun e w' => e = .returned (.bool r) ∧ Below w.heap.size w w' := by
 intro a0_0 a0_1 a0_2 A0_3 c0_3 l0_3 r w hr0_3 hc0_3 h
 cases k with
 | zero => exact absurd h (by simp [impl_Ex_formed.f])
 | succ k =>
 simp only [impl_Ex_formed.f] at h
 have hu37 := Try.underlying37
 have HR0_3 := m0_ hr0_3
 have HC0_3 := m0_ hc0_3
 clear hr0_3 hc0_3
 have HB := m0_ (Below.refl w.heap.size w)
 have H : ((impl_isKind.f a0_0).bind fun t107 => (if t107 = true then ((impl_kids.f a0_0).bind fun t108 => (impl_Ex_formed.j0 k ((l0_3.length : Int) != t108) a0_0 a0_1 a0_2 l0_3)) else (impl_Ex_formed.j0 k true a0_0 a0_1 a0_2 l0_3))) = some r := h
 clear h
 have HC2 := m0_ H
 clear H
 go_enter Try.func92, Try.ntmps92
 go_upto_region 1 with (first | ((with_reducible refine gate_dst (N := 1) rfl ?_);(try (refine gate_guard (by rfl) ?_;dsimp only));refine box_event ?hg (N := 1) ?hd (cs := #[.int .i64 a0_0, .int .i64 a0_1, .int .i64 a0_2, .slice A0_3 l0_3.length c0_3]) (t := 37) ?hr ?_;(case hd => rfl);(case hg => rfl);(case hr => first | (go_simp;done) | (go_simp;rfl));intro gb106 hg w3 hbox hb;have n0_ := m0_ (below_step (by repeat (first | (with_reducible first | exact HB.out | apply below_alloc | apply pw_below_drewN | apply below_drew1) | exact HB.out)) hb);have n1_ := m0_ (hbox);have n2_ := m0_ ((by rw [hg];exact (below_size (by repeat (first | (with_reducible first | exact HB.out | apply below_alloc | apply pw_below_drewN | apply below_drew1) | exact HB.out))) : w.heap.size ≤ gb106));have n3_ := m0_ ((by rw [hg];exact (below_size (by repeat (first | (with_reducible first | exact HB.out | apply below_alloc | apply pw_below_drewN | apply below_drew1) | exact HB.out))) : w.heap.size ≤ gb106));clear HB;have HB := n0_;have BK106 := n1_;have GW106 := n2_;have GE106 := n3_;clear n0_ n1_ n2_ n3_;clear hb hbox hg))
 (try simp only [Act.put, List.setIfInBounds_toArray, List.set_cons_zero, List.set_cons_succ])
 go_cut [15] (fun v15 wc => ∃ (kq : Nat) (x15_1 : Bool), v15 = .bool x15_1 ∧ Aside0 (impl_Ex_formed.j0 kq x15_1 a0_0 a0_1 a0_2 l0_3 = some r) ∧ Aside0 (kq ≤ k) ∧ Aside0 (wc.heap[gb106]? = some (.cells #[.int .i64 a0_0, .int .i64 a0_1, .int .i64 a0_2, (.slice A0_3 l0_3.length c0_3)] 37 (0, 0))) ∧ Aside0 (Below w.heap.size w wc))
 case first =>
  have H := HC2.out
  clear HC2
  replace H := Option.bind_eq_some_iff.mp H
  obtain ⟨t107, A40, H⟩ := H
  replace H : (if t107 = true then ((impl_kids.f a0_0).bind fun t108 => (impl_Ex_formed.j0 k ((l0_3.length : Int) != t108) a0_0 a0_1 a0_2 l0_3)) else (impl_Ex_formed.j0 k true a0_0 a0_1 a0_2 l0_3)) = some r := H
  have A4 := m0_ A40
  clear A40
  by_cases c5 : t107 = true
  rotate_left
  ·replace c5 := Bool.eq_false_iff.mpr c5
   subst c5
   have H1 : (impl_Ex_formed.j0 k true a0_0 a0_1 a0_2 l0_3) = some r := by rw [if_neg (show ¬ (false = true) by decide)] at H;exact H
   clear H
   have H := H1
   clear H1
   have H' := m0_ H
   clear H
   try go_wp2
   have n0_ := m0_ (blk_drew BK106.out)
   have n1_ := m0_ (below_drew1 HB.out)
   clear BK106
   clear HB
   have BK106 := n0_
   have HB := n1_
   clear n0_ n1_
   refine start_ (n := 13) (S := fun w' => w'.cell? ⟨gb106, 0, none⟩ = some (.int .i64 a0_0) ∧ w'.cell? ⟨gb106, 1, none⟩ = some (.int .i64 a0_1) ∧ w'.cell? ⟨gb106, 2, none⟩ = some (.int .i64 a0_2) ∧ w'.cell? ⟨gb106, 3, none⟩ = some (.slice A0_3 l0_3.length c0_3)) (ds := []) #[false, false, false, false, false, false, false, false, false, false, false, false, false] (by kernel_rfl) rfl rfl ⟨(blk_cell BK106.out 0).trans rfl, (blk_cell BK106.out 1).trans rfl, (blk_cell BK106.out 2).trans rfl, (blk_cell BK106.out 3).trans rfl⟩ (fun hHeld => ?_);refine with_tabW impl_Ex_formed.tab1 impl_Ex_formed.bits1 (fun HT_ HW_ => ?_)
   generalize w3.drew = w9 at BK106 HB hHeld ⊢
   refine pure_ (i := 0) (N := some 3) (v := ?_) (a' := ?_) #[true, false, false, false, false, false, false, false, false, false, false, false, false] rfl rfl (any_of HT_.out (by kernel_rfl)) (fun _ _ _ h => h) (Or.inl ⟨by rfl, ?_⟩) ?_ ?_
   rotate_left
   ·intro w'
    go_simp
    with_reducible rfl
   rotate_left
   ·simp only [Act.put, List.setIfInBounds_toArray, List.set_cons_zero, List.set_cons_succ, i64_w, i32_w]
    rfl
   refine take_ (i := 1) (N := some 4) (v := ?_) (a' := ?_) #[true, true, false, false, false, false, false, false, false, false, false, false, false] rfl rfl (take_ofW HT_.out HW_.out (by kernel_rfl)) (fun _ _ _ h => h) (Or.inl ⟨by rfl, ?_⟩) hHeld ?_ ?_
   rotate_left
   ·rintro w' ⟨s0, s1, s2, s3⟩
    go_simp
    with_reducible rfl
   rotate_left
   ·simp only [Act.put, List.setIfInBounds_toArray, List.set_cons_zero, List.set_cons_succ, i64_w, i32_w]
    rfl
   refine one_ (i := 2) (N := some 5) #[true, true, true, false, false, false, false, false, false, false, false, false, false] rfl rfl (one_of HT_.out (by kernel_rfl)) (by decide) (fun K hK => ?_)
   refine goes_ Try.func114 (by kernel_rfl) rfl #[.int .i64 a0_0] (by rfl) rfl rfl (by (try simp only [List.map_toArray, List.map_cons, List.map_nil]);first | done | rfl | (simp only [List.length_drop, List.length_take];rfl)) ?_
   with_reducible refine (impl_isKind.calls a0_0 false _ A4.out).mono ?_
   rintro e w' ⟨rfl, ⟨nd, rfl⟩⟩
   refine ⟨_, rfl, ?_⟩
   refine hK.out _ _ ⟨(blk_cell BK106.out 0).trans rfl, (blk_cell BK106.out 1).trans rfl, (blk_cell BK106.out 2).trans rfl, (blk_cell BK106.out 3).trans rfl⟩ (fun hHeld => ?_)
   clear hK K
   refine norm_ (a' := ?_) ?_ ?_
   rotate_left
   ·show Act.put _ (some 5) _ = _
    simp only [Act.put, List.setIfInBounds_toArray, List.set_cons_zero, List.set_cons_succ, i64_w, i32_w]
    rfl
   refine pure_ (i := 3) (N := some 6) (v := ?_) (a' := ?_) #[true, true, true, true, false, false, false, false, false, false, false, false, false] rfl rfl (any_of HT_.out (by kernel_rfl)) (fun _ _ _ h => h) (Or.inl ⟨by rfl, ?_⟩) ?_ ?_
   rotate_left
   ·intro w'
    go_simp
    with_reducible rfl
   rotate_left
   ·simp only [Act.put, List.setIfInBounds_toArray, List.set_cons_zero, List.set_cons_succ, i64_w, i32_w]
    rfl
   refine pure_ (i := 4) (N := some 7) (v := ?_) (a' := ?_) #[true, true, true, true, true, false, false, false, false, false, false, false, false] rfl rfl (any_of HT_.out (by kernel_rfl)) (fun _ _ _ h => h) (Or.inl ⟨by rfl, ?_⟩) ?_ ?_
   rotate_left
   ·intro w'
    go_simp
    with_reducible rfl
   rotate_left
   ·simp only [Act.put, List.setIfInBounds_toArray, List.set_cons_zero, List.set_cons_succ, i64_w, i32_w]
    rfl
   refine pure_ (i := 5) (N := some 8) (v := undef) (a' := ?_) #[true, true, true, true, true, true, false, false, false, false, false, false, false] rfl rfl (any_of HT_.out (by kernel_rfl)) (fun _ _ _ h => h) (Or.inr ⟨by rfl, rfl⟩) ?_ ?_
   rotate_left
   ·simp only [Act.put, List.setIfInBounds_toArray, List.set_cons_zero, List.set_cons_succ, i64_w, i32_w]
    rfl
   refine pure_ (i := 6) (N := some 9) (v := undef) (a' := ?_) #[true, true, true, true, true, true, true, false, false, false, false, false, false] rfl rfl (any_of HT_.out (by kernel_rfl)) (fun _ _ _ h => h) (Or.inr ⟨by rfl, rfl⟩) ?_ ?_
   rotate_left
   ·simp only [Act.put, List.setIfInBounds_toArray, List.set_cons_zero, List.set_cons_succ, i64_w, i32_w]
    rfl
   refine pure_ (i := 7) (N := some 10) (v := undef) (a' := ?_) #[true, true, true, true, true, true, true, true, false, false, false, false, false] rfl rfl (any_of HT_.out (by kernel_rfl)) (fun _ _ _ h => h) (Or.inr ⟨by rfl, rfl⟩) ?_ ?_
   rotate_left
   ·simp only [Act.put, List.setIfInBounds_toArray, List.set_cons_zero, List.set_cons_succ, i64_w, i32_w]
    rfl
   refine pure_ (i := 8) (N := some 11) (v := undef) (a' := ?_) #[true, true, true, true, true, true, true, true, true, false, false, false, false] rfl rfl (any_of HT_.out (by kernel_rfl)) (fun _ _ _ h => h) (Or.inr ⟨by rfl, rfl⟩) ?_ ?_
   rotate_left
   ·simp only [Act.put, List.setIfInBounds_toArray, List.set_cons_zero, List.set_cons_succ, i64_w, i32_w]
    rfl
   refine pure_ (i := 9) (N := some 12) (v := undef) (a' := ?_) #[true, true, true, true, true, true, true, true, true, true, false, false, false] rfl rfl (any_of HT_.out (by kernel_rfl)) (fun _ _ _ h => h) (Or.inr ⟨by rfl, rfl⟩) ?_ ?_
   rotate_left
   ·simp only [Act.put, List.setIfInBounds_toArray, List.set_cons_zero, List.set_cons_succ, i64_w, i32_w]
    rfl
   refine pure_ (i := 10) (N := some 13) (v := undef) (a' := ?_) #[true, true, true, true, true, true, true, true, true, true, true, false, false] rfl rfl (any_of HT_.out (by kernel_rfl)) (fun _ _ _ h => h) (Or.inr ⟨by rfl, rfl⟩) ?_ ?_
   rotate_left
   ·simp only [Act.put, List.setIfInBounds_toArray, List.set_cons_zero, List.set_cons_succ, i64_w, i32_w]
    rfl
   refine pure_ (i := 11) (N := some 14) (v := undef) (a' := ?_) #[true, true, true, true, true, true, true, true, true, true, true, true, false] rfl rfl (any_of HT_.out (by kernel_rfl)) (fun _ _ _ h => h) (Or.inr ⟨by rfl, rfl⟩) ?_ ?_
   rotate_left
   ·simp only [Act.put, List.setIfInBounds_toArray, List.set_cons_zero, List.set_cons_succ, i64_w, i32_w]
    rfl
   refine pure_ (i := 12) (N := some 15) (v := ?_) (a' := ?_) #[true, true, true, true, true, true, true, true, true, true, true, true, true] rfl rfl (any_of HT_.out (by kernel_rfl)) (fun _ _ _ h => h) (Or.inl ⟨by rfl, ?_⟩) ?_ ?_
   rotate_left
   ·intro w'
    go_simp
    with_reducible rfl
   rotate_left
   ·simp only [Act.put, List.setIfInBounds_toArray, List.set_cons_zero, List.set_cons_succ, i64_w, i32_w]
    rfl
   refine done_ (done_of HT_.out (by kernel_rfl)) ?_
   try go_wp2
   go_meet
   case rel => exact ⟨_, (true), (by first | rfl | (simp;done) | (simp [*];done)), H', ⟨by first | omega | exact Nat.le_refl _⟩, ⟨by (with_reducible repeat (first | refine blk_drewN ?_ _ | refine blk_drew ?_ | refine blk_alloc ?_ _));exact BK106.out⟩, ⟨by repeat (first | (with_reducible first | exact HB.out | apply below_alloc | apply pw_below_drewN | apply below_drew1 | refine below_set ?_ GE106.out) | exact HB.out)⟩⟩
  subst c5
  have H1 : ((impl_kids.f a0_0).bind fun t108 => (impl_Ex_formed.j0 k ((l0_3.length : Int) != t108) a0_0 a0_1 a0_2 l0_3)) = some r := by rw [if_pos rfl] at H;exact H
  clear H
  have H := H1
  clear H1
  replace H := Option.bind_eq_some_iff.mp H
  obtain ⟨t108, A60, H⟩ := H
  replace H : (impl_Ex_formed.j0 k ((l0_3.length : Int) != t108) a0_0 a0_1 a0_2 l0_3) = some r := H
  have A6 := m0_ A60
  clear A60
  have H' := m0_ H
  clear H
  try go_wp2
  have n0_ := m0_ (blk_drew BK106.out)
  have n1_ := m0_ (below_drew1 HB.out)
  clear BK106
  clear HB
  have BK106 := n0_
  have HB := n1_
  clear n0_ n1_
  refine start_ (n := 13) (S := fun w' => w'.cell? ⟨gb106, 0, none⟩ = some (.int .i64 a0_0) ∧ w'.cell? ⟨gb106, 1, none⟩ = some (.int .i64 a0_1) ∧ w'.cell? ⟨gb106, 2, none⟩ = some (.int .i64 a0_2) ∧ w'.cell? ⟨gb106, 3, none⟩ = some (.slice A0_3 l0_3.length c0_3)) (ds := []) #[false, false, false, false, false, false, false, false, false, false, false, false, false] (by kernel_rfl) rfl rfl ⟨(blk_cell BK106.out 0).trans rfl, (blk_cell BK106.out 1).trans rfl, (blk_cell BK106.out 2).trans rfl, (blk_cell BK106.out 3).trans rfl⟩ (fun hHeld => ?_);refine with_tabW impl_Ex_formed.tab1 impl_Ex_formed.bits1 (fun HT_ HW_ => ?_)
  generalize w3.drew = w7 at BK106 HB hHeld ⊢
  refine pure_ (i := 0) (N := some 3) (v := ?_) (a' := ?_) #[true, false, false, false, false, false, false, false, false, false, false, false, false] rfl rfl (any_of HT_.out (by kernel_rfl)) (fun _ _ _ h => h) (Or.inl ⟨by rfl, ?_⟩) ?_ ?_
  rotate_left
  ·intro w'
   go_simp
   with_reducible rfl
  rotate_left
  ·simp only [Act.put, List.setIfInBounds_toArray, List.set_cons_zero, List.set_cons_succ, i64_w, i32_w]
   rfl
  refine take_ (i := 1) (N := some 4) (v := ?_) (a' := ?_) #[true, true, false, false, false, false, false, false, false, false, false, false, false] rfl rfl (take_ofW HT_.out HW_.out (by kernel_rfl)) (fun _ _ _ h => h) (Or.inl ⟨by rfl, ?_⟩) hHeld ?_ ?_
  rotate_left
  ·rintro w' ⟨s0, s1, s2, s3⟩
   go_simp
   with_reducible rfl
  rotate_left
  ·simp only [Act.put, List.setIfInBounds_toArray, List.set_cons_zero, List.set_cons_succ, i64_w, i32_w]
   rfl
  refine one_ (i := 2) (N := some 5) #[true, true, true, false, false, false, false, false, false, false, false, false, false] rfl rfl (one_of HT_.out (by kernel_rfl)) (by decide) (fun K hK => ?_)
  refine goes_ Try.func114 (by kernel_rfl) rfl #[.int .i64 a0_0] (by rfl) rfl rfl (by (try simp only [List.map_toArray, List.map_cons, List.map_nil]);first | done | rfl | (simp only [List.length_drop, List.length_take];rfl)) ?_
  with_reducible refine (impl_isKind.calls a0_0 true _ A4.out).mono ?_
  rintro e w' ⟨rfl, ⟨nd, rfl⟩⟩
  refine ⟨_, rfl, ?_⟩
  refine hK.out _ _ ⟨(blk_cell BK106.out 0).trans rfl, (blk_cell BK106.out 1).trans rfl, (blk_cell BK106.out 2).trans rfl, (blk_cell BK106.out 3).trans rfl⟩ (fun hHeld => ?_)
  clear hK K
  refine norm_ (a' := ?_) ?_ ?_
  rotate_left
  ·show Act.put _ (some 5) _ = _
   simp only [Act.put, List.setIfInBounds_toArray, List.set_cons_zero, List.set_cons_succ, i64_w, i32_w]
   rfl
  refine pure_ (i := 3) (N := some 6) (v := ?_) (a' := ?_) #[true, true, true, true, false, false, false, false, false, false, false, false, false] rfl rfl (any_of HT_.out (by kernel_rfl)) (fun _ _ _ h => h) (Or.inl ⟨by rfl, ?_⟩) ?_ ?_
  rotate_left
  ·intro w'
   go_simp
   with_reducible rfl
  rotate_left
  ·simp only [Act.put, List.setIfInBounds_toArray, List.set_cons_zero, List.set_cons_succ, i64_w, i32_w]
   rfl
  refine pure_ (i := 4) (N := some 7) (v := ?_) (a' := ?_) #[true, true, true, true, true, false, false, false, false, false, false, false, false] rfl rfl (any_of HT_.out (by kernel_rfl)) (fun _ _ _ h => h) (Or.inl ⟨by rfl, ?_⟩) ?_ ?_
  rotate_left
  ·intro w'
   go_simp
   with_reducible rfl
  rotate_left
  ·simp only [Act.put, List.setIfInBounds_toArray, List.set_cons_zero, List.set_cons_succ, i64_w, i32_w]
   rfl
  refine pure_ (i := 5) (N := some 8) (v := ?_) (a' := ?_) #[true, true, true, true, true, true, false, false, false, false, false, false, false] rfl rfl (any_of HT_.out (by kernel_rfl)) (fun _ _ _ h => h) (Or.inl ⟨by rfl, ?_⟩) ?_ ?_
  rotate_left
  ·intro w'
   go_simp
   with_reducible rfl
  rotate_left
  ·simp only [Act.put, List.setIfInBounds_toArray, List.set_cons_zero, List.set_cons_succ, i64_w, i32_w]
   rfl
  refine pure_ (i := 8) (N := some 11) (v := ?_) (a' := ?_) #[true, true, true, true, true, true, false, false, true, false, false, false, false] rfl rfl (any_of HT_.out (by kernel_rfl)) (fun _ _ _ h => h) (Or.inl ⟨by rfl, ?_⟩) ?_ ?_
  rotate_left
  ·intro w'
   go_simp
   with_reducible rfl
  rotate_left
  ·simp only [Act.put, List.setIfInBounds_toArray, List.set_cons_zero, List.set_cons_succ, i64_w, i32_w]
   rfl
  refine take_ (i := 6) (N := some 9) (v := ?_) (a' := ?_) #[true, true, true, true, true, true, true, false, true, false, false, false, false] rfl rfl (take_ofW HT_.out HW_.out (by kernel_rfl)) (fun _ _ _ h => h) (Or.inl ⟨by rfl, ?_⟩) hHeld ?_ ?_
  rotate_left
  ·rintro w' ⟨s0, s1, s2, s3⟩
   go_simp
   with_reducible rfl
  rotate_left
  ·simp only [Act.put, List.setIfInBounds_toArray, List.set_cons_zero, List.set_cons_succ, i64_w, i32_w]
   rfl
  refine pure_ (i := 7) (N := some 10) (v := ?_) (a' := ?_) #[true, true, true, true, true, true, true, true, true, false, false, false, false] rfl rfl (any_of HT_.out (by kernel_rfl)) (fun _ _ _ h => h) (Or.inl ⟨by rfl, ?_⟩) ?_ ?_
  rotate_left
  ·intro w'
   go_simp
   with_reducible rfl
  rotate_left
  ·simp only [Act.put, List.setIfInBounds_toArray, List.set_cons_zero, List.set_cons_succ, i64_w, i32_w]
   rfl
  refine take_ (i := 9) (N := some 12) (v := ?_) (a' := ?_) #[true, true, true, true, true, true, true, true, true, true, false, false, false] rfl rfl (take_ofW HT_.out HW_.out (by kernel_rfl)) (fun _ _ _ h => h) (Or.inl ⟨by rfl, ?_⟩) hHeld ?_ ?_
  rotate_left
  ·rintro w' ⟨s0, s1, s2, s3⟩
   go_simp
   with_reducible rfl
  rotate_left
  ·simp only [Act.put, List.setIfInBounds_toArray, List.set_cons_zero, List.set_cons_succ, i64_w, i32_w]
   rfl
  refine one_ (i := 10) (N := some 13) #[true, true, true, true, true, true, true, true, true, true, true, false, false] rfl rfl (one_of HT_.out (by kernel_rfl)) (by decide) (fun K hK => ?_)
  refine goes_ Try.func115 (by kernel_rfl) rfl #[.int .i64 a0_0] (by rfl) rfl rfl (by (try simp only [List.map_toArray, List.map_cons, List.map_nil]);first | done | rfl | (simp only [List.length_drop, List.length_take];rfl)) ?_
  with_reducible refine (impl_kids.calls a0_0 t108 _ A6.out).mono ?_
  rintro e w8 ⟨rfl, hb⟩
  refine ⟨_, rfl, ?_⟩
  have n0_ := m0_ (blk_below (g := gb106) (o := .cells #[.int .i64 a0_0, .int .i64 a0_1, .int .i64 a0_2, .slice A0_3 l0_3.length c0_3] 37 (0, 0)) (by (with_reducible repeat (first | refine blk_drewN ?_ _ | refine blk_drew ?_ | refine blk_alloc ?_ _));exact BK106.out) hb)
  have n1_ := m0_ (below_step (by repeat (first | (with_reducible first | exact HB.out | apply below_alloc | apply pw_below_drewN | apply below_drew1 | refine below_set ?_ GE106.out) | exact HB.out)) hb)
  clear BK106
  clear HB
  have BK106 := n0_
  have HB := n1_
  clear n0_ n1_
  (try clear hb)
  (try clear hb2)
  (try clear hk)
  (try clear hi)
  refine hK.out _ _ ⟨(blk_cell BK106.out 0).trans rfl, (blk_cell BK106.out 1).trans rfl, (blk_cell BK106.out 2).trans rfl, (blk_cell BK106.out 3).trans rfl⟩ (fun hHeld => ?_)
  clear hK K
  refine norm_ (a' := ?_) ?_ ?_
  rotate_left
  ·show Act.put _ (some 13) _ = _
   simp only [Act.put, List.setIfInBounds_toArray, List.set_cons_zero, List.set_cons_succ, i64_w, i32_w]
   rfl
  refine pure_ (i := 11) (N := some 14) (v := ?_) (a' := ?_) #[true, true, true, true, true, true, true, true, true, true, true, true, false] rfl rfl (any_of HT_.out (by kernel_rfl)) (fun _ _ _ h => h) (Or.inl ⟨by rfl, ?_⟩) ?_ ?_
  rotate_left
  ·intro w'
   go_simp
   with_reducible rfl
  rotate_left
  ·simp only [Act.put, List.setIfInBounds_toArray, List.set_cons_zero, List.set_cons_succ, i64_w, i32_w]
   rfl
  refine pure_ (i := 12) (N := some 15) (v := ?_) (a' := ?_) #[true, true, true, true, true, true, true, true, true, true, true, true, true] rfl rfl (any_of HT_.out (by kernel_rfl)) (fun _ _ _ h => h) (Or.inl ⟨by rfl, ?_⟩) ?_ ?_
  rotate_left
  ·intro w'
   go_simp
   with_reducible rfl
  rotate_left
  ·simp only [Act.put, List.setIfInBounds_toArray, List.set_cons_zero, List.set_cons_succ, i64_w, i32_w]
   rfl
  refine done_ (done_of HT_.out (by kernel_rfl)) ?_
  try go_wp2
  go_meet
  case rel => exact ⟨_, (((l0_3.length : Int) != t108)), (by first | rfl | (simp;done) | (simp [*];done)), H', ⟨by first | omega | exact Nat.le_refl _⟩, ⟨by (with_reducible repeat (first | refine blk_drewN ?_ _ | refine blk_drew ?_ | refine blk_alloc ?_ _));exact BK106.out⟩, ⟨by repeat (first | (with_reducible first | exact HB.out | apply below_alloc | apply pw_below_drewN | apply below_drew1 | refine below_set ?_ GE106.out) | exact HB.out)⟩⟩
 case rest =>
  clear HC2
  try clear c1
  try clear p2
  try clear c5
  try clear c9
  obtain ⟨kq, x15_1, rfl, HA, HJ1, BK106, HB⟩ := hcut
  cases kq with
  | zero => exact absurd HA.out (by simp [impl_Ex_formed.j0])
  | succ kj1 =>
   have H := HA.out
   clear HA
   simp only [impl_Ex_formed.j0] at H
   by_cases c10 : x15_1 = true
   ·subst c10
    have H1 : (some false) = some r := by rw [if_pos rfl] at H;exact H
    clear H
    have H := H1
    clear H1
    obtain rfl := Option.some.inj H
    go_wp2
    go_ret
    exact ⟨by first | rfl | (simp [errW_none, errW_some] <;> rfl) | (simp [*, errW_none, errW_some] <;> rfl), by repeat (first | (with_reducible first | exact HB.out | apply below_alloc | apply pw_below_drewN | apply below_drew1 | refine below_set ?_ GE106.out) | exact HB.out)⟩
   replace c10 := Bool.eq_false_iff.mpr c10
   subst c10
   have H1 : (if a0_0 = 1 then ((impl_isSym.f a0_1).bind fun t109 => (if t109 = true then (impl_Ex_formed.j1 kj1 false a0_0 a0_1 a0_2 l0_3) else (impl_Ex_formed.j1 kj1 true a0_0 a0_1 a0_2 l0_3))) else (impl_Ex_formed.j1 kj1 (a0_1 != 0) a0_0 a0_1 a0_2 l0_3)) = some r := by rw [if_neg (show ¬ (false = true) by decide)] at H;exact H
   clear H
   have H := H1
   clear H1
   have HC11 := m0_ H
   clear H
   go_upto_region 3 with (fail)
   go_cut [34] (fun v34 wc => ∃ (kq : Nat) (x34_10 : Bool), v34 = .bool x34_10 ∧ Aside0 (impl_Ex_formed.j1 kq x34_10 a0_0 a0_1 a0_2 l0_3 = some r) ∧ Aside0 (kq ≤ kj1) ∧ Aside0 (wc.heap[gb106]? = some (.cells #[.int .i64 a0_0, .int .i64 a0_1, .int .i64 a0_2, (.slice A0_3 l0_3.length c0_3)] 37 (0, 0))) ∧ Aside0 (Below w.heap.size w wc))
   case first =>
    have H := HC11.out
    clear HC11
    by_cases c12 : a0_0 = 1
    rotate_left
    ·rw [if_neg c12] at H
     have c12b0 : (a0_0 == 1) = false := beq_eq_false_iff_ne.mpr c12
     have c12b1 : (a0_0 != 1) = true := bne_iff_ne.mpr c12
     (first | rw [c12b0] | (simp only [i64_w, i32_w];rw [c12b0]) | skip)
     have H' := m0_ H
     clear H
     obtain ⟨hcz17_0, hcz17_1, hcz17_2, hcz17_3, hfz17_0, hfz17_1, hfz17_2, hfz17_3⟩ := bx4 BK106.out
     go_wp2
     go_meet
     case rel => exact ⟨_, ((a0_1 != 0)), (by first | rfl | (simp;done) | (simp [*];done)), H', ⟨by have := HJ1.out;first | omega | exact Nat.le_refl _⟩, ⟨by (with_reducible repeat (first | refine blk_drewN ?_ _ | refine blk_drew ?_ | refine blk_alloc ?_ _));exact BK106.out⟩, ⟨by repeat (first | (with_reducible first | exact HB.out | apply below_alloc | apply pw_below_drewN | apply below_drew1 | refine below_set ?_ GE106.out) | exact HB.out)⟩⟩
    rw [if_pos c12] at H
    have c12b0 : (a0_0 == 1) = true := beq_iff_eq.mpr c12
    have c12b1 : (a0_0 != 1) = false := bne_eq_false_iff_eq.mpr c12
    clear c12
    (first | rw [c12b0] | (simp only [i64_w, i32_w];rw [c12b0]) | skip)
    replace H := Option.bind_eq_some_iff.mp H
    obtain ⟨t109, A130, H⟩ := H
    replace H : (if t109 = true then (impl_Ex_formed.j1 kj1 false a0_0 a0_1 a0_2 l0_3) else (impl_Ex_formed.j1 kj1 true a0_0 a0_1 a0_2 l0_3)) = some r := H
    have A13 := m0_ A130
    clear A130
    by_cases c14 : t109 = true
    ·subst c14
     have H1 : (impl_Ex_formed.j1 kj1 false a0_0 a0_1 a0_2 l0_3) = some r := by rw [if_pos rfl] at H;exact H
     clear H
     have H := H1
     clear H1
     have H' := m0_ H
     clear H
     obtain ⟨hcz15_0, hcz15_1, hcz15_2, hcz15_3, hfz15_0, hfz15_1, hfz15_2, hfz15_3⟩ := bx4 BK106.out
     go_wp2_with (first | (go_at_call 118;(with_reducible refine (impl_isSym.calls a0_1 true _ A13.out).mono ?_);rintro e w' ⟨rfl, ⟨nd, rfl⟩⟩))
     go_meet
     case rel => exact ⟨_, (false), (by first | rfl | (simp;done) | (simp [*];done)), H', ⟨by have := HJ1.out;first | omega | exact Nat.le_refl _⟩, ⟨by (with_reducible repeat (first | refine blk_drewN ?_ _ | refine blk_drew ?_ | refine blk_alloc ?_ _));exact BK106.out⟩, ⟨by repeat (first | (with_reducible first | exact HB.out | apply below_alloc | apply pw_below_drewN | apply below_drew1 | refine below_set ?_ GE106.out) | exact HB.out)⟩⟩
    replace c14 := Bool.eq_false_iff.mpr c14
    subst c14
    have H1 : (impl_Ex_formed.j1 kj1 true a0_0 a0_1 a0_2 l0_3) = some r := by rw [if_neg (show ¬ (false = true) by decide)] at H;exact H
    clear H
    have H := H1
    clear H1
    have H' := m0_ H
    clear H
    obtain ⟨hcz16_0, hcz16_1, hcz16_2, hcz16_3, hfz16_0, hfz16_1, hfz16_2, hfz16_3⟩ := bx4 BK106.out
    go_wp2_with (first | (go_at_call 118;(with_reducible refine (impl_isSym.calls a0_1 false _ A13.out).mono ?_);rintro e w' ⟨rfl, ⟨nd, rfl⟩⟩))
    go_meet
    case rel => exact ⟨_, (true), (by first | rfl | (simp;done) | (simp [*];done)), H', ⟨by have := HJ1.out;first | omega | exact Nat.le_refl _⟩, ⟨by (with_reducible repeat (first | refine blk_drewN ?_ _ | refine blk_drew ?_ | refine blk_alloc ?_ _));exact BK106.out⟩, ⟨by repeat (first | (with_reducible first | exact HB.out | apply below_alloc | apply pw_below_drewN | apply below_drew1 | refine below_set ?_ GE106.out) | exact HB.out)⟩⟩
   case rest =>
    clear HC11
    try clear c1
    try clear p2
    try clear c5
    try clear c9
    try clear c10
    try clear c11
    try clear c12
    try clear c12b0
    try clear c12b1
    try clear c14
    try clear hcz15_0
    try clear hcz15_1
    try clear hcz15_2
    try clear hcz15_3
    try clear hcz16_0
    try clear hcz16_1
    try clear hcz16_2
    try clear hcz16_3
    try clear hcz17_0
    try clear hcz17_1
    try clear hcz17_2
    try clear hcz17_3
    try clear hfz15_0
    try clear hfz15_1
    try clear hfz15_2
    try clear hfz15_3
    try clear hfz16_0
    try clear hfz16_1
    try clear hfz16_2
    try clear hfz16_3
    try clear hfz17_0
    try clear hfz17_1
    try clear hfz17_2
    try clear hfz17_3
    try clear p2
    obtain ⟨kq, x34_10, rfl, HA, HJ10, BK106, HB⟩ := hcut
    cases kq with
    | zero => exact absurd HA.out (by simp [impl_Ex_formed.j1])
    | succ kj10 =>
     have H := HA.out
     clear HA
     simp only [impl_Ex_formed.j1] at H
     by_cases c18 : x34_10 = true
     ·subst c18
      have H1 : (some false) = some r := by rw [if_pos rfl] at H;exact H
      clear H
      have H := H1
      clear H1
      obtain rfl := Option.some.inj H
      go_wp2
      go_ret
      exact ⟨by first | rfl | (simp [errW_none, errW_some] <;> rfl) | (simp [*, errW_none, errW_some] <;> rfl), by repeat (first | (with_reducible first | exact HB.out | apply below_alloc | apply pw_below_drewN | apply below_drew1 | refine below_set ?_ GE106.out) | exact HB.out)⟩
     replace c18 := Bool.eq_false_iff.mpr c18
     subst c18
     have H1 : (if a0_0 = 7 then ((impl_in.f a0_2 1 20).bind fun t110 => (if t110 = true then ((impl_Ex_130.f kj10 l0_3).bind fun t111 => (some (!t111))) else (some false))) else (if a0_2 = 0 then ((impl_Ex_130.f kj10 l0_3).bind fun t112 => (some (!t112))) else (some false))) = some r := by rw [if_neg (show ¬ (false = true) by decide)] at H;exact H
     clear H
     have H := H1
     clear H1
     by_cases c19 : a0_0 = 7
     rotate_left
     ·rw [if_neg c19] at H
      have c19b0 : (a0_0 == 7) = false := beq_eq_false_iff_ne.mpr c19
      have c19b1 : (a0_0 != 7) = true := bne_iff_ne.mpr c19
      by_cases c26 : a0_2 = 0
      ·rw [if_pos c26] at H
       have c26b0 : (a0_2 == 0) = true := beq_iff_eq.mpr c26
       have c26b1 : (a0_2 != 0) = false := bne_eq_false_iff_eq.mpr c26
       clear c26
       replace H := Option.bind_eq_some_iff.mp H
       obtain ⟨t112, A270, H⟩ := H
       replace H : (some (!t112)) = some r := H
       have A27 := m0_ A270
       clear A270
       obtain rfl := Option.some.inj H
       obtain ⟨hcz28_0, hcz28_1, hcz28_2, hcz28_3, hfz28_0, hfz28_1, hfz28_2, hfz28_3⟩ := bx4 BK106.out
       go_wp2_with (first | ((with_reducible refine gate_callee (f := 130) rfl ?_);refine goesL_ (some 56) rfl rfl Try.func130 (by kernel_rfl) rfl #[.slice A0_3 l0_3.length c0_3, .func (.func 131) #[] #[]] rfl (by (try simp only [List.map_toArray, List.map_cons, List.map_nil]);first | done | rfl | (simp only [List.length_drop, List.length_take];rfl)) ?_;(with_reducible refine (ih_130 kj10 (by have := HJ1.out;have := HJ10.out;omega) _ _ l0_3  t112 _ ?side1 ?side2 A27.out).mono ?_);(case side1 => repeat (first | exact (Kd.C_below HR0_3.out HB.out) | (with_reducible refine Kd.C_alloc ?_ _) | (with_reducible refine Kd.C_drewN ?_ _) | (with_reducible refine Kd.C_drew ?_)));(case side2 => exact HC0_3.out);rintro e w29 ⟨rfl, hb⟩;refine ⟨_, rfl, ?_⟩;have n0_ := m0_ (blk_below (g := gb106) (o := .cells #[.int .i64 a0_0, .int .i64 a0_1, .int .i64 a0_2, .slice A0_3 l0_3.length c0_3] 37 (0, 0)) (by (with_reducible repeat (first | refine blk_drewN ?_ _ | refine blk_drew ?_ | refine blk_alloc ?_ _));exact BK106.out) hb);have n1_ := m0_ (below_step (by repeat (first | (with_reducible first | exact HB.out | apply below_alloc | apply pw_below_drewN | apply below_drew1 | refine below_set ?_ GE106.out) | exact HB.out)) hb);clear BK106;clear HB;have BK106 := n0_;have HB := n1_;clear n0_ n1_;(try clear hb);(try clear hb2);(try clear hk);(try clear hi)))
       go_ret
       exact ⟨by first | rfl | (simp [errW_none, errW_some] <;> rfl) | (simp [*, errW_none, errW_some] <;> rfl), by repeat (first | (with_reducible first | exact HB.out | apply below_alloc | apply pw_below_drewN | apply below_drew1 | refine below_set ?_ GE106.out) | exact HB.out)⟩
      ·rw [if_neg c26] at H
       have c26b0 : (a0_2 == 0) = false := beq_eq_false_iff_ne.mpr c26
       have c26b1 : (a0_2 != 0) = true := bne_iff_ne.mpr c26
       obtain rfl := Option.some.inj H
       obtain ⟨hcz30_0, hcz30_1, hcz30_2, hcz30_3, hfz30_0, hfz30_1, hfz30_2, hfz30_3⟩ := bx4 BK106.out
       go_wp2
       go_ret
       exact ⟨by first | rfl | (simp [errW_none, errW_some] <;> rfl) | (simp [*, errW_none, errW_some] <;> rfl), by repeat (first | (with_reducible first | exact HB.out | apply below_alloc | apply pw_below_drewN | apply below_drew1 | refine below_set ?_ GE106.out) | exact HB.out)⟩
     rw [if_pos c19] at H
     have c19b0 : (a0_0 == 7) = true := beq_iff_eq.mpr c19
     have c19b1 : (a0_0 != 7) = false := bne_eq_false_iff_eq.mpr c19
     clear c19
     replace H := Option.bind_eq_some_iff.mp H
     obtain ⟨t110, A200, H⟩ := H
     replace H : (if t110 = true then ((impl_Ex_130.f kj10 l0_3).bind fun t111 => (some (!t111))) else (some false)) = some r := H
     have A20 := m0_ A200
     clear A200
     by_cases c21 : t110 = true
     rotate_left
     ·replace c21 := Bool.eq_false_iff.mpr c21
      subst c21
      have H1 : (some false) = some r := by rw [if_neg (show ¬ (false = true) by decide)] at H;exact H
      clear H
      have H := H1
      clear H1
      obtain rfl := Option.some.inj H
      obtain ⟨hcz25_0, hcz25_1, hcz25_2, hcz25_3, hfz25_0, hfz25_1, hfz25_2, hfz25_3⟩ := bx4 BK106.out
      go_wp2_with (first | (go_at_call 58;(with_reducible refine (impl_in.calls a0_2 1 20 false _ A20.out).mono ?_);rintro e w' ⟨rfl, ⟨nd, rfl⟩⟩))
      go_ret
      exact ⟨by first | rfl | (simp [errW_none, errW_some] <;> rfl) | (simp [*, errW_none, errW_some] <;> rfl), by repeat (first | (with_reducible first | exact HB.out | apply below_alloc | apply pw_below_drewN | apply below_drew1 | refine below_set ?_ GE106.out) | exact HB.out)⟩
     subst c21
     have H1 : ((impl_Ex_130.f kj10 l0_3).bind fun t111 => (some (!t111))) = some r := by rw [if_pos rfl] at H;exact H
     clear H
     have H := H1
     clear H1
     replace H := Option.bind_eq_some_iff.mp H
     obtain ⟨t111, A220, H⟩ := H
     replace H : (some (!t111)) = some r := H
     have A22 := m0_ A220
     clear A220
     obtain rfl := Option.some.inj H
     obtain ⟨hcz23_0, hcz23_1, hcz23_2, hcz23_3, hfz23_0, hfz23_1, hfz23_2, hfz23_3⟩ := bx4 BK106.out
     go_wp2_with (first | (go_at_call 58;(with_reducible refine (impl_in.calls a0_2 1 20 true _ A20.out).mono ?_);rintro e w' ⟨rfl, ⟨nd, rfl⟩⟩) | ((with_reducible refine gate_callee (f := 130) rfl ?_);refine goesL_ (some 56) rfl rfl Try.func130 (by kernel_rfl) rfl #[.slice A0_3 l0_3.length c0_3, .func (.func 131) #[] #[]] rfl (by (try simp only [List.map_toArray, List.map_cons, List.map_nil]);first | done | rfl | (simp only [List.length_drop, List.length_take];rfl)) ?_;(with_reducible refine (ih_130 kj10 (by have := HJ1.out;have := HJ10.out;omega) _ _ l0_3  t111 _ ?side1 ?side2 A22.out).mono ?_);(case side1 => repeat (first | exact (Kd.C_below HR0_3.out (by repeat (first | (with_reducible first | exact HB.out | apply below_alloc | apply pw_below_drewN | apply below_drew1 | refine below_set ?_ GE106.out) | exact HB.out))) | (with_reducible refine Kd.C_alloc ?_ _) | (with_reducible refine Kd.C_drewN ?_ _) | (with_reducible refine Kd.C_drew ?_)));(case side2 => exact HC0_3.out);rintro e w24 ⟨rfl, hb⟩;refine ⟨_, rfl, ?_⟩;have n0_ := m0_ (blk_below (g := gb106) (o := .cells #[.int .i64 a0_0, .int .i64 a0_1, .int .i64 a0_2, .slice A0_3 l0_3.length c0_3] 37 (0, 0)) (by (with_reducible repeat (first | refine blk_drewN ?_ _ | refine blk_drew ?_ | refine blk_alloc ?_ _));exact BK106.out) hb);have n1_ := m0_ (below_step (by repeat (first | (with_reducible first | exact HB.out | apply below_alloc | apply pw_below_drewN | apply below_drew1 | refine below_set ?_ GE106.out) | exact HB.out)) hb);clear BK106;clear HB;have BK106 := n0_;have HB := n1_;clear n0_ n1_;(try clear hb);(try clear hb2);(try clear hk);(try clear hi)))
     go_ret
     exact ⟨by first | rfl | (simp [errW_none, errW_some] <;> rfl) | (simp [*, errW_none, errW_some] <;> rfl), by repeat (first | (with_reducible first | exact HB.out | apply below_alloc | apply pw_below_drewN | apply below_drew1 | refine below_set ?_ GE106.out) | exact HB.out)⟩

theorem impl_Ex_formed_1.calls_all (k : Nat) : (∀ (a0_0 : Int) (a0_1 : Int) (a0_2 : Int) (A0_3 : Option Addr) (c0_3 : Nat) (l0_3 : List (S37)) (r : Bool) (w : World) (hr0_3 : Kd.C k37 w A0_3 l0_3.length l0_3) (hc0_3 : l0_3.length ≤ c0_3) (h : impl_Ex_formed_1.f k a0_0 a0_1 a0_2 l0_3 = some r),
  Calls Try.prog 131 #[.agg #[.int .i64 a0_0, .int .i64 a0_1, .int .i64 a0_2, .slice A0_3 l0_3.length c0_3]] w fun e w' => e = .returned (.bool r) ∧ Below w.heap.size w w') ∧ (∀ (A0 : Option Addr) (c0 : Nat) (l0 : List (S37))  (r : Int) (w : World) (hr0 : Kd.C k37 w A0 l0.length l0) (hc0 : l0.length ≤ c0) (h : impl_Ex_159.f k l0 = some r),
  Calls Try.prog 159 #[.slice A0 l0.length c0, .func (.func 131) #[] #[]] w fun e w' => e = .returned (.int .i64 r) ∧ Below w.heap.size w w') ∧ (∀ (A0 : Option Addr) (c0 : Nat) (l0 : List (S37))  (r : Bool) (w : World) (hr0 : Kd.C k37 w A0 l0.length l0) (hc0 : l0.length ≤ c0) (h : impl_Ex_130.f k l0 = some r),
  Calls Try.prog 130 #[.slice A0 l0.length c0, .func (.func 131) #[] #[]] w fun e w' => e = .returned (.bool r) ∧ Below w.heap.size w w') ∧ (∀ (a0_0 : Int) (a0_1 : Int) (a0_2 : Int) (A0_3 : Option Addr) (c0_3 : Nat) (l0_3 : List (S37)) (r : Bool) (w : World) (hr0_3 : Kd.C k37 w A0_3 l0_3.length l0_3) (hc0_3 : l0_3.length ≤ c0_3) (h : impl_Ex_formed.f k a0_0 a0_1 a0_2 l0_3 = some r),
  Calls Try.prog 92 #[.agg #[.int .i64 a0_0, .int .i64 a0_1, .int .i64 a0_2, .slice A0_3 l0_3.length c0_3]] w fun e w' => e = .returned (.bool r) ∧ Below w.heap.size w w') := by
 induction k using Nat.strongRecOn with
 | _ k ih =>
 exact ⟨impl_Ex_formed_1.calls_step k (fun k_ h_ => (ih k_ h_).1) (fun k_ h_ => (ih k_ h_).2.1) (fun k_ h_ => (ih k_ h_).2.2.1) (fun k_ h_ => (ih k_ h_).2.2.2), impl_Ex_159.calls_step k (fun k_ h_ => (ih k_ h_).1) (fun k_ h_ => (ih k_ h_).2.1) (fun k_ h_ => (ih k_ h_).2.2.1) (fun k_ h_ => (ih k_ h_).2.2.2), impl_Ex_130.calls_step k (fun k_ h_ => (ih k_ h_).1) (fun k_ h_ => (ih k_ h_).2.1) (fun k_ h_ => (ih k_ h_).2.2.1) (fun k_ h_ => (ih k_ h_).2.2.2), impl_Ex_formed.calls_step k (fun k_ h_ => (ih k_ h_).1) (fun k_ h_ => (ih k_ h_).2.1) (fun k_ h_ => (ih k_ h_).2.2.1) (fun k_ h_ => (ih k_ h_).2.2.2)⟩
theorem impl_Ex_formed.calls (k : Nat) : ∀ (a0_0 : Int) (a0_1 : Int) (a0_2 : Int) (A0_3 : Option Addr) (c0_3 : Nat) (l0_3 : List (S37)) (r : Bool) (w : World) (hr0_3 : Kd.C k37 w A0_3 l0_3.length l0_3) (hc0_3 : l0_3.length ≤ c0_3) (h : impl_Ex_formed.f k a0_0 a0_1 a0_2 l0_3 = some r),
  Calls Try.prog 92 #[.agg #[.int .i64 a0_0, .int .i64 a0_1, .int .i64 a0_2, .slice A0_3 l0_3.length c0_3]] w fun e w' => e = .returned (.bool r) ∧ Below w.heap.size w w' := (impl_Ex_formed_1.calls_all k).2.2.2

end Go.Proofs.Ytdljhokealbnnaa.M
namespace Go.Proofs.Ytdljhokealbnnaa.M
set_option linter.unusedVariables false
set_option linter.unusedSimpArgs false
open Go.RowKit Go.Proofs.YtdljhokealbnnaaW.PrintWords Go.Proofs.YtdljhokealbnnaaW.PrintLast

mutual
def manyY : S37 → Nat
  | ⟨_, _, _, l⟩ => 1 + manysY l
def manysY : List S37 → Nat
  | [] => 0
  | x :: xs => manyY x + manysY xs
end
mutual
def deepY : S37 → Nat
  | ⟨_, _, _, l⟩ => 1 + deepsY l
def deepsY : List S37 → Nat
  | [] => 0
  | x :: xs => max (deepY x) (deepsY xs)
end
def kidsOf (a : Int) : Int := if a = 1 then 0 else if a = 7 then 1 else if a = 2 ∨ a = 3 ∨ a = 4 then 2 else if a = 5 ∨ a = 6 then 3 else -1
def okN (a b c : Int) (n : Nat) : Bool := decide (kidsOf a = n) && (if a = 1 then decide (0 ≤ b ∧ b ≤ 4) else decide (b = 0)) && (if a = 7 then decide (1 ≤ c ∧ c ≤ 20) else decide (c = 0))
mutual
def fmY : S37 → Bool
  | ⟨a, b, c, l⟩ => okN a b c l.length && fmsY l
def fmsY : List S37 → Bool
  | [] => true
  | x :: xs => fmY x && fmsY xs
end
theorem manyY_is (x : S37) : manyY x = 1 + manysY x.f3 := by cases x; simp [manyY]
theorem manysY_nil : manysY [] = 0 := by simp [manysY]
theorem manysY_cons (x : S37) (l : List S37) : manysY (x :: l) = manyY x + manysY l := by simp [manysY]
theorem deepY_is (x : S37) : deepY x = 1 + deepsY x.f3 := by cases x; simp [deepY]
theorem deepsY_nil : deepsY [] = 0 := by simp [deepsY]
theorem deepsY_cons (x : S37) (l : List S37) : deepsY (x :: l) = max (deepY x) (deepsY l) := by simp [deepsY]
theorem fmY_is (x : S37) : fmY x = (okN x.f0 x.f1 x.f2 x.f3.length && fmsY x.f3) := by cases x; simp [fmY]
theorem fmsY_nil : fmsY [] = true := by simp [fmsY]
theorem fmsY_cons (x : S37) (l : List S37) : fmsY (x :: l) = (fmY x && fmsY l) := by simp [fmsY]
theorem manysY_all (l : List S37) (h : ∀ x ∈ l, manyY x = 1 + allY x) : manysY l = l.length + kidsY l := by
  induction l with
  | nil => simp [manysY_nil, kidsY_nil]
  | cons x l ih => rw [manysY_cons, kidsY_cons, h x (by simp), ih (fun y hy => h y (by simp [hy]))]; simp; omega
theorem manyY_all : ∀ x : S37, manyY x = 1 + allY x := by
  refine indI (fun x ih => ?_)
  rw [manyY_is, allY_is, manysY_all _ ih]
theorem deepsY_le (l : List S37) (h : ∀ x ∈ l, deepY x ≤ manyY x) : deepsY l ≤ manysY l := by
  induction l with
  | nil => simp [deepsY_nil, manysY_nil]
  | cons x l ih =>
    have h1 := h x (by simp)
    have h2 := ih (fun y hy => h y (by simp [hy]))
    rw [manysY_cons, deepsY_cons]
    omega
theorem deepY_le : ∀ x : S37, deepY x ≤ manyY x := by
  refine indI (fun x ih => ?_)
  have := deepsY_le _ ih
  rw [manyY_is, deepY_is]
  omega
def SizeOk (x : S37) : Prop := Ev (fun k => impl_Ex_size.f k x.f0 x.f1 x.f2 x.f3) ((manyY x : Int), (deepY x : Int))
theorem size_l0_ev (l : List S37) (hl : l.length ≤ 1048576) (hm : manysY l ≤ 1048577) (hs : ∀ x ∈ l, SizeOk x) : ∀ (d n m p : Nat), n + d = l.length → 1 ≤ m → 1 ≤ p → p ≤ 1048579 → m + manysY (l.drop n) ≤ 1048579 → Ev (fun k => impl_Ex_size.l0 k (m : Int) (p : Int) l (l.length : Int) (n : Int)) (((m + manysY (l.drop n) : Nat) : Int), ((max p (1 + deepsY (l.drop n)) : Nat) : Int)) := by
  intro d
  induction d with
  | zero =>
    intro n m p hn h0 h1 h2 h3
    rw [List.drop_of_length_le (by omega), manysY_nil, deepsY_nil]
    refine Ev.last (fun k => by simp only [impl_Ex_size.l0]; rw [if_neg (by omega)]; rw [Nat.max_eq_left (by omega)]; rfl)
  | succ d ih =>
    intro n m p hn h0 h1 h2 h3
    have hx : SizeOk l[n] := hs _ (List.getElem_mem _)
    have hd := List.drop_eq_getElem_cons (l := l) (i := n) (by omega)
    rw [hd, manysY_cons] at h3
    rw [hd, manysY_cons, deepsY_cons]
    have hp := deepY_le l[n]
    have e1 : wrap64 ((m : Int) + (manyY l[n] : Int)) = ((m + manyY l[n] : Nat) : Int) := by rw [w_small (by omega) (by omega)]; omega
    have e2 : mx (p : Int) (wrap64 ((deepY l[n] : Int) + 1)) = ((max p (1 + deepY l[n]) : Nat) : Int) := by rw [w_small (by omega) (by omega)]; unfold mx; omega
    refine Ev.step (fun k => by simp only [impl_Ex_size.l0]; rw [if_pos (by omega), if_pos (by omega), if_pos (by omega), rdI l n (by omega), w_succ (by omega)]) ?_
    refine Ev.bind hx ?_
    simp only [e1, e2]
    refine Ev.val (ih (n + 1) (m + manyY l[n]) (max p (1 + deepY l[n])) (by omega) (by omega) (by omega) (by omega) (by omega)) ?_
    refine Prod.ext ?_ ?_
    · show ((_ : Nat) : Int) = ((_ : Nat) : Int)
      congr 1
      omega
    · show ((_ : Nat) : Int) = ((_ : Nat) : Int)
      congr 1
      omega
theorem size_ev : ∀ x : S37, allY x ≤ 1048576 → SizeOk x := by
  refine indI (fun x ih g => ?_)
  have hk : ∀ y ∈ x.f3, SizeOk y := fun y hy => ih y hy (by have := allY_mem hy; omega)
  have hl : x.f3.length ≤ 1048576 := by have := allY_len (x := x); omega
  have hm : manysY x.f3 ≤ 1048577 := by have h1 := manyY_all x; have h2 := manyY_is x; omega
  unfold SizeOk
  refine Ev.step (fun k => by simp only [impl_Ex_size.f]; rfl) ?_
  refine Ev.val (size_l0_ev x.f3 hl hm hk x.f3.length 0 1 1 (by omega) (by omega) (by omega) (by omega) (by rw [List.drop_zero]; omega)) ?_
  rw [List.drop_zero, manyY_is, deepY_is]
  refine Prod.ext rfl ?_
  show ((_ : Nat) : Int) = ((_ : Nat) : Int)
  congr 1
  omega

def ManyOk (x : S37) : Prop := ∀ d : Nat, d ≤ 100 → deepY x ≤ d + 1 → Ev (fun k => spec_l2Many.f k x.f0 x.f1 x.f2 x.f3 (d : Int)) (manyY x : Int)
theorem many_l0_ev (l : List S37) (hl : l.length ≤ 1048576) (hs : ∀ x ∈ l, ManyOk x) (a b c : Int) (e : Nat) (he : e ≤ 100) : ∀ (d n m : Nat), n + d = l.length → deepsY (l.drop n) ≤ e → m + manysY (l.drop n) ≤ 1048579 → Ev (fun k => spec_l2Many.l0 k (e : Int) (m : Int) (n : Int) a b c l) ((m + manysY (l.drop n) : Nat) : Int) := by
  intro d
  induction d with
  | zero =>
    intro n m hn h1 h3
    rw [List.drop_of_length_le (by omega), manysY_nil]
    refine Ev.last (fun k => by simp only [spec_l2Many.l0]; rw [if_neg (by omega)]; rfl)
  | succ d ih =>
    intro n m hn h1 h3
    have hx : ManyOk l[n] := hs _ (List.getElem_mem _)
    have hd := List.drop_eq_getElem_cons (l := l) (i := n) (by omega)
    rw [hd, manysY_cons] at h3
    rw [hd, deepsY_cons] at h1
    rw [hd, manysY_cons]
    have hp : 1 ≤ deepY l[n] := by rw [deepY_is]; omega
    have e0 : wrap64 ((e : Int) - 1) = ((e - 1 : Nat) : Int) := by rw [w_small (by omega) (by omega)]; omega
    have e1 : wrap64 ((m : Int) + (manyY l[n] : Int)) = ((m + manyY l[n] : Nat) : Int) := by rw [w_small (by omega) (by omega)]; omega
    refine Ev.step (fun k => by simp only [spec_l2Many.l0]; rw [if_pos (by omega), if_pos (by omega), if_pos (by omega), rdI l n (by omega), w_succ (by omega), e0]) ?_
    refine Ev.bind (hx (e - 1) (by omega) (by omega)) ?_
    simp only [e1]
    have h5 : deepsY (l.drop (n + 1)) ≤ e := by omega
    have h6 : m + manyY l[n] + manysY (l.drop (n + 1)) ≤ 1048579 := by rw [Nat.add_assoc]; exact h3
    have h4 := ih (n + 1) (m + manyY l[n]) (by omega) h5 h6
    rw [Nat.add_assoc] at h4
    exact h4
theorem many_ev : ∀ x : S37, allY x ≤ 1048576 → ManyOk x := by
  refine indI (fun x ih g e he hd => ?_)
  have hk : ∀ y ∈ x.f3, ManyOk y := fun y hy => ih y hy (by have := allY_mem hy; omega)
  have hl : x.f3.length ≤ 1048576 := by have := allY_len (x := x); omega
  have hm : manysY x.f3 ≤ 1048577 := by have h1 := manyY_all x; have h2 := manyY_is x; omega
  rw [deepY_is] at hd
  refine Ev.step (fun k => by simp only [spec_l2Many.f]; rfl) ?_
  refine Ev.val (many_l0_ev x.f3 hl hk x.f0 x.f1 x.f2 e he x.f3.length 0 1 (by omega) (by rw [List.drop_zero]; omega) (by rw [List.drop_zero]; omega)) ?_
  rw [List.drop_zero, manyY_is]

theorem l2Kids_ev (a : Int) : Ev (fun k => spec_l2Kids.f k a) (kidsOf a) := by
  unfold spec_l2Kids.f kidsOf
  by_cases h1 : a = 1
  · exact Ev.pos h1 (Ev.val (Ev.now _) (by rw [if_pos h1]))
  refine Ev.neg h1 ?_
  rw [if_neg h1]
  by_cases h7 : a = 7
  · exact Ev.pos h7 (Ev.val (Ev.now _) (by rw [if_pos h7]))
  refine Ev.neg h7 ?_
  rw [if_neg h7]
  have yes : a = 2 ∨ a = 3 ∨ a = 4 → Ev (fun k => spec_l2Kids.j0 k a true) (if a = 2 ∨ a = 3 ∨ a = 4 then 2 else if a = 5 ∨ a = 6 then 3 else -1) := fun h => Ev.last (fun k => by simp only [spec_l2Kids.j0]; rw [if_pos trivial, if_pos h])
  by_cases h2 : a = 2
  · refine Ev.pos h2 ?_
    rw [show (a == 2) = true by simp [h2]]
    exact yes (by omega)
  refine Ev.neg h2 ?_
  by_cases h3 : a = 3
  · refine Ev.pos h3 ?_
    rw [show (a == 3) = true by simp [h3]]
    exact yes (by omega)
  refine Ev.neg h3 ?_
  by_cases h4 : a = 4
  · rw [show (a == 4) = true by simp [h4]]
    exact yes (by omega)
  rw [show (a == 4) = false by simp [h4]]
  rw [if_neg (by omega)]
  by_cases h5 : a = 5
  · exact Ev.last (fun k => by simp only [spec_l2Kids.j0]; rw [if_neg (by decide), if_pos h5, if_pos (by omega)])
  by_cases h6 : a = 6
  · exact Ev.last (fun k => by simp only [spec_l2Kids.j0]; rw [if_neg (by decide), if_neg h5, if_pos h6, if_pos (by omega)])
  · exact Ev.last (fun k => by simp only [spec_l2Kids.j0]; rw [if_neg (by decide), if_neg h5, if_neg h6, if_neg (by omega)])

def FormOk (x : S37) : Prop := ∀ d : Nat, d ≤ 100 → Ev (fun k => spec_l2Form.f k x.f0 x.f1 x.f2 x.f3 (d : Int)) (fmY x && decide (deepY x ≤ d))
theorem form_l0_ev (l : List S37) (hl : l.length ≤ 1048576) (hs : ∀ x ∈ l, FormOk x) (a b c : Int) (e : Nat) (he : e < 100) : ∀ (d n : Nat), n + d = l.length → Ev (fun k => spec_l2Form.l0 k ((e + 1 : Nat) : Int) (n : Int) a b c l) (fmsY (l.drop n) && decide (deepsY (l.drop n) ≤ e)) := by
  intro d
  induction d with
  | zero =>
    intro n hn
    rw [List.drop_of_length_le (by omega), fmsY_nil, deepsY_nil]
    exact Ev.last (fun k => by simp only [spec_l2Form.l0]; rw [if_neg (by omega)]; simp)
  | succ d ih =>
    intro n hn
    have hx : FormOk l[n] := hs _ (List.getElem_mem _)
    have hd := List.drop_eq_getElem_cons (l := l) (i := n) (by omega)
    rw [hd, fmsY_cons, deepsY_cons]
    have e0 : wrap64 (((e + 1 : Nat) : Int) - 1) = (e : Int) := by rw [w_small (by omega) (by omega)]; omega
    refine Ev.step (fun k => by simp only [spec_l2Form.l0]; rw [if_pos (by omega), if_pos (by omega), rdI l n (by omega), w_succ (by omega), e0]) ?_
    refine Ev.bind (hx e (by omega)) ?_
    by_cases h : (fmY l[n] && decide (deepY l[n] ≤ e)) = true
    · refine Ev.pos h (Ev.val (ih (n + 1) (by omega)) ?_)
      simp only [Bool.and_eq_true, decide_eq_true_eq] at h
      rw [h.1, Bool.true_and]
      have : (deepsY (l.drop (n + 1)) ≤ e) ↔ (max (deepY l[n]) (deepsY (l.drop (n + 1))) ≤ e) := by omega
      simp only [this]
    refine Ev.neg h (Ev.val (Ev.now false) ?_)
    by_cases hf : fmY l[n] = true
    · have : ¬ (max (deepY l[n]) (deepsY (l.drop (n + 1))) ≤ e) := by
        simp [hf] at h
        omega
      simp [this]
    · simp [hf]
theorem form_ev : ∀ x : S37, allY x ≤ 1048576 → FormOk x := by
  refine indI (fun x ih g d hd => ?_)
  have hk : ∀ y ∈ x.f3, FormOk y := fun y hy => ih y hy (by have := allY_mem hy; omega)
  have hl : x.f3.length ≤ 1048576 := by have := allY_len (x := x); omega
  rw [fmY_is, deepY_is]
  have bad : ∀ v : Bool, v = false → Ev (fun k => spec_l2Form.j0 k (d : Int) true x.f0 x.f1 x.f2 x.f3) v := fun v hv => Ev.last (fun k => by simp only [spec_l2Form.j0]; rw [if_pos trivial, hv])
  have bad1 : ∀ v : Bool, v = false → Ev (fun k => spec_l2Form.j1 k (d : Int) true x.f0 x.f1 x.f2 x.f3) v := fun v hv => Ev.last (fun k => by simp only [spec_l2Form.j1]; rw [if_pos trivial, hv])
  by_cases hd1 : (d : Int) < 1
  · refine Ev.step (fun k => by simp only [spec_l2Form.f]; rw [if_pos hd1]) (bad _ ?_)
    have : ¬ (1 + deepsY x.f3 ≤ d) := by omega
    simp [this]
  obtain ⟨e, rfl⟩ : ∃ e, d = e + 1 := ⟨d - 1, by omega⟩
  refine Ev.step (fun k => by simp only [spec_l2Form.f]; rw [if_neg hd1]) ?_
  refine Ev.bind (l2Kids_ev x.f0) ?_
  by_cases hn : kidsOf x.f0 = (x.f3.length : Int)
  rotate_left
  · refine Ev.neg hn (bad _ ?_)
    simp [okN, hn]
  refine Ev.pos hn ?_
  have rest : Ev (fun k => spec_l2Form.j0 k ((e + 1 : Nat) : Int) false x.f0 x.f1 x.f2 x.f3) ((if x.f0 = 7 then decide (1 ≤ x.f2 ∧ x.f2 ≤ 20) else decide (x.f2 = 0)) && (fmsY x.f3 && decide (deepsY x.f3 ≤ e))) := by
    have loop : Ev (fun k => spec_l2Form.j1 k ((e + 1 : Nat) : Int) false x.f0 x.f1 x.f2 x.f3) (fmsY x.f3 && decide (deepsY x.f3 ≤ e)) := by
      refine Ev.step (fun k => by simp only [spec_l2Form.j1]; rw [if_neg (by decide)]) ?_
      exact form_l0_ev x.f3 hl hk x.f0 x.f1 x.f2 e (by omega) x.f3.length 0 (by omega)
    by_cases h7 : x.f0 = 7
    · rw [if_pos h7]
      by_cases c1 : x.f2 < 1
      · refine Ev.step (fun k => by simp only [spec_l2Form.j0]; rw [if_neg (by decide), if_pos h7, if_pos c1]) (bad1 _ ?_)
        have : ¬ (1 ≤ x.f2 ∧ x.f2 ≤ 20) := by omega
        simp [this]
      by_cases c2 : x.f2 > 20
      · refine Ev.step (fun k => by simp only [spec_l2Form.j0]; rw [if_neg (by decide), if_pos h7, if_neg c1, if_pos c2]) (bad1 _ ?_)
        have : ¬ (1 ≤ x.f2 ∧ x.f2 ≤ 20) := by omega
        simp [this]
      · refine Ev.step (fun k => by simp only [spec_l2Form.j0]; rw [if_neg (by decide), if_pos h7, if_neg c1, if_neg c2]) (Ev.val loop ?_)
        have : (1 ≤ x.f2 ∧ x.f2 ≤ 20) := by omega
        simp [this]
    · rw [if_neg h7]
      by_cases c0 : x.f2 = 0
      · refine Ev.step (fun k => by simp only [spec_l2Form.j0]; rw [if_neg (by decide), if_neg h7, show (x.f2 != 0) = false by simp [c0]]) (Ev.val loop ?_)
        simp [c0]
      · refine Ev.step (fun k => by simp only [spec_l2Form.j0]; rw [if_neg (by decide), if_neg h7, show (x.f2 != 0) = true by simp [c0]]) (bad1 _ ?_)
        simp [c0]
  have hdd : (1 + deepsY x.f3 ≤ e + 1) ↔ (deepsY x.f3 ≤ e) := by omega
  simp only [hdd, okN, hn, decide_true, Bool.true_and]
  by_cases b0 : x.f1 < 0
  · refine Ev.pos b0 (bad _ ?_)
    have h1 : ¬ (0 ≤ x.f1 ∧ x.f1 ≤ 4) := by omega
    have h2 : ¬ (x.f1 = 0) := by omega
    simp [h1, h2]
  refine Ev.neg b0 ?_
  by_cases b5 : x.f1 ≥ 5
  · refine Ev.pos b5 (bad _ ?_)
    have h1 : ¬ (0 ≤ x.f1 ∧ x.f1 ≤ 4) := by omega
    have h2 : ¬ (x.f1 = 0) := by omega
    simp [h1, h2]
  refine Ev.neg b5 ?_
  by_cases a1 : x.f0 = 1
  · refine Ev.pos a1 (Ev.val rest ?_)
    rw [if_pos a1]
    have h1 : (0 ≤ x.f1 ∧ x.f1 ≤ 4) := by omega
    simp [h1, Bool.and_assoc]
  refine Ev.neg a1 ?_
  rw [if_neg a1]
  by_cases hb : x.f1 = 0
  · rw [show (x.f1 != 0) = false by simp [hb]]
    refine Ev.val rest ?_
    simp [hb, Bool.and_assoc]
  · rw [show (x.f1 != 0) = true by simp [hb]]
    exact bad _ (by simp [hb])

theorem in_is (a b c : Int) : impl_in.f a b c = some (decide (b ≤ a ∧ a ≤ c)) := by
  unfold impl_in.f
  by_cases h : b ≤ a
  · rw [if_pos h]; simp [h]
  · rw [if_neg h]; simp [h]
theorem kids_is (a : Int) (h1 : 1 ≤ a) (h7 : a ≤ 7) : impl_kids.f a = some (kidsOf a) := by
  have : a = 1 ∨ a = 2 ∨ a = 3 ∨ a = 4 ∨ a = 5 ∨ a = 6 ∨ a = 7 := by omega
  rcases this with rfl | rfl | rfl | rfl | rfl | rfl | rfl <;> rfl
theorem kidsOf_out {a : Int} (h : ¬ (1 ≤ a ∧ a ≤ 7)) : kidsOf a = -1 := by
  unfold kidsOf
  rw [if_neg (by omega), if_neg (by omega), if_neg (by omega), if_neg (by omega)]
def FmOk (x : S37) : Prop := Ev (fun k => impl_Ex_formed.f k x.f0 x.f1 x.f2 x.f3) (fmY x)
theorem fm_l0_ev (l : List S37) (hl : l.length ≤ 1048576) (hs : ∀ x ∈ l, FmOk x) : ∀ (d n : Nat), n + d = l.length → ∃ r : Int, Ev (fun k => impl_Ex_159.l0 k l (l.length : Int) (n : Int)) r ∧ (decide (r ≥ 0) = !fmsY (l.drop n)) := by
  intro d
  induction d with
  | zero =>
    intro n hn
    rw [List.drop_of_length_le (by omega), fmsY_nil]
    exact ⟨-1, Ev.last (fun k => by simp only [impl_Ex_159.l0]; rw [if_neg (by omega)]), by decide⟩
  | succ d ih =>
    intro n hn
    have hx : FmOk l[n] := hs _ (List.getElem_mem _)
    have hd := List.drop_eq_getElem_cons (l := l) (i := n) (by omega)
    rw [hd, fmsY_cons]
    have h1 : Ev (fun k => impl_Ex_formed_1.f k l[n].f0 l[n].f1 l[n].f2 l[n].f3) (!fmY l[n]) := Ev.step (fun k => by simp only [impl_Ex_formed_1.f]; rfl) (Ev.bindS hx rfl)
    cases hf : fmY l[n] with
    | true =>
      obtain ⟨r, hr, hv⟩ := ih (n + 1) (by omega)
      refine ⟨r, ?_, by rw [hv, Bool.true_and]⟩
      refine Ev.step (fun k => by simp only [impl_Ex_159.l0]; rw [if_pos (by omega), if_pos (by omega), if_pos (by omega), rdI l n (by omega), w_succ (by omega)]) ?_
      exact Ev.bind h1 (Ev.neg (by rw [hf]; decide) hr)
    | false =>
      refine ⟨(n : Int), ?_, by simp⟩
      refine Ev.step (fun k => by simp only [impl_Ex_159.l0]; rw [if_pos (by omega), if_pos (by omega), if_pos (by omega), rdI l n (by omega), w_succ (by omega)]) ?_
      exact Ev.bind h1 (Ev.pos (by rw [hf]; decide) (Ev.now _))
theorem formed_ev : ∀ x : S37, allY x ≤ 1048576 → FmOk x := by
  refine indI (fun x ih g => ?_)
  have hk : ∀ y ∈ x.f3, FmOk y := fun y hy => ih y hy (by have := allY_mem hy; omega)
  have hl : x.f3.length ≤ 1048576 := by have := allY_len (x := x); omega
  have hc : Ev (fun k => impl_Ex_130.f k x.f3) (!fmsY x.f3) := by
    obtain ⟨r, hr, hv⟩ := fm_l0_ev x.f3 hl hk x.f3.length 0 (by omega)
    rw [List.drop_zero] at hv
    refine Ev.step (fun k => by simp only [impl_Ex_130.f]; rfl) ?_
    refine Ev.bindS (Ev.step (fun k => by simp only [impl_Ex_159.f]; rfl) hr) ?_
    rw [hv]
  have bad : ∀ v : Bool, v = false → Ev (fun k => impl_Ex_formed.j0 k true x.f0 x.f1 x.f2 x.f3) v := fun v hv => Ev.last (fun k => by simp only [impl_Ex_formed.j0]; rw [if_pos trivial, hv])
  have bad1 : ∀ v : Bool, v = false → Ev (fun k => impl_Ex_formed.j1 k true x.f0 x.f1 x.f2 x.f3) v := fun v hv => Ev.last (fun k => by simp only [impl_Ex_formed.j1]; rw [if_pos trivial, hv])
  have last : Ev (fun k => impl_Ex_formed.j1 k false x.f0 x.f1 x.f2 x.f3) ((if x.f0 = 7 then decide (1 ≤ x.f2 ∧ x.f2 ≤ 20) else decide (x.f2 = 0)) && fmsY x.f3) := by
    by_cases h7 : x.f0 = 7
    · rw [if_pos h7]
      refine Ev.step (fun k => by simp only [impl_Ex_formed.j1]; rw [if_neg (by decide), if_pos h7, in_is, Option.bind_some]) ?_
      by_cases hc7 : 1 ≤ x.f2 ∧ x.f2 ≤ 20
      · refine Ev.pos (by simp [hc7]) (Ev.bindS hc ?_)
        simp [hc7]
      · refine Ev.neg (by simp; omega) (Ev.val (Ev.now false) ?_)
        simp [hc7]
    · rw [if_neg h7]
      by_cases hc0 : x.f2 = 0
      · refine Ev.step (fun k => by simp only [impl_Ex_formed.j1]; rw [if_neg (by decide), if_neg h7, if_pos hc0]) (Ev.bindS hc ?_)
        simp [hc0]
      · refine Ev.last (fun k => by simp only [impl_Ex_formed.j1]; rw [if_neg (by decide), if_neg h7, if_neg hc0]; simp [hc0])
  unfold FmOk
  rw [fmY_is]
  refine Ev.step (fun k => by simp only [impl_Ex_formed.f, impl_isKind.f]; rw [in_is, Option.bind_some, Option.bind_some]) ?_
  by_cases hkd : 1 ≤ x.f0 ∧ x.f0 ≤ 7
  rotate_left
  · refine Ev.neg (by simp; omega) (bad _ ?_)
    have hn : ¬ (kidsOf x.f0 = (x.f3.length : Int)) := by rw [kidsOf_out hkd]; omega
    simp [okN, hn]
  refine Ev.pos (by simp [hkd]) ?_
  refine Ev.bind (Ev.one (fun _ => kids_is x.f0 hkd.1 hkd.2)) ?_
  by_cases hn : kidsOf x.f0 = (x.f3.length : Int)
  rotate_left
  · rw [show ((x.f3.length : Int) != kidsOf x.f0) = true by simp; omega]
    exact bad _ (by simp [okN, hn])
  rw [show ((x.f3.length : Int) != kidsOf x.f0) = false by simp [hn]]
  by_cases a1 : x.f0 = 1
  · refine Ev.step (fun k => by simp only [impl_Ex_formed.j0, impl_isSym.f]; rw [if_neg (by decide), if_pos a1, in_is, Option.bind_some, Option.bind_some]) ?_
    by_cases hb : 0 ≤ x.f1 ∧ x.f1 ≤ 4
    · refine Ev.pos (by simp [hb]) (Ev.val last ?_)
      simp only [okN, hn, decide_true, Bool.true_and]
      rw [if_pos a1]
      simp [hb]
    · refine Ev.neg (by simp; omega) (bad1 _ ?_)
      simp only [okN, hn, decide_true, Bool.true_and]
      rw [if_pos a1]
      simp [hb]
  · by_cases hb : x.f1 = 0
    · refine Ev.step (fun k => by simp only [impl_Ex_formed.j0]; rw [if_neg (by decide), if_neg a1, show (x.f1 != 0) = false by simp [hb]]) (Ev.val last ?_)
      simp only [okN, hn, decide_true, Bool.true_and]
      rw [if_neg a1]
      simp [hb]
    · refine Ev.step (fun k => by simp only [impl_Ex_formed.j0]; rw [if_neg (by decide), if_neg a1, show (x.f1 != 0) = true by simp [hb]]) (bad1 _ ?_)
      simp only [okN, hn, decide_true, Bool.true_and]
      rw [if_neg a1]
      simp [hb]
end Go.Proofs.Ytdljhokealbnnaa.M
namespace Go.Proofs.Ytdljhokealbnnaa.M
open Go.RowKit Go.Proofs.YtdljhokealbnnaaW.PrintWords Go.Proofs.YtdljhokealbnnaaW.PrintLast Go.Proofs.YtdljhokealbnnaaW.PrintMore
attribute [local go_sem] max2_int min2_int max_two min_two max_three min_three max_four min_four
set_option linter.unusedVariables false
set_option linter.unusedSimpArgs false

def spec_ExOk.f (k : Nat) (a0_0 : Int) (a0_1 : Int) (a0_2 : Int) (l0_3 : List (S37)) : Option (Bool) := (spec_l2Form.f k a0_0 a0_1 a0_2 l0_3 5).bind fun t102 => (if t102 = true then ((spec_l2Many.f k a0_0 a0_1 a0_2 l0_3 5).bind fun t103 => (some (decide (t103 ≤ 12)))) else (some false))
set_option maxHeartbeats 8000000 in
set_option maxRecDepth 100000 in
theorem spec_ExOk.calls (k : Nat) (a0_0 : Int) (a0_1 : Int) (a0_2 : Int) (A0_3 : Option Addr) (c0_3 : Nat) (l0_3 : List (S37)) (r : Bool) (w : World) (hr0_3 : Kd.C k37 w A0_3 l0_3.length l0_3) (hc0_3 : l0_3.length ≤ c0_3) (h : spec_ExOk.f k a0_0 a0_1 a0_2 l0_3 = some r) :
  Calls Try.prog 56 #[.agg #[.int .i64 a0_0, .int .i64 a0_1, .int .i64 a0_2, .slice A0_3 l0_3.length c0_3]] w fun e w' => e = .returned (.bool r) ∧ Below w.heap.size w w' := by
 have hu37 := Try.underlying37
 have HR0_3 := m0_ hr0_3
 have HC0_3 := m0_ hc0_3
 clear hr0_3 hc0_3
 have HB := m0_ (Below.refl w.heap.size w)
 have H : ((spec_l2Form.f k a0_0 a0_1 a0_2 l0_3 5).bind fun t102 => (if t102 = true then ((spec_l2Many.f k a0_0 a0_1 a0_2 l0_3 5).bind fun t103 => (some (decide (t103 ≤ 12)))) else (some false))) = some r := h
 clear h
 replace H := Option.bind_eq_some_iff.mp H
 obtain ⟨t102, A20, H⟩ := H
 replace H : (if t102 = true then ((spec_l2Many.f k a0_0 a0_1 a0_2 l0_3 5).bind fun t103 => (some (decide (t103 ≤ 12)))) else (some false)) = some r := H
 have A2 := m0_ A20
 clear A20
 by_cases c3 : t102 = true
 rotate_left
 ·replace c3 := Bool.eq_false_iff.mpr c3
  subst c3
  have H1 : (some false) = some r := by rw [if_neg (show ¬ (false = true) by decide)] at H;exact H
  clear H
  have H := H1
  clear H1
  obtain rfl := Option.some.inj H
  go_enter Try.func56, Try.ntmps56
  go_wp2_with (first | ((with_reducible refine gate_dst (N := 1) rfl ?_);refine box_event ?hg (N := 1) ?hd (cs := #[.int .i64 a0_0, .int .i64 a0_1, .int .i64 a0_2, .slice A0_3 l0_3.length c0_3]) (t := 37) ?hr ?_;(case hd => rfl);(case hg => rfl);(case hr => first | (go_simp;done) | (go_simp;rfl));intro gb101 hg w10 hbox hb;have BK101 := m0_ (hbox);have GW101 := m0_ ((by rw [hg];exact (below_size (by exact HB.out)) : w.heap.size ≤ gb101));have GE101 := m0_ ((by rw [hg];exact (below_size (by exact HB.out)) : w.heap.size ≤ gb101));replace HB := m0_ (below_step (by exact HB.out) hb);clear hb hbox hg;obtain ⟨hcz11_0, hcz11_1, hcz11_2, hcz11_3, hfz11_0, hfz11_1, hfz11_2, hfz11_3⟩ := bx4 BK101.out) | ((with_reducible refine gate_callee (f := 89) rfl ?_);refine goesL_ (some 4) rfl rfl Try.func89 (by kernel_rfl) rfl #[.agg #[.int .i64 a0_0, .int .i64 a0_1, .int .i64 a0_2, .slice A0_3 l0_3.length c0_3], .int .i64 5] rfl (by (try simp only [List.map_toArray, List.map_cons, List.map_nil]);first | done | rfl | (simp only [List.length_drop, List.length_take];rfl)) ?_;(with_reducible refine (spec_l2Form.calls k a0_0 a0_1 a0_2 _ _ l0_3 5 false _ ?side1 ?side2 A2.out).mono ?_);(case side1 => repeat (first | exact (Kd.C_below HR0_3.out HB.out) | (with_reducible refine Kd.C_alloc ?_ _) | (with_reducible refine Kd.C_drewN ?_ _) | (with_reducible refine Kd.C_drew ?_)));(case side2 => exact HC0_3.out);rintro e w12 ⟨rfl, hb⟩;refine ⟨_, rfl, ?_⟩;replace BK101 := m0_ (blk_below BK101.out hb);replace HB := m0_ (below_step (by exact HB.out) hb);(try clear hb);(try clear hb2);(try clear hk);(try clear hi)))
  go_ret
  exact ⟨by first | rfl | (simp [errW_none, errW_some] <;> rfl) | (simp [*, errW_none, errW_some] <;> rfl), by repeat (first | (with_reducible first | exact HB.out | apply below_alloc | apply pw_below_drewN | apply below_drew1 | refine below_set ?_ GE101.out) | exact HB.out)⟩
 subst c3
 have H1 : ((spec_l2Many.f k a0_0 a0_1 a0_2 l0_3 5).bind fun t103 => (some (decide (t103 ≤ 12)))) = some r := by rw [if_pos rfl] at H;exact H
 clear H
 have H := H1
 clear H1
 replace H := Option.bind_eq_some_iff.mp H
 obtain ⟨t103, A40, H⟩ := H
 replace H : (some (decide (t103 ≤ 12))) = some r := H
 have A4 := m0_ A40
 clear A40
 obtain rfl := Option.some.inj H
 go_enter Try.func56, Try.ntmps56
 go_wp2_with (first | ((with_reducible refine gate_dst (N := 1) rfl ?_);refine box_event ?hg (N := 1) ?hd (cs := #[.int .i64 a0_0, .int .i64 a0_1, .int .i64 a0_2, .slice A0_3 l0_3.length c0_3]) (t := 37) ?hr ?_;(case hd => rfl);(case hg => rfl);(case hr => first | (go_simp;done) | (go_simp;rfl));intro gb101 hg w5 hbox hb;have BK101 := m0_ (hbox);have GW101 := m0_ ((by rw [hg];exact (below_size (by exact HB.out)) : w.heap.size ≤ gb101));have GE101 := m0_ ((by rw [hg];exact (below_size (by exact HB.out)) : w.heap.size ≤ gb101));replace HB := m0_ (below_step (by exact HB.out) hb);clear hb hbox hg;obtain ⟨hcz6_0, hcz6_1, hcz6_2, hcz6_3, hfz6_0, hfz6_1, hfz6_2, hfz6_3⟩ := bx4 BK101.out) | ((with_reducible refine gate_callee (f := 89) rfl ?_);refine goesL_ (some 4) rfl rfl Try.func89 (by kernel_rfl) rfl #[.agg #[.int .i64 a0_0, .int .i64 a0_1, .int .i64 a0_2, .slice A0_3 l0_3.length c0_3], .int .i64 5] rfl (by (try simp only [List.map_toArray, List.map_cons, List.map_nil]);first | done | rfl | (simp only [List.length_drop, List.length_take];rfl)) ?_;(with_reducible refine (spec_l2Form.calls k a0_0 a0_1 a0_2 _ _ l0_3 5 true _ ?side1 ?side2 A2.out).mono ?_);(case side1 => repeat (first | exact (Kd.C_below HR0_3.out HB.out) | (with_reducible refine Kd.C_alloc ?_ _) | (with_reducible refine Kd.C_drewN ?_ _) | (with_reducible refine Kd.C_drew ?_)));(case side2 => exact HC0_3.out);rintro e w7 ⟨rfl, hb⟩;refine ⟨_, rfl, ?_⟩;replace BK101 := m0_ (blk_below BK101.out hb);replace HB := m0_ (below_step (by exact HB.out) hb);(try clear hb);(try clear hb2);(try clear hk);(try clear hi);obtain ⟨hcz8_0, hcz8_1, hcz8_2, hcz8_3, hfz8_0, hfz8_1, hfz8_2, hfz8_3⟩ := bx4 BK101.out) | (go_at_call 90;(with_reducible refine (spec_l2Many.calls k a0_0 a0_1 a0_2 _ _ l0_3 5 t103 _ ?side1 ?side2 A4.out).mono ?_);(case side1 => repeat (first | exact (Kd.C_below HR0_3.out HB.out) | (with_reducible refine Kd.C_alloc ?_ _) | (with_reducible refine Kd.C_drewN ?_ _) | (with_reducible refine Kd.C_drew ?_)));(case side2 => exact HC0_3.out);rintro e w9 ⟨rfl, hb⟩;replace BK101 := m0_ (blk_below BK101.out hb);replace HB := m0_ (below_step (by exact HB.out) hb);(try clear hb);(try clear hb2);(try clear hk);(try clear hi)))
 go_ret
 exact ⟨by first | rfl | (simp [errW_none, errW_some] <;> rfl) | (simp [*, errW_none, errW_some] <;> rfl), by repeat (first | (with_reducible first | exact HB.out | apply below_alloc | apply pw_below_drewN | apply below_drew1 | refine below_set ?_ GE101.out) | exact HB.out)⟩

def impl_ExOk.f (k : Nat) (a0_0 : Int) (a0_1 : Int) (a0_2 : Int) (l0_3 : List (S37)) : Option (Bool) := (impl_Ex_size.f k a0_0 a0_1 a0_2 l0_3).bind fun bt102 => (if bt102.1 ≤ 12 then (if bt102.2 ≤ 5 then ((impl_Ex_formed.f k a0_0 a0_1 a0_2 l0_3).bind fun t104 => (some t104)) else (some false)) else (some false))
set_option maxHeartbeats 8000000 in
set_option maxRecDepth 100000 in
theorem impl_ExOk.calls (k : Nat) (a0_0 : Int) (a0_1 : Int) (a0_2 : Int) (A0_3 : Option Addr) (c0_3 : Nat) (l0_3 : List (S37)) (r : Bool) (w : World) (hr0_3 : Kd.C k37 w A0_3 l0_3.length l0_3) (hc0_3 : l0_3.length ≤ c0_3) (h : impl_ExOk.f k a0_0 a0_1 a0_2 l0_3 = some r) :
  Calls Try.prog 60 #[.agg #[.int .i64 a0_0, .int .i64 a0_1, .int .i64 a0_2, .slice A0_3 l0_3.length c0_3]] w fun e w' => e = .returned (.bool r) ∧ Below w.heap.size w w' := by
 have hu37 := Try.underlying37
 have HR0_3 := m0_ hr0_3
 have HC0_3 := m0_ hc0_3
 clear hr0_3 hc0_3
 have HB := m0_ (Below.refl w.heap.size w)
 have H : ((impl_Ex_size.f k a0_0 a0_1 a0_2 l0_3).bind fun bt102 => (if bt102.1 ≤ 12 then (if bt102.2 ≤ 5 then ((impl_Ex_formed.f k a0_0 a0_1 a0_2 l0_3).bind fun t104 => (some t104)) else (some false)) else (some false))) = some r := h
 clear h
 replace H := Option.bind_eq_some_iff.mp H
 obtain ⟨⟨t102, t103⟩, A20, H⟩ := H
 replace H : (if t102 ≤ 12 then (if t103 ≤ 5 then ((impl_Ex_formed.f k a0_0 a0_1 a0_2 l0_3).bind fun t104 => (some t104)) else (some false)) else (some false)) = some r := H
 have A2 := m0_ A20
 clear A20
 by_cases c3 : t102 ≤ 12
 rotate_left
 ·rw [if_neg c3] at H
  have c3b0 : decide (t102 ≤ 12) = false := decide_eq_false c3
  clear c3
  obtain rfl := Option.some.inj H
  go_enter Try.func60, Try.ntmps60
  go_wp2_with (first | ((with_reducible refine gate_dst (N := 1) rfl ?_);refine box_event ?hg (N := 1) ?hd (cs := #[.int .i64 a0_0, .int .i64 a0_1, .int .i64 a0_2, .slice A0_3 l0_3.length c0_3]) (t := 37) ?hr ?_;(case hd => rfl);(case hg => rfl);(case hr => first | (go_simp;done) | (go_simp;rfl));intro gb101 hg w14 hbox hb;have BK101 := m0_ (hbox);have GW101 := m0_ ((by rw [hg];exact (below_size (by exact HB.out)) : w.heap.size ≤ gb101));have GE101 := m0_ ((by rw [hg];exact (below_size (by exact HB.out)) : w.heap.size ≤ gb101));replace HB := m0_ (below_step (by exact HB.out) hb);clear hb hbox hg;obtain ⟨hcz15_0, hcz15_1, hcz15_2, hcz15_3, hfz15_0, hfz15_1, hfz15_2, hfz15_3⟩ := bx4 BK101.out) | ((with_reducible refine gate_callee (f := 91) rfl ?_);refine goesL_ (some 7) rfl rfl Try.func91 (by kernel_rfl) rfl #[.agg #[.int .i64 a0_0, .int .i64 a0_1, .int .i64 a0_2, .slice A0_3 l0_3.length c0_3]] rfl (by (try simp only [List.map_toArray, List.map_cons, List.map_nil]);first | done | rfl | (simp only [List.length_drop, List.length_take];rfl)) ?_;(with_reducible refine (impl_Ex_size.calls k a0_0 a0_1 a0_2 _ _ l0_3 t102 t103 _ ?side1 ?side2 A2.out).mono ?_);(case side1 => repeat (first | exact (Kd.C_below HR0_3.out HB.out) | (with_reducible refine Kd.C_alloc ?_ _) | (with_reducible refine Kd.C_drewN ?_ _) | (with_reducible refine Kd.C_drew ?_)));(case side2 => exact HC0_3.out);rintro e w16 ⟨rfl, hb⟩;refine ⟨_, rfl, ?_⟩;replace BK101 := m0_ (blk_below BK101.out hb);replace HB := m0_ (below_step (by exact HB.out) hb);(try clear hb);(try clear hb2);(try clear hk);(try clear hi)))
  go_ret
  exact ⟨by first | rfl | (simp [errW_none, errW_some] <;> rfl) | (simp [*, errW_none, errW_some] <;> rfl), by repeat (first | (with_reducible first | exact HB.out | apply below_alloc | apply pw_below_drewN | apply below_drew1 | refine below_set ?_ GE101.out) | exact HB.out)⟩
 rw [if_pos c3] at H
 have c3b0 : decide (t102 ≤ 12) = true := decide_eq_true c3
 clear c3
 by_cases c4 : t103 ≤ 5
 ·rw [if_pos c4] at H
  have c4b0 : decide (t103 ≤ 5) = true := decide_eq_true c4
  clear c4
  replace H := Option.bind_eq_some_iff.mp H
  obtain ⟨t104, A50, H⟩ := H
  replace H : (some t104) = some r := H
  have A5 := m0_ A50
  clear A50
  obtain rfl := Option.some.inj H
  go_enter Try.func60, Try.ntmps60
  go_wp2_with (first | ((with_reducible refine gate_dst (N := 1) rfl ?_);refine box_event ?hg (N := 1) ?hd (cs := #[.int .i64 a0_0, .int .i64 a0_1, .int .i64 a0_2, .slice A0_3 l0_3.length c0_3]) (t := 37) ?hr ?_;(case hd => rfl);(case hg => rfl);(case hr => first | (go_simp;done) | (go_simp;rfl));intro gb101 hg w6 hbox hb;have BK101 := m0_ (hbox);have GW101 := m0_ ((by rw [hg];exact (below_size (by exact HB.out)) : w.heap.size ≤ gb101));have GE101 := m0_ ((by rw [hg];exact (below_size (by exact HB.out)) : w.heap.size ≤ gb101));replace HB := m0_ (below_step (by exact HB.out) hb);clear hb hbox hg;obtain ⟨hcz7_0, hcz7_1, hcz7_2, hcz7_3, hfz7_0, hfz7_1, hfz7_2, hfz7_3⟩ := bx4 BK101.out) | ((with_reducible refine gate_callee (f := 91) rfl ?_);refine goesL_ (some 7) rfl rfl Try.func91 (by kernel_rfl) rfl #[.agg #[.int .i64 a0_0, .int .i64 a0_1, .int .i64 a0_2, .slice A0_3 l0_3.length c0_3]] rfl (by (try simp only [List.map_toArray, List.map_cons, List.map_nil]);first | done | rfl | (simp only [List.length_drop, List.length_take];rfl)) ?_;(with_reducible refine (impl_Ex_size.calls k a0_0 a0_1 a0_2 _ _ l0_3 t102 t103 _ ?side1 ?side2 A2.out).mono ?_);(case side1 => repeat (first | exact (Kd.C_below HR0_3.out HB.out) | (with_reducible refine Kd.C_alloc ?_ _) | (with_reducible refine Kd.C_drewN ?_ _) | (with_reducible refine Kd.C_drew ?_)));(case side2 => exact HC0_3.out);rintro e w8 ⟨rfl, hb⟩;refine ⟨_, rfl, ?_⟩;replace BK101 := m0_ (blk_below BK101.out hb);replace HB := m0_ (below_step (by exact HB.out) hb);(try clear hb);(try clear hb2);(try clear hk);(try clear hi);obtain ⟨hcz9_0, hcz9_1, hcz9_2, hcz9_3, hfz9_0, hfz9_1, hfz9_2, hfz9_3⟩ := bx4 BK101.out) | (go_at_call 92;(with_reducible refine (impl_Ex_formed.calls k a0_0 a0_1 a0_2 _ _ l0_3 t104 _ ?side1 ?side2 A5.out).mono ?_);(case side1 => repeat (first | exact (Kd.C_below HR0_3.out HB.out) | (with_reducible refine Kd.C_alloc ?_ _) | (with_reducible refine Kd.C_drewN ?_ _) | (with_reducible refine Kd.C_drew ?_)));(case side2 => exact HC0_3.out);rintro e w10 ⟨rfl, hb⟩;replace BK101 := m0_ (blk_below BK101.out hb);replace HB := m0_ (below_step (by exact HB.out) hb);(try clear hb);(try clear hb2);(try clear hk);(try clear hi)))
  go_ret
  exact ⟨by first | rfl | (simp [errW_none, errW_some] <;> rfl) | (simp [*, errW_none, errW_some] <;> rfl), by repeat (first | (with_reducible first | exact HB.out | apply below_alloc | apply pw_below_drewN | apply below_drew1 | refine below_set ?_ GE101.out) | exact HB.out)⟩
 ·rw [if_neg c4] at H
  have c4b0 : decide (t103 ≤ 5) = false := decide_eq_false c4
  clear c4
  obtain rfl := Option.some.inj H
  go_enter Try.func60, Try.ntmps60
  go_wp2_with (first | ((with_reducible refine gate_dst (N := 1) rfl ?_);refine box_event ?hg (N := 1) ?hd (cs := #[.int .i64 a0_0, .int .i64 a0_1, .int .i64 a0_2, .slice A0_3 l0_3.length c0_3]) (t := 37) ?hr ?_;(case hd => rfl);(case hg => rfl);(case hr => first | (go_simp;done) | (go_simp;rfl));intro gb101 hg w11 hbox hb;have BK101 := m0_ (hbox);have GW101 := m0_ ((by rw [hg];exact (below_size (by exact HB.out)) : w.heap.size ≤ gb101));have GE101 := m0_ ((by rw [hg];exact (below_size (by exact HB.out)) : w.heap.size ≤ gb101));replace HB := m0_ (below_step (by exact HB.out) hb);clear hb hbox hg;obtain ⟨hcz12_0, hcz12_1, hcz12_2, hcz12_3, hfz12_0, hfz12_1, hfz12_2, hfz12_3⟩ := bx4 BK101.out) | ((with_reducible refine gate_callee (f := 91) rfl ?_);refine goesL_ (some 7) rfl rfl Try.func91 (by kernel_rfl) rfl #[.agg #[.int .i64 a0_0, .int .i64 a0_1, .int .i64 a0_2, .slice A0_3 l0_3.length c0_3]] rfl (by (try simp only [List.map_toArray, List.map_cons, List.map_nil]);first | done | rfl | (simp only [List.length_drop, List.length_take];rfl)) ?_;(with_reducible refine (impl_Ex_size.calls k a0_0 a0_1 a0_2 _ _ l0_3 t102 t103 _ ?side1 ?side2 A2.out).mono ?_);(case side1 => repeat (first | exact (Kd.C_below HR0_3.out HB.out) | (with_reducible refine Kd.C_alloc ?_ _) | (with_reducible refine Kd.C_drewN ?_ _) | (with_reducible refine Kd.C_drew ?_)));(case side2 => exact HC0_3.out);rintro e w13 ⟨rfl, hb⟩;refine ⟨_, rfl, ?_⟩;replace BK101 := m0_ (blk_below BK101.out hb);replace HB := m0_ (below_step (by exact HB.out) hb);(try clear hb);(try clear hb2);(try clear hk);(try clear hi)))
  go_ret
  exact ⟨by first | rfl | (simp [errW_none, errW_some] <;> rfl) | (simp [*, errW_none, errW_some] <;> rfl), by repeat (first | (with_reducible first | exact HB.out | apply below_alloc | apply pw_below_drewN | apply below_drew1 | refine below_set ?_ GE101.out) | exact HB.out)⟩

end Go.Proofs.Ytdljhokealbnnaa.M
namespace Go.Proofs.Ytdljhokealbnnaa.M
set_option linter.unusedVariables false
set_option linter.unusedSimpArgs false
open Go.RowKit Go.Proofs.YtdljhokealbnnaaW.PrintWords Go.Proofs.YtdljhokealbnnaaW.PrintLast

def okX (x : S37) : Bool := fmY x && decide (deepY x ≤ 5) && decide (manyY x ≤ 12)
theorem form5 (x : S37) (h : allY x ≤ 1048576) : Ev (fun k => spec_l2Form.f k x.f0 x.f1 x.f2 x.f3 5) (fmY x && decide (deepY x ≤ 5)) := form_ev x h 5 (by omega)
theorem many5 (x : S37) (h : allY x ≤ 1048576) (hd : deepY x ≤ 5) : Ev (fun k => spec_l2Many.f k x.f0 x.f1 x.f2 x.f3 5) (manyY x : Int) := many_ev x h 5 (by omega) (by omega)
theorem spec_ExOk_ev (x : S37) (h : allY x ≤ 1048576) : Ev (fun k => spec_ExOk.f k x.f0 x.f1 x.f2 x.f3) (okX x) := by
  unfold spec_ExOk.f okX
  refine Ev.bind (form5 x h) ?_
  by_cases hf : (fmY x && decide (deepY x ≤ 5)) = true
  · have hd : deepY x ≤ 5 := by simp at hf; exact hf.2
    refine Ev.pos hf (Ev.bindS (many5 x h hd) ?_)
    rw [hf, Bool.true_and]
    have : ((manyY x : Int) ≤ 12) ↔ (manyY x ≤ 12) := by omega
    simp only [this]
  · refine Ev.neg hf (Ev.val (Ev.now _) ?_)
    simp only [Bool.not_eq_true] at hf
    rw [hf]
    rfl
theorem impl_ExOk_ev (x : S37) (h : allY x ≤ 1048576) : Ev (fun k => impl_ExOk.f k x.f0 x.f1 x.f2 x.f3) (okX x) := by
  unfold impl_ExOk.f okX
  refine Ev.bind (size_ev x h) ?_
  by_cases hm : manyY x ≤ 12
  · refine Ev.pos (show ((manyY x : Nat) : Int) ≤ 12 by omega) ?_
    by_cases hd : deepY x ≤ 5
    · refine Ev.pos (show ((deepY x : Nat) : Int) ≤ 5 by omega) (Ev.bindS (formed_ev x h) ?_)
      simp [hm, hd]
    · refine Ev.neg (show ¬ (((deepY x : Nat) : Int) ≤ 5) by omega) (Ev.val (Ev.now _) ?_)
      simp [hd]
  · refine Ev.neg (show ¬ (((manyY x : Nat) : Int) ≤ 12) by omega) (Ev.val (Ev.now _) ?_)
    simp [hm]
end Go.Proofs.Ytdljhokealbnnaa.M
namespace Go.Proofs.Ytdljhokealbnnaa.M
open Go.RowKit Go.Proofs.YtdljhokealbnnaaW.PrintWords Go.Proofs.YtdljhokealbnnaaW.PrintLast Go.Proofs.YtdljhokealbnnaaW.PrintMore
attribute [local go_sem] max2_int min2_int max_two min_two max_three min_three max_four min_four
set_option linter.unusedVariables false
set_option linter.unusedSimpArgs false

def impl_isMode.f (a0 : Int) : Option (Bool) := (impl_in.f a0 0 4).bind fun t101 => (some t101)
set_option maxHeartbeats 8000000 in
set_option maxRecDepth 100000 in
theorem impl_isMode.calls (a0 : Int) (r : Bool) (w : World) (h : impl_isMode.f a0 = some r) :
  Calls Try.prog 59 #[.int .i64 a0] w fun e w' => e = .returned (.bool r) ∧ Drawn0 w w' := by
 have H : ((impl_in.f a0 0 4).bind fun t101 => (some t101)) = some r := h
 clear h
 replace H := Option.bind_eq_some_iff.mp H
 obtain ⟨t101, A20, H⟩ := H
 replace H : (some t101) = some r := H
 have A2 := m0_ A20
 clear A20
 obtain rfl := Option.some.inj H
 go_enter Try.func59, Try.ntmps59
 go_wp2_with (first | ((with_reducible refine gate_callee (f := 58) rfl ?_);refine goesL_ (some 4) rfl rfl Try.func58 (by kernel_rfl) rfl #[.int .i64 a0, .int .i64 0, .int .i64 4] rfl (by (try simp only [List.map_toArray, List.map_cons, List.map_nil]);first | done | rfl | (simp only [List.length_drop, List.length_take];rfl)) ?_;(with_reducible refine (impl_in.calls a0 0 4 t101 _ A2.out).mono ?_);rintro e w' ⟨rfl, ⟨nd, rfl⟩⟩;refine ⟨_, rfl, ?_⟩) | (go_at_call 58;(with_reducible refine (impl_in.calls a0 0 4 t101 _ A2.out).mono ?_);rintro e w' ⟨rfl, ⟨nd, rfl⟩⟩))
 go_ret
 exact ⟨by first | rfl | (simp;done) | (simp [*];done), by repeat (first | exact Drawn0.refl _ | apply Drawn0.step)⟩

end Go.Proofs.Ytdljhokealbnnaa.M
namespace Go.Proofs.Ytdljhokealbnnaa.M
set_option linter.unusedVariables false
set_option linter.unusedSimpArgs false
open Go Go.RowKit Go.Proofs.YtdljhokealbnnaaW.PrintWords Go.Proofs.YtdljhokealbnnaaW.PrintLast Go.Proofs.YtdljhokealbnnaaW.PrintMore

def selB {α : Type} (b : Bool) (a c : α) : α := if b = true then a else c
def modeB (a : Int) : Bool := decide (0 ≤ a) && decide (a ≤ 4)
def graphB (x : S37) (mo : Int) : Bool := okX x && modeB mo
theorem isMode_is (a : Int) : impl_isMode.f a = some (modeB a) := by
  unfold impl_isMode.f impl_in.f modeB
  by_cases h0 : 0 ≤ a
  · by_cases h4 : a ≤ 4 <;> simp [h0, h4]
  · simp [h0]
set_option maxHeartbeats 4000000 in
set_option maxRecDepth 100000 in
theorem graphI_walk (x : S37) (A : Option Addr) (c : Nat) (mo : Int) (w : World) (hc : x.f3.length ≤ c) (hC : Kd.C k37 w A x.f3.length x.f3) (ha : allY x ≤ 1048576) :
    Calls Try.prog 39 #[.agg #[.int .i64 x.f0, .int .i64 x.f1, .int .i64 x.f2, .slice A x.f3.length c], .int .i64 mo] w fun e w' => ∃ v : Value, e = .returned (.agg #[.int .i64 (selB (graphB x mo) mo 0), v, .int .i64 0, .int .i64 0, .bool false]) ∧ Kd.S k104 104 w' w.heap.size (fun _ => True) v (selB (graphB x mo) (addX x []).1 []) ∧ Below w.heap.size w w' := by
  obtain ⟨k1, hk1⟩ := Ev.rounds (impl_ExOk_ev x ha)
  have HQ := m0_ hk1
  have HC := m0_ hc
  have HK := m0_ hC
  have HBW := m0_ (Below.refl w.heap.size w)
  have hu1_ := Try.underlying37
  have hu3_ := Try.underlying63
  clear hk1 hc hC
  go_enter Try.func39, Try.ntmps39
  go_wp2_with (first | ((with_reducible refine gate_dst (N := 2) rfl ?_); refine box_event ?hg (N := 2) ?hd (cs := #[.int .i64 x.f0, .int .i64 x.f1, .int .i64 x.f2, .slice A x.f3.length c]) (t := 37) ?hr ?_; (case hd => rfl); (case hg => rfl); (case hr => first | (go_simp; done) | (go_simp; rfl)); intro g2 hg wg2 hbox hb; have G2 := m0_ (by rw [hg]; exact HBW.out.size : w.heap.size ≤ g2); have n0_ := m0_ (below_step HBW.out hb); have n1_ := m0_ (hbox); clear HBW; have HBW := n0_; have BKg2 := n1_; clear n0_ n1_; clear hb hbox hg) | ((with_reducible refine gate_dst (N := 4) rfl ?_); refine box_event ?hg (N := 4) ?hd (cs := #[.int .i64 0, .slice none 0 0, .int .i64 0, .int .i64 0, .bool false]) (t := 63) ?hr ?_; (case hd => rfl); (case hg => rfl); (case hr => first | (go_simp; done) | (go_simp; rfl)); intro g4 hg wg4 hbox hb; have G4 := m0_ (by rw [hg]; exact HBW.out.size : w.heap.size ≤ g4); have n0_ := m0_ ((by rw [hg]; exact Nat.ne_of_lt (blk_lt BKg2.out) : g2 ≠ g4)); have n1_ := m0_ (blk_below BKg2.out hb); have n2_ := m0_ (below_step HBW.out hb); have n3_ := m0_ (hbox); clear BKg2; clear HBW; have N24 := n0_; have BKg2 := n1_; have HBW := n2_; have BKg4 := n3_; clear n0_ n1_ n2_ n3_; clear hb hbox hg; have hz0 := (blk_cell BKg2.out 0).trans (show _ = some (Value.int .i64 x.f0) from rfl); have hz1 := (blk_cell BKg2.out 1).trans (show _ = some (Value.int .i64 x.f1) from rfl); have hz2 := (blk_cell BKg2.out 2).trans (show _ = some (Value.int .i64 x.f2) from rfl); have hz3 := (blk_cell BKg2.out 3).trans (show _ = some (Value.slice A x.f3.length c) from rfl)) | (go_at_call 60; fail))
  clear hz0 hz1 hz2 hz3
  refine (impl_ExOk.calls k1 x.f0 x.f1 x.f2 A c x.f3 (okX x) _ (Kd.C_below HK.out HBW.out) HC.out HQ.out).mono ?_
  rintro e w4 ⟨rfl, hb⟩
  have n0_ := m0_ (blk_below BKg2.out hb)
  have n1_ := m0_ (blk_below BKg4.out hb)
  have n2_ := m0_ (below_step HBW.out hb)
  clear BKg2
  clear BKg4
  clear HBW
  have BKg2 := n0_
  have BKg4 := n1_
  have HBW := n2_
  clear n0_ n1_ n2_
  clear hb
  by_cases ho : okX x = true
  case neg =>
    have ho2 : okX x = false := by simpa using ho
    have HG := m0_ (show graphB x mo = false by unfold graphB; rw [ho2, Bool.false_and])
    rw [ho2]
    go_wp2_with (first | ((with_reducible refine gate_store (t := 63) (p := 4) (v := .tmp 14) rfl ?_); refine store_blk (w0 := w) (base := w.heap.size) (e := 63) (g := g4) (off := 0) (cur := #[.int .i64 0, .slice none 0 0, .int .i64 0, .int .i64 0, .bool false]) (cur' := #[.int .i64 0, .slice none 0 0, .int .i64 0, .int .i64 0, .bool false]) (u := .agg #[.int .i64 0, .slice none 0 0, .int .i64 0, .int .i64 0, .bool false]) (seg := [.int .i64 0, .slice none 0 0, .int .i64 0, .int .i64 0, .bool false]) rfl rfl rfl rfl rfl BKg4.out rfl ?ht ?h1 (by simp) rfl HBW.out G4.out ?_; (case ht => kernel_rfl); (case h1 => intro q hq; simp only [List.mem_cons, List.not_mem_nil, or_false] at hq; first | (subst hq; rfl) | (rcases hq with rfl | rfl | rfl | rfl <;> rfl) | (rcases hq with rfl | rfl | rfl | rfl | rfl <;> rfl) | (rcases hq with rfl | rfl | rfl | rfl | rfl | rfl | rfl | rfl | rfl | rfl <;> rfl)); intro ws_ hs_ hk_ hB_; have n0_ := m0_ (hs_); have n1_ := m0_ (hB_); clear BKg4; clear HBW; have BKg4 := n0_; have HBW := n1_; clear n0_ n1_; clear hs_ hk_ hB_))
    refine bodyPost_ret (results_cell_row rfl _ _ g4 63 #[.int .i64 0, .slice none 0 0, .int .i64 0, .int .i64 0, .bool false] (0, 0) _ rfl BKg4.out Try.underlying63 rfl (by kernel_rfl)) rfl ?_
    rw [HG.out]
    exact ⟨_, rfl, Kd.S_nil _ _ _ _ _, HBW.out⟩
  rw [ho]
  have HO := m0_ ho
  go_wp2_with (go_at_call 59; fail)
  refine (impl_isMode.calls mo _ _ (isMode_is mo)).mono ?_
  rintro e w5 ⟨rfl, hd⟩
  have hb := hd.below
  have n0_ := m0_ (blk_below BKg2.out hb)
  have n1_ := m0_ (blk_below BKg4.out hb)
  have n2_ := m0_ (below_step HBW.out hb)
  clear BKg2
  clear BKg4
  clear HBW
  have BKg2 := n0_
  have BKg4 := n1_
  have HBW := n2_
  clear n0_ n1_ n2_
  clear hb hd
  by_cases hm : modeB mo = true
  case neg =>
    have hm2 : modeB mo = false := by simpa using hm
    have HG := m0_ (show graphB x mo = false by unfold graphB; rw [hm2, Bool.and_false])
    rw [hm2]
    go_wp2_with (first | ((with_reducible refine gate_store (t := 63) (p := 4) (v := .tmp 14) rfl ?_); refine store_blk (w0 := w) (base := w.heap.size) (e := 63) (g := g4) (off := 0) (cur := #[.int .i64 0, .slice none 0 0, .int .i64 0, .int .i64 0, .bool false]) (cur' := #[.int .i64 0, .slice none 0 0, .int .i64 0, .int .i64 0, .bool false]) (u := .agg #[.int .i64 0, .slice none 0 0, .int .i64 0, .int .i64 0, .bool false]) (seg := [.int .i64 0, .slice none 0 0, .int .i64 0, .int .i64 0, .bool false]) rfl rfl rfl rfl rfl BKg4.out rfl ?ht ?h1 (by simp) rfl HBW.out G4.out ?_; (case ht => kernel_rfl); (case h1 => intro q hq; simp only [List.mem_cons, List.not_mem_nil, or_false] at hq; first | (subst hq; rfl) | (rcases hq with rfl | rfl | rfl | rfl <;> rfl) | (rcases hq with rfl | rfl | rfl | rfl | rfl <;> rfl) | (rcases hq with rfl | rfl | rfl | rfl | rfl | rfl | rfl | rfl | rfl | rfl <;> rfl)); intro ws_ hs_ hk_ hB_; have n0_ := m0_ (hs_); have n1_ := m0_ (hB_); clear BKg4; clear HBW; have BKg4 := n0_; have HBW := n1_; clear n0_ n1_; clear hs_ hk_ hB_))
    refine bodyPost_ret (results_cell_row rfl _ _ g4 63 #[.int .i64 0, .slice none 0 0, .int .i64 0, .int .i64 0, .bool false] (0, 0) _ rfl BKg4.out Try.underlying63 rfl (by kernel_rfl)) rfl ?_
    rw [HG.out]
    exact ⟨_, rfl, Kd.S_nil _ _ _ _ _, HBW.out⟩
  have HG := m0_ (show graphB x mo = true by unfold graphB; rw [HO.out, hm]; rfl)
  rw [hm]
  have HM12 := m0_ (show allY x + 1 ≤ 1000 by have a_ := manyY_all x; have b_ := HO.out; unfold okX at b_; simp only [Bool.and_eq_true, decide_eq_true_eq] at b_; omega)
  clear ha
  have hz0 := (blk_cell BKg2.out 0).trans (show _ = some (Value.int .i64 x.f0) from rfl)
  have hz1 := (blk_cell BKg2.out 1).trans (show _ = some (Value.int .i64 x.f1) from rfl)
  have hz2 := (blk_cell BKg2.out 2).trans (show _ = some (Value.int .i64 x.f2) from rfl)
  have hz3 := (blk_cell BKg2.out 3).trans (show _ = some (Value.slice A x.f3.length c) from rfl)
  go_wp2_with (first | ((with_reducible refine gate_dst (N := 5) rfl ?_); refine box_event ?hg (N := 5) ?hd (cs := #[.int .i64 0, .slice none 0 0, .int .i64 0, .int .i64 0, .bool false]) (t := 63) ?hr ?_; (case hd => rfl); (case hg => rfl); (case hr => first | (go_simp; done) | (go_simp; rfl)); intro g5 hg wg5 hbox hb; clear hz0 hz1 hz2 hz3; have n0_ := m0_ ((by rw [hg]; exact Nat.ne_of_lt (blk_lt BKg2.out) : g2 ≠ g5)); have n1_ := m0_ ((by rw [hg]; exact Nat.ne_of_lt (blk_lt BKg4.out) : g4 ≠ g5)); have n2_ := m0_ ((by rw [hg]; exact HBW.out.size : w.heap.size ≤ g5)); have n3_ := m0_ (blk_below BKg2.out hb); have n4_ := m0_ (blk_below BKg4.out hb); have n5_ := m0_ (below_step HBW.out hb); have n6_ := m0_ (hbox); clear BKg2; clear BKg4; clear HBW; have N25 := n0_; have N45 := n1_; have G5 := n2_; have BKg2 := n3_; have BKg4 := n4_; have HBW := n5_; have BKg5 := n6_; clear n0_ n1_ n2_ n3_ n4_ n5_ n6_; clear hb hbox hg) | ((with_reducible refine gate_store (t := 63) (p := 5) (v := .tmp 16) rfl ?_); refine store_blk (w0 := w) (base := w.heap.size) (e := 63) (g := g5) (off := 0) (cur := #[.int .i64 0, .slice none 0 0, .int .i64 0, .int .i64 0, .bool false]) (cur' := #[.int .i64 mo, .slice none 0 0, .int .i64 0, .int .i64 0, .bool false]) (u := .agg #[.int .i64 mo, .slice none 0 0, .int .i64 0, .int .i64 0, .bool false]) (seg := [.int .i64 mo, .slice none 0 0, .int .i64 0, .int .i64 0, .bool false]) rfl rfl rfl rfl rfl BKg5.out rfl ?ht ?h1 (by simp) rfl HBW.out G5.out ?_; (case ht => kernel_rfl); (case h1 => intro q hq; simp only [List.mem_cons, List.not_mem_nil, or_false] at hq; first | (subst hq; rfl) | (rcases hq with rfl | rfl | rfl | rfl <;> rfl) | (rcases hq with rfl | rfl | rfl | rfl | rfl <;> rfl) | (rcases hq with rfl | rfl | rfl | rfl | rfl | rfl | rfl | rfl | rfl | rfl <;> rfl)); intro ws_ hs_ hk_ hB_; have n0_ := m0_ (hs_); have n1_ := m0_ (blk_keep BKg2.out hk_ N25.out); have n2_ := m0_ (blk_keep BKg4.out hk_ N45.out); have n3_ := m0_ (hB_); clear BKg5; clear BKg2; clear BKg4; clear HBW; have BKg5 := n0_; have BKg2 := n1_; have BKg4 := n2_; have HBW := n3_; clear n0_ n1_ n2_ n3_; clear hs_ hk_ hB_; have hz0 := (blk_cell BKg2.out 0).trans (show _ = some (Value.int .i64 x.f0) from rfl); have hz1 := (blk_cell BKg2.out 1).trans (show _ = some (Value.int .i64 x.f1) from rfl); have hz2 := (blk_cell BKg2.out 2).trans (show _ = some (Value.int .i64 x.f2) from rfl); have hz3 := (blk_cell BKg2.out 3).trans (show _ = some (Value.slice A x.f3.length c) from rfl)) | (go_at_call 72; fail))
  clear hz0 hz1 hz2 hz3
  refine (add_walk g5 mo w G5.out x A c _ (fun _ => False) (.slice none 0 0) [] HC.out HK.out BKg5.out (Kd.S_nil _ _ _ _ _) (fun _ h => h.elim) HBW.out (by have a_ := HM12.out; simp only [List.length_nil]; omega)).mono ?_
  rintro e w6 ⟨v, rfl, hg, hs, hb, hk⟩
  obtain ⟨AV, cV, eV⟩ := Kd.S_slice hs
  subst eV
  have n0_ := m0_ (blk_kept BKg4.out hk (fun q => q.elim (fun q => q) N45.out))
  have HSN := m0_ (Kd.S_mono (ok' := fun k => k ≠ g4) hs (fun k hk2 => by have a_ := blk_lt BKg4.out; rcases hk2 with q | q; exact q.elim; omega))
  clear BKg4 BKg5 HBW BKg2 hs hk
  have BKg4 := n0_
  have BKg5 := m0_ hg
  have HBW := m0_ hb
  clear n0_ hg hb
  have hz0 := (blk_cell BKg5.out 0).trans (show _ = some (Value.int .i64 mo) from rfl)
  have hz1 := (blk_cell BKg5.out 1).trans (show _ = some (Value.slice AV (addX x []).1.length cV) from rfl)
  have hz2 := (blk_cell BKg5.out 2).trans (show _ = some (Value.int .i64 0) from rfl)
  have hz3 := (blk_cell BKg5.out 3).trans (show _ = some (Value.int .i64 0) from rfl)
  have hz4 := (blk_cell BKg5.out 4).trans (show _ = some (Value.bool false) from rfl)
  go_wp2_with (first | ((with_reducible refine gate_store (t := 63) (p := 4) (v := .tmp 19) rfl ?_); refine store_blk (w0 := w) (base := w.heap.size) (e := 63) (g := g4) (off := 0) (cur := #[.int .i64 0, .slice none 0 0, .int .i64 0, .int .i64 0, .bool false]) (cur' := #[.int .i64 mo, .slice AV (addX x []).1.length cV, .int .i64 0, .int .i64 0, .bool false]) (u := .agg #[.int .i64 mo, .slice AV (addX x []).1.length cV, .int .i64 0, .int .i64 0, .bool false]) (seg := [.int .i64 mo, .slice AV (addX x []).1.length cV, .int .i64 0, .int .i64 0, .bool false]) rfl rfl rfl rfl rfl BKg4.out rfl ?ht ?h1 (by simp) rfl HBW.out G4.out ?_; (case ht => kernel_rfl); (case h1 => intro q hq; simp only [List.mem_cons, List.not_mem_nil, or_false] at hq; first | (subst hq; rfl) | (rcases hq with rfl | rfl | rfl | rfl <;> rfl) | (rcases hq with rfl | rfl | rfl | rfl | rfl <;> rfl) | (rcases hq with rfl | rfl | rfl | rfl | rfl | rfl | rfl | rfl | rfl | rfl <;> rfl)); intro ws_ hs_ hk_ hB_; have n9_ := m0_ (Kd.S_keep HSN.out hk_ (fun k hk => hk)); clear HSN; have HSN := n9_; clear n9_; have n0_ := m0_ (hs_); have n1_ := m0_ (hB_); clear BKg4; clear HBW; have BKg4 := n0_; have HBW := n1_; clear n0_ n1_; clear hs_ hk_ hB_))
  refine bodyPost_ret (results_cell_row rfl _ _ g4 63 #[.int .i64 mo, .slice AV (addX x []).1.length cV, .int .i64 0, .int .i64 0, .bool false] (0, 0) _ rfl BKg4.out Try.underlying63 rfl (by kernel_rfl)) rfl ?_
  rw [HG.out]
  exact ⟨_, rfl, Kd.S_mono HSN.out (fun _ _ => trivial), HBW.out⟩
end Go.Proofs.Ytdljhokealbnnaa.M
namespace Go.Proofs.Ytdljhokealbnnaa.M
open Go.RowKit Go.Proofs.YtdljhokealbnnaaW.PrintWords Go.Proofs.YtdljhokealbnnaaW.PrintLast Go.Proofs.YtdljhokealbnnaaW.PrintMore
attribute [local go_sem] max2_int min2_int max_two min_two max_three min_three max_four min_four
set_option linter.unusedVariables false
set_option linter.unusedSimpArgs false

def spec_l4Mode.f (a0 : Int) : Option (Bool) := if a0 ≥ 0 then (some (decide (a0 < 5))) else (some false)
set_option maxHeartbeats 8000000 in
set_option maxRecDepth 100000 in
theorem spec_l4Mode.calls (a0 : Int) (r : Bool) (w : World) (h : spec_l4Mode.f a0 = some r) :
  Calls Try.prog 55 #[.int .i64 a0] w fun e w' => e = .returned (.bool r) ∧ Drawn0 w w' := by
 have H : (if a0 ≥ 0 then (some (decide (a0 < 5))) else (some false)) = some r := h
 clear h
 by_cases c2 : a0 ≥ 0
 ·rw [if_pos c2] at H
  have c2b0 : decide (0 ≤ a0) = true := decide_eq_true c2
  clear c2
  obtain rfl := Option.some.inj H
  go_enter Try.func55, Try.ntmps55
  go_wp2
  go_ret
  exact ⟨by first | rfl | (simp;done) | (simp [*];done), by repeat (first | exact Drawn0.refl _ | apply Drawn0.step)⟩
 ·rw [if_neg c2] at H
  have c2b0 : decide (0 ≤ a0) = false := decide_eq_false c2
  clear c2
  obtain rfl := Option.some.inj H
  go_enter Try.func55, Try.ntmps55
  go_wp2
  go_ret
  exact ⟨by first | rfl | (simp;done) | (simp [*];done), by repeat (first | exact Drawn0.refl _ | apply Drawn0.step)⟩

end Go.Proofs.Ytdljhokealbnnaa.M
namespace Go.Proofs.Ytdljhokealbnnaa.M
set_option linter.unusedVariables false
set_option linter.unusedSimpArgs false
open Go Go.RowKit Go.Proofs.YtdljhokealbnnaaW.PrintWords Go.Proofs.YtdljhokealbnnaaW.PrintLast Go.Proofs.YtdljhokealbnnaaW.PrintMore

theorem l4Mode_is (a : Int) : spec_l4Mode.f a = some (modeB a) := by
  unfold spec_l4Mode.f modeB
  by_cases h0 : 0 ≤ a
  · rw [if_pos h0]
    by_cases h4 : a ≤ 4
    · simp [h0, h4, show a < 5 by omega]
    · simp [h0, h4, show ¬ a < 5 by omega]
  · rw [if_neg h0]
    simp [h0]
set_option maxHeartbeats 4000000 in
set_option maxRecDepth 100000 in
theorem graphT_walk (x : S37) (A : Option Addr) (c : Nat) (mo : Int) (w : World) (hc : x.f3.length ≤ c) (hC : Kd.C k37 w A x.f3.length x.f3) (ha : allY x ≤ 1048576) (T : S37 → ByteArray) (hT : okX x = true → TOk T x) :
    Calls Try.prog 38 #[.agg #[.int .i64 x.f0, .int .i64 x.f1, .int .i64 x.f2, .slice A x.f3.length c], .int .i64 mo] w fun e w' => ∃ v : Value, e = .returned (.agg #[.int .i64 (selB (graphB x mo) mo 0), v, .int .i64 0, .int .i64 0, .bool false]) ∧ Kd.S k104 104 w' w.heap.size (fun _ => True) v (selB (graphB x mo) (addT T x [] []).1 []) ∧ Below w.heap.size w w' := by
  obtain ⟨k1, hk1⟩ := Ev.rounds (spec_ExOk_ev x ha)
  have HQ := m0_ hk1
  have HC := m0_ hc
  have HK := m0_ hC
  have HBW := m0_ (Below.refl w.heap.size w)
  have hu1_ := Try.underlying37
  have hu3_ := Try.underlying63
  clear hk1 hc hC
  go_enter Try.func38, Try.ntmps38
  go_wp2_with (first | ((with_reducible refine gate_dst (N := 2) rfl ?_); refine box_event ?hg (N := 2) ?hd (cs := #[.int .i64 x.f0, .int .i64 x.f1, .int .i64 x.f2, .slice A x.f3.length c]) (t := 37) ?hr ?_; (case hd => rfl); (case hg => rfl); (case hr => first | (go_simp; done) | (go_simp; rfl)); intro g2 hg wg2 hbox hb; have G2 := m0_ (by rw [hg]; exact HBW.out.size : w.heap.size ≤ g2); have n0_ := m0_ (below_step HBW.out hb); have n1_ := m0_ (hbox); clear HBW; have HBW := n0_; have BKg2 := n1_; clear n0_ n1_; clear hb hbox hg) | ((with_reducible refine gate_dst (N := 4) rfl ?_); refine box_event ?hg (N := 4) ?hd (cs := #[.int .i64 0, .slice none 0 0, .int .i64 0, .int .i64 0, .bool false]) (t := 63) ?hr ?_; (case hd => rfl); (case hg => rfl); (case hr => first | (go_simp; done) | (go_simp; rfl)); intro g4 hg wg4 hbox hb; have G4 := m0_ (by rw [hg]; exact HBW.out.size : w.heap.size ≤ g4); have n0_ := m0_ ((by rw [hg]; exact Nat.ne_of_lt (blk_lt BKg2.out) : g2 ≠ g4)); have n1_ := m0_ (blk_below BKg2.out hb); have n2_ := m0_ (below_step HBW.out hb); have n3_ := m0_ (hbox); clear BKg2; clear HBW; have N24 := n0_; have BKg2 := n1_; have HBW := n2_; have BKg4 := n3_; clear n0_ n1_ n2_ n3_; clear hb hbox hg; have hz0 := (blk_cell BKg2.out 0).trans (show _ = some (Value.int .i64 x.f0) from rfl); have hz1 := (blk_cell BKg2.out 1).trans (show _ = some (Value.int .i64 x.f1) from rfl); have hz2 := (blk_cell BKg2.out 2).trans (show _ = some (Value.int .i64 x.f2) from rfl); have hz3 := (blk_cell BKg2.out 3).trans (show _ = some (Value.slice A x.f3.length c) from rfl)) | (go_at_call 56; fail))
  clear hz0 hz1 hz2 hz3
  refine (spec_ExOk.calls k1 x.f0 x.f1 x.f2 A c x.f3 (okX x) _ (Kd.C_below HK.out HBW.out) HC.out HQ.out).mono ?_
  rintro e w4 ⟨rfl, hb⟩
  have n0_ := m0_ (blk_below BKg2.out hb)
  have n1_ := m0_ (blk_below BKg4.out hb)
  have n2_ := m0_ (below_step HBW.out hb)
  clear BKg2
  clear BKg4
  clear HBW
  have BKg2 := n0_
  have BKg4 := n1_
  have HBW := n2_
  clear n0_ n1_ n2_
  clear hb
  by_cases ho : okX x = true
  case neg =>
    have ho2 : okX x = false := by simpa using ho
    have HG := m0_ (show graphB x mo = false by unfold graphB; rw [ho2, Bool.false_and])
    rw [ho2]
    go_wp2_with (first | ((with_reducible refine gate_store (t := 63) (p := 4) (v := .tmp 16) rfl ?_); refine store_blk (w0 := w) (base := w.heap.size) (e := 63) (g := g4) (off := 0) (cur := #[.int .i64 0, .slice none 0 0, .int .i64 0, .int .i64 0, .bool false]) (cur' := #[.int .i64 0, .slice none 0 0, .int .i64 0, .int .i64 0, .bool false]) (u := .agg #[.int .i64 0, .slice none 0 0, .int .i64 0, .int .i64 0, .bool false]) (seg := [.int .i64 0, .slice none 0 0, .int .i64 0, .int .i64 0, .bool false]) rfl rfl rfl rfl rfl BKg4.out rfl ?ht ?h1 (by simp) rfl HBW.out G4.out ?_; (case ht => kernel_rfl); (case h1 => intro q hq; simp only [List.mem_cons, List.not_mem_nil, or_false] at hq; first | (subst hq; rfl) | (rcases hq with rfl | rfl | rfl | rfl <;> rfl) | (rcases hq with rfl | rfl | rfl | rfl | rfl <;> rfl) | (rcases hq with rfl | rfl | rfl | rfl | rfl | rfl | rfl | rfl | rfl | rfl <;> rfl)); intro ws_ hs_ hk_ hB_; have n0_ := m0_ (hs_); have n1_ := m0_ (hB_); clear BKg4; clear HBW; have BKg4 := n0_; have HBW := n1_; clear n0_ n1_; clear hs_ hk_ hB_))
    refine bodyPost_ret (results_cell_row rfl _ _ g4 63 #[.int .i64 0, .slice none 0 0, .int .i64 0, .int .i64 0, .bool false] (0, 0) _ rfl BKg4.out Try.underlying63 rfl (by kernel_rfl)) rfl ?_
    rw [HG.out]
    exact ⟨_, rfl, Kd.S_nil _ _ _ _ _, HBW.out⟩
  rw [ho]
  have HO := m0_ ho
  go_wp2_with (go_at_call 55; fail)
  refine (spec_l4Mode.calls mo _ _ (l4Mode_is mo)).mono ?_
  rintro e w5 ⟨rfl, hd⟩
  have hb := hd.below
  have n0_ := m0_ (blk_below BKg2.out hb)
  have n1_ := m0_ (blk_below BKg4.out hb)
  have n2_ := m0_ (below_step HBW.out hb)
  clear BKg2
  clear BKg4
  clear HBW
  have BKg2 := n0_
  have BKg4 := n1_
  have HBW := n2_
  clear n0_ n1_ n2_
  clear hb hd
  by_cases hm : modeB mo = true
  case neg =>
    have hm2 : modeB mo = false := by simpa using hm
    have HG := m0_ (show graphB x mo = false by unfold graphB; rw [hm2, Bool.and_false])
    rw [hm2]
    go_wp2_with (first | ((with_reducible refine gate_store (t := 63) (p := 4) (v := .tmp 16) rfl ?_); refine store_blk (w0 := w) (base := w.heap.size) (e := 63) (g := g4) (off := 0) (cur := #[.int .i64 0, .slice none 0 0, .int .i64 0, .int .i64 0, .bool false]) (cur' := #[.int .i64 0, .slice none 0 0, .int .i64 0, .int .i64 0, .bool false]) (u := .agg #[.int .i64 0, .slice none 0 0, .int .i64 0, .int .i64 0, .bool false]) (seg := [.int .i64 0, .slice none 0 0, .int .i64 0, .int .i64 0, .bool false]) rfl rfl rfl rfl rfl BKg4.out rfl ?ht ?h1 (by simp) rfl HBW.out G4.out ?_; (case ht => kernel_rfl); (case h1 => intro q hq; simp only [List.mem_cons, List.not_mem_nil, or_false] at hq; first | (subst hq; rfl) | (rcases hq with rfl | rfl | rfl | rfl <;> rfl) | (rcases hq with rfl | rfl | rfl | rfl | rfl <;> rfl) | (rcases hq with rfl | rfl | rfl | rfl | rfl | rfl | rfl | rfl | rfl | rfl <;> rfl)); intro ws_ hs_ hk_ hB_; have n0_ := m0_ (hs_); have n1_ := m0_ (hB_); clear BKg4; clear HBW; have BKg4 := n0_; have HBW := n1_; clear n0_ n1_; clear hs_ hk_ hB_))
    refine bodyPost_ret (results_cell_row rfl _ _ g4 63 #[.int .i64 0, .slice none 0 0, .int .i64 0, .int .i64 0, .bool false] (0, 0) _ rfl BKg4.out Try.underlying63 rfl (by kernel_rfl)) rfl ?_
    rw [HG.out]
    exact ⟨_, rfl, Kd.S_nil _ _ _ _ _, HBW.out⟩
  have HG := m0_ (show graphB x mo = true by unfold graphB; rw [HO.out, hm]; rfl)
  rw [hm]
  have HM12 := m0_ (show allY x + 1 ≤ 1000 by have a_ := manyY_all x; have b_ := HO.out; unfold okX at b_; simp only [Bool.and_eq_true, decide_eq_true_eq] at b_; omega)
  clear ha
  have hz0 := (blk_cell BKg2.out 0).trans (show _ = some (Value.int .i64 x.f0) from rfl)
  have hz1 := (blk_cell BKg2.out 1).trans (show _ = some (Value.int .i64 x.f1) from rfl)
  have hz2 := (blk_cell BKg2.out 2).trans (show _ = some (Value.int .i64 x.f2) from rfl)
  have hz3 := (blk_cell BKg2.out 3).trans (show _ = some (Value.slice A x.f3.length c) from rfl)
  go_wp2_with (go_at_call 71; fail)
  clear hz0 hz1 hz2 hz3
  refine (l7_walk T mo w x A c _ (fun _ => False) (.slice none 0 0) (.slice none 0 0) [] [] (hT HO.out) HC.out HK.out (Kd.S_nil _ _ _ _ _) (Kd.R_nil _ _ _ _ _) HBW.out (by have a_ := HM12.out; simp only [List.length_nil]; omega) (by have a_ := HM12.out; simp only [List.length_nil]; omega)).mono ?_
  rintro e w6 ⟨v, vt, rfl, hs, ht, hto, hb, hk⟩
  obtain ⟨AV, cV, eV⟩ := Kd.S_slice hs
  subst eV
  obtain ⟨AT, cT, eT⟩ := Kd.R_slice ht
  subst eT
  have n0_ := m0_ (blk_kept BKg4.out hk (fun q => q.elim (fun q => q) (fun q => by simp [Value.ownBlock] at q)))
  have HSN := m0_ (Kd.S_mono (ok' := fun k => k ≠ g4) hs (fun k hk2 => by have a_ := blk_lt BKg4.out; rcases hk2 with q | q; exact q.elim; omega))
  clear BKg4 HBW BKg2 hs ht hto hk
  have BKg4 := n0_
  have HBW := m0_ hb
  clear n0_ hb
  go_wp2_with (first | ((with_reducible refine gate_dst (N := 5) rfl ?_); refine box_event ?hg (N := 5) ?hd (cs := #[.int .i64 0, .slice none 0 0, .int .i64 0, .int .i64 0, .bool false]) (t := 63) ?hr ?_; (case hd => rfl); (case hg => rfl); (case hr => first | (go_simp; done) | (go_simp; rfl)); intro g5 hg wg5 hbox hb; skip; have n0_ := m0_ ((by rw [hg]; exact Nat.ne_of_lt (blk_lt BKg4.out) : g4 ≠ g5)); have n1_ := m0_ ((by rw [hg]; exact HBW.out.size : w.heap.size ≤ g5)); have n2_ := m0_ (blk_below BKg4.out hb); have n3_ := m0_ (Kd.S_mono (ok' := fun k => k ≠ g4 ∧ k ≠ g5) (Kd.S_below (Kd.S_bound HSN.out) hb) (fun k hk => ⟨hk.1, by have a_ := hk.2.2.1; omega⟩)); have n4_ := m0_ (below_step HBW.out hb); have n5_ := m0_ (hbox); clear BKg4; clear HSN; clear HBW; have N45 := n0_; have G5 := n1_; have BKg4 := n2_; have HSN := n3_; have HBW := n4_; have BKg5 := n5_; clear n0_ n1_ n2_ n3_ n4_ n5_; clear hb hbox hg) | ((with_reducible refine gate_store (t := 63) (p := 5) (v := .tmp 22) rfl ?_); refine store_blk (w0 := w) (base := w.heap.size) (e := 63) (g := g5) (off := 0) (cur := #[.int .i64 0, .slice none 0 0, .int .i64 0, .int .i64 0, .bool false]) (cur' := #[.int .i64 mo, .slice AV (addT T x [] []).1.length cV, .int .i64 0, .int .i64 0, .bool false]) (u := .agg #[.int .i64 mo, .slice AV (addT T x [] []).1.length cV, .int .i64 0, .int .i64 0, .bool false]) (seg := [.int .i64 mo, .slice AV (addT T x [] []).1.length cV, .int .i64 0, .int .i64 0, .bool false]) rfl rfl rfl rfl rfl BKg5.out rfl ?ht ?h1 (by simp) rfl HBW.out G5.out ?_; (case ht => kernel_rfl); (case h1 => intro q hq; simp only [List.mem_cons, List.not_mem_nil, or_false] at hq; first | (subst hq; rfl) | (rcases hq with rfl | rfl | rfl | rfl <;> rfl) | (rcases hq with rfl | rfl | rfl | rfl | rfl <;> rfl) | (rcases hq with rfl | rfl | rfl | rfl | rfl | rfl | rfl | rfl | rfl | rfl <;> rfl)); intro ws_ hs_ hk_ hB_; have n0_ := m0_ (hs_); have n1_ := m0_ (blk_keep BKg4.out hk_ N45.out); have n2_ := m0_ (Kd.S_keep HSN.out hk_ (fun k hk => hk.2)); have n3_ := m0_ (hB_); clear BKg5; clear BKg4; clear HSN; clear HBW; have BKg5 := n0_; have BKg4 := n1_; have HSN := n2_; have HBW := n3_; clear n0_ n1_ n2_ n3_; clear hs_ hk_ hB_; have hz0 := (blk_cell BKg5.out 0).trans (show _ = some (Value.int .i64 mo) from rfl); have hz1 := (blk_cell BKg5.out 1).trans (show _ = some (Value.slice AV (addT T x [] []).1.length cV) from rfl); have hz2 := (blk_cell BKg5.out 2).trans (show _ = some (Value.int .i64 0) from rfl); have hz3 := (blk_cell BKg5.out 3).trans (show _ = some (Value.int .i64 0) from rfl); have hz4 := (blk_cell BKg5.out 4).trans (show _ = some (Value.bool false) from rfl)) | ((with_reducible refine gate_store (t := 63) (p := 4) (v := .tmp 25) rfl ?_); refine store_blk (w0 := w) (base := w.heap.size) (e := 63) (g := g4) (off := 0) (cur := #[.int .i64 0, .slice none 0 0, .int .i64 0, .int .i64 0, .bool false]) (cur' := #[.int .i64 mo, .slice AV (addT T x [] []).1.length cV, .int .i64 0, .int .i64 0, .bool false]) (u := .agg #[.int .i64 mo, .slice AV (addT T x [] []).1.length cV, .int .i64 0, .int .i64 0, .bool false]) (seg := [.int .i64 mo, .slice AV (addT T x [] []).1.length cV, .int .i64 0, .int .i64 0, .bool false]) rfl rfl rfl rfl rfl BKg4.out rfl ?ht ?h1 (by simp) rfl HBW.out G4.out ?_; (case ht => kernel_rfl); (case h1 => intro q hq; simp only [List.mem_cons, List.not_mem_nil, or_false] at hq; first | (subst hq; rfl) | (rcases hq with rfl | rfl | rfl | rfl <;> rfl) | (rcases hq with rfl | rfl | rfl | rfl | rfl <;> rfl) | (rcases hq with rfl | rfl | rfl | rfl | rfl | rfl | rfl | rfl | rfl | rfl <;> rfl)); intro ws_ hs_ hk_ hB_; have n9_ := m0_ (Kd.S_keep HSN.out hk_ (fun k hk => hk.1)); clear HSN; have HSN := n9_; clear n9_; have n0_ := m0_ (hs_); have n1_ := m0_ (hB_); clear BKg4; clear HBW; have BKg4 := n0_; have HBW := n1_; clear n0_ n1_; clear hs_ hk_ hB_))
  refine bodyPost_ret (results_cell_row rfl _ _ g4 63 #[.int .i64 mo, .slice AV (addT T x [] []).1.length cV, .int .i64 0, .int .i64 0, .bool false] (0, 0) _ rfl BKg4.out Try.underlying63 rfl (by kernel_rfl)) rfl ?_
  rw [HG.out]
  exact ⟨_, rfl, Kd.S_mono HSN.out (fun _ _ => trivial), HBW.out⟩
end Go.Proofs.Ytdljhokealbnnaa.M
namespace Go.Proofs.Ytdljhokealbnnaa.M
set_option linter.unusedVariables false
set_option linter.unusedSimpArgs false
open Go Go.RowKit Go.Proofs.YtdljhokealbnnaaW.PrintWords Go.Proofs.YtdljhokealbnnaaW.PrintLast

theorem idxN_spec (n0 n1 n2 : Int) (ks : List Int) : ∀ (ns : List S104) (i : Nat), (idxN n0 n1 n2 ks ns (i : Int) = -1 ∧ ∀ n ∈ ns, sameN n n0 n1 n2 ks = false) ∨ ∃ (j : Nat) (n : S104), ns[j]? = some n ∧ sameN n n0 n1 n2 ks = true ∧ idxN n0 n1 n2 ks ns (i : Int) = ((i + j : Nat) : Int)
  | [], i => .inl ⟨rfl, fun n hn => by simp at hn⟩
  | m :: ms, i => by
    rw [idxN]
    by_cases h : sameN m n0 n1 n2 ks = true
    · rw [if_pos h]
      exact .inr ⟨0, m, rfl, h, rfl⟩
    rw [if_neg h]
    rcases idxN_spec n0 n1 n2 ks ms (i + 1) with ⟨q, q2⟩ | ⟨j, n, q, q2, q3⟩
    · refine .inl ⟨q, fun n hn => ?_⟩
      rcases List.mem_cons.1 hn with rfl | hn
      · simpa using h
      · exact q2 n hn
    · refine .inr ⟨j + 1, n, by rw [List.getElem?_cons_succ]; exact q, q2, ?_⟩
      have e : ((i : Int) + 1) = ((i + 1 : Nat) : Int) := by omega
      rw [e, q3]
      omega
theorem idxT_spec (s : ByteArray) : ∀ (ts : List ByteArray) (i : Nat), (idxT s ts (i : Int) = -1 ∧ ∀ t ∈ ts, t.toList ≠ s.toList) ∨ ∃ (j : Nat) (t : ByteArray), ts[j]? = some t ∧ t.toList = s.toList ∧ idxT s ts (i : Int) = ((i + j : Nat) : Int)
  | [], i => .inl ⟨rfl, fun n hn => by simp at hn⟩
  | m :: ms, i => by
    rw [idxT]
    by_cases h : m.toList = s.toList
    · rw [if_pos h]
      exact .inr ⟨0, m, rfl, h, rfl⟩
    rw [if_neg h]
    rcases idxT_spec s ms (i + 1) with ⟨q, q2⟩ | ⟨j, n, q, q2, q3⟩
    · refine .inl ⟨q, fun n hn => ?_⟩
      rcases List.mem_cons.1 hn with rfl | hn
      · exact h
      · exact q2 n hn
    · refine .inr ⟨j + 1, n, by rw [List.getElem?_cons_succ]; exact q, q2, ?_⟩
      have e : ((i : Int) + 1) = ((i + 1 : Nat) : Int) := by omega
      rw [e, q3]
      omega
theorem sameN_iff {m : S104} {n0 n1 n2 : Int} {ks : List Int} : sameN m n0 n1 n2 ks = true ↔ m.f0 = n0 ∧ m.f1 = n1 ∧ m.f2 = n2 ∧ m.f3 = ks := by
  unfold sameN
  simp only [Bool.and_eq_true, decide_eq_true_eq]
theorem kid_size {x y : S37} (h : y ∈ x.f3) : SizeOf.sizeOf y < SizeOf.sizeOf x := by
  have := List.sizeOf_lt_of_mem h
  cases x
  simp at *
  omega
def KidsAt (es : List S37) : List Int → List S37 → Prop
  | [], [] => True
  | k :: ks, x :: xs => (∃ p : Nat, k = (p : Int) ∧ es[p]? = some x) ∧ KidsAt es ks xs
  | _, _ => False
section
variable {es : List S37}
theorem KidsAt.mono (t : List S37) : ∀ {ks : List Int} {xs : List S37}, KidsAt es ks xs → KidsAt (es ++ t) ks xs
  | [], [], h => h
  | k :: ks, x :: xs, ⟨⟨p, h1, h2⟩, h3⟩ => by
    refine ⟨⟨p, h1, ?_⟩, KidsAt.mono t h3⟩
    have hp : p < es.length := by
      rcases Nat.lt_or_ge p es.length with q | q
      · exact q
      · rw [List.getElem?_eq_none q] at h2; cases h2
    rw [List.getElem?_append_left hp]
    exact h2
  | [], _ :: _, h => h.elim
  | _ :: _, [], h => h.elim
theorem KidsAt.snoc {k : Int} {x : S37} (hp : ∃ p : Nat, k = (p : Int) ∧ es[p]? = some x) : ∀ {ks : List Int} {xs : List S37}, KidsAt es ks xs → KidsAt es (ks ++ [k]) (xs ++ [x])
  | [], [], _ => ⟨hp, trivial⟩
  | _ :: _, _ :: _, ⟨h1, h2⟩ => ⟨h1, KidsAt.snoc hp h2⟩
  | [], _ :: _, h => h.elim
  | _ :: _, [], h => h.elim
theorem at_uniq (hn : es.Nodup) {p q : Nat} {x : S37} (h1 : es[p]? = some x) (h2 : es[q]? = some x) : p = q := by
  obtain ⟨hp, e1⟩ := List.getElem?_eq_some_iff.1 h1
  obtain ⟨hq, e2⟩ := List.getElem?_eq_some_iff.1 h2
  have pw := List.pairwise_iff_getElem.1 hn
  rcases Nat.lt_trichotomy p q with h | h | h
  · exact absurd (e1.trans e2.symm) (pw p q hp hq h)
  · exact h
  · exact absurd (e2.trans e1.symm) (pw q p hq hp h)
theorem KidsAt.uniq (hn : es.Nodup) : ∀ {ks ks' : List Int} {xs : List S37}, KidsAt es ks xs → KidsAt es ks' xs → ks = ks'
  | [], [], [], _, _ => rfl
  | k :: ks, k' :: ks', x :: xs, ⟨⟨p, e1, h1⟩, h2⟩, ⟨⟨q, e3, h3⟩, h4⟩ => by
    rw [e1, e3, at_uniq hn h1 h3, KidsAt.uniq hn h2 h4]
  | [], _ :: _, [], _, h => h.elim
  | _ :: _, _, [], h, _ => h.elim
  | [], _, _ :: _, h, _ => h.elim
  | _ :: _, [], _ :: _, _, h => h.elim
theorem KidsAt.inj : ∀ {ks : List Int} {xs ys : List S37}, KidsAt es ks xs → KidsAt es ks ys → xs = ys
  | [], [], [], _, _ => rfl
  | k :: ks, x :: xs, y :: ys, ⟨⟨p, e1, h1⟩, h2⟩, ⟨⟨q, e3, h3⟩, h4⟩ => by
    have : p = q := by omega
    subst this
    rw [h1] at h3
    rw [Option.some.inj h3, KidsAt.inj h2 h4]
  | [], [], _ :: _, _, h => h.elim
  | [], _ :: _, _, h, _ => h.elim
  | _ :: _, [], _, h, _ => h.elim
  | _ :: _, _ :: _, [], _, h => h.elim
theorem KidsAt.mem : ∀ {ks : List Int} {xs : List S37}, KidsAt es ks xs → ∀ x ∈ xs, x ∈ es
  | [], [], _, x, h => by simp at h
  | k :: ks, y :: ys, ⟨⟨p, _, h1⟩, h2⟩, x, h => by
    rcases List.mem_cons.1 h with rfl | h
    · exact List.mem_of_getElem? h1
    · exact KidsAt.mem h2 x h
  | [], _ :: _, h, _, _ => h.elim
  | _ :: _, [], h, _, _ => h.elim
end
structure GInv (es : List S37) (ns : List S104) : Prop where
  len : ns.length = es.length
  nodup : es.Nodup
  node : ∀ (i : Nat) (e : S37), es[i]? = some e → ∃ n : S104, ns[i]? = some n ∧ n.f0 = e.f0 ∧ n.f1 = e.f1 ∧ n.f2 = e.f2 ∧ KidsAt es n.f3 e.f3
theorem GInv.closed {es : List S37} {ns : List S104} (h : GInv es ns) {x : S37} (hx : x ∈ es) : ∀ y ∈ x.f3, y ∈ es := by
  obtain ⟨i, hi, e⟩ := List.getElem_of_mem hx
  obtain ⟨n, _, _, _, _, hk⟩ := h.node i x (by rw [List.getElem?_eq_getElem hi, e])
  exact hk.mem
theorem GInv.nil : GInv [] [] := ⟨rfl, List.nodup_nil, fun i e h => by simp at h⟩
section
variable (T : S37 → ByteArray) (Fm : S37 → Prop)
def AddOk (x : S37) : Prop := ∀ (es : List S37) (ns : List S104), GInv es ns → (∀ e ∈ es, Fm e) → Fm x →
  ∃ t : List S37, GInv (es ++ t) (addX x ns).1 ∧ (∃ p : Nat, (addX x ns).2 = (p : Int) ∧ (es ++ t)[p]? = some x) ∧ (x ∈ es → t = [] ∧ (addX x ns).1 = ns) ∧ (∀ y ∈ t, Fm y ∧ SizeOf.sizeOf y ≤ SizeOf.sizeOf x) ∧ addT T x ns (es.map T) = ((addX x ns).1, (es ++ t).map T, (addX x ns).2)
theorem addL_ok : ∀ (l : List S37), (∀ x ∈ l, AddOk T Fm x) → (∀ x ∈ l, Fm x) → ∀ (es : List S37) (ns : List S104) (ks : List Int) (xs : List S37), GInv es ns → (∀ e ∈ es, Fm e) → KidsAt es ks xs →
    ∃ t : List S37, GInv (es ++ t) (addL l ns ks).1 ∧ KidsAt (es ++ t) (addL l ns ks).2 (xs ++ l) ∧ ((∀ x ∈ l, x ∈ es) → t = [] ∧ (addL l ns ks).1 = ns) ∧ (∀ y ∈ t, Fm y ∧ ∃ x ∈ l, SizeOf.sizeOf y ≤ SizeOf.sizeOf x) ∧ addTL T l ns (es.map T) ks = ((addL l ns ks).1, (es ++ t).map T, (addL l ns ks).2)
  | [], _, _, es, ns, ks, xs, hi, hf, hk => ⟨[], by rw [List.append_nil, addL_nil]; exact hi, by rw [List.append_nil, List.append_nil, addL_nil]; exact hk, fun _ => ⟨rfl, by rw [addL_nil]⟩, fun y hy => by simp at hy, by rw [addL_nil, addTL_nil, List.append_nil]⟩
  | x :: l, ha, hfm, es, ns, ks, xs, hi, hf, hk => by
    obtain ⟨t1, i1, ⟨p, hp, hp2⟩, k1, s1, e1⟩ := ha x (by simp) es ns hi hf (hfm x (by simp))
    obtain ⟨t2, i2, q2, k2, s2, e2⟩ := addL_ok l (fun y hy => ha y (by simp [hy])) (fun y hy => hfm y (by simp [hy])) (es ++ t1) (addX x ns).1 (ks ++ [(addX x ns).2]) (xs ++ [x]) i1 (fun e he => by rcases List.mem_append.1 he with he | he; exact hf e he; exact (s1 e he).1) (KidsAt.snoc ⟨p, hp, hp2⟩ (hk.mono t1))
    rw [List.append_assoc] at i2 q2 e2
    rw [List.append_assoc xs] at q2
    refine ⟨t1 ++ t2, ?_, ?_, fun hm => ?_, fun y hy => ?_, ?_⟩
    · rw [addL_cons]; exact i2
    · rw [addL_cons]; exact q2
    · obtain ⟨g1, g2⟩ := k1 (hm x (by simp))
      obtain ⟨g3, g4⟩ := k2 (fun y hy => by rw [g1, List.append_nil]; exact hm y (by simp [hy]))
      exact ⟨by rw [g1, g3]; rfl, by rw [addL_cons, g4, g2]⟩
    · rcases List.mem_append.1 hy with hy | hy
      · exact ⟨(s1 y hy).1, x, by simp, (s1 y hy).2⟩
      · obtain ⟨g1, z, hz, g2⟩ := s2 y hy
        exact ⟨g1, z, by simp [hz], g2⟩
    · rw [addTL_cons, addL_cons, e1]
      exact e2
theorem add_ok (hinj : ∀ a b, Fm a → Fm b → T a = T b → a = b) (hkid : ∀ x, Fm x → ∀ y ∈ x.f3, Fm y) : ∀ x, AddOk T Fm x := by
  refine indI (fun x ih es ns hi hf hx => ?_)
  have binj : ∀ a b : S37, Fm a → Fm b → (T a).toList = (T b).toList → a = b := by
    intro a b ha hb h
    refine hinj a b ha hb ?_
    rw [ByteArray.toList_eq, ByteArray.toList_eq] at h
    generalize T a = u at *
    generalize T b = v at *
    cases u
    cases v
    simp only [Array.toList_inj] at h
    rw [h]
  obtain ⟨t, i1, k1, n1, s1, e1⟩ := addL_ok T Fm x.f3 ih (hkid x hx) es ns [] [] hi hf trivial
  rw [List.nil_append] at k1
  have hlt : ∀ y ∈ t, SizeOf.sizeOf y < SizeOf.sizeOf x := fun y hy => by
    obtain ⟨_, z, hz, h⟩ := s1 y hy
    have := kid_size hz
    omega
  have hnot : x ∉ t := fun h => by have := hlt x h; omega
  have hadd : addX x ns = putN x.f0 x.f1 x.f2 (addL x.f3 ns []) := addX_is x ns
  generalize hr : addL x.f3 ns [] = r at *
  rcases idxN_spec x.f0 x.f1 x.f2 r.2 r.1 0 with ⟨q, q2⟩ | ⟨j, n, q, q2, q3⟩
  rotate_left
  · -- found
    have q3' : idxN x.f0 x.f1 x.f2 r.2 r.1 0 = (j : Int) := by rw [show idxN x.f0 x.f1 x.f2 r.2 r.1 0 = ((0 + j : Nat) : Int) from q3, Nat.zero_add]
    have hj : j < (es ++ t).length := by
      obtain ⟨h, _⟩ := List.getElem?_eq_some_iff.1 q
      rw [i1.len] at h
      exact h
    obtain ⟨n', h1, h2, h3, h4, h5⟩ := i1.node j (es ++ t)[j] (List.getElem?_eq_getElem hj)
    rw [q] at h1
    obtain rfl := Option.some.inj h1
    obtain ⟨g1, g2, g3, g4⟩ := sameN_iff.1 q2
    rw [g4] at h5
    have hk3 := KidsAt.inj h5 k1
    have hxe : (es ++ t)[j] = x := by
      rw [← eta_E x, ← eta_E (es ++ t)[j], hk3, ← h2, ← h3, ← h4, g1, g2, g3]
    have hat : (es ++ t)[j]? = some x := by rw [List.getElem?_eq_getElem hj, hxe]
    have hxm : x ∈ es := by
      rcases List.mem_append.1 (List.mem_of_getElem? hat) with h | h
      · exact h
      · exact absurd h hnot
    obtain ⟨ht, hn⟩ := n1 (hi.closed hxm)
    have hput : addX x ns = (r.1, (j : Int)) := by
      rw [hadd]
      unfold putN
      rw [q3', if_neg (by omega)]
    subst ht
    rw [List.append_nil] at hat i1
    refine ⟨[], by rw [hput, List.append_nil]; exact i1, ⟨j, by rw [hput], by rw [List.append_nil]; exact hat⟩, fun _ => ⟨rfl, by rw [hput]; exact hn⟩, fun y hy => by simp at hy, ?_⟩
    rw [addT_is, hput, List.append_nil]
    rcases idxT_spec (T x) (es.map T) 0 with ⟨_, g⟩ | ⟨j2, s, g5, g6, g7⟩
    · exact absurd rfl (g (T x) (List.mem_map.2 ⟨x, hxm, rfl⟩))
    · rw [List.getElem?_map] at g5
      obtain ⟨e, he, rfl⟩ := Option.map_eq_some_iff.1 g5
      have := binj e x (hf e (List.mem_of_getElem? he)) hx g6
      subst this
      have hjj := at_uniq hi.nodup he hat
      subst hjj
      rw [show idxT (T e) (es.map T) 0 = ((0 + j2 : Nat) : Int) from g7, Nat.zero_add, if_pos (by omega), hn]
  -- not found: it is new
  have hne : x ∉ es ++ t := by
    intro h
    obtain ⟨i, hi2, e⟩ := List.getElem_of_mem h
    obtain ⟨n, hn1, hn2, hn3, hn4, hn5⟩ := i1.node i x (by rw [List.getElem?_eq_getElem hi2, e])
    have := q2 n (List.mem_of_getElem? hn1)
    rw [sameN_iff.2 ⟨hn2, hn3, hn4, KidsAt.uniq i1.nodup hn5 k1⟩] at this
    cases this
  have hput : addX x ns = (r.1 ++ [mkN x.f0 x.f1 x.f2 r.2], (r.1.length : Int)) := by
    rw [hadd]
    unfold putN
    rw [show idxN x.f0 x.f1 x.f2 r.2 r.1 0 = -1 from q, if_pos (by omega)]
  refine ⟨t ++ [x], ?_, ?_, fun h => absurd (List.mem_append.2 (.inl h)) hne, fun y hy => ?_, ?_⟩
  · rw [hput, ← List.append_assoc]
    refine ⟨by rw [List.length_append, List.length_append, i1.len]; rfl, ?_, fun i e he => ?_⟩
    · rw [List.nodup_append]
      refine ⟨i1.nodup, by simp, fun a ha b hb => ?_⟩
      rw [List.mem_singleton.1 hb]
      rintro rfl
      exact hne ha
    rcases Nat.lt_or_ge i (es ++ t).length with hl | hl
    · rw [List.getElem?_append_left hl] at he
      obtain ⟨n, h1, h2, h3, h4, h5⟩ := i1.node i e he
      exact ⟨n, by rw [List.getElem?_append_left (by rw [i1.len]; exact hl)]; exact h1, h2, h3, h4, h5.mono _⟩
    rw [List.getElem?_append_right hl] at he
    have hz : i - (es ++ t).length = 0 := by
      rcases Nat.eq_zero_or_pos (i - (es ++ t).length) with h0 | h0
      · exact h0
      · rw [List.getElem?_eq_none (by rw [List.length_singleton]; omega)] at he; cases he
    rw [hz] at he
    have hex : x = e := by simpa using he
    subst hex
    exact ⟨mkN x.f0 x.f1 x.f2 r.2, by rw [List.getElem?_append_right (by rw [i1.len]; exact hl), i1.len, hz]; rfl, rfl, rfl, rfl, k1.mono _⟩
  · refine ⟨r.1.length, by rw [hput], ?_⟩
    rw [← List.append_assoc, i1.len, List.getElem?_append_right (Nat.le_refl _), Nat.sub_self]
    rfl
  · rcases List.mem_append.1 hy with hy | hy
    · exact ⟨(s1 y hy).1, Nat.le_of_lt (hlt y hy)⟩
    · rw [List.mem_singleton.1 hy]
      exact ⟨hx, Nat.le_refl _⟩
  have hT : ¬ 0 ≤ idxT (T x) (es.map T) 0 := by
    rcases idxT_spec (T x) (es.map T) 0 with ⟨g, _⟩ | ⟨j, s, g1, g2, _⟩
    · rw [show idxT (T x) (es.map T) 0 = -1 from g]; omega
    exfalso
    obtain ⟨e, he, rfl⟩ := List.mem_map.1 (List.mem_of_getElem? g1)
    have := binj e x (hf e he) hx g2
    subst this
    exact hne (List.mem_append.2 (.inl he))
  rw [addT_is, if_neg hT, e1, hput, ← List.append_assoc]
  simp only [List.map_append, List.map_cons, List.map_nil]
end
end Go.Proofs.Ytdljhokealbnnaa.M
namespace Go.Proofs.Ytdljhokealbnnaa.M
set_option linter.unusedVariables false
set_option linter.unusedSimpArgs false
open Go.RowKit Go.Proofs.YtdljhokealbnnaaW.PrintWords Go.Proofs.YtdljhokealbnnaaW.PrintLast

def itoaB (a : Int) : ByteArray := ⟨(Lib.itoa a).toArray⟩
end Go.Proofs.Ytdljhokealbnnaa.M
