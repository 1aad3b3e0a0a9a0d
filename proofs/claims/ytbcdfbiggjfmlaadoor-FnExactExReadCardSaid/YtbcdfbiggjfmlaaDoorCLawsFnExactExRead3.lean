/- What the claim's law leans on: the program's functions, what they compute, and the law over plain values; no condition is asked. (Part 3 of 3.) -/
import Derived.Test.YtbcdfbiggjfmlaaDoorCLawsFnExactExRead2
import Derived.Lib.ItoaNum
import Derived.Lib.SplitLaws
import Derived.Lib.IndexLaws
import Derived.Lib.CutLaws
import Derived.Lib.AtoiAll
namespace Go.Proofs.YtbcdfbiggjfmlaaDoor.M
open Go.RowKit Go.Proofs.YtbcdfbiggjfmlaaDoorW.PrintWords Go.Proofs.YtbcdfbiggjfmlaaDoorW.PrintLast Go.Proofs.YtbcdfbiggjfmlaaDoorW.PrintMore
attribute [local go_sem] max2_int min2_int max_two min_two max_three min_three max_four min_four
set_option linter.unusedVariables false
set_option linter.unusedSimpArgs false

noncomputable def impl_ExRead.f (k : Nat) (a0 : ByteArray) : Option (Int × Int × Int × List S29 × Bool) := if 300 < a0.size ∨ a0.size = 0 then some (0, 0, 0, [], false) else (impl_ExText.f k (exT a0).f0 (exT a0).f1 (exT a0).f2 (exT a0).f3).bind fun t => if t.toList = a0.toList then some ((exT a0).f0, (exT a0).f1, (exT a0).f2, (exT a0).f3, true) else some (0, 0, 0, [], false)
set_option maxHeartbeats 4000000 in
set_option maxRecDepth 100000 in
theorem ExRead_walk (k : Nat) (a0 : ByteArray) (r1 : Int) (r2 : Int) (r3 : Int) (r4 : List (S29)) (r5 : Bool) (w : World) (h : impl_ExRead.f k a0 = some (r1, r2, r3, r4, r5)) (ht : TabX w) (hr : TabR w) :
  Calls Tryd.prog 22 #[.string a0] w fun e w' => ∃ v3_ : Value, e = .returned (.tuple #[.agg #[.int .i64 r1, .int .i64 r2, .int .i64 r3, v3_], .bool r5]) ∧ SR w' w.heap.size (fun k_ => w.heap.size ≤ k_) v3_ r4 ∧ Below w.heap.size w w' := by
 unfold impl_ExRead.f at h
 have HT := m0_ ht
 have HR := m0_ hr
 have HB := m0_ (Below.refl w.heap.size w)
 have hu1_ := Tryd.underlying29
 have hu2_ := Tryd.underlying69
 clear ht hr
 go_enter Tryd.func22, Tryd.ntmps22
 by_cases c : 300 < a0.size ∨ a0.size = 0
 ·rw [if_pos c] at h
  simp only [Option.some.injEq, Prod.mk.injEq] at h
  obtain ⟨rfl, rfl, rfl, rfl, rfl⟩ := h
  by_cases c1 : (a0.size : Int) > 300
  ·have c1b : decide ((a0.size : Int) > 300) = true := decide_eq_true c1
   go_wp2_with (first | ((with_reducible refine gate_dst (N := 2) rfl ?_);refine box_event ?hg (N := 2) ?hd (cs := #[.int .i64 0, .int .i64 0, .int .i64 0, .slice none 0 0]) (t := 29) ?hr ?_;(case hd => rfl);(case hg => rfl);(case hr => first | (go_simp;done) | (go_simp;rfl));intro gb2 hg wb2 hbox hb;have GW2 := m0_ (show w.heap.size ≤ gb2 from by rw [hg];exact below_size HB.out);replace HB := m0_ (below_step HB.out hb);have BK2 := m0_ (hbox);clear hb hbox hg) | ((with_reducible refine gate_store (t := 29) (p := 2) (v := .tmp 13) rfl ?_);refine store_blk (w0 := w) (base := w.heap.size) (e := 29) (g := gb2) (off := 0) (cur := #[.int .i64 0, .int .i64 0, .int .i64 0, .slice none 0 0]) (cur' := #[.int .i64 0, .int .i64 0, .int .i64 0, .slice none 0 0]) (u := .agg #[.int .i64 0, .int .i64 0, .int .i64 0, .slice none 0 0]) (seg := [.int .i64 0, .int .i64 0, .int .i64 0, .slice none 0 0]) rfl rfl rfl rfl rfl BK2.out rfl ?ht ?h1 (by simp) rfl HB.out GW2.out ?_;(case ht => kernel_rfl);(case h1 => intro q hq;simp only [List.mem_cons, List.not_mem_nil, or_false] at hq;rcases hq with rfl | rfl | rfl | rfl <;> rfl);intro ws_ hs_ hk_ hB_;have n0_ := m0_ (hs_);have n1_ := m0_ (hB_);clear BK2 HB;have BK2 := n0_;have HB := n1_;clear n0_ n1_;clear hs_ hk_ hB_))
   refine bodyPost_ret (results_ct rfl _ _ gb2 29 #[.int .i64 0, .int .i64 0, .int .i64 0, .slice none 0 0] (0, 0) _ rfl BK2.out Tryd.underlying29 rfl (by kernel_rfl)) rfl ?_
   exact ⟨_, rfl, SR.nil _ _ _, HB.out⟩
  have c1b : decide ((a0.size : Int) > 300) = false := decide_eq_false c1
  have c2 : a0 = (⟨#[]⟩ : ByteArray) := by
   have q : a0.size = 0 := by omega
   obtain ⟨⟨l⟩⟩ := a0
   match l, q with
   | [], _ => rfl
  subst c2
  have c2b : ((⟨#[]⟩ : ByteArray).toList == (⟨#[]⟩ : ByteArray).toList) = true := beq_self_eq_true _
  go_wp2_with (first | ((with_reducible refine gate_dst (N := 2) rfl ?_);refine box_event ?hg (N := 2) ?hd (cs := #[.int .i64 0, .int .i64 0, .int .i64 0, .slice none 0 0]) (t := 29) ?hr ?_;(case hd => rfl);(case hg => rfl);(case hr => first | (go_simp;done) | (go_simp;rfl));intro gb2 hg wb2 hbox hb;have GW2 := m0_ (show w.heap.size ≤ gb2 from by rw [hg];exact below_size HB.out);replace HB := m0_ (below_step HB.out hb);have BK2 := m0_ (hbox);clear hb hbox hg) | ((with_reducible refine gate_store (t := 29) (p := 2) (v := .tmp 13) rfl ?_);refine store_blk (w0 := w) (base := w.heap.size) (e := 29) (g := gb2) (off := 0) (cur := #[.int .i64 0, .int .i64 0, .int .i64 0, .slice none 0 0]) (cur' := #[.int .i64 0, .int .i64 0, .int .i64 0, .slice none 0 0]) (u := .agg #[.int .i64 0, .int .i64 0, .int .i64 0, .slice none 0 0]) (seg := [.int .i64 0, .int .i64 0, .int .i64 0, .slice none 0 0]) rfl rfl rfl rfl rfl BK2.out rfl ?ht ?h1 (by simp) rfl HB.out GW2.out ?_;(case ht => kernel_rfl);(case h1 => intro q hq;simp only [List.mem_cons, List.not_mem_nil, or_false] at hq;rcases hq with rfl | rfl | rfl | rfl <;> rfl);intro ws_ hs_ hk_ hB_;have n0_ := m0_ (hs_);have n1_ := m0_ (hB_);clear BK2 HB;have BK2 := n0_;have HB := n1_;clear n0_ n1_;clear hs_ hk_ hB_))
  refine bodyPost_ret (results_ct rfl _ _ gb2 29 #[.int .i64 0, .int .i64 0, .int .i64 0, .slice none 0 0] (0, 0) _ rfl BK2.out Tryd.underlying29 rfl (by kernel_rfl)) rfl ?_
  exact ⟨_, rfl, SR.nil _ _ _, HB.out⟩
 rw [if_neg c] at h
 obtain ⟨t, ht_, h_⟩ := Option.bind_eq_some_iff.1 h
 clear h
 have HTX := m0_ ht_
 have HH := m0_ h_
 clear ht_ h_
 have c1b : decide ((a0.size : Int) > 300) = false := decide_eq_false (by omega)
 have c2b : (a0.toList == (⟨#[]⟩ : ByteArray).toList) = false := by
  refine beq_eq_false_iff_ne.2 (fun e => c (.inr ?_))
  rw [ByteArray.toList_eq, ByteArray.toList_eq] at e
  have q := congrArg List.length e
  rw [Array.length_toList] at q
  exact q
 have c2c : (a0.toList == []) = false := by rw [← c2b];rw [ByteArray.toList_eq ⟨#[]⟩]
 have c2d : ¬ a0.toList = [] := beq_eq_false_iff_ne.1 c2c
 have HS300 := m0_ (show a0.size ≤ 300 by omega)
 clear c
 go_wp2_with (first | ((with_reducible refine gate_dst (N := 2) rfl ?_);refine box_event ?hg (N := 2) ?hd (cs := #[.int .i64 0, .int .i64 0, .int .i64 0, .slice none 0 0]) (t := 29) ?hr ?_;(case hd => rfl);(case hg => rfl);(case hr => first | (go_simp;done) | (go_simp;rfl));intro gb2 hg wb2 hbox hb;have GW2 := m0_ (show w.heap.size ≤ gb2 from by rw [hg];exact below_size HB.out);replace HB := m0_ (below_step HB.out hb);have BK2 := m0_ (hbox);clear hb hbox hg) | ((with_reducible refine gate_callee (f := 44) rfl ?_);obtain ⟨mx, hmx⟩ := (TabR.below HR.out HB.out).2.2;refine goesL_ (some 15) rfl rfl Tryd.func44 (by kernel_rfl) rfl #[.string a0, .string ⟨#[32]⟩] rfl (by (try simp only [List.map_toArray, List.map_cons, List.map_nil]);first | done | rfl) ?_;(with_reducible refine (split_calls a0 HS300.out mx _ hmx).mono ?_);rintro e w3 ⟨gbW, hgW, rfl, hbW, hb⟩;refine ⟨_, rfl, ?_⟩;have GWW := m0_ (show w.heap.size ≤ gbW from by rw [hgW];exact below_size HB.out);have N2_W := m0_ (show gb2 ≠ gbW from by rw [hgW];exact Nat.ne_of_lt (blk_lt BK2.out));have n0_ := m0_ (below_step HB.out hb);have n1_ := m0_ (blk_below BK2.out hb);clear HB BK2;have HB := n0_;have BK2 := n1_;clear n0_ n1_;have BKW := m0_ hbW;clear hb hbW hgW hmx) | ((with_reducible refine gate_dst (N := 17) rfl ?_);refine box_event ?hg (N := 17) ?hd (cs := #[.slice (some ⟨gbW, 0, none⟩) (splitW a0).length (splitW a0).length]) (t := 69) ?hr ?_;(case hd => rfl);(case hg => rfl);(case hr => first | (go_simp;done) | (go_simp;rfl));intro gb17 hg wb17 hbox hb;have GW17 := m0_ (show w.heap.size ≤ gb17 from by rw [hg];exact below_size HB.out);have N2_17 := m0_ (show gb2 ≠ gb17 from by rw [hg];exact Nat.ne_of_lt (blk_lt BK2.out));have NW_17 := m0_ (show gbW ≠ gb17 from by rw [hg];exact Nat.ne_of_lt (blk_lt BKW.out));have n0_ := m0_ (below_step HB.out hb);have n1_ := m0_ (blk_below BK2.out hb);have n2_ := m0_ (blk_below BKW.out hb);have n3_ := m0_ (hbox);clear HB BK2 BKW;have HB := n0_;have BK2 := n1_;have BKW := n2_;have BK17 := n3_;clear n0_ n1_ n2_ n3_;clear hb hbox hg) | (go_at_call 45;fail))
 have ex_ := ex_walk (splitW a0) gbW gb17 NW_17.out (by have := splitW_len a0;have := HS300.out;omega) (fun s_ hs_ => by have := splitW_size a0 s_ hs_;have := HS300.out;omega) w HT.out HR.out.1 HR.out.2.1 GW17.out ((splitW a0).length + 1) 0 _ (by omega) (Nat.zero_le _) HB.out BKW.out ⟨0, BK17.out, fun _ => rfl⟩
 rw [show exP (splitW a0) ((splitW a0).length + 1) 0 = exQ a0 from rfl] at ex_
 have HX := m0_ (show exT a0 = (exQ a0).1 from rfl)
 refine ex_.mono ?_
 clear ex_
 rintro e we ⟨vx, rfl, hsx, _, hb, hk⟩
 obtain ⟨Ax, cx, hvx⟩ := SR.slice hsx
 subst hvx
 have HCE := m0_ (show w.heap.size ≤ wb17.heap.size from below_size HB.out)
 have HWE := m0_ (show wb17.heap.size ≤ we.heap.size from hk.1)
 have H2E := m0_ (show gb2 < wb17.heap.size from blk_lt BK2.out)
 have n0_ := m0_ hb
 have n1_ := m0_ (blk_keep BK2.out hk N2_17.out)
 have n2_ := m0_ (SR.mono (ok' := fun k_ => wb17.heap.size ≤ k_ ∧ k_ < we.heap.size) (SR.lower (SR.bound hsx) (below_size HB.out)) (fun k_ h_ => ⟨h_.1, h_.2.2⟩))
 clear HB BK2 BKW BK17 hb hk hsx
 have HB := n0_
 have BK2 := n1_
 have HS := n2_
 clear n0_ n1_ n2_
 rw [HX.out] at HTX HH
 clear HX
 generalize (exQ a0).1 = x at *
 go_wp2_with (first | ((with_reducible refine gate_dst (N := 5) rfl ?_);refine box_event ?hg (N := 5) ?hd (cs := #[.int .i64 0, .int .i64 0, .int .i64 0, .slice none 0 0]) (t := 29) ?hr ?_;(case hd => rfl);(case hg => rfl);(case hr => first | (go_simp;done) | (go_simp;rfl));intro gb5 hg wb5 hbox hb;have GW5 := m0_ (show w.heap.size ≤ gb5 from by rw [hg];exact below_size HB.out);have N2_5 := m0_ (show gb2 ≠ gb5 from by rw [hg];exact Nat.ne_of_lt (blk_lt BK2.out));have HFR5 := m0_ (show ∀ k_, (wb17.heap.size ≤ k_ ∧ k_ < we.heap.size) → k_ ≠ gb5 from by intro k_ h_;have a_ := HWE.out;rw [hg];omega);have n0_ := m0_ (below_step HB.out hb);have n1_ := m0_ (blk_below BK2.out hb);have n2_ := m0_ (SR.below HS.out hb);have n3_ := m0_ (hbox);clear HB BK2 HS;have HB := n0_;have BK2 := n1_;have HS := n2_;have BK5 := n3_;clear n0_ n1_ n2_ n3_;clear hb hbox hg) | ((with_reducible refine gate_store (t := 29) (p := 5) (v := .tmp 19) rfl ?_);refine store_blk (w0 := w) (base := w.heap.size) (e := 29) (g := gb5) (off := 0) (cur := #[.int .i64 0, .int .i64 0, .int .i64 0, .slice none 0 0]) (cur' := #[.int .i64 x.f0, .int .i64 x.f1, .int .i64 x.f2, .slice Ax x.f3.length cx]) (u := .agg #[.int .i64 x.f0, .int .i64 x.f1, .int .i64 x.f2, .slice Ax x.f3.length cx]) (seg := [.int .i64 x.f0, .int .i64 x.f1, .int .i64 x.f2, .slice Ax x.f3.length cx]) rfl rfl rfl rfl rfl BK5.out rfl ?ht ?h1 (by simp) rfl HB.out GW5.out ?_;(case ht => kernel_rfl);(case h1 => intro q hq;simp only [List.mem_cons, List.not_mem_nil, or_false] at hq;rcases hq with rfl | rfl | rfl | rfl <;> rfl);intro ws_ hs_ hk_ hB_;have n0_ := m0_ (hs_);have n1_ := m0_ (hB_);have n2_ := m0_ (blk_keep BK2.out hk_ (by have a_ := N2_5.out;omega));have n3_ := m0_ (SR.keep HS.out hk_ (fun k_ h_ => HFR5.out k_ h_));clear BK5 HB BK2 HS;have BK5 := n0_;have HB := n1_;have BK2 := n2_;have HS := n3_;clear n0_ n1_ n2_ n3_;clear hs_ hk_ hB_;have hz5_0 := (blk_cell BK5.out 0).trans (show _ = some (Value.int .i64 x.f0) from rfl);have hz5_1 := (blk_cell BK5.out 1).trans (show _ = some (Value.int .i64 x.f1) from rfl);have hz5_2 := (blk_cell BK5.out 2).trans (show _ = some (Value.int .i64 x.f2) from rfl);have hz5_3 := (blk_cell BK5.out 3).trans (show _ = some (Value.slice Ax x.f3.length cx) from rfl)) | (go_at_call 11;fail))
 clear hz5_0 hz5_1 hz5_2 hz5_3
 refine (impl_ExText.calls k x.f0 x.f1 x.f2 Ax cx x.f3 t _ (Kd.R_reads' (SR.R HS.out)).2.2 (Kd.R_reads' (SR.R HS.out)).2.1 HTX.out (TabX.below HT.out HB.out)).mono ?_
 rintro e w6 ⟨rfl, hb⟩
 have n0_ := m0_ (below_step HB.out hb);have n1_ := m0_ (blk_below BK2.out hb);have n2_ := m0_ (blk_below BK5.out hb);have n3_ := m0_ (SR.below HS.out hb);clear HB BK2 BK5 HS;have HB := n0_;have BK2 := n1_;have BK5 := n2_;have HS := n3_;clear n0_ n1_ n2_ n3_
 clear hb
 have h := HH.out
 by_cases q : t.toList = a0.toList
 ·have qb : (t.toList != a0.toList) = false := bne_eq_false_iff_eq.2 q
  rw [if_pos q] at h
  simp only [Option.some.injEq, Prod.mk.injEq] at h
  obtain ⟨rfl, rfl, rfl, rfl, rfl⟩ := h
  have hz5_0 := (blk_cell BK5.out 0).trans (show _ = some (Value.int .i64 x.f0) from rfl);have hz5_1 := (blk_cell BK5.out 1).trans (show _ = some (Value.int .i64 x.f1) from rfl);have hz5_2 := (blk_cell BK5.out 2).trans (show _ = some (Value.int .i64 x.f2) from rfl);have hz5_3 := (blk_cell BK5.out 3).trans (show _ = some (Value.slice Ax x.f3.length cx) from rfl)
  go_wp2_with (first | ((with_reducible refine gate_store (t := 29) (p := 2) (v := .tmp 25) rfl ?_);refine store_blk (w0 := w) (base := w.heap.size) (e := 29) (g := gb2) (off := 0) (cur := #[.int .i64 0, .int .i64 0, .int .i64 0, .slice none 0 0]) (cur' := #[.int .i64 x.f0, .int .i64 x.f1, .int .i64 x.f2, .slice Ax x.f3.length cx]) (u := .agg #[.int .i64 x.f0, .int .i64 x.f1, .int .i64 x.f2, .slice Ax x.f3.length cx]) (seg := [.int .i64 x.f0, .int .i64 x.f1, .int .i64 x.f2, .slice Ax x.f3.length cx]) rfl rfl rfl rfl rfl BK2.out rfl ?ht ?h1 (by simp) rfl HB.out GW2.out ?_;(case ht => kernel_rfl);(case h1 => intro q hq;simp only [List.mem_cons, List.not_mem_nil, or_false] at hq;rcases hq with rfl | rfl | rfl | rfl <;> rfl);intro ws_ hs_ hk_ hB_;have n0_ := m0_ (hs_);have n1_ := m0_ (hB_);have n2_ := m0_ (blk_keep BK5.out hk_ (by have a_ := N2_5.out;omega));have n3_ := m0_ (SR.keep HS.out hk_ (fun k_ h_ => by have a_ := H2E.out;have b_ := h_.1;omega));clear BK2 HB BK5 HS;have BK2 := n0_;have HB := n1_;have BK5 := n2_;have HS := n3_;clear n0_ n1_ n2_ n3_;clear hs_ hk_ hB_))
  refine bodyPost_ret (results_ct rfl _ _ gb2 29 #[.int .i64 x.f0, .int .i64 x.f1, .int .i64 x.f2, .slice Ax x.f3.length cx] (0, 0) _ rfl BK2.out Tryd.underlying29 rfl (by kernel_rfl)) rfl ?_
  exact ⟨_, rfl, SR.mono HS.out (fun k_ h_ => show w.heap.size ≤ k_ from by have a_ := HCE.out;have b_ := h_.1;omega), HB.out⟩
 ·have qb : (t.toList != a0.toList) = true := bne_iff_ne.2 q
  have qc : (t.toList == a0.toList) = false := beq_eq_false_iff_ne.2 q
  rw [if_neg q] at h
  simp only [Option.some.injEq, Prod.mk.injEq] at h
  obtain ⟨rfl, rfl, rfl, rfl, rfl⟩ := h
  go_wp2_with (first | ((with_reducible refine gate_store (t := 29) (p := 2) (v := .tmp 24) rfl ?_);refine store_blk (w0 := w) (base := w.heap.size) (e := 29) (g := gb2) (off := 0) (cur := #[.int .i64 0, .int .i64 0, .int .i64 0, .slice none 0 0]) (cur' := #[.int .i64 0, .int .i64 0, .int .i64 0, .slice none 0 0]) (u := .agg #[.int .i64 0, .int .i64 0, .int .i64 0, .slice none 0 0]) (seg := [.int .i64 0, .int .i64 0, .int .i64 0, .slice none 0 0]) rfl rfl rfl rfl rfl BK2.out rfl ?ht ?h1 (by simp) rfl HB.out GW2.out ?_;(case ht => kernel_rfl);(case h1 => intro q hq;simp only [List.mem_cons, List.not_mem_nil, or_false] at hq;rcases hq with rfl | rfl | rfl | rfl <;> rfl);intro ws_ hs_ hk_ hB_;have n0_ := m0_ (hs_);have n1_ := m0_ (hB_);have n2_ := m0_ (blk_keep BK5.out hk_ (by have a_ := N2_5.out;omega));have n3_ := m0_ (SR.keep HS.out hk_ (fun k_ h_ => by have a_ := H2E.out;have b_ := h_.1;omega));clear BK2 HB BK5 HS;have BK2 := n0_;have HB := n1_;have BK5 := n2_;have HS := n3_;clear n0_ n1_ n2_ n3_;clear hs_ hk_ hB_))
  refine bodyPost_ret (results_ct rfl _ _ gb2 29 #[.int .i64 0, .int .i64 0, .int .i64 0, .slice none 0 0] (0, 0) _ rfl BK2.out Tryd.underlying29 rfl (by kernel_rfl)) rfl ?_
  exact ⟨_, rfl, SR.nil _ _ _, HB.out⟩
mutual
def laws_heldExS.l0 : Nat → List (S29) → Int → Int → Option (Int)
 | 0, _, _, _ => none
 | k + 1, x0, x1, x5 => if x5 < (x0.length : Int) then (if 0 ≤ x5 then (if ((rd_T29 x0 x5).f0) = x1 then (if ((rd_T29 x0 x5).f1) = (wrap64 (x1 + 1)) then (if ((rd_T29 x0 x5).f2) = (wrap64 ((wrap64 (x1 + 1)) + 1)) then ((laws_heldExS.f k ((rd_T29 x0 x5).f3) (wrap64 ((wrap64 ((wrap64 (x1 + 1)) + 1)) + 1))).bind fun t105 => (if t105 < 0 then (some (-1)) else (laws_heldExS.l0 k x0 t105 (wrap64 (x5 + 1))))) else (some (-1))) else (some (-1))) else (some (-1))) else (none)) else (some x1)
def laws_heldExS.f : Nat → List (S29) → Int → Option (Int)
 | 0, _, _ => none
 | k + 1, l0, a1 => laws_heldExS.l0 k l0 a1 0
def laws_heldEx.f : Nat → Int → Int → Int → List (S29) → Int → Option (Int)
 | 0, _, _, _, _, _ => none
 | k + 1, a0_0, a0_1, a0_2, l0_3, a1 => (laws_heldExS.f k l0_3 a1).bind fun t107 => (if t107 < 0 then (some (-1)) else (some t107))
end
set_option maxHeartbeats 8000000 in
set_option maxRecDepth 100000 in
theorem laws_heldExS.calls_step (k : Nat) (ih_47 : ∀ k_, k_ < k → ∀ (A0 : Option Addr) (c0 : Nat) (l0 : List (S29)) (a1 : Int) (r : Int) (w : World) (hr0 : Kd.C k29 w A0 l0.length l0) (hc0 : l0.length ≤ c0) (h : laws_heldExS.f k_ l0 a1 = some r),
  Calls Tryd.prog 47 #[.slice A0 l0.length c0, .int .i64 a1] w fun e w' => e = .returned (.int .i64 r) ∧ Below w.heap.size w w') (ih_24 : ∀ k_, k_ < k → ∀ (a0_0 : Int) (a0_1 : Int) (a0_2 : Int) (A0_3 : Option Addr) (c0_3 : Nat) (l0_3 : List (S29)) (a1 : Int) (r : Int) (w : World) (hr0_3 : Kd.C k29 w A0_3 l0_3.length l0_3) (hc0_3 : l0_3.length ≤ c0_3) (h : laws_heldEx.f k_ a0_0 a0_1 a0_2 l0_3 a1 = some r),
  Calls Tryd.prog 24 #[.agg #[.int .i64 a0_0, .int .i64 a0_1, .int .i64 a0_2, .slice A0_3 l0_3.length c0_3], .int .i64 a1] w fun e w' => e = .returned (.int .i64 r) ∧ Below w.heap.size w w') : ∀ (A0 : Option Addr) (c0 : Nat) (l0 : List (S29)) (a1 : Int) (r : Int) (w : World) (hr0 : Kd.C k29 w A0 l0.length l0) (hc0 : l0.length ≤ c0) (h : laws_heldExS.f k l0 a1 = some r),
  Calls Tryd.prog 47 #[.slice A0 l0.length c0, .int .i64 a1] w fun e w' => e = .returned (.int .i64 r) ∧ Below w.heap.size w w' := by
 intro A0 c0 l0 a1 r w hr0 hc0 h
 cases k with
 | zero => exact absurd h (by simp [laws_heldExS.f])
 | succ k =>
 simp only [laws_heldExS.f] at h
 have HR0 := m0_ hr0
 have HC0 := m0_ hc0
 clear hr0 hc0
 have HB := m0_ (Below.refl w.heap.size w)
 have H : (laws_heldExS.l0 k l0 a1 0) = some r := h
 clear h
 have H' := m0_ H
 clear H
 go_enter Tryd.func47, Tryd.ntmps47
 go_wp2
 go_loopg [1, 5] k (fun kq v1 v5 w' => ∃ (x1_1 : Int) (x5_1 : Int), v1 = .int .i64 x1_1 ∧ v5 = .int .i64 x5_1 ∧ Aside0 (laws_heldExS.l0 kq l0 x1_1 x5_1 = some r) ∧ Aside0 (kq ≤ k) ∧ Aside0 (Below w.heap.size w w'))
 case atStart => exact ⟨(a1), (0), (by first | rfl | (simp;done) | (simp [*];done)), (by first | rfl | (simp;done) | (simp [*];done)), H', ⟨Nat.le_refl _⟩, ⟨by repeat (first | (with_reducible first | exact HB.out | apply below_alloc | apply pw_below_drewN | apply below_drew1) | exact HB.out)⟩⟩
 case round =>
  clear H'
  try clear p2
  obtain ⟨x1_1, x5_1, rfl, rfl, HA, HK1, HB⟩ := hrel
  cases gk with
  | zero => exact absurd HA.out (by simp [laws_heldExS.l0])
  | succ k1 =>
   have H := HA.out
   clear HA
   simp only [laws_heldExS.l0] at H
   by_cases c3 : x5_1 < (l0.length : Int)
   rotate_left
   ·rw [if_neg c3] at H
    have c3b0 : decide (x5_1 < (l0.length : Int)) = false := decide_eq_false c3
    clear c3
    obtain rfl := Option.some.inj H
    go_wp2
    go_ret
    exact ⟨by first | rfl | (simp [errW_none, errW_some] <;> rfl) | (simp [*, errW_none, errW_some] <;> rfl), by repeat (first | (with_reducible first | exact HB.out | apply below_alloc | apply pw_below_drewN | apply below_drew1) | exact HB.out)⟩
   rw [if_pos c3] at H
   have c3b0 : decide (x5_1 < (l0.length : Int)) = true := decide_eq_true c3
   clear c3
   by_cases c4 : 0 ≤ x5_1
   rotate_left
   ·rw [if_neg c4] at H
    exact absurd H (by simp)
   rw [if_pos c4] at H
   have c4b0 : decide (0 ≤ x5_1) = true := decide_eq_true c4
   clear c4
   by_cases c5 : ((rd_T29 l0 x5_1).f0) = x1_1
   rotate_left
   ·rw [if_neg c5] at H
    have c5b0 : (((rd_T29 l0 x5_1).f0) == x1_1) = false := beq_eq_false_iff_ne.mpr c5
    have c5b1 : (((rd_T29 l0 x5_1).f0) != x1_1) = true := bne_iff_ne.mpr c5
    obtain rfl := Option.some.inj H
    have p101 : 0 ≤ (x5_1 : Int) := of_decide_eq_true (by first | (with_reducible assumption) | assumption)
    have q101 : x5_1 < (l0.length : Int) := of_decide_eq_true (by first | (with_reducible assumption) | assumption)
    obtain ⟨ad101, A101_3, c101_3, e101, hx101_0, hx101_1, hx101_2, hx101_3, hl101_3, hi101_3⟩ := at_T29 HR0.out x5_1 p101 q101
    cases e101
    replace hx101_0 := (HB.out.cell (World.block_lt_of_cell? w _ hx101_0)).trans hx101_0
    replace hx101_1 := (HB.out.cell (World.block_lt_of_cell? w _ hx101_1)).trans hx101_1
    replace hx101_2 := (HB.out.cell (World.block_lt_of_cell? w _ hx101_2)).trans hx101_2
    replace hx101_3 := (HB.out.cell (World.block_lt_of_cell? w _ hx101_3)).trans hx101_3
    have HR101_3 := m0_ hi101_3
    have HC101_3 := m0_ hl101_3
    clear hi101_3 hl101_3
    replace p101 := eq_true p101
    replace q101 := eq_true q101
    go_wp2
    go_ret
    exact ⟨by first | rfl | (simp [errW_none, errW_some] <;> rfl) | (simp [*, errW_none, errW_some] <;> rfl), by repeat (first | (with_reducible first | exact HB.out | apply below_alloc | apply pw_below_drewN | apply below_drew1) | exact HB.out)⟩
   rw [if_pos c5] at H
   have c5b0 : (((rd_T29 l0 x5_1).f0) == x1_1) = true := beq_iff_eq.mpr c5
   have c5b1 : (((rd_T29 l0 x5_1).f0) != x1_1) = false := bne_eq_false_iff_eq.mpr c5
   clear c5
   by_cases c6 : ((rd_T29 l0 x5_1).f1) = (wrap64 (x1_1 + 1))
   rotate_left
   ·rw [if_neg c6] at H
    have c6b0 : (((rd_T29 l0 x5_1).f1) == (wrap64 (x1_1 + 1))) = false := beq_eq_false_iff_ne.mpr c6
    have c6b1 : (((rd_T29 l0 x5_1).f1) != (wrap64 (x1_1 + 1))) = true := bne_iff_ne.mpr c6
    obtain rfl := Option.some.inj H
    have p101 : 0 ≤ (x5_1 : Int) := of_decide_eq_true (by first | (with_reducible assumption) | assumption)
    have q101 : x5_1 < (l0.length : Int) := of_decide_eq_true (by first | (with_reducible assumption) | assumption)
    obtain ⟨ad101, A101_3, c101_3, e101, hx101_0, hx101_1, hx101_2, hx101_3, hl101_3, hi101_3⟩ := at_T29 HR0.out x5_1 p101 q101
    cases e101
    replace hx101_0 := (HB.out.cell (World.block_lt_of_cell? w _ hx101_0)).trans hx101_0
    replace hx101_1 := (HB.out.cell (World.block_lt_of_cell? w _ hx101_1)).trans hx101_1
    replace hx101_2 := (HB.out.cell (World.block_lt_of_cell? w _ hx101_2)).trans hx101_2
    replace hx101_3 := (HB.out.cell (World.block_lt_of_cell? w _ hx101_3)).trans hx101_3
    have HR101_3 := m0_ hi101_3
    have HC101_3 := m0_ hl101_3
    clear hi101_3 hl101_3
    replace p101 := eq_true p101
    replace q101 := eq_true q101
    have p102 : 0 ≤ (x5_1 : Int) := of_decide_eq_true (by first | (with_reducible assumption) | assumption)
    have q102 : x5_1 < (l0.length : Int) := of_decide_eq_true (by first | (with_reducible assumption) | assumption)
    obtain ⟨ad102, A102_3, c102_3, e102, hx102_0, hx102_1, hx102_2, hx102_3, hl102_3, hi102_3⟩ := at_T29 HR0.out x5_1 p102 q102
    obtain rfl : ad101 = ad102 := (by injection e102)
    replace hx102_0 := (HB.out.cell (World.block_lt_of_cell? w _ hx102_0)).trans hx102_0
    replace hx102_1 := (HB.out.cell (World.block_lt_of_cell? w _ hx102_1)).trans hx102_1
    replace hx102_2 := (HB.out.cell (World.block_lt_of_cell? w _ hx102_2)).trans hx102_2
    replace hx102_3 := (HB.out.cell (World.block_lt_of_cell? w _ hx102_3)).trans hx102_3
    have HR102_3 := m0_ hi102_3
    have HC102_3 := m0_ hl102_3
    clear hi102_3 hl102_3
    replace p102 := eq_true p102
    replace q102 := eq_true q102
    have ea_ := Option.some.inj (hx101_3.symm.trans hx102_3)
    injection ea_ with ea_ en_ ec_
    subst ea_
    subst ec_
    clear en_
    go_wp2
    go_ret
    exact ⟨by first | rfl | (simp [errW_none, errW_some] <;> rfl) | (simp [*, errW_none, errW_some] <;> rfl), by repeat (first | (with_reducible first | exact HB.out | apply below_alloc | apply pw_below_drewN | apply below_drew1) | exact HB.out)⟩
   rw [if_pos c6] at H
   have c6b0 : (((rd_T29 l0 x5_1).f1) == (wrap64 (x1_1 + 1))) = true := beq_iff_eq.mpr c6
   have c6b1 : (((rd_T29 l0 x5_1).f1) != (wrap64 (x1_1 + 1))) = false := bne_eq_false_iff_eq.mpr c6
   clear c6
   by_cases c7 : ((rd_T29 l0 x5_1).f2) = (wrap64 ((wrap64 (x1_1 + 1)) + 1))
   rotate_left
   ·rw [if_neg c7] at H
    have c7b0 : (((rd_T29 l0 x5_1).f2) == (wrap64 ((wrap64 (x1_1 + 1)) + 1))) = false := beq_eq_false_iff_ne.mpr c7
    have c7b1 : (((rd_T29 l0 x5_1).f2) != (wrap64 ((wrap64 (x1_1 + 1)) + 1))) = true := bne_iff_ne.mpr c7
    obtain rfl := Option.some.inj H
    have p101 : 0 ≤ (x5_1 : Int) := of_decide_eq_true (by first | (with_reducible assumption) | assumption)
    have q101 : x5_1 < (l0.length : Int) := of_decide_eq_true (by first | (with_reducible assumption) | assumption)
    obtain ⟨ad101, A101_3, c101_3, e101, hx101_0, hx101_1, hx101_2, hx101_3, hl101_3, hi101_3⟩ := at_T29 HR0.out x5_1 p101 q101
    cases e101
    replace hx101_0 := (HB.out.cell (World.block_lt_of_cell? w _ hx101_0)).trans hx101_0
    replace hx101_1 := (HB.out.cell (World.block_lt_of_cell? w _ hx101_1)).trans hx101_1
    replace hx101_2 := (HB.out.cell (World.block_lt_of_cell? w _ hx101_2)).trans hx101_2
    replace hx101_3 := (HB.out.cell (World.block_lt_of_cell? w _ hx101_3)).trans hx101_3
    have HR101_3 := m0_ hi101_3
    have HC101_3 := m0_ hl101_3
    clear hi101_3 hl101_3
    replace p101 := eq_true p101
    replace q101 := eq_true q101
    have p102 : 0 ≤ (x5_1 : Int) := of_decide_eq_true (by first | (with_reducible assumption) | assumption)
    have q102 : x5_1 < (l0.length : Int) := of_decide_eq_true (by first | (with_reducible assumption) | assumption)
    obtain ⟨ad102, A102_3, c102_3, e102, hx102_0, hx102_1, hx102_2, hx102_3, hl102_3, hi102_3⟩ := at_T29 HR0.out x5_1 p102 q102
    obtain rfl : ad101 = ad102 := (by injection e102)
    replace hx102_0 := (HB.out.cell (World.block_lt_of_cell? w _ hx102_0)).trans hx102_0
    replace hx102_1 := (HB.out.cell (World.block_lt_of_cell? w _ hx102_1)).trans hx102_1
    replace hx102_2 := (HB.out.cell (World.block_lt_of_cell? w _ hx102_2)).trans hx102_2
    replace hx102_3 := (HB.out.cell (World.block_lt_of_cell? w _ hx102_3)).trans hx102_3
    have HR102_3 := m0_ hi102_3
    have HC102_3 := m0_ hl102_3
    clear hi102_3 hl102_3
    replace p102 := eq_true p102
    replace q102 := eq_true q102
    have ea_ := Option.some.inj (hx101_3.symm.trans hx102_3)
    injection ea_ with ea_ en_ ec_
    subst ea_
    subst ec_
    clear en_
    have p103 : 0 ≤ (x5_1 : Int) := of_decide_eq_true (by first | (with_reducible assumption) | assumption)
    have q103 : x5_1 < (l0.length : Int) := of_decide_eq_true (by first | (with_reducible assumption) | assumption)
    obtain ⟨ad103, A103_3, c103_3, e103, hx103_0, hx103_1, hx103_2, hx103_3, hl103_3, hi103_3⟩ := at_T29 HR0.out x5_1 p103 q103
    obtain rfl : ad101 = ad103 := (by injection e103)
    replace hx103_0 := (HB.out.cell (World.block_lt_of_cell? w _ hx103_0)).trans hx103_0
    replace hx103_1 := (HB.out.cell (World.block_lt_of_cell? w _ hx103_1)).trans hx103_1
    replace hx103_2 := (HB.out.cell (World.block_lt_of_cell? w _ hx103_2)).trans hx103_2
    replace hx103_3 := (HB.out.cell (World.block_lt_of_cell? w _ hx103_3)).trans hx103_3
    have HR103_3 := m0_ hi103_3
    have HC103_3 := m0_ hl103_3
    clear hi103_3 hl103_3
    replace p103 := eq_true p103
    replace q103 := eq_true q103
    have ea_ := Option.some.inj (hx101_3.symm.trans hx103_3)
    injection ea_ with ea_ en_ ec_
    subst ea_
    subst ec_
    clear en_
    go_wp2
    go_ret
    exact ⟨by first | rfl | (simp [errW_none, errW_some] <;> rfl) | (simp [*, errW_none, errW_some] <;> rfl), by repeat (first | (with_reducible first | exact HB.out | apply below_alloc | apply pw_below_drewN | apply below_drew1) | exact HB.out)⟩
   rw [if_pos c7] at H
   have c7b0 : (((rd_T29 l0 x5_1).f2) == (wrap64 ((wrap64 (x1_1 + 1)) + 1))) = true := beq_iff_eq.mpr c7
   have c7b1 : (((rd_T29 l0 x5_1).f2) != (wrap64 ((wrap64 (x1_1 + 1)) + 1))) = false := bne_eq_false_iff_eq.mpr c7
   clear c7
   replace H := Option.bind_eq_some_iff.mp H
   obtain ⟨t105, A80, H⟩ := H
   replace H : (if t105 < 0 then (some (-1)) else (laws_heldExS.l0 k1 l0 t105 (wrap64 (x5_1 + 1)))) = some r := H
   have A8 := m0_ A80
   clear A80
   by_cases c9 : t105 < 0
   ·rw [if_pos c9] at H
    have c9b0 : decide (t105 < 0) = true := decide_eq_true c9
    clear c9
    obtain rfl := Option.some.inj H
    have p101 : 0 ≤ (x5_1 : Int) := of_decide_eq_true (by first | (with_reducible assumption) | assumption)
    have q101 : x5_1 < (l0.length : Int) := of_decide_eq_true (by first | (with_reducible assumption) | assumption)
    obtain ⟨ad101, A101_3, c101_3, e101, hx101_0, hx101_1, hx101_2, hx101_3, hl101_3, hi101_3⟩ := at_T29 HR0.out x5_1 p101 q101
    cases e101
    replace hx101_0 := (HB.out.cell (World.block_lt_of_cell? w _ hx101_0)).trans hx101_0
    replace hx101_1 := (HB.out.cell (World.block_lt_of_cell? w _ hx101_1)).trans hx101_1
    replace hx101_2 := (HB.out.cell (World.block_lt_of_cell? w _ hx101_2)).trans hx101_2
    replace hx101_3 := (HB.out.cell (World.block_lt_of_cell? w _ hx101_3)).trans hx101_3
    have HR101_3 := m0_ hi101_3
    have HC101_3 := m0_ hl101_3
    clear hi101_3 hl101_3
    replace p101 := eq_true p101
    replace q101 := eq_true q101
    have p102 : 0 ≤ (x5_1 : Int) := of_decide_eq_true (by first | (with_reducible assumption) | assumption)
    have q102 : x5_1 < (l0.length : Int) := of_decide_eq_true (by first | (with_reducible assumption) | assumption)
    obtain ⟨ad102, A102_3, c102_3, e102, hx102_0, hx102_1, hx102_2, hx102_3, hl102_3, hi102_3⟩ := at_T29 HR0.out x5_1 p102 q102
    obtain rfl : ad101 = ad102 := (by injection e102)
    replace hx102_0 := (HB.out.cell (World.block_lt_of_cell? w _ hx102_0)).trans hx102_0
    replace hx102_1 := (HB.out.cell (World.block_lt_of_cell? w _ hx102_1)).trans hx102_1
    replace hx102_2 := (HB.out.cell (World.block_lt_of_cell? w _ hx102_2)).trans hx102_2
    replace hx102_3 := (HB.out.cell (World.block_lt_of_cell? w _ hx102_3)).trans hx102_3
    have HR102_3 := m0_ hi102_3
    have HC102_3 := m0_ hl102_3
    clear hi102_3 hl102_3
    replace p102 := eq_true p102
    replace q102 := eq_true q102
    have ea_ := Option.some.inj (hx101_3.symm.trans hx102_3)
    injection ea_ with ea_ en_ ec_
    subst ea_
    subst ec_
    clear en_
    have p103 : 0 ≤ (x5_1 : Int) := of_decide_eq_true (by first | (with_reducible assumption) | assumption)
    have q103 : x5_1 < (l0.length : Int) := of_decide_eq_true (by first | (with_reducible assumption) | assumption)
    obtain ⟨ad103, A103_3, c103_3, e103, hx103_0, hx103_1, hx103_2, hx103_3, hl103_3, hi103_3⟩ := at_T29 HR0.out x5_1 p103 q103
    obtain rfl : ad101 = ad103 := (by injection e103)
    replace hx103_0 := (HB.out.cell (World.block_lt_of_cell? w _ hx103_0)).trans hx103_0
    replace hx103_1 := (HB.out.cell (World.block_lt_of_cell? w _ hx103_1)).trans hx103_1
    replace hx103_2 := (HB.out.cell (World.block_lt_of_cell? w _ hx103_2)).trans hx103_2
    replace hx103_3 := (HB.out.cell (World.block_lt_of_cell? w _ hx103_3)).trans hx103_3
    have HR103_3 := m0_ hi103_3
    have HC103_3 := m0_ hl103_3
    clear hi103_3 hl103_3
    replace p103 := eq_true p103
    replace q103 := eq_true q103
    have ea_ := Option.some.inj (hx101_3.symm.trans hx103_3)
    injection ea_ with ea_ en_ ec_
    subst ea_
    subst ec_
    clear en_
    have p104 : 0 ≤ (x5_1 : Int) := of_decide_eq_true (by first | (with_reducible assumption) | assumption)
    have q104 : x5_1 < (l0.length : Int) := of_decide_eq_true (by first | (with_reducible assumption) | assumption)
    obtain ⟨ad104, A104_3, c104_3, e104, hx104_0, hx104_1, hx104_2, hx104_3, hl104_3, hi104_3⟩ := at_T29 HR0.out x5_1 p104 q104
    obtain rfl : ad101 = ad104 := (by injection e104)
    replace hx104_0 := (HB.out.cell (World.block_lt_of_cell? w _ hx104_0)).trans hx104_0
    replace hx104_1 := (HB.out.cell (World.block_lt_of_cell? w _ hx104_1)).trans hx104_1
    replace hx104_2 := (HB.out.cell (World.block_lt_of_cell? w _ hx104_2)).trans hx104_2
    replace hx104_3 := (HB.out.cell (World.block_lt_of_cell? w _ hx104_3)).trans hx104_3
    have HR104_3 := m0_ hi104_3
    have HC104_3 := m0_ hl104_3
    clear hi104_3 hl104_3
    replace p104 := eq_true p104
    replace q104 := eq_true q104
    have ea_ := Option.some.inj (hx101_3.symm.trans hx104_3)
    injection ea_ with ea_ en_ ec_
    subst ea_
    subst ec_
    clear en_
    go_wp2_with (first | ((with_reducible refine gate_callee (f := 47) rfl ?_);refine goesL_ (some 45) rfl rfl Tryd.func47 (by kernel_rfl) rfl #[.slice A101_3 ((rd_T29 l0 x5_1).f3).length c101_3, .int .i64 (wrap64 ((wrap64 ((wrap64 (x1_1 + 1)) + 1)) + 1))] rfl (by (try simp only [List.map_toArray, List.map_cons, List.map_nil]);first | done | rfl | (simp only [List.length_drop, List.length_take];rfl)) ?_;(with_reducible refine (ih_47 k1 (by have := HK1.out;omega) _ _ ((rd_T29 l0 x5_1).f3) (wrap64 ((wrap64 ((wrap64 (x1_1 + 1)) + 1)) + 1)) t105 _ ?side1 ?side2 A8.out).mono ?_);(case side1 => repeat (first | exact (Kd.C_below HR104_3.out HB.out) | (with_reducible refine Kd.C_alloc ?_ _) | (with_reducible refine Kd.C_drewN ?_ _) | (with_reducible refine Kd.C_drew ?_)));(case side2 => exact HC104_3.out);rintro e w10 ⟨rfl, hb⟩;refine ⟨_, rfl, ?_⟩;replace HB := m0_ (below_step (by exact HB.out) hb);(try clear hb);(try clear hb2);(try clear hk);(try clear hi)))
    go_ret
    exact ⟨by first | rfl | (simp [errW_none, errW_some] <;> rfl) | (simp [*, errW_none, errW_some] <;> rfl), by repeat (first | (with_reducible first | exact HB.out | apply below_alloc | apply pw_below_drewN | apply below_drew1) | exact HB.out)⟩
   rw [if_neg c9] at H
   have c9b0 : decide (t105 < 0) = false := decide_eq_false c9
   clear c9
   have H' := m0_ H
   clear H
   have p101 : 0 ≤ (x5_1 : Int) := of_decide_eq_true (by first | (with_reducible assumption) | assumption)
   have q101 : x5_1 < (l0.length : Int) := of_decide_eq_true (by first | (with_reducible assumption) | assumption)
   obtain ⟨ad101, A101_3, c101_3, e101, hx101_0, hx101_1, hx101_2, hx101_3, hl101_3, hi101_3⟩ := at_T29 HR0.out x5_1 p101 q101
   cases e101
   replace hx101_0 := (HB.out.cell (World.block_lt_of_cell? w _ hx101_0)).trans hx101_0
   replace hx101_1 := (HB.out.cell (World.block_lt_of_cell? w _ hx101_1)).trans hx101_1
   replace hx101_2 := (HB.out.cell (World.block_lt_of_cell? w _ hx101_2)).trans hx101_2
   replace hx101_3 := (HB.out.cell (World.block_lt_of_cell? w _ hx101_3)).trans hx101_3
   have HR101_3 := m0_ hi101_3
   have HC101_3 := m0_ hl101_3
   clear hi101_3 hl101_3
   replace p101 := eq_true p101
   replace q101 := eq_true q101
   have p102 : 0 ≤ (x5_1 : Int) := of_decide_eq_true (by first | (with_reducible assumption) | assumption)
   have q102 : x5_1 < (l0.length : Int) := of_decide_eq_true (by first | (with_reducible assumption) | assumption)
   obtain ⟨ad102, A102_3, c102_3, e102, hx102_0, hx102_1, hx102_2, hx102_3, hl102_3, hi102_3⟩ := at_T29 HR0.out x5_1 p102 q102
   obtain rfl : ad101 = ad102 := (by injection e102)
   replace hx102_0 := (HB.out.cell (World.block_lt_of_cell? w _ hx102_0)).trans hx102_0
   replace hx102_1 := (HB.out.cell (World.block_lt_of_cell? w _ hx102_1)).trans hx102_1
   replace hx102_2 := (HB.out.cell (World.block_lt_of_cell? w _ hx102_2)).trans hx102_2
   replace hx102_3 := (HB.out.cell (World.block_lt_of_cell? w _ hx102_3)).trans hx102_3
   have HR102_3 := m0_ hi102_3
   have HC102_3 := m0_ hl102_3
   clear hi102_3 hl102_3
   replace p102 := eq_true p102
   replace q102 := eq_true q102
   have ea_ := Option.some.inj (hx101_3.symm.trans hx102_3)
   injection ea_ with ea_ en_ ec_
   subst ea_
   subst ec_
   clear en_
   have p103 : 0 ≤ (x5_1 : Int) := of_decide_eq_true (by first | (with_reducible assumption) | assumption)
   have q103 : x5_1 < (l0.length : Int) := of_decide_eq_true (by first | (with_reducible assumption) | assumption)
   obtain ⟨ad103, A103_3, c103_3, e103, hx103_0, hx103_1, hx103_2, hx103_3, hl103_3, hi103_3⟩ := at_T29 HR0.out x5_1 p103 q103
   obtain rfl : ad101 = ad103 := (by injection e103)
   replace hx103_0 := (HB.out.cell (World.block_lt_of_cell? w _ hx103_0)).trans hx103_0
   replace hx103_1 := (HB.out.cell (World.block_lt_of_cell? w _ hx103_1)).trans hx103_1
   replace hx103_2 := (HB.out.cell (World.block_lt_of_cell? w _ hx103_2)).trans hx103_2
   replace hx103_3 := (HB.out.cell (World.block_lt_of_cell? w _ hx103_3)).trans hx103_3
   have HR103_3 := m0_ hi103_3
   have HC103_3 := m0_ hl103_3
   clear hi103_3 hl103_3
   replace p103 := eq_true p103
   replace q103 := eq_true q103
   have ea_ := Option.some.inj (hx101_3.symm.trans hx103_3)
   injection ea_ with ea_ en_ ec_
   subst ea_
   subst ec_
   clear en_
   have p104 : 0 ≤ (x5_1 : Int) := of_decide_eq_true (by first | (with_reducible assumption) | assumption)
   have q104 : x5_1 < (l0.length : Int) := of_decide_eq_true (by first | (with_reducible assumption) | assumption)
   obtain ⟨ad104, A104_3, c104_3, e104, hx104_0, hx104_1, hx104_2, hx104_3, hl104_3, hi104_3⟩ := at_T29 HR0.out x5_1 p104 q104
   obtain rfl : ad101 = ad104 := (by injection e104)
   replace hx104_0 := (HB.out.cell (World.block_lt_of_cell? w _ hx104_0)).trans hx104_0
   replace hx104_1 := (HB.out.cell (World.block_lt_of_cell? w _ hx104_1)).trans hx104_1
   replace hx104_2 := (HB.out.cell (World.block_lt_of_cell? w _ hx104_2)).trans hx104_2
   replace hx104_3 := (HB.out.cell (World.block_lt_of_cell? w _ hx104_3)).trans hx104_3
   have HR104_3 := m0_ hi104_3
   have HC104_3 := m0_ hl104_3
   clear hi104_3 hl104_3
   replace p104 := eq_true p104
   replace q104 := eq_true q104
   have ea_ := Option.some.inj (hx101_3.symm.trans hx104_3)
   injection ea_ with ea_ en_ ec_
   subst ea_
   subst ec_
   clear en_
   go_wp2_with (first | ((with_reducible refine gate_callee (f := 47) rfl ?_);refine goesL_ (some 45) rfl rfl Tryd.func47 (by kernel_rfl) rfl #[.slice A101_3 ((rd_T29 l0 x5_1).f3).length c101_3, .int .i64 (wrap64 ((wrap64 ((wrap64 (x1_1 + 1)) + 1)) + 1))] rfl (by (try simp only [List.map_toArray, List.map_cons, List.map_nil]);first | done | rfl | (simp only [List.length_drop, List.length_take];rfl)) ?_;(with_reducible refine (ih_47 k1 (by have := HK1.out;omega) _ _ ((rd_T29 l0 x5_1).f3) (wrap64 ((wrap64 ((wrap64 (x1_1 + 1)) + 1)) + 1)) t105 _ ?side1 ?side2 A8.out).mono ?_);(case side1 => repeat (first | exact (Kd.C_below HR104_3.out HB.out) | (with_reducible refine Kd.C_alloc ?_ _) | (with_reducible refine Kd.C_drewN ?_ _) | (with_reducible refine Kd.C_drew ?_)));(case side2 => exact HC104_3.out);rintro e w11 ⟨rfl, hb⟩;refine ⟨_, rfl, ?_⟩;replace HB := m0_ (below_step (by exact HB.out) hb);(try clear hb);(try clear hb2);(try clear hk);(try clear hi)))
   go_roundg k1
   case measure => have := HK1.out;omega
   case rel => exact ⟨(t105), (wrap64 (x5_1 + 1)), (by first | rfl | (simp;done) | (simp [*];done)), (by first | rfl | (simp;done) | (simp [*];done)), H', ⟨by have := HK1.out;omega⟩, ⟨by repeat (first | (with_reducible first | exact HB.out | apply below_alloc | apply pw_below_drewN | apply below_drew1) | exact HB.out)⟩⟩


set_option maxHeartbeats 8000000 in
set_option maxRecDepth 100000 in
theorem laws_heldEx.calls_step (k : Nat) (ih_47 : ∀ k_, k_ < k → ∀ (A0 : Option Addr) (c0 : Nat) (l0 : List (S29)) (a1 : Int) (r : Int) (w : World) (hr0 : Kd.C k29 w A0 l0.length l0) (hc0 : l0.length ≤ c0) (h : laws_heldExS.f k_ l0 a1 = some r),
  Calls Tryd.prog 47 #[.slice A0 l0.length c0, .int .i64 a1] w fun e w' => e = .returned (.int .i64 r) ∧ Below w.heap.size w w') (ih_24 : ∀ k_, k_ < k → ∀ (a0_0 : Int) (a0_1 : Int) (a0_2 : Int) (A0_3 : Option Addr) (c0_3 : Nat) (l0_3 : List (S29)) (a1 : Int) (r : Int) (w : World) (hr0_3 : Kd.C k29 w A0_3 l0_3.length l0_3) (hc0_3 : l0_3.length ≤ c0_3) (h : laws_heldEx.f k_ a0_0 a0_1 a0_2 l0_3 a1 = some r),
  Calls Tryd.prog 24 #[.agg #[.int .i64 a0_0, .int .i64 a0_1, .int .i64 a0_2, .slice A0_3 l0_3.length c0_3], .int .i64 a1] w fun e w' => e = .returned (.int .i64 r) ∧ Below w.heap.size w w') : ∀ (a0_0 : Int) (a0_1 : Int) (a0_2 : Int) (A0_3 : Option Addr) (c0_3 : Nat) (l0_3 : List (S29)) (a1 : Int) (r : Int) (w : World) (hr0_3 : Kd.C k29 w A0_3 l0_3.length l0_3) (hc0_3 : l0_3.length ≤ c0_3) (h : laws_heldEx.f k a0_0 a0_1 a0_2 l0_3 a1 = some r),
  Calls Tryd.prog 24 #[.agg #[.int .i64 a0_0, .int .i64 a0_1, .int .i64 a0_2, .slice A0_3 l0_3.length c0_3], .int .i64 a1] w fun e w' => e = .returned (.int .i64 r) ∧ Below w.heap.size w w' := by
 intro a0_0 a0_1 a0_2 A0_3 c0_3 l0_3 a1 r w hr0_3 hc0_3 h
 cases k with
 | zero => exact absurd h (by simp [laws_heldEx.f])
 | succ k =>
 simp only [laws_heldEx.f] at h
 have hu29 := Tryd.underlying29
 have HR0_3 := m0_ hr0_3
 have HC0_3 := m0_ hc0_3
 clear hr0_3 hc0_3
 have HB := m0_ (Below.refl w.heap.size w)
 have H : ((laws_heldExS.f k l0_3 a1).bind fun t107 => (if t107 < 0 then (some (-1)) else (some t107))) = some r := h
 clear h
 replace H := Option.bind_eq_some_iff.mp H
 obtain ⟨t107, A30, H⟩ := H
 replace H : (if t107 < 0 then (some (-1)) else (some t107)) = some r := H
 have A3 := m0_ A30
 clear A30
 by_cases c4 : t107 < 0
 ·rw [if_pos c4] at H
  have c4b0 : decide (t107 < 0) = true := decide_eq_true c4
  clear c4
  obtain rfl := Option.some.inj H
  go_enter Tryd.func24, Tryd.ntmps24
  go_wp2_with (first | ((with_reducible refine gate_dst (N := 2) rfl ?_);refine box_event ?hg (N := 2) ?hd (cs := #[.int .i64 a0_0, .int .i64 a0_1, .int .i64 a0_2, .slice A0_3 l0_3.length c0_3]) (t := 29) ?hr ?_;(case hd => rfl);(case hg => rfl);(case hr => first | (go_simp;done) | (go_simp;rfl));intro gb106 hg w5 hbox hb;have BK106 := m0_ (hbox);have GW106 := m0_ ((by rw [hg];exact (below_size (by exact HB.out)) : w.heap.size ≤ gb106));have GE106 := m0_ ((by rw [hg];exact (below_size (by exact HB.out)) : w.heap.size ≤ gb106));replace HB := m0_ (below_step (by exact HB.out) hb);clear hb hbox hg;obtain ⟨hcz6_0, hcz6_1, hcz6_2, hcz6_3, hfz6_0, hfz6_1, hfz6_2, hfz6_3⟩ := bx4 BK106.out) | ((with_reducible refine gate_callee (f := 47) rfl ?_);refine goesL_ (some 8) rfl rfl Tryd.func47 (by kernel_rfl) rfl #[.slice A0_3 l0_3.length c0_3, .int .i64 a1] rfl (by (try simp only [List.map_toArray, List.map_cons, List.map_nil]);first | done | rfl | (simp only [List.length_drop, List.length_take];rfl)) ?_;(with_reducible refine (ih_47 k (by omega) _ _ l0_3 a1 t107 _ ?side1 ?side2 A3.out).mono ?_);(case side1 => repeat (first | exact (Kd.C_below HR0_3.out HB.out) | (with_reducible refine Kd.C_alloc ?_ _) | (with_reducible refine Kd.C_drewN ?_ _) | (with_reducible refine Kd.C_drew ?_)));(case side2 => exact HC0_3.out);rintro e w7 ⟨rfl, hb⟩;refine ⟨_, rfl, ?_⟩;replace BK106 := m0_ (blk_below BK106.out hb);replace HB := m0_ (below_step (by exact HB.out) hb);(try clear hb);(try clear hb2);(try clear hk);(try clear hi)))
  go_ret
  exact ⟨by first | rfl | (simp [errW_none, errW_some] <;> rfl) | (simp [*, errW_none, errW_some] <;> rfl), by repeat (first | (with_reducible first | exact HB.out | apply below_alloc | apply pw_below_drewN | apply below_drew1 | refine below_set ?_ GE106.out) | exact HB.out)⟩
 ·rw [if_neg c4] at H
  have c4b0 : decide (t107 < 0) = false := decide_eq_false c4
  clear c4
  obtain rfl := Option.some.inj H
  go_enter Tryd.func24, Tryd.ntmps24
  go_wp2_with (first | ((with_reducible refine gate_dst (N := 2) rfl ?_);refine box_event ?hg (N := 2) ?hd (cs := #[.int .i64 a0_0, .int .i64 a0_1, .int .i64 a0_2, .slice A0_3 l0_3.length c0_3]) (t := 29) ?hr ?_;(case hd => rfl);(case hg => rfl);(case hr => first | (go_simp;done) | (go_simp;rfl));intro gb106 hg w8 hbox hb;have BK106 := m0_ (hbox);have GW106 := m0_ ((by rw [hg];exact (below_size (by exact HB.out)) : w.heap.size ≤ gb106));have GE106 := m0_ ((by rw [hg];exact (below_size (by exact HB.out)) : w.heap.size ≤ gb106));replace HB := m0_ (below_step (by exact HB.out) hb);clear hb hbox hg;obtain ⟨hcz9_0, hcz9_1, hcz9_2, hcz9_3, hfz9_0, hfz9_1, hfz9_2, hfz9_3⟩ := bx4 BK106.out) | ((with_reducible refine gate_callee (f := 47) rfl ?_);refine goesL_ (some 8) rfl rfl Tryd.func47 (by kernel_rfl) rfl #[.slice A0_3 l0_3.length c0_3, .int .i64 a1] rfl (by (try simp only [List.map_toArray, List.map_cons, List.map_nil]);first | done | rfl | (simp only [List.length_drop, List.length_take];rfl)) ?_;(with_reducible refine (ih_47 k (by omega) _ _ l0_3 a1 t107 _ ?side1 ?side2 A3.out).mono ?_);(case side1 => repeat (first | exact (Kd.C_below HR0_3.out HB.out) | (with_reducible refine Kd.C_alloc ?_ _) | (with_reducible refine Kd.C_drewN ?_ _) | (with_reducible refine Kd.C_drew ?_)));(case side2 => exact HC0_3.out);rintro e w10 ⟨rfl, hb⟩;refine ⟨_, rfl, ?_⟩;replace BK106 := m0_ (blk_below BK106.out hb);replace HB := m0_ (below_step (by exact HB.out) hb);(try clear hb);(try clear hb2);(try clear hk);(try clear hi)))
  go_ret
  exact ⟨by first | rfl | (simp [errW_none, errW_some] <;> rfl) | (simp [*, errW_none, errW_some] <;> rfl), by repeat (first | (with_reducible first | exact HB.out | apply below_alloc | apply pw_below_drewN | apply below_drew1 | refine below_set ?_ GE106.out) | exact HB.out)⟩

theorem laws_heldExS.calls_all (k : Nat) : (∀ (A0 : Option Addr) (c0 : Nat) (l0 : List (S29)) (a1 : Int) (r : Int) (w : World) (hr0 : Kd.C k29 w A0 l0.length l0) (hc0 : l0.length ≤ c0) (h : laws_heldExS.f k l0 a1 = some r),
  Calls Tryd.prog 47 #[.slice A0 l0.length c0, .int .i64 a1] w fun e w' => e = .returned (.int .i64 r) ∧ Below w.heap.size w w') ∧ (∀ (a0_0 : Int) (a0_1 : Int) (a0_2 : Int) (A0_3 : Option Addr) (c0_3 : Nat) (l0_3 : List (S29)) (a1 : Int) (r : Int) (w : World) (hr0_3 : Kd.C k29 w A0_3 l0_3.length l0_3) (hc0_3 : l0_3.length ≤ c0_3) (h : laws_heldEx.f k a0_0 a0_1 a0_2 l0_3 a1 = some r),
  Calls Tryd.prog 24 #[.agg #[.int .i64 a0_0, .int .i64 a0_1, .int .i64 a0_2, .slice A0_3 l0_3.length c0_3], .int .i64 a1] w fun e w' => e = .returned (.int .i64 r) ∧ Below w.heap.size w w') := by
 induction k using Nat.strongRecOn with
 | _ k ih =>
 exact ⟨laws_heldExS.calls_step k (fun k_ h_ => (ih k_ h_).1) (fun k_ h_ => (ih k_ h_).2), laws_heldEx.calls_step k (fun k_ h_ => (ih k_ h_).1) (fun k_ h_ => (ih k_ h_).2)⟩
theorem laws_heldEx.calls (k : Nat) : ∀ (a0_0 : Int) (a0_1 : Int) (a0_2 : Int) (A0_3 : Option Addr) (c0_3 : Nat) (l0_3 : List (S29)) (a1 : Int) (r : Int) (w : World) (hr0_3 : Kd.C k29 w A0_3 l0_3.length l0_3) (hc0_3 : l0_3.length ≤ c0_3) (h : laws_heldEx.f k a0_0 a0_1 a0_2 l0_3 a1 = some r),
  Calls Tryd.prog 24 #[.agg #[.int .i64 a0_0, .int .i64 a0_1, .int .i64 a0_2, .slice A0_3 l0_3.length c0_3], .int .i64 a1] w fun e w' => e = .returned (.int .i64 r) ∧ Below w.heap.size w w' := (laws_heldExS.calls_all k).2

end Go.Proofs.YtbcdfbiggjfmlaaDoor.M
namespace Go.Proofs.YtbcdfbiggjfmlaaDoor.M
set_option linter.unusedVariables false
set_option linter.unusedSimpArgs false
open Go Go.RowKit Go.Proofs.YtbcdfbiggjfmlaaDoorW.PrintWords Go.Proofs.YtbcdfbiggjfmlaaDoorW.PrintLast Go.Proofs.YtbcdfbiggjfmlaaDoorW.PrintMore

theorem S_inner {α : Type} {d : Kd α} {e base : Nat} {W W' : World} {ok oki : Nat → Prop} {v : Value} {xs : List α} {i : Int} {c : List Value} {x' : α} (HH : Kd.H d e W base ok v xs i oki c) (hk : Kept W W' oki) (hM : d.M W' base (fun k => oki k ∨ W.heap.size ≤ k) x' c) (hnew : ∀ k, W.heap.size ≤ k → ok k) : Kd.S d e W' base ok v (xs.set i.toNat x') :=
  Kd.H_back (Kd.H_kept (Kd.H_widen HH) hk (fun _ _ hn h => hn (.inl h))) hM (fun k h => h.elim .inl (fun h => .inr ⟨hnew k h, h⟩))
theorem getD_set {α : Type} (xs : List α) (n : Nat) (x z : α) (h : n < xs.length) : (xs.set n x).getD n z = x := by
  rw [List.getD_eq_getElem?_getD, List.getElem?_set_self h]; rfl
def markT : Nat → List S29 → Int → Int → Option (Int × List S29)
  | 0, _, _, _ => none
  | k + 1, x0, x1, x5 => if x5 < (x0.length : Int) then (if 0 ≤ x5 then ((markT k (x0.getD x5.toNat z29).f3 (wrap64 (wrap64 (wrap64 (x1 + 1) + 1) + 1)) 0).bind fun t => markT k (x0.set x5.toNat ⟨x1, wrap64 (x1 + 1), wrap64 (wrap64 (x1 + 1) + 1), t.2⟩) t.1 (wrap64 (x5 + 1))) else none) else some (x1, x0)
theorem markT.mono : ∀ k, ∀ y0 y1 y2, LeO (markT k y0 y1 y2) (markT (k + 1) y0 y1 y2)
  | 0 => fun _ _ _ r h => by simp [markT] at h
  | k + 1 => fun y0 y1 y2 => by
    rw [markT.eq_def (k + 1), markT.eq_def (k + 1 + 1)]
    exact LeO.ite (LeO.ite (LeO.bind (markT.mono k _ _ _) (fun t => markT.mono k _ _ _)) (LeO.refl _)) (LeO.refl _)
set_option maxHeartbeats 4000000 in
set_option maxRecDepth 100000 in
theorem markTS_walk : ∀ (k : Nat) (P0_ : Nat → Prop) (u9000_ : Value) (l0 : List S29) (a1 : Int) (r1 : Int) (r2 : List S29) (w0 w : World), Below w0.heap.size w0 w → SR w w0.heap.size P0_ u9000_ l0 → markT k l0 a1 0 = some (r1, r2) →
    Calls Tryd.prog 46 #[u9000_, .int .i64 a1] w fun e w' => e = .returned (.int .i64 r1) ∧ SR w' w0.heap.size (fun k_ => (P0_ k_ ∨ w.heap.size ≤ k_)) u9000_ r2 ∧ Below w0.heap.size w0 w' ∧ Kept w w' (fun k_ => P0_ k_) := by
  intro k
  induction k using Nat.strongRecOn with
  | ind k ih =>
  intro P0_ u9000_ l0 a1 r1 r2 w0 w hB ho0 h
  have HI0 := m0_ ih
  have HO0 := m0_ (show SR w w0.heap.size (fun k_ => (P0_ k_ ∨ w.heap.size ≤ k_)) u9000_ l0 from SR.mono ho0 (fun k_ hk => .inl hk))
  have HK0 := m0_ (Kept.refl w (fun k_ => P0_ k_))
  have HB0 := m0_ hB
  have hu27 := Tryd.underlying29
  have HH0 := m0_ h
  clear hB ho0 h ih
  go_enter Tryd.func46, Tryd.ntmps46
  go_wp2
  go_loopg [1, 5] k (fun kq v1 v5 w' => ∃ (x0 : List S29) (x1 : Int) (x5 : Int), v1 = .int .i64 x1 ∧ v5 = .int .i64 x5 ∧ Aside0 (markT kq x0 x1 x5 = some (r1, r2)) ∧ Aside0 (kq ≤ k) ∧ Aside0 (SR w' w0.heap.size (fun k_ => (P0_ k_ ∨ w.heap.size ≤ k_)) u9000_ x0) ∧ Aside0 (Kept w w' (fun k_ => P0_ k_)) ∧ Aside0 (Below w0.heap.size w0 w'))
  case atStart => exact ⟨l0, a1, 0, rfl, rfl, HH0, ⟨Nat.le_refl _⟩, HO0, HK0, HB0⟩
  case round =>
    clear HO0 HK0 HB0 HH0
    obtain ⟨x0, x1, x5, rfl, rfl, HA, HK1, HO, HK, HB⟩ := hrel
    cases gk with
    | zero => exact absurd HA.out (by simp [markT])
    | succ k1 =>
      have H := HA.out
      clear HA
      rw [markT.eq_def (k1 + 1)] at H
      simp only at H
      by_cases c1 : x5 < (x0.length : Int)
      rotate_left
      · rw [if_neg c1] at H
        obtain ⟨rfl, rfl⟩ := Prod.mk.inj (Option.some.inj H)
        have c1b : decide (x5 < (x0.length : Int)) = false := decide_eq_false c1
        obtain ⟨Ao, co, eo⟩ := Kd.S_slice HO.out
        subst eo
        go_wp2
        go_ret
        exact ⟨rfl, HO.out, HB.out, HK.out⟩
      rw [if_pos c1] at H
      by_cases c2 : 0 ≤ x5
      rotate_left
      · rw [if_neg c2] at H
        cases H
      rw [if_pos c2] at H
      obtain ⟨⟨t1, t2⟩, ht, H⟩ := Option.bind_eq_some_iff.1 H
      have HT := m0_ ht
      have HN := m0_ H
      clear ht H
      have hlen : x5.toNat < x0.length := by omega
      obtain ⟨go, co, eo, gb, gl, cl, hg⟩ := Kd.S_form HO.out (by omega)
      subst eo
      have GB := m0_ gb
      have HMg := m0_ ((Kd.S_R (d := kT) HO.out).1 go rfl)
      clear gb gl hg
      obtain ⟨oki, c, hcl, hM, hcc, hoki, hH⟩ := Kd.S_lend HO.out z29 x5 c2 c1
      obtain ⟨v2, rfl, hv2⟩ := kT_openM hM
      have HH := m0_ hH
      have HV := m0_ hv2
      have HI := m0_ hoki
      clear hcl hM hcc hoki hH hv2 HO
      have c1b : decide (x5 < (x0.length : Int)) = true := decide_eq_true c1
      have p5 := eq_true c2
      have q5 := eq_true c1
      go_wp2_with (first | ((with_reducible refine gate_store (t := 3) (p := 16) rfl ?_); refine Kd.H_store kT w0.heap.size rfl rfl 3 (.tmp 16) (.tmp 14) rfl 29 x5 0 x0 (⟨x1, (x0.getD x5.toNat z29).f1, (x0.getD x5.toNat z29).f2, (x0.getD x5.toNat z29).f3⟩ : S29) (.int .i64 (x1)) [.int .i64 (x1)] _ _ oki oki rfl ?hoff rfl rfl ?hti ?hone HH.out c2 c1 ?hj ?hM (fun _ h => h) HB.out ?_; (case hoff => rfl); (case hti => rfl); (case hone => (intro q hq; rw [List.mem_singleton.1 hq]; rfl)); (case hj => exact Nat.le_of_ble_eq_true rfl); (case hM => exact kT_mkM (x := (⟨x1, (x0.getD x5.toNat z29).f1, (x0.getD x5.toNat z29).f2, (x0.getD x5.toNat z29).f3⟩ : S29)) HV.out); intro w8 hs hb hg; have n1_ := m0_ hb; have n2_ := m0_ (Kept.of_grown (S := (fun k_ => P0_ k_)) hg HK.out (fun k_ e_ => (by injection e_ with e_; rw [← e_]; exact HMg.out))); clear HB HK HH HV HI hb hg oki; have HB := n1_; have HK := n2_; clear n1_ n2_; obtain ⟨oki, cc, hcl, hM, hcc, hoki, hH⟩ := Kd.S_lend hs z29 x5 c2 c1; rw [getD_set _ _ _ _ (by first | exact hlen | (rw [List.length_set]; exact hlen))] at hM; obtain ⟨v2, rfl, hv2⟩ := kT_openM hM; have HH := m0_ hH; have HV := m0_ hv2; have HI := m0_ hoki; clear hcl hM hcc hoki hH hv2 hs) | ((with_reducible refine gate_store (t := 3) (p := 23) rfl ?_); refine Kd.H_store kT w0.heap.size rfl rfl 3 (.tmp 23) (.tmp 21) rfl 29 x5 1 (x0.set x5.toNat (⟨x1, (x0.getD x5.toNat z29).f1, (x0.getD x5.toNat z29).f2, (x0.getD x5.toNat z29).f3⟩ : S29)) (⟨x1, wrap64 (x1 + 1), (x0.getD x5.toNat z29).f2, (x0.getD x5.toNat z29).f3⟩ : S29) (.int .i64 (wrap64 (x1 + 1))) [.int .i64 (wrap64 (x1 + 1))] _ _ oki oki rfl ?hoff rfl rfl ?hti ?hone HH.out c2 c1 ?hj ?hM (fun _ h => h) HB.out ?_; (case hoff => rfl); (case hti => rfl); (case hone => (intro q hq; rw [List.mem_singleton.1 hq]; rfl)); (case hj => exact Nat.le_of_ble_eq_true rfl); (case hM => exact kT_mkM (x := (⟨x1, wrap64 (x1 + 1), (x0.getD x5.toNat z29).f2, (x0.getD x5.toNat z29).f3⟩ : S29)) HV.out); intro w8 hs hb hg; have n1_ := m0_ hb; have n2_ := m0_ (Kept.of_grown (S := (fun k_ => P0_ k_)) hg HK.out (fun k_ e_ => (by injection e_ with e_; rw [← e_]; exact HMg.out))); clear HB HK HH HV HI hb hg oki; have HB := n1_; have HK := n2_; clear n1_ n2_; rw [List.set_set] at hs; obtain ⟨oki, cc, hcl, hM, hcc, hoki, hH⟩ := Kd.S_lend hs z29 x5 c2 c1; rw [getD_set _ _ _ _ (by first | exact hlen | (rw [List.length_set]; exact hlen))] at hM; obtain ⟨v2, rfl, hv2⟩ := kT_openM hM; have HH := m0_ hH; have HV := m0_ hv2; have HI := m0_ hoki; clear hcl hM hcc hoki hH hv2 hs) | ((with_reducible refine gate_store (t := 3) (p := 30) rfl ?_); refine Kd.H_store kT w0.heap.size rfl rfl 3 (.tmp 30) (.tmp 28) rfl 29 x5 2 (x0.set x5.toNat (⟨x1, wrap64 (x1 + 1), (x0.getD x5.toNat z29).f2, (x0.getD x5.toNat z29).f3⟩ : S29)) (⟨x1, wrap64 (x1 + 1), wrap64 (wrap64 (x1 + 1) + 1), (x0.getD x5.toNat z29).f3⟩ : S29) (.int .i64 (wrap64 (wrap64 (x1 + 1) + 1))) [.int .i64 (wrap64 (wrap64 (x1 + 1) + 1))] _ _ oki oki rfl ?hoff rfl rfl ?hti ?hone HH.out c2 c1 ?hj ?hM (fun _ h => h) HB.out ?_; (case hoff => rfl); (case hti => rfl); (case hone => (intro q hq; rw [List.mem_singleton.1 hq]; rfl)); (case hj => exact Nat.le_of_ble_eq_true rfl); (case hM => exact kT_mkM (x := (⟨x1, wrap64 (x1 + 1), wrap64 (wrap64 (x1 + 1) + 1), (x0.getD x5.toNat z29).f3⟩ : S29)) HV.out); intro w8 hs hb hg; have n1_ := m0_ hb; have n2_ := m0_ (Kept.of_grown (S := (fun k_ => P0_ k_)) hg HK.out (fun k_ e_ => (by injection e_ with e_; rw [← e_]; exact HMg.out))); clear HB HK HH HV HI hb hg oki; have HB := n1_; have HK := n2_; clear n1_ n2_; rw [List.set_set] at hs; obtain ⟨oki, cc, hcl, hM, hcc, hoki, hH⟩ := Kd.S_lend hs z29 x5 c2 c1; rw [getD_set _ _ _ _ (by first | exact hlen | (rw [List.length_set]; exact hlen))] at hM; obtain ⟨v2, rfl, hv2⟩ := kT_openM hM; have HH := m0_ hH; have HV := m0_ hv2; have HI := m0_ hoki; have hcell : w8.cell? ⟨go, x5.toNat * 4 + 3, none⟩ = some v2 := hcc 3 _ rfl; clear hcl hM hcc hoki hH hv2 hs) | (go_at_call 46; fail))
      refine (HI0.out k1 (by have := HK1.out; omega) oki v2 _ _ t1 t2 w0 _ HB.out HV.out HT.out).mono ?_
      rintro e w10 ⟨rfl, hr, hb, hk⟩
      have hs := S_inner HH.out hk (kT_mkM (x := (⟨x1, wrap64 (x1 + 1), wrap64 (wrap64 (x1 + 1) + 1), t2⟩ : S29)) hr) (fun k_ h_ => .inr (Nat.le_trans HK.out.1 h_))
      rw [List.set_set] at hs
      have HO2 := m0_ hs
      have HB2 := m0_ hb
      have HK2 := m0_ (HK.out.then_ hk (fun k_ h_ => (HI.out k_ h_).1))
      clear hs hr hb hk HH HV HI HB HK
      go_wp2
      go_roundg k1
      case measure => have := HK1.out; omega
      case rel => exact ⟨_, _, _, rfl, rfl, HN, ⟨by have := HK1.out; omega⟩, HO2, HK2, HB2⟩
theorem markT_walk (k : Nat) (P0_ : Nat → Prop) (v : Value) (f0 f1 f2 : Int) (l0 : List S29) (a1 : Int) (r1 : Int) (r2 : List S29) (w0 w : World) (hB : Below w0.heap.size w0 w) (ho0 : SR w w0.heap.size P0_ v l0) (h : markT k l0 a1 0 = some (r1, r2)) :
    Calls Tryd.prog 23 #[.agg #[.int .i64 f0, .int .i64 f1, .int .i64 f2, v], .int .i64 a1] w fun e w' => e = .returned (.int .i64 r1) ∧ SR w' w0.heap.size (fun k_ => (P0_ k_ ∨ w.heap.size ≤ k_)) v r2 ∧ Below w0.heap.size w0 w' ∧ Kept w w' (fun k_ => P0_ k_) := by
  have HS := m0_ ho0
  have HB := m0_ hB
  have HH := m0_ h
  clear hB ho0 h
  go_enter Tryd.func23, Tryd.ntmps23
  go_wp2_with (first | ((with_reducible refine gate_dst (N := 2) rfl ?_); refine box_event ?hg (N := 2) ?hd (cs := #[.int .i64 f0, .int .i64 f1, .int .i64 f2, v]) (t := 29) ?hr ?_; (case hd => rfl); (case hg => rfl); (case hr => first | (go_simp; done) | (go_simp; rfl)); intro gb2 hg wb2 hbox hb; have n1_ := m0_ (below_step HB.out hb); have n2_ := m0_ (SR.step HS.out (fun k_ _ hlt_ => hb.block k_ hlt_)); have n3_ := m0_ hb; clear HB HS; have HB := n1_; have HS := n2_; have hz3_ := (blk_cell hbox 3).trans (show _ = some v from rfl); clear n1_ n2_ hg hb) | (go_at_call 46; fail))
  refine (markTS_walk k P0_ v l0 a1 r1 r2 w0 _ HB.out HS.out HH.out).mono ?_
  rintro e w10 ⟨rfl, hr, hb, hk⟩
  have n4_ := m0_ hr
  have n5_ := m0_ hb
  have n6_ := m0_ hk
  clear hr hb hk
  go_wp2
  go_ret
  exact ⟨rfl, SR.mono n4_.out (fun k_ hk => hk.elim .inl (fun h => .inr (Nat.le_trans n3_.out.size h))), n5_.out, ⟨Nat.le_trans n3_.out.size n6_.out.1, fun i hi hn => (n6_.out.2 i (Nat.lt_of_lt_of_le hi n3_.out.size) hn).trans (n3_.out.block i hi)⟩⟩
end Go.Proofs.YtbcdfbiggjfmlaaDoor.M
namespace Go.Proofs.YtbcdfbiggjfmlaaDoor.M
open Go.RowKit Go.Proofs.YtbcdfbiggjfmlaaDoorW.PrintWords Go.Proofs.YtbcdfbiggjfmlaaDoorW.PrintLast Go.Proofs.YtbcdfbiggjfmlaaDoorW.PrintMore
attribute [local go_sem] max2_int min2_int max_two min_two max_three min_three max_four min_four
set_option linter.unusedVariables false
set_option linter.unusedSimpArgs false

noncomputable def laws_FnExactExRead.f (k : Nat) (a0 : ByteArray) : Option Bool := if (a0.size : Int) > 1048576 then some true else (spec_ExRead.f k a0).bind fun y => (impl_ExRead.f k a0).bind fun x => (laws_eqEx.f k x.1 x.2.1 x.2.2.1 x.2.2.2.1 y.1 y.2.1 y.2.2.1 y.2.2.2.1).bind fun e1 =>
 (markT k x.2.2.2.1 1 0).bind fun m => (laws_heldEx.f k x.1 x.2.1 x.2.2.1 m.2 1).bind fun q => if (e1 = true ∧ x.2.2.2.2 = y.2.2.2.2) ∧ (0 ≤ q ∧ q = m.1) then some true else none
theorem held_calls (k : Nat) (f0 f1 f2 a r : Int) (n : Nat) (A : Option Addr) (c : Nat) (zs : List S29) (w : World) (hn : n = zs.length) (hc : n ≤ c) (hr : Kd.C k29 w A zs.length zs) (h : laws_heldEx.f k f0 f1 f2 zs a = some r) :
  Calls Tryd.prog 24 #[.agg #[.int .i64 f0, .int .i64 f1, .int .i64 f2, .slice A n c], .int .i64 a] w fun e w' => e = .returned (.int .i64 r) ∧ Below w.heap.size w w' := by
 subst hn
 exact laws_heldEx.calls k f0 f1 f2 A c zs a r w hr hc h
set_option maxHeartbeats 4000000 in
set_option maxRecDepth 100000 in
theorem laws_FnExactExRead.calls (k : Nat) (a0 : ByteArray) (r : Bool) (hT_ : Aside0 (r = true)) (w : World) (h : laws_FnExactExRead.f k a0 = some r) (ht_TabX : TabX w) (ht_TabR : TabR w) :
  Calls Tryd.prog 6 #[.string a0] w fun e w' => e = .returned (.bool r) ∧ Below w.heap.size w w' := by
 obtain rfl := hT_.out
 unfold laws_FnExactExRead.f at h
 have HT := m0_ ht_TabX
 have HR := m0_ ht_TabR
 have HB := m0_ (Below.refl w.heap.size w)
 have hu1_ := Tryd.underlying29
 clear ht_TabX ht_TabR
 go_enter Tryd.func6, Tryd.ntmps6
 by_cases c1_ : (a0.size : Int) > 1048576
 ·have c1b : decide ((a0.size : Int) > 1048576) = true := decide_eq_true c1_
  go_wp2
  go_ret
  exact ⟨rfl, HB.out⟩
 have c1b : decide ((a0.size : Int) > 1048576) = false := decide_eq_false c1_
 rw [if_neg c1_] at h
 obtain ⟨⟨y0, y1, y2, ys, b⟩, hx, h_⟩ := Option.bind_eq_some_iff.1 h
 clear h
 have h := h_
 clear h_
 have Y0 := m0_ hx
 clear hx
 obtain ⟨⟨x0, x1, x2, xs, b2⟩, hx, h_⟩ := Option.bind_eq_some_iff.1 h
 clear h
 have h := h_
 clear h_
 have X0 := m0_ hx
 clear hx
 obtain ⟨e1, hx, h_⟩ := Option.bind_eq_some_iff.1 h
 clear h
 have h := h_
 clear h_
 have E1 := m0_ hx
 clear hx
 obtain ⟨⟨p, zs⟩, hx, h_⟩ := Option.bind_eq_some_iff.1 h
 clear h
 have h := h_
 clear h_
 have MP := m0_ hx
 clear hx
 obtain ⟨q, hx, h_⟩ := Option.bind_eq_some_iff.1 h
 clear h
 have h := h_
 clear h_
 have TQ := m0_ hx
 clear hx
 have h2 := Decidable.byContradiction (fun c => by rw [if_neg c] at h;cases h) (p := (e1 = true ∧ b2 = b) ∧ (0 ≤ q ∧ q = p))
 obtain ⟨⟨rfl, rfl⟩, y1_, y2_⟩ := h2
 subst y2_
 have d2 : decide (q < 0) = false := decide_eq_false (by omega)
 have d3 : (q != q) = false := bne_self_eq_false q
 have d4 : (b2 != b2) = false := bne_self_eq_false b2
 clear h y1_ c1_
 go_wp2_with (first | (go_at_call 21;fail))
 refine (spec_ExRead.calls k a0 y0 y1 y2 ys b2 _ Y0.out).mono ?_
 rintro e w1 ⟨v_, rfl, hs, hb⟩
 have Zw1 := m0_ (show w.heap.size ≤ w1.heap.size from hb.size)
 have hs_ := Kd.R_mono (ok' := fun k_ => w.heap.size ≤ k_ ∧ k_ < w1.heap.size) (Kd.R_lower (Kd.R_bound hs) (below_size HB.out)) (fun k_ hk => ⟨hk.2.1, hk.2.2.1⟩)
 obtain ⟨AY, cY, rfl⟩ := Kd.R_slice hs_
 have NY_ := m0_ hs_
 clear hs_ hs
 replace HB := m0_ (below_step HB.out hb)
 clear hb
 have FY := NY_;clear NY_
 go_wp2_with (first | ((with_reducible refine gate_dst (N := 3) rfl ?_);refine box_event ?hg (N := 3) ?hd (cs := #[.int .i64 0, .int .i64 0, .int .i64 0, .slice none 0 0]) (t := 29) ?hr ?_;(case hd => rfl);(case hg => rfl);(case hr => first | (go_simp;done) | (go_simp;rfl));intro gb3 hg wb3 hbox hb;have G3 := m0_ (show w1.heap.size ≤ gb3 from by rw [hg];exact Nat.le_refl _);have L3 := m0_ (blk_lt hbox);have Zwb3 := m0_ (show w1.heap.size ≤ wb3.heap.size from hb.size);replace FY := m0_ (Kd.R_below FY.out hb);replace HB := m0_ (below_step HB.out hb);have BK3 := m0_ hbox;clear hg hbox hb) | ((with_reducible refine gate_store (t := 29) (p := 3) (v := .tmp 17) rfl ?_);refine store_blk (w0 := w) (base := w.heap.size) (e := 29) (g := gb3) (off := 0) (cur := #[.int .i64 0, .int .i64 0, .int .i64 0, .slice none 0 0]) (cur' := #[.int .i64 y0, .int .i64 y1, .int .i64 y2, .slice AY ys.length cY]) (u := .agg #[.int .i64 y0, .int .i64 y1, .int .i64 y2, .slice AY ys.length cY]) (seg := [.int .i64 y0, .int .i64 y1, .int .i64 y2, .slice AY ys.length cY]) rfl rfl rfl rfl rfl BK3.out rfl ?ht ?h1 (by simp) rfl HB.out (by have z_w1 := Zw1.out;have z_wb3 := Zwb3.out;have g_3 := G3.out;have l_3 := L3.out;have b_ := below_size HB.out;omega) ?_;(case ht => kernel_rfl);(case h1 => intro q hq;simp only [List.mem_cons, List.not_mem_nil, or_false] at hq;rcases hq with rfl | rfl | rfl | rfl <;> rfl);intro ws3 hs_ hk_ hB_;replace BK3 := m0_ (hs_);replace HB := m0_ (hB_);replace FY := m0_ (Kd.R_keep FY.out hk_ (fun k_ h1 => by have z_w1 := Zw1.out;have z_wb3 := Zwb3.out;have g_3 := G3.out;have l_3 := L3.out;omega));have Zws3 := m0_ (hk_.1);clear hs_ hk_ hB_) | (go_at_call 22;fail))
 refine (ExRead_walk k a0 x0 x1 x2 xs b2 _ X0.out (TabX.below HT.out HB.out) (TabR.below HR.out HB.out)).mono ?_
 rintro e w2 ⟨v_, rfl, hs, hb⟩
 have Zw2 := m0_ (show ws3.heap.size ≤ w2.heap.size from hb.size)
 have hs_ := Kd.S_mono (ok' := fun k_ => ws3.heap.size ≤ k_ ∧ k_ < w2.heap.size) (Kd.S_lower (Kd.S_bound hs) (below_size HB.out)) (fun k_ hk => ⟨hk.2.1, hk.2.2.1⟩)
 obtain ⟨AX, cX, rfl⟩ := Kd.S_slice hs_
 have NX_ := m0_ hs_
 clear hs_ hs
 replace FY := m0_ (Kd.R_below FY.out hb);replace BK3 := m0_ (blk_below BK3.out hb);replace HB := m0_ (below_step HB.out hb)
 clear hb
 have FX := NX_;clear NX_
 go_wp2_with (first | ((with_reducible refine gate_dst (N := 5) rfl ?_);refine box_event ?hg (N := 5) ?hd (cs := #[.int .i64 0, .int .i64 0, .int .i64 0, .slice none 0 0]) (t := 29) ?hr ?_;(case hd => rfl);(case hg => rfl);(case hr => first | (go_simp;done) | (go_simp;rfl));intro gb5 hg wb5 hbox hb;have G5 := m0_ (show w2.heap.size ≤ gb5 from by rw [hg];exact Nat.le_refl _);have L5 := m0_ (blk_lt hbox);have Zwb5 := m0_ (show w2.heap.size ≤ wb5.heap.size from hb.size);replace FY := m0_ (Kd.R_below FY.out hb);replace FX := m0_ (Kd.S_below FX.out hb);replace BK3 := m0_ (blk_below BK3.out hb);replace HB := m0_ (below_step HB.out hb);have BK5 := m0_ hbox;clear hg hbox hb) | ((with_reducible refine gate_store (t := 29) (p := 5) (v := .tmp 22) rfl ?_);refine store_blk (w0 := w) (base := w.heap.size) (e := 29) (g := gb5) (off := 0) (cur := #[.int .i64 0, .int .i64 0, .int .i64 0, .slice none 0 0]) (cur' := #[.int .i64 x0, .int .i64 x1, .int .i64 x2, .slice AX xs.length cX]) (u := .agg #[.int .i64 x0, .int .i64 x1, .int .i64 x2, .slice AX xs.length cX]) (seg := [.int .i64 x0, .int .i64 x1, .int .i64 x2, .slice AX xs.length cX]) rfl rfl rfl rfl rfl BK5.out rfl ?ht ?h1 (by simp) rfl HB.out (by have z_w1 := Zw1.out;have z_wb3 := Zwb3.out;have z_ws3 := Zws3.out;have z_w2 := Zw2.out;have z_wb5 := Zwb5.out;have g_3 := G3.out;have l_3 := L3.out;have g_5 := G5.out;have l_5 := L5.out;have b_ := below_size HB.out;omega) ?_;(case ht => kernel_rfl);(case h1 => intro q hq;simp only [List.mem_cons, List.not_mem_nil, or_false] at hq;rcases hq with rfl | rfl | rfl | rfl <;> rfl);intro ws5 hs_ hk_ hB_;replace BK5 := m0_ (hs_);replace HB := m0_ (hB_);replace FY := m0_ (Kd.R_keep FY.out hk_ (fun k_ h1 => by have z_w1 := Zw1.out;have z_wb3 := Zwb3.out;have z_ws3 := Zws3.out;have z_w2 := Zw2.out;have z_wb5 := Zwb5.out;have g_3 := G3.out;have l_3 := L3.out;have g_5 := G5.out;have l_5 := L5.out;omega));replace FX := m0_ (Kd.S_keep FX.out hk_ (fun k_ h1 => by have z_w1 := Zw1.out;have z_wb3 := Zwb3.out;have z_ws3 := Zws3.out;have z_w2 := Zw2.out;have z_wb5 := Zwb5.out;have g_3 := G3.out;have l_3 := L3.out;have g_5 := G5.out;have l_5 := L5.out;omega));replace BK3 := m0_ (blk_keep BK3.out hk_ (by have z_w1 := Zw1.out;have z_wb3 := Zwb3.out;have z_ws3 := Zws3.out;have z_w2 := Zw2.out;have z_wb5 := Zwb5.out;have g_3 := G3.out;have l_3 := L3.out;have g_5 := G5.out;have l_5 := L5.out;omega));have Zws5 := m0_ (hk_.1);clear hs_ hk_ hB_;have hz3_0 := (blk_cell BK3.out 0).trans (show _ = some (Value.int .i64 y0) from rfl);have hz3_1 := (blk_cell BK3.out 1).trans (show _ = some (Value.int .i64 y1) from rfl);have hz3_2 := (blk_cell BK3.out 2).trans (show _ = some (Value.int .i64 y2) from rfl);have hz3_3 := (blk_cell BK3.out 3).trans (show _ = some (Value.slice AY ys.length cY) from rfl);have hz5_0 := (blk_cell BK5.out 0).trans (show _ = some (Value.int .i64 x0) from rfl);have hz5_1 := (blk_cell BK5.out 1).trans (show _ = some (Value.int .i64 x1) from rfl);have hz5_2 := (blk_cell BK5.out 2).trans (show _ = some (Value.int .i64 x2) from rfl);have hz5_3 := (blk_cell BK5.out 3).trans (show _ = some (Value.slice AX xs.length cX) from rfl)) | (go_at_call 12;fail))
 clear hz3_0 hz3_1 hz3_2 hz3_3 hz5_0 hz5_1 hz5_2 hz5_3
 refine (laws_eqEx.calls k x0 x1 x2 _ _ xs y0 y1 y2 _ _ ys true _ ?s1 ?s2 ?s3 ?s4 E1.out).mono ?_
 (case s1 => exact (Kd.R_reads' (SR.R FX.out)).2.2)
 (case s2 => exact (Kd.R_reads' (SR.R FX.out)).2.1)
 (case s3 => exact (Kd.R_reads' FY.out).2.2)
 (case s4 => exact (Kd.R_reads' FY.out).2.1)
 rintro e w3 ⟨rfl, hb⟩
 have Zw3 := m0_ (show ws5.heap.size ≤ w3.heap.size from hb.size)
 replace FY := m0_ (Kd.R_below FY.out hb);replace FX := m0_ (Kd.S_below FX.out hb);replace BK3 := m0_ (blk_below BK3.out hb);replace BK5 := m0_ (blk_below BK5.out hb);replace HB := m0_ (below_step HB.out hb)
 clear hb
 have hz5_0 := (blk_cell BK5.out 0).trans (show _ = some (Value.int .i64 x0) from rfl);have hz5_1 := (blk_cell BK5.out 1).trans (show _ = some (Value.int .i64 x1) from rfl);have hz5_2 := (blk_cell BK5.out 2).trans (show _ = some (Value.int .i64 x2) from rfl);have hz5_3 := (blk_cell BK5.out 3).trans (show _ = some (Value.slice AX xs.length cX) from rfl)
 go_wp2_with (first | (go_at_call 23;fail))
 clear hz5_0 hz5_1 hz5_2 hz5_3
 refine (markT_walk k _ _ x0 x1 x2 xs 1 q zs w _ HB.out FX.out MP.out).mono ?_
 rintro e w4 ⟨rfl, hs, hb, hk⟩
 have Zw4 := m0_ (show w3.heap.size ≤ w4.heap.size from hk.1)
 replace FY := m0_ (Kd.R_kept FY.out hk (fun k_ h1 h2 => by have z_w1 := Zw1.out;have z_wb3 := Zwb3.out;have z_ws3 := Zws3.out;have z_w2 := Zw2.out;have z_wb5 := Zwb5.out;have z_ws5 := Zws5.out;have z_w3 := Zw3.out;have z_w4 := Zw4.out;have g_3 := G3.out;have l_3 := L3.out;have g_5 := G5.out;have l_5 := L5.out;omega));replace BK3 := m0_ (blk_kept BK3.out hk (fun h2 => by have z_w1 := Zw1.out;have z_wb3 := Zwb3.out;have z_ws3 := Zws3.out;have z_w2 := Zw2.out;have z_wb5 := Zwb5.out;have z_ws5 := Zws5.out;have z_w3 := Zw3.out;have z_w4 := Zw4.out;have g_3 := G3.out;have l_3 := L3.out;have g_5 := G5.out;have l_5 := L5.out;omega));replace BK5 := m0_ (blk_kept BK5.out hk (fun h2 => by have z_w1 := Zw1.out;have z_wb3 := Zwb3.out;have z_ws3 := Zws3.out;have z_w2 := Zw2.out;have z_wb5 := Zwb5.out;have z_ws5 := Zws5.out;have z_w3 := Zw3.out;have z_w4 := Zw4.out;have g_3 := G3.out;have l_3 := L3.out;have g_5 := G5.out;have l_5 := L5.out;omega));replace HB := m0_ (hb)
 clear FX
 have hs_ := Kd.S_mono (ok' := fun k_ => k_ < w4.heap.size) (Kd.S_bound hs) (fun k_ hk => hk.2.2.1)
 have FX := m0_ hs_
 clear hs hs_ hb hk
 have hz5_0 := (blk_cell BK5.out 0).trans (show _ = some (Value.int .i64 x0) from rfl);have hz5_1 := (blk_cell BK5.out 1).trans (show _ = some (Value.int .i64 x1) from rfl);have hz5_2 := (blk_cell BK5.out 2).trans (show _ = some (Value.int .i64 x2) from rfl);have hz5_3 := (blk_cell BK5.out 3).trans (show _ = some (Value.slice AX xs.length cX) from rfl)
 go_wp2_with (first | (go_at_call 24;fail))
 clear hz5_0 hz5_1 hz5_2 hz5_3
 refine (held_calls k x0 x1 x2 1 q _ _ _ zs _ (Kd.R_reads' (SR.R FX.out)).1 (Kd.R_reads' (SR.R FX.out)).2.1 (by have a_ := (Kd.R_reads' (SR.R FX.out)).2.2;have b_ := (Kd.R_reads' (SR.R FX.out)).1;first | exact a_ | (rw [b_] at a_;exact a_)) TQ.out).mono ?_
 rintro e w5 ⟨rfl, hb⟩
 have Zw5 := m0_ (show w4.heap.size ≤ w5.heap.size from hb.size)
 replace FY := m0_ (Kd.R_below FY.out hb);replace FX := m0_ (Kd.S_below FX.out hb);replace BK3 := m0_ (blk_below BK3.out hb);replace BK5 := m0_ (blk_below BK5.out hb);replace HB := m0_ (below_step HB.out hb)
 clear hb
 go_wp2_with (first | (go_at_call 22;fail))
 refine (ExRead_walk k a0 x0 x1 x2 xs b2 _ X0.out (TabX.below HT.out HB.out) (TabR.below HR.out HB.out)).mono ?_
 rintro e w6 ⟨v_, rfl, hs, hb⟩
 have Zw6 := m0_ (show w5.heap.size ≤ w6.heap.size from hb.size)
 have hs_ := Kd.S_mono (ok' := fun k_ => w5.heap.size ≤ k_ ∧ k_ < w6.heap.size) (Kd.S_lower (Kd.S_bound hs) (below_size HB.out)) (fun k_ hk => ⟨hk.2.1, hk.2.2.1⟩)
 obtain ⟨AH, cH, rfl⟩ := Kd.S_slice hs_
 have NH_ := m0_ hs_
 clear hs_ hs
 replace FY := m0_ (Kd.R_below FY.out hb);replace FX := m0_ (Kd.S_below FX.out hb);replace BK3 := m0_ (blk_below BK3.out hb);replace BK5 := m0_ (blk_below BK5.out hb);replace HB := m0_ (below_step HB.out hb)
 clear hb
 have FH := NH_;clear NH_
 go_wp2_with (first | ((with_reducible refine gate_dst (N := 9) rfl ?_);refine box_event ?hg (N := 9) ?hd (cs := #[.int .i64 0, .int .i64 0, .int .i64 0, .slice none 0 0]) (t := 29) ?hr ?_;(case hd => rfl);(case hg => rfl);(case hr => first | (go_simp;done) | (go_simp;rfl));intro gb9 hg wb9 hbox hb;have G9 := m0_ (show w6.heap.size ≤ gb9 from by rw [hg];exact Nat.le_refl _);have L9 := m0_ (blk_lt hbox);have Zwb9 := m0_ (show w6.heap.size ≤ wb9.heap.size from hb.size);replace FY := m0_ (Kd.R_below FY.out hb);replace FX := m0_ (Kd.S_below FX.out hb);replace FH := m0_ (Kd.S_below FH.out hb);replace BK3 := m0_ (blk_below BK3.out hb);replace BK5 := m0_ (blk_below BK5.out hb);replace HB := m0_ (below_step HB.out hb);have BK9 := m0_ hbox;clear hg hbox hb) | ((with_reducible refine gate_store (t := 29) (p := 9) (v := .tmp 47) rfl ?_);refine store_blk (w0 := w) (base := w.heap.size) (e := 29) (g := gb9) (off := 0) (cur := #[.int .i64 0, .int .i64 0, .int .i64 0, .slice none 0 0]) (cur' := #[.int .i64 x0, .int .i64 x1, .int .i64 x2, .slice AH xs.length cH]) (u := .agg #[.int .i64 x0, .int .i64 x1, .int .i64 x2, .slice AH xs.length cH]) (seg := [.int .i64 x0, .int .i64 x1, .int .i64 x2, .slice AH xs.length cH]) rfl rfl rfl rfl rfl BK9.out rfl ?ht ?h1 (by simp) rfl HB.out (by have z_w1 := Zw1.out;have z_wb3 := Zwb3.out;have z_ws3 := Zws3.out;have z_w2 := Zw2.out;have z_wb5 := Zwb5.out;have z_ws5 := Zws5.out;have z_w3 := Zw3.out;have z_w4 := Zw4.out;have z_w5 := Zw5.out;have z_w6 := Zw6.out;have z_wb9 := Zwb9.out;have g_3 := G3.out;have l_3 := L3.out;have g_5 := G5.out;have l_5 := L5.out;have g_9 := G9.out;have l_9 := L9.out;have b_ := below_size HB.out;omega) ?_;(case ht => kernel_rfl);(case h1 => intro q hq;simp only [List.mem_cons, List.not_mem_nil, or_false] at hq;rcases hq with rfl | rfl | rfl | rfl <;> rfl);intro ws9 hs_ hk_ hB_;replace BK9 := m0_ (hs_);replace HB := m0_ (hB_);replace FY := m0_ (Kd.R_keep FY.out hk_ (fun k_ h1 => by have z_w1 := Zw1.out;have z_wb3 := Zwb3.out;have z_ws3 := Zws3.out;have z_w2 := Zw2.out;have z_wb5 := Zwb5.out;have z_ws5 := Zws5.out;have z_w3 := Zw3.out;have z_w4 := Zw4.out;have z_w5 := Zw5.out;have z_w6 := Zw6.out;have z_wb9 := Zwb9.out;have g_3 := G3.out;have l_3 := L3.out;have g_5 := G5.out;have l_5 := L5.out;have g_9 := G9.out;have l_9 := L9.out;omega));replace FX := m0_ (Kd.S_keep FX.out hk_ (fun k_ h1 => by have z_w1 := Zw1.out;have z_wb3 := Zwb3.out;have z_ws3 := Zws3.out;have z_w2 := Zw2.out;have z_wb5 := Zwb5.out;have z_ws5 := Zws5.out;have z_w3 := Zw3.out;have z_w4 := Zw4.out;have z_w5 := Zw5.out;have z_w6 := Zw6.out;have z_wb9 := Zwb9.out;have g_3 := G3.out;have l_3 := L3.out;have g_5 := G5.out;have l_5 := L5.out;have g_9 := G9.out;have l_9 := L9.out;omega));replace FH := m0_ (Kd.S_keep FH.out hk_ (fun k_ h1 => by have z_w1 := Zw1.out;have z_wb3 := Zwb3.out;have z_ws3 := Zws3.out;have z_w2 := Zw2.out;have z_wb5 := Zwb5.out;have z_ws5 := Zws5.out;have z_w3 := Zw3.out;have z_w4 := Zw4.out;have z_w5 := Zw5.out;have z_w6 := Zw6.out;have z_wb9 := Zwb9.out;have g_3 := G3.out;have l_3 := L3.out;have g_5 := G5.out;have l_5 := L5.out;have g_9 := G9.out;have l_9 := L9.out;omega));replace BK3 := m0_ (blk_keep BK3.out hk_ (by have z_w1 := Zw1.out;have z_wb3 := Zwb3.out;have z_ws3 := Zws3.out;have z_w2 := Zw2.out;have z_wb5 := Zwb5.out;have z_ws5 := Zws5.out;have z_w3 := Zw3.out;have z_w4 := Zw4.out;have z_w5 := Zw5.out;have z_w6 := Zw6.out;have z_wb9 := Zwb9.out;have g_3 := G3.out;have l_3 := L3.out;have g_5 := G5.out;have l_5 := L5.out;have g_9 := G9.out;have l_9 := L9.out;omega));replace BK5 := m0_ (blk_keep BK5.out hk_ (by have z_w1 := Zw1.out;have z_wb3 := Zwb3.out;have z_ws3 := Zws3.out;have z_w2 := Zw2.out;have z_wb5 := Zwb5.out;have z_ws5 := Zws5.out;have z_w3 := Zw3.out;have z_w4 := Zw4.out;have z_w5 := Zw5.out;have z_w6 := Zw6.out;have z_wb9 := Zwb9.out;have g_3 := G3.out;have l_3 := L3.out;have g_5 := G5.out;have l_5 := L5.out;have g_9 := G9.out;have l_9 := L9.out;omega));have Zws9 := m0_ (hk_.1);clear hs_ hk_ hB_;have hz3_0 := (blk_cell BK3.out 0).trans (show _ = some (Value.int .i64 y0) from rfl);have hz3_1 := (blk_cell BK3.out 1).trans (show _ = some (Value.int .i64 y1) from rfl);have hz3_2 := (blk_cell BK3.out 2).trans (show _ = some (Value.int .i64 y2) from rfl);have hz3_3 := (blk_cell BK3.out 3).trans (show _ = some (Value.slice AY ys.length cY) from rfl);have hz9_0 := (blk_cell BK9.out 0).trans (show _ = some (Value.int .i64 x0) from rfl);have hz9_1 := (blk_cell BK9.out 1).trans (show _ = some (Value.int .i64 x1) from rfl);have hz9_2 := (blk_cell BK9.out 2).trans (show _ = some (Value.int .i64 x2) from rfl);have hz9_3 := (blk_cell BK9.out 3).trans (show _ = some (Value.slice AH xs.length cH) from rfl)) | (go_at_call 12;fail))
 clear hz3_0 hz3_1 hz3_2 hz3_3 hz9_0 hz9_1 hz9_2 hz9_3
 refine (laws_eqEx.calls k x0 x1 x2 _ _ xs y0 y1 y2 _ _ ys true _ ?s1 ?s2 ?s3 ?s4 E1.out).mono ?_
 (case s1 => exact (Kd.R_reads' (SR.R FH.out)).2.2)
 (case s2 => exact (Kd.R_reads' (SR.R FH.out)).2.1)
 (case s3 => exact (Kd.R_reads' FY.out).2.2)
 (case s4 => exact (Kd.R_reads' FY.out).2.1)
 rintro e w7 ⟨rfl, hb⟩
 have Zw7 := m0_ (show ws9.heap.size ≤ w7.heap.size from hb.size)
 replace FY := m0_ (Kd.R_below FY.out hb);replace FX := m0_ (Kd.S_below FX.out hb);replace FH := m0_ (Kd.S_below FH.out hb);replace BK3 := m0_ (blk_below BK3.out hb);replace BK5 := m0_ (blk_below BK5.out hb);replace BK9 := m0_ (blk_below BK9.out hb);replace HB := m0_ (below_step HB.out hb)
 clear hb
 have hz5_0 := (blk_cell BK5.out 0).trans (show _ = some (Value.int .i64 x0) from rfl);have hz5_1 := (blk_cell BK5.out 1).trans (show _ = some (Value.int .i64 x1) from rfl);have hz5_2 := (blk_cell BK5.out 2).trans (show _ = some (Value.int .i64 x2) from rfl);have hz5_3 := (blk_cell BK5.out 3).trans (show _ = some (Value.slice AX xs.length cX) from rfl)
 go_wp2_with (first | (go_at_call 24;fail))
 clear hz5_0 hz5_1 hz5_2 hz5_3
 refine (held_calls k x0 x1 x2 1 q _ _ _ zs _ (Kd.R_reads' (SR.R FX.out)).1 (Kd.R_reads' (SR.R FX.out)).2.1 (by have a_ := (Kd.R_reads' (SR.R FX.out)).2.2;have b_ := (Kd.R_reads' (SR.R FX.out)).1;first | exact a_ | (rw [b_] at a_;exact a_)) TQ.out).mono ?_
 rintro e w8 ⟨rfl, hb⟩
 have Zw8 := m0_ (show w7.heap.size ≤ w8.heap.size from hb.size)
 replace FY := m0_ (Kd.R_below FY.out hb);replace FX := m0_ (Kd.S_below FX.out hb);replace FH := m0_ (Kd.S_below FH.out hb);replace BK3 := m0_ (blk_below BK3.out hb);replace BK5 := m0_ (blk_below BK5.out hb);replace BK9 := m0_ (blk_below BK9.out hb);replace HB := m0_ (below_step HB.out hb)
 clear hb
 go_wp2
 go_ret
 exact ⟨rfl, HB.out⟩

end Go.Proofs.YtbcdfbiggjfmlaaDoor.M
namespace Go.Proofs.YtbcdfbiggjfmlaaDoor.M
set_option linter.unusedVariables false
set_option linter.unusedSimpArgs false
open Go.RowKit Go.Proofs.YtbcdfbiggjfmlaaDoorW.PrintWords Go.Proofs.YtbcdfbiggjfmlaaDoorW.PrintLast

end Go.Proofs.YtbcdfbiggjfmlaaDoor.M
namespace Go.Proofs.YtbcdfbiggjfmlaaDoor.M
open Go.RowKit Go.Proofs.YtbcdfbiggjfmlaaDoorW.PrintWords Go.Proofs.YtbcdfbiggjfmlaaDoorW.PrintLast Go.Proofs.YtbcdfbiggjfmlaaDoorW.PrintMore
attribute [local go_sem] max2_int min2_int max_two min_two max_three min_three max_four min_four
set_option linter.unusedVariables false
set_option linter.unusedSimpArgs false

end Go.Proofs.YtbcdfbiggjfmlaaDoor.M
namespace Go.Proofs.YtbcdfbiggjfmlaaDoor.M
set_option linter.unusedVariables false
set_option linter.unusedSimpArgs false
open Go.RowKit Go.Proofs.YtbcdfbiggjfmlaaDoorW.PrintWords Go.Proofs.YtbcdfbiggjfmlaaDoorW.PrintLast

theorem indI {P : S29 → Prop} (h : ∀ x, (∀ y ∈ x.f3, P y) → P x) : ∀ x, P x := by
  have key : ∀ n, ∀ x : S29, SizeOf.sizeOf x ≤ n → P x := by
    intro n
    induction n with
    | zero => intro x hx; cases x; simp at hx
    | succ n ih =>
      intro x hx
      refine h x (fun y hy => ih y ?_)
      have := List.sizeOf_lt_of_mem hy
      cases x
      simp at *
      omega
  exact fun x => key _ x (Nat.le_refl _)

mutual
def allY : S29 → Nat
  | ⟨_, _, _, l⟩ => l.length + kidsY l
def kidsY : List S29 → Nat
  | [] => 0
  | x :: xs => allY x + kidsY xs
end
theorem allY_is (x : S29) : allY x = x.f3.length + kidsY x.f3 := by cases x; simp [allY]
theorem kidsY_cons (x : S29) (l : List S29) : kidsY (x :: l) = allY x + kidsY l := by simp [kidsY]
theorem kidsY_nil : kidsY [] = 0 := by simp [kidsY]
theorem kidsY_mem {l : List S29} {x : S29} (h : x ∈ l) : allY x ≤ kidsY l := by
  induction l with
  | nil => simp at h
  | cons y l ih =>
    rw [kidsY_cons]
    rcases List.mem_cons.1 h with rfl | h
    · omega
    · have := ih h
      omega
theorem allY_mem {x y : S29} (h : y ∈ x.f3) : allY y + 1 ≤ allY x := by
  have := kidsY_mem h
  have h2 := List.length_pos_of_mem h
  rw [allY_is x]
  omega
theorem allY_len {x : S29} : x.f3.length ≤ allY x := by rw [allY_is]; omega
theorem rdI (l : List S29) (n : Nat) (h : n < l.length) : rd_T29 l (n : Int) = l[n] := by
  show l.getD n z29 = _
  rw [List.getD_eq_getElem?_getD, List.getElem?_eq_getElem h]
  rfl

def EqOk (x : S29) : Prop := Ev (fun k => laws_eqEx.f k x.f0 x.f1 x.f2 x.f3 x.f0 x.f1 x.f2 x.f3) true
theorem eqExS_l0_ev (l : List S29) (hl : l.length ≤ 1048576) (hs : ∀ x ∈ l, EqOk x) : ∀ (d n : Nat), n + d = l.length → Ev (fun k => laws_eqExS.l0 k l l (n : Int)) true := by
  intro d
  induction d with
  | zero =>
    intro n hn
    exact Ev.last (fun k => by simp only [laws_eqExS.l0]; rw [if_neg (by omega)])
  | succ d ih =>
    intro n hn
    have hx : EqOk l[n] := hs _ (List.getElem_mem _)
    refine Ev.step (fun k => by simp only [laws_eqExS.l0]; rw [if_pos (by omega), if_pos (by omega), if_pos (by omega), rdI l n (by omega), w_succ (by omega)]) ?_
    exact Ev.bind hx (Ev.pos rfl (ih (n + 1) (by omega)))
theorem eqEx_ev : ∀ x : S29, allY x ≤ 1048576 → EqOk x := by
  refine indI (fun x ih g => ?_)
  have hk : ∀ y ∈ x.f3, EqOk y := fun y hy => ih y hy (by have := allY_mem hy; omega)
  have hl : x.f3.length ≤ 1048576 := by have := allY_len (x := x); omega
  have hS : Ev (fun k => laws_eqExS.f k x.f3 x.f3) true := by
    refine Ev.step (fun k => by simp only [laws_eqExS.f]; rw [if_pos trivial]) ?_
    exact eqExS_l0_ev x.f3 hl hk x.f3.length 0 (by omega)
  unfold EqOk
  refine Ev.step (fun k => by simp only [laws_eqEx.f]; rw [if_pos trivial, if_pos trivial, if_pos trivial]) ?_
  exact Ev.bindS hS rfl
mutual
def manyY : S29 → Nat
  | ⟨_, _, _, l⟩ => 1 + manysY l
def manysY : List S29 → Nat
  | [] => 0
  | x :: xs => manyY x + manysY xs
end
mutual
def deepY : S29 → Nat
  | ⟨_, _, _, l⟩ => 1 + deepsY l
def deepsY : List S29 → Nat
  | [] => 0
  | x :: xs => max (deepY x) (deepsY xs)
end
def kidsOf (a : Int) : Int := if a = 1 then 0 else if a = 7 then 1 else if a = 2 ∨ a = 3 ∨ a = 4 then 2 else if a = 5 ∨ a = 6 then 3 else -1
def okN (a b c : Int) (n : Nat) : Bool := decide (kidsOf a = n) && (if a = 1 then decide (0 ≤ b ∧ b ≤ 4) else decide (b = 0)) && (if a = 7 then decide (1 ≤ c ∧ c ≤ 20) else decide (c = 0))
mutual
def fmY : S29 → Bool
  | ⟨a, b, c, l⟩ => okN a b c l.length && fmsY l
def fmsY : List S29 → Bool
  | [] => true
  | x :: xs => fmY x && fmsY xs
end
theorem manyY_is (x : S29) : manyY x = 1 + manysY x.f3 := by cases x; simp [manyY]
theorem manysY_nil : manysY [] = 0 := by simp [manysY]
theorem manysY_cons (x : S29) (l : List S29) : manysY (x :: l) = manyY x + manysY l := by simp [manysY]
theorem deepY_is (x : S29) : deepY x = 1 + deepsY x.f3 := by cases x; simp [deepY]
theorem deepsY_nil : deepsY [] = 0 := by simp [deepsY]
theorem deepsY_cons (x : S29) (l : List S29) : deepsY (x :: l) = max (deepY x) (deepsY l) := by simp [deepsY]
theorem fmY_is (x : S29) : fmY x = (okN x.f0 x.f1 x.f2 x.f3.length && fmsY x.f3) := by cases x; simp [fmY]
theorem fmsY_nil : fmsY [] = true := by simp [fmsY]
theorem fmsY_cons (x : S29) (l : List S29) : fmsY (x :: l) = (fmY x && fmsY l) := by simp [fmsY]
theorem manysY_all (l : List S29) (h : ∀ x ∈ l, manyY x = 1 + allY x) : manysY l = l.length + kidsY l := by
  induction l with
  | nil => simp [manysY_nil, kidsY_nil]
  | cons x l ih => rw [manysY_cons, kidsY_cons, h x (by simp), ih (fun y hy => h y (by simp [hy]))]; simp; omega
theorem manyY_all : ∀ x : S29, manyY x = 1 + allY x := by
  refine indI (fun x ih => ?_)
  rw [manyY_is, allY_is, manysY_all _ ih]
theorem deepsY_le (l : List S29) (h : ∀ x ∈ l, deepY x ≤ manyY x) : deepsY l ≤ manysY l := by
  induction l with
  | nil => simp [deepsY_nil, manysY_nil]
  | cons x l ih =>
    have h1 := h x (by simp)
    have h2 := ih (fun y hy => h y (by simp [hy]))
    rw [manysY_cons, deepsY_cons]
    omega
theorem deepY_le : ∀ x : S29, deepY x ≤ manyY x := by
  refine indI (fun x ih => ?_)
  have := deepsY_le _ ih
  rw [manyY_is, deepY_is]
  omega
def SizeOk (x : S29) : Prop := Ev (fun k => impl_Ex_size.f k x.f0 x.f1 x.f2 x.f3) ((manyY x : Int), (deepY x : Int))
theorem size_l0_ev (l : List S29) (hl : l.length ≤ 1048576) (hm : manysY l ≤ 1048577) (hs : ∀ x ∈ l, SizeOk x) : ∀ (d n m p : Nat), n + d = l.length → 1 ≤ m → 1 ≤ p → p ≤ 1048579 → m + manysY (l.drop n) ≤ 1048579 → Ev (fun k => impl_Ex_size.l0 k (m : Int) (p : Int) l (l.length : Int) (n : Int)) (((m + manysY (l.drop n) : Nat) : Int), ((max p (1 + deepsY (l.drop n)) : Nat) : Int)) := by
  intro d
  induction d with
  | zero =>
    intro n m p hn h0 h1 h2 h3
    rw [List.drop_of_length_le (by omega), manysY_nil, deepsY_nil]
    refine Ev.last (fun k => by simp only [impl_Ex_size.l0]; rw [if_neg (by omega)]; rw [Nat.max_eq_left (by omega)]; rfl)
  | succ d ih =>
    intro n m p hn h0 h1 h2 h3
    have hx : SizeOk l[n] := hs _ (List.getElem_mem _)
    have hd := List.drop_eq_getElem_cons (l := l) (i := n) (by omega)
    rw [hd, manysY_cons] at h3
    rw [hd, manysY_cons, deepsY_cons]
    have hp := deepY_le l[n]
    have e1 : wrap64 ((m : Int) + (manyY l[n] : Int)) = ((m + manyY l[n] : Nat) : Int) := by rw [w_small (by omega) (by omega)]; omega
    have e2 : mx (p : Int) (wrap64 ((deepY l[n] : Int) + 1)) = ((max p (1 + deepY l[n]) : Nat) : Int) := by rw [w_small (by omega) (by omega)]; unfold mx; omega
    refine Ev.step (fun k => by simp only [impl_Ex_size.l0]; rw [if_pos (by omega), if_pos (by omega), if_pos (by omega), rdI l n (by omega), w_succ (by omega)]) ?_
    refine Ev.bind hx ?_
    simp only [e1, e2]
    refine Ev.val (ih (n + 1) (m + manyY l[n]) (max p (1 + deepY l[n])) (by omega) (by omega) (by omega) (by omega) (by omega)) ?_
    refine Prod.ext ?_ ?_
    · show ((_ : Nat) : Int) = ((_ : Nat) : Int)
      congr 1
      omega
    · show ((_ : Nat) : Int) = ((_ : Nat) : Int)
      congr 1
      omega
theorem size_ev : ∀ x : S29, allY x ≤ 1048576 → SizeOk x := by
  refine indI (fun x ih g => ?_)
  have hk : ∀ y ∈ x.f3, SizeOk y := fun y hy => ih y hy (by have := allY_mem hy; omega)
  have hl : x.f3.length ≤ 1048576 := by have := allY_len (x := x); omega
  have hm : manysY x.f3 ≤ 1048577 := by have h1 := manyY_all x; have h2 := manyY_is x; omega
  unfold SizeOk
  refine Ev.step (fun k => by simp only [impl_Ex_size.f]; rfl) ?_
  refine Ev.val (size_l0_ev x.f3 hl hm hk x.f3.length 0 1 1 (by omega) (by omega) (by omega) (by omega) (by rw [List.drop_zero]; omega)) ?_
  rw [List.drop_zero, manyY_is, deepY_is]
  refine Prod.ext rfl ?_
  show ((_ : Nat) : Int) = ((_ : Nat) : Int)
  congr 1
  omega

def ManyOk (x : S29) : Prop := ∀ d : Nat, d ≤ 100 → deepY x ≤ d + 1 → Ev (fun k => spec_l2Many.f k x.f0 x.f1 x.f2 x.f3 (d : Int)) (manyY x : Int)
theorem many_l0_ev (l : List S29) (hl : l.length ≤ 1048576) (hs : ∀ x ∈ l, ManyOk x) (a b c : Int) (e : Nat) (he : e ≤ 100) : ∀ (d n m : Nat), n + d = l.length → deepsY (l.drop n) ≤ e → m + manysY (l.drop n) ≤ 1048579 → Ev (fun k => spec_l2Many.l0 k (e : Int) (m : Int) (n : Int) a b c l) ((m + manysY (l.drop n) : Nat) : Int) := by
  intro d
  induction d with
  | zero =>
    intro n m hn h1 h3
    rw [List.drop_of_length_le (by omega), manysY_nil]
    refine Ev.last (fun k => by simp only [spec_l2Many.l0]; rw [if_neg (by omega)]; rfl)
  | succ d ih =>
    intro n m hn h1 h3
    have hx : ManyOk l[n] := hs _ (List.getElem_mem _)
    have hd := List.drop_eq_getElem_cons (l := l) (i := n) (by omega)
    rw [hd, manysY_cons] at h3
    rw [hd, deepsY_cons] at h1
    rw [hd, manysY_cons]
    have hp : 1 ≤ deepY l[n] := by rw [deepY_is]; omega
    have e0 : wrap64 ((e : Int) - 1) = ((e - 1 : Nat) : Int) := by rw [w_small (by omega) (by omega)]; omega
    have e1 : wrap64 ((m : Int) + (manyY l[n] : Int)) = ((m + manyY l[n] : Nat) : Int) := by rw [w_small (by omega) (by omega)]; omega
    refine Ev.step (fun k => by simp only [spec_l2Many.l0]; rw [if_pos (by omega), if_pos (by omega), if_pos (by omega), rdI l n (by omega), w_succ (by omega), e0]) ?_
    refine Ev.bind (hx (e - 1) (by omega) (by omega)) ?_
    simp only [e1]
    have h5 : deepsY (l.drop (n + 1)) ≤ e := by omega
    have h6 : m + manyY l[n] + manysY (l.drop (n + 1)) ≤ 1048579 := by rw [Nat.add_assoc]; exact h3
    have h4 := ih (n + 1) (m + manyY l[n]) (by omega) h5 h6
    rw [Nat.add_assoc] at h4
    exact h4
theorem many_ev : ∀ x : S29, allY x ≤ 1048576 → ManyOk x := by
  refine indI (fun x ih g e he hd => ?_)
  have hk : ∀ y ∈ x.f3, ManyOk y := fun y hy => ih y hy (by have := allY_mem hy; omega)
  have hl : x.f3.length ≤ 1048576 := by have := allY_len (x := x); omega
  have hm : manysY x.f3 ≤ 1048577 := by have h1 := manyY_all x; have h2 := manyY_is x; omega
  rw [deepY_is] at hd
  refine Ev.step (fun k => by simp only [spec_l2Many.f]; rfl) ?_
  refine Ev.val (many_l0_ev x.f3 hl hk x.f0 x.f1 x.f2 e he x.f3.length 0 1 (by omega) (by rw [List.drop_zero]; omega) (by rw [List.drop_zero]; omega)) ?_
  rw [List.drop_zero, manyY_is]

theorem l2Kids_ev (a : Int) : Ev (fun k => spec_l2Kids.f k a) (kidsOf a) := by
  unfold spec_l2Kids.f kidsOf
  by_cases h1 : a = 1
  · exact Ev.pos h1 (Ev.val (Ev.now _) (by rw [if_pos h1]))
  refine Ev.neg h1 ?_
  rw [if_neg h1]
  by_cases h7 : a = 7
  · exact Ev.pos h7 (Ev.val (Ev.now _) (by rw [if_pos h7]))
  refine Ev.neg h7 ?_
  rw [if_neg h7]
  have yes : a = 2 ∨ a = 3 ∨ a = 4 → Ev (fun k => spec_l2Kids.j0 k a true) (if a = 2 ∨ a = 3 ∨ a = 4 then 2 else if a = 5 ∨ a = 6 then 3 else -1) := fun h => Ev.last (fun k => by simp only [spec_l2Kids.j0]; rw [if_pos trivial, if_pos h])
  by_cases h2 : a = 2
  · refine Ev.pos h2 ?_
    rw [show (a == 2) = true by simp [h2]]
    exact yes (by omega)
  refine Ev.neg h2 ?_
  by_cases h3 : a = 3
  · refine Ev.pos h3 ?_
    rw [show (a == 3) = true by simp [h3]]
    exact yes (by omega)
  refine Ev.neg h3 ?_
  by_cases h4 : a = 4
  · rw [show (a == 4) = true by simp [h4]]
    exact yes (by omega)
  rw [show (a == 4) = false by simp [h4]]
  rw [if_neg (by omega)]
  by_cases h5 : a = 5
  · exact Ev.last (fun k => by simp only [spec_l2Kids.j0]; rw [if_neg (by decide), if_pos h5, if_pos (by omega)])
  by_cases h6 : a = 6
  · exact Ev.last (fun k => by simp only [spec_l2Kids.j0]; rw [if_neg (by decide), if_neg h5, if_pos h6, if_pos (by omega)])
  · exact Ev.last (fun k => by simp only [spec_l2Kids.j0]; rw [if_neg (by decide), if_neg h5, if_neg h6, if_neg (by omega)])

def FormOk (x : S29) : Prop := ∀ d : Nat, d ≤ 100 → Ev (fun k => spec_l2Form.f k x.f0 x.f1 x.f2 x.f3 (d : Int)) (fmY x && decide (deepY x ≤ d))
theorem form_l0_ev (l : List S29) (hl : l.length ≤ 1048576) (hs : ∀ x ∈ l, FormOk x) (a b c : Int) (e : Nat) (he : e < 100) : ∀ (d n : Nat), n + d = l.length → Ev (fun k => spec_l2Form.l0 k ((e + 1 : Nat) : Int) (n : Int) a b c l) (fmsY (l.drop n) && decide (deepsY (l.drop n) ≤ e)) := by
  intro d
  induction d with
  | zero =>
    intro n hn
    rw [List.drop_of_length_le (by omega), fmsY_nil, deepsY_nil]
    exact Ev.last (fun k => by simp only [spec_l2Form.l0]; rw [if_neg (by omega)]; simp)
  | succ d ih =>
    intro n hn
    have hx : FormOk l[n] := hs _ (List.getElem_mem _)
    have hd := List.drop_eq_getElem_cons (l := l) (i := n) (by omega)
    rw [hd, fmsY_cons, deepsY_cons]
    have e0 : wrap64 (((e + 1 : Nat) : Int) - 1) = (e : Int) := by rw [w_small (by omega) (by omega)]; omega
    refine Ev.step (fun k => by simp only [spec_l2Form.l0]; rw [if_pos (by omega), if_pos (by omega), rdI l n (by omega), w_succ (by omega), e0]) ?_
    refine Ev.bind (hx e (by omega)) ?_
    by_cases h : (fmY l[n] && decide (deepY l[n] ≤ e)) = true
    · refine Ev.pos h (Ev.val (ih (n + 1) (by omega)) ?_)
      simp only [Bool.and_eq_true, decide_eq_true_eq] at h
      rw [h.1, Bool.true_and]
      have : (deepsY (l.drop (n + 1)) ≤ e) ↔ (max (deepY l[n]) (deepsY (l.drop (n + 1))) ≤ e) := by omega
      simp only [this]
    refine Ev.neg h (Ev.val (Ev.now false) ?_)
    by_cases hf : fmY l[n] = true
    · have : ¬ (max (deepY l[n]) (deepsY (l.drop (n + 1))) ≤ e) := by
        simp [hf] at h
        omega
      simp [this]
    · simp [hf]
theorem form_ev : ∀ x : S29, allY x ≤ 1048576 → FormOk x := by
  refine indI (fun x ih g d hd => ?_)
  have hk : ∀ y ∈ x.f3, FormOk y := fun y hy => ih y hy (by have := allY_mem hy; omega)
  have hl : x.f3.length ≤ 1048576 := by have := allY_len (x := x); omega
  rw [fmY_is, deepY_is]
  have bad : ∀ v : Bool, v = false → Ev (fun k => spec_l2Form.j0 k (d : Int) true x.f0 x.f1 x.f2 x.f3) v := fun v hv => Ev.last (fun k => by simp only [spec_l2Form.j0]; rw [if_pos trivial, hv])
  have bad1 : ∀ v : Bool, v = false → Ev (fun k => spec_l2Form.j1 k (d : Int) true x.f0 x.f1 x.f2 x.f3) v := fun v hv => Ev.last (fun k => by simp only [spec_l2Form.j1]; rw [if_pos trivial, hv])
  by_cases hd1 : (d : Int) < 1
  · refine Ev.step (fun k => by simp only [spec_l2Form.f]; rw [if_pos hd1]) (bad _ ?_)
    have : ¬ (1 + deepsY x.f3 ≤ d) := by omega
    simp [this]
  obtain ⟨e, rfl⟩ : ∃ e, d = e + 1 := ⟨d - 1, by omega⟩
  refine Ev.step (fun k => by simp only [spec_l2Form.f]; rw [if_neg hd1]) ?_
  refine Ev.bind (l2Kids_ev x.f0) ?_
  by_cases hn : kidsOf x.f0 = (x.f3.length : Int)
  rotate_left
  · refine Ev.neg hn (bad _ ?_)
    simp [okN, hn]
  refine Ev.pos hn ?_
  have rest : Ev (fun k => spec_l2Form.j0 k ((e + 1 : Nat) : Int) false x.f0 x.f1 x.f2 x.f3) ((if x.f0 = 7 then decide (1 ≤ x.f2 ∧ x.f2 ≤ 20) else decide (x.f2 = 0)) && (fmsY x.f3 && decide (deepsY x.f3 ≤ e))) := by
    have loop : Ev (fun k => spec_l2Form.j1 k ((e + 1 : Nat) : Int) false x.f0 x.f1 x.f2 x.f3) (fmsY x.f3 && decide (deepsY x.f3 ≤ e)) := by
      refine Ev.step (fun k => by simp only [spec_l2Form.j1]; rw [if_neg (by decide)]) ?_
      exact form_l0_ev x.f3 hl hk x.f0 x.f1 x.f2 e (by omega) x.f3.length 0 (by omega)
    by_cases h7 : x.f0 = 7
    · rw [if_pos h7]
      by_cases c1 : x.f2 < 1
      · refine Ev.step (fun k => by simp only [spec_l2Form.j0]; rw [if_neg (by decide), if_pos h7, if_pos c1]) (bad1 _ ?_)
        have : ¬ (1 ≤ x.f2 ∧ x.f2 ≤ 20) := by omega
        simp [this]
      by_cases c2 : x.f2 > 20
      · refine Ev.step (fun k => by simp only [spec_l2Form.j0]; rw [if_neg (by decide), if_pos h7, if_neg c1, if_pos c2]) (bad1 _ ?_)
        have : ¬ (1 ≤ x.f2 ∧ x.f2 ≤ 20) := by omega
        simp [this]
      · refine Ev.step (fun k => by simp only [spec_l2Form.j0]; rw [if_neg (by decide), if_pos h7, if_neg c1, if_neg c2]) (Ev.val loop ?_)
        have : (1 ≤ x.f2 ∧ x.f2 ≤ 20) := by omega
        simp [this]
    · rw [if_neg h7]
      by_cases c0 : x.f2 = 0
      · refine Ev.step (fun k => by simp only [spec_l2Form.j0]; rw [if_neg (by decide), if_neg h7, show (x.f2 != 0) = false by simp [c0]]) (Ev.val loop ?_)
        simp [c0]
      · refine Ev.step (fun k => by simp only [spec_l2Form.j0]; rw [if_neg (by decide), if_neg h7, show (x.f2 != 0) = true by simp [c0]]) (bad1 _ ?_)
        simp [c0]
  have hdd : (1 + deepsY x.f3 ≤ e + 1) ↔ (deepsY x.f3 ≤ e) := by omega
  simp only [hdd, okN, hn, decide_true, Bool.true_and]
  by_cases b0 : x.f1 < 0
  · refine Ev.pos b0 (bad _ ?_)
    have h1 : ¬ (0 ≤ x.f1 ∧ x.f1 ≤ 4) := by omega
    have h2 : ¬ (x.f1 = 0) := by omega
    simp [h1, h2]
  refine Ev.neg b0 ?_
  by_cases b5 : x.f1 ≥ 5
  · refine Ev.pos b5 (bad _ ?_)
    have h1 : ¬ (0 ≤ x.f1 ∧ x.f1 ≤ 4) := by omega
    have h2 : ¬ (x.f1 = 0) := by omega
    simp [h1, h2]
  refine Ev.neg b5 ?_
  by_cases a1 : x.f0 = 1
  · refine Ev.pos a1 (Ev.val rest ?_)
    rw [if_pos a1]
    have h1 : (0 ≤ x.f1 ∧ x.f1 ≤ 4) := by omega
    simp [h1, Bool.and_assoc]
  refine Ev.neg a1 ?_
  rw [if_neg a1]
  by_cases hb : x.f1 = 0
  · rw [show (x.f1 != 0) = false by simp [hb]]
    refine Ev.val rest ?_
    simp [hb, Bool.and_assoc]
  · rw [show (x.f1 != 0) = true by simp [hb]]
    exact bad _ (by simp [hb])

theorem in_is (a b c : Int) : impl_in.f a b c = some (decide (b ≤ a ∧ a ≤ c)) := by
  unfold impl_in.f
  by_cases h : b ≤ a
  · rw [if_pos h]; simp [h]
  · rw [if_neg h]; simp [h]
theorem kids_is (a : Int) (h1 : 1 ≤ a) (h7 : a ≤ 7) : impl_kids.f a = some (kidsOf a) := by
  have : a = 1 ∨ a = 2 ∨ a = 3 ∨ a = 4 ∨ a = 5 ∨ a = 6 ∨ a = 7 := by omega
  rcases this with rfl | rfl | rfl | rfl | rfl | rfl | rfl <;> rfl
theorem kidsOf_out {a : Int} (h : ¬ (1 ≤ a ∧ a ≤ 7)) : kidsOf a = -1 := by
  unfold kidsOf
  rw [if_neg (by omega), if_neg (by omega), if_neg (by omega), if_neg (by omega)]
def FmOk (x : S29) : Prop := Ev (fun k => impl_Ex_formed.f k x.f0 x.f1 x.f2 x.f3) (fmY x)
theorem fm_l0_ev (l : List S29) (hl : l.length ≤ 1048576) (hs : ∀ x ∈ l, FmOk x) : ∀ (d n : Nat), n + d = l.length → ∃ r : Int, Ev (fun k => impl_Ex_75.l0 k l (l.length : Int) (n : Int)) r ∧ (decide (r ≥ 0) = !fmsY (l.drop n)) := by
  intro d
  induction d with
  | zero =>
    intro n hn
    rw [List.drop_of_length_le (by omega), fmsY_nil]
    exact ⟨-1, Ev.last (fun k => by simp only [impl_Ex_75.l0]; rw [if_neg (by omega)]), by decide⟩
  | succ d ih =>
    intro n hn
    have hx : FmOk l[n] := hs _ (List.getElem_mem _)
    have hd := List.drop_eq_getElem_cons (l := l) (i := n) (by omega)
    rw [hd, fmsY_cons]
    have h1 : Ev (fun k => impl_Ex_formed_1.f k l[n].f0 l[n].f1 l[n].f2 l[n].f3) (!fmY l[n]) := Ev.step (fun k => by simp only [impl_Ex_formed_1.f]; rfl) (Ev.bindS hx rfl)
    cases hf : fmY l[n] with
    | true =>
      obtain ⟨r, hr, hv⟩ := ih (n + 1) (by omega)
      refine ⟨r, ?_, by rw [hv, Bool.true_and]⟩
      refine Ev.step (fun k => by simp only [impl_Ex_75.l0]; rw [if_pos (by omega), if_pos (by omega), if_pos (by omega), rdI l n (by omega), w_succ (by omega)]) ?_
      exact Ev.bind h1 (Ev.neg (by rw [hf]; decide) hr)
    | false =>
      refine ⟨(n : Int), ?_, by simp⟩
      refine Ev.step (fun k => by simp only [impl_Ex_75.l0]; rw [if_pos (by omega), if_pos (by omega), if_pos (by omega), rdI l n (by omega), w_succ (by omega)]) ?_
      exact Ev.bind h1 (Ev.pos (by rw [hf]; decide) (Ev.now _))
theorem formed_ev : ∀ x : S29, allY x ≤ 1048576 → FmOk x := by
  refine indI (fun x ih g => ?_)
  have hk : ∀ y ∈ x.f3, FmOk y := fun y hy => ih y hy (by have := allY_mem hy; omega)
  have hl : x.f3.length ≤ 1048576 := by have := allY_len (x := x); omega
  have hc : Ev (fun k => impl_Ex_63.f k x.f3) (!fmsY x.f3) := by
    obtain ⟨r, hr, hv⟩ := fm_l0_ev x.f3 hl hk x.f3.length 0 (by omega)
    rw [List.drop_zero] at hv
    refine Ev.step (fun k => by simp only [impl_Ex_63.f]; rfl) ?_
    refine Ev.bindS (Ev.step (fun k => by simp only [impl_Ex_75.f]; rfl) hr) ?_
    rw [hv]
  have bad : ∀ v : Bool, v = false → Ev (fun k => impl_Ex_formed.j0 k true x.f0 x.f1 x.f2 x.f3) v := fun v hv => Ev.last (fun k => by simp only [impl_Ex_formed.j0]; rw [if_pos trivial, hv])
  have bad1 : ∀ v : Bool, v = false → Ev (fun k => impl_Ex_formed.j1 k true x.f0 x.f1 x.f2 x.f3) v := fun v hv => Ev.last (fun k => by simp only [impl_Ex_formed.j1]; rw [if_pos trivial, hv])
  have last : Ev (fun k => impl_Ex_formed.j1 k false x.f0 x.f1 x.f2 x.f3) ((if x.f0 = 7 then decide (1 ≤ x.f2 ∧ x.f2 ≤ 20) else decide (x.f2 = 0)) && fmsY x.f3) := by
    by_cases h7 : x.f0 = 7
    · rw [if_pos h7]
      refine Ev.step (fun k => by simp only [impl_Ex_formed.j1]; rw [if_neg (by decide), if_pos h7, in_is, Option.bind_some]) ?_
      by_cases hc7 : 1 ≤ x.f2 ∧ x.f2 ≤ 20
      · refine Ev.pos (by simp [hc7]) (Ev.bindS hc ?_)
        simp [hc7]
      · refine Ev.neg (by simp; omega) (Ev.val (Ev.now false) ?_)
        simp [hc7]
    · rw [if_neg h7]
      by_cases hc0 : x.f2 = 0
      · refine Ev.step (fun k => by simp only [impl_Ex_formed.j1]; rw [if_neg (by decide), if_neg h7, if_pos hc0]) (Ev.bindS hc ?_)
        simp [hc0]
      · refine Ev.last (fun k => by simp only [impl_Ex_formed.j1]; rw [if_neg (by decide), if_neg h7, if_neg hc0]; simp [hc0])
  unfold FmOk
  rw [fmY_is]
  refine Ev.step (fun k => by simp only [impl_Ex_formed.f, impl_isKind.f]; rw [in_is, Option.bind_some, Option.bind_some]) ?_
  by_cases hkd : 1 ≤ x.f0 ∧ x.f0 ≤ 7
  rotate_left
  · refine Ev.neg (by simp; omega) (bad _ ?_)
    have hn : ¬ (kidsOf x.f0 = (x.f3.length : Int)) := by rw [kidsOf_out hkd]; omega
    simp [okN, hn]
  refine Ev.pos (by simp [hkd]) ?_
  refine Ev.bind (Ev.one (fun _ => kids_is x.f0 hkd.1 hkd.2)) ?_
  by_cases hn : kidsOf x.f0 = (x.f3.length : Int)
  rotate_left
  · rw [show ((x.f3.length : Int) != kidsOf x.f0) = true by simp; omega]
    exact bad _ (by simp [okN, hn])
  rw [show ((x.f3.length : Int) != kidsOf x.f0) = false by simp [hn]]
  by_cases a1 : x.f0 = 1
  · refine Ev.step (fun k => by simp only [impl_Ex_formed.j0, impl_isSym.f]; rw [if_neg (by decide), if_pos a1, in_is, Option.bind_some, Option.bind_some]) ?_
    by_cases hb : 0 ≤ x.f1 ∧ x.f1 ≤ 4
    · refine Ev.pos (by simp [hb]) (Ev.val last ?_)
      simp only [okN, hn, decide_true, Bool.true_and]
      rw [if_pos a1]
      simp [hb]
    · refine Ev.neg (by simp; omega) (bad1 _ ?_)
      simp only [okN, hn, decide_true, Bool.true_and]
      rw [if_pos a1]
      simp [hb]
  · by_cases hb : x.f1 = 0
    · refine Ev.step (fun k => by simp only [impl_Ex_formed.j0]; rw [if_neg (by decide), if_neg a1, show (x.f1 != 0) = false by simp [hb]]) (Ev.val last ?_)
      simp only [okN, hn, decide_true, Bool.true_and]
      rw [if_neg a1]
      simp [hb]
    · refine Ev.step (fun k => by simp only [impl_Ex_formed.j0]; rw [if_neg (by decide), if_neg a1, show (x.f1 != 0) = true by simp [hb]]) (bad1 _ ?_)
      simp only [okN, hn, decide_true, Bool.true_and]
      rw [if_neg a1]
      simp [hb]
def okX (x : S29) : Bool := fmY x && decide (deepY x ≤ 5) && decide (manyY x ≤ 12)
theorem form5 (x : S29) (h : allY x ≤ 1048576) : Ev (fun k => spec_l2Form.f k x.f0 x.f1 x.f2 x.f3 5) (fmY x && decide (deepY x ≤ 5)) := form_ev x h 5 (by omega)
theorem many5 (x : S29) (h : allY x ≤ 1048576) (hd : deepY x ≤ 5) : Ev (fun k => spec_l2Many.f k x.f0 x.f1 x.f2 x.f3 5) (manyY x : Int) := many_ev x h 5 (by omega) (by omega)
theorem spec_ExOk_ev (x : S29) (h : allY x ≤ 1048576) : Ev (fun k => spec_ExOk.f k x.f0 x.f1 x.f2 x.f3) (okX x) := by
  unfold spec_ExOk.f okX
  refine Ev.bind (form5 x h) ?_
  by_cases hf : (fmY x && decide (deepY x ≤ 5)) = true
  · have hd : deepY x ≤ 5 := by simp at hf; exact hf.2
    refine Ev.pos hf (Ev.bindS (many5 x h hd) ?_)
    rw [hf, Bool.true_and]
    have : ((manyY x : Int) ≤ 12) ↔ (manyY x ≤ 12) := by omega
    simp only [this]
  · refine Ev.neg hf (Ev.val (Ev.now _) ?_)
    simp only [Bool.not_eq_true] at hf
    rw [hf]
    rfl
theorem impl_ExOk_ev (x : S29) (h : allY x ≤ 1048576) : Ev (fun k => impl_ExOk.f k x.f0 x.f1 x.f2 x.f3) (okX x) := by
  unfold impl_ExOk.f okX
  refine Ev.bind (size_ev x h) ?_
  by_cases hm : manyY x ≤ 12
  · refine Ev.pos (show ((manyY x : Nat) : Int) ≤ 12 by omega) ?_
    by_cases hd : deepY x ≤ 5
    · refine Ev.pos (show ((deepY x : Nat) : Int) ≤ 5 by omega) (Ev.bindS (formed_ev x h) ?_)
      simp [hm, hd]
    · refine Ev.neg (show ¬ (((deepY x : Nat) : Int) ≤ 5) by omega) (Ev.val (Ev.now _) ?_)
      simp [hd]
  · refine Ev.neg (show ¬ (((manyY x : Nat) : Int) ≤ 12) by omega) (Ev.val (Ev.now _) ?_)
    simp [hm]
end Go.Proofs.YtbcdfbiggjfmlaaDoor.M
namespace Go.Proofs.YtbcdfbiggjfmlaaDoor.M
open Go.RowKit Go.Proofs.YtbcdfbiggjfmlaaDoorW.PrintWords Go.Proofs.YtbcdfbiggjfmlaaDoorW.PrintLast Go.Proofs.YtbcdfbiggjfmlaaDoorW.PrintMore
attribute [local go_sem] max2_int min2_int max_two min_two max_three min_three max_four min_four
set_option linter.unusedVariables false
set_option linter.unusedSimpArgs false

end Go.Proofs.YtbcdfbiggjfmlaaDoor.M
namespace Go.Proofs.YtbcdfbiggjfmlaaDoor.M
set_option linter.unusedVariables false
set_option linter.unusedSimpArgs false
open Go.RowKit Go.Proofs.YtbcdfbiggjfmlaaDoorW.PrintWords Go.Proofs.YtbcdfbiggjfmlaaDoorW.PrintLast

end Go.Proofs.YtbcdfbiggjfmlaaDoor.M
namespace Go.Proofs.YtbcdfbiggjfmlaaDoor.M
open Go.RowKit Go.Proofs.YtbcdfbiggjfmlaaDoorW.PrintWords Go.Proofs.YtbcdfbiggjfmlaaDoorW.PrintLast Go.Proofs.YtbcdfbiggjfmlaaDoorW.PrintMore
attribute [local go_sem] max2_int min2_int max_two min_two max_three min_three max_four min_four
set_option linter.unusedVariables false
set_option linter.unusedSimpArgs false


end Go.Proofs.YtbcdfbiggjfmlaaDoor.M
namespace Go.Proofs.YtbcdfbiggjfmlaaDoor.M
set_option linter.unusedVariables false
set_option linter.unusedSimpArgs false
open Go.RowKit Go.Proofs.YtbcdfbiggjfmlaaDoorW.PrintWords Go.Proofs.YtbcdfbiggjfmlaaDoorW.PrintLast

theorem okN_cases {a b c : Int} {n : Nat} (h : okN a b c n = true) : 1 ≤ a ∧ a ≤ 7 ∧ kidsOf a = n ∧ (a = 1 → 0 ≤ b ∧ b ≤ 4 ∧ n = 0) ∧ (a ≠ 1 → b = 0) ∧ (a = 7 → 1 ≤ c ∧ c ≤ 20) ∧ (a ≠ 7 → c = 0) := by
  unfold okN at h
  simp only [Bool.and_eq_true, decide_eq_true_eq] at h
  obtain ⟨⟨h1, h2⟩, h3⟩ := h
  have h0 : 1 ≤ a ∧ a ≤ 7 := Decidable.byContradiction (fun q => by rw [kidsOf_out q] at h1; omega)
  refine ⟨h0.1, h0.2, h1, fun e => ?_, fun e => ?_, fun e => ?_, fun e => ?_⟩
  · rw [if_pos e] at h2
    have := of_decide_eq_true h2
    refine ⟨this.1, this.2, ?_⟩
    subst e
    have : kidsOf 1 = 0 := rfl
    omega
  · rw [if_neg e] at h2
    exact of_decide_eq_true h2
  · rw [if_pos e] at h3
    exact of_decide_eq_true h3
  · rw [if_neg e] at h3
    exact of_decide_eq_true h3
theorem fmsY_mem {l : List S29} (h : fmsY l = true) : ∀ y ∈ l, fmY y = true := by
  induction l with
  | nil => intro y hy; simp at hy
  | cons x l ih =>
    intro y hy
    rw [fmsY_cons, Bool.and_eq_true] at h
    rcases List.mem_cons.1 hy with rfl | hy
    · exact h.1
    · exact ih h.2 y hy
theorem fmY_parts {x : S29} (h : fmY x = true) : okN x.f0 x.f1 x.f2 x.f3.length = true ∧ ∀ y ∈ x.f3, fmY y = true := by
  rw [fmY_is, Bool.and_eq_true] at h
  exact ⟨h.1, fmsY_mem h.2⟩
theorem tfm_of : ∀ x : S29, fmY x = true → TFm x := by
  refine indI (fun x ih h => ?_)
  obtain ⟨h1, h2⟩ := fmY_parts h
  obtain ⟨a1, a7, _, hb, _, hc, _⟩ := okN_cases h1
  exact .mk x (fun e => ⟨(hb e).1, (hb e).2.1⟩) (by omega) (by omega) (fun e => by have := hc e; omega) (fun y hy => ih y hy (h2 y hy))
theorem word_size (a : Int) (h0 : 0 ≤ a) (h8 : a < 8) : (rdOf ByteArray.empty exW a).size ≤ 4 := by
  have : a = 0 ∨ a = 1 ∨ a = 2 ∨ a = 3 ∨ a = 4 ∨ a = 5 ∨ a = 6 ∨ a = 7 := by omega
  rcases this with rfl | rfl | rfl | rfl | rfl | rfl | rfl | rfl <;> decide +kernel
theorem letB_size (b : Int) (h0 : 0 ≤ b) (h4 : b ≤ 4) : (letB b).size = 1 := by
  have : b = 0 ∨ b = 1 ∨ b = 2 ∨ b = 3 ∨ b = 4 := by omega
  rcases this with rfl | rfl | rfl | rfl | rfl <;> decide +kernel
theorem decB_size (n : Int) (h1 : 0 ≤ n) (h2 : n < 100) : (decB n).size ≤ 2 := by
  unfold decB
  show (Lib.decDigits n.toNat).toArray.size ≤ 2
  rw [List.size_toArray]
  by_cases h : n.toNat < 10
  · rw [Lib.decDigits_one h]; simp
  · rw [Lib.decDigits_two h (by omega)]; simp
theorem textsP_size (l : List S29) (h : ∀ x ∈ l, (textP x).size + 1 ≤ 8 * manyY x) : (textsP l).size ≤ 8 * manysY l := by
  induction l with
  | nil => rw [textsP_nil]; simp [ByteArray.size_empty]
  | cons x l ih =>
    have h1 := h x (by simp)
    have h2 := ih (fun y hy => h y (by simp [hy]))
    rw [textsP_cons, manysY_cons, ByteArray.size_append, ByteArray.size_append, show (⟨#[32]⟩ : ByteArray).size = 1 from rfl]
    omega
theorem textP_size : ∀ x : S29, fmY x = true → (textP x).size + 1 ≤ 8 * manyY x := by
  refine indI (fun x ih h => ?_)
  obtain ⟨h1, h2⟩ := fmY_parts h
  obtain ⟨a1, a7, _, hb, _, hc, _⟩ := okN_cases h1
  have h3 := textsP_size x.f3 (fun y hy => ih y hy (h2 y hy))
  have h4 := word_size x.f0 (by omega) (by omega)
  rw [textP_is, manyY_is]
  by_cases e : x.f0 = 1
  · rw [if_pos e, letB_size x.f1 (hb e).1 (hb e).2.1]
    omega
  rw [if_neg e]
  by_cases e7 : x.f0 = 7
  · have h5 := decB_size x.f2 (by have := hc e7; omega) (by have := hc e7; omega)
    rw [if_pos e7, ByteArray.size_append, ByteArray.size_append, ByteArray.size_append, show (⟨#[32]⟩ : ByteArray).size = 1 from rfl]
    omega
  · rw [if_neg e7, ByteArray.size_append]
    omega
noncomputable def textO (x : S29) : ByteArray := if okX x = true then textP x else ⟨#[]⟩
theorem okX_fm {x : S29} (h : okX x = true) : fmY x = true ∧ manyY x ≤ 12 := by
  unfold okX at h
  simp only [Bool.and_eq_true, decide_eq_true_eq] at h
  exact ⟨h.1.1, h.2⟩
theorem impl_ExText_ev (x : S29) (h : allY x ≤ 1048576) : Ev (fun k => impl_ExText.f k x.f0 x.f1 x.f2 x.f3) (textO x) := by
  unfold impl_ExText.f textO
  refine Ev.bind (impl_ExOk_ev x h) ?_
  have ex : (⟨x.f0, x.f1, x.f2, x.f3⟩ : S29) = x := by cases x; rfl
  rw [ex]
  by_cases hk : okX x = true
  · have hs := textP_size x (okX_fm hk).1
    have h12 := (okX_fm hk).2
    rw [if_pos hk, if_pos hk, if_pos ⟨tfm_of x (okX_fm hk).1, by omega⟩]
    exact Ev.now _
  · rw [if_neg hk, if_neg hk]
    exact Ev.now _
def bL (b : ByteArray) : List UInt8 := b.data.toList
theorem bL_append (a b : ByteArray) : bL (a ++ b) = bL a ++ bL b := by unfold bL; rw [ByteArray.data_append, Array.toList_append]
theorem bL_inj {a b : ByteArray} (h : bL a = bL b) : a = b := by
  cases a; cases b
  simp only [bL] at h
  rw [Array.toList_inj] at h
  rw [h]
theorem bL_sp : bL (⟨#[32]⟩ : ByteArray) = [32] := rfl
def hdW (x : S29) : List UInt8 := if x.f0 = 1 then bL (letB x.f1) else bL (rdOf ByteArray.empty exW x.f0)
def numW (x : S29) : List UInt8 := if x.f0 = 7 then 32 :: Lib.decDigits x.f2.toNat else []
def txL (x : S29) : List UInt8 := bL (textP x)
def txsL (l : List S29) : List UInt8 := bL (textsP l)
theorem txsL_nil : txsL [] = [] := by unfold txsL; rw [textsP_nil]; rfl
theorem txsL_cons (x : S29) (l : List S29) : txsL (x :: l) = 32 :: (txL x ++ txsL l) := by
  unfold txsL txL
  rw [textsP_cons, bL_append, bL_append, bL_sp]
  simp
theorem txL_is (x : S29) (h : fmY x = true) : txL x = hdW x ++ (numW x ++ txsL x.f3) := by
  obtain ⟨h1, _⟩ := fmY_parts h
  obtain ⟨_, _, _, hb, _, _, _⟩ := okN_cases h1
  unfold txL hdW numW
  rw [textP_is]
  by_cases e : x.f0 = 1
  · have h0 : x.f3 = [] := List.length_eq_zero_iff.1 (hb e).2.2
    rw [if_pos e, if_pos e, if_neg (by omega), h0, txsL_nil]
    simp
  rw [if_neg e, if_neg e]
  by_cases e7 : x.f0 = 7
  · rw [if_pos e7, if_pos e7, bL_append, bL_append, bL_append, bL_sp]
    show (_ ++ ([32] ++ (Lib.decDigits x.f2.toNat).toArray.toList)) ++ _ = _
    simp [txsL]
  · rw [if_neg e7, if_neg e7, bL_append]
    simp [txsL]
theorem hdW_word {x : S29} (h : okN x.f0 x.f1 x.f2 x.f3.length = true) : ∀ c ∈ hdW x, c ≠ 32 := by
  obtain ⟨a1, a7, _, hb, _, _, _⟩ := okN_cases h
  unfold hdW
  by_cases e : x.f0 = 1
  · rw [if_pos e]
    obtain ⟨b0, b4, _⟩ := hb e
    have : x.f1 = 0 ∨ x.f1 = 1 ∨ x.f1 = 2 ∨ x.f1 = 3 ∨ x.f1 = 4 := by omega
    rcases this with q | q | q | q | q <;> rw [q] <;> decide +kernel
  · rw [if_neg e]
    have : x.f0 = 2 ∨ x.f0 = 3 ∨ x.f0 = 4 ∨ x.f0 = 5 ∨ x.f0 = 6 ∨ x.f0 = 7 := by omega
    rcases this with q | q | q | q | q | q <;> rw [q] <;> decide +kernel
theorem dec_word (n : Nat) (h : n < 100) : ∀ c ∈ Lib.decDigits n, c ≠ 32 := by
  have key : ∀ i : Nat, i < 10 → UInt8.ofNat (48 + i) ≠ 32 := by
    intro i hi
    have : i = 0 ∨ i = 1 ∨ i = 2 ∨ i = 3 ∨ i = 4 ∨ i = 5 ∨ i = 6 ∨ i = 7 ∨ i = 8 ∨ i = 9 := by omega
    rcases this with q | q | q | q | q | q | q | q | q | q <;> rw [q] <;> decide +kernel
  intro c hc
  by_cases h9 : n < 10
  · rw [Lib.decDigits_one h9] at hc
    rw [List.mem_singleton.1 hc]
    exact key n h9
  rw [Lib.decDigits_two h9 h] at hc
  rcases List.mem_cons.1 hc with rfl | hc
  · exact key _ (by omega)
  · rw [List.mem_singleton.1 hc]
    exact key _ (by omega)
theorem eta_T (x : S29) : (⟨x.f0, x.f1, x.f2, x.f3⟩ : S29) = x := by cases x; rfl
end Go.Proofs.YtbcdfbiggjfmlaaDoor.M
namespace Go.Proofs.YtbcdfbiggjfmlaaDoor.M
set_option linter.unusedVariables false
set_option linter.unusedSimpArgs false
open Go Go.RowKit Go.Proofs.YtbcdfbiggjfmlaaDoorW.PrintWords Go.Proofs.YtbcdfbiggjfmlaaDoorW.PrintLast

def cutL : List UInt8 → List (List UInt8)
  | [] => [[]]
  | c :: r => if c = 32 then [] :: cutL r else match cutL r with
    | [] => [[c]]
    | h :: t => (c :: h) :: t
def joinL : List (List UInt8) → List UInt8
  | [] => []
  | w :: ws => w ++ ws.flatMap (fun x => 32 :: x)
theorem cutL_ne (l : List UInt8) : cutL l ≠ [] := by
  cases l with
  | nil => simp [cutL]
  | cons c r =>
    rw [cutL]
    split
    · simp
    · split <;> simp
theorem cutL_cons (c : UInt8) (r : List UInt8) (h : c ≠ 32) : ∃ w t, cutL r = w :: t ∧ cutL (c :: r) = (c :: w) :: t := by
  cases e : cutL r with
  | nil => exact absurd e (cutL_ne r)
  | cons w t => exact ⟨w, t, rfl, by rw [cutL, if_neg h, e]⟩
theorem join_cut : ∀ l : List UInt8, joinL (cutL l) = l
  | [] => rfl
  | c :: r => by
    have ih := join_cut r
    by_cases h : c = 32
    · subst h
      rw [cutL, if_pos rfl]
      cases e : cutL r with
      | nil => exact absurd e (cutL_ne r)
      | cons w t =>
        rw [e] at ih
        simp only [joinL] at ih ⊢
        rw [List.flatMap_cons, List.nil_append, List.cons_append, ih]
    · obtain ⟨w, t, e1, e2⟩ := cutL_cons c r h
      rw [e1] at ih
      rw [e2]
      simp only [joinL, List.cons_append] at ih ⊢
      rw [ih]
theorem cut_word : ∀ (w r : List UInt8), (∀ c ∈ w, c ≠ 32) → cutL (w ++ 32 :: r) = w :: cutL r
  | [], r, _ => by rw [List.nil_append, cutL, if_pos rfl]
  | c :: w, r, h => by
    have ih := cut_word w r (fun d hd => h d (by simp [hd]))
    rw [List.cons_append, cutL, if_neg (h c (by simp)), ih]
theorem cut_one : ∀ (w : List UInt8), (∀ c ∈ w, c ≠ 32) → cutL w = [w]
  | [], _ => rfl
  | c :: w, h => by
    have ih := cut_one w (fun d hd => h d (by simp [hd]))
    rw [cutL, if_neg (h c (by simp)), ih]
theorem cut_join : ∀ (ws : List (List UInt8)), ws ≠ [] → (∀ w ∈ ws, ∀ c ∈ w, c ≠ 32) → cutL (joinL ws) = ws
  | [], h, _ => absurd rfl h
  | [w], _, h => by
    simp only [joinL, List.flatMap_nil, List.append_nil]
    exact cut_one w (h w (by simp))
  | w :: v :: ws, _, h => by
    have ih := cut_join (v :: ws) (by simp) (fun x hx => h x (by simp [hx]))
    simp only [joinL, List.flatMap_cons, List.cons_append] at ih ⊢
    rw [cut_word w _ (h w (by simp)), ih]
theorem cutL_len : ∀ l : List UInt8, (cutL l).length ≤ l.length + 1
  | [] => Nat.le_refl _
  | c :: r => by
    have ih := cutL_len r
    by_cases h : c = 32
    · rw [cutL, if_pos h, List.length_cons, List.length_cons]; omega
    obtain ⟨w, t, e1, e2⟩ := cutL_cons c r h
    rw [e1] at ih
    rw [e2, List.length_cons, List.length_cons]
    rw [List.length_cons] at ih
    omega
def mkB (l : List UInt8) : ByteArray := ⟨l.toArray⟩
theorem mkB_data (s : ByteArray) : mkB s.data.toList = s := by
  cases s
  rfl
theorem extract_mk (s : ByteArray) (a b : Nat) : s.extract a b = mkB ((s.data.toList.drop a).take (b - a)) := Lib.extract_eq s a b
theorem size_data (s : ByteArray) : s.size = s.data.toList.length := by rw [Array.length_toList]; rfl
theorem split_is : ∀ (n : Nat) (s : ByteArray), s.size ≤ n → Lib.splitB (⟨#[32]⟩ : ByteArray) 0 (Lib.countB s ⟨#[32]⟩) s = (cutL s.data.toList).map mkB := by
  have one : (⟨#[32]⟩ : ByteArray).data.toList = [32] := rfl
  have miss : ∀ s : ByteArray, Lib.indexB s (⟨#[32]⟩ : ByteArray) = -1 → Lib.splitB (⟨#[32]⟩ : ByteArray) 0 (Lib.countB s ⟨#[32]⟩) s = (cutL s.data.toList).map mkB := by
    intro s h
    have hi : Lib.indexByte s.data.toList 32 = -1 := by rw [← Lib.index_one]; exact h
    have hn : ∀ c ∈ s.data.toList, c ≠ 32 := by
      intro c hc e
      obtain ⟨k, hk, hk2⟩ := List.getElem_of_mem hc
      exact Lib.indexByte_none hi k (by rw [List.getElem?_eq_getElem hk, hk2, e])
    rw [Lib.splitB_miss _ _ _ _ h, cut_one _ hn]
    simp [mkB_data]
  intro n
  induction n with
  | zero =>
    intro s hs
    refine miss s ?_
    rcases Lib.indexB_cases s (⟨#[32]⟩ : ByteArray) with h | ⟨i, _, h⟩
    · exact h
    · have : (⟨#[32]⟩ : ByteArray).size = 1 := rfl
      omega
  | succ n ih =>
    intro s hs
    rcases Lib.indexB_cases s (⟨#[32]⟩ : ByteArray) with h | ⟨i, h, hr⟩
    · exact miss s h
    have sz : (⟨#[32]⟩ : ByteArray).size = 1 := rfl
    have hi : Lib.indexByte s.data.toList 32 = i := by rw [← Lib.index_one]; exact h
    obtain ⟨g1, g2⟩ := Lib.indexByte_some hi
    have hl := size_data s
    have he : s.data.toList = s.data.toList.take i ++ 32 :: s.data.toList.drop (i + 1) := by
      have hlt : i < s.data.toList.length := by omega
      rw [List.getElem?_eq_getElem hlt] at g1
      rw [← Option.some.inj g1, List.getElem_cons_drop, List.take_append_drop]
    have hw : ∀ c ∈ s.data.toList.take i, c ≠ 32 := by
      intro c hc e
      obtain ⟨k, hk, hk2⟩ := List.getElem_of_mem hc
      rw [List.length_take] at hk
      refine g2 k (by omega) ?_
      rw [List.getElem?_eq_getElem (by omega), ← e, ← hk2, List.getElem_take]
    have hx : (s.extract (i + 1) s.size).data.toList = s.data.toList.drop (i + 1) := by
      rw [extract_mk]
      show List.take _ _ = _
      exact List.take_of_length_le (by rw [List.length_drop]; omega)
    have hz : (s.extract (i + 1) s.size).size ≤ n := by rw [ByteArray.size_extract]; omega
    have ih2 := ih (s.extract (i + 1) s.size) hz
    rw [Lib.countB_hit s ⟨#[32]⟩ i (by decide) h, Nat.add_comm, Lib.splitB_hit _ _ _ _ _ h, sz, ih2, hx]
    conv => rhs; rw [he, cut_word _ _ hw]
    rw [List.map_cons, Nat.add_zero, extract_mk, List.drop_zero, Nat.sub_zero]
theorem bt_is (s : ByteArray) (n : Nat) (h : n < s.data.toList.length) : bt s (n : Int) = ((s.data.toList[n]).toNat : Int) := by
  have hs : (n : Int).toNat < s.size := by rw [Int.toNat_natCast, size_data]; exact h
  unfold bt
  rw [dif_pos hs]
  rfl
theorem l14Cut_l0_ev (s : ByteArray) (hs : s.size ≤ 1000000) : ∀ (d n : Nat) (fr : Nat) (out : List ByteArray), n + d = s.size → fr ≤ n → out.length ≤ n →
    Ev (fun k => spec_l14Cut.l0 k s 32 out (fr : Int) (n : Int)) (out ++ (match cutL (s.data.toList.drop n) with | [] => [] | h :: t => mkB ((s.data.toList.drop fr).take (n - fr) ++ h) :: t.map mkB)) := by
  have hl := size_data s
  intro d
  induction d with
  | zero =>
    intro n fr out hn hf ho
    have e : n = s.size := by omega
    rw [List.drop_of_length_le (i := n) (by omega)]
    simp only [cutL, List.map_nil, List.append_nil]
    have wn : wrap64 ((n : Int) + 1) = ((n + 1 : Nat) : Int) := w_succ (by omega)
    refine Ev.step (fun k => by simp only [spec_l14Cut.l0]; rw [if_pos (by omega), if_pos (by omega), if_pos (by omega), if_pos (by omega), if_pos (by omega), wn, Int.toNat_natCast, Int.toNat_natCast, extract_mk]) ?_
    exact Ev.last (fun k => by simp only [spec_l14Cut.l0]; rw [if_neg (by omega)])
  | succ d ih =>
    intro n fr out hn hf ho
    have hlt : n < s.data.toList.length := by omega
    have wn : wrap64 ((n : Int) + 1) = ((n + 1 : Nat) : Int) := w_succ (by omega)
    rw [List.drop_eq_getElem_cons hlt]
    by_cases hc : s.data.toList[n] = 32
    · have hb : bt s (n : Int) = 32 := by rw [bt_is s n hlt, hc]; rfl
      rw [cutL, if_pos hc]
      have next := ih (n + 1) (n + 1) (out ++ [mkB ((s.data.toList.drop fr).take (n - fr))]) (by omega) (by omega) (by rw [List.length_append, List.length_singleton]; omega)
      refine Ev.step (fun k => by simp only [spec_l14Cut.l0]; rw [if_pos (by omega), if_neg (by omega), if_pos (by omega), if_pos (by omega), hb, if_pos rfl, if_pos (by omega), if_pos (by omega), if_pos (by omega), wn, Int.toNat_natCast, Int.toNat_natCast, extract_mk]) (Ev.val next ?_)
      simp only [Nat.sub_self, List.take_zero, List.nil_append, List.append_nil, List.append_assoc, List.singleton_append]
      cases e : cutL (s.data.toList.drop (n + 1)) with
      | nil => exact absurd e (cutL_ne _)
      | cons h t => rfl
    have hb : ¬ bt s (n : Int) = 32 := by
      rw [bt_is s n hlt]
      intro e
      exact hc (UInt8.toNat_inj.1 (by have : (s.data.toList[n]).toNat = 32 := by omega
                                      rw [this]; rfl))
    obtain ⟨w, t, e1, e2⟩ := cutL_cons s.data.toList[n] (s.data.toList.drop (n + 1)) hc
    rw [e2]
    have next := ih (n + 1) fr out (by omega) (by omega) (by omega)
    rw [e1] at next
    refine Ev.step (fun k => by simp only [spec_l14Cut.l0]; rw [if_pos (by omega), if_neg (by omega), if_pos (by omega), if_pos (by omega), if_neg hb, wn]) (Ev.val next ?_)
    have e3 : (s.data.toList.drop fr).take (n + 1 - fr) = (s.data.toList.drop fr).take (n - fr) ++ [s.data.toList[n]] := by
      rw [show n + 1 - fr = (n - fr) + 1 by omega, List.take_succ_eq_append_getElem (by rw [List.length_drop]; omega), List.getElem_drop]
      simp only [show fr + (n - fr) = n by omega]
    simp only [e3, List.append_assoc, List.singleton_append]
theorem l14Cut_ev (s : ByteArray) (hs : s.size ≤ 1000000) : Ev (fun k => spec_l14Cut.f k s 32) ((cutL s.data.toList).map mkB) := by
  have := l14Cut_l0_ev s hs s.size 0 0 [] (by omega) (by omega) (by simp)
  unfold spec_l14Cut.f
  refine Ev.val this ?_
  rw [List.drop_zero]
  cases e : cutL s.data.toList with
  | nil => exact absurd e (cutL_ne _)
  | cons h t => simp
def isDig (c : UInt8) : Prop := 48 ≤ c.toNat ∧ c.toNat ≤ 57
def stepV (a : Nat) (c : UInt8) : Nat := a * 10 + (c.toNat - 48)
theorem stepV_is (a x : Nat) (c : UInt8) (h : c.toNat = 48 + x) : stepV a c = a * 10 + x := by
  unfold stepV
  omega
def valL (a : Nat) (l : List UInt8) : Nat := l.foldl stepV a
theorem valL_nil (a : Nat) : valL a [] = a := by unfold valL; rw [List.foldl_nil]
theorem valL_cons (a : Nat) (c : UInt8) (r : List UInt8) : valL a (c :: r) = valL (stepV a c) r := by unfold valL; rw [List.foldl_cons]
theorem dig_is {c : UInt8} (h : isDig c) : ∃ x : Nat, c.toNat = 48 + x ∧ x ≤ 9 := ⟨c.toNat - 48, by have := h.1; have := h.2; omega, by have := h.1; have := h.2; omega⟩
theorem valL_append (l m : List UInt8) (a : Nat) : valL a (l ++ m) = valL (valL a l) m := by unfold valL; rw [List.foldl_append]
theorem dig_of (d : Nat) (h : d < 10) : (UInt8.ofNat (48 + d)).toNat = 48 + d := by
  have : d = 0 ∨ d = 1 ∨ d = 2 ∨ d = 3 ∨ d = 4 ∨ d = 5 ∨ d = 6 ∨ d = 7 ∨ d = 8 ∨ d = 9 := by omega
  rcases this with rfl | rfl | rfl | rfl | rfl | rfl | rfl | rfl | rfl | rfl <;> rfl
theorem dec_dig (n : Nat) : ∀ c ∈ Lib.decDigits n, isDig c := by
  induction n using Nat.strongRecOn with
  | _ n ih =>
    intro c hc
    by_cases h : n < 10
    · rw [Lib.decDigits_one h, List.mem_singleton] at hc
      rw [hc]
      unfold isDig
      rw [dig_of n h]
      omega
    rw [Lib.decDigits, dif_neg h] at hc
    rcases List.mem_append.1 hc with hc | hc
    · exact ih (n / 10) (by omega) c hc
    rw [List.mem_singleton.1 hc]
    unfold isDig
    rw [dig_of _ (by omega)]
    omega
theorem val_dec (n : Nat) : valL 0 (Lib.decDigits n) = n := by
  induction n using Nat.strongRecOn with
  | _ n ih =>
    by_cases h : n < 10
    · rw [Lib.decDigits_one h, valL_cons, valL_nil, stepV_is 0 n _ (dig_of n h)]
      omega
    · rw [Lib.decDigits, dif_neg h, valL_append, ih (n / 10) (by omega), valL_cons, valL_nil, stepV_is _ (n % 10) _ (dig_of _ (by omega))]
      omega
theorem dec_ne (n : Nat) : Lib.decDigits n ≠ [] := by
  intro e
  have := Lib.decDigits_length n
  have := Lib.nDigits_pos n
  rw [e] at *
  simp at *
  omega
theorem dec_head (n : Nat) (h0 : n ≠ 0) : ∃ c r, Lib.decDigits n = c :: r ∧ c.toNat ≠ 48 := by
  induction n using Nat.strongRecOn with
  | _ n ih =>
    by_cases h : n < 10
    · exact ⟨_, [], Lib.decDigits_one h, by rw [dig_of n h]; omega⟩
    · obtain ⟨c, r, e, hc⟩ := ih (n / 10) (by omega) (by omega)
      exact ⟨c, _, by rw [Lib.decDigits, dif_neg h, e, List.cons_append], hc⟩
theorem valL_pos : ∀ (l : List UInt8) (a : Nat), a ≤ valL a l
  | [], a => by rw [valL_nil]; exact Nat.le_refl _
  | c :: l, a => by
    have := valL_pos l (stepV a c)
    have h2 : a ≤ stepV a c := by unfold stepV; omega
    rw [valL_cons]
    omega
theorem dec_val : ∀ (n : Nat) (l : List UInt8), l.length = n + 1 → (∀ c ∈ l, isDig c) → (∀ c r, l = c :: r → c.toNat = 48 → r = []) → Lib.decDigits (valL 0 l) = l := by
  intro n
  induction n with
  | zero =>
    intro l hl hd _
    match l, hl with
    | [c], _ =>
      obtain ⟨x, hx, h9⟩ := dig_is (hd c (by simp))
      rw [valL_cons, valL_nil, stepV_is 0 x c hx, Lib.decDigits_one (by omega)]
      congr 1
      apply UInt8.toNat_inj.1
      rw [dig_of _ (by omega)]
      omega
  | succ n ih =>
    intro l hl hd hz
    obtain ⟨l', c, rfl⟩ : ∃ l' c, l = l' ++ [c] := by
      rcases List.eq_nil_or_concat l with rfl | ⟨l', c, e⟩
      · simp at hl
      · exact ⟨l', c, by rw [e]; simp⟩
    have hl' : l'.length = n + 1 := by simp at hl; exact hl
    obtain ⟨x, hx, h9⟩ := dig_is (hd c (by simp))
    match l', hl' with
    | b :: r, hl' =>
      obtain ⟨y, hy, hy9⟩ := dig_is (hd b (by simp))
      have hb0 : b.toNat ≠ 48 := fun e => by have := hz b (r ++ [c]) (by simp) e; simp at this
      have ih2 := ih (b :: r) hl' (fun x hx => hd x (by simp only [List.mem_append]; exact .inl hx)) (fun x z e hx => by
        injection e with e1 e2
        rw [e1] at hb0
        exact absurd hx hb0)
      have hp : 1 ≤ valL 0 (b :: r) := by
        rw [valL_cons, stepV_is 0 y b hy]
        have := valL_pos r (0 * 10 + y)
        omega
      rw [valL_append, valL_cons, valL_nil, stepV_is _ x c hx]
      generalize valL 0 (b :: r) = v at *
      rw [Lib.decDigits, dif_neg (by omega), show (v * 10 + x) / 10 = v by omega, ih2]
      congr 2
      apply UInt8.toNat_inj.1
      rw [show (v * 10 + x) % 10 = x by omega, dig_of _ (by omega)]
      omega
open Classical in
noncomputable def digR (neg : Bool) (l : List UInt8) (a : Nat) : Int × Bool := if (∀ c ∈ l, isDig c) then (if neg = true then -(valL a l : Int) else (valL a l : Int), true) else (0, false)
theorem num_l0_ev (s : ByteArray) (neg : Bool) (hs : s.size ≤ 17) : ∀ (d n a : Nat), n + d = s.size → a < 10 ^ n → Ev (fun k => spec_l14Num.l0 k s neg (a : Int) (n : Int)) (digR neg (s.data.toList.drop n) a) := by
  have hl := size_data s
  have p17 : ∀ n, n ≤ 17 → (10 : Nat) ^ n ≤ 100000000000000000 := fun n hn => Nat.pow_le_pow_right (by omega) hn
  intro d
  induction d with
  | zero =>
    intro n a hn ha
    have := p17 n (by omega)
    rw [List.drop_of_length_le (by omega)]
    unfold digR
    rw [if_pos (fun c hc => by simp at hc), valL_nil]
    cases neg with
    | true =>
      have w : wrap64 (-(a : Int)) = -(a : Int) := w_small (by omega) (by omega)
      exact Ev.last (fun k => by simp only [spec_l14Num.l0]; rw [if_neg (by omega), if_pos trivial, if_pos trivial, w])
    | false => exact Ev.last (fun k => by simp only [spec_l14Num.l0]; rw [if_neg (by omega), if_neg (by decide), if_neg (by decide)])
  | succ d ih =>
    intro n a hn ha
    have hlt : n < s.data.toList.length := by omega
    have hb := bt_is s n hlt
    have h17 := p17 (n + 1) (by omega)
    rw [Nat.pow_succ] at h17
    rw [List.drop_eq_getElem_cons hlt]
    generalize hc : s.data.toList[n] = c at *
    by_cases hd : isDig c
    rotate_left
    · have : digR neg (c :: s.data.toList.drop (n + 1)) a = (0, false) := by
        unfold digR
        rw [if_neg (fun q => hd (q c (by simp)))]
      rw [this]
      unfold isDig at hd
      by_cases h48 : c.toNat < 48
      · exact Ev.last (fun k => by simp only [spec_l14Num.l0]; rw [if_pos (by omega), if_pos (by omega), hb, if_pos (by omega)])
      · exact Ev.last (fun k => by simp only [spec_l14Num.l0]; rw [if_pos (by omega), if_pos (by omega), hb, if_neg (by omega), if_pos (by omega)])
    obtain ⟨x, hx, h9⟩ := dig_is hd
    have e1 : wrap64 ((a : Int) * 10) = ((a * 10 : Nat) : Int) := by rw [w_small (by omega) (by omega)]; omega
    have e2 : (((c.toNat : Int) - 48) % 256) = (x : Int) := by omega
    have e3 : wrap64 (((a * 10 : Nat) : Int) + (x : Int)) = ((stepV a c : Nat) : Int) := by rw [stepV_is a x c hx, w_small (by omega) (by omega)]; omega
    have q1 : (n : Int) < (s.size : Int) := by omega
    have q2 : (0 : Int) ≤ (n : Int) := by omega
    have q3 : ¬ ((c.toNat : Int) < 48) := by omega
    have q4 : ¬ ((c.toNat : Int) > 57) := by omega
    have q5 := w_succ (n := n) (by omega)
    have q6 : stepV a c < 10 ^ (n + 1) := by rw [stepV_is a x c hx, Nat.pow_succ]; omega
    have st : ∀ k, spec_l14Num.l0 (k + 1) s neg (a : Int) (n : Int) = spec_l14Num.l0 k s neg ((stepV a c : Nat) : Int) ((n + 1 : Nat) : Int) := fun k => by
      simp only [spec_l14Num.l0]
      rw [if_pos q1, if_pos q2, hb, if_neg q3, if_neg q4, e1, e2, e3, q5]
    refine Ev.step st (Ev.val (ih (n + 1) (stepV a c) (by omega) q6) ?_)
    unfold digR
    by_cases hr : ∀ x ∈ s.data.toList.drop (n + 1), isDig x
    · rw [if_pos hr, if_pos (fun x hx => by rcases List.mem_cons.1 hx with rfl | hx; exact hd; exact hr x hx), valL_cons]
    · rw [if_neg hr, if_neg (fun q => hr (fun x hx => q x (by simp [hx])))]
noncomputable def bodyR (neg : Bool) (l : List UInt8) : Int × Bool := if l = [] ∨ 17 < l.length ∨ (l.head? = some 48 ∧ (1 < l.length ∨ neg = true)) then (0, false) else digR neg l 0
theorem num_j1_ev (s : ByteArray) (neg : Bool) : Ev (fun k => spec_l14Num.j1 k s neg) (bodyR neg s.data.toList) := by
  have hl := size_data s
  have bad : Ev (fun k => spec_l14Num.j2 k s neg true) (0, false) := Ev.last (fun k => by simp only [spec_l14Num.j2]; rw [if_pos trivial])
  have good : s.size ≤ 17 → Ev (fun k => spec_l14Num.j2 k s neg false) (digR neg s.data.toList 0) := fun h => Ev.step (fun k => by simp only [spec_l14Num.j2]; rw [if_neg (by decide)]; rfl) (num_l0_ev s neg h s.size 0 0 (by omega) (by simp))
  unfold bodyR
  by_cases h0 : s.data.toList = []
  · rw [if_pos (.inl h0)]
    refine Ev.step (fun k => by simp only [spec_l14Num.j1]; rw [if_pos (by rw [hl, h0]; rfl)]) bad
  by_cases h17 : 17 < s.data.toList.length
  · rw [if_pos (.inr (.inl h17))]
    have : s.data.toList.length ≠ 0 := fun e => h0 (List.length_eq_zero_iff.1 e)
    refine Ev.step (fun k => by simp only [spec_l14Num.j1]; rw [if_neg (by omega), if_pos (by omega)]) bad
  have hp : s.data.toList.length ≠ 0 := fun e => h0 (List.length_eq_zero_iff.1 e)
  have hb : bt s 0 = ((s.data.toList[0]'(by omega)).toNat : Int) := bt_is s 0 (by omega)
  have hh : s.data.toList.head? = some (s.data.toList[0]'(by omega)) := by rw [List.head?_eq_getElem?, List.getElem?_eq_getElem (by omega)]
  by_cases h48 : (s.data.toList[0]'(by omega)).toNat = 48
  · have e48 : s.data.toList[0]'(by omega) = 48 := UInt8.toNat_inj.1 (by rw [h48]; rfl)
    by_cases h1 : 1 < s.data.toList.length
    · rw [if_pos (.inr (.inr ⟨by rw [hh, e48], .inl h1⟩))]
      refine Ev.step (fun k => by simp only [spec_l14Num.j1]; rw [if_neg (by omega), if_neg (by omega), if_pos (by omega), hb, if_pos (by omega), if_pos (by omega)]) bad
    cases neg with
    | true =>
      rw [if_pos (.inr (.inr ⟨by rw [hh, e48], .inr rfl⟩))]
      refine Ev.step (fun k => by simp only [spec_l14Num.j1]; rw [if_neg (by omega), if_neg (by omega), if_pos (by omega), hb, if_pos (by omega), if_neg (by omega)]) bad
    | false =>
      rw [if_neg (by rintro (q | q | ⟨_, q | q⟩); exact h0 q; omega; exact h1 q; cases q)]
      refine Ev.step (fun k => by simp only [spec_l14Num.j1]; rw [if_neg (by omega), if_neg (by omega), if_pos (by omega), hb, if_pos (by omega), if_neg (by omega)]) (good (by omega))
  · rw [if_neg (by rintro (q | q | ⟨q, _⟩); exact h0 q; omega; rw [hh] at q; exact h48 (by rw [Option.some.inj q]; rfl))]
    refine Ev.step (fun k => by simp only [spec_l14Num.j1]; rw [if_neg (by omega), if_neg (by omega), if_pos (by omega), hb, if_neg (by omega)]) (good (by omega))
noncomputable def numS (l : List UInt8) : Int × Bool := match l with
  | [] => (0, false)
  | c :: r => if c = 45 then bodyR true r else bodyR false (c :: r)
theorem l14Num_ev (s : ByteArray) (hs : s.size ≤ 9223372036854775806) : Ev (fun k => spec_l14Num.f k s) (numS s.data.toList) := by
  have hl := size_data s
  unfold spec_l14Num.f
  cases e : s.data.toList with
  | nil =>
    have h0 : s.size = 0 := by rw [hl, e]; rfl
    refine Ev.neg (by omega) (Ev.step (fun k => by simp only [spec_l14Num.j0]; rw [if_neg (by decide)]) (Ev.val (num_j1_ev s false) ?_))
    rw [e]
    unfold bodyR
    rw [if_pos (.inl rfl)]
    rfl
  | cons c r =>
    have h0 : s.size = r.length + 1 := by rw [hl, e]; rfl
    have hb : bt s 0 = (c.toNat : Int) := by
      rw [show (0 : Int) = ((0 : Nat) : Int) from rfl, bt_is s 0 (by rw [e]; simp)]
      simp only [e, List.getElem_cons_zero]
    refine Ev.pos (by omega) (Ev.pos (by omega) ?_)
    rw [hb]
    simp only [numS]
    by_cases hc : c = 45
    · have : (((c.toNat : Int)) == 45) = true := by rw [hc]; rfl
      rw [this, if_pos hc]
      refine Ev.step (fun k => by simp only [spec_l14Num.j0]; rw [if_pos trivial, if_pos (by omega)]) (Ev.val (num_j1_ev (s.extract 1 s.size) true) ?_)
      congr 1
      rw [extract_mk]
      show List.take _ (List.drop 1 s.data.toList) = r
      rw [e, List.drop_succ_cons, List.drop_zero, List.take_of_length_le (by omega)]
    have : (((c.toNat : Int)) == 45) = false := by
      refine beq_eq_false_iff_ne.2 (fun q => hc (UInt8.toNat_inj.1 ?_))
      have : c.toNat = 45 := by omega
      rw [this]
      rfl
    rw [this, if_neg hc]
    refine Ev.step (fun k => by simp only [spec_l14Num.j0]; rw [if_neg (by decide)]) (Ev.val (num_j1_ev s false) ?_)
    rw [e]
theorem num_dec (n : Nat) (h : n < 100000000000000000) : numS (Lib.decDigits n) = ((n : Int), true) := by
  have hd := dec_dig n
  have hlen : (Lib.decDigits n).length ≤ 17 := by
    rw [Lib.decDigits_length]
    by_cases h0 : n < 10
    · rw [Lib.nDigits_small h0]; omega
    refine Decidable.byContradiction (fun q => ?_)
    have key : ∀ k u : Nat, k + 1 ≤ Lib.nDigits u → 1 ≤ u → 10 ^ k ≤ u := by
      intro k
      induction k with
      | zero => intro u _ hu; simpa using hu
      | succ k ih =>
        intro u hk hu
        have hu10 : ¬ u < 10 := fun hq => by rw [Lib.nDigits_small hq] at hk; omega
        rw [Lib.nDigits_big hu10] at hk
        have := ih (u / 10) (by omega) (by omega)
        rw [Nat.pow_succ]
        omega
    have := key 17 n (by omega) (by omega)
    have e : (10 : Nat) ^ 17 = 100000000000000000 := by decide
    omega
  have key : bodyR false (Lib.decDigits n) = ((n : Int), true) := by
    unfold bodyR
    rw [if_neg]
    · unfold digR
      rw [if_pos hd, val_dec]
      rfl
    rintro (q | q | ⟨q, q2 | q2⟩)
    · exact dec_ne n q
    · omega
    · by_cases h0 : n = 0
      · subst h0
        rw [Lib.decDigits_one (by omega)] at q2
        simp at q2
      obtain ⟨c, r, e, hc⟩ := dec_head n h0
      rw [e] at q
      simp only [List.head?_cons, Option.some.injEq] at q
      rw [q] at hc
      exact hc rfl
    · cases q2
  cases e : Lib.decDigits n with
  | nil => exact absurd e (dec_ne n)
  | cons c r =>
    have hc := hd c (by rw [e]; simp)
    unfold isDig at hc
    simp only [numS]
    rw [if_neg (fun q => by rw [q] at hc; have : (45 : UInt8).toNat = 45 := rfl; omega), ← e]
    exact key
theorem num_sound {l : List UInt8} {n : Int} (h : numS l = (n, true)) (h0 : 0 ≤ n) : l = Lib.decDigits n.toNat := by
  have body : ∀ (neg : Bool) (m : List UInt8), bodyR neg m = (n, true) → neg = false ∧ m = Lib.decDigits n.toNat := by
    intro neg m hm
    unfold bodyR at hm
    by_cases c : m = [] ∨ 17 < m.length ∨ (m.head? = some 48 ∧ (1 < m.length ∨ neg = true))
    · rw [if_pos c] at hm
      cases (Prod.mk.inj hm).2
    rw [if_neg c] at hm
    unfold digR at hm
    by_cases hd : ∀ x ∈ m, isDig x
    rotate_left
    · rw [if_neg hd] at hm
      cases (Prod.mk.inj hm).2
    rw [if_pos hd] at hm
    have hv := (Prod.mk.inj hm).1
    have hne : m ≠ [] := fun e => c (.inl e)
    have hz : ∀ x r, m = x :: r → x.toNat = 48 → r = [] := by
      intro x r e hx
      refine Decidable.byContradiction (fun hr => c (.inr (.inr ⟨?_, .inl ?_⟩)))
      · rw [e]
        simp only [List.head?_cons, Option.some.injEq]
        exact UInt8.toNat_inj.1 (by rw [hx]; rfl)
      · rw [e, List.length_cons]
        have : r.length ≠ 0 := fun q => hr (List.length_eq_zero_iff.1 q)
        omega
    have hl : m.length ≠ 0 := fun q => hne (List.length_eq_zero_iff.1 q)
    have hdv := dec_val (m.length - 1) m (by omega) hd hz
    cases neg with
    | false =>
      rw [if_neg (by decide)] at hv
      refine ⟨rfl, ?_⟩
      rw [← hv, Int.toNat_natCast, hdv]
    | true =>
      exfalso
      rw [if_pos rfl] at hv
      have hv0 : valL 0 m = 0 := by omega
      rw [hv0, Lib.decDigits_one (by omega)] at hdv
      refine c (.inr (.inr ⟨?_, .inr rfl⟩))
      rw [← hdv]
      rfl
  cases l with
  | nil => cases (Prod.mk.inj h).2
  | cons c r =>
    simp only [numS] at h
    by_cases hc : c = 45
    · rw [if_pos hc] at h
      cases (body true r h).1
    · rw [if_neg hc] at h
      exact (body false _ h).2
theorem parse_dec : ∀ (l : List UInt8) (a : Nat), (∀ c ∈ l, isDig c) → valL a l < 1844674407370955162 → Lib.parseUint10 a l = .ok (valL a l)
  | [], a, _, _ => by rw [Lib.parseUint10, valL_nil]
  | c :: l, a, h, hv => by
    obtain ⟨x, hx, h9⟩ := dig_is (h c (by simp))
    have hp := valL_pos l (stepV a c)
    rw [valL_cons] at hv
    have hs := stepV_is a x c hx
    have hc := h c (by simp)
    unfold isDig at hc
    rw [Lib.parseUint10, if_pos hc, if_neg (by omega), if_neg (by omega), valL_cons]
    exact parse_dec l _ (fun d hd => h d (by simp [hd])) hv
theorem atoi_dec (n : Nat) (h : n < 1000000000000000) : Lib.atoiAll (Lib.decDigits n) = .ok (n : Int) := by
  have hd := dec_dig n
  have hp := parse_dec (Lib.decDigits n) 0 hd (by rw [val_dec]; omega)
  rw [val_dec] at hp
  cases e : Lib.decDigits n with
  | nil => exact absurd e (dec_ne n)
  | cons c r =>
    have hc := hd c (by rw [e]; simp)
    unfold isDig at hc
    rw [e] at hp
    unfold Lib.atoiAll
    simp only
    rw [if_neg (by omega)]
    unfold Lib.parseMag
    rw [if_neg (by simp), hp]
    simp only
    rw [if_neg (by omega), if_neg (by omega), if_neg (by omega)]
mutual
def wdsX : S29 → List (List UInt8)
  | ⟨a, b, n, l⟩ => (if a = 1 then bL (letB b) else bL (rdOf ByteArray.empty exW a)) :: ((if a = 7 then [Lib.decDigits n.toNat] else []) ++ wdsL l)
def wdsL : List S29 → List (List UInt8)
  | [] => []
  | x :: xs => wdsX x ++ wdsL xs
end
def numL (x : S29) : List (List UInt8) := if x.f0 = 7 then [Lib.decDigits x.f2.toNat] else []
theorem wdsX_is (x : S29) : wdsX x = hdW x :: (numL x ++ wdsL x.f3) := by
  cases x
  simp only [wdsX, hdW, numL]
theorem wdsL_nil : wdsL [] = [] := by simp only [wdsL]
theorem wdsL_cons (x : S29) (l : List S29) : wdsL (x :: l) = wdsX x ++ wdsL l := by simp only [wdsL]
def tw (ws : List (List UInt8)) : List UInt8 := ws.flatMap (fun w => 32 :: w)
theorem tw_append (a b : List (List UInt8)) : tw (a ++ b) = tw a ++ tw b := by unfold tw; rw [List.flatMap_append]
theorem tw_cons (w : List UInt8) (ws : List (List UInt8)) : tw (w :: ws) = 32 :: (w ++ tw ws) := by unfold tw; rw [List.flatMap_cons, List.cons_append]
theorem tw_num (x : S29) : tw (numL x) = numW x := by
  unfold numL numW
  by_cases h : x.f0 = 7
  · rw [if_pos h, if_pos h, tw_cons]
    simp [tw]
  · rw [if_neg h, if_neg h]
    rfl
theorem tw_kids (l : List S29) (h : ∀ x ∈ l, tw (wdsX x) = 32 :: txL x) : tw (wdsL l) = txsL l := by
  induction l with
  | nil => rw [wdsL_nil, txsL_nil]; rfl
  | cons x l ih => rw [wdsL_cons, txsL_cons, tw_append, h x (by simp), ih (fun y hy => h y (by simp [hy])), List.cons_append]
theorem tw_text : ∀ x : S29, fmY x = true → tw (wdsX x) = 32 :: txL x := by
  refine indI (fun x ih h => ?_)
  obtain ⟨_, h2⟩ := fmY_parts h
  rw [wdsX_is, tw_cons, tw_append, tw_num, tw_kids x.f3 (fun y hy => ih y hy (h2 y hy)), txL_is x h]
theorem text_join (x : S29) (h : fmY x = true) : txL x = joinL (wdsX x) := by
  have := tw_text x h
  rw [wdsX_is, tw_cons] at this
  rw [wdsX_is]
  exact (List.cons.inj this).2.symm
theorem wds_word : ∀ x : S29, fmY x = true → ∀ w ∈ wdsX x, ∀ c ∈ w, c ≠ 32 := by
  refine indI (fun x ih h w hw => ?_)
  obtain ⟨h1, h2⟩ := fmY_parts h
  obtain ⟨_, _, _, _, _, hc, _⟩ := okN_cases h1
  rw [wdsX_is] at hw
  rcases List.mem_cons.1 hw with rfl | hw
  · exact hdW_word h1
  rcases List.mem_append.1 hw with hw | hw
  · unfold numL at hw
    by_cases h7 : x.f0 = 7
    · rw [if_pos h7, List.mem_singleton] at hw
      rw [hw]
      have := hc h7
      exact dec_word _ (by omega)
    · rw [if_neg h7] at hw
      simp at hw
  have key : ∀ l : List S29, (∀ y ∈ l, ∀ w ∈ wdsX y, ∀ c ∈ w, c ≠ 32) → ∀ w ∈ wdsL l, ∀ c ∈ w, c ≠ 32 := by
    intro l
    induction l with
    | nil => intro _ w hw; rw [wdsL_nil] at hw; simp at hw
    | cons y l ihl =>
      intro hy w hw
      rw [wdsL_cons] at hw
      rcases List.mem_append.1 hw with hw | hw
      · exact hy y (by simp) w hw
      · exact ihl (fun z hz => hy z (by simp [hz])) w hw
  exact key x.f3 (fun y hy => ih y hy (h2 y hy)) w hw
theorem cut_text (x : S29) (h : fmY x = true) : cutL (textP x).data.toList = wdsX x := by
  have e : (textP x).data.toList = joinL (wdsX x) := text_join x h
  rw [e, cut_join _ (by rw [wdsX_is]; simp) (wds_word x h)]
theorem splitW_is (s : ByteArray) : splitW s = (cutL s.data.toList).map mkB := split_is s.size s (Nat.le_refl _)
theorem mkB_bL (s : ByteArray) : mkB (bL s) = s := mkB_data s
theorem drop_word {all : List ByteArray} {o : Nat} {w : ByteArray} {r : List ByteArray} (h : all.drop o = w :: r) : o < all.length ∧ all.getD o ByteArray.empty = w ∧ all.drop (o + 1) = r := by
  have hlt : o < all.length := by
    refine Decidable.byContradiction (fun q => ?_)
    rw [List.drop_of_length_le (by omega)] at h
    cases h
  rw [List.drop_eq_getElem_cons hlt] at h
  injection h with h1 h2
  refine ⟨hlt, ?_, h2⟩
  rw [List.getD_eq_getElem?_getD, List.getElem?_eq_getElem hlt, ← h1]
  rfl
theorem word_len (x : S29) : 1 ≤ (wdsX x).length := by rw [wdsX_is]; simp
theorem hd_kind {x : S29} (h : okN x.f0 x.f1 x.f2 x.f3.length = true) (h1 : x.f0 ≠ 1) : kdW (mkB (hdW x)) = x.f0 ∧ (mkB (hdW x)).size ≠ 1 := by
  obtain ⟨a1, a7, _, _, _, _, _⟩ := okN_cases h
  unfold hdW
  rw [if_neg h1, mkB_bL]
  have : x.f0 = 2 ∨ x.f0 = 3 ∨ x.f0 = 4 ∨ x.f0 = 5 ∨ x.f0 = 6 ∨ x.f0 = 7 := by omega
  rcases this with q | q | q | q | q | q <;> rw [q] <;> decide +kernel
theorem hd_letter {x : S29} (h : okN x.f0 x.f1 x.f2 x.f3.length = true) (h1 : x.f0 = 1) : letV (mkB (hdW x)) = x.f1 ∧ (mkB (hdW x)).size = 1 := by
  obtain ⟨_, _, _, hb, _, _, _⟩ := okN_cases h
  obtain ⟨b0, b4, _⟩ := hb h1
  unfold hdW
  rw [if_pos h1, mkB_bL]
  have : x.f1 = 0 ∨ x.f1 = 1 ∨ x.f1 = 2 ∨ x.f1 = 3 ∨ x.f1 = 4 := by omega
  rcases this with q | q | q | q | q <;> rw [q] <;> decide +kernel
theorem at_num (n : Int) (h0 : 0 ≤ n) (h1 : n < 1000) : atV (mkB (Lib.decDigits n.toNat)) = n := by
  unfold atV
  have : (mkB (Lib.decDigits n.toNat)).data.toList = Lib.decDigits n.toNat := rfl
  rw [this, atoi_dec n.toNat (by omega)]
  simp only
  omega
theorem kidN_is {x : S29} (h : okN x.f0 x.f1 x.f2 x.f3.length = true) (h1 : x.f0 ≠ 1) : kidN x.f0 = x.f3.length := by
  obtain ⟨a1, a7, hk, _, _, _, _⟩ := okN_cases h
  have : x.f0 = 2 ∨ x.f0 = 3 ∨ x.f0 = 4 ∨ x.f0 = 5 ∨ x.f0 = 6 ∨ x.f0 = 7 := by omega
  rcases this with q | q | q | q | q | q <;> rw [q] at hk ⊢ <;> (have e : kidsOf _ = _ := hk; simp [kidsOf] at e; unfold kidN; simp; omega)
def ReadOk (all : List ByteArray) (x : S29) : Prop := ∀ (d o : Nat) (rest : List ByteArray), all.drop o = (wdsX x).map mkB ++ rest → manyY x ≤ d → exP all d o = (x, o + (wdsX x).length)
theorem kids_read (all : List ByteArray) : ∀ (l : List S29), (∀ y ∈ l, ReadOk all y) → ∀ (d o : Nat) (acc : List S29) (rest : List ByteArray), all.drop o = (wdsL l).map mkB ++ rest → manysY l ≤ d → kidsG (exP all d) l.length o acc = (acc ++ l, o + (wdsL l).length)
  | [], _, d, o, acc, rest, _, _ => by
    rw [List.length_nil, kidsG, wdsL_nil]
    simp
  | x :: l, h, d, o, acc, rest, hd, hm => by
    rw [manysY_cons] at hm
    rw [wdsL_cons, List.map_append, List.append_assoc] at hd
    have h1 := h x (by simp) d o _ hd (by omega)
    have hd2 : all.drop (o + (wdsX x).length) = (wdsL l).map mkB ++ rest := by
      have := congrArg (List.drop (wdsX x).length) hd
      rw [List.drop_drop, List.drop_left' (by simp)] at this
      exact this
    have h2 := kids_read all l (fun y hy => h y (by simp [hy])) d (o + (wdsX x).length) (acc ++ [x]) rest hd2 (by omega)
    rw [List.length_cons, kidsG, h1, h2, wdsL_cons, List.length_append, List.append_assoc]
    simp [Nat.add_assoc]
theorem exP_read (all : List ByteArray) : ∀ x : S29, fmY x = true → ReadOk all x := by
  refine indI (fun x ih h d o rest hd hm => ?_)
  obtain ⟨h1, h2⟩ := fmY_parts h
  obtain ⟨a1, a7, hk, hb, hb', hc, hc'⟩ := okN_cases h1
  rw [manyY_is] at hm
  obtain ⟨d, rfl⟩ : ∃ e, d = e + 1 := ⟨d - 1, by omega⟩
  have hd0 := hd
  rw [wdsX_is, List.map_cons, List.cons_append] at hd
  obtain ⟨ho, hw, hd1⟩ := drop_word hd
  have hn : nextO all o = o + 1 := if_pos ho
  rw [exP_is, hw, hn, wdsX_is]
  by_cases e1 : x.f0 = 1
  · obtain ⟨l1, l2⟩ := hd_letter h1 e1
    have k0 : x.f3 = [] := List.length_eq_zero_iff.1 (hb e1).2.2
    have n0 := hc' (by omega)
    rw [if_pos l2, l1, k0, wdsL_nil]
    unfold numL
    rw [if_neg (by omega), ← e1, ← n0, ← k0, eta_T]
    rfl
  obtain ⟨l1, l2⟩ := hd_kind h1 e1
  rw [if_neg l2, l1, if_pos ⟨by omega, a7⟩, kidN_is h1 e1]
  have b0 := hb' e1
  have ks : ∀ y ∈ x.f3, ReadOk all y := fun y hy => ih y hy (h2 y hy)
  by_cases e7 : x.f0 = 7
  · simp only [if_pos e7]
    have hc7 := hc e7
    unfold numL at hd1 ⊢
    rw [if_pos e7] at hd1 ⊢
    rw [List.map_append, List.map_cons, List.map_nil, List.append_assoc, List.singleton_append] at hd1
    obtain ⟨ho2, hw2, hd2⟩ := drop_word hd1
    have hn2 : nextO all (o + 1) = o + 1 + 1 := if_pos ho2
    have key := kids_read all x.f3 ks d (o + 1 + 1) [] rest hd2 (by omega)
    rw [hw2, hn2, at_num x.f2 (by omega) (by omega), key, List.nil_append, ← b0, eta_T, List.length_cons, List.length_append, List.length_singleton]
    congr 1
    omega
  · simp only [if_neg e7]
    have n0 := hc' e7
    unfold numL at hd1 ⊢
    rw [if_neg e7, List.nil_append] at hd1 ⊢
    have key := kids_read all x.f3 ks d (o + 1) [] rest hd1 (by omega)
    rw [key, List.nil_append, List.length_cons]
    have ex : (⟨x.f0, 0, 0, x.f3⟩ : S29) = x := by rw [← eta_T x]; simp only [b0, n0]
    rw [ex]
    congr 1
    omega
theorem manyY_words : ∀ x : S29, manyY x ≤ (wdsX x).length := by
  refine indI (fun x ih => ?_)
  have key : ∀ l : List S29, (∀ y ∈ l, manyY y ≤ (wdsX y).length) → manysY l ≤ (wdsL l).length := by
    intro l
    induction l with
    | nil => intro _; rw [manysY_nil]; omega
    | cons y l ihl =>
      intro h
      have h1 := h y (by simp)
      have h2 := ihl (fun z hz => h z (by simp [hz]))
      rw [manysY_cons, wdsL_cons, List.length_append]
      omega
  have := key x.f3 ih
  rw [manyY_is, wdsX_is, List.length_cons, List.length_append]
  omega
theorem exT_text (x : S29) (h : fmY x = true) : exT (textP x) = x := by
  have e : splitW (textP x) = (wdsX x).map mkB := by rw [splitW_is, cut_text x h]
  have := exP_read (splitW (textP x)) x h ((splitW (textP x)).length + 1) 0 [] (by rw [e]; simp) (by rw [e]; have := manyY_words x; simp; omega)
  unfold exT exQ
  rw [this]
theorem kids_all {all : List ByteArray} {f : Nat → S29 × Nat} (hf : ∀ o, o ≤ all.length → allY (f o).1 + 3 * o ≤ 3 * (f o).2 ∧ (f o).2 ≤ all.length) : ∀ (c o : Nat) (acc : List S29), o ≤ all.length → kidsY (kidsG f c o acc).1 + 3 * o ≤ kidsY acc + 3 * (kidsG f c o acc).2 ∧ (kidsG f c o acc).1.length = acc.length + c
  | 0, o, acc, h => ⟨Nat.le_refl _, rfl⟩
  | c + 1, o, acc, h => by
    have h1 := hf o h
    have h2 := kids_all hf c (f o).2 (acc ++ [(f o).1]) h1.2
    have e : kidsY (acc ++ [(f o).1]) = kidsY acc + allY (f o).1 := by
      induction acc with
      | nil => simp [kidsY_cons, kidsY_nil]
      | cons y l ih => rw [List.cons_append, kidsY_cons, kidsY_cons, ih (kids_all hf c (f o).2 (l ++ [(f o).1]) h1.2)]; omega
    rw [e, List.length_append, List.length_singleton] at h2
    rw [kidsG]
    omega
theorem exP_all (all : List ByteArray) : ∀ (d o : Nat), o ≤ all.length → allY (exP all d o).1 + 3 * o ≤ 3 * (exP all d o).2 ∧ (exP all d o).2 ≤ all.length
  | 0, o, h => by
    refine ⟨?_, h⟩
    rw [allY_is]
    show 0 + kidsY [] + 3 * o ≤ 3 * o
    rw [kidsY_nil]
    omega
  | d + 1, o, h => by
    have n1 := nextO_ge all o
    have hle := exP_le all (d + 1) o h
    refine ⟨?_, hle.2⟩
    have z : ∀ a b c : Int, allY (⟨a, b, c, []⟩ : S29) = 0 := fun a b c => by rw [allY_is]; show 0 + kidsY [] = 0; rw [kidsY_nil]
    rw [exP_is]
    by_cases c1 : (all.getD o ByteArray.empty).size = 1
    · rw [if_pos c1, z]; omega
    rw [if_neg c1]
    by_cases c2 : 2 ≤ kdW (all.getD o ByteArray.empty) ∧ kdW (all.getD o ByteArray.empty) ≤ 7
    rotate_left
    · rw [if_neg c2, z]; omega
    rw [if_pos c2]
    have ho := kdW_ne c2.1
    have hn : nextO all o = o + 1 := if_pos ho
    have hk := kidN_le (kdW (all.getD o ByteArray.empty))
    have fin : ∀ o2, o + 1 ≤ o2 → o2 ≤ all.length → ∀ (a b c : Int), allY (⟨a, b, c, (kidsG (exP all d) (kidN (kdW (all.getD o ByteArray.empty))) o2 []).1⟩ : S29) + 3 * o ≤ 3 * (kidsG (exP all d) (kidN (kdW (all.getD o ByteArray.empty))) o2 []).2 := by
      intro o2 g1 g2 a b c
      have := kids_all (all := all) (f := exP all d) (fun o h => exP_all all d o h) (kidN (kdW (all.getD o ByteArray.empty))) o2 [] g2
      rw [kidsY_nil, List.length_nil] at this
      rw [allY_is]
      simp only
      omega
    have q2 := nextO_le h
    by_cases c7 : kdW (all.getD o ByteArray.empty) = 7
    · simp only [if_pos c7]
      exact fin _ (by have := nextO_ge all (nextO all o); omega) (nextO_le q2) _ _ _
    · simp only [if_neg c7]
      exact fin _ (by omega) q2 _ _ _
theorem exT_all (s : ByteArray) (h : s.size ≤ 300) : allY (exT s) ≤ 1000 := by
  have := exP_all (splitW s) ((splitW s).length + 1) 0 (Nat.zero_le _)
  have h2 := splitW_len s
  unfold exT exQ
  omega
def kdT (t : List UInt8) : Int := if t = (⟨#[]⟩ : ByteArray).toList then 0 else if t = (⟨#[111, 114]⟩ : ByteArray).toList then 2 else if t = (⟨#[97, 110, 100]⟩ : ByteArray).toList then 3 else if t = (⟨#[115, 101, 113]⟩ : ByteArray).toList then 4 else if t = (⟨#[110, 111, 116]⟩ : ByteArray).toList then 5 else if t = (⟨#[101, 97, 99, 104]⟩ : ByteArray).toList then 6 else if t = (⟨#[112, 108, 117, 115]⟩ : ByteArray).toList then 7 else -1
theorem kdW_T (s : ByteArray) : kdW s = kdT s.toList := rfl
def lastT (t : List UInt8) : Nat → Nat → Int → Int
  | _, 0, K => K
  | m, d + 1, K => lastT t (m + 1) d (if (exW.getD m ByteArray.empty).toList = t then (m : Int) else K)
theorem last_is (t : List UInt8) : lastT t 2 6 0 = if kdT t < 2 then 0 else kdT t := by
  by_cases h2 : (⟨#[111, 114]⟩ : ByteArray).toList = t
  · subst h2; decide +kernel
  by_cases h3 : (⟨#[97, 110, 100]⟩ : ByteArray).toList = t
  · subst h3; decide +kernel
  by_cases h4 : (⟨#[115, 101, 113]⟩ : ByteArray).toList = t
  · subst h4; decide +kernel
  by_cases h5 : (⟨#[110, 111, 116]⟩ : ByteArray).toList = t
  · subst h5; decide +kernel
  by_cases h6 : (⟨#[101, 97, 99, 104]⟩ : ByteArray).toList = t
  · subst h6; decide +kernel
  by_cases h7 : (⟨#[112, 108, 117, 115]⟩ : ByteArray).toList = t
  · subst h7; decide +kernel
  have e2 : (exW.getD 2 ByteArray.empty).toList ≠ t := h2
  have e3 : (exW.getD 3 ByteArray.empty).toList ≠ t := h3
  have e4 : (exW.getD 4 ByteArray.empty).toList ≠ t := h4
  have e5 : (exW.getD 5 ByteArray.empty).toList ≠ t := h5
  have e6 : (exW.getD 6 ByteArray.empty).toList ≠ t := h6
  have e7 : (exW.getD 7 ByteArray.empty).toList ≠ t := h7
  have e : kdT t < 2 := by
    unfold kdT
    by_cases h0 : t = (⟨#[]⟩ : ByteArray).toList
    · rw [if_pos h0]; decide
    · rw [if_neg h0, if_neg (fun q => h2 q.symm), if_neg (fun q => h3 q.symm), if_neg (fun q => h4 q.symm), if_neg (fun q => h5 q.symm), if_neg (fun q => h6 q.symm), if_neg (fun q => h7 q.symm)]; decide
  rw [if_pos e]
  simp only [lastT]
  rw [if_neg e7, if_neg e6, if_neg e5, if_neg e4, if_neg e3, if_neg e2]
noncomputable def tailR (all : List ByteArray) (o : Nat) (K : Int) : Int × Int × Int × Int := if K = 0 then (0, 0, 0, -1) else if K = 7 then (if all.length ≤ o + 1 then (7, 0, 0, -1) else if (numS (all.getD (o + 1) ByteArray.empty).data.toList).2 = true then (7, 0, (numS (all.getD (o + 1) ByteArray.empty).data.toList).1, ((o + 2 : Nat) : Int)) else (7, 0, 0, -1)) else (K, 0, 0, ((o + 1 : Nat) : Int))
noncomputable def headR (all : List ByteArray) (o : Nat) : Int × Int × Int × Int :=
  if (all.getD o ByteArray.empty).size = 1 ∧ 97 ≤ bt (all.getD o ByteArray.empty) 0 ∧ bt (all.getD o ByteArray.empty) 0 ≤ 101 then (1, bt (all.getD o ByteArray.empty) 0 - 97, 0, ((o + 1 : Nat) : Int))
  else tailR all o (if kdW (all.getD o ByteArray.empty) < 2 then 0 else kdW (all.getD o ByteArray.empty))
section
variable (all : List ByteArray) (hl : all.length ≤ 1000000) (hz : ∀ s ∈ all, s.size ≤ 1000000)
include hl hz
theorem tail_ev (o : Nat) (ho : o < all.length) (K : Int) : Ev (fun k => spec_l2Head.l0 k all (o : Int) 8 K 0 0) ((tailR all o K).1, (tailR all o K).2.1, (tailR all o K).2.2.1, [], (tailR all o K).2.2.2) := by
  have w1 : wrap64 ((o : Int) + 1) = ((o + 1 : Nat) : Int) := w_succ (by omega)
  have w2 : wrap64 ((o : Int) + 2) = ((o + 2 : Nat) : Int) := by rw [w_small (by omega) (by omega)]; omega
  unfold tailR
  by_cases h0 : K = 0
  · rw [if_pos h0]
    exact Ev.last (fun k => by simp only [spec_l2Head.l0]; rw [if_neg (by omega), if_pos h0, h0])
  rw [if_neg h0]
  by_cases h7 : K = 7
  rotate_left
  · rw [if_neg h7]
    exact Ev.last (fun k => by simp only [spec_l2Head.l0]; rw [if_neg (by omega), if_neg h0, if_neg h7, w1])
  subst h7
  rw [if_pos rfl]
  by_cases hn : all.length ≤ o + 1
  · rw [if_pos hn]
    exact Ev.last (fun k => by simp only [spec_l2Head.l0]; rw [if_neg (by omega), if_neg h0, if_pos trivial, w1, if_pos (by omega)])
  rw [if_neg hn]
  have hr : rdOf ByteArray.empty all ((o + 1 : Nat) : Int) = all.getD (o + 1) ByteArray.empty := rfl
  have hs : (all.getD (o + 1) ByteArray.empty).size ≤ 1000000 := by
    rw [List.getD_eq_getElem?_getD, List.getElem?_eq_getElem (by omega)]
    exact hz _ (List.getElem_mem _)
  have hnum := l14Num_ev (all.getD (o + 1) ByteArray.empty) (by omega)
  refine Ev.step (fun k => by simp only [spec_l2Head.l0]; rw [if_neg (by omega), if_neg h0, if_pos trivial, w1, if_neg (by omega), if_pos (by omega), if_pos (by omega), hr, w2]) (Ev.bind hnum ?_)
  by_cases hk : (numS (all.getD (o + 1) ByteArray.empty).data.toList).2 = true
  · simp only [if_pos hk]
    exact Ev.now _
  · simp only [if_neg hk]
    exact Ev.now _
theorem kind_ev (o : Nat) (ho : o < all.length) : ∀ (d m : Nat) (K : Int), m + d = 8 → Ev (fun k => spec_l2Head.l0 k all (o : Int) (m : Int) K 0 0) ((tailR all o (lastT (all.getD o ByteArray.empty).toList m d K)).1, (tailR all o (lastT (all.getD o ByteArray.empty).toList m d K)).2.1, (tailR all o (lastT (all.getD o ByteArray.empty).toList m d K)).2.2.1, [], (tailR all o (lastT (all.getD o ByteArray.empty).toList m d K)).2.2.2)
  | 0, m, K, hm => by
    have : m = 8 := by omega
    subst this
    exact tail_ev all hl hz o ho K
  | d + 1, m, K, hm => by
    have e8 : (exW.length : Int) = 8 := rfl
    have hw : spec_l2Words.f = some exW := rfl
    have hr : rdOf ByteArray.empty all (o : Int) = all.getD o ByteArray.empty := rfl
    have hr2 : rdOf ByteArray.empty exW (m : Int) = exW.getD m ByteArray.empty := rfl
    have w1 : wrap64 ((m : Int) + 1) = ((m + 1 : Nat) : Int) := w_succ (by omega)
    have st : ∀ k, spec_l2Head.l0 (k + 1) all (o : Int) (m : Int) K 0 0 = if (exW.getD m ByteArray.empty).toList = (all.getD o ByteArray.empty).toList then spec_l2Head.l0 k all (o : Int) ((m + 1 : Nat) : Int) (m : Int) 0 0 else spec_l2Head.l0 k all (o : Int) ((m + 1 : Nat) : Int) K 0 0 := fun k => by
      simp only [spec_l2Head.l0]
      rw [if_pos (by omega), hw, Option.bind_some, if_pos (by omega), if_pos (by omega), if_pos (by omega), if_pos (by omega), hr, hr2, w1]
    refine Ev.step st ?_
    rw [lastT]
    by_cases h : (exW.getD m ByteArray.empty).toList = (all.getD o ByteArray.empty).toList
    · simp only [if_pos h]
      exact kind_ev o ho d (m + 1) (m : Int) (by omega)
    · simp only [if_neg h]
      exact kind_ev o ho d (m + 1) K (by omega)
theorem head_ev (o : Nat) (ho : o < all.length) : Ev (fun k => spec_l2Head.f k all (o : Int)) ((headR all o).1, (headR all o).2.1, (headR all o).2.2.1, [], (headR all o).2.2.2) := by
  have hr : rdOf ByteArray.empty all (o : Int) = all.getD o ByteArray.empty := rfl
  have w1 : wrap64 ((o : Int) + 1) = ((o + 1 : Nat) : Int) := w_succ (by omega)
  have hj : Ev (fun k => spec_l2Head.j0 k all (o : Int) false 0 0 0) ((tailR all o (if kdW (all.getD o ByteArray.empty) < 2 then 0 else kdW (all.getD o ByteArray.empty))).1, (tailR all o (if kdW (all.getD o ByteArray.empty) < 2 then 0 else kdW (all.getD o ByteArray.empty))).2.1, (tailR all o (if kdW (all.getD o ByteArray.empty) < 2 then 0 else kdW (all.getD o ByteArray.empty))).2.2.1, [], (tailR all o (if kdW (all.getD o ByteArray.empty) < 2 then 0 else kdW (all.getD o ByteArray.empty))).2.2.2) := by
    have := kind_ev all hl hz o ho 6 2 0 rfl
    rw [last_is, ← kdW_T] at this
    exact Ev.step (fun k => by simp only [spec_l2Head.j0]; rw [if_neg (by decide)]; rfl) this
  unfold headR
  have hb := bt_range (all.getD o ByteArray.empty) 0
  unfold spec_l2Head.f
  rw [hr]
  refine Ev.pos (by omega) (Ev.pos (by omega) ?_)
  by_cases h1 : (all.getD o ByteArray.empty).size = 1
  · refine Ev.pos (by omega) (Ev.pos (by omega) ?_)
    by_cases h97 : 97 ≤ bt (all.getD o ByteArray.empty) 0
    · refine Ev.pos h97 ?_
      by_cases h101 : bt (all.getD o ByteArray.empty) 0 ≤ 101
      · rw [if_pos ⟨h1, h97, h101⟩, decide_eq_true h101]
        have w2 : wrap64 (wrap64 (bt (all.getD o ByteArray.empty) 0) - 97) = bt (all.getD o ByteArray.empty) 0 - 97 := by rw [w_small (i := bt _ 0) (by omega) (by omega), w_small (by omega) (by omega)]
        exact Ev.last (fun k => by simp only [spec_l2Head.j0]; rw [if_pos trivial, if_pos (by omega), if_pos (by omega), hr, if_pos (by omega), w2, w1])
      · rw [if_neg (fun q => h101 q.2.2), decide_eq_false h101]
        exact hj
    · rw [if_neg (fun q => h97 q.2.1)]
      exact Ev.neg h97 hj
  · rw [if_neg (fun q => h1 q.1)]
    exact Ev.neg (by omega) hj
end
def pX : Nat → Nat
  | 0 => 0
  | d + 1 => 3 + 3 * pX d
def PRes (all : List ByteArray) (o : Nat) (x : S29) (a : Int) : Prop := a < 0 ∨ ∃ o' : Nat, a = (o' : Int) ∧ o ≤ o' ∧ o' ≤ all.length ∧ (fmY x = true → all.drop o = (wdsX x).map mkB ++ all.drop o')
theorem drop_get {all : List ByteArray} {o : Nat} (h : o < all.length) : all.drop o = all.getD o ByteArray.empty :: all.drop (o + 1) := by
  rw [List.drop_eq_getElem_cons h, List.getD_eq_getElem?_getD, List.getElem?_eq_getElem h]
  rfl
theorem one_letter {s : ByteArray} (h1 : s.size = 1) (h2 : 97 ≤ bt s 0) (h3 : bt s 0 ≤ 101) : s = letB (bt s 0 - 97) := by
  obtain ⟨c, rfl⟩ := one_byte h1
  have hb : bt (⟨#[c]⟩ : ByteArray) 0 = (c.toNat : Int) := rfl
  rw [hb] at h2 h3 ⊢
  have : c = 97 ∨ c = 98 ∨ c = 99 ∨ c = 100 ∨ c = 101 := by
    have : c.toNat = 97 ∨ c.toNat = 98 ∨ c.toNat = 99 ∨ c.toNat = 100 ∨ c.toNat = 101 := by omega
    rcases this with q | q | q | q | q
    · exact .inl (UInt8.toNat_inj.1 q)
    · exact .inr (.inl (UInt8.toNat_inj.1 q))
    · exact .inr (.inr (.inl (UInt8.toNat_inj.1 q)))
    · exact .inr (.inr (.inr (.inl (UInt8.toNat_inj.1 q))))
    · exact .inr (.inr (.inr (.inr (UInt8.toNat_inj.1 q))))
  rcases this with rfl | rfl | rfl | rfl | rfl <;> decide +kernel
theorem ba_inj {a b : ByteArray} (h : a.toList = b.toList) : a = b := by
  rw [ByteArray.toList_eq, ByteArray.toList_eq] at h
  cases a
  cases b
  simp only [Array.toList_inj] at h
  rw [h]
theorem kind_word {s : ByteArray} (h : 2 ≤ kdW s) : s = rdOf ByteArray.empty exW (kdW s) := by
  have h' := h
  unfold kdW at h
  by_cases h0 : s.toList = (⟨#[]⟩ : ByteArray).toList
  · rw [if_pos h0] at h; omega
  rw [if_neg h0] at h
  by_cases h2 : s.toList = (⟨#[111, 114]⟩ : ByteArray).toList
  · rw [ba_inj h2]; decide +kernel
  rw [if_neg h2] at h
  by_cases h3 : s.toList = (⟨#[97, 110, 100]⟩ : ByteArray).toList
  · rw [ba_inj h3]; decide +kernel
  rw [if_neg h3] at h
  by_cases h4 : s.toList = (⟨#[115, 101, 113]⟩ : ByteArray).toList
  · rw [ba_inj h4]; decide +kernel
  rw [if_neg h4] at h
  by_cases h5 : s.toList = (⟨#[110, 111, 116]⟩ : ByteArray).toList
  · rw [ba_inj h5]; decide +kernel
  rw [if_neg h5] at h
  by_cases h6 : s.toList = (⟨#[101, 97, 99, 104]⟩ : ByteArray).toList
  · rw [ba_inj h6]; decide +kernel
  rw [if_neg h6] at h
  by_cases h7 : s.toList = (⟨#[112, 108, 117, 115]⟩ : ByteArray).toList
  · rw [ba_inj h7]; decide +kernel
  rw [if_neg h7] at h
  omega
theorem head_words {all : List ByteArray} {o : Nat} (ho : o < all.length) (hs : 0 ≤ (headR all o).2.2.2) : ∃ o1 : Nat, (headR all o).2.2.2 = (o1 : Int) ∧ o < o1 ∧ o1 ≤ all.length ∧ ∀ l : List S29, okN (headR all o).1 (headR all o).2.1 (headR all o).2.2.1 l.length = true → all.drop o = mkB (hdW ⟨(headR all o).1, (headR all o).2.1, (headR all o).2.2.1, l⟩) :: ((numL ⟨(headR all o).1, (headR all o).2.1, (headR all o).2.2.1, l⟩).map mkB ++ all.drop o1) := by
  by_cases c1 : (all.getD o ByteArray.empty).size = 1 ∧ 97 ≤ bt (all.getD o ByteArray.empty) 0 ∧ bt (all.getD o ByteArray.empty) 0 ≤ 101
  · have e : headR all o = (1, bt (all.getD o ByteArray.empty) 0 - 97, 0, ((o + 1 : Nat) : Int)) := by unfold headR; rw [if_pos c1]
    rw [e]
    refine ⟨o + 1, rfl, by omega, by omega, fun l hl => ?_⟩
    unfold hdW numL
    simp only [if_true]
    rw [if_neg (by decide), mkB_bL, ← one_letter c1.1 c1.2.1 c1.2.2, List.map_nil, List.nil_append]
    exact drop_get ho
  have e : headR all o = tailR all o (if kdW (all.getD o ByteArray.empty) < 2 then 0 else kdW (all.getD o ByteArray.empty)) := by unfold headR; rw [if_neg c1]
  rw [e] at hs ⊢
  by_cases c2 : kdW (all.getD o ByteArray.empty) < 2
  · rw [if_pos c2] at hs
    unfold tailR at hs
    rw [if_pos rfl] at hs
    simp only at hs
    omega
  rw [if_neg c2] at hs ⊢
  have hw := kind_word (s := all.getD o ByteArray.empty) (by omega)
  generalize hK : kdW (all.getD o ByteArray.empty) = K at *
  by_cases c7 : K = 7
  rotate_left
  · have e7 : tailR all o K = (K, 0, 0, ((o + 1 : Nat) : Int)) := by unfold tailR; rw [if_neg (by omega), if_neg c7]
    rw [e7]
    refine ⟨o + 1, rfl, by omega, by omega, fun l hl => ?_⟩
    unfold hdW numL
    simp only
    rw [if_neg (by omega), if_neg c7, mkB_bL, ← hw, List.map_nil, List.nil_append]
    exact drop_get ho
  subst c7
  have e7 : tailR all o 7 = (if all.length ≤ o + 1 then (7, 0, 0, -1) else if (numS (all.getD (o + 1) ByteArray.empty).data.toList).2 = true then (7, 0, (numS (all.getD (o + 1) ByteArray.empty).data.toList).1, ((o + 2 : Nat) : Int)) else (7, 0, 0, -1)) := by unfold tailR; rw [if_neg (by decide), if_pos rfl]
  rw [e7] at hs ⊢
  by_cases hn : all.length ≤ o + 1
  · rw [if_pos hn] at hs; simp only at hs; omega
  rw [if_neg hn] at hs ⊢
  by_cases hk : (numS (all.getD (o + 1) ByteArray.empty).data.toList).2 = true
  · rw [if_pos hk]
    refine ⟨o + 2, rfl, by omega, by omega, fun l hl => ?_⟩
    obtain ⟨_, _, _, _, _, hc, _⟩ := okN_cases hl
    have h20 : 1 ≤ (numS (all.getD (o + 1) ByteArray.empty).data.toList).1 ∧ (numS (all.getD (o + 1) ByteArray.empty).data.toList).1 ≤ 20 := hc rfl
    have hnm : numS (all.getD (o + 1) ByteArray.empty).data.toList = ((numS (all.getD (o + 1) ByteArray.empty).data.toList).1, true) := by rw [← hk]
    have hd := num_sound hnm (by omega)
    unfold hdW numL
    simp only [if_true]
    rw [if_neg (by decide), mkB_bL, ← hw, ← hd, List.map_cons, List.map_nil, mkB_data, List.singleton_append, drop_get ho, drop_get (by omega : o + 1 < all.length)]
  · rw [if_neg hk] at hs; simp only at hs; omega
theorem kidsOf_le3 (a : Int) : kidsOf a ≤ 3 := by
  unfold kidsOf
  (repeat' split) <;> omega
theorem kidsOf_ge (a : Int) : -1 ≤ kidsOf a := by
  unfold kidsOf
  (repeat' split) <;> omega
theorem kidsY_snoc (l : List S29) (x : S29) : kidsY (l ++ [x]) = kidsY l + allY x := by
  induction l with
  | nil => simp [kidsY_cons, kidsY_nil]
  | cons y l ih => rw [List.cons_append, kidsY_cons, kidsY_cons, ih]; omega
def Sound (all : List ByteArray) (d : Nat) : Prop := ∀ o : Nat, o ≤ all.length → ∃ (x : S29) (a : Int), Ev (fun k => spec_l2Parse.f k all (o : Int) (d : Int)) (x.f0, x.f1, x.f2, x.f3, a) ∧ PRes all o x a ∧ allY x ≤ pX d
theorem kids_sound (all : List ByteArray) (d : Nat) (hd : d ≤ 100) (ih : Sound all d) (K S N : Int) : ∀ (c : Nat) (n : Int) (o : Nat) (acc : List S29), n ≤ (c : Int) → (c : Int) ≤ max n 0 → c ≤ 3 → o ≤ all.length → acc.length + c ≤ 3 →
    ∃ (ks : List S29) (a : Int), Ev (fun k => spec_l2Parse.l0 k all ((d + 1 : Nat) : Int) (o : Int) n K S N acc) (K, S, N, ks, a) ∧ ks.length ≤ acc.length + c ∧ kidsY ks ≤ kidsY acc + c * pX d ∧ (a < 0 ∨ ∃ (o' : Nat) (new : List S29), a = (o' : Int) ∧ o ≤ o' ∧ o' ≤ all.length ∧ ks = acc ++ new ∧ ((∀ y ∈ new, fmY y = true) → all.drop o = (wdsL new).map mkB ++ all.drop o'))
  | 0, n, o, acc, h1, h2, _, ho, _ => by
    refine ⟨acc, (o : Int), Ev.last (fun k => by simp only [spec_l2Parse.l0]; rw [if_neg (by omega)]), by omega, by omega, .inr ⟨o, [], rfl, Nat.le_refl _, ho, by simp, fun _ => by rw [wdsL_nil]; simp⟩⟩
  | c + 1, n, o, acc, h1, h2, h3, ho, hac => by
    obtain ⟨x, a, hx, hp, hy⟩ := ih o ho
    have w1 : wrap64 (((d + 1 : Nat) : Int) - 1) = (d : Int) := by rw [w_small (by omega) (by omega)]; omega
    have w2 : wrap64 (n - 1) = n - 1 := w_small (by omega) (by omega)
    have st : ∀ k, spec_l2Parse.l0 (k + 1) all ((d + 1 : Nat) : Int) (o : Int) n K S N acc = (spec_l2Parse.f k all (o : Int) (d : Int)).bind fun t => if t.2.2.2.2 < 0 then some (K, S, N, acc, -1) else if acc.length < 2932031007402 then spec_l2Parse.l0 k all ((d + 1 : Nat) : Int) t.2.2.2.2 (n - 1) K S N (acc ++ [(⟨t.1, t.2.1, t.2.2.1, t.2.2.2.1⟩ : S29)]) else none := fun k => by
      simp only [spec_l2Parse.l0]
      rw [if_pos (by omega), w1, w2]
    have m1 : (c + 1) * pX d = c * pX d + pX d := Nat.succ_mul _ _
    by_cases ha : a < 0
    · exact ⟨acc, -1, Ev.step st (Ev.bind hx (Ev.pos ha (Ev.now _))), by omega, by omega, .inl (by omega)⟩
    rcases hp with hp | ⟨o1, rfl, g1, g2, g3⟩
    · omega
    obtain ⟨ks, a2, k1, k2, k3, k4⟩ := kids_sound all d hd ih K S N c (n - 1) o1 (acc ++ [x]) (by omega) (by omega) (by omega) g2 (by rw [List.length_append, List.length_singleton]; omega)
    rw [List.length_append, List.length_singleton] at k2
    have e := kidsY_snoc acc x
    rw [e] at k3
    refine ⟨ks, a2, Ev.step st (Ev.bind hx (Ev.neg ha (Ev.pos (by omega) ?_))), by omega, by omega, ?_⟩
    · rw [show (⟨x.f0, x.f1, x.f2, x.f3⟩ : S29) = x from eta_T x]
      exact k1
    rcases k4 with k4 | ⟨o', new, q1, q2, q3, q4, q5⟩
    · exact .inl k4
    · refine .inr ⟨o', x :: new, q1, by omega, q3, by rw [q4]; simp, fun hf => ?_⟩
      rw [g3 (hf x (by simp)), q5 (fun y hy' => hf y (by simp [hy'])), wdsL_cons, List.map_append, List.append_assoc]
def Compl (all : List ByteArray) (y : S29) : Prop := ∀ (d o : Nat) (rest : List ByteArray), deepY y ≤ d → d ≤ 100 → all.drop o = (wdsX y).map mkB ++ rest → Ev (fun k => spec_l2Parse.f k all (o : Int) (d : Int)) (y.f0, y.f1, y.f2, y.f3, ((o + (wdsX y).length : Nat) : Int))
theorem kids_complete (all : List ByteArray) (d : Nat) (hd : d ≤ 99) (K S N : Int) : ∀ (l : List S29), (∀ y ∈ l, Compl all y) → deepsY l ≤ d → l.length ≤ 3 → ∀ (o : Nat) (acc : List S29) (rest : List ByteArray), acc.length + l.length ≤ 3 → all.drop o = (wdsL l).map mkB ++ rest → Ev (fun k => spec_l2Parse.l0 k all ((d + 1 : Nat) : Int) (o : Int) (l.length : Int) K S N acc) (K, S, N, acc ++ l, ((o + (wdsL l).length : Nat) : Int))
  | [], _, _, _, o, acc, rest, _, _ => by
    rw [wdsL_nil, List.append_nil]
    exact Ev.last (fun k => by simp only [spec_l2Parse.l0]; rw [if_neg (by simp)]; rfl)
  | x :: l, h, hdp, hl3, o, acc, rest, hac, hdr => by
    rw [deepsY_cons] at hdp
    rw [List.length_cons] at hl3 hac
    rw [wdsL_cons, List.map_append, List.append_assoc] at hdr
    have h1 := h x (by simp) d o _ (by omega) (by omega) hdr
    have hd2 : all.drop (o + (wdsX x).length) = (wdsL l).map mkB ++ rest := by
      have := congrArg (List.drop (wdsX x).length) hdr
      rw [List.drop_drop, List.drop_left' (by simp)] at this
      exact this
    have h2 := kids_complete all d hd K S N l (fun y hy => h y (by simp [hy])) (by omega) (by omega) (o + (wdsX x).length) (acc ++ [x]) rest (by rw [List.length_append, List.length_singleton]; omega) hd2
    have w1 : wrap64 (((d + 1 : Nat) : Int) - 1) = (d : Int) := by rw [w_small (by omega) (by omega)]; omega
    have w2 : wrap64 (((x :: l).length : Int) - 1) = (l.length : Int) := by rw [List.length_cons, w_small (by omega) (by omega)]; omega
    have hneg : ¬ ((x.f0, x.f1, x.f2, x.f3, ((o + (wdsX x).length : Nat) : Int)).2.2.2.2 < 0) := by
      show ¬ (((o + (wdsX x).length : Nat) : Int) < 0)
      omega
    refine Ev.step (fun k => by simp only [spec_l2Parse.l0]; rw [if_pos (by rw [List.length_cons]; omega), w1, w2]) (Ev.bind h1 (Ev.neg hneg (Ev.pos (show acc.length < 2932031007402 by omega) ?_)))
    rw [show (⟨x.f0, x.f1, x.f2, x.f3⟩ : S29) = x from eta_T x]
    refine Ev.val h2 ?_
    rw [wdsL_cons, List.length_append, List.append_assoc]
    simp [Nat.add_assoc]
theorem head_of (all : List ByteArray) (y : S29) (h : fmY y = true) (o : Nat) (rest : List ByteArray) (hdr : all.drop o = (wdsX y).map mkB ++ rest) : o < all.length ∧ headR all o = (y.f0, y.f1, y.f2, ((o + 1 + (numL y).length : Nat) : Int)) ∧ all.drop (o + 1 + (numL y).length) = (wdsL y.f3).map mkB ++ rest := by
  obtain ⟨h1, _⟩ := fmY_parts h
  obtain ⟨a1, a7, hk, hb, hb', hc, hc'⟩ := okN_cases h1
  rw [wdsX_is, List.map_cons, List.cons_append] at hdr
  obtain ⟨ho, hw, hd1⟩ := drop_word hdr
  refine ⟨ho, ?_⟩
  unfold headR
  rw [hw]
  by_cases e1 : y.f0 = 1
  · obtain ⟨l1, l2⟩ := hd_letter h1 e1
    obtain ⟨b0, b4, _⟩ := hb e1
    have n0 := hc' (by omega)
    have hbt : bt (mkB (hdW y)) 0 = 97 + y.f1 := by
      unfold hdW
      rw [if_pos e1, mkB_bL]
      have : y.f1 = 0 ∨ y.f1 = 1 ∨ y.f1 = 2 ∨ y.f1 = 3 ∨ y.f1 = 4 := by omega
      rcases this with q | q | q | q | q <;> rw [q] <;> decide +kernel
    rw [if_pos ⟨l2, by omega, by omega⟩, hbt, e1, n0]
    unfold numL at hd1 ⊢
    rw [if_neg (by omega)] at hd1 ⊢
    rw [List.nil_append] at hd1
    refine ⟨?_, hd1⟩
    rw [show 97 + y.f1 - 97 = y.f1 by omega]
    rfl
  obtain ⟨l1, l2⟩ := hd_kind h1 e1
  rw [if_neg (fun q => l2 q.1), l1, if_neg (by omega)]
  unfold tailR
  rw [if_neg (by omega)]
  have b0 := hb' e1
  by_cases e7 : y.f0 = 7
  · have hc7 := hc e7
    unfold numL at hd1 ⊢
    rw [if_pos e7] at hd1 ⊢
    rw [List.map_append, List.map_cons, List.map_nil, List.append_assoc, List.singleton_append] at hd1
    obtain ⟨ho2, hw2, hd2⟩ := drop_word hd1
    have hnum : numS (mkB (Lib.decDigits y.f2.toNat)).data.toList = (y.f2, true) := by
      have := num_dec y.f2.toNat (by omega)
      rw [show ((y.f2.toNat : Nat) : Int) = y.f2 by omega] at this
      exact this
    rw [if_pos e7, if_neg (by omega), hw2, hnum, if_pos rfl, b0, e7]
    exact ⟨rfl, hd2⟩
  · have n0 := hc' e7
    unfold numL at hd1 ⊢
    rw [if_neg e7] at hd1 ⊢
    rw [List.nil_append] at hd1
    rw [if_neg e7, b0, n0]
    exact ⟨rfl, hd1⟩
section
variable (all : List ByteArray) (hl : all.length ≤ 1000000) (hz : ∀ s ∈ all, s.size ≤ 1000000)
include hl hz
theorem parse_sound : ∀ d : Nat, d ≤ 100 → Sound all d
  | 0, _ => fun o ho => by
    refine ⟨⟨0, 0, 0, []⟩, -1, ?_, .inl (by omega), by rw [allY_is]; show 0 + kidsY [] ≤ _; rw [kidsY_nil]; omega⟩
    have j : Ev (fun k => spec_l2Parse.j0 k all (o : Int) 0 true) (0, 0, 0, [], -1) := Ev.last (fun k => by simp only [spec_l2Parse.j0]; rw [if_pos trivial])
    by_cases c : (o : Int) ≥ (all.length : Int)
    · exact Ev.step (fun k => by simp only [spec_l2Parse.f]; rw [if_pos c]; rfl) j
    · exact Ev.step (fun k => by simp only [spec_l2Parse.f]; rw [if_neg c, decide_eq_true (by decide)]; rfl) j
  | d + 1, hd => fun o ho => by
    have z0 : allY (⟨0, 0, 0, []⟩ : S29) ≤ pX (d + 1) := by rw [allY_is]; show 0 + kidsY [] ≤ _; rw [kidsY_nil]; omega
    have p3 : pX (d + 1) = 3 + 3 * pX d := rfl
    by_cases c : (o : Int) ≥ (all.length : Int)
    · have j : Ev (fun k => spec_l2Parse.j0 k all (o : Int) ((d + 1 : Nat) : Int) true) (0, 0, 0, [], -1) := Ev.last (fun k => by simp only [spec_l2Parse.j0]; rw [if_pos trivial])
      exact ⟨⟨0, 0, 0, []⟩, -1, Ev.step (fun k => by simp only [spec_l2Parse.f]; rw [if_pos c]) j, .inl (by omega), z0⟩
    have hlt : o < all.length := by omega
    have hh := head_ev all hl hz o hlt
    have hw := @head_words all o hlt
    generalize headR all o = hd4 at *
    obtain ⟨K, S, N, a1⟩ := hd4
    simp only at hh hw
    have stf : ∀ k, spec_l2Parse.f (k + 1) all (o : Int) ((d + 1 : Nat) : Int) = spec_l2Parse.j0 k all (o : Int) ((d + 1 : Nat) : Int) false := fun k => by
      simp only [spec_l2Parse.f]
      rw [if_neg c, decide_eq_false (by omega)]
    have stj : ∀ k, spec_l2Parse.j0 (k + 1) all (o : Int) ((d + 1 : Nat) : Int) false = (spec_l2Head.f k all (o : Int)).bind fun t => if t.2.2.2.2 < 0 then some (t.1, t.2.1, t.2.2.1, t.2.2.2.1, -1) else (spec_l2Kids.f k t.1).bind fun n => spec_l2Parse.l0 k all ((d + 1 : Nat) : Int) t.2.2.2.2 n t.1 t.2.1 t.2.2.1 t.2.2.2.1 := fun k => by
      simp only [spec_l2Parse.j0]
      rw [if_neg (by decide)]
    by_cases ha : a1 < 0
    · refine ⟨⟨K, S, N, []⟩, -1, Ev.step stf (Ev.step stj (Ev.bind hh (Ev.pos ha (Ev.now _)))), .inl (by omega), ?_⟩
      rw [allY_is]; show 0 + kidsY [] ≤ _; rw [kidsY_nil]; omega
    obtain ⟨o1, rfl, g1, g2, g3⟩ := hw (by omega)
    have hk3 := kidsOf_le3 K
    have hkn := kidsOf_ge K
    obtain ⟨ks, a2, k1, k2, k3, k4⟩ := kids_sound all d (by omega) (parse_sound d (by omega)) K S N (kidsOf K).toNat (kidsOf K) o1 [] (by omega) (by omega) (by omega) g2 (by simp; omega)
    refine ⟨⟨K, S, N, ks⟩, a2, Ev.step stf (Ev.step stj (Ev.bind hh (Ev.neg ha (Ev.bind (l2Kids_ev K) k1)))), ?_, ?_⟩
    · rcases k4 with k4 | ⟨o', new, q1, q2, q3, q4, q5⟩
      · exact .inl k4
      refine .inr ⟨o', q1, by omega, q3, fun hf => ?_⟩
      rw [List.nil_append] at q4
      subst q4
      obtain ⟨f1, f2⟩ := fmY_parts hf
      rw [g3 ks f1, q5 f2, wdsX_is, List.map_cons, List.map_append, List.cons_append, List.append_assoc]
    · rw [allY_is]
      rw [List.length_nil] at k2
      rw [kidsY_nil] at k3
      have : (kidsOf K).toNat * pX d ≤ 3 * pX d := Nat.mul_le_mul_right _ (by omega)
      show ks.length + kidsY ks ≤ _
      omega
theorem parse_complete : ∀ y : S29, fmY y = true → Compl all y := by
  refine indI (fun y ih h d o rest hdp hd hdr => ?_)
  obtain ⟨h1, h2⟩ := fmY_parts h
  obtain ⟨a1, a7, hk, _, _, _, _⟩ := okN_cases h1
  have hk3 := kidsOf_le3 y.f0
  obtain ⟨ho, hh, hd2⟩ := head_of all y h o rest hdr
  have he := head_ev all hl hz o ho
  rw [hh] at he
  rw [deepY_is] at hdp
  obtain ⟨d, rfl⟩ : ∃ e, d = e + 1 := ⟨d - 1, by omega⟩
  have hks := kids_complete all d (by omega) y.f0 y.f1 y.f2 y.f3 (fun z hz' => ih z hz' (h2 z hz')) (by omega) (by omega) (o + 1 + (numL y).length) [] rest (by simp; omega) hd2
  refine Ev.step (fun k => by simp only [spec_l2Parse.f]; rw [if_neg (by omega), decide_eq_false (by omega)]) ?_
  refine Ev.step (fun k => by simp only [spec_l2Parse.j0]; rw [if_neg (by decide)]) ?_
  have hneg : ¬ ((y.f0, y.f1, y.f2, ([] : List S29), ((o + 1 + (numL y).length : Nat) : Int)).2.2.2.2 < 0) := by
    show ¬ (((o + 1 + (numL y).length : Nat) : Int) < 0)
    omega
  refine Ev.bind he (Ev.neg hneg (Ev.bind (l2Kids_ev y.f0) ?_))
  rw [hk]
  refine Ev.val hks ?_
  rw [List.nil_append, wdsX_is, List.length_cons, List.length_append]
  simp only [Prod.mk.injEq, true_and]
  omega
end
theorem read_same (s : ByteArray) (hs : s.size ≤ 1048576) : ∃ (x : S29) (b : Bool), Ev (fun k => spec_ExRead.f k s) (x.f0, x.f1, x.f2, x.f3, b) ∧ Ev (fun k => impl_ExRead.f k s) (x.f0, x.f1, x.f2, x.f3, b) ∧ (b = true → okX x = true ∧ textP x = s) ∧ allY x ≤ 1000 ∧ ((∃ y, okX y = true ∧ textP y = s) → b = true) := by
  have z0 : allY (⟨0, 0, 0, []⟩ : S29) ≤ 1000 := by rw [allY_is]; show 0 + kidsY [] ≤ _; rw [kidsY_nil]; omega
  unfold spec_ExRead.f impl_ExRead.f
  by_cases c300 : 300 < s.size
  · refine ⟨⟨0, 0, 0, []⟩, false, Ev.pos (by omega) (Ev.now _), Ev.pos (.inl c300) (Ev.now _), fun h => (by cases h), z0, ?_⟩
    rintro ⟨y, hy, hyt⟩
    have h1 := textP_size y (okX_fm hy).1
    have h2 := (okX_fm hy).2
    rw [hyt] at h1
    omega
  have hlen : ((cutL s.data.toList).map mkB).length ≤ 301 := by
    have := cutL_len s.data.toList
    rw [← size_data] at this
    rw [List.length_map]
    omega
  have hz : ∀ w ∈ (cutL s.data.toList).map mkB, w.size ≤ 1000000 := by
    intro w hw
    rw [← splitW_is] at hw
    have := splitW_size s w hw
    omega
  have hcut := l14Cut_ev s (by omega)
  by_cases E : ∃ y, okX y = true ∧ textP y = s
  rotate_left
  · refine ⟨⟨0, 0, 0, []⟩, false, Ev.neg (by omega) (Ev.bind hcut ?_), ?_, fun h => (by cases h), z0, fun h => absurd h E⟩
    · obtain ⟨x, a, hp, hr, hx⟩ := parse_sound ((cutL s.data.toList).map mkB) (by omega) hz 5 (by omega) 0 (Nat.zero_le _)
      have p5 : pX 5 = 363 := rfl
      refine Ev.bind hp ?_
      by_cases ha : a = (((cutL s.data.toList).map mkB).length : Int)
      · refine Ev.pos ha (Ev.bind (spec_ExOk_ev x (by omega)) (Ev.neg (fun hk => E ⟨x, hk, ?_⟩) (Ev.now _)))
        rcases hr with hr | ⟨o', e1, _, _, e2⟩
        · omega
        · have f1 := (okX_fm hk).1
          have e3 := e2 f1
          rw [List.drop_zero, List.drop_of_length_le (by omega), List.append_nil] at e3
          have e4 : cutL s.data.toList = wdsX x := by
            have := congrArg (List.map bL) e3
            rw [List.map_map, List.map_map, show bL ∘ mkB = id from rfl, List.map_id, List.map_id] at this
            exact this
          apply bL_inj
          have e5 := text_join x f1
          rw [← e4, join_cut] at e5
          exact e5
      · exact Ev.neg ha (Ev.now _)
    · by_cases c0 : s.size = 0
      · exact Ev.pos (.inr c0) (Ev.now _)
      refine Ev.neg (by omega) ?_
      have hall := exT_all s (by omega)
      refine Ev.bind (impl_ExText_ev (exT s) (by omega)) (Ev.neg (fun q => ?_) (Ev.now _))
      have q2 := ba_inj q
      unfold textO at q2
      by_cases hk : okX (exT s) = true
      · rw [if_pos hk] at q2
        exact E ⟨_, hk, q2⟩
      · rw [if_neg hk] at q2
        rw [← q2] at c0
        exact c0 rfl
  obtain ⟨y, hy, hyt⟩ := E
  obtain ⟨f1, f2⟩ := okX_fm hy
  have hdeep : deepY y ≤ 5 := by
    unfold okX at hy
    simp only [Bool.and_eq_true, decide_eq_true_eq] at hy
    exact hy.1.2
  have hall : allY y ≤ 1000 := by have := manyY_all y; omega
  have hw : (cutL s.data.toList).map mkB = (wdsX y).map mkB := by rw [← hyt, cut_text y f1]
  have hp := parse_complete ((cutL s.data.toList).map mkB) (by omega) hz y f1 5 0 [] hdeep (by omega) (by rw [hw]; simp)
  have h0 : s.size ≠ 0 := by
    intro e
    have := word_len y
    have h2 := congrArg List.length (cut_text y f1)
    have h3 := tw_text y f1
    rw [← hyt] at e
    have h4 : (txL y).length = 0 := by unfold txL bL; rw [← size_data]; exact e
    rw [List.length_eq_zero_iff] at h4
    rw [text_join y f1, wdsX_is] at h4
    simp only [joinL, List.append_eq_nil_iff] at h4
    have h5 := h4.1
    obtain ⟨g1, _⟩ := fmY_parts f1
    obtain ⟨_, _, _, hb, _, _, _⟩ := okN_cases g1
    by_cases e1 : y.f0 = 1
    · have := (hd_letter g1 e1).2
      rw [h5] at this
      cases this
    have := (hd_kind g1 e1).1
    rw [h5] at this
    have q : kdW (mkB []) = 0 := by decide +kernel
    rw [q] at this
    have := (okN_cases g1).1
    omega
  have hx : exT s = y := by rw [← hyt]; exact exT_text y f1
  refine ⟨y, true, Ev.neg (by omega) (Ev.bind hcut (Ev.bind hp ?_)), Ev.neg (by omega) ?_, fun _ => ⟨hy, hyt⟩, hall, fun _ => rfl⟩
  · refine Ev.pos ?_ (Ev.bind (spec_ExOk_ev y (by omega)) (Ev.pos hy (Ev.now _)))
    rw [hw, List.length_map]
    simp
  rw [hx]
  refine Ev.bind (impl_ExText_ev y (by omega)) (Ev.pos ?_ (Ev.now _))
  unfold textO
  rw [if_pos hy, hyt]
end Go.Proofs.YtbcdfbiggjfmlaaDoor.M
namespace Go.Proofs.YtbcdfbiggjfmlaaDoor.M
set_option linter.unusedVariables false
set_option linter.unusedSimpArgs false
open Go.RowKit Go.Proofs.YtbcdfbiggjfmlaaDoorW.PrintWords Go.Proofs.YtbcdfbiggjfmlaaDoorW.PrintLast

theorem getD_mid {α : Type} (pre : List α) (y z : α) (l : List α) : (pre ++ y :: l).getD pre.length z = y := by
  rw [List.getD_eq_getElem?_getD, List.getElem?_append_right (Nat.le_refl _), Nat.sub_self]; rfl
theorem set_mid {α : Type} (pre : List α) (y z : α) (l : List α) : (pre ++ y :: l).set pre.length z = (pre ++ [z]) ++ l := by
  rw [List.set_append_right _ _ (Nat.le_refl _), Nat.sub_self, List.set_cons_zero, List.append_assoc]; rfl
def MarkOk (x : S29) : Prop := ∀ a : Int, 0 ≤ a → a + 3 * (allY x : Nat) ≤ 100000000000000 → ∃ zs, Ev (fun k => markT k x.f3 a 0) (a + 3 * (allY x : Nat), zs) ∧ Ev (fun k => laws_heldExS.f k zs a) (a + 3 * (allY x : Nat))
theorem markL_ok : ∀ (l : List S29), (∀ x ∈ l, MarkOk x) → ∀ a : Int, 0 ≤ a → a + 3 * (l.length + kidsY l : Nat) ≤ 100000000000000 → ∃ zs : List S29, zs.length = l.length ∧
    (∀ pre : List S29, pre.length + l.length ≤ 100000000000000 → Ev (fun k => markT k (pre ++ l) a (pre.length : Int)) (a + 3 * (l.length + kidsY l : Nat), pre ++ zs)) ∧
    (∀ pre : List S29, pre.length + l.length ≤ 100000000000000 → Ev (fun k => laws_heldExS.l0 k (pre ++ zs) a (pre.length : Int)) (a + 3 * (l.length + kidsY l : Nat)))
  | [], _, a, _, _ => by
    have e : a + 3 * ((([] : List S29).length + kidsY [] : Nat) : Int) = a := by rw [kidsY_nil]; simp
    rw [e]
    refine ⟨[], rfl, fun pre _ => Ev.last (fun k => ?_), fun pre _ => Ev.last (fun k => ?_)⟩
    · rw [markT.eq_def]; simp only []; rw [if_neg (by simp)]
    · simp only [laws_heldExS.l0]; rw [if_neg (by simp)]
  | y :: l, h, a, h0, h1 => by
    rw [kidsY_cons, List.length_cons] at h1
    have w1 : wrap64 (a + 1) = a + 1 := w_small (by omega) (by omega)
    have w2 : wrap64 (a + 1 + 1) = a + 2 := by rw [show a + 1 + 1 = a + 2 by omega]; exact w_small (by omega) (by omega)
    have w3 : wrap64 (a + 2 + 1) = a + 3 := by rw [show a + 2 + 1 = a + 3 by omega]; exact w_small (by omega) (by omega)
    obtain ⟨ys, m1, m2⟩ := h y (by simp) (a + 3) (by omega) (by omega)
    obtain ⟨zs, g0, g1, g2⟩ := markL_ok l (fun z hz => h z (by simp [hz])) (a + 3 + 3 * (allY y : Nat)) (by omega) (by omega)
    have e : a + 3 * (((y :: l).length + kidsY (y :: l) : Nat) : Int) = a + 3 + 3 * (allY y : Nat) + 3 * (l.length + kidsY l : Nat) := by rw [kidsY_cons, List.length_cons]; omega
    rw [e]
    refine ⟨⟨a, a + 1, a + 2, ys⟩ :: zs, by simp [g0], fun pre hp => ?_, fun pre hp => ?_⟩
    · rw [List.length_cons] at hp
      have n1 : (pre ++ [(⟨a, a + 1, a + 2, ys⟩ : S29)]).length = pre.length + 1 := by simp
      have nx := g1 (pre ++ [⟨a, a + 1, a + 2, ys⟩]) (by omega)
      rw [n1] at nx
      refine Ev.step (f := fun k => (markT k y.f3 (a + 3) 0).bind fun t => markT k ((pre ++ [⟨a, a + 1, a + 2, t.2⟩]) ++ l) t.1 ((pre.length + 1 : Nat) : Int)) (fun k => ?_) (Ev.bind m1 (Ev.val nx (by rw [List.append_assoc]; rfl)))
      rw [markT.eq_def (k + 1)]
      simp only []
      rw [if_pos (by rw [List.length_append, List.length_cons]; omega), if_pos (by omega), Int.toNat_natCast, getD_mid, w1, w2, w3, w_succ (by omega)]
      simp only [set_mid]
    · rw [List.length_cons] at hp
      have n1 : (pre ++ [(⟨a, a + 1, a + 2, ys⟩ : S29)]).length = pre.length + 1 := by simp
      have nx := g2 (pre ++ [⟨a, a + 1, a + 2, ys⟩]) (by omega)
      rw [n1, List.append_assoc] at nx
      have rdz : rd_T29 (pre ++ ⟨a, a + 1, a + 2, ys⟩ :: zs) (pre.length : Int) = ⟨a, a + 1, a + 2, ys⟩ := by unfold rd_T29; rw [Int.toNat_natCast, getD_mid]
      refine Ev.step (f := fun k => (laws_heldExS.f k ys (a + 3)).bind fun t => if t < 0 then some (-1) else laws_heldExS.l0 k (pre ++ ⟨a, a + 1, a + 2, ys⟩ :: zs) t ((pre.length + 1 : Nat) : Int)) (fun k => ?_) (Ev.bind m2 (Ev.neg (by omega) nx))
      simp only [laws_heldExS.l0]
      rw [if_pos (by rw [List.length_append, List.length_cons]; omega), if_pos (by omega), rdz, w1, w2, w3, w_succ (by omega), if_pos rfl, if_pos rfl, if_pos rfl]
theorem mark_ok : ∀ x : S29, MarkOk x := by
  refine indI (fun x ih a h0 h1 => ?_)
  rw [allY_is] at h1 ⊢
  obtain ⟨zs, _, g1, g2⟩ := markL_ok x.f3 ih a h0 h1
  refine ⟨zs, g1 [] (by show 0 + _ ≤ _; omega), ?_⟩
  refine Ev.step (f := fun k => laws_heldExS.l0 k zs a 0) (fun k => by simp only [laws_heldExS.f]) (g2 [] (by show 0 + _ ≤ _; omega))
end Go.Proofs.YtbcdfbiggjfmlaaDoor.M
namespace Go.Proofs.YtbcdfbiggjfmlaaDoor.M
set_option linter.unusedVariables false
set_option linter.unusedSimpArgs false
open Go Go.RowKit Go.Proofs.YtbcdfbiggjfmlaaDoorW.PrintWords Go.Proofs.YtbcdfbiggjfmlaaDoorW.PrintLast

theorem FnExactExRead_pure (s : ByteArray) (_ : s.size ≤ 140737488351232) : ∃ k, laws_FnExactExRead.f k s = some true := by
  refine Ev.rounds (g := fun k => laws_FnExactExRead.f k s) ?_
  unfold laws_FnExactExRead.f
  by_cases c : (s.size : Int) > 1048576
  · exact Ev.pos c (Ev.now _)
  obtain ⟨x, b, e1, e2, _, ha, _⟩ := read_same s (by omega)
  obtain ⟨zs, m1, m2⟩ := mark_ok x 1 (by omega) (by omega)
  have hh : Ev (fun k => laws_heldEx.f k x.f0 x.f1 x.f2 zs 1) (1 + 3 * (allY x : Nat)) := by
    refine Ev.step (f := fun k => (laws_heldExS.f k zs 1).bind fun t => if t < 0 then some (-1) else some t) (fun k => by simp only [laws_heldEx.f]) (Ev.bind m2 (Ev.neg (by omega) (Ev.now _)))
  exact Ev.neg c (Ev.bind e1 (Ev.bind e2 (Ev.bind (eqEx_ev x (by omega)) (Ev.bind m1 (Ev.bind hh (Ev.pos ⟨⟨rfl, rfl⟩, by omega, rfl⟩ (Ev.now _)))))))
end Go.Proofs.YtbcdfbiggjfmlaaDoor.M
