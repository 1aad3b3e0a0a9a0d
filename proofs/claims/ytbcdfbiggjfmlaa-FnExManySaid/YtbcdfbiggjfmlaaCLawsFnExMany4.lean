/- What the claim's law leans on: the program's functions, what they compute, and the law over plain values; no condition is asked. (Part 4 of 4.) -/
import Derived.Test.YtbcdfbiggjfmlaaCLawsFnExMany3
import Derived.Laws.BitsAllLaws
import Derived.Laws.BitsLemmas
namespace Go.Proofs.Ytbcdfbiggjfmlaa.M
open Go.RowKit Go.Proofs.YtbcdfbiggjfmlaaW.PrintWords Go.Proofs.YtbcdfbiggjfmlaaW.PrintLast Go.Proofs.YtbcdfbiggjfmlaaW.PrintMore
attribute [local go_sem] max2_int min2_int max_two min_two max_three min_three max_four min_four
set_option linter.unusedVariables false
set_option linter.unusedSimpArgs false

def laws_FnExMany.g (k : Nat) (a0 a1 a2 : Int) (la : List S29) (b0 b1 b2 : Int) (lb : List S29) : Option Bool :=
 (impl_ExMany.f k a0 a1 a2 la).bind fun n => (impl_ExSyms.f k a0 a1 a2 la).bind fun s => (spec_ExMany.f k a0 a1 a2 la).bind fun n' => (spec_ExSyms.f k a0 a1 a2 la).bind fun s' => (impl_ExSame.f k a0 a1 a2 la b0 b1 b2 lb).bind fun e => (spec_ExSame.f k a0 a1 a2 la b0 b1 b2 lb).bind fun e' => (impl_ExSame.f k a0 a1 a2 la a0 a1 a2 la).bind fun e3 =>
 (impl_ExOk.f k 7 0 1 [⟨a0, a1, a2, la⟩]).bind fun op => (impl_ExMany.f k 7 0 1 [⟨a0, a1, a2, la⟩]).bind fun mp => (impl_ExSyms.f k 7 0 1 [⟨a0, a1, a2, la⟩]).bind fun sp => (impl_ExOk.f k 4 0 0 [⟨a0, a1, a2, la⟩, ⟨b0, b1, b2, lb⟩]).bind fun oq => (impl_ExSyms.f k b0 b1 b2 lb).bind fun t => (impl_ExSyms.f k 4 0 0 [⟨a0, a1, a2, la⟩, ⟨b0, b1, b2, lb⟩]).bind fun u => (impl_ExMany.f k 4 0 0 [⟨a0, a1, a2, la⟩, ⟨b0, b1, b2, lb⟩]).bind fun mq => (impl_ExMany.f k b0 b1 b2 lb).bind fun mb => (spec_ExOk.f k a0 a1 a2 la).bind fun oa =>
 if (n = n' ∧ (s.length : Int) = (s'.length : Int) ∧ e = e' ∧ e3 = true) ∧ (op = true → mp = wrap64 (n + 1) ∧ (sp.length : Int) = (s.length : Int)) ∧ (oq = true → mq = wrap64 (wrap64 (n + mb) + 1) ∧ (s.length : Int) ≤ (u.length : Int) ∧ (t.length : Int) ≤ (u.length : Int) ∧ (u.length : Int) ≤ wrap64 ((s.length : Int) + (t.length : Int))) ∧ ((n == 0) == !oa) = true ∧ (decide (0 < s.length) == oa) = true then some true else none
def laws_FnExMany.f (k : Nat) (l0 : List Int) : Option Bool := if (l0.length : Int) > 1048576 then some true else (spec_DrawExSame.f k l0).bind fun d => laws_FnExMany.g k d.1 d.2.1 d.2.2.1 d.2.2.2.1 d.2.2.2.2.1 d.2.2.2.2.2.1 d.2.2.2.2.2.2.1 d.2.2.2.2.2.2.2
def laws_FnExMany.T6 : Bool × List (List Nat × List Nat) := (true, [([], []), ([], []), ([1], [1]), ([0, 2], [0, 2]), ([3, 2], [3]), ([4], [4]), ([5, 4], [4, 5]), ([4], [4]), ([7, 4, 4], [4, 7]), ([8, 4], [4, 8]), ([6, 9, 4], [4, 6, 9]), ([4, 10], [4, 10]), ([11, 8], [11]), ([12], [12]), ([12], [12]), ([13, 14, 12, 12], [12, 13, 14]), ([12], [12]), ([12], [12]), ([16, 17, 15, 12], [12, 16, 17]), ([15, 18, 12], [12, 15, 18]), ([12, 19], [12, 19]), ([20, 18], [20]), ([21], [21]), ([21], [21]), ([22, 23, 21, 21], [21, 22, 23]), ([24, 21], [21, 24]), ([21, 25], [21, 25])])
def laws_FnExMany.B6 : List Nat := [0, 0, 2, 7, 15, 31, 63, 31, 159, 415, 1023, 2047, 4095, 8191, 8191, 32767, 8191, 8191, 262143, 524287, 1048575, 2097151, 4194303, 4194303, 16777215, 33554431, 67108863]
theorem laws_FnExMany.tab6 : rtab .any (opsOf Try.f7 6) = laws_FnExMany.T6 := by kernel_rfl
theorem laws_FnExMany.bits6 : waitsOk laws_FnExMany.T6.2 laws_FnExMany.B6 = true := by kernel_rfl
def laws_FnExMany.T15 : Bool × List (List Nat × List Nat) := (true, [([], []), ([0], [0]), ([], []), ([], []), ([3, 1], [3]), ([2, 4], [2, 4]), ([5], [5]), ([1, 6], [1, 6]), ([7, 4], [7]), ([8], [8]), ([9, 8], [8, 9]), ([8], [8]), ([11, 8], [8, 11]), ([10, 12, 8], [8, 10, 12]), ([8, 13], [8, 13]), ([14, 8], [14]), ([15], [15]), ([16, 15], [15, 16]), ([15], [15]), ([18, 15], [15, 18]), ([17, 19, 15], [15, 17, 19]), ([15, 20], [15, 20]), ([21, 15], [21]), ([22], [22]), ([23, 22], [22, 23]), ([22], [22]), ([25, 22], [22, 25]), ([22], [22]), ([27, 22], [22, 27]), ([26, 28, 22], [22, 26, 28]), ([24, 29, 22], [22, 24, 29]), ([22, 30], [22, 30])])
def laws_FnExMany.B15 : List Nat := [0, 1, 0, 0, 11, 31, 63, 127, 255, 511, 1023, 511, 2559, 8191, 16383, 32767, 65535, 131071, 65535, 327679, 1048575, 2097151, 4194303, 8388607, 16777215, 8388607, 41943039, 8388607, 142606335, 511705087, 1073741823, 2147483647]
theorem laws_FnExMany.tab15 : rtab .any (opsOf Try.f7 15) = laws_FnExMany.T15 := by kernel_rfl
theorem laws_FnExMany.bits15 : waitsOk laws_FnExMany.T15.2 laws_FnExMany.B15 = true := by kernel_rfl
set_option maxHeartbeats 8000000 in
set_option maxRecDepth 100000 in
theorem laws_FnExMany.calls (k : Nat) (A0 : Option Addr) (c0 : Nat) (l0 : List Int) (r : Bool) (hT_ : Aside0 (r = true)) (w : World) (hr0 : Kd.C (Kd.int .u8) w A0 l0.length l0) (hc0 : l0.length ≤ c0) (h : laws_FnExMany.f k l0 = some r) :
  Calls Try.prog 7 #[.slice A0 l0.length c0] w fun e w' => e = .returned (.bool r) ∧ Below w.heap.size w w' := by
 obtain rfl := hT_.out
 have HR0 := m0_ hr0
 have HC0 := m0_ hc0
 have HB := m0_ (Below.refl w.heap.size w)
 have hu1_ := Try.underlying29
 clear hr0 hc0
 unfold laws_FnExMany.f at h
 go_enter Try.func7, Try.ntmps7
 by_cases z0 : (l0.length : Int) > 1048576
 ·have y0 := decide_eq_true z0
  go_wp2
  go_ret
  exact ⟨rfl, HB.out⟩
 have y0 := decide_eq_false z0
 rw [if_neg z0] at h
 obtain ⟨⟨a0, a1, a2, la, b0, b1, b2, lb⟩, hx, h_⟩ := Option.bind_eq_some_iff.1 h
 clear h
 have h := h_
 clear h_
 have TD := m0_ hx
 clear hx
 unfold laws_FnExMany.g at h
 obtain ⟨n, hx, h_⟩ := Option.bind_eq_some_iff.1 h
 clear h
 have h := h_
 clear h_
 have TN := m0_ hx
 clear hx
 obtain ⟨s, hx, h_⟩ := Option.bind_eq_some_iff.1 h
 clear h
 have h := h_
 clear h_
 have TS := m0_ hx
 clear hx
 obtain ⟨n', hx, h_⟩ := Option.bind_eq_some_iff.1 h
 clear h
 have h := h_
 clear h_
 have TN2 := m0_ hx
 clear hx
 obtain ⟨s', hx, h_⟩ := Option.bind_eq_some_iff.1 h
 clear h
 have h := h_
 clear h_
 have TS2 := m0_ hx
 clear hx
 obtain ⟨e, hx, h_⟩ := Option.bind_eq_some_iff.1 h
 clear h
 have h := h_
 clear h_
 have TE1 := m0_ hx
 clear hx
 obtain ⟨e', hx, h_⟩ := Option.bind_eq_some_iff.1 h
 clear h
 have h := h_
 clear h_
 have TE2 := m0_ hx
 clear hx
 obtain ⟨e3, hx, h_⟩ := Option.bind_eq_some_iff.1 h
 clear h
 have h := h_
 clear h_
 have TE3 := m0_ hx
 clear hx
 obtain ⟨op, hx, h_⟩ := Option.bind_eq_some_iff.1 h
 clear h
 have h := h_
 clear h_
 have TOP := m0_ hx
 clear hx
 obtain ⟨mp, hx, h_⟩ := Option.bind_eq_some_iff.1 h
 clear h
 have h := h_
 clear h_
 have TMP := m0_ hx
 clear hx
 obtain ⟨sp, hx, h_⟩ := Option.bind_eq_some_iff.1 h
 clear h
 have h := h_
 clear h_
 have TSP := m0_ hx
 clear hx
 obtain ⟨oq, hx, h_⟩ := Option.bind_eq_some_iff.1 h
 clear h
 have h := h_
 clear h_
 have TOQ := m0_ hx
 clear hx
 obtain ⟨t, hx, h_⟩ := Option.bind_eq_some_iff.1 h
 clear h
 have h := h_
 clear h_
 have TT := m0_ hx
 clear hx
 obtain ⟨u, hx, h_⟩ := Option.bind_eq_some_iff.1 h
 clear h
 have h := h_
 clear h_
 have TU := m0_ hx
 clear hx
 obtain ⟨mq, hx, h_⟩ := Option.bind_eq_some_iff.1 h
 clear h
 have h := h_
 clear h_
 have TMQ := m0_ hx
 clear hx
 obtain ⟨mb, hx, h_⟩ := Option.bind_eq_some_iff.1 h
 clear h
 have h := h_
 clear h_
 have TMB := m0_ hx
 clear hx
 obtain ⟨oa, hx, h_⟩ := Option.bind_eq_some_iff.1 h
 clear h
 have h := h_
 clear h_
 have TOA := m0_ hx
 clear hx
 have h2 := Decidable.byContradiction (fun c => by rw [if_neg c] at h;cases h)
 obtain ⟨⟨rfl, hls_, rfl, rfl⟩, hp_, hq_, hl1_, hl2_⟩ := h2
 have HLS := m0_ hls_
 have HP := m0_ hp_
 have HQ := m0_ hq_
 have HL1 := m0_ hl1_
 have HL2 := m0_ hl2_
 clear h hls_ hp_ hq_ hl1_ hl2_
 go_upto_region 6 with (first | ((with_reducible refine gate_callee (f := 23) rfl ?_);refine goesL_ (some 16) rfl rfl Try.func23 (by kernel_rfl) rfl #[.slice A0 l0.length c0] rfl (by (try simp only [List.map_toArray, List.map_cons, List.map_nil]);first | done | rfl) ?_;(with_reducible refine (spec_DrawExSame.calls k _ _ l0 a0 a1 a2 la b0 b1 b2 lb _ ?s1 ?s2 TD.out).mono ?_);(case s1 => exact Kd.C_below HR0.out HB.out);(case s2 => exact HC0.out);rintro e w1 ⟨va, vb, rfl, hsa, hsb, hb⟩;refine ⟨_, rfl, ?_⟩;have HB0_ := HB;have Zw1 := m0_ (show w.heap.size ≤ w1.heap.size from hb.size);replace HB := m0_ (below_step HB.out hb);have hs_ := Kd.N_mono (ok' := fun k_ => w.heap.size ≤ k_ ∧ k_ < w1.heap.size) (Kd.N_bound hsa) (fun k_ hk => ⟨Nat.le_trans (below_size HB0_.out) hk.1, hk.2⟩);obtain ⟨AA, cA, rfl⟩ := Kd.N_slice hs_;have FA := m0_ hs_;clear hs_ hsa;have hs_ := Kd.N_mono (ok' := fun k_ => w.heap.size ≤ k_ ∧ k_ < w1.heap.size) (Kd.N_bound hsb) (fun k_ hk => ⟨Nat.le_trans (below_size HB0_.out) hk.1, hk.2⟩);obtain ⟨AB, cB, rfl⟩ := Kd.N_slice hs_;have FB := m0_ hs_;clear hs_ hsb;clear hb HB0_) | ((with_reducible refine gate_dst (N := 3) rfl ?_);refine box_event ?hg (N := 3) ?hd (cs := #[.int .i64 0, .int .i64 0, .int .i64 0, .slice none 0 0]) (t := 29) ?hr ?_;(case hd => rfl);(case hg => rfl);(case hr => first | (go_simp;done) | (go_simp;rfl));intro gb3 hg wb3 hbox hb;have G3 := m0_ (show w1.heap.size ≤ gb3 from by rw [hg];exact Nat.le_refl _);have L3 := m0_ (blk_lt hbox);have Zwb3 := m0_ (show w1.heap.size ≤ wb3.heap.size from hb.size);replace FA := m0_ (Kd.N_below FA.out hb);replace FB := m0_ (Kd.N_below FB.out hb);replace HB := m0_ (below_step HB.out hb);have BK3 := m0_ hbox;clear hg hbox hb) | ((with_reducible refine gate_dst (N := 4) rfl ?_);refine box_event ?hg (N := 4) ?hd (cs := #[.int .i64 0, .int .i64 0, .int .i64 0, .slice none 0 0]) (t := 29) ?hr ?_;(case hd => rfl);(case hg => rfl);(case hr => first | (go_simp;done) | (go_simp;rfl));intro gb4 hg wb4 hbox hb;have G4 := m0_ (show wb3.heap.size ≤ gb4 from by rw [hg];exact Nat.le_refl _);have L4 := m0_ (blk_lt hbox);have Zwb4 := m0_ (show wb3.heap.size ≤ wb4.heap.size from hb.size);replace FA := m0_ (Kd.N_below FA.out hb);replace FB := m0_ (Kd.N_below FB.out hb);replace BK3 := m0_ (blk_below BK3.out hb);replace HB := m0_ (below_step HB.out hb);have BK4 := m0_ hbox;clear hg hbox hb) | ((with_reducible refine gate_store (t := 29) (p := 3) (v := .tmp 17) rfl ?_);refine store_blk (w0 := w) (base := w.heap.size) (e := 29) (g := gb3) (off := 0) (cur := #[.int .i64 0, .int .i64 0, .int .i64 0, .slice none 0 0]) (cur' := #[.int .i64 a0, .int .i64 a1, .int .i64 a2, .slice AA la.length cA]) (u := .agg #[.int .i64 a0, .int .i64 a1, .int .i64 a2, .slice AA la.length cA]) (seg := [.int .i64 a0, .int .i64 a1, .int .i64 a2, .slice AA la.length cA]) rfl rfl rfl rfl rfl BK3.out rfl ?ht ?h1 (by simp) rfl HB.out (by have z_w1 := Zw1.out;have z_wb3 := Zwb3.out;have z_wb4 := Zwb4.out;have g_3 := G3.out;have l_3 := L3.out;have g_4 := G4.out;have l_4 := L4.out;have b_ := below_size HB.out;omega) ?_;(case ht => kernel_rfl);(case h1 => intro q hq;simp only [List.mem_cons, List.not_mem_nil, or_false] at hq;rcases hq with rfl | rfl | rfl | rfl <;> rfl);intro ws3 hs_ hk_ hB_;replace BK3 := m0_ (hs_);replace HB := m0_ (hB_);replace FA := m0_ (Kd.N_keep FA.out hk_ (fun k_ h1 => by have z_w1 := Zw1.out;have z_wb3 := Zwb3.out;have z_wb4 := Zwb4.out;have g_3 := G3.out;have l_3 := L3.out;have g_4 := G4.out;have l_4 := L4.out;omega));replace FB := m0_ (Kd.N_keep FB.out hk_ (fun k_ h1 => by have z_w1 := Zw1.out;have z_wb3 := Zwb3.out;have z_wb4 := Zwb4.out;have g_3 := G3.out;have l_3 := L3.out;have g_4 := G4.out;have l_4 := L4.out;omega));replace BK4 := m0_ (blk_keep BK4.out hk_ (by have z_w1 := Zw1.out;have z_wb3 := Zwb3.out;have z_wb4 := Zwb4.out;have g_3 := G3.out;have l_3 := L3.out;have g_4 := G4.out;have l_4 := L4.out;omega));have Zws3 := m0_ (hk_.1);clear hs_ hk_ hB_) | ((with_reducible refine gate_store (t := 29) (p := 4) (v := .tmp 18) rfl ?_);refine store_blk (w0 := w) (base := w.heap.size) (e := 29) (g := gb4) (off := 0) (cur := #[.int .i64 0, .int .i64 0, .int .i64 0, .slice none 0 0]) (cur' := #[.int .i64 b0, .int .i64 b1, .int .i64 b2, .slice AB lb.length cB]) (u := .agg #[.int .i64 b0, .int .i64 b1, .int .i64 b2, .slice AB lb.length cB]) (seg := [.int .i64 b0, .int .i64 b1, .int .i64 b2, .slice AB lb.length cB]) rfl rfl rfl rfl rfl BK4.out rfl ?ht ?h1 (by simp) rfl HB.out (by have z_w1 := Zw1.out;have z_wb3 := Zwb3.out;have z_wb4 := Zwb4.out;have z_ws3 := Zws3.out;have g_3 := G3.out;have l_3 := L3.out;have g_4 := G4.out;have l_4 := L4.out;have b_ := below_size HB.out;omega) ?_;(case ht => kernel_rfl);(case h1 => intro q hq;simp only [List.mem_cons, List.not_mem_nil, or_false] at hq;rcases hq with rfl | rfl | rfl | rfl <;> rfl);intro ws4 hs_ hk_ hB_;replace BK4 := m0_ (hs_);replace HB := m0_ (hB_);replace FA := m0_ (Kd.N_keep FA.out hk_ (fun k_ h1 => by have z_w1 := Zw1.out;have z_wb3 := Zwb3.out;have z_wb4 := Zwb4.out;have z_ws3 := Zws3.out;have g_3 := G3.out;have l_3 := L3.out;have g_4 := G4.out;have l_4 := L4.out;omega));replace FB := m0_ (Kd.N_keep FB.out hk_ (fun k_ h1 => by have z_w1 := Zw1.out;have z_wb3 := Zwb3.out;have z_wb4 := Zwb4.out;have z_ws3 := Zws3.out;have g_3 := G3.out;have l_3 := L3.out;have g_4 := G4.out;have l_4 := L4.out;omega));replace BK3 := m0_ (blk_keep BK3.out hk_ (by have z_w1 := Zw1.out;have z_wb3 := Zwb3.out;have z_wb4 := Zwb4.out;have z_ws3 := Zws3.out;have g_3 := G3.out;have l_3 := L3.out;have g_4 := G4.out;have l_4 := L4.out;omega));have Zws4 := m0_ (hk_.1);clear hs_ hk_ hB_;have hz3_0 := (blk_cell BK3.out 0).trans (show _ = some (Value.int .i64 a0) from rfl);have hz3_1 := (blk_cell BK3.out 1).trans (show _ = some (Value.int .i64 a1) from rfl);have hz3_2 := (blk_cell BK3.out 2).trans (show _ = some (Value.int .i64 a2) from rfl);have hz3_3 := (blk_cell BK3.out 3).trans (show _ = some (Value.slice AA la.length cA) from rfl)) | ((with_reducible refine gate_callee (f := 16) rfl ?_);refine goesL_ (some 20) rfl rfl Try.func16 (by kernel_rfl) rfl #[.agg #[.int .i64 a0, .int .i64 a1, .int .i64 a2, .slice AA la.length cA]] rfl (by (try simp only [List.map_toArray, List.map_cons, List.map_nil]);first | done | rfl) ?_;(with_reducible refine (impl_ExMany.calls k a0 a1 a2 _ _ la n _ ?s1 ?s2 TN.out).mono ?_);(case s1 => exact (Kd.N_reads' FA.out).2.2);(case s2 => exact (Kd.N_reads' FA.out).2.1);rintro e w2 ⟨rfl, hb⟩;refine ⟨_, rfl, ?_⟩;clear hz3_0 hz3_1 hz3_2 hz3_3;have Zw2 := m0_ (show ws4.heap.size ≤ w2.heap.size from hb.size);replace FA := m0_ (Kd.N_below FA.out hb);replace FB := m0_ (Kd.N_below FB.out hb);replace BK3 := m0_ (blk_below BK3.out hb);replace BK4 := m0_ (blk_below BK4.out hb);replace HB := m0_ (below_step HB.out hb);clear hb;have hz3_0 := (blk_cell BK3.out 0).trans (show _ = some (Value.int .i64 a0) from rfl);have hz3_1 := (blk_cell BK3.out 1).trans (show _ = some (Value.int .i64 a1) from rfl);have hz3_2 := (blk_cell BK3.out 2).trans (show _ = some (Value.int .i64 a2) from rfl);have hz3_3 := (blk_cell BK3.out 3).trans (show _ = some (Value.slice AA la.length cA) from rfl)) | ((with_reducible refine gate_callee (f := 18) rfl ?_);refine goesL_ (some 22) rfl rfl Try.func18 (by kernel_rfl) rfl #[.agg #[.int .i64 a0, .int .i64 a1, .int .i64 a2, .slice AA la.length cA]] rfl (by (try simp only [List.map_toArray, List.map_cons, List.map_nil]);first | done | rfl) ?_;(with_reducible refine (impl_ExSyms.calls k a0 a1 a2 _ _ la s _ ?s1 ?s2 TS.out).mono ?_);(case s1 => exact (Kd.N_reads' FA.out).2.2);(case s2 => exact (Kd.N_reads' FA.out).2.1);rintro e w3 ⟨v_, rfl, hs, hb⟩;refine ⟨_, rfl, ?_⟩;clear hz3_0 hz3_1 hz3_2 hz3_3;have Zw3 := m0_ (show w2.heap.size ≤ w3.heap.size from hb.size);have hs_ := Kd.R_mono (ok' := fun k_ => w2.heap.size ≤ k_ ∧ k_ < w3.heap.size) (Kd.R_lower (Kd.R_bound hs) (below_size HB.out)) (fun k_ hk => ⟨hk.2.1, hk.2.2.1⟩);obtain ⟨AS, cS, rfl⟩ := Kd.R_slice hs_;have NS_ := m0_ hs_;clear hs_ hs;replace FA := m0_ (Kd.N_below FA.out hb);replace FB := m0_ (Kd.N_below FB.out hb);replace BK3 := m0_ (blk_below BK3.out hb);replace BK4 := m0_ (blk_below BK4.out hb);replace HB := m0_ (below_step HB.out hb);clear hb;have FS := NS_;clear NS_))
 replace FA := m0_ (Kd.N_drew FA.out);replace FB := m0_ (Kd.N_drew FB.out);replace FS := m0_ (Kd.R_drew FS.out);replace BK3 := m0_ (blk_drew BK3.out);replace BK4 := m0_ (blk_drew BK4.out);replace HB := m0_ (below_drew1 HB.out)
 -- region 6
 refine start_ (n := 27) (S := fun w' => True) (ds := []) #[false, false, false, false, false, false, false, false, false, false, false, false, false, false, false, false, false, false, false, false, false, false, false, false, false, false, false] (by kernel_rfl) rfl rfl trivial (fun hHeld => ?_)
 refine with_tabW laws_FnExMany.tab6 laws_FnExMany.bits6 (fun HT_ HW_ => ?_)
 generalize hWd : w3.drew = u6 at HB FA FB FS BK3 BK4 ⊢
 have Zu6 := m0_ (show w3.heap.size ≤ u6.heap.size from by rw [← hWd];exact Nat.le_refl _)
 clear hWd
 refine inv_at [0, 1, 2, 3, 4, 5, 6, 7, 8, 9, 10, 11, 12, 13, 14, 15, 16, 17, 18, 19, 20, 21, 22, 23, 24, 25, 26] (fun a0_ b a w' => ∃ (p8 : Value), a = putSel a0_ b [(0, 23, .int .i64 n), (1, 24, .agg #[.int .i64 a0, .int .i64 a1, .int .i64 a2, .slice AA la.length cA]), (2, 25, .int .i64 n), (3, 26, .bool false), (4, 27, .bool false), (5, 28, .slice AS s.length cS), (6, 29, .int .i64 (s.length : Int)), (7, 30, .agg #[.int .i64 a0, .int .i64 a1, .int .i64 a2, .slice AA la.length cA]), (8, 31, p8), (9, 32, .int .i64 (s'.length : Int)), (10, 33, .bool false), (11, 34, .bool false), (12, 35, .bool false), (13, 36, .agg #[.int .i64 a0, .int .i64 a1, .int .i64 a2, .slice AA la.length cA]), (14, 37, .agg #[.int .i64 b0, .int .i64 b1, .int .i64 b2, .slice AB lb.length cB]), (15, 38, .bool e), (16, 39, .agg #[.int .i64 a0, .int .i64 a1, .int .i64 a2, .slice AA la.length cA]), (17, 40, .agg #[.int .i64 b0, .int .i64 b1, .int .i64 b2, .slice AB lb.length cB]), (18, 41, .bool e), (19, 42, .bool false), (20, 43, .bool false), (21, 44, .bool false), (22, 45, .agg #[.int .i64 a0, .int .i64 a1, .int .i64 a2, .slice AA la.length cA]), (23, 46, .agg #[.int .i64 a0, .int .i64 a1, .int .i64 a2, .slice AA la.length cA]), (24, 47, .bool true), (25, 48, .bool (!true)), (26, 49, .bool (!true))] ∧ Below u6.heap.size u6 w' ∧ (b 8 = true → ∃ A8_ c8_, p8 = .slice A8_ s'.length c8_)) HT_.out HW_.out (by kernel_rfl) (by kernel_rfl) ?_ ?_ ?_
 ·exact ⟨.bool true, by simp only [putSel, Bool.false_eq_true, if_false], Below.refl _ _, fun h_ => absurd h_ (by decide)⟩
 ·skip
  refine steps_cons ?_ ?_
  ·rintro b a w' ⟨p8, ha, Q_HB, Q_I8⟩ hb_ hon hoff
   refine ⟨_, rfl, fun K hK => ?_⟩
   have e5 : a.tmps[5]? = some (.int .i64 n) := by rw [ha];exact (putSel_off rfl).trans rfl
   replace ha := m0_ ha
   refine value_ (w1 := w') (v := .int .i64 n) (by rfl) rfl ?_ ?_
   ·go_simp
    (try simp only [i64_w])
    try rfl
   refine hK.out _ _ ⟨p8, (by rw [ha.out];exact putSel_upk 0 hb_ rfl rfl rfl), Q_HB, Q_I8⟩
  refine steps_cons ?_ ?_
  ·rintro b a w' ⟨p8, ha, Q_HB, Q_I8⟩ hb_ hon hoff
   refine ⟨_, rfl, fun K hK => ?_⟩
   have e3 : a.tmps[3]? = some (.pointer (some ⟨gb3, 0, none⟩)) := by rw [ha];exact (putSel_off rfl).trans rfl
   replace ha := m0_ ha
   have hc0_ : w'.cell? ⟨gb3, 0, none⟩ = some (.int .i64 a0) := (blk_cell (blk_below BK3.out Q_HB) 0).trans rfl
   have hc1_ : w'.cell? ⟨gb3, 1, none⟩ = some (.int .i64 a1) := (blk_cell (blk_below BK3.out Q_HB) 1).trans rfl
   have hc2_ : w'.cell? ⟨gb3, 2, none⟩ = some (.int .i64 a2) := (blk_cell (blk_below BK3.out Q_HB) 2).trans rfl
   have hc3_ : w'.cell? ⟨gb3, 3, none⟩ = some (.slice AA la.length cA) := (blk_cell (blk_below BK3.out Q_HB) 3).trans rfl
   refine value_ (w1 := w') (v := .agg #[.int .i64 a0, .int .i64 a1, .int .i64 a2, .slice AA la.length cA]) (by rfl) rfl ?_ ?_
   ·go_simp
    (try simp only [i64_w])
    try rfl
   refine hK.out _ _ ⟨p8, (by rw [ha.out];exact putSel_upk 1 hb_ rfl rfl rfl), Q_HB, Q_I8⟩
  refine steps_cons ?_ ?_
  ·rintro b a w' ⟨p8, ha, Q_HB, Q_I8⟩ hb_ hon hoff
   refine ⟨_, rfl, fun K hK => ?_⟩
   have e24 : a.tmps[24]? = some (.agg #[.int .i64 a0, .int .i64 a1, .int .i64 a2, .slice AA la.length cA]) := by rw [ha];exact putSel_on (e := (1, 24, .agg #[.int .i64 a0, .int .i64 a1, .int .i64 a2, .slice AA la.length cA])) 1 rfl rfl (hon 1 (by kernel_rfl)) rfl
   replace ha := m0_ ha
   refine goes_ Try.func15 (by kernel_rfl) rfl #[.agg #[.int .i64 a0, .int .i64 a1, .int .i64 a2, .slice AA la.length cA]] (by rfl) rfl rfl (by first | (simp only [List.map_toArray, List.map_cons, List.map_nil, Act.eval, Array.getD_eq_getD_getElem?, Option.getD_some, e24];done) | (simp only [List.map_toArray, List.map_cons, List.map_nil, Act.eval, Array.getD_eq_getD_getElem?, Option.getD_some, e24];rfl)) ?_
   with_reducible refine (spec_ExMany.calls k a0 a1 a2 _ _ la n _ ?s1 ?s2 TN2.out).mono ?_
   (case s1 => exact Kd.C_below (Kd.N_reads' FA.out).2.2 Q_HB)
   (case s2 => exact (Kd.N_reads' FA.out).2.1)
   rintro e w3 ⟨rfl, hb⟩
   refine ⟨_, rfl, ?_⟩
   refine hK.out _ _ ⟨p8, (by rw [ha.out];exact putSel_upk 2 hb_ rfl rfl rfl), below_step Q_HB hb, Q_I8⟩
  refine steps_cons ?_ ?_
  ·rintro b a w' ⟨p8, ha, Q_HB, Q_I8⟩ hb_ hon hoff
   refine ⟨_, rfl, fun K hK => ?_⟩
   have e23 : a.tmps[23]? = some (.int .i64 n) := by rw [ha];exact putSel_on (e := (0, 23, .int .i64 n)) 0 rfl rfl (hon 0 (by kernel_rfl)) rfl
   have e25 : a.tmps[25]? = some (.int .i64 n) := by rw [ha];exact putSel_on (e := (2, 25, .int .i64 n)) 2 rfl rfl (hon 2 (by kernel_rfl)) rfl
   replace ha := m0_ ha
   refine value_ (w1 := w') (v := .bool false) (by rfl) rfl ?_ ?_
   ·rw [show Value.bool false = Value.bool (n != n) from by rw [bne_self_eq_false]];go_simp
    (try simp only [i64_w])
    try rfl
   refine hK.out _ _ ⟨p8, (by rw [ha.out];exact putSel_upk 3 hb_ rfl rfl rfl), Q_HB, Q_I8⟩
  refine steps_cons ?_ ?_
  ·rintro b a w' ⟨p8, ha, Q_HB, Q_I8⟩ hb_ hon hoff
   refine ⟨_, rfl, fun K hK => ?_⟩
   have e26 : a.tmps[26]? = some (.bool false) := by rw [ha];exact putSel_on (e := (3, 26, .bool false)) 3 rfl rfl (hon 3 (by kernel_rfl)) rfl
   replace ha := m0_ ha
   refine value_ (w1 := w') (v := .bool false) (by rfl) rfl ?_ ?_
   ·go_simp
    (try simp only [i64_w])
    try rfl
   refine hK.out _ _ ⟨p8, (by rw [ha.out];exact putSel_upk 4 hb_ rfl rfl rfl), Q_HB, Q_I8⟩
  refine steps_cons ?_ ?_
  ·rintro b a w' ⟨p8, ha, Q_HB, Q_I8⟩ hb_ hon hoff
   refine ⟨_, rfl, fun K hK => ?_⟩
   have e6 : a.tmps[6]? = some (.slice AS s.length cS) := by rw [ha];exact (putSel_off rfl).trans rfl
   have e27 : a.tmps[27]? = some (.bool false) := by rw [ha];exact putSel_on (e := (4, 27, .bool false)) 4 rfl rfl (hon 4 (by kernel_rfl)) rfl
   replace ha := m0_ ha
   refine value_ (w1 := w') (v := .slice AS s.length cS) (wanted_on rfl rfl rfl (e27.trans (by first | rfl | (simp [*];done)))) rfl ?_ ?_
   ·go_simp
    (try simp only [i64_w])
    try rfl
   refine hK.out _ _ ⟨p8, (by rw [ha.out];exact putSel_upk 5 hb_ rfl rfl rfl), Q_HB, Q_I8⟩
  refine steps_cons ?_ ?_
  ·rintro b a w' ⟨p8, ha, Q_HB, Q_I8⟩ hb_ hon hoff
   refine ⟨_, rfl, fun K hK => ?_⟩
   have e28 : a.tmps[28]? = some (.slice AS s.length cS) := by rw [ha];exact putSel_on (e := (5, 28, .slice AS s.length cS)) 5 rfl rfl (hon 5 (by kernel_rfl)) rfl
   have e27 : a.tmps[27]? = some (.bool false) := by rw [ha];exact putSel_on (e := (4, 27, .bool false)) 4 rfl rfl (hon 4 (by kernel_rfl)) rfl
   replace ha := m0_ ha
   refine value_ (w1 := w') (v := .int .i64 (s.length : Int)) (wanted_on rfl rfl rfl (e27.trans (by first | rfl | (simp [*];done)))) rfl ?_ ?_
   ·go_simp
    (try simp only [i64_w])
    try rfl
   refine hK.out _ _ ⟨p8, (by rw [ha.out];exact putSel_upk 6 hb_ rfl rfl rfl), Q_HB, Q_I8⟩
  refine steps_cons ?_ ?_
  ·rintro b a w' ⟨p8, ha, Q_HB, Q_I8⟩ hb_ hon hoff
   refine ⟨_, rfl, fun K hK => ?_⟩
   have e3 : a.tmps[3]? = some (.pointer (some ⟨gb3, 0, none⟩)) := by rw [ha];exact (putSel_off rfl).trans rfl
   have e27 : a.tmps[27]? = some (.bool false) := by rw [ha];exact putSel_on (e := (4, 27, .bool false)) 4 rfl rfl (hon 4 (by kernel_rfl)) rfl
   replace ha := m0_ ha
   have hc0_ : w'.cell? ⟨gb3, 0, none⟩ = some (.int .i64 a0) := (blk_cell (blk_below BK3.out Q_HB) 0).trans rfl
   have hc1_ : w'.cell? ⟨gb3, 1, none⟩ = some (.int .i64 a1) := (blk_cell (blk_below BK3.out Q_HB) 1).trans rfl
   have hc2_ : w'.cell? ⟨gb3, 2, none⟩ = some (.int .i64 a2) := (blk_cell (blk_below BK3.out Q_HB) 2).trans rfl
   have hc3_ : w'.cell? ⟨gb3, 3, none⟩ = some (.slice AA la.length cA) := (blk_cell (blk_below BK3.out Q_HB) 3).trans rfl
   refine value_ (w1 := w') (v := .agg #[.int .i64 a0, .int .i64 a1, .int .i64 a2, .slice AA la.length cA]) (wanted_on rfl rfl rfl (e27.trans (by first | rfl | (simp [*];done)))) rfl ?_ ?_
   ·go_simp
    (try simp only [i64_w])
    try rfl
   refine hK.out _ _ ⟨p8, (by rw [ha.out];exact putSel_upk 7 hb_ rfl rfl rfl), Q_HB, Q_I8⟩
  refine steps_cons ?_ ?_
  ·rintro b a w' ⟨p8, ha, Q_HB, Q_I8⟩ hb_ hon hoff
   refine ⟨_, rfl, fun K hK => ?_⟩
   have e30 : a.tmps[30]? = some (.agg #[.int .i64 a0, .int .i64 a1, .int .i64 a2, .slice AA la.length cA]) := by rw [ha];exact putSel_on (e := (7, 30, .agg #[.int .i64 a0, .int .i64 a1, .int .i64 a2, .slice AA la.length cA])) 7 rfl rfl (hon 7 (by kernel_rfl)) rfl
   have e27 : a.tmps[27]? = some (.bool false) := by rw [ha];exact putSel_on (e := (4, 27, .bool false)) 4 rfl rfl (hon 4 (by kernel_rfl)) rfl
   replace ha := m0_ ha
   refine goes_ Try.func17 (by kernel_rfl) rfl #[.agg #[.int .i64 a0, .int .i64 a1, .int .i64 a2, .slice AA la.length cA]] (wanted_on rfl rfl rfl (e27.trans (by first | rfl | (simp [*];done)))) rfl rfl (by first | (simp only [List.map_toArray, List.map_cons, List.map_nil, Act.eval, Array.getD_eq_getD_getElem?, Option.getD_some, e30, e27];done) | (simp only [List.map_toArray, List.map_cons, List.map_nil, Act.eval, Array.getD_eq_getD_getElem?, Option.getD_some, e30, e27];rfl)) ?_
   with_reducible refine (spec_ExSyms.calls k a0 a1 a2 _ _ la s' _ ?s1 ?s2 TS2.out).mono ?_
   (case s1 => exact Kd.C_below (Kd.N_reads' FA.out).2.2 Q_HB)
   (case s2 => exact (Kd.N_reads' FA.out).2.1)
   rintro e w3 ⟨v_, rfl, hs_, hb⟩
   refine ⟨_, rfl, ?_⟩
   refine hK.out _ _ ⟨_, (by rw [ha.out];exact putSel_upk 8 hb_ rfl rfl rfl), below_step Q_HB hb, fun _ => Kd.R_slice hs_⟩
  refine steps_cons ?_ ?_
  ·rintro b a w' ⟨p8, ha, Q_HB, Q_I8⟩ hb_ hon hoff
   refine ⟨_, rfl, fun K hK => ?_⟩
   obtain ⟨A8_, c8_, rfl⟩ := Q_I8 (hon 8 (by kernel_rfl))
   have e31 : a.tmps[31]? = some (.slice A8_ s'.length c8_) := by rw [ha];exact putSel_on (e := (8, 31, .slice A8_ s'.length c8_)) 8 rfl rfl (hon 8 (by kernel_rfl)) rfl
   have e27 : a.tmps[27]? = some (.bool false) := by rw [ha];exact putSel_on (e := (4, 27, .bool false)) 4 rfl rfl (hon 4 (by kernel_rfl)) rfl
   replace ha := m0_ ha
   refine value_ (w1 := w') (v := .int .i64 (s'.length : Int)) (wanted_on rfl rfl rfl (e27.trans (by first | rfl | (simp [*];done)))) rfl ?_ ?_
   ·go_simp
    (try simp only [i64_w])
    try rfl
   refine hK.out _ _ ⟨_, (by rw [ha.out];exact putSel_upk 9 hb_ rfl rfl rfl), Q_HB, Q_I8⟩
  refine steps_cons ?_ ?_
  ·rintro b a w' ⟨p8, ha, Q_HB, Q_I8⟩ hb_ hon hoff
   refine ⟨_, rfl, fun K hK => ?_⟩
   have e29 : a.tmps[29]? = some (.int .i64 (s.length : Int)) := by rw [ha];exact putSel_on (e := (6, 29, .int .i64 (s.length : Int))) 6 rfl rfl (hon 6 (by kernel_rfl)) rfl
   have e32 : a.tmps[32]? = some (.int .i64 (s'.length : Int)) := by rw [ha];exact putSel_on (e := (9, 32, .int .i64 (s'.length : Int))) 9 rfl rfl (hon 9 (by kernel_rfl)) rfl
   have e27 : a.tmps[27]? = some (.bool false) := by rw [ha];exact putSel_on (e := (4, 27, .bool false)) 4 rfl rfl (hon 4 (by kernel_rfl)) rfl
   replace ha := m0_ ha
   refine value_ (w1 := w') (v := .bool false) (wanted_on rfl rfl rfl (e27.trans (by first | rfl | (simp [*];done)))) rfl ?_ ?_
   ·rw [show Value.bool false = Value.bool ((s.length : Int) != (s'.length : Int)) from by rw [HLS.out, bne_self_eq_false]];go_simp
    (try simp only [i64_w])
    try rfl
   refine hK.out _ _ ⟨p8, (by rw [ha.out];exact putSel_upk 10 hb_ rfl rfl rfl), Q_HB, Q_I8⟩
  refine steps_cons ?_ ?_
  ·rintro b a w' ⟨p8, ha, Q_HB, Q_I8⟩ hb_ hon hoff
   refine ⟨_, rfl, fun K hK => ?_⟩
   have e27 : a.tmps[27]? = some (.bool false) := by rw [ha];exact putSel_on (e := (4, 27, .bool false)) 4 rfl rfl (hon 4 (by kernel_rfl)) rfl
   have e33 : a.tmps[33]? = some (.bool false) := by rw [ha];exact putSel_on (e := (10, 33, .bool false)) 10 rfl rfl (hon 10 (by kernel_rfl)) rfl
   replace ha := m0_ ha
   refine value_ (w1 := w') (v := .bool false) (by rfl) rfl ?_ ?_
   ·go_simp
    (try simp only [i64_w])
    try rfl
   refine hK.out _ _ ⟨p8, (by rw [ha.out];exact putSel_upk 11 hb_ rfl rfl rfl), Q_HB, Q_I8⟩
  refine steps_cons ?_ ?_
  ·rintro b a w' ⟨p8, ha, Q_HB, Q_I8⟩ hb_ hon hoff
   refine ⟨_, rfl, fun K hK => ?_⟩
   have e34 : a.tmps[34]? = some (.bool false) := by rw [ha];exact putSel_on (e := (11, 34, .bool false)) 11 rfl rfl (hon 11 (by kernel_rfl)) rfl
   replace ha := m0_ ha
   refine value_ (w1 := w') (v := .bool false) (by rfl) rfl ?_ ?_
   ·go_simp
    (try simp only [i64_w])
    try rfl
   refine hK.out _ _ ⟨p8, (by rw [ha.out];exact putSel_upk 12 hb_ rfl rfl rfl), Q_HB, Q_I8⟩
  refine steps_cons ?_ ?_
  ·rintro b a w' ⟨p8, ha, Q_HB, Q_I8⟩ hb_ hon hoff
   refine ⟨_, rfl, fun K hK => ?_⟩
   have e3 : a.tmps[3]? = some (.pointer (some ⟨gb3, 0, none⟩)) := by rw [ha];exact (putSel_off rfl).trans rfl
   have e35 : a.tmps[35]? = some (.bool false) := by rw [ha];exact putSel_on (e := (12, 35, .bool false)) 12 rfl rfl (hon 12 (by kernel_rfl)) rfl
   replace ha := m0_ ha
   have hc0_ : w'.cell? ⟨gb3, 0, none⟩ = some (.int .i64 a0) := (blk_cell (blk_below BK3.out Q_HB) 0).trans rfl
   have hc1_ : w'.cell? ⟨gb3, 1, none⟩ = some (.int .i64 a1) := (blk_cell (blk_below BK3.out Q_HB) 1).trans rfl
   have hc2_ : w'.cell? ⟨gb3, 2, none⟩ = some (.int .i64 a2) := (blk_cell (blk_below BK3.out Q_HB) 2).trans rfl
   have hc3_ : w'.cell? ⟨gb3, 3, none⟩ = some (.slice AA la.length cA) := (blk_cell (blk_below BK3.out Q_HB) 3).trans rfl
   refine value_ (w1 := w') (v := .agg #[.int .i64 a0, .int .i64 a1, .int .i64 a2, .slice AA la.length cA]) (wanted_on rfl rfl rfl (e35.trans (by first | rfl | (simp [*];done)))) rfl ?_ ?_
   ·go_simp
    (try simp only [i64_w])
    try rfl
   refine hK.out _ _ ⟨p8, (by rw [ha.out];exact putSel_upk 13 hb_ rfl rfl rfl), Q_HB, Q_I8⟩
  refine steps_cons ?_ ?_
  ·rintro b a w' ⟨p8, ha, Q_HB, Q_I8⟩ hb_ hon hoff
   refine ⟨_, rfl, fun K hK => ?_⟩
   have e4 : a.tmps[4]? = some (.pointer (some ⟨gb4, 0, none⟩)) := by rw [ha];exact (putSel_off rfl).trans rfl
   have e35 : a.tmps[35]? = some (.bool false) := by rw [ha];exact putSel_on (e := (12, 35, .bool false)) 12 rfl rfl (hon 12 (by kernel_rfl)) rfl
   replace ha := m0_ ha
   have hc0_ : w'.cell? ⟨gb4, 0, none⟩ = some (.int .i64 b0) := (blk_cell (blk_below BK4.out Q_HB) 0).trans rfl
   have hc1_ : w'.cell? ⟨gb4, 1, none⟩ = some (.int .i64 b1) := (blk_cell (blk_below BK4.out Q_HB) 1).trans rfl
   have hc2_ : w'.cell? ⟨gb4, 2, none⟩ = some (.int .i64 b2) := (blk_cell (blk_below BK4.out Q_HB) 2).trans rfl
   have hc3_ : w'.cell? ⟨gb4, 3, none⟩ = some (.slice AB lb.length cB) := (blk_cell (blk_below BK4.out Q_HB) 3).trans rfl
   refine value_ (w1 := w') (v := .agg #[.int .i64 b0, .int .i64 b1, .int .i64 b2, .slice AB lb.length cB]) (wanted_on rfl rfl rfl (e35.trans (by first | rfl | (simp [*];done)))) rfl ?_ ?_
   ·go_simp
    (try simp only [i64_w])
    try rfl
   refine hK.out _ _ ⟨p8, (by rw [ha.out];exact putSel_upk 14 hb_ rfl rfl rfl), Q_HB, Q_I8⟩
  refine steps_cons ?_ ?_
  ·rintro b a w' ⟨p8, ha, Q_HB, Q_I8⟩ hb_ hon hoff
   refine ⟨_, rfl, fun K hK => ?_⟩
   have e36 : a.tmps[36]? = some (.agg #[.int .i64 a0, .int .i64 a1, .int .i64 a2, .slice AA la.length cA]) := by rw [ha];exact putSel_on (e := (13, 36, .agg #[.int .i64 a0, .int .i64 a1, .int .i64 a2, .slice AA la.length cA])) 13 rfl rfl (hon 13 (by kernel_rfl)) rfl
   have e37 : a.tmps[37]? = some (.agg #[.int .i64 b0, .int .i64 b1, .int .i64 b2, .slice AB lb.length cB]) := by rw [ha];exact putSel_on (e := (14, 37, .agg #[.int .i64 b0, .int .i64 b1, .int .i64 b2, .slice AB lb.length cB])) 14 rfl rfl (hon 14 (by kernel_rfl)) rfl
   have e35 : a.tmps[35]? = some (.bool false) := by rw [ha];exact putSel_on (e := (12, 35, .bool false)) 12 rfl rfl (hon 12 (by kernel_rfl)) rfl
   replace ha := m0_ ha
   refine goes_ Try.func11 (by kernel_rfl) rfl #[.agg #[.int .i64 a0, .int .i64 a1, .int .i64 a2, .slice AA la.length cA], .agg #[.int .i64 b0, .int .i64 b1, .int .i64 b2, .slice AB lb.length cB]] (wanted_on rfl rfl rfl (e35.trans (by first | rfl | (simp [*];done)))) rfl rfl (by first | (simp only [List.map_toArray, List.map_cons, List.map_nil, Act.eval, Array.getD_eq_getD_getElem?, Option.getD_some, e36, e37, e35];done) | (simp only [List.map_toArray, List.map_cons, List.map_nil, Act.eval, Array.getD_eq_getD_getElem?, Option.getD_some, e36, e37, e35];rfl)) ?_
   with_reducible refine (impl_ExSame.calls k a0 a1 a2 _ _ la b0 b1 b2 _ _ lb e _ ?s1 ?s2 ?s3 ?s4 TE1.out).mono ?_
   (case s1 => exact Kd.C_below (Kd.N_reads' FA.out).2.2 Q_HB)
   (case s2 => exact (Kd.N_reads' FA.out).2.1)
   (case s3 => exact Kd.C_below (Kd.N_reads' FB.out).2.2 Q_HB)
   (case s4 => exact (Kd.N_reads' FB.out).2.1)
   rintro e w3 ⟨rfl, hb⟩
   refine ⟨_, rfl, ?_⟩
   refine hK.out _ _ ⟨p8, (by rw [ha.out];exact putSel_upk 15 hb_ rfl rfl rfl), below_step Q_HB hb, Q_I8⟩
  refine steps_cons ?_ ?_
  ·rintro b a w' ⟨p8, ha, Q_HB, Q_I8⟩ hb_ hon hoff
   refine ⟨_, rfl, fun K hK => ?_⟩
   have e3 : a.tmps[3]? = some (.pointer (some ⟨gb3, 0, none⟩)) := by rw [ha];exact (putSel_off rfl).trans rfl
   have e35 : a.tmps[35]? = some (.bool false) := by rw [ha];exact putSel_on (e := (12, 35, .bool false)) 12 rfl rfl (hon 12 (by kernel_rfl)) rfl
   replace ha := m0_ ha
   have hc0_ : w'.cell? ⟨gb3, 0, none⟩ = some (.int .i64 a0) := (blk_cell (blk_below BK3.out Q_HB) 0).trans rfl
   have hc1_ : w'.cell? ⟨gb3, 1, none⟩ = some (.int .i64 a1) := (blk_cell (blk_below BK3.out Q_HB) 1).trans rfl
   have hc2_ : w'.cell? ⟨gb3, 2, none⟩ = some (.int .i64 a2) := (blk_cell (blk_below BK3.out Q_HB) 2).trans rfl
   have hc3_ : w'.cell? ⟨gb3, 3, none⟩ = some (.slice AA la.length cA) := (blk_cell (blk_below BK3.out Q_HB) 3).trans rfl
   refine value_ (w1 := w') (v := .agg #[.int .i64 a0, .int .i64 a1, .int .i64 a2, .slice AA la.length cA]) (wanted_on rfl rfl rfl (e35.trans (by first | rfl | (simp [*];done)))) rfl ?_ ?_
   ·go_simp
    (try simp only [i64_w])
    try rfl
   refine hK.out _ _ ⟨p8, (by rw [ha.out];exact putSel_upk 16 hb_ rfl rfl rfl), Q_HB, Q_I8⟩
  refine steps_cons ?_ ?_
  ·rintro b a w' ⟨p8, ha, Q_HB, Q_I8⟩ hb_ hon hoff
   refine ⟨_, rfl, fun K hK => ?_⟩
   have e4 : a.tmps[4]? = some (.pointer (some ⟨gb4, 0, none⟩)) := by rw [ha];exact (putSel_off rfl).trans rfl
   have e35 : a.tmps[35]? = some (.bool false) := by rw [ha];exact putSel_on (e := (12, 35, .bool false)) 12 rfl rfl (hon 12 (by kernel_rfl)) rfl
   replace ha := m0_ ha
   have hc0_ : w'.cell? ⟨gb4, 0, none⟩ = some (.int .i64 b0) := (blk_cell (blk_below BK4.out Q_HB) 0).trans rfl
   have hc1_ : w'.cell? ⟨gb4, 1, none⟩ = some (.int .i64 b1) := (blk_cell (blk_below BK4.out Q_HB) 1).trans rfl
   have hc2_ : w'.cell? ⟨gb4, 2, none⟩ = some (.int .i64 b2) := (blk_cell (blk_below BK4.out Q_HB) 2).trans rfl
   have hc3_ : w'.cell? ⟨gb4, 3, none⟩ = some (.slice AB lb.length cB) := (blk_cell (blk_below BK4.out Q_HB) 3).trans rfl
   refine value_ (w1 := w') (v := .agg #[.int .i64 b0, .int .i64 b1, .int .i64 b2, .slice AB lb.length cB]) (wanted_on rfl rfl rfl (e35.trans (by first | rfl | (simp [*];done)))) rfl ?_ ?_
   ·go_simp
    (try simp only [i64_w])
    try rfl
   refine hK.out _ _ ⟨p8, (by rw [ha.out];exact putSel_upk 17 hb_ rfl rfl rfl), Q_HB, Q_I8⟩
  refine steps_cons ?_ ?_
  ·rintro b a w' ⟨p8, ha, Q_HB, Q_I8⟩ hb_ hon hoff
   refine ⟨_, rfl, fun K hK => ?_⟩
   have e39 : a.tmps[39]? = some (.agg #[.int .i64 a0, .int .i64 a1, .int .i64 a2, .slice AA la.length cA]) := by rw [ha];exact putSel_on (e := (16, 39, .agg #[.int .i64 a0, .int .i64 a1, .int .i64 a2, .slice AA la.length cA])) 16 rfl rfl (hon 16 (by kernel_rfl)) rfl
   have e40 : a.tmps[40]? = some (.agg #[.int .i64 b0, .int .i64 b1, .int .i64 b2, .slice AB lb.length cB]) := by rw [ha];exact putSel_on (e := (17, 40, .agg #[.int .i64 b0, .int .i64 b1, .int .i64 b2, .slice AB lb.length cB])) 17 rfl rfl (hon 17 (by kernel_rfl)) rfl
   have e35 : a.tmps[35]? = some (.bool false) := by rw [ha];exact putSel_on (e := (12, 35, .bool false)) 12 rfl rfl (hon 12 (by kernel_rfl)) rfl
   replace ha := m0_ ha
   refine goes_ Try.func9 (by kernel_rfl) rfl #[.agg #[.int .i64 a0, .int .i64 a1, .int .i64 a2, .slice AA la.length cA], .agg #[.int .i64 b0, .int .i64 b1, .int .i64 b2, .slice AB lb.length cB]] (wanted_on rfl rfl rfl (e35.trans (by first | rfl | (simp [*];done)))) rfl rfl (by first | (simp only [List.map_toArray, List.map_cons, List.map_nil, Act.eval, Array.getD_eq_getD_getElem?, Option.getD_some, e39, e40, e35];done) | (simp only [List.map_toArray, List.map_cons, List.map_nil, Act.eval, Array.getD_eq_getD_getElem?, Option.getD_some, e39, e40, e35];rfl)) ?_
   with_reducible refine (spec_ExSame.calls k a0 a1 a2 _ _ la b0 b1 b2 _ _ lb e _ ?s1 ?s2 ?s3 ?s4 TE2.out).mono ?_
   (case s1 => exact Kd.C_below (Kd.N_reads' FA.out).2.2 Q_HB)
   (case s2 => exact (Kd.N_reads' FA.out).2.1)
   (case s3 => exact Kd.C_below (Kd.N_reads' FB.out).2.2 Q_HB)
   (case s4 => exact (Kd.N_reads' FB.out).2.1)
   rintro e w3 ⟨rfl, hb⟩
   refine ⟨_, rfl, ?_⟩
   refine hK.out _ _ ⟨p8, (by rw [ha.out];exact putSel_upk 18 hb_ rfl rfl rfl), below_step Q_HB hb, Q_I8⟩
  refine steps_cons ?_ ?_
  ·rintro b a w' ⟨p8, ha, Q_HB, Q_I8⟩ hb_ hon hoff
   refine ⟨_, rfl, fun K hK => ?_⟩
   have e38 : a.tmps[38]? = some (.bool e) := by rw [ha];exact putSel_on (e := (15, 38, .bool e)) 15 rfl rfl (hon 15 (by kernel_rfl)) rfl
   have e41 : a.tmps[41]? = some (.bool e) := by rw [ha];exact putSel_on (e := (18, 41, .bool e)) 18 rfl rfl (hon 18 (by kernel_rfl)) rfl
   have e35 : a.tmps[35]? = some (.bool false) := by rw [ha];exact putSel_on (e := (12, 35, .bool false)) 12 rfl rfl (hon 12 (by kernel_rfl)) rfl
   replace ha := m0_ ha
   refine value_ (w1 := w') (v := .bool false) (wanted_on rfl rfl rfl (e35.trans (by first | rfl | (simp [*];done)))) rfl ?_ ?_
   ·rw [show Value.bool false = Value.bool (e != e) from by rw [bne_self_eq_false]];go_simp
    (try simp only [i64_w])
    try rfl
   refine hK.out _ _ ⟨p8, (by rw [ha.out];exact putSel_upk 19 hb_ rfl rfl rfl), Q_HB, Q_I8⟩
  refine steps_cons ?_ ?_
  ·rintro b a w' ⟨p8, ha, Q_HB, Q_I8⟩ hb_ hon hoff
   refine ⟨_, rfl, fun K hK => ?_⟩
   have e35 : a.tmps[35]? = some (.bool false) := by rw [ha];exact putSel_on (e := (12, 35, .bool false)) 12 rfl rfl (hon 12 (by kernel_rfl)) rfl
   have e42 : a.tmps[42]? = some (.bool false) := by rw [ha];exact putSel_on (e := (19, 42, .bool false)) 19 rfl rfl (hon 19 (by kernel_rfl)) rfl
   replace ha := m0_ ha
   refine value_ (w1 := w') (v := .bool false) (by rfl) rfl ?_ ?_
   ·go_simp
    (try simp only [i64_w])
    try rfl
   refine hK.out _ _ ⟨p8, (by rw [ha.out];exact putSel_upk 20 hb_ rfl rfl rfl), Q_HB, Q_I8⟩
  refine steps_cons ?_ ?_
  ·rintro b a w' ⟨p8, ha, Q_HB, Q_I8⟩ hb_ hon hoff
   refine ⟨_, rfl, fun K hK => ?_⟩
   have e43 : a.tmps[43]? = some (.bool false) := by rw [ha];exact putSel_on (e := (20, 43, .bool false)) 20 rfl rfl (hon 20 (by kernel_rfl)) rfl
   replace ha := m0_ ha
   refine value_ (w1 := w') (v := .bool false) (by rfl) rfl ?_ ?_
   ·go_simp
    (try simp only [i64_w])
    try rfl
   refine hK.out _ _ ⟨p8, (by rw [ha.out];exact putSel_upk 21 hb_ rfl rfl rfl), Q_HB, Q_I8⟩
  refine steps_cons ?_ ?_
  ·rintro b a w' ⟨p8, ha, Q_HB, Q_I8⟩ hb_ hon hoff
   refine ⟨_, rfl, fun K hK => ?_⟩
   have e3 : a.tmps[3]? = some (.pointer (some ⟨gb3, 0, none⟩)) := by rw [ha];exact (putSel_off rfl).trans rfl
   have e44 : a.tmps[44]? = some (.bool false) := by rw [ha];exact putSel_on (e := (21, 44, .bool false)) 21 rfl rfl (hon 21 (by kernel_rfl)) rfl
   replace ha := m0_ ha
   have hc0_ : w'.cell? ⟨gb3, 0, none⟩ = some (.int .i64 a0) := (blk_cell (blk_below BK3.out Q_HB) 0).trans rfl
   have hc1_ : w'.cell? ⟨gb3, 1, none⟩ = some (.int .i64 a1) := (blk_cell (blk_below BK3.out Q_HB) 1).trans rfl
   have hc2_ : w'.cell? ⟨gb3, 2, none⟩ = some (.int .i64 a2) := (blk_cell (blk_below BK3.out Q_HB) 2).trans rfl
   have hc3_ : w'.cell? ⟨gb3, 3, none⟩ = some (.slice AA la.length cA) := (blk_cell (blk_below BK3.out Q_HB) 3).trans rfl
   refine value_ (w1 := w') (v := .agg #[.int .i64 a0, .int .i64 a1, .int .i64 a2, .slice AA la.length cA]) (wanted_on rfl rfl rfl (e44.trans (by first | rfl | (simp [*];done)))) rfl ?_ ?_
   ·go_simp
    (try simp only [i64_w])
    try rfl
   refine hK.out _ _ ⟨p8, (by rw [ha.out];exact putSel_upk 22 hb_ rfl rfl rfl), Q_HB, Q_I8⟩
  refine steps_cons ?_ ?_
  ·rintro b a w' ⟨p8, ha, Q_HB, Q_I8⟩ hb_ hon hoff
   refine ⟨_, rfl, fun K hK => ?_⟩
   have e3 : a.tmps[3]? = some (.pointer (some ⟨gb3, 0, none⟩)) := by rw [ha];exact (putSel_off rfl).trans rfl
   have e44 : a.tmps[44]? = some (.bool false) := by rw [ha];exact putSel_on (e := (21, 44, .bool false)) 21 rfl rfl (hon 21 (by kernel_rfl)) rfl
   replace ha := m0_ ha
   have hc0_ : w'.cell? ⟨gb3, 0, none⟩ = some (.int .i64 a0) := (blk_cell (blk_below BK3.out Q_HB) 0).trans rfl
   have hc1_ : w'.cell? ⟨gb3, 1, none⟩ = some (.int .i64 a1) := (blk_cell (blk_below BK3.out Q_HB) 1).trans rfl
   have hc2_ : w'.cell? ⟨gb3, 2, none⟩ = some (.int .i64 a2) := (blk_cell (blk_below BK3.out Q_HB) 2).trans rfl
   have hc3_ : w'.cell? ⟨gb3, 3, none⟩ = some (.slice AA la.length cA) := (blk_cell (blk_below BK3.out Q_HB) 3).trans rfl
   refine value_ (w1 := w') (v := .agg #[.int .i64 a0, .int .i64 a1, .int .i64 a2, .slice AA la.length cA]) (wanted_on rfl rfl rfl (e44.trans (by first | rfl | (simp [*];done)))) rfl ?_ ?_
   ·go_simp
    (try simp only [i64_w])
    try rfl
   refine hK.out _ _ ⟨p8, (by rw [ha.out];exact putSel_upk 23 hb_ rfl rfl rfl), Q_HB, Q_I8⟩
  refine steps_cons ?_ ?_
  ·rintro b a w' ⟨p8, ha, Q_HB, Q_I8⟩ hb_ hon hoff
   refine ⟨_, rfl, fun K hK => ?_⟩
   have e45 : a.tmps[45]? = some (.agg #[.int .i64 a0, .int .i64 a1, .int .i64 a2, .slice AA la.length cA]) := by rw [ha];exact putSel_on (e := (22, 45, .agg #[.int .i64 a0, .int .i64 a1, .int .i64 a2, .slice AA la.length cA])) 22 rfl rfl (hon 22 (by kernel_rfl)) rfl
   have e46 : a.tmps[46]? = some (.agg #[.int .i64 a0, .int .i64 a1, .int .i64 a2, .slice AA la.length cA]) := by rw [ha];exact putSel_on (e := (23, 46, .agg #[.int .i64 a0, .int .i64 a1, .int .i64 a2, .slice AA la.length cA])) 23 rfl rfl (hon 23 (by kernel_rfl)) rfl
   have e44 : a.tmps[44]? = some (.bool false) := by rw [ha];exact putSel_on (e := (21, 44, .bool false)) 21 rfl rfl (hon 21 (by kernel_rfl)) rfl
   replace ha := m0_ ha
   refine goes_ Try.func11 (by kernel_rfl) rfl #[.agg #[.int .i64 a0, .int .i64 a1, .int .i64 a2, .slice AA la.length cA], .agg #[.int .i64 a0, .int .i64 a1, .int .i64 a2, .slice AA la.length cA]] (wanted_on rfl rfl rfl (e44.trans (by first | rfl | (simp [*];done)))) rfl rfl (by first | (simp only [List.map_toArray, List.map_cons, List.map_nil, Act.eval, Array.getD_eq_getD_getElem?, Option.getD_some, e45, e46, e44];done) | (simp only [List.map_toArray, List.map_cons, List.map_nil, Act.eval, Array.getD_eq_getD_getElem?, Option.getD_some, e45, e46, e44];rfl)) ?_
   with_reducible refine (impl_ExSame.calls k a0 a1 a2 _ _ la a0 a1 a2 _ _ la true _ ?s1 ?s2 ?s3 ?s4 TE3.out).mono ?_
   (case s1 => exact Kd.C_below (Kd.N_reads' FA.out).2.2 Q_HB)
   (case s2 => exact (Kd.N_reads' FA.out).2.1)
   (case s3 => exact Kd.C_below (Kd.N_reads' FA.out).2.2 Q_HB)
   (case s4 => exact (Kd.N_reads' FA.out).2.1)
   rintro e w3 ⟨rfl, hb⟩
   refine ⟨_, rfl, ?_⟩
   refine hK.out _ _ ⟨p8, (by rw [ha.out];exact putSel_upk 24 hb_ rfl rfl rfl), below_step Q_HB hb, Q_I8⟩
  refine steps_cons ?_ ?_
  ·rintro b a w' ⟨p8, ha, Q_HB, Q_I8⟩ hb_ hon hoff
   refine ⟨_, rfl, fun K hK => ?_⟩
   have e47 : a.tmps[47]? = some (.bool true) := by rw [ha];exact putSel_on (e := (24, 47, .bool true)) 24 rfl rfl (hon 24 (by kernel_rfl)) rfl
   have e44 : a.tmps[44]? = some (.bool false) := by rw [ha];exact putSel_on (e := (21, 44, .bool false)) 21 rfl rfl (hon 21 (by kernel_rfl)) rfl
   replace ha := m0_ ha
   refine value_ (w1 := w') (v := .bool (!true)) (wanted_on rfl rfl rfl (e44.trans (by first | rfl | (simp [*];done)))) rfl ?_ ?_
   ·go_simp
    (try simp only [i64_w])
    try rfl
   refine hK.out _ _ ⟨p8, (by rw [ha.out];exact putSel_upk 25 hb_ rfl rfl rfl), Q_HB, Q_I8⟩
  refine steps_cons ?_ ?_
  ·rintro b a w' ⟨p8, ha, Q_HB, Q_I8⟩ hb_ hon hoff
   refine ⟨_, rfl, fun K hK => ?_⟩
   have e44 : a.tmps[44]? = some (.bool false) := by rw [ha];exact putSel_on (e := (21, 44, .bool false)) 21 rfl rfl (hon 21 (by kernel_rfl)) rfl
   have e48 : a.tmps[48]? = some (.bool (!true)) := by rw [ha];exact putSel_on (e := (25, 48, .bool (!true))) 25 rfl rfl (hon 25 (by kernel_rfl)) rfl
   replace ha := m0_ ha
   refine value_ (w1 := w') (v := .bool (!true)) (by rfl) rfl ?_ ?_
   ·go_simp
    (try simp only [i64_w])
    try rfl
   refine hK.out _ _ ⟨p8, (by rw [ha.out];exact putSel_upk 26 hb_ rfl rfl rfl), Q_HB, Q_I8⟩
  exact steps_nil
 rintro b a v6 hall ⟨p8, ha, Q_HB, Q_I8⟩
 have hb0_ := hall 0 (by kernel_rfl)
 have hb1_ := hall 1 (by kernel_rfl)
 have hb2_ := hall 2 (by kernel_rfl)
 have hb3_ := hall 3 (by kernel_rfl)
 have hb4_ := hall 4 (by kernel_rfl)
 have hb5_ := hall 5 (by kernel_rfl)
 have hb6_ := hall 6 (by kernel_rfl)
 have hb7_ := hall 7 (by kernel_rfl)
 have hb8_ := hall 8 (by kernel_rfl)
 have hb9_ := hall 9 (by kernel_rfl)
 have hb10_ := hall 10 (by kernel_rfl)
 have hb11_ := hall 11 (by kernel_rfl)
 have hb12_ := hall 12 (by kernel_rfl)
 have hb13_ := hall 13 (by kernel_rfl)
 have hb14_ := hall 14 (by kernel_rfl)
 have hb15_ := hall 15 (by kernel_rfl)
 have hb16_ := hall 16 (by kernel_rfl)
 have hb17_ := hall 17 (by kernel_rfl)
 have hb18_ := hall 18 (by kernel_rfl)
 have hb19_ := hall 19 (by kernel_rfl)
 have hb20_ := hall 20 (by kernel_rfl)
 have hb21_ := hall 21 (by kernel_rfl)
 have hb22_ := hall 22 (by kernel_rfl)
 have hb23_ := hall 23 (by kernel_rfl)
 have hb24_ := hall 24 (by kernel_rfl)
 have hb25_ := hall 25 (by kernel_rfl)
 have hb26_ := hall 26 (by kernel_rfl)
 subst ha
 simp only [putSel, hb0_, hb1_, hb2_, hb3_, hb4_, hb5_, hb6_, hb7_, hb8_, hb9_, hb10_, hb11_, hb12_, hb13_, hb14_, hb15_, hb16_, hb17_, hb18_, hb19_, hb20_, hb21_, hb22_, hb23_, hb24_, hb25_, hb26_, if_true, Act.put, List.setIfInBounds_toArray, List.set_cons_zero, List.set_cons_succ]
 replace FA := m0_ (Kd.N_below FA.out Q_HB);replace FB := m0_ (Kd.N_below FB.out Q_HB);replace FS := m0_ (Kd.R_below FS.out Q_HB);replace BK3 := m0_ (blk_below BK3.out Q_HB);replace BK4 := m0_ (blk_below BK4.out Q_HB);replace HB := m0_ (below_step HB.out Q_HB)
 have Zv6 := m0_ (show u6.heap.size ≤ v6.heap.size from Below.size Q_HB)
 clear Q_HB hall Q_I8 hb0_ hb1_ hb2_ hb3_ hb4_ hb5_ hb6_ hb7_ hb8_ hb9_ hb10_ hb11_ hb12_ hb13_ hb14_ hb15_ hb16_ hb17_ hb18_ hb19_ hb20_ hb21_ hb22_ hb23_ hb24_ hb25_ hb26_
 have hz3_0 := (blk_cell BK3.out 0).trans (show _ = some (Value.int .i64 a0) from rfl);have hz3_1 := (blk_cell BK3.out 1).trans (show _ = some (Value.int .i64 a1) from rfl);have hz3_2 := (blk_cell BK3.out 2).trans (show _ = some (Value.int .i64 a2) from rfl);have hz3_3 := (blk_cell BK3.out 3).trans (show _ = some (Value.slice AA la.length cA) from rfl)
 go_wp2_with (first | ((with_reducible refine gate_dst (N := 51) rfl ?_);refine Kd.N_lit k29 (w0 := v6) v6.heap.size 29 ?hg (N' := 51) ?hd (xs := ([⟨a0, a1, a2, la⟩] : List S29)) (inner := [.int .i64 a0, .int .i64 a1, .int .i64 a2, .slice AA la.length cA]) (ok := fun k_ => w.heap.size ≤ k_) (okp := fun k_ => w.heap.size ≤ k_) ?hr ?hp (fun _ hk => hk) (below_size HB.out) (Below.refl _ _) (Nat.le_refl _) (by simp) ?_;(case hd => rfl);(case hg => rfl);(case hr => first | (go_simp;done) | (go_simp;rfl));(case hp => exact (Reps.c4 (k29_mkF _ _ (⟨a0, a1, a2, la⟩ : S29) (Kd.N_reads' FA.out).2.1 (Kd.N_F (Kd.N_mono FA.out (fun k_ hk => hk.1)))) (Reps.none _ _)));intro v_ wlP ho hb hg_ hn_;have hs_ := Kd.N_mono (ok' := fun k_ => w.heap.size ≤ k_ ∧ k_ < wlP.heap.size) (Kd.N_lower (Kd.N_bound ho) (below_size HB.out)) (fun k_ hk => hk);have ZwlP := m0_ (show v6.heap.size ≤ wlP.heap.size from hb.size);replace FA := m0_ (Kd.N_below FA.out hb);replace FB := m0_ (Kd.N_below FB.out hb);replace FS := m0_ (Kd.R_below FS.out hb);replace BK3 := m0_ (blk_below BK3.out hb);replace BK4 := m0_ (blk_below BK4.out hb);replace HB := m0_ (below_step HB.out hb);obtain ⟨AP, cP, e_⟩ := Kd.N_slice hs_;subst e_;have FP := m0_ hs_;clear hs_ ho hb hg_ hn_;clear hz3_0 hz3_1 hz3_2 hz3_3) | ((with_reducible refine gate_dst (N := 7) rfl ?_);refine box_event ?hg (N := 7) ?hd (cs := #[.int .i64 0, .int .i64 0, .int .i64 0, .slice none 0 0]) (t := 29) ?hr ?_;(case hd => rfl);(case hg => rfl);(case hr => first | (go_simp;done) | (go_simp;rfl));intro gb7 hg wb7 hbox hb;have G7 := m0_ (show wlP.heap.size ≤ gb7 from by rw [hg];exact Nat.le_refl _);have L7 := m0_ (blk_lt hbox);have Zwb7 := m0_ (show wlP.heap.size ≤ wb7.heap.size from hb.size);replace FA := m0_ (Kd.N_below FA.out hb);replace FB := m0_ (Kd.N_below FB.out hb);replace FS := m0_ (Kd.R_below FS.out hb);replace FP := m0_ (Kd.N_below FP.out hb);replace BK3 := m0_ (blk_below BK3.out hb);replace BK4 := m0_ (blk_below BK4.out hb);replace HB := m0_ (below_step HB.out hb);have BK7 := m0_ hbox;clear hg hbox hb) | ((with_reducible refine gate_store (t := 29) (p := 7) (v := .tmp 52) rfl ?_);refine store_blk (w0 := w) (base := w.heap.size) (e := 29) (g := gb7) (off := 0) (cur := #[.int .i64 0, .int .i64 0, .int .i64 0, .slice none 0 0]) (cur' := #[.int .i64 7, .int .i64 0, .int .i64 1, .slice AP (List.length ([⟨a0, a1, a2, la⟩] : List S29)) cP]) (u := .agg #[.int .i64 7, .int .i64 0, .int .i64 1, .slice AP (List.length ([⟨a0, a1, a2, la⟩] : List S29)) cP]) (seg := [.int .i64 7, .int .i64 0, .int .i64 1, .slice AP (List.length ([⟨a0, a1, a2, la⟩] : List S29)) cP]) rfl rfl rfl rfl rfl BK7.out rfl ?ht ?h1 (by simp) rfl HB.out (by have z_w1 := Zw1.out;have z_wb3 := Zwb3.out;have z_wb4 := Zwb4.out;have z_ws3 := Zws3.out;have z_ws4 := Zws4.out;have z_w2 := Zw2.out;have z_w3 := Zw3.out;have z_u6 := Zu6.out;have z_v6 := Zv6.out;have z_wlP := ZwlP.out;have z_wb7 := Zwb7.out;have g_3 := G3.out;have l_3 := L3.out;have g_4 := G4.out;have l_4 := L4.out;have g_7 := G7.out;have l_7 := L7.out;have b_ := below_size HB.out;omega) ?_;(case ht => kernel_rfl);(case h1 => intro q hq;simp only [List.mem_cons, List.not_mem_nil, or_false] at hq;rcases hq with rfl | rfl | rfl | rfl <;> rfl);intro ws7 hs_ hk_ hB_;replace BK7 := m0_ (hs_);replace HB := m0_ (hB_);replace FA := m0_ (Kd.N_keep FA.out hk_ (fun k_ h1 => by have z_w1 := Zw1.out;have z_wb3 := Zwb3.out;have z_wb4 := Zwb4.out;have z_ws3 := Zws3.out;have z_ws4 := Zws4.out;have z_w2 := Zw2.out;have z_w3 := Zw3.out;have z_u6 := Zu6.out;have z_v6 := Zv6.out;have z_wlP := ZwlP.out;have z_wb7 := Zwb7.out;have g_3 := G3.out;have l_3 := L3.out;have g_4 := G4.out;have l_4 := L4.out;have g_7 := G7.out;have l_7 := L7.out;omega));replace FB := m0_ (Kd.N_keep FB.out hk_ (fun k_ h1 => by have z_w1 := Zw1.out;have z_wb3 := Zwb3.out;have z_wb4 := Zwb4.out;have z_ws3 := Zws3.out;have z_ws4 := Zws4.out;have z_w2 := Zw2.out;have z_w3 := Zw3.out;have z_u6 := Zu6.out;have z_v6 := Zv6.out;have z_wlP := ZwlP.out;have z_wb7 := Zwb7.out;have g_3 := G3.out;have l_3 := L3.out;have g_4 := G4.out;have l_4 := L4.out;have g_7 := G7.out;have l_7 := L7.out;omega));replace FS := m0_ (Kd.R_keep FS.out hk_ (fun k_ h1 => by have z_w1 := Zw1.out;have z_wb3 := Zwb3.out;have z_wb4 := Zwb4.out;have z_ws3 := Zws3.out;have z_ws4 := Zws4.out;have z_w2 := Zw2.out;have z_w3 := Zw3.out;have z_u6 := Zu6.out;have z_v6 := Zv6.out;have z_wlP := ZwlP.out;have z_wb7 := Zwb7.out;have g_3 := G3.out;have l_3 := L3.out;have g_4 := G4.out;have l_4 := L4.out;have g_7 := G7.out;have l_7 := L7.out;omega));replace FP := m0_ (Kd.N_keep FP.out hk_ (fun k_ h1 => by have z_w1 := Zw1.out;have z_wb3 := Zwb3.out;have z_wb4 := Zwb4.out;have z_ws3 := Zws3.out;have z_ws4 := Zws4.out;have z_w2 := Zw2.out;have z_w3 := Zw3.out;have z_u6 := Zu6.out;have z_v6 := Zv6.out;have z_wlP := ZwlP.out;have z_wb7 := Zwb7.out;have g_3 := G3.out;have l_3 := L3.out;have g_4 := G4.out;have l_4 := L4.out;have g_7 := G7.out;have l_7 := L7.out;omega));replace BK3 := m0_ (blk_keep BK3.out hk_ (by have z_w1 := Zw1.out;have z_wb3 := Zwb3.out;have z_wb4 := Zwb4.out;have z_ws3 := Zws3.out;have z_ws4 := Zws4.out;have z_w2 := Zw2.out;have z_w3 := Zw3.out;have z_u6 := Zu6.out;have z_v6 := Zv6.out;have z_wlP := ZwlP.out;have z_wb7 := Zwb7.out;have g_3 := G3.out;have l_3 := L3.out;have g_4 := G4.out;have l_4 := L4.out;have g_7 := G7.out;have l_7 := L7.out;omega));replace BK4 := m0_ (blk_keep BK4.out hk_ (by have z_w1 := Zw1.out;have z_wb3 := Zwb3.out;have z_wb4 := Zwb4.out;have z_ws3 := Zws3.out;have z_ws4 := Zws4.out;have z_w2 := Zw2.out;have z_w3 := Zw3.out;have z_u6 := Zu6.out;have z_v6 := Zv6.out;have z_wlP := ZwlP.out;have z_wb7 := Zwb7.out;have g_3 := G3.out;have l_3 := L3.out;have g_4 := G4.out;have l_4 := L4.out;have g_7 := G7.out;have l_7 := L7.out;omega));have Zws7 := m0_ (hk_.1);clear hs_ hk_ hB_;have hz3_0 := (blk_cell BK3.out 0).trans (show _ = some (Value.int .i64 a0) from rfl);have hz3_1 := (blk_cell BK3.out 1).trans (show _ = some (Value.int .i64 a1) from rfl);have hz3_2 := (blk_cell BK3.out 2).trans (show _ = some (Value.int .i64 a2) from rfl);have hz3_3 := (blk_cell BK3.out 3).trans (show _ = some (Value.slice AA la.length cA) from rfl);have hz4_0 := (blk_cell BK4.out 0).trans (show _ = some (Value.int .i64 b0) from rfl);have hz4_1 := (blk_cell BK4.out 1).trans (show _ = some (Value.int .i64 b1) from rfl);have hz4_2 := (blk_cell BK4.out 2).trans (show _ = some (Value.int .i64 b2) from rfl);have hz4_3 := (blk_cell BK4.out 3).trans (show _ = some (Value.slice AB lb.length cB) from rfl)) | ((with_reducible refine gate_dst (N := 55) rfl ?_);refine Kd.N_lit k29 (w0 := ws7) ws7.heap.size 29 ?hg (N' := 55) ?hd (xs := ([⟨a0, a1, a2, la⟩, ⟨b0, b1, b2, lb⟩] : List S29)) (inner := [.int .i64 a0, .int .i64 a1, .int .i64 a2, .slice AA la.length cA, .int .i64 b0, .int .i64 b1, .int .i64 b2, .slice AB lb.length cB]) (ok := fun k_ => w.heap.size ≤ k_) (okp := fun k_ => w.heap.size ≤ k_) ?hr ?hp (fun _ hk => hk) (below_size HB.out) (Below.refl _ _) (Nat.le_refl _) (by simp) ?_;(case hd => rfl);(case hg => rfl);(case hr => first | (go_simp;done) | (go_simp;rfl));(case hp => exact (Reps.c4 (k29_mkF _ _ (⟨a0, a1, a2, la⟩ : S29) (Kd.N_reads' FA.out).2.1 (Kd.N_F (Kd.N_mono FA.out (fun k_ hk => hk.1)))) (Reps.c4 (k29_mkF _ _ (⟨b0, b1, b2, lb⟩ : S29) (Kd.N_reads' FB.out).2.1 (Kd.N_F (Kd.N_mono FB.out (fun k_ hk => hk.1)))) (Reps.none _ _))));intro v_ wlQ ho hb hg_ hn_;have hs_ := Kd.N_mono (ok' := fun k_ => w.heap.size ≤ k_ ∧ k_ < wlQ.heap.size) (Kd.N_lower (Kd.N_bound ho) (below_size HB.out)) (fun k_ hk => hk);have ZwlQ := m0_ (show ws7.heap.size ≤ wlQ.heap.size from hb.size);replace FA := m0_ (Kd.N_below FA.out hb);replace FB := m0_ (Kd.N_below FB.out hb);replace FS := m0_ (Kd.R_below FS.out hb);replace FP := m0_ (Kd.N_below FP.out hb);replace BK3 := m0_ (blk_below BK3.out hb);replace BK4 := m0_ (blk_below BK4.out hb);replace BK7 := m0_ (blk_below BK7.out hb);replace HB := m0_ (below_step HB.out hb);obtain ⟨AQ, cQ, e_⟩ := Kd.N_slice hs_;subst e_;have FQ := m0_ hs_;clear hs_ ho hb hg_ hn_;clear hz3_0 hz3_1 hz3_2 hz3_3 hz4_0 hz4_1 hz4_2 hz4_3) | ((with_reducible refine gate_dst (N := 8) rfl ?_);refine box_event ?hg (N := 8) ?hd (cs := #[.int .i64 0, .int .i64 0, .int .i64 0, .slice none 0 0]) (t := 29) ?hr ?_;(case hd => rfl);(case hg => rfl);(case hr => first | (go_simp;done) | (go_simp;rfl));intro gb8 hg wb8 hbox hb;have G8 := m0_ (show wlQ.heap.size ≤ gb8 from by rw [hg];exact Nat.le_refl _);have L8 := m0_ (blk_lt hbox);have Zwb8 := m0_ (show wlQ.heap.size ≤ wb8.heap.size from hb.size);replace FA := m0_ (Kd.N_below FA.out hb);replace FB := m0_ (Kd.N_below FB.out hb);replace FS := m0_ (Kd.R_below FS.out hb);replace FP := m0_ (Kd.N_below FP.out hb);replace FQ := m0_ (Kd.N_below FQ.out hb);replace BK3 := m0_ (blk_below BK3.out hb);replace BK4 := m0_ (blk_below BK4.out hb);replace BK7 := m0_ (blk_below BK7.out hb);replace HB := m0_ (below_step HB.out hb);have BK8 := m0_ hbox;clear hg hbox hb) | ((with_reducible refine gate_store (t := 29) (p := 8) (v := .tmp 56) rfl ?_);refine store_blk (w0 := w) (base := w.heap.size) (e := 29) (g := gb8) (off := 0) (cur := #[.int .i64 0, .int .i64 0, .int .i64 0, .slice none 0 0]) (cur' := #[.int .i64 4, .int .i64 0, .int .i64 0, .slice AQ (List.length ([⟨a0, a1, a2, la⟩, ⟨b0, b1, b2, lb⟩] : List S29)) cQ]) (u := .agg #[.int .i64 4, .int .i64 0, .int .i64 0, .slice AQ (List.length ([⟨a0, a1, a2, la⟩, ⟨b0, b1, b2, lb⟩] : List S29)) cQ]) (seg := [.int .i64 4, .int .i64 0, .int .i64 0, .slice AQ (List.length ([⟨a0, a1, a2, la⟩, ⟨b0, b1, b2, lb⟩] : List S29)) cQ]) rfl rfl rfl rfl rfl BK8.out rfl ?ht ?h1 (by simp) rfl HB.out (by have z_w1 := Zw1.out;have z_wb3 := Zwb3.out;have z_wb4 := Zwb4.out;have z_ws3 := Zws3.out;have z_ws4 := Zws4.out;have z_w2 := Zw2.out;have z_w3 := Zw3.out;have z_u6 := Zu6.out;have z_v6 := Zv6.out;have z_wlP := ZwlP.out;have z_wb7 := Zwb7.out;have z_ws7 := Zws7.out;have z_wlQ := ZwlQ.out;have z_wb8 := Zwb8.out;have g_3 := G3.out;have l_3 := L3.out;have g_4 := G4.out;have l_4 := L4.out;have g_7 := G7.out;have l_7 := L7.out;have g_8 := G8.out;have l_8 := L8.out;have b_ := below_size HB.out;omega) ?_;(case ht => kernel_rfl);(case h1 => intro q hq;simp only [List.mem_cons, List.not_mem_nil, or_false] at hq;rcases hq with rfl | rfl | rfl | rfl <;> rfl);intro ws8 hs_ hk_ hB_;replace BK8 := m0_ (hs_);replace HB := m0_ (hB_);replace FA := m0_ (Kd.N_keep FA.out hk_ (fun k_ h1 => by have z_w1 := Zw1.out;have z_wb3 := Zwb3.out;have z_wb4 := Zwb4.out;have z_ws3 := Zws3.out;have z_ws4 := Zws4.out;have z_w2 := Zw2.out;have z_w3 := Zw3.out;have z_u6 := Zu6.out;have z_v6 := Zv6.out;have z_wlP := ZwlP.out;have z_wb7 := Zwb7.out;have z_ws7 := Zws7.out;have z_wlQ := ZwlQ.out;have z_wb8 := Zwb8.out;have g_3 := G3.out;have l_3 := L3.out;have g_4 := G4.out;have l_4 := L4.out;have g_7 := G7.out;have l_7 := L7.out;have g_8 := G8.out;have l_8 := L8.out;omega));replace FB := m0_ (Kd.N_keep FB.out hk_ (fun k_ h1 => by have z_w1 := Zw1.out;have z_wb3 := Zwb3.out;have z_wb4 := Zwb4.out;have z_ws3 := Zws3.out;have z_ws4 := Zws4.out;have z_w2 := Zw2.out;have z_w3 := Zw3.out;have z_u6 := Zu6.out;have z_v6 := Zv6.out;have z_wlP := ZwlP.out;have z_wb7 := Zwb7.out;have z_ws7 := Zws7.out;have z_wlQ := ZwlQ.out;have z_wb8 := Zwb8.out;have g_3 := G3.out;have l_3 := L3.out;have g_4 := G4.out;have l_4 := L4.out;have g_7 := G7.out;have l_7 := L7.out;have g_8 := G8.out;have l_8 := L8.out;omega));replace FS := m0_ (Kd.R_keep FS.out hk_ (fun k_ h1 => by have z_w1 := Zw1.out;have z_wb3 := Zwb3.out;have z_wb4 := Zwb4.out;have z_ws3 := Zws3.out;have z_ws4 := Zws4.out;have z_w2 := Zw2.out;have z_w3 := Zw3.out;have z_u6 := Zu6.out;have z_v6 := Zv6.out;have z_wlP := ZwlP.out;have z_wb7 := Zwb7.out;have z_ws7 := Zws7.out;have z_wlQ := ZwlQ.out;have z_wb8 := Zwb8.out;have g_3 := G3.out;have l_3 := L3.out;have g_4 := G4.out;have l_4 := L4.out;have g_7 := G7.out;have l_7 := L7.out;have g_8 := G8.out;have l_8 := L8.out;omega));replace FP := m0_ (Kd.N_keep FP.out hk_ (fun k_ h1 => by have z_w1 := Zw1.out;have z_wb3 := Zwb3.out;have z_wb4 := Zwb4.out;have z_ws3 := Zws3.out;have z_ws4 := Zws4.out;have z_w2 := Zw2.out;have z_w3 := Zw3.out;have z_u6 := Zu6.out;have z_v6 := Zv6.out;have z_wlP := ZwlP.out;have z_wb7 := Zwb7.out;have z_ws7 := Zws7.out;have z_wlQ := ZwlQ.out;have z_wb8 := Zwb8.out;have g_3 := G3.out;have l_3 := L3.out;have g_4 := G4.out;have l_4 := L4.out;have g_7 := G7.out;have l_7 := L7.out;have g_8 := G8.out;have l_8 := L8.out;omega));replace FQ := m0_ (Kd.N_keep FQ.out hk_ (fun k_ h1 => by have z_w1 := Zw1.out;have z_wb3 := Zwb3.out;have z_wb4 := Zwb4.out;have z_ws3 := Zws3.out;have z_ws4 := Zws4.out;have z_w2 := Zw2.out;have z_w3 := Zw3.out;have z_u6 := Zu6.out;have z_v6 := Zv6.out;have z_wlP := ZwlP.out;have z_wb7 := Zwb7.out;have z_ws7 := Zws7.out;have z_wlQ := ZwlQ.out;have z_wb8 := Zwb8.out;have g_3 := G3.out;have l_3 := L3.out;have g_4 := G4.out;have l_4 := L4.out;have g_7 := G7.out;have l_7 := L7.out;have g_8 := G8.out;have l_8 := L8.out;omega));replace BK3 := m0_ (blk_keep BK3.out hk_ (by have z_w1 := Zw1.out;have z_wb3 := Zwb3.out;have z_wb4 := Zwb4.out;have z_ws3 := Zws3.out;have z_ws4 := Zws4.out;have z_w2 := Zw2.out;have z_w3 := Zw3.out;have z_u6 := Zu6.out;have z_v6 := Zv6.out;have z_wlP := ZwlP.out;have z_wb7 := Zwb7.out;have z_ws7 := Zws7.out;have z_wlQ := ZwlQ.out;have z_wb8 := Zwb8.out;have g_3 := G3.out;have l_3 := L3.out;have g_4 := G4.out;have l_4 := L4.out;have g_7 := G7.out;have l_7 := L7.out;have g_8 := G8.out;have l_8 := L8.out;omega));replace BK4 := m0_ (blk_keep BK4.out hk_ (by have z_w1 := Zw1.out;have z_wb3 := Zwb3.out;have z_wb4 := Zwb4.out;have z_ws3 := Zws3.out;have z_ws4 := Zws4.out;have z_w2 := Zw2.out;have z_w3 := Zw3.out;have z_u6 := Zu6.out;have z_v6 := Zv6.out;have z_wlP := ZwlP.out;have z_wb7 := Zwb7.out;have z_ws7 := Zws7.out;have z_wlQ := ZwlQ.out;have z_wb8 := Zwb8.out;have g_3 := G3.out;have l_3 := L3.out;have g_4 := G4.out;have l_4 := L4.out;have g_7 := G7.out;have l_7 := L7.out;have g_8 := G8.out;have l_8 := L8.out;omega));replace BK7 := m0_ (blk_keep BK7.out hk_ (by have z_w1 := Zw1.out;have z_wb3 := Zwb3.out;have z_wb4 := Zwb4.out;have z_ws3 := Zws3.out;have z_ws4 := Zws4.out;have z_w2 := Zw2.out;have z_w3 := Zw3.out;have z_u6 := Zu6.out;have z_v6 := Zv6.out;have z_wlP := ZwlP.out;have z_wb7 := Zwb7.out;have z_ws7 := Zws7.out;have z_wlQ := ZwlQ.out;have z_wb8 := Zwb8.out;have g_3 := G3.out;have l_3 := L3.out;have g_4 := G4.out;have l_4 := L4.out;have g_7 := G7.out;have l_7 := L7.out;have g_8 := G8.out;have l_8 := L8.out;omega));have Zws8 := m0_ (hk_.1);clear hs_ hk_ hB_;have hz7_0 := (blk_cell BK7.out 0).trans (show _ = some (Value.int .i64 7) from rfl);have hz7_1 := (blk_cell BK7.out 1).trans (show _ = some (Value.int .i64 0) from rfl);have hz7_2 := (blk_cell BK7.out 2).trans (show _ = some (Value.int .i64 1) from rfl);have hz7_3 := (blk_cell BK7.out 3).trans (show _ = some (Value.slice AP (List.length ([⟨a0, a1, a2, la⟩] : List S29)) cP) from rfl)) | (go_at_call 14;fail))
 clear hz7_0 hz7_1 hz7_2 hz7_3
 refine (impl_ExOk.calls k 7 0 1 _ _ ([⟨a0, a1, a2, la⟩] : List S29) op _ ?s1 ?s2 TOP.out).mono ?_
 (case s1 => exact (Kd.N_reads' FP.out).2.2)
 (case s2 => exact (Kd.N_reads' FP.out).2.1)
 rintro e w4 ⟨rfl, hb⟩
 have Zw4 := m0_ (show ws8.heap.size ≤ w4.heap.size from hb.size)
 replace FA := m0_ (Kd.N_below FA.out hb);replace FB := m0_ (Kd.N_below FB.out hb);replace FS := m0_ (Kd.R_below FS.out hb);replace FP := m0_ (Kd.N_below FP.out hb);replace FQ := m0_ (Kd.N_below FQ.out hb);replace BK3 := m0_ (blk_below BK3.out hb);replace BK4 := m0_ (blk_below BK4.out hb);replace BK7 := m0_ (blk_below BK7.out hb);replace BK8 := m0_ (blk_below BK8.out hb);replace HB := m0_ (below_step HB.out hb)
 clear hb
 cases op with
 | false =>
  have hz8_0 := (blk_cell BK8.out 0).trans (show _ = some (Value.int .i64 4) from rfl);have hz8_1 := (blk_cell BK8.out 1).trans (show _ = some (Value.int .i64 0) from rfl);have hz8_2 := (blk_cell BK8.out 2).trans (show _ = some (Value.int .i64 0) from rfl);have hz8_3 := (blk_cell BK8.out 3).trans (show _ = some (Value.slice AQ (List.length ([⟨a0, a1, a2, la⟩, ⟨b0, b1, b2, lb⟩] : List S29)) cQ) from rfl)
  go_wp2_with (go_at_call 14;fail)
  clear hz8_0 hz8_1 hz8_2 hz8_3
  refine (impl_ExOk.calls k 4 0 0 _ _ ([⟨a0, a1, a2, la⟩, ⟨b0, b1, b2, lb⟩] : List S29) oq _ ?s1 ?s2 TOQ.out).mono ?_
  (case s1 => exact (Kd.N_reads' FQ.out).2.2)
  (case s2 => exact (Kd.N_reads' FQ.out).2.1)
  rintro e w5 ⟨rfl, hb⟩
  have Zw5 := m0_ (show w4.heap.size ≤ w5.heap.size from hb.size)
  replace FA := m0_ (Kd.N_below FA.out hb);replace FB := m0_ (Kd.N_below FB.out hb);replace FS := m0_ (Kd.R_below FS.out hb);replace FP := m0_ (Kd.N_below FP.out hb);replace FQ := m0_ (Kd.N_below FQ.out hb);replace BK3 := m0_ (blk_below BK3.out hb);replace BK4 := m0_ (blk_below BK4.out hb);replace BK7 := m0_ (blk_below BK7.out hb);replace BK8 := m0_ (blk_below BK8.out hb);replace HB := m0_ (below_step HB.out hb)
  clear hb
  cases oq with
  | false =>
   have hz3_0 := (blk_cell BK3.out 0).trans (show _ = some (Value.int .i64 a0) from rfl);have hz3_1 := (blk_cell BK3.out 1).trans (show _ = some (Value.int .i64 a1) from rfl);have hz3_2 := (blk_cell BK3.out 2).trans (show _ = some (Value.int .i64 a2) from rfl);have hz3_3 := (blk_cell BK3.out 3).trans (show _ = some (Value.slice AA la.length cA) from rfl)
   go_wp2_with (go_at_call 13;fail)
   clear hz3_0 hz3_1 hz3_2 hz3_3
   refine (spec_ExOk.calls k a0 a1 a2 _ _ la oa _ ?s1 ?s2 TOA.out).mono ?_
   (case s1 => exact (Kd.N_reads' FA.out).2.2)
   (case s2 => exact (Kd.N_reads' FA.out).2.1)
   rintro e w6 ⟨rfl, hb⟩
   have Zw6 := m0_ (show w5.heap.size ≤ w6.heap.size from hb.size)
   replace FA := m0_ (Kd.N_below FA.out hb);replace FB := m0_ (Kd.N_below FB.out hb);replace FS := m0_ (Kd.R_below FS.out hb);replace FP := m0_ (Kd.N_below FP.out hb);replace FQ := m0_ (Kd.N_below FQ.out hb);replace BK3 := m0_ (blk_below BK3.out hb);replace BK4 := m0_ (blk_below BK4.out hb);replace BK7 := m0_ (blk_below BK7.out hb);replace BK8 := m0_ (blk_below BK8.out hb);replace HB := m0_ (below_step HB.out hb)
   clear hb
   have hl1_ := HL1.out
   have hz3_0 := (blk_cell BK3.out 0).trans (show _ = some (Value.int .i64 a0) from rfl);have hz3_1 := (blk_cell BK3.out 1).trans (show _ = some (Value.int .i64 a1) from rfl);have hz3_2 := (blk_cell BK3.out 2).trans (show _ = some (Value.int .i64 a2) from rfl);have hz3_3 := (blk_cell BK3.out 3).trans (show _ = some (Value.slice AA la.length cA) from rfl)
   go_wp2_with (go_at_call 13;fail)
   clear hz3_0 hz3_1 hz3_2 hz3_3
   refine (spec_ExOk.calls k a0 a1 a2 _ _ la oa _ ?s1 ?s2 TOA.out).mono ?_
   (case s1 => exact (Kd.N_reads' FA.out).2.2)
   (case s2 => exact (Kd.N_reads' FA.out).2.1)
   rintro e w7 ⟨rfl, hb⟩
   have Zw7 := m0_ (show w6.heap.size ≤ w7.heap.size from hb.size)
   replace FA := m0_ (Kd.N_below FA.out hb);replace FB := m0_ (Kd.N_below FB.out hb);replace FS := m0_ (Kd.R_below FS.out hb);replace FP := m0_ (Kd.N_below FP.out hb);replace FQ := m0_ (Kd.N_below FQ.out hb);replace BK3 := m0_ (blk_below BK3.out hb);replace BK4 := m0_ (blk_below BK4.out hb);replace BK7 := m0_ (blk_below BK7.out hb);replace BK8 := m0_ (blk_below BK8.out hb);replace HB := m0_ (below_step HB.out hb)
   clear hb
   go_wp2
   go_ret
   exact ⟨congrArg (fun b_ : Bool => Ending.returned (.bool b_)) HL2.out, HB.out⟩
  | true =>
   obtain ⟨hq1_, hq2_, hq3_, hq4_⟩ := HQ.out rfl
   have HQ1 := m0_ hq1_
   have HQ2 := m0_ hq2_
   have HQ3 := m0_ hq3_
   have HQ4 := m0_ hq4_
   clear hq1_ hq2_ hq3_ hq4_
   have hz4_0 := (blk_cell BK4.out 0).trans (show _ = some (Value.int .i64 b0) from rfl);have hz4_1 := (blk_cell BK4.out 1).trans (show _ = some (Value.int .i64 b1) from rfl);have hz4_2 := (blk_cell BK4.out 2).trans (show _ = some (Value.int .i64 b2) from rfl);have hz4_3 := (blk_cell BK4.out 3).trans (show _ = some (Value.slice AB lb.length cB) from rfl)
   go_wp2_with (go_at_call 18;fail)
   clear hz4_0 hz4_1 hz4_2 hz4_3
   refine (impl_ExSyms.calls k b0 b1 b2 _ _ lb t _ ?s1 ?s2 TT.out).mono ?_
   (case s1 => exact (Kd.N_reads' FB.out).2.2)
   (case s2 => exact (Kd.N_reads' FB.out).2.1)
   rintro e w6 ⟨v_, rfl, hs, hb⟩
   have Zw6 := m0_ (show w5.heap.size ≤ w6.heap.size from hb.size)
   have hs_ := Kd.R_mono (ok' := fun k_ => w5.heap.size ≤ k_ ∧ k_ < w6.heap.size) (Kd.R_lower (Kd.R_bound hs) (below_size HB.out)) (fun k_ hk => ⟨hk.2.1, hk.2.2.1⟩)
   obtain ⟨AT, cT, rfl⟩ := Kd.R_slice hs_
   have NT_ := m0_ hs_
   clear hs_ hs
   replace FA := m0_ (Kd.N_below FA.out hb);replace FB := m0_ (Kd.N_below FB.out hb);replace FS := m0_ (Kd.R_below FS.out hb);replace FP := m0_ (Kd.N_below FP.out hb);replace FQ := m0_ (Kd.N_below FQ.out hb);replace BK3 := m0_ (blk_below BK3.out hb);replace BK4 := m0_ (blk_below BK4.out hb);replace BK7 := m0_ (blk_below BK7.out hb);replace BK8 := m0_ (blk_below BK8.out hb);replace HB := m0_ (below_step HB.out hb)
   clear hb
   have FT := NT_;clear NT_
   have hz8_0 := (blk_cell BK8.out 0).trans (show _ = some (Value.int .i64 4) from rfl);have hz8_1 := (blk_cell BK8.out 1).trans (show _ = some (Value.int .i64 0) from rfl);have hz8_2 := (blk_cell BK8.out 2).trans (show _ = some (Value.int .i64 0) from rfl);have hz8_3 := (blk_cell BK8.out 3).trans (show _ = some (Value.slice AQ (List.length ([⟨a0, a1, a2, la⟩, ⟨b0, b1, b2, lb⟩] : List S29)) cQ) from rfl)
   go_wp2_with (go_at_call 18;fail)
   clear hz8_0 hz8_1 hz8_2 hz8_3
   refine (impl_ExSyms.calls k 4 0 0 _ _ ([⟨a0, a1, a2, la⟩, ⟨b0, b1, b2, lb⟩] : List S29) u _ ?s1 ?s2 TU.out).mono ?_
   (case s1 => exact (Kd.N_reads' FQ.out).2.2)
   (case s2 => exact (Kd.N_reads' FQ.out).2.1)
   rintro e w7 ⟨v_, rfl, hs, hb⟩
   have Zw7 := m0_ (show w6.heap.size ≤ w7.heap.size from hb.size)
   have hs_ := Kd.R_mono (ok' := fun k_ => w6.heap.size ≤ k_ ∧ k_ < w7.heap.size) (Kd.R_lower (Kd.R_bound hs) (below_size HB.out)) (fun k_ hk => ⟨hk.2.1, hk.2.2.1⟩)
   obtain ⟨AU, cU, rfl⟩ := Kd.R_slice hs_
   have NU_ := m0_ hs_
   clear hs_ hs
   replace FA := m0_ (Kd.N_below FA.out hb);replace FB := m0_ (Kd.N_below FB.out hb);replace FS := m0_ (Kd.R_below FS.out hb);replace FP := m0_ (Kd.N_below FP.out hb);replace FQ := m0_ (Kd.N_below FQ.out hb);replace FT := m0_ (Kd.R_below FT.out hb);replace BK3 := m0_ (blk_below BK3.out hb);replace BK4 := m0_ (blk_below BK4.out hb);replace BK7 := m0_ (blk_below BK7.out hb);replace BK8 := m0_ (blk_below BK8.out hb);replace HB := m0_ (below_step HB.out hb)
   clear hb
   have FU := NU_;clear NU_
   go_upto_region 15 with (fail)
   replace FA := m0_ (Kd.N_drew FA.out);replace FB := m0_ (Kd.N_drew FB.out);replace FS := m0_ (Kd.R_drew FS.out);replace FP := m0_ (Kd.N_drew FP.out);replace FQ := m0_ (Kd.N_drew FQ.out);replace FT := m0_ (Kd.R_drew FT.out);replace FU := m0_ (Kd.R_drew FU.out);replace BK3 := m0_ (blk_drew BK3.out);replace BK4 := m0_ (blk_drew BK4.out);replace BK7 := m0_ (blk_drew BK7.out);replace BK8 := m0_ (blk_drew BK8.out);replace HB := m0_ (below_drew1 HB.out)
   -- region 15
   refine start_ (n := 32) (S := fun w' => True) (ds := []) #[false, false, false, false, false, false, false, false, false, false, false, false, false, false, false, false, false, false, false, false, false, false, false, false, false, false, false, false, false, false, false, false] (by kernel_rfl) rfl rfl trivial (fun hHeld => ?_)
   refine with_tabW laws_FnExMany.tab15 laws_FnExMany.bits15 (fun HT_ HW_ => ?_)
   generalize hWd : w7.drew = u15 at HB FA FB FS FP FQ FT FU BK3 BK4 BK7 BK8 ⊢
   have Zu15 := m0_ (show w7.heap.size ≤ u15.heap.size from by rw [← hWd];exact Nat.le_refl _)
   clear hWd
   refine inv_at [0, 1, 2, 3, 4, 5, 6, 7, 8, 9, 10, 11, 12, 13, 14, 15, 16, 17, 18, 19, 20, 21, 22, 23, 24, 25, 26, 27, 28, 29, 30, 31] (fun a0_ b a w' => a = putSel a0_ b [(0, 80, .agg #[.int .i64 4, .int .i64 0, .int .i64 0, .slice AQ (List.length ([⟨a0, a1, a2, la⟩, ⟨b0, b1, b2, lb⟩] : List S29)) cQ]), (1, 81, .int .i64 mq), (2, 82, .int .i64 n), (3, 83, .agg #[.int .i64 b0, .int .i64 b1, .int .i64 b2, .slice AB lb.length cB]), (4, 84, .int .i64 mb), (5, 85, .int .i64 (wrap64 (n + mb))), (6, 86, .int .i64 (wrap64 (wrap64 (n + mb) + 1))), (7, 87, .bool false), (8, 88, .bool false), (9, 89, .slice AU u.length cU), (10, 90, .int .i64 (u.length : Int)), (11, 91, .slice AS s.length cS), (12, 92, .int .i64 (s.length : Int)), (13, 93, .bool false), (14, 94, .bool false), (15, 95, .bool false), (16, 96, .slice AU u.length cU), (17, 97, .int .i64 (u.length : Int)), (18, 98, .slice AT t.length cT), (19, 99, .int .i64 (t.length : Int)), (20, 100, .bool false), (21, 101, .bool false), (22, 102, .bool false), (23, 103, .slice AU u.length cU), (24, 104, .int .i64 (u.length : Int)), (25, 105, .slice AS s.length cS), (26, 106, .int .i64 (s.length : Int)), (27, 107, .slice AT t.length cT), (28, 108, .int .i64 (t.length : Int)), (29, 109, .int .i64 (wrap64 ((s.length : Int) + (t.length : Int)))), (30, 110, .bool false), (31, 111, .bool false)] ∧ Below u15.heap.size u15 w') HT_.out HW_.out (by kernel_rfl) (by kernel_rfl) ?_ ?_ ?_
   ·exact ⟨by simp only [putSel, Bool.false_eq_true, if_false], Below.refl _ _⟩
   ·skip
    refine steps_cons ?_ ?_
    ·rintro b a w' ⟨ha, Q_HB⟩ hb_ hon hoff
     refine ⟨_, rfl, fun K hK => ?_⟩
     have e8 : a.tmps[8]? = some (.pointer (some ⟨gb8, 0, none⟩)) := by rw [ha];exact (putSel_off rfl).trans rfl
     replace ha := m0_ ha
     have hc0_ : w'.cell? ⟨gb8, 0, none⟩ = some (.int .i64 4) := (blk_cell (blk_below BK8.out Q_HB) 0).trans rfl
     have hc1_ : w'.cell? ⟨gb8, 1, none⟩ = some (.int .i64 0) := (blk_cell (blk_below BK8.out Q_HB) 1).trans rfl
     have hc2_ : w'.cell? ⟨gb8, 2, none⟩ = some (.int .i64 0) := (blk_cell (blk_below BK8.out Q_HB) 2).trans rfl
     have hc3_ : w'.cell? ⟨gb8, 3, none⟩ = some (.slice AQ (List.length ([⟨a0, a1, a2, la⟩, ⟨b0, b1, b2, lb⟩] : List S29)) cQ) := (blk_cell (blk_below BK8.out Q_HB) 3).trans rfl
     refine value_ (w1 := w') (v := .agg #[.int .i64 4, .int .i64 0, .int .i64 0, .slice AQ (List.length ([⟨a0, a1, a2, la⟩, ⟨b0, b1, b2, lb⟩] : List S29)) cQ]) (by rfl) rfl ?_ ?_
     ·go_simp
      (try simp only [i64_w])
      try rfl
     refine hK.out _ _ ⟨(by rw [ha.out];exact putSel_upk 0 hb_ rfl rfl rfl), Q_HB⟩
    refine steps_cons ?_ ?_
    ·rintro b a w' ⟨ha, Q_HB⟩ hb_ hon hoff
     refine ⟨_, rfl, fun K hK => ?_⟩
     have e80 : a.tmps[80]? = some (.agg #[.int .i64 4, .int .i64 0, .int .i64 0, .slice AQ (List.length ([⟨a0, a1, a2, la⟩, ⟨b0, b1, b2, lb⟩] : List S29)) cQ]) := by rw [ha];exact putSel_on (e := (0, 80, .agg #[.int .i64 4, .int .i64 0, .int .i64 0, .slice AQ (List.length ([⟨a0, a1, a2, la⟩, ⟨b0, b1, b2, lb⟩] : List S29)) cQ])) 0 rfl rfl (hon 0 (by kernel_rfl)) rfl
     replace ha := m0_ ha
     refine goes_ Try.func16 (by kernel_rfl) rfl #[.agg #[.int .i64 4, .int .i64 0, .int .i64 0, .slice AQ (List.length ([⟨a0, a1, a2, la⟩, ⟨b0, b1, b2, lb⟩] : List S29)) cQ]] (by rfl) rfl rfl (by first | (simp only [List.map_toArray, List.map_cons, List.map_nil, Act.eval, Array.getD_eq_getD_getElem?, Option.getD_some, e80];done) | (simp only [List.map_toArray, List.map_cons, List.map_nil, Act.eval, Array.getD_eq_getD_getElem?, Option.getD_some, e80];rfl)) ?_
     with_reducible refine (impl_ExMany.calls k 4 0 0 _ _ ([⟨a0, a1, a2, la⟩, ⟨b0, b1, b2, lb⟩] : List S29) mq _ ?s1 ?s2 TMQ.out).mono ?_
     (case s1 => exact Kd.C_below (Kd.N_reads' FQ.out).2.2 Q_HB)
     (case s2 => exact (Kd.N_reads' FQ.out).2.1)
     rintro e w3 ⟨rfl, hb⟩
     refine ⟨_, rfl, ?_⟩
     refine hK.out _ _ ⟨(by rw [ha.out];exact putSel_upk 1 hb_ rfl rfl rfl), below_step Q_HB hb⟩
    refine steps_cons ?_ ?_
    ·rintro b a w' ⟨ha, Q_HB⟩ hb_ hon hoff
     refine ⟨_, rfl, fun K hK => ?_⟩
     have e5 : a.tmps[5]? = some (.int .i64 n) := by rw [ha];exact (putSel_off rfl).trans rfl
     replace ha := m0_ ha
     refine value_ (w1 := w') (v := .int .i64 n) (by rfl) rfl ?_ ?_
     ·go_simp
      (try simp only [i64_w])
      try rfl
     refine hK.out _ _ ⟨(by rw [ha.out];exact putSel_upk 2 hb_ rfl rfl rfl), Q_HB⟩
    refine steps_cons ?_ ?_
    ·rintro b a w' ⟨ha, Q_HB⟩ hb_ hon hoff
     refine ⟨_, rfl, fun K hK => ?_⟩
     have e4 : a.tmps[4]? = some (.pointer (some ⟨gb4, 0, none⟩)) := by rw [ha];exact (putSel_off rfl).trans rfl
     replace ha := m0_ ha
     have hc0_ : w'.cell? ⟨gb4, 0, none⟩ = some (.int .i64 b0) := (blk_cell (blk_below BK4.out Q_HB) 0).trans rfl
     have hc1_ : w'.cell? ⟨gb4, 1, none⟩ = some (.int .i64 b1) := (blk_cell (blk_below BK4.out Q_HB) 1).trans rfl
     have hc2_ : w'.cell? ⟨gb4, 2, none⟩ = some (.int .i64 b2) := (blk_cell (blk_below BK4.out Q_HB) 2).trans rfl
     have hc3_ : w'.cell? ⟨gb4, 3, none⟩ = some (.slice AB lb.length cB) := (blk_cell (blk_below BK4.out Q_HB) 3).trans rfl
     refine value_ (w1 := w') (v := .agg #[.int .i64 b0, .int .i64 b1, .int .i64 b2, .slice AB lb.length cB]) (by rfl) rfl ?_ ?_
     ·go_simp
      (try simp only [i64_w])
      try rfl
     refine hK.out _ _ ⟨(by rw [ha.out];exact putSel_upk 3 hb_ rfl rfl rfl), Q_HB⟩
    refine steps_cons ?_ ?_
    ·rintro b a w' ⟨ha, Q_HB⟩ hb_ hon hoff
     refine ⟨_, rfl, fun K hK => ?_⟩
     have e83 : a.tmps[83]? = some (.agg #[.int .i64 b0, .int .i64 b1, .int .i64 b2, .slice AB lb.length cB]) := by rw [ha];exact putSel_on (e := (3, 83, .agg #[.int .i64 b0, .int .i64 b1, .int .i64 b2, .slice AB lb.length cB])) 3 rfl rfl (hon 3 (by kernel_rfl)) rfl
     replace ha := m0_ ha
     refine goes_ Try.func16 (by kernel_rfl) rfl #[.agg #[.int .i64 b0, .int .i64 b1, .int .i64 b2, .slice AB lb.length cB]] (by rfl) rfl rfl (by first | (simp only [List.map_toArray, List.map_cons, List.map_nil, Act.eval, Array.getD_eq_getD_getElem?, Option.getD_some, e83];done) | (simp only [List.map_toArray, List.map_cons, List.map_nil, Act.eval, Array.getD_eq_getD_getElem?, Option.getD_some, e83];rfl)) ?_
     with_reducible refine (impl_ExMany.calls k b0 b1 b2 _ _ lb mb _ ?s1 ?s2 TMB.out).mono ?_
     (case s1 => exact Kd.C_below (Kd.N_reads' FB.out).2.2 Q_HB)
     (case s2 => exact (Kd.N_reads' FB.out).2.1)
     rintro e w3 ⟨rfl, hb⟩
     refine ⟨_, rfl, ?_⟩
     refine hK.out _ _ ⟨(by rw [ha.out];exact putSel_upk 4 hb_ rfl rfl rfl), below_step Q_HB hb⟩
    refine steps_cons ?_ ?_
    ·rintro b a w' ⟨ha, Q_HB⟩ hb_ hon hoff
     refine ⟨_, rfl, fun K hK => ?_⟩
     have e82 : a.tmps[82]? = some (.int .i64 n) := by rw [ha];exact putSel_on (e := (2, 82, .int .i64 n)) 2 rfl rfl (hon 2 (by kernel_rfl)) rfl
     have e84 : a.tmps[84]? = some (.int .i64 mb) := by rw [ha];exact putSel_on (e := (4, 84, .int .i64 mb)) 4 rfl rfl (hon 4 (by kernel_rfl)) rfl
     replace ha := m0_ ha
     refine value_ (w1 := w') (v := .int .i64 (wrap64 (n + mb))) (by rfl) rfl ?_ ?_
     ·go_simp
      (try simp only [i64_w])
      try rfl
     refine hK.out _ _ ⟨(by rw [ha.out];exact putSel_upk 5 hb_ rfl rfl rfl), Q_HB⟩
    refine steps_cons ?_ ?_
    ·rintro b a w' ⟨ha, Q_HB⟩ hb_ hon hoff
     refine ⟨_, rfl, fun K hK => ?_⟩
     have e85 : a.tmps[85]? = some (.int .i64 (wrap64 (n + mb))) := by rw [ha];exact putSel_on (e := (5, 85, .int .i64 (wrap64 (n + mb)))) 5 rfl rfl (hon 5 (by kernel_rfl)) rfl
     replace ha := m0_ ha
     refine value_ (w1 := w') (v := .int .i64 (wrap64 (wrap64 (n + mb) + 1))) (by rfl) rfl ?_ ?_
     ·go_simp
      (try simp only [i64_w])
      try rfl
     refine hK.out _ _ ⟨(by rw [ha.out];exact putSel_upk 6 hb_ rfl rfl rfl), Q_HB⟩
    refine steps_cons ?_ ?_
    ·rintro b a w' ⟨ha, Q_HB⟩ hb_ hon hoff
     refine ⟨_, rfl, fun K hK => ?_⟩
     have e81 : a.tmps[81]? = some (.int .i64 mq) := by rw [ha];exact putSel_on (e := (1, 81, .int .i64 mq)) 1 rfl rfl (hon 1 (by kernel_rfl)) rfl
     have e86 : a.tmps[86]? = some (.int .i64 (wrap64 (wrap64 (n + mb) + 1))) := by rw [ha];exact putSel_on (e := (6, 86, .int .i64 (wrap64 (wrap64 (n + mb) + 1)))) 6 rfl rfl (hon 6 (by kernel_rfl)) rfl
     replace ha := m0_ ha
     refine value_ (w1 := w') (v := .bool false) (by rfl) rfl ?_ ?_
     ·rw [show Value.bool false = Value.bool (mq != wrap64 (wrap64 (n + mb) + 1)) from by rw [HQ1.out, bne_self_eq_false]];go_simp
      (try simp only [i64_w])
      try rfl
     refine hK.out _ _ ⟨(by rw [ha.out];exact putSel_upk 7 hb_ rfl rfl rfl), Q_HB⟩
    refine steps_cons ?_ ?_
    ·rintro b a w' ⟨ha, Q_HB⟩ hb_ hon hoff
     refine ⟨_, rfl, fun K hK => ?_⟩
     have e87 : a.tmps[87]? = some (.bool false) := by rw [ha];exact putSel_on (e := (7, 87, .bool false)) 7 rfl rfl (hon 7 (by kernel_rfl)) rfl
     replace ha := m0_ ha
     refine value_ (w1 := w') (v := .bool false) (by rfl) rfl ?_ ?_
     ·go_simp
      (try simp only [i64_w])
      try rfl
     refine hK.out _ _ ⟨(by rw [ha.out];exact putSel_upk 8 hb_ rfl rfl rfl), Q_HB⟩
    refine steps_cons ?_ ?_
    ·rintro b a w' ⟨ha, Q_HB⟩ hb_ hon hoff
     refine ⟨_, rfl, fun K hK => ?_⟩
     have e10 : a.tmps[10]? = some (.slice AU u.length cU) := by rw [ha];exact (putSel_off rfl).trans rfl
     have e88 : a.tmps[88]? = some (.bool false) := by rw [ha];exact putSel_on (e := (8, 88, .bool false)) 8 rfl rfl (hon 8 (by kernel_rfl)) rfl
     replace ha := m0_ ha
     refine value_ (w1 := w') (v := .slice AU u.length cU) (wanted_on rfl rfl rfl (e88.trans (by first | rfl | (simp [*];done)))) rfl ?_ ?_
     ·go_simp
      (try simp only [i64_w])
      try rfl
     refine hK.out _ _ ⟨(by rw [ha.out];exact putSel_upk 9 hb_ rfl rfl rfl), Q_HB⟩
    refine steps_cons ?_ ?_
    ·rintro b a w' ⟨ha, Q_HB⟩ hb_ hon hoff
     refine ⟨_, rfl, fun K hK => ?_⟩
     have e89 : a.tmps[89]? = some (.slice AU u.length cU) := by rw [ha];exact putSel_on (e := (9, 89, .slice AU u.length cU)) 9 rfl rfl (hon 9 (by kernel_rfl)) rfl
     have e88 : a.tmps[88]? = some (.bool false) := by rw [ha];exact putSel_on (e := (8, 88, .bool false)) 8 rfl rfl (hon 8 (by kernel_rfl)) rfl
     replace ha := m0_ ha
     refine value_ (w1 := w') (v := .int .i64 (u.length : Int)) (wanted_on rfl rfl rfl (e88.trans (by first | rfl | (simp [*];done)))) rfl ?_ ?_
     ·go_simp
      (try simp only [i64_w])
      try rfl
     refine hK.out _ _ ⟨(by rw [ha.out];exact putSel_upk 10 hb_ rfl rfl rfl), Q_HB⟩
    refine steps_cons ?_ ?_
    ·rintro b a w' ⟨ha, Q_HB⟩ hb_ hon hoff
     refine ⟨_, rfl, fun K hK => ?_⟩
     have e6 : a.tmps[6]? = some (.slice AS s.length cS) := by rw [ha];exact (putSel_off rfl).trans rfl
     have e88 : a.tmps[88]? = some (.bool false) := by rw [ha];exact putSel_on (e := (8, 88, .bool false)) 8 rfl rfl (hon 8 (by kernel_rfl)) rfl
     replace ha := m0_ ha
     refine value_ (w1 := w') (v := .slice AS s.length cS) (wanted_on rfl rfl rfl (e88.trans (by first | rfl | (simp [*];done)))) rfl ?_ ?_
     ·go_simp
      (try simp only [i64_w])
      try rfl
     refine hK.out _ _ ⟨(by rw [ha.out];exact putSel_upk 11 hb_ rfl rfl rfl), Q_HB⟩
    refine steps_cons ?_ ?_
    ·rintro b a w' ⟨ha, Q_HB⟩ hb_ hon hoff
     refine ⟨_, rfl, fun K hK => ?_⟩
     have e91 : a.tmps[91]? = some (.slice AS s.length cS) := by rw [ha];exact putSel_on (e := (11, 91, .slice AS s.length cS)) 11 rfl rfl (hon 11 (by kernel_rfl)) rfl
     have e88 : a.tmps[88]? = some (.bool false) := by rw [ha];exact putSel_on (e := (8, 88, .bool false)) 8 rfl rfl (hon 8 (by kernel_rfl)) rfl
     replace ha := m0_ ha
     refine value_ (w1 := w') (v := .int .i64 (s.length : Int)) (wanted_on rfl rfl rfl (e88.trans (by first | rfl | (simp [*];done)))) rfl ?_ ?_
     ·go_simp
      (try simp only [i64_w])
      try rfl
     refine hK.out _ _ ⟨(by rw [ha.out];exact putSel_upk 12 hb_ rfl rfl rfl), Q_HB⟩
    refine steps_cons ?_ ?_
    ·rintro b a w' ⟨ha, Q_HB⟩ hb_ hon hoff
     refine ⟨_, rfl, fun K hK => ?_⟩
     have e90 : a.tmps[90]? = some (.int .i64 (u.length : Int)) := by rw [ha];exact putSel_on (e := (10, 90, .int .i64 (u.length : Int))) 10 rfl rfl (hon 10 (by kernel_rfl)) rfl
     have e92 : a.tmps[92]? = some (.int .i64 (s.length : Int)) := by rw [ha];exact putSel_on (e := (12, 92, .int .i64 (s.length : Int))) 12 rfl rfl (hon 12 (by kernel_rfl)) rfl
     have e88 : a.tmps[88]? = some (.bool false) := by rw [ha];exact putSel_on (e := (8, 88, .bool false)) 8 rfl rfl (hon 8 (by kernel_rfl)) rfl
     replace ha := m0_ ha
     refine value_ (w1 := w') (v := .bool false) (wanted_on rfl rfl rfl (e88.trans (by first | rfl | (simp [*];done)))) rfl ?_ ?_
     ·rw [show Value.bool false = Value.bool (decide ((u.length : Int) < (s.length : Int))) from by rw [decide_eq_false (by have q_ := HQ2.out;omega)]];go_simp
      (try simp only [i64_w])
      try rfl
     refine hK.out _ _ ⟨(by rw [ha.out];exact putSel_upk 13 hb_ rfl rfl rfl), Q_HB⟩
    refine steps_cons ?_ ?_
    ·rintro b a w' ⟨ha, Q_HB⟩ hb_ hon hoff
     refine ⟨_, rfl, fun K hK => ?_⟩
     have e88 : a.tmps[88]? = some (.bool false) := by rw [ha];exact putSel_on (e := (8, 88, .bool false)) 8 rfl rfl (hon 8 (by kernel_rfl)) rfl
     have e93 : a.tmps[93]? = some (.bool false) := by rw [ha];exact putSel_on (e := (13, 93, .bool false)) 13 rfl rfl (hon 13 (by kernel_rfl)) rfl
     replace ha := m0_ ha
     refine value_ (w1 := w') (v := .bool false) (by rfl) rfl ?_ ?_
     ·go_simp
      (try simp only [i64_w])
      try rfl
     refine hK.out _ _ ⟨(by rw [ha.out];exact putSel_upk 14 hb_ rfl rfl rfl), Q_HB⟩
    refine steps_cons ?_ ?_
    ·rintro b a w' ⟨ha, Q_HB⟩ hb_ hon hoff
     refine ⟨_, rfl, fun K hK => ?_⟩
     have e94 : a.tmps[94]? = some (.bool false) := by rw [ha];exact putSel_on (e := (14, 94, .bool false)) 14 rfl rfl (hon 14 (by kernel_rfl)) rfl
     replace ha := m0_ ha
     refine value_ (w1 := w') (v := .bool false) (by rfl) rfl ?_ ?_
     ·go_simp
      (try simp only [i64_w])
      try rfl
     refine hK.out _ _ ⟨(by rw [ha.out];exact putSel_upk 15 hb_ rfl rfl rfl), Q_HB⟩
    refine steps_cons ?_ ?_
    ·rintro b a w' ⟨ha, Q_HB⟩ hb_ hon hoff
     refine ⟨_, rfl, fun K hK => ?_⟩
     have e10 : a.tmps[10]? = some (.slice AU u.length cU) := by rw [ha];exact (putSel_off rfl).trans rfl
     have e95 : a.tmps[95]? = some (.bool false) := by rw [ha];exact putSel_on (e := (15, 95, .bool false)) 15 rfl rfl (hon 15 (by kernel_rfl)) rfl
     replace ha := m0_ ha
     refine value_ (w1 := w') (v := .slice AU u.length cU) (wanted_on rfl rfl rfl (e95.trans (by first | rfl | (simp [*];done)))) rfl ?_ ?_
     ·go_simp
      (try simp only [i64_w])
      try rfl
     refine hK.out _ _ ⟨(by rw [ha.out];exact putSel_upk 16 hb_ rfl rfl rfl), Q_HB⟩
    refine steps_cons ?_ ?_
    ·rintro b a w' ⟨ha, Q_HB⟩ hb_ hon hoff
     refine ⟨_, rfl, fun K hK => ?_⟩
     have e96 : a.tmps[96]? = some (.slice AU u.length cU) := by rw [ha];exact putSel_on (e := (16, 96, .slice AU u.length cU)) 16 rfl rfl (hon 16 (by kernel_rfl)) rfl
     have e95 : a.tmps[95]? = some (.bool false) := by rw [ha];exact putSel_on (e := (15, 95, .bool false)) 15 rfl rfl (hon 15 (by kernel_rfl)) rfl
     replace ha := m0_ ha
     refine value_ (w1 := w') (v := .int .i64 (u.length : Int)) (wanted_on rfl rfl rfl (e95.trans (by first | rfl | (simp [*];done)))) rfl ?_ ?_
     ·go_simp
      (try simp only [i64_w])
      try rfl
     refine hK.out _ _ ⟨(by rw [ha.out];exact putSel_upk 17 hb_ rfl rfl rfl), Q_HB⟩
    refine steps_cons ?_ ?_
    ·rintro b a w' ⟨ha, Q_HB⟩ hb_ hon hoff
     refine ⟨_, rfl, fun K hK => ?_⟩
     have e9 : a.tmps[9]? = some (.slice AT t.length cT) := by rw [ha];exact (putSel_off rfl).trans rfl
     have e95 : a.tmps[95]? = some (.bool false) := by rw [ha];exact putSel_on (e := (15, 95, .bool false)) 15 rfl rfl (hon 15 (by kernel_rfl)) rfl
     replace ha := m0_ ha
     refine value_ (w1 := w') (v := .slice AT t.length cT) (wanted_on rfl rfl rfl (e95.trans (by first | rfl | (simp [*];done)))) rfl ?_ ?_
     ·go_simp
      (try simp only [i64_w])
      try rfl
     refine hK.out _ _ ⟨(by rw [ha.out];exact putSel_upk 18 hb_ rfl rfl rfl), Q_HB⟩
    refine steps_cons ?_ ?_
    ·rintro b a w' ⟨ha, Q_HB⟩ hb_ hon hoff
     refine ⟨_, rfl, fun K hK => ?_⟩
     have e98 : a.tmps[98]? = some (.slice AT t.length cT) := by rw [ha];exact putSel_on (e := (18, 98, .slice AT t.length cT)) 18 rfl rfl (hon 18 (by kernel_rfl)) rfl
     have e95 : a.tmps[95]? = some (.bool false) := by rw [ha];exact putSel_on (e := (15, 95, .bool false)) 15 rfl rfl (hon 15 (by kernel_rfl)) rfl
     replace ha := m0_ ha
     refine value_ (w1 := w') (v := .int .i64 (t.length : Int)) (wanted_on rfl rfl rfl (e95.trans (by first | rfl | (simp [*];done)))) rfl ?_ ?_
     ·go_simp
      (try simp only [i64_w])
      try rfl
     refine hK.out _ _ ⟨(by rw [ha.out];exact putSel_upk 19 hb_ rfl rfl rfl), Q_HB⟩
    refine steps_cons ?_ ?_
    ·rintro b a w' ⟨ha, Q_HB⟩ hb_ hon hoff
     refine ⟨_, rfl, fun K hK => ?_⟩
     have e97 : a.tmps[97]? = some (.int .i64 (u.length : Int)) := by rw [ha];exact putSel_on (e := (17, 97, .int .i64 (u.length : Int))) 17 rfl rfl (hon 17 (by kernel_rfl)) rfl
     have e99 : a.tmps[99]? = some (.int .i64 (t.length : Int)) := by rw [ha];exact putSel_on (e := (19, 99, .int .i64 (t.length : Int))) 19 rfl rfl (hon 19 (by kernel_rfl)) rfl
     have e95 : a.tmps[95]? = some (.bool false) := by rw [ha];exact putSel_on (e := (15, 95, .bool false)) 15 rfl rfl (hon 15 (by kernel_rfl)) rfl
     replace ha := m0_ ha
     refine value_ (w1 := w') (v := .bool false) (wanted_on rfl rfl rfl (e95.trans (by first | rfl | (simp [*];done)))) rfl ?_ ?_
     ·rw [show Value.bool false = Value.bool (decide ((u.length : Int) < (t.length : Int))) from by rw [decide_eq_false (by have q_ := HQ3.out;omega)]];go_simp
      (try simp only [i64_w])
      try rfl
     refine hK.out _ _ ⟨(by rw [ha.out];exact putSel_upk 20 hb_ rfl rfl rfl), Q_HB⟩
    refine steps_cons ?_ ?_
    ·rintro b a w' ⟨ha, Q_HB⟩ hb_ hon hoff
     refine ⟨_, rfl, fun K hK => ?_⟩
     have e95 : a.tmps[95]? = some (.bool false) := by rw [ha];exact putSel_on (e := (15, 95, .bool false)) 15 rfl rfl (hon 15 (by kernel_rfl)) rfl
     have e100 : a.tmps[100]? = some (.bool false) := by rw [ha];exact putSel_on (e := (20, 100, .bool false)) 20 rfl rfl (hon 20 (by kernel_rfl)) rfl
     replace ha := m0_ ha
     refine value_ (w1 := w') (v := .bool false) (by rfl) rfl ?_ ?_
     ·go_simp
      (try simp only [i64_w])
      try rfl
     refine hK.out _ _ ⟨(by rw [ha.out];exact putSel_upk 21 hb_ rfl rfl rfl), Q_HB⟩
    refine steps_cons ?_ ?_
    ·rintro b a w' ⟨ha, Q_HB⟩ hb_ hon hoff
     refine ⟨_, rfl, fun K hK => ?_⟩
     have e101 : a.tmps[101]? = some (.bool false) := by rw [ha];exact putSel_on (e := (21, 101, .bool false)) 21 rfl rfl (hon 21 (by kernel_rfl)) rfl
     replace ha := m0_ ha
     refine value_ (w1 := w') (v := .bool false) (by rfl) rfl ?_ ?_
     ·go_simp
      (try simp only [i64_w])
      try rfl
     refine hK.out _ _ ⟨(by rw [ha.out];exact putSel_upk 22 hb_ rfl rfl rfl), Q_HB⟩
    refine steps_cons ?_ ?_
    ·rintro b a w' ⟨ha, Q_HB⟩ hb_ hon hoff
     refine ⟨_, rfl, fun K hK => ?_⟩
     have e10 : a.tmps[10]? = some (.slice AU u.length cU) := by rw [ha];exact (putSel_off rfl).trans rfl
     have e102 : a.tmps[102]? = some (.bool false) := by rw [ha];exact putSel_on (e := (22, 102, .bool false)) 22 rfl rfl (hon 22 (by kernel_rfl)) rfl
     replace ha := m0_ ha
     refine value_ (w1 := w') (v := .slice AU u.length cU) (wanted_on rfl rfl rfl (e102.trans (by first | rfl | (simp [*];done)))) rfl ?_ ?_
     ·go_simp
      (try simp only [i64_w])
      try rfl
     refine hK.out _ _ ⟨(by rw [ha.out];exact putSel_upk 23 hb_ rfl rfl rfl), Q_HB⟩
    refine steps_cons ?_ ?_
    ·rintro b a w' ⟨ha, Q_HB⟩ hb_ hon hoff
     refine ⟨_, rfl, fun K hK => ?_⟩
     have e103 : a.tmps[103]? = some (.slice AU u.length cU) := by rw [ha];exact putSel_on (e := (23, 103, .slice AU u.length cU)) 23 rfl rfl (hon 23 (by kernel_rfl)) rfl
     have e102 : a.tmps[102]? = some (.bool false) := by rw [ha];exact putSel_on (e := (22, 102, .bool false)) 22 rfl rfl (hon 22 (by kernel_rfl)) rfl
     replace ha := m0_ ha
     refine value_ (w1 := w') (v := .int .i64 (u.length : Int)) (wanted_on rfl rfl rfl (e102.trans (by first | rfl | (simp [*];done)))) rfl ?_ ?_
     ·go_simp
      (try simp only [i64_w])
      try rfl
     refine hK.out _ _ ⟨(by rw [ha.out];exact putSel_upk 24 hb_ rfl rfl rfl), Q_HB⟩
    refine steps_cons ?_ ?_
    ·rintro b a w' ⟨ha, Q_HB⟩ hb_ hon hoff
     refine ⟨_, rfl, fun K hK => ?_⟩
     have e6 : a.tmps[6]? = some (.slice AS s.length cS) := by rw [ha];exact (putSel_off rfl).trans rfl
     have e102 : a.tmps[102]? = some (.bool false) := by rw [ha];exact putSel_on (e := (22, 102, .bool false)) 22 rfl rfl (hon 22 (by kernel_rfl)) rfl
     replace ha := m0_ ha
     refine value_ (w1 := w') (v := .slice AS s.length cS) (wanted_on rfl rfl rfl (e102.trans (by first | rfl | (simp [*];done)))) rfl ?_ ?_
     ·go_simp
      (try simp only [i64_w])
      try rfl
     refine hK.out _ _ ⟨(by rw [ha.out];exact putSel_upk 25 hb_ rfl rfl rfl), Q_HB⟩
    refine steps_cons ?_ ?_
    ·rintro b a w' ⟨ha, Q_HB⟩ hb_ hon hoff
     refine ⟨_, rfl, fun K hK => ?_⟩
     have e105 : a.tmps[105]? = some (.slice AS s.length cS) := by rw [ha];exact putSel_on (e := (25, 105, .slice AS s.length cS)) 25 rfl rfl (hon 25 (by kernel_rfl)) rfl
     have e102 : a.tmps[102]? = some (.bool false) := by rw [ha];exact putSel_on (e := (22, 102, .bool false)) 22 rfl rfl (hon 22 (by kernel_rfl)) rfl
     replace ha := m0_ ha
     refine value_ (w1 := w') (v := .int .i64 (s.length : Int)) (wanted_on rfl rfl rfl (e102.trans (by first | rfl | (simp [*];done)))) rfl ?_ ?_
     ·go_simp
      (try simp only [i64_w])
      try rfl
     refine hK.out _ _ ⟨(by rw [ha.out];exact putSel_upk 26 hb_ rfl rfl rfl), Q_HB⟩
    refine steps_cons ?_ ?_
    ·rintro b a w' ⟨ha, Q_HB⟩ hb_ hon hoff
     refine ⟨_, rfl, fun K hK => ?_⟩
     have e9 : a.tmps[9]? = some (.slice AT t.length cT) := by rw [ha];exact (putSel_off rfl).trans rfl
     have e102 : a.tmps[102]? = some (.bool false) := by rw [ha];exact putSel_on (e := (22, 102, .bool false)) 22 rfl rfl (hon 22 (by kernel_rfl)) rfl
     replace ha := m0_ ha
     refine value_ (w1 := w') (v := .slice AT t.length cT) (wanted_on rfl rfl rfl (e102.trans (by first | rfl | (simp [*];done)))) rfl ?_ ?_
     ·go_simp
      (try simp only [i64_w])
      try rfl
     refine hK.out _ _ ⟨(by rw [ha.out];exact putSel_upk 27 hb_ rfl rfl rfl), Q_HB⟩
    refine steps_cons ?_ ?_
    ·rintro b a w' ⟨ha, Q_HB⟩ hb_ hon hoff
     refine ⟨_, rfl, fun K hK => ?_⟩
     have e107 : a.tmps[107]? = some (.slice AT t.length cT) := by rw [ha];exact putSel_on (e := (27, 107, .slice AT t.length cT)) 27 rfl rfl (hon 27 (by kernel_rfl)) rfl
     have e102 : a.tmps[102]? = some (.bool false) := by rw [ha];exact putSel_on (e := (22, 102, .bool false)) 22 rfl rfl (hon 22 (by kernel_rfl)) rfl
     replace ha := m0_ ha
     refine value_ (w1 := w') (v := .int .i64 (t.length : Int)) (wanted_on rfl rfl rfl (e102.trans (by first | rfl | (simp [*];done)))) rfl ?_ ?_
     ·go_simp
      (try simp only [i64_w])
      try rfl
     refine hK.out _ _ ⟨(by rw [ha.out];exact putSel_upk 28 hb_ rfl rfl rfl), Q_HB⟩
    refine steps_cons ?_ ?_
    ·rintro b a w' ⟨ha, Q_HB⟩ hb_ hon hoff
     refine ⟨_, rfl, fun K hK => ?_⟩
     have e106 : a.tmps[106]? = some (.int .i64 (s.length : Int)) := by rw [ha];exact putSel_on (e := (26, 106, .int .i64 (s.length : Int))) 26 rfl rfl (hon 26 (by kernel_rfl)) rfl
     have e108 : a.tmps[108]? = some (.int .i64 (t.length : Int)) := by rw [ha];exact putSel_on (e := (28, 108, .int .i64 (t.length : Int))) 28 rfl rfl (hon 28 (by kernel_rfl)) rfl
     have e102 : a.tmps[102]? = some (.bool false) := by rw [ha];exact putSel_on (e := (22, 102, .bool false)) 22 rfl rfl (hon 22 (by kernel_rfl)) rfl
     replace ha := m0_ ha
     refine value_ (w1 := w') (v := .int .i64 (wrap64 ((s.length : Int) + (t.length : Int)))) (wanted_on rfl rfl rfl (e102.trans (by first | rfl | (simp [*];done)))) rfl ?_ ?_
     ·go_simp
      (try simp only [i64_w])
      try rfl
     refine hK.out _ _ ⟨(by rw [ha.out];exact putSel_upk 29 hb_ rfl rfl rfl), Q_HB⟩
    refine steps_cons ?_ ?_
    ·rintro b a w' ⟨ha, Q_HB⟩ hb_ hon hoff
     refine ⟨_, rfl, fun K hK => ?_⟩
     have e104 : a.tmps[104]? = some (.int .i64 (u.length : Int)) := by rw [ha];exact putSel_on (e := (24, 104, .int .i64 (u.length : Int))) 24 rfl rfl (hon 24 (by kernel_rfl)) rfl
     have e109 : a.tmps[109]? = some (.int .i64 (wrap64 ((s.length : Int) + (t.length : Int)))) := by rw [ha];exact putSel_on (e := (29, 109, .int .i64 (wrap64 ((s.length : Int) + (t.length : Int))))) 29 rfl rfl (hon 29 (by kernel_rfl)) rfl
     have e102 : a.tmps[102]? = some (.bool false) := by rw [ha];exact putSel_on (e := (22, 102, .bool false)) 22 rfl rfl (hon 22 (by kernel_rfl)) rfl
     replace ha := m0_ ha
     refine value_ (w1 := w') (v := .bool false) (wanted_on rfl rfl rfl (e102.trans (by first | rfl | (simp [*];done)))) rfl ?_ ?_
     ·rw [show Value.bool false = Value.bool (decide ((u.length : Int) > wrap64 ((s.length : Int) + (t.length : Int)))) from by rw [decide_eq_false (by have q_ := HQ4.out;omega)]];go_simp
      (try simp only [i64_w])
      try rfl
     refine hK.out _ _ ⟨(by rw [ha.out];exact putSel_upk 30 hb_ rfl rfl rfl), Q_HB⟩
    refine steps_cons ?_ ?_
    ·rintro b a w' ⟨ha, Q_HB⟩ hb_ hon hoff
     refine ⟨_, rfl, fun K hK => ?_⟩
     have e102 : a.tmps[102]? = some (.bool false) := by rw [ha];exact putSel_on (e := (22, 102, .bool false)) 22 rfl rfl (hon 22 (by kernel_rfl)) rfl
     have e110 : a.tmps[110]? = some (.bool false) := by rw [ha];exact putSel_on (e := (30, 110, .bool false)) 30 rfl rfl (hon 30 (by kernel_rfl)) rfl
     replace ha := m0_ ha
     refine value_ (w1 := w') (v := .bool false) (by rfl) rfl ?_ ?_
     ·go_simp
      (try simp only [i64_w])
      try rfl
     refine hK.out _ _ ⟨(by rw [ha.out];exact putSel_upk 31 hb_ rfl rfl rfl), Q_HB⟩
    exact steps_nil
   rintro b a v15 hall ⟨ha, Q_HB⟩
   have hb0_ := hall 0 (by kernel_rfl)
   have hb1_ := hall 1 (by kernel_rfl)
   have hb2_ := hall 2 (by kernel_rfl)
   have hb3_ := hall 3 (by kernel_rfl)
   have hb4_ := hall 4 (by kernel_rfl)
   have hb5_ := hall 5 (by kernel_rfl)
   have hb6_ := hall 6 (by kernel_rfl)
   have hb7_ := hall 7 (by kernel_rfl)
   have hb8_ := hall 8 (by kernel_rfl)
   have hb9_ := hall 9 (by kernel_rfl)
   have hb10_ := hall 10 (by kernel_rfl)
   have hb11_ := hall 11 (by kernel_rfl)
   have hb12_ := hall 12 (by kernel_rfl)
   have hb13_ := hall 13 (by kernel_rfl)
   have hb14_ := hall 14 (by kernel_rfl)
   have hb15_ := hall 15 (by kernel_rfl)
   have hb16_ := hall 16 (by kernel_rfl)
   have hb17_ := hall 17 (by kernel_rfl)
   have hb18_ := hall 18 (by kernel_rfl)
   have hb19_ := hall 19 (by kernel_rfl)
   have hb20_ := hall 20 (by kernel_rfl)
   have hb21_ := hall 21 (by kernel_rfl)
   have hb22_ := hall 22 (by kernel_rfl)
   have hb23_ := hall 23 (by kernel_rfl)
   have hb24_ := hall 24 (by kernel_rfl)
   have hb25_ := hall 25 (by kernel_rfl)
   have hb26_ := hall 26 (by kernel_rfl)
   have hb27_ := hall 27 (by kernel_rfl)
   have hb28_ := hall 28 (by kernel_rfl)
   have hb29_ := hall 29 (by kernel_rfl)
   have hb30_ := hall 30 (by kernel_rfl)
   have hb31_ := hall 31 (by kernel_rfl)
   subst ha
   simp only [putSel, hb0_, hb1_, hb2_, hb3_, hb4_, hb5_, hb6_, hb7_, hb8_, hb9_, hb10_, hb11_, hb12_, hb13_, hb14_, hb15_, hb16_, hb17_, hb18_, hb19_, hb20_, hb21_, hb22_, hb23_, hb24_, hb25_, hb26_, hb27_, hb28_, hb29_, hb30_, hb31_, if_true, Act.put, List.setIfInBounds_toArray, List.set_cons_zero, List.set_cons_succ]
   replace FA := m0_ (Kd.N_below FA.out Q_HB);replace FB := m0_ (Kd.N_below FB.out Q_HB);replace FS := m0_ (Kd.R_below FS.out Q_HB);replace FP := m0_ (Kd.N_below FP.out Q_HB);replace FQ := m0_ (Kd.N_below FQ.out Q_HB);replace FT := m0_ (Kd.R_below FT.out Q_HB);replace FU := m0_ (Kd.R_below FU.out Q_HB);replace BK3 := m0_ (blk_below BK3.out Q_HB);replace BK4 := m0_ (blk_below BK4.out Q_HB);replace BK7 := m0_ (blk_below BK7.out Q_HB);replace BK8 := m0_ (blk_below BK8.out Q_HB);replace HB := m0_ (below_step HB.out Q_HB)
   have Zv15 := m0_ (show u15.heap.size ≤ v15.heap.size from Below.size Q_HB)
   clear Q_HB hall  hb0_ hb1_ hb2_ hb3_ hb4_ hb5_ hb6_ hb7_ hb8_ hb9_ hb10_ hb11_ hb12_ hb13_ hb14_ hb15_ hb16_ hb17_ hb18_ hb19_ hb20_ hb21_ hb22_ hb23_ hb24_ hb25_ hb26_ hb27_ hb28_ hb29_ hb30_ hb31_
   have hz3_0 := (blk_cell BK3.out 0).trans (show _ = some (Value.int .i64 a0) from rfl);have hz3_1 := (blk_cell BK3.out 1).trans (show _ = some (Value.int .i64 a1) from rfl);have hz3_2 := (blk_cell BK3.out 2).trans (show _ = some (Value.int .i64 a2) from rfl);have hz3_3 := (blk_cell BK3.out 3).trans (show _ = some (Value.slice AA la.length cA) from rfl)
   go_wp2_with (go_at_call 13;fail)
   clear hz3_0 hz3_1 hz3_2 hz3_3
   refine (spec_ExOk.calls k a0 a1 a2 _ _ la oa _ ?s1 ?s2 TOA.out).mono ?_
   (case s1 => exact (Kd.N_reads' FA.out).2.2)
   (case s2 => exact (Kd.N_reads' FA.out).2.1)
   rintro e w8 ⟨rfl, hb⟩
   have Zw8 := m0_ (show v15.heap.size ≤ w8.heap.size from hb.size)
   replace FA := m0_ (Kd.N_below FA.out hb);replace FB := m0_ (Kd.N_below FB.out hb);replace FS := m0_ (Kd.R_below FS.out hb);replace FP := m0_ (Kd.N_below FP.out hb);replace FQ := m0_ (Kd.N_below FQ.out hb);replace FT := m0_ (Kd.R_below FT.out hb);replace FU := m0_ (Kd.R_below FU.out hb);replace BK3 := m0_ (blk_below BK3.out hb);replace BK4 := m0_ (blk_below BK4.out hb);replace BK7 := m0_ (blk_below BK7.out hb);replace BK8 := m0_ (blk_below BK8.out hb);replace HB := m0_ (below_step HB.out hb)
   clear hb
   have hl1_ := HL1.out
   have hz3_0 := (blk_cell BK3.out 0).trans (show _ = some (Value.int .i64 a0) from rfl);have hz3_1 := (blk_cell BK3.out 1).trans (show _ = some (Value.int .i64 a1) from rfl);have hz3_2 := (blk_cell BK3.out 2).trans (show _ = some (Value.int .i64 a2) from rfl);have hz3_3 := (blk_cell BK3.out 3).trans (show _ = some (Value.slice AA la.length cA) from rfl)
   go_wp2_with (go_at_call 13;fail)
   clear hz3_0 hz3_1 hz3_2 hz3_3
   refine (spec_ExOk.calls k a0 a1 a2 _ _ la oa _ ?s1 ?s2 TOA.out).mono ?_
   (case s1 => exact (Kd.N_reads' FA.out).2.2)
   (case s2 => exact (Kd.N_reads' FA.out).2.1)
   rintro e w9 ⟨rfl, hb⟩
   have Zw9 := m0_ (show w8.heap.size ≤ w9.heap.size from hb.size)
   replace FA := m0_ (Kd.N_below FA.out hb);replace FB := m0_ (Kd.N_below FB.out hb);replace FS := m0_ (Kd.R_below FS.out hb);replace FP := m0_ (Kd.N_below FP.out hb);replace FQ := m0_ (Kd.N_below FQ.out hb);replace FT := m0_ (Kd.R_below FT.out hb);replace FU := m0_ (Kd.R_below FU.out hb);replace BK3 := m0_ (blk_below BK3.out hb);replace BK4 := m0_ (blk_below BK4.out hb);replace BK7 := m0_ (blk_below BK7.out hb);replace BK8 := m0_ (blk_below BK8.out hb);replace HB := m0_ (below_step HB.out hb)
   clear hb
   go_wp2
   go_ret
   exact ⟨congrArg (fun b_ : Bool => Ending.returned (.bool b_)) HL2.out, HB.out⟩
 | true =>
  obtain ⟨hp1_, hp2_⟩ := HP.out rfl
  have HP1 := m0_ hp1_
  have HP2 := m0_ hp2_
  clear hp1_ hp2_
  have hz7_0 := (blk_cell BK7.out 0).trans (show _ = some (Value.int .i64 7) from rfl);have hz7_1 := (blk_cell BK7.out 1).trans (show _ = some (Value.int .i64 0) from rfl);have hz7_2 := (blk_cell BK7.out 2).trans (show _ = some (Value.int .i64 1) from rfl);have hz7_3 := (blk_cell BK7.out 3).trans (show _ = some (Value.slice AP (List.length ([⟨a0, a1, a2, la⟩] : List S29)) cP) from rfl)
  go_wp2_with (go_at_call 16;fail)
  clear hz7_0 hz7_1 hz7_2 hz7_3
  refine (impl_ExMany.calls k 7 0 1 _ _ ([⟨a0, a1, a2, la⟩] : List S29) mp _ ?s1 ?s2 TMP.out).mono ?_
  (case s1 => exact (Kd.N_reads' FP.out).2.2)
  (case s2 => exact (Kd.N_reads' FP.out).2.1)
  rintro e w5 ⟨rfl, hb⟩
  have Zw5 := m0_ (show w4.heap.size ≤ w5.heap.size from hb.size)
  replace FA := m0_ (Kd.N_below FA.out hb);replace FB := m0_ (Kd.N_below FB.out hb);replace FS := m0_ (Kd.R_below FS.out hb);replace FP := m0_ (Kd.N_below FP.out hb);replace FQ := m0_ (Kd.N_below FQ.out hb);replace BK3 := m0_ (blk_below BK3.out hb);replace BK4 := m0_ (blk_below BK4.out hb);replace BK7 := m0_ (blk_below BK7.out hb);replace BK8 := m0_ (blk_below BK8.out hb);replace HB := m0_ (below_step HB.out hb)
  clear hb
  have hp1_ : (mp != wrap64 (n + 1)) = false := by rw [HP1.out, bne_self_eq_false]
  have hz7_0 := (blk_cell BK7.out 0).trans (show _ = some (Value.int .i64 7) from rfl);have hz7_1 := (blk_cell BK7.out 1).trans (show _ = some (Value.int .i64 0) from rfl);have hz7_2 := (blk_cell BK7.out 2).trans (show _ = some (Value.int .i64 1) from rfl);have hz7_3 := (blk_cell BK7.out 3).trans (show _ = some (Value.slice AP (List.length ([⟨a0, a1, a2, la⟩] : List S29)) cP) from rfl)
  go_wp2_with (go_at_call 18;fail)
  clear hz7_0 hz7_1 hz7_2 hz7_3
  refine (impl_ExSyms.calls k 7 0 1 _ _ ([⟨a0, a1, a2, la⟩] : List S29) sp _ ?s1 ?s2 TSP.out).mono ?_
  (case s1 => exact (Kd.N_reads' FP.out).2.2)
  (case s2 => exact (Kd.N_reads' FP.out).2.1)
  rintro e w6 ⟨v_, rfl, hs, hb⟩
  have Zw6 := m0_ (show w5.heap.size ≤ w6.heap.size from hb.size)
  have hs_ := Kd.R_mono (ok' := fun k_ => w5.heap.size ≤ k_ ∧ k_ < w6.heap.size) (Kd.R_lower (Kd.R_bound hs) (below_size HB.out)) (fun k_ hk => ⟨hk.2.1, hk.2.2.1⟩)
  obtain ⟨AW, cW, rfl⟩ := Kd.R_slice hs_
  have NW_ := m0_ hs_
  clear hs_ hs
  replace FA := m0_ (Kd.N_below FA.out hb);replace FB := m0_ (Kd.N_below FB.out hb);replace FS := m0_ (Kd.R_below FS.out hb);replace FP := m0_ (Kd.N_below FP.out hb);replace FQ := m0_ (Kd.N_below FQ.out hb);replace BK3 := m0_ (blk_below BK3.out hb);replace BK4 := m0_ (blk_below BK4.out hb);replace BK7 := m0_ (blk_below BK7.out hb);replace BK8 := m0_ (blk_below BK8.out hb);replace HB := m0_ (below_step HB.out hb)
  clear hb
  have FW := NW_;clear NW_
  have hp2_ : ((sp.length : Int) != (s.length : Int)) = false := by rw [HP2.out, bne_self_eq_false]
  have hz8_0 := (blk_cell BK8.out 0).trans (show _ = some (Value.int .i64 4) from rfl);have hz8_1 := (blk_cell BK8.out 1).trans (show _ = some (Value.int .i64 0) from rfl);have hz8_2 := (blk_cell BK8.out 2).trans (show _ = some (Value.int .i64 0) from rfl);have hz8_3 := (blk_cell BK8.out 3).trans (show _ = some (Value.slice AQ (List.length ([⟨a0, a1, a2, la⟩, ⟨b0, b1, b2, lb⟩] : List S29)) cQ) from rfl)
  go_wp2_with (go_at_call 14;fail)
  clear hz8_0 hz8_1 hz8_2 hz8_3
  refine (impl_ExOk.calls k 4 0 0 _ _ ([⟨a0, a1, a2, la⟩, ⟨b0, b1, b2, lb⟩] : List S29) oq _ ?s1 ?s2 TOQ.out).mono ?_
  (case s1 => exact (Kd.N_reads' FQ.out).2.2)
  (case s2 => exact (Kd.N_reads' FQ.out).2.1)
  rintro e w7 ⟨rfl, hb⟩
  have Zw7 := m0_ (show w6.heap.size ≤ w7.heap.size from hb.size)
  replace FA := m0_ (Kd.N_below FA.out hb);replace FB := m0_ (Kd.N_below FB.out hb);replace FS := m0_ (Kd.R_below FS.out hb);replace FP := m0_ (Kd.N_below FP.out hb);replace FQ := m0_ (Kd.N_below FQ.out hb);replace FW := m0_ (Kd.R_below FW.out hb);replace BK3 := m0_ (blk_below BK3.out hb);replace BK4 := m0_ (blk_below BK4.out hb);replace BK7 := m0_ (blk_below BK7.out hb);replace BK8 := m0_ (blk_below BK8.out hb);replace HB := m0_ (below_step HB.out hb)
  clear hb
  cases oq with
  | false =>
   have hz3_0 := (blk_cell BK3.out 0).trans (show _ = some (Value.int .i64 a0) from rfl);have hz3_1 := (blk_cell BK3.out 1).trans (show _ = some (Value.int .i64 a1) from rfl);have hz3_2 := (blk_cell BK3.out 2).trans (show _ = some (Value.int .i64 a2) from rfl);have hz3_3 := (blk_cell BK3.out 3).trans (show _ = some (Value.slice AA la.length cA) from rfl)
   go_wp2_with (go_at_call 13;fail)
   clear hz3_0 hz3_1 hz3_2 hz3_3
   refine (spec_ExOk.calls k a0 a1 a2 _ _ la oa _ ?s1 ?s2 TOA.out).mono ?_
   (case s1 => exact (Kd.N_reads' FA.out).2.2)
   (case s2 => exact (Kd.N_reads' FA.out).2.1)
   rintro e w8 ⟨rfl, hb⟩
   have Zw8 := m0_ (show w7.heap.size ≤ w8.heap.size from hb.size)
   replace FA := m0_ (Kd.N_below FA.out hb);replace FB := m0_ (Kd.N_below FB.out hb);replace FS := m0_ (Kd.R_below FS.out hb);replace FP := m0_ (Kd.N_below FP.out hb);replace FQ := m0_ (Kd.N_below FQ.out hb);replace FW := m0_ (Kd.R_below FW.out hb);replace BK3 := m0_ (blk_below BK3.out hb);replace BK4 := m0_ (blk_below BK4.out hb);replace BK7 := m0_ (blk_below BK7.out hb);replace BK8 := m0_ (blk_below BK8.out hb);replace HB := m0_ (below_step HB.out hb)
   clear hb
   have hl1_ := HL1.out
   have hz3_0 := (blk_cell BK3.out 0).trans (show _ = some (Value.int .i64 a0) from rfl);have hz3_1 := (blk_cell BK3.out 1).trans (show _ = some (Value.int .i64 a1) from rfl);have hz3_2 := (blk_cell BK3.out 2).trans (show _ = some (Value.int .i64 a2) from rfl);have hz3_3 := (blk_cell BK3.out 3).trans (show _ = some (Value.slice AA la.length cA) from rfl)
   go_wp2_with (go_at_call 13;fail)
   clear hz3_0 hz3_1 hz3_2 hz3_3
   refine (spec_ExOk.calls k a0 a1 a2 _ _ la oa _ ?s1 ?s2 TOA.out).mono ?_
   (case s1 => exact (Kd.N_reads' FA.out).2.2)
   (case s2 => exact (Kd.N_reads' FA.out).2.1)
   rintro e w9 ⟨rfl, hb⟩
   have Zw9 := m0_ (show w8.heap.size ≤ w9.heap.size from hb.size)
   replace FA := m0_ (Kd.N_below FA.out hb);replace FB := m0_ (Kd.N_below FB.out hb);replace FS := m0_ (Kd.R_below FS.out hb);replace FP := m0_ (Kd.N_below FP.out hb);replace FQ := m0_ (Kd.N_below FQ.out hb);replace FW := m0_ (Kd.R_below FW.out hb);replace BK3 := m0_ (blk_below BK3.out hb);replace BK4 := m0_ (blk_below BK4.out hb);replace BK7 := m0_ (blk_below BK7.out hb);replace BK8 := m0_ (blk_below BK8.out hb);replace HB := m0_ (below_step HB.out hb)
   clear hb
   go_wp2
   go_ret
   exact ⟨congrArg (fun b_ : Bool => Ending.returned (.bool b_)) HL2.out, HB.out⟩
  | true =>
   obtain ⟨hq1_, hq2_, hq3_, hq4_⟩ := HQ.out rfl
   have HQ1 := m0_ hq1_
   have HQ2 := m0_ hq2_
   have HQ3 := m0_ hq3_
   have HQ4 := m0_ hq4_
   clear hq1_ hq2_ hq3_ hq4_
   have hz4_0 := (blk_cell BK4.out 0).trans (show _ = some (Value.int .i64 b0) from rfl);have hz4_1 := (blk_cell BK4.out 1).trans (show _ = some (Value.int .i64 b1) from rfl);have hz4_2 := (blk_cell BK4.out 2).trans (show _ = some (Value.int .i64 b2) from rfl);have hz4_3 := (blk_cell BK4.out 3).trans (show _ = some (Value.slice AB lb.length cB) from rfl)
   go_wp2_with (go_at_call 18;fail)
   clear hz4_0 hz4_1 hz4_2 hz4_3
   refine (impl_ExSyms.calls k b0 b1 b2 _ _ lb t _ ?s1 ?s2 TT.out).mono ?_
   (case s1 => exact (Kd.N_reads' FB.out).2.2)
   (case s2 => exact (Kd.N_reads' FB.out).2.1)
   rintro e w8 ⟨v_, rfl, hs, hb⟩
   have Zw8 := m0_ (show w7.heap.size ≤ w8.heap.size from hb.size)
   have hs_ := Kd.R_mono (ok' := fun k_ => w7.heap.size ≤ k_ ∧ k_ < w8.heap.size) (Kd.R_lower (Kd.R_bound hs) (below_size HB.out)) (fun k_ hk => ⟨hk.2.1, hk.2.2.1⟩)
   obtain ⟨AT, cT, rfl⟩ := Kd.R_slice hs_
   have NT_ := m0_ hs_
   clear hs_ hs
   replace FA := m0_ (Kd.N_below FA.out hb);replace FB := m0_ (Kd.N_below FB.out hb);replace FS := m0_ (Kd.R_below FS.out hb);replace FP := m0_ (Kd.N_below FP.out hb);replace FQ := m0_ (Kd.N_below FQ.out hb);replace FW := m0_ (Kd.R_below FW.out hb);replace BK3 := m0_ (blk_below BK3.out hb);replace BK4 := m0_ (blk_below BK4.out hb);replace BK7 := m0_ (blk_below BK7.out hb);replace BK8 := m0_ (blk_below BK8.out hb);replace HB := m0_ (below_step HB.out hb)
   clear hb
   have FT := NT_;clear NT_
   have hz8_0 := (blk_cell BK8.out 0).trans (show _ = some (Value.int .i64 4) from rfl);have hz8_1 := (blk_cell BK8.out 1).trans (show _ = some (Value.int .i64 0) from rfl);have hz8_2 := (blk_cell BK8.out 2).trans (show _ = some (Value.int .i64 0) from rfl);have hz8_3 := (blk_cell BK8.out 3).trans (show _ = some (Value.slice AQ (List.length ([⟨a0, a1, a2, la⟩, ⟨b0, b1, b2, lb⟩] : List S29)) cQ) from rfl)
   go_wp2_with (go_at_call 18;fail)
   clear hz8_0 hz8_1 hz8_2 hz8_3
   refine (impl_ExSyms.calls k 4 0 0 _ _ ([⟨a0, a1, a2, la⟩, ⟨b0, b1, b2, lb⟩] : List S29) u _ ?s1 ?s2 TU.out).mono ?_
   (case s1 => exact (Kd.N_reads' FQ.out).2.2)
   (case s2 => exact (Kd.N_reads' FQ.out).2.1)
   rintro e w9 ⟨v_, rfl, hs, hb⟩
   have Zw9 := m0_ (show w8.heap.size ≤ w9.heap.size from hb.size)
   have hs_ := Kd.R_mono (ok' := fun k_ => w8.heap.size ≤ k_ ∧ k_ < w9.heap.size) (Kd.R_lower (Kd.R_bound hs) (below_size HB.out)) (fun k_ hk => ⟨hk.2.1, hk.2.2.1⟩)
   obtain ⟨AU, cU, rfl⟩ := Kd.R_slice hs_
   have NU_ := m0_ hs_
   clear hs_ hs
   replace FA := m0_ (Kd.N_below FA.out hb);replace FB := m0_ (Kd.N_below FB.out hb);replace FS := m0_ (Kd.R_below FS.out hb);replace FP := m0_ (Kd.N_below FP.out hb);replace FQ := m0_ (Kd.N_below FQ.out hb);replace FW := m0_ (Kd.R_below FW.out hb);replace FT := m0_ (Kd.R_below FT.out hb);replace BK3 := m0_ (blk_below BK3.out hb);replace BK4 := m0_ (blk_below BK4.out hb);replace BK7 := m0_ (blk_below BK7.out hb);replace BK8 := m0_ (blk_below BK8.out hb);replace HB := m0_ (below_step HB.out hb)
   clear hb
   have FU := NU_;clear NU_
   go_upto_region 15 with (fail)
   replace FA := m0_ (Kd.N_drew FA.out);replace FB := m0_ (Kd.N_drew FB.out);replace FS := m0_ (Kd.R_drew FS.out);replace FP := m0_ (Kd.N_drew FP.out);replace FQ := m0_ (Kd.N_drew FQ.out);replace FW := m0_ (Kd.R_drew FW.out);replace FT := m0_ (Kd.R_drew FT.out);replace FU := m0_ (Kd.R_drew FU.out);replace BK3 := m0_ (blk_drew BK3.out);replace BK4 := m0_ (blk_drew BK4.out);replace BK7 := m0_ (blk_drew BK7.out);replace BK8 := m0_ (blk_drew BK8.out);replace HB := m0_ (below_drew1 HB.out)
   -- region 15
   refine start_ (n := 32) (S := fun w' => True) (ds := []) #[false, false, false, false, false, false, false, false, false, false, false, false, false, false, false, false, false, false, false, false, false, false, false, false, false, false, false, false, false, false, false, false] (by kernel_rfl) rfl rfl trivial (fun hHeld => ?_)
   refine with_tabW laws_FnExMany.tab15 laws_FnExMany.bits15 (fun HT_ HW_ => ?_)
   generalize hWd : w9.drew = u15 at HB FA FB FS FP FQ FW FT FU BK3 BK4 BK7 BK8 ⊢
   have Zu15 := m0_ (show w9.heap.size ≤ u15.heap.size from by rw [← hWd];exact Nat.le_refl _)
   clear hWd
   refine inv_at [0, 1, 2, 3, 4, 5, 6, 7, 8, 9, 10, 11, 12, 13, 14, 15, 16, 17, 18, 19, 20, 21, 22, 23, 24, 25, 26, 27, 28, 29, 30, 31] (fun a0_ b a w' => a = putSel a0_ b [(0, 80, .agg #[.int .i64 4, .int .i64 0, .int .i64 0, .slice AQ (List.length ([⟨a0, a1, a2, la⟩, ⟨b0, b1, b2, lb⟩] : List S29)) cQ]), (1, 81, .int .i64 mq), (2, 82, .int .i64 n), (3, 83, .agg #[.int .i64 b0, .int .i64 b1, .int .i64 b2, .slice AB lb.length cB]), (4, 84, .int .i64 mb), (5, 85, .int .i64 (wrap64 (n + mb))), (6, 86, .int .i64 (wrap64 (wrap64 (n + mb) + 1))), (7, 87, .bool false), (8, 88, .bool false), (9, 89, .slice AU u.length cU), (10, 90, .int .i64 (u.length : Int)), (11, 91, .slice AS s.length cS), (12, 92, .int .i64 (s.length : Int)), (13, 93, .bool false), (14, 94, .bool false), (15, 95, .bool false), (16, 96, .slice AU u.length cU), (17, 97, .int .i64 (u.length : Int)), (18, 98, .slice AT t.length cT), (19, 99, .int .i64 (t.length : Int)), (20, 100, .bool false), (21, 101, .bool false), (22, 102, .bool false), (23, 103, .slice AU u.length cU), (24, 104, .int .i64 (u.length : Int)), (25, 105, .slice AS s.length cS), (26, 106, .int .i64 (s.length : Int)), (27, 107, .slice AT t.length cT), (28, 108, .int .i64 (t.length : Int)), (29, 109, .int .i64 (wrap64 ((s.length : Int) + (t.length : Int)))), (30, 110, .bool false), (31, 111, .bool false)] ∧ Below u15.heap.size u15 w') HT_.out HW_.out (by kernel_rfl) (by kernel_rfl) ?_ ?_ ?_
   ·exact ⟨by simp only [putSel, Bool.false_eq_true, if_false], Below.refl _ _⟩
   ·skip
    refine steps_cons ?_ ?_
    ·rintro b a w' ⟨ha, Q_HB⟩ hb_ hon hoff
     refine ⟨_, rfl, fun K hK => ?_⟩
     have e8 : a.tmps[8]? = some (.pointer (some ⟨gb8, 0, none⟩)) := by rw [ha];exact (putSel_off rfl).trans rfl
     replace ha := m0_ ha
     have hc0_ : w'.cell? ⟨gb8, 0, none⟩ = some (.int .i64 4) := (blk_cell (blk_below BK8.out Q_HB) 0).trans rfl
     have hc1_ : w'.cell? ⟨gb8, 1, none⟩ = some (.int .i64 0) := (blk_cell (blk_below BK8.out Q_HB) 1).trans rfl
     have hc2_ : w'.cell? ⟨gb8, 2, none⟩ = some (.int .i64 0) := (blk_cell (blk_below BK8.out Q_HB) 2).trans rfl
     have hc3_ : w'.cell? ⟨gb8, 3, none⟩ = some (.slice AQ (List.length ([⟨a0, a1, a2, la⟩, ⟨b0, b1, b2, lb⟩] : List S29)) cQ) := (blk_cell (blk_below BK8.out Q_HB) 3).trans rfl
     refine value_ (w1 := w') (v := .agg #[.int .i64 4, .int .i64 0, .int .i64 0, .slice AQ (List.length ([⟨a0, a1, a2, la⟩, ⟨b0, b1, b2, lb⟩] : List S29)) cQ]) (by rfl) rfl ?_ ?_
     ·go_simp
      (try simp only [i64_w])
      try rfl
     refine hK.out _ _ ⟨(by rw [ha.out];exact putSel_upk 0 hb_ rfl rfl rfl), Q_HB⟩
    refine steps_cons ?_ ?_
    ·rintro b a w' ⟨ha, Q_HB⟩ hb_ hon hoff
     refine ⟨_, rfl, fun K hK => ?_⟩
     have e80 : a.tmps[80]? = some (.agg #[.int .i64 4, .int .i64 0, .int .i64 0, .slice AQ (List.length ([⟨a0, a1, a2, la⟩, ⟨b0, b1, b2, lb⟩] : List S29)) cQ]) := by rw [ha];exact putSel_on (e := (0, 80, .agg #[.int .i64 4, .int .i64 0, .int .i64 0, .slice AQ (List.length ([⟨a0, a1, a2, la⟩, ⟨b0, b1, b2, lb⟩] : List S29)) cQ])) 0 rfl rfl (hon 0 (by kernel_rfl)) rfl
     replace ha := m0_ ha
     refine goes_ Try.func16 (by kernel_rfl) rfl #[.agg #[.int .i64 4, .int .i64 0, .int .i64 0, .slice AQ (List.length ([⟨a0, a1, a2, la⟩, ⟨b0, b1, b2, lb⟩] : List S29)) cQ]] (by rfl) rfl rfl (by first | (simp only [List.map_toArray, List.map_cons, List.map_nil, Act.eval, Array.getD_eq_getD_getElem?, Option.getD_some, e80];done) | (simp only [List.map_toArray, List.map_cons, List.map_nil, Act.eval, Array.getD_eq_getD_getElem?, Option.getD_some, e80];rfl)) ?_
     with_reducible refine (impl_ExMany.calls k 4 0 0 _ _ ([⟨a0, a1, a2, la⟩, ⟨b0, b1, b2, lb⟩] : List S29) mq _ ?s1 ?s2 TMQ.out).mono ?_
     (case s1 => exact Kd.C_below (Kd.N_reads' FQ.out).2.2 Q_HB)
     (case s2 => exact (Kd.N_reads' FQ.out).2.1)
     rintro e w3 ⟨rfl, hb⟩
     refine ⟨_, rfl, ?_⟩
     refine hK.out _ _ ⟨(by rw [ha.out];exact putSel_upk 1 hb_ rfl rfl rfl), below_step Q_HB hb⟩
    refine steps_cons ?_ ?_
    ·rintro b a w' ⟨ha, Q_HB⟩ hb_ hon hoff
     refine ⟨_, rfl, fun K hK => ?_⟩
     have e5 : a.tmps[5]? = some (.int .i64 n) := by rw [ha];exact (putSel_off rfl).trans rfl
     replace ha := m0_ ha
     refine value_ (w1 := w') (v := .int .i64 n) (by rfl) rfl ?_ ?_
     ·go_simp
      (try simp only [i64_w])
      try rfl
     refine hK.out _ _ ⟨(by rw [ha.out];exact putSel_upk 2 hb_ rfl rfl rfl), Q_HB⟩
    refine steps_cons ?_ ?_
    ·rintro b a w' ⟨ha, Q_HB⟩ hb_ hon hoff
     refine ⟨_, rfl, fun K hK => ?_⟩
     have e4 : a.tmps[4]? = some (.pointer (some ⟨gb4, 0, none⟩)) := by rw [ha];exact (putSel_off rfl).trans rfl
     replace ha := m0_ ha
     have hc0_ : w'.cell? ⟨gb4, 0, none⟩ = some (.int .i64 b0) := (blk_cell (blk_below BK4.out Q_HB) 0).trans rfl
     have hc1_ : w'.cell? ⟨gb4, 1, none⟩ = some (.int .i64 b1) := (blk_cell (blk_below BK4.out Q_HB) 1).trans rfl
     have hc2_ : w'.cell? ⟨gb4, 2, none⟩ = some (.int .i64 b2) := (blk_cell (blk_below BK4.out Q_HB) 2).trans rfl
     have hc3_ : w'.cell? ⟨gb4, 3, none⟩ = some (.slice AB lb.length cB) := (blk_cell (blk_below BK4.out Q_HB) 3).trans rfl
     refine value_ (w1 := w') (v := .agg #[.int .i64 b0, .int .i64 b1, .int .i64 b2, .slice AB lb.length cB]) (by rfl) rfl ?_ ?_
     ·go_simp
      (try simp only [i64_w])
      try rfl
     refine hK.out _ _ ⟨(by rw [ha.out];exact putSel_upk 3 hb_ rfl rfl rfl), Q_HB⟩
    refine steps_cons ?_ ?_
    ·rintro b a w' ⟨ha, Q_HB⟩ hb_ hon hoff
     refine ⟨_, rfl, fun K hK => ?_⟩
     have e83 : a.tmps[83]? = some (.agg #[.int .i64 b0, .int .i64 b1, .int .i64 b2, .slice AB lb.length cB]) := by rw [ha];exact putSel_on (e := (3, 83, .agg #[.int .i64 b0, .int .i64 b1, .int .i64 b2, .slice AB lb.length cB])) 3 rfl rfl (hon 3 (by kernel_rfl)) rfl
     replace ha := m0_ ha
     refine goes_ Try.func16 (by kernel_rfl) rfl #[.agg #[.int .i64 b0, .int .i64 b1, .int .i64 b2, .slice AB lb.length cB]] (by rfl) rfl rfl (by first | (simp only [List.map_toArray, List.map_cons, List.map_nil, Act.eval, Array.getD_eq_getD_getElem?, Option.getD_some, e83];done) | (simp only [List.map_toArray, List.map_cons, List.map_nil, Act.eval, Array.getD_eq_getD_getElem?, Option.getD_some, e83];rfl)) ?_
     with_reducible refine (impl_ExMany.calls k b0 b1 b2 _ _ lb mb _ ?s1 ?s2 TMB.out).mono ?_
     (case s1 => exact Kd.C_below (Kd.N_reads' FB.out).2.2 Q_HB)
     (case s2 => exact (Kd.N_reads' FB.out).2.1)
     rintro e w3 ⟨rfl, hb⟩
     refine ⟨_, rfl, ?_⟩
     refine hK.out _ _ ⟨(by rw [ha.out];exact putSel_upk 4 hb_ rfl rfl rfl), below_step Q_HB hb⟩
    refine steps_cons ?_ ?_
    ·rintro b a w' ⟨ha, Q_HB⟩ hb_ hon hoff
     refine ⟨_, rfl, fun K hK => ?_⟩
     have e82 : a.tmps[82]? = some (.int .i64 n) := by rw [ha];exact putSel_on (e := (2, 82, .int .i64 n)) 2 rfl rfl (hon 2 (by kernel_rfl)) rfl
     have e84 : a.tmps[84]? = some (.int .i64 mb) := by rw [ha];exact putSel_on (e := (4, 84, .int .i64 mb)) 4 rfl rfl (hon 4 (by kernel_rfl)) rfl
     replace ha := m0_ ha
     refine value_ (w1 := w') (v := .int .i64 (wrap64 (n + mb))) (by rfl) rfl ?_ ?_
     ·go_simp
      (try simp only [i64_w])
      try rfl
     refine hK.out _ _ ⟨(by rw [ha.out];exact putSel_upk 5 hb_ rfl rfl rfl), Q_HB⟩
    refine steps_cons ?_ ?_
    ·rintro b a w' ⟨ha, Q_HB⟩ hb_ hon hoff
     refine ⟨_, rfl, fun K hK => ?_⟩
     have e85 : a.tmps[85]? = some (.int .i64 (wrap64 (n + mb))) := by rw [ha];exact putSel_on (e := (5, 85, .int .i64 (wrap64 (n + mb)))) 5 rfl rfl (hon 5 (by kernel_rfl)) rfl
     replace ha := m0_ ha
     refine value_ (w1 := w') (v := .int .i64 (wrap64 (wrap64 (n + mb) + 1))) (by rfl) rfl ?_ ?_
     ·go_simp
      (try simp only [i64_w])
      try rfl
     refine hK.out _ _ ⟨(by rw [ha.out];exact putSel_upk 6 hb_ rfl rfl rfl), Q_HB⟩
    refine steps_cons ?_ ?_
    ·rintro b a w' ⟨ha, Q_HB⟩ hb_ hon hoff
     refine ⟨_, rfl, fun K hK => ?_⟩
     have e81 : a.tmps[81]? = some (.int .i64 mq) := by rw [ha];exact putSel_on (e := (1, 81, .int .i64 mq)) 1 rfl rfl (hon 1 (by kernel_rfl)) rfl
     have e86 : a.tmps[86]? = some (.int .i64 (wrap64 (wrap64 (n + mb) + 1))) := by rw [ha];exact putSel_on (e := (6, 86, .int .i64 (wrap64 (wrap64 (n + mb) + 1)))) 6 rfl rfl (hon 6 (by kernel_rfl)) rfl
     replace ha := m0_ ha
     refine value_ (w1 := w') (v := .bool false) (by rfl) rfl ?_ ?_
     ·rw [show Value.bool false = Value.bool (mq != wrap64 (wrap64 (n + mb) + 1)) from by rw [HQ1.out, bne_self_eq_false]];go_simp
      (try simp only [i64_w])
      try rfl
     refine hK.out _ _ ⟨(by rw [ha.out];exact putSel_upk 7 hb_ rfl rfl rfl), Q_HB⟩
    refine steps_cons ?_ ?_
    ·rintro b a w' ⟨ha, Q_HB⟩ hb_ hon hoff
     refine ⟨_, rfl, fun K hK => ?_⟩
     have e87 : a.tmps[87]? = some (.bool false) := by rw [ha];exact putSel_on (e := (7, 87, .bool false)) 7 rfl rfl (hon 7 (by kernel_rfl)) rfl
     replace ha := m0_ ha
     refine value_ (w1 := w') (v := .bool false) (by rfl) rfl ?_ ?_
     ·go_simp
      (try simp only [i64_w])
      try rfl
     refine hK.out _ _ ⟨(by rw [ha.out];exact putSel_upk 8 hb_ rfl rfl rfl), Q_HB⟩
    refine steps_cons ?_ ?_
    ·rintro b a w' ⟨ha, Q_HB⟩ hb_ hon hoff
     refine ⟨_, rfl, fun K hK => ?_⟩
     have e10 : a.tmps[10]? = some (.slice AU u.length cU) := by rw [ha];exact (putSel_off rfl).trans rfl
     have e88 : a.tmps[88]? = some (.bool false) := by rw [ha];exact putSel_on (e := (8, 88, .bool false)) 8 rfl rfl (hon 8 (by kernel_rfl)) rfl
     replace ha := m0_ ha
     refine value_ (w1 := w') (v := .slice AU u.length cU) (wanted_on rfl rfl rfl (e88.trans (by first | rfl | (simp [*];done)))) rfl ?_ ?_
     ·go_simp
      (try simp only [i64_w])
      try rfl
     refine hK.out _ _ ⟨(by rw [ha.out];exact putSel_upk 9 hb_ rfl rfl rfl), Q_HB⟩
    refine steps_cons ?_ ?_
    ·rintro b a w' ⟨ha, Q_HB⟩ hb_ hon hoff
     refine ⟨_, rfl, fun K hK => ?_⟩
     have e89 : a.tmps[89]? = some (.slice AU u.length cU) := by rw [ha];exact putSel_on (e := (9, 89, .slice AU u.length cU)) 9 rfl rfl (hon 9 (by kernel_rfl)) rfl
     have e88 : a.tmps[88]? = some (.bool false) := by rw [ha];exact putSel_on (e := (8, 88, .bool false)) 8 rfl rfl (hon 8 (by kernel_rfl)) rfl
     replace ha := m0_ ha
     refine value_ (w1 := w') (v := .int .i64 (u.length : Int)) (wanted_on rfl rfl rfl (e88.trans (by first | rfl | (simp [*];done)))) rfl ?_ ?_
     ·go_simp
      (try simp only [i64_w])
      try rfl
     refine hK.out _ _ ⟨(by rw [ha.out];exact putSel_upk 10 hb_ rfl rfl rfl), Q_HB⟩
    refine steps_cons ?_ ?_
    ·rintro b a w' ⟨ha, Q_HB⟩ hb_ hon hoff
     refine ⟨_, rfl, fun K hK => ?_⟩
     have e6 : a.tmps[6]? = some (.slice AS s.length cS) := by rw [ha];exact (putSel_off rfl).trans rfl
     have e88 : a.tmps[88]? = some (.bool false) := by rw [ha];exact putSel_on (e := (8, 88, .bool false)) 8 rfl rfl (hon 8 (by kernel_rfl)) rfl
     replace ha := m0_ ha
     refine value_ (w1 := w') (v := .slice AS s.length cS) (wanted_on rfl rfl rfl (e88.trans (by first | rfl | (simp [*];done)))) rfl ?_ ?_
     ·go_simp
      (try simp only [i64_w])
      try rfl
     refine hK.out _ _ ⟨(by rw [ha.out];exact putSel_upk 11 hb_ rfl rfl rfl), Q_HB⟩
    refine steps_cons ?_ ?_
    ·rintro b a w' ⟨ha, Q_HB⟩ hb_ hon hoff
     refine ⟨_, rfl, fun K hK => ?_⟩
     have e91 : a.tmps[91]? = some (.slice AS s.length cS) := by rw [ha];exact putSel_on (e := (11, 91, .slice AS s.length cS)) 11 rfl rfl (hon 11 (by kernel_rfl)) rfl
     have e88 : a.tmps[88]? = some (.bool false) := by rw [ha];exact putSel_on (e := (8, 88, .bool false)) 8 rfl rfl (hon 8 (by kernel_rfl)) rfl
     replace ha := m0_ ha
     refine value_ (w1 := w') (v := .int .i64 (s.length : Int)) (wanted_on rfl rfl rfl (e88.trans (by first | rfl | (simp [*];done)))) rfl ?_ ?_
     ·go_simp
      (try simp only [i64_w])
      try rfl
     refine hK.out _ _ ⟨(by rw [ha.out];exact putSel_upk 12 hb_ rfl rfl rfl), Q_HB⟩
    refine steps_cons ?_ ?_
    ·rintro b a w' ⟨ha, Q_HB⟩ hb_ hon hoff
     refine ⟨_, rfl, fun K hK => ?_⟩
     have e90 : a.tmps[90]? = some (.int .i64 (u.length : Int)) := by rw [ha];exact putSel_on (e := (10, 90, .int .i64 (u.length : Int))) 10 rfl rfl (hon 10 (by kernel_rfl)) rfl
     have e92 : a.tmps[92]? = some (.int .i64 (s.length : Int)) := by rw [ha];exact putSel_on (e := (12, 92, .int .i64 (s.length : Int))) 12 rfl rfl (hon 12 (by kernel_rfl)) rfl
     have e88 : a.tmps[88]? = some (.bool false) := by rw [ha];exact putSel_on (e := (8, 88, .bool false)) 8 rfl rfl (hon 8 (by kernel_rfl)) rfl
     replace ha := m0_ ha
     refine value_ (w1 := w') (v := .bool false) (wanted_on rfl rfl rfl (e88.trans (by first | rfl | (simp [*];done)))) rfl ?_ ?_
     ·rw [show Value.bool false = Value.bool (decide ((u.length : Int) < (s.length : Int))) from by rw [decide_eq_false (by have q_ := HQ2.out;omega)]];go_simp
      (try simp only [i64_w])
      try rfl
     refine hK.out _ _ ⟨(by rw [ha.out];exact putSel_upk 13 hb_ rfl rfl rfl), Q_HB⟩
    refine steps_cons ?_ ?_
    ·rintro b a w' ⟨ha, Q_HB⟩ hb_ hon hoff
     refine ⟨_, rfl, fun K hK => ?_⟩
     have e88 : a.tmps[88]? = some (.bool false) := by rw [ha];exact putSel_on (e := (8, 88, .bool false)) 8 rfl rfl (hon 8 (by kernel_rfl)) rfl
     have e93 : a.tmps[93]? = some (.bool false) := by rw [ha];exact putSel_on (e := (13, 93, .bool false)) 13 rfl rfl (hon 13 (by kernel_rfl)) rfl
     replace ha := m0_ ha
     refine value_ (w1 := w') (v := .bool false) (by rfl) rfl ?_ ?_
     ·go_simp
      (try simp only [i64_w])
      try rfl
     refine hK.out _ _ ⟨(by rw [ha.out];exact putSel_upk 14 hb_ rfl rfl rfl), Q_HB⟩
    refine steps_cons ?_ ?_
    ·rintro b a w' ⟨ha, Q_HB⟩ hb_ hon hoff
     refine ⟨_, rfl, fun K hK => ?_⟩
     have e94 : a.tmps[94]? = some (.bool false) := by rw [ha];exact putSel_on (e := (14, 94, .bool false)) 14 rfl rfl (hon 14 (by kernel_rfl)) rfl
     replace ha := m0_ ha
     refine value_ (w1 := w') (v := .bool false) (by rfl) rfl ?_ ?_
     ·go_simp
      (try simp only [i64_w])
      try rfl
     refine hK.out _ _ ⟨(by rw [ha.out];exact putSel_upk 15 hb_ rfl rfl rfl), Q_HB⟩
    refine steps_cons ?_ ?_
    ·rintro b a w' ⟨ha, Q_HB⟩ hb_ hon hoff
     refine ⟨_, rfl, fun K hK => ?_⟩
     have e10 : a.tmps[10]? = some (.slice AU u.length cU) := by rw [ha];exact (putSel_off rfl).trans rfl
     have e95 : a.tmps[95]? = some (.bool false) := by rw [ha];exact putSel_on (e := (15, 95, .bool false)) 15 rfl rfl (hon 15 (by kernel_rfl)) rfl
     replace ha := m0_ ha
     refine value_ (w1 := w') (v := .slice AU u.length cU) (wanted_on rfl rfl rfl (e95.trans (by first | rfl | (simp [*];done)))) rfl ?_ ?_
     ·go_simp
      (try simp only [i64_w])
      try rfl
     refine hK.out _ _ ⟨(by rw [ha.out];exact putSel_upk 16 hb_ rfl rfl rfl), Q_HB⟩
    refine steps_cons ?_ ?_
    ·rintro b a w' ⟨ha, Q_HB⟩ hb_ hon hoff
     refine ⟨_, rfl, fun K hK => ?_⟩
     have e96 : a.tmps[96]? = some (.slice AU u.length cU) := by rw [ha];exact putSel_on (e := (16, 96, .slice AU u.length cU)) 16 rfl rfl (hon 16 (by kernel_rfl)) rfl
     have e95 : a.tmps[95]? = some (.bool false) := by rw [ha];exact putSel_on (e := (15, 95, .bool false)) 15 rfl rfl (hon 15 (by kernel_rfl)) rfl
     replace ha := m0_ ha
     refine value_ (w1 := w') (v := .int .i64 (u.length : Int)) (wanted_on rfl rfl rfl (e95.trans (by first | rfl | (simp [*];done)))) rfl ?_ ?_
     ·go_simp
      (try simp only [i64_w])
      try rfl
     refine hK.out _ _ ⟨(by rw [ha.out];exact putSel_upk 17 hb_ rfl rfl rfl), Q_HB⟩
    refine steps_cons ?_ ?_
    ·rintro b a w' ⟨ha, Q_HB⟩ hb_ hon hoff
     refine ⟨_, rfl, fun K hK => ?_⟩
     have e9 : a.tmps[9]? = some (.slice AT t.length cT) := by rw [ha];exact (putSel_off rfl).trans rfl
     have e95 : a.tmps[95]? = some (.bool false) := by rw [ha];exact putSel_on (e := (15, 95, .bool false)) 15 rfl rfl (hon 15 (by kernel_rfl)) rfl
     replace ha := m0_ ha
     refine value_ (w1 := w') (v := .slice AT t.length cT) (wanted_on rfl rfl rfl (e95.trans (by first | rfl | (simp [*];done)))) rfl ?_ ?_
     ·go_simp
      (try simp only [i64_w])
      try rfl
     refine hK.out _ _ ⟨(by rw [ha.out];exact putSel_upk 18 hb_ rfl rfl rfl), Q_HB⟩
    refine steps_cons ?_ ?_
    ·rintro b a w' ⟨ha, Q_HB⟩ hb_ hon hoff
     refine ⟨_, rfl, fun K hK => ?_⟩
     have e98 : a.tmps[98]? = some (.slice AT t.length cT) := by rw [ha];exact putSel_on (e := (18, 98, .slice AT t.length cT)) 18 rfl rfl (hon 18 (by kernel_rfl)) rfl
     have e95 : a.tmps[95]? = some (.bool false) := by rw [ha];exact putSel_on (e := (15, 95, .bool false)) 15 rfl rfl (hon 15 (by kernel_rfl)) rfl
     replace ha := m0_ ha
     refine value_ (w1 := w') (v := .int .i64 (t.length : Int)) (wanted_on rfl rfl rfl (e95.trans (by first | rfl | (simp [*];done)))) rfl ?_ ?_
     ·go_simp
      (try simp only [i64_w])
      try rfl
     refine hK.out _ _ ⟨(by rw [ha.out];exact putSel_upk 19 hb_ rfl rfl rfl), Q_HB⟩
    refine steps_cons ?_ ?_
    ·rintro b a w' ⟨ha, Q_HB⟩ hb_ hon hoff
     refine ⟨_, rfl, fun K hK => ?_⟩
     have e97 : a.tmps[97]? = some (.int .i64 (u.length : Int)) := by rw [ha];exact putSel_on (e := (17, 97, .int .i64 (u.length : Int))) 17 rfl rfl (hon 17 (by kernel_rfl)) rfl
     have e99 : a.tmps[99]? = some (.int .i64 (t.length : Int)) := by rw [ha];exact putSel_on (e := (19, 99, .int .i64 (t.length : Int))) 19 rfl rfl (hon 19 (by kernel_rfl)) rfl
     have e95 : a.tmps[95]? = some (.bool false) := by rw [ha];exact putSel_on (e := (15, 95, .bool false)) 15 rfl rfl (hon 15 (by kernel_rfl)) rfl
     replace ha := m0_ ha
     refine value_ (w1 := w') (v := .bool false) (wanted_on rfl rfl rfl (e95.trans (by first | rfl | (simp [*];done)))) rfl ?_ ?_
     ·rw [show Value.bool false = Value.bool (decide ((u.length : Int) < (t.length : Int))) from by rw [decide_eq_false (by have q_ := HQ3.out;omega)]];go_simp
      (try simp only [i64_w])
      try rfl
     refine hK.out _ _ ⟨(by rw [ha.out];exact putSel_upk 20 hb_ rfl rfl rfl), Q_HB⟩
    refine steps_cons ?_ ?_
    ·rintro b a w' ⟨ha, Q_HB⟩ hb_ hon hoff
     refine ⟨_, rfl, fun K hK => ?_⟩
     have e95 : a.tmps[95]? = some (.bool false) := by rw [ha];exact putSel_on (e := (15, 95, .bool false)) 15 rfl rfl (hon 15 (by kernel_rfl)) rfl
     have e100 : a.tmps[100]? = some (.bool false) := by rw [ha];exact putSel_on (e := (20, 100, .bool false)) 20 rfl rfl (hon 20 (by kernel_rfl)) rfl
     replace ha := m0_ ha
     refine value_ (w1 := w') (v := .bool false) (by rfl) rfl ?_ ?_
     ·go_simp
      (try simp only [i64_w])
      try rfl
     refine hK.out _ _ ⟨(by rw [ha.out];exact putSel_upk 21 hb_ rfl rfl rfl), Q_HB⟩
    refine steps_cons ?_ ?_
    ·rintro b a w' ⟨ha, Q_HB⟩ hb_ hon hoff
     refine ⟨_, rfl, fun K hK => ?_⟩
     have e101 : a.tmps[101]? = some (.bool false) := by rw [ha];exact putSel_on (e := (21, 101, .bool false)) 21 rfl rfl (hon 21 (by kernel_rfl)) rfl
     replace ha := m0_ ha
     refine value_ (w1 := w') (v := .bool false) (by rfl) rfl ?_ ?_
     ·go_simp
      (try simp only [i64_w])
      try rfl
     refine hK.out _ _ ⟨(by rw [ha.out];exact putSel_upk 22 hb_ rfl rfl rfl), Q_HB⟩
    refine steps_cons ?_ ?_
    ·rintro b a w' ⟨ha, Q_HB⟩ hb_ hon hoff
     refine ⟨_, rfl, fun K hK => ?_⟩
     have e10 : a.tmps[10]? = some (.slice AU u.length cU) := by rw [ha];exact (putSel_off rfl).trans rfl
     have e102 : a.tmps[102]? = some (.bool false) := by rw [ha];exact putSel_on (e := (22, 102, .bool false)) 22 rfl rfl (hon 22 (by kernel_rfl)) rfl
     replace ha := m0_ ha
     refine value_ (w1 := w') (v := .slice AU u.length cU) (wanted_on rfl rfl rfl (e102.trans (by first | rfl | (simp [*];done)))) rfl ?_ ?_
     ·go_simp
      (try simp only [i64_w])
      try rfl
     refine hK.out _ _ ⟨(by rw [ha.out];exact putSel_upk 23 hb_ rfl rfl rfl), Q_HB⟩
    refine steps_cons ?_ ?_
    ·rintro b a w' ⟨ha, Q_HB⟩ hb_ hon hoff
     refine ⟨_, rfl, fun K hK => ?_⟩
     have e103 : a.tmps[103]? = some (.slice AU u.length cU) := by rw [ha];exact putSel_on (e := (23, 103, .slice AU u.length cU)) 23 rfl rfl (hon 23 (by kernel_rfl)) rfl
     have e102 : a.tmps[102]? = some (.bool false) := by rw [ha];exact putSel_on (e := (22, 102, .bool false)) 22 rfl rfl (hon 22 (by kernel_rfl)) rfl
     replace ha := m0_ ha
     refine value_ (w1 := w') (v := .int .i64 (u.length : Int)) (wanted_on rfl rfl rfl (e102.trans (by first | rfl | (simp [*];done)))) rfl ?_ ?_
     ·go_simp
      (try simp only [i64_w])
      try rfl
     refine hK.out _ _ ⟨(by rw [ha.out];exact putSel_upk 24 hb_ rfl rfl rfl), Q_HB⟩
    refine steps_cons ?_ ?_
    ·rintro b a w' ⟨ha, Q_HB⟩ hb_ hon hoff
     refine ⟨_, rfl, fun K hK => ?_⟩
     have e6 : a.tmps[6]? = some (.slice AS s.length cS) := by rw [ha];exact (putSel_off rfl).trans rfl
     have e102 : a.tmps[102]? = some (.bool false) := by rw [ha];exact putSel_on (e := (22, 102, .bool false)) 22 rfl rfl (hon 22 (by kernel_rfl)) rfl
     replace ha := m0_ ha
     refine value_ (w1 := w') (v := .slice AS s.length cS) (wanted_on rfl rfl rfl (e102.trans (by first | rfl | (simp [*];done)))) rfl ?_ ?_
     ·go_simp
      (try simp only [i64_w])
      try rfl
     refine hK.out _ _ ⟨(by rw [ha.out];exact putSel_upk 25 hb_ rfl rfl rfl), Q_HB⟩
    refine steps_cons ?_ ?_
    ·rintro b a w' ⟨ha, Q_HB⟩ hb_ hon hoff
     refine ⟨_, rfl, fun K hK => ?_⟩
     have e105 : a.tmps[105]? = some (.slice AS s.length cS) := by rw [ha];exact putSel_on (e := (25, 105, .slice AS s.length cS)) 25 rfl rfl (hon 25 (by kernel_rfl)) rfl
     have e102 : a.tmps[102]? = some (.bool false) := by rw [ha];exact putSel_on (e := (22, 102, .bool false)) 22 rfl rfl (hon 22 (by kernel_rfl)) rfl
     replace ha := m0_ ha
     refine value_ (w1 := w') (v := .int .i64 (s.length : Int)) (wanted_on rfl rfl rfl (e102.trans (by first | rfl | (simp [*];done)))) rfl ?_ ?_
     ·go_simp
      (try simp only [i64_w])
      try rfl
     refine hK.out _ _ ⟨(by rw [ha.out];exact putSel_upk 26 hb_ rfl rfl rfl), Q_HB⟩
    refine steps_cons ?_ ?_
    ·rintro b a w' ⟨ha, Q_HB⟩ hb_ hon hoff
     refine ⟨_, rfl, fun K hK => ?_⟩
     have e9 : a.tmps[9]? = some (.slice AT t.length cT) := by rw [ha];exact (putSel_off rfl).trans rfl
     have e102 : a.tmps[102]? = some (.bool false) := by rw [ha];exact putSel_on (e := (22, 102, .bool false)) 22 rfl rfl (hon 22 (by kernel_rfl)) rfl
     replace ha := m0_ ha
     refine value_ (w1 := w') (v := .slice AT t.length cT) (wanted_on rfl rfl rfl (e102.trans (by first | rfl | (simp [*];done)))) rfl ?_ ?_
     ·go_simp
      (try simp only [i64_w])
      try rfl
     refine hK.out _ _ ⟨(by rw [ha.out];exact putSel_upk 27 hb_ rfl rfl rfl), Q_HB⟩
    refine steps_cons ?_ ?_
    ·rintro b a w' ⟨ha, Q_HB⟩ hb_ hon hoff
     refine ⟨_, rfl, fun K hK => ?_⟩
     have e107 : a.tmps[107]? = some (.slice AT t.length cT) := by rw [ha];exact putSel_on (e := (27, 107, .slice AT t.length cT)) 27 rfl rfl (hon 27 (by kernel_rfl)) rfl
     have e102 : a.tmps[102]? = some (.bool false) := by rw [ha];exact putSel_on (e := (22, 102, .bool false)) 22 rfl rfl (hon 22 (by kernel_rfl)) rfl
     replace ha := m0_ ha
     refine value_ (w1 := w') (v := .int .i64 (t.length : Int)) (wanted_on rfl rfl rfl (e102.trans (by first | rfl | (simp [*];done)))) rfl ?_ ?_
     ·go_simp
      (try simp only [i64_w])
      try rfl
     refine hK.out _ _ ⟨(by rw [ha.out];exact putSel_upk 28 hb_ rfl rfl rfl), Q_HB⟩
    refine steps_cons ?_ ?_
    ·rintro b a w' ⟨ha, Q_HB⟩ hb_ hon hoff
     refine ⟨_, rfl, fun K hK => ?_⟩
     have e106 : a.tmps[106]? = some (.int .i64 (s.length : Int)) := by rw [ha];exact putSel_on (e := (26, 106, .int .i64 (s.length : Int))) 26 rfl rfl (hon 26 (by kernel_rfl)) rfl
     have e108 : a.tmps[108]? = some (.int .i64 (t.length : Int)) := by rw [ha];exact putSel_on (e := (28, 108, .int .i64 (t.length : Int))) 28 rfl rfl (hon 28 (by kernel_rfl)) rfl
     have e102 : a.tmps[102]? = some (.bool false) := by rw [ha];exact putSel_on (e := (22, 102, .bool false)) 22 rfl rfl (hon 22 (by kernel_rfl)) rfl
     replace ha := m0_ ha
     refine value_ (w1 := w') (v := .int .i64 (wrap64 ((s.length : Int) + (t.length : Int)))) (wanted_on rfl rfl rfl (e102.trans (by first | rfl | (simp [*];done)))) rfl ?_ ?_
     ·go_simp
      (try simp only [i64_w])
      try rfl
     refine hK.out _ _ ⟨(by rw [ha.out];exact putSel_upk 29 hb_ rfl rfl rfl), Q_HB⟩
    refine steps_cons ?_ ?_
    ·rintro b a w' ⟨ha, Q_HB⟩ hb_ hon hoff
     refine ⟨_, rfl, fun K hK => ?_⟩
     have e104 : a.tmps[104]? = some (.int .i64 (u.length : Int)) := by rw [ha];exact putSel_on (e := (24, 104, .int .i64 (u.length : Int))) 24 rfl rfl (hon 24 (by kernel_rfl)) rfl
     have e109 : a.tmps[109]? = some (.int .i64 (wrap64 ((s.length : Int) + (t.length : Int)))) := by rw [ha];exact putSel_on (e := (29, 109, .int .i64 (wrap64 ((s.length : Int) + (t.length : Int))))) 29 rfl rfl (hon 29 (by kernel_rfl)) rfl
     have e102 : a.tmps[102]? = some (.bool false) := by rw [ha];exact putSel_on (e := (22, 102, .bool false)) 22 rfl rfl (hon 22 (by kernel_rfl)) rfl
     replace ha := m0_ ha
     refine value_ (w1 := w') (v := .bool false) (wanted_on rfl rfl rfl (e102.trans (by first | rfl | (simp [*];done)))) rfl ?_ ?_
     ·rw [show Value.bool false = Value.bool (decide ((u.length : Int) > wrap64 ((s.length : Int) + (t.length : Int)))) from by rw [decide_eq_false (by have q_ := HQ4.out;omega)]];go_simp
      (try simp only [i64_w])
      try rfl
     refine hK.out _ _ ⟨(by rw [ha.out];exact putSel_upk 30 hb_ rfl rfl rfl), Q_HB⟩
    refine steps_cons ?_ ?_
    ·rintro b a w' ⟨ha, Q_HB⟩ hb_ hon hoff
     refine ⟨_, rfl, fun K hK => ?_⟩
     have e102 : a.tmps[102]? = some (.bool false) := by rw [ha];exact putSel_on (e := (22, 102, .bool false)) 22 rfl rfl (hon 22 (by kernel_rfl)) rfl
     have e110 : a.tmps[110]? = some (.bool false) := by rw [ha];exact putSel_on (e := (30, 110, .bool false)) 30 rfl rfl (hon 30 (by kernel_rfl)) rfl
     replace ha := m0_ ha
     refine value_ (w1 := w') (v := .bool false) (by rfl) rfl ?_ ?_
     ·go_simp
      (try simp only [i64_w])
      try rfl
     refine hK.out _ _ ⟨(by rw [ha.out];exact putSel_upk 31 hb_ rfl rfl rfl), Q_HB⟩
    exact steps_nil
   rintro b a v15 hall ⟨ha, Q_HB⟩
   have hb0_ := hall 0 (by kernel_rfl)
   have hb1_ := hall 1 (by kernel_rfl)
   have hb2_ := hall 2 (by kernel_rfl)
   have hb3_ := hall 3 (by kernel_rfl)
   have hb4_ := hall 4 (by kernel_rfl)
   have hb5_ := hall 5 (by kernel_rfl)
   have hb6_ := hall 6 (by kernel_rfl)
   have hb7_ := hall 7 (by kernel_rfl)
   have hb8_ := hall 8 (by kernel_rfl)
   have hb9_ := hall 9 (by kernel_rfl)
   have hb10_ := hall 10 (by kernel_rfl)
   have hb11_ := hall 11 (by kernel_rfl)
   have hb12_ := hall 12 (by kernel_rfl)
   have hb13_ := hall 13 (by kernel_rfl)
   have hb14_ := hall 14 (by kernel_rfl)
   have hb15_ := hall 15 (by kernel_rfl)
   have hb16_ := hall 16 (by kernel_rfl)
   have hb17_ := hall 17 (by kernel_rfl)
   have hb18_ := hall 18 (by kernel_rfl)
   have hb19_ := hall 19 (by kernel_rfl)
   have hb20_ := hall 20 (by kernel_rfl)
   have hb21_ := hall 21 (by kernel_rfl)
   have hb22_ := hall 22 (by kernel_rfl)
   have hb23_ := hall 23 (by kernel_rfl)
   have hb24_ := hall 24 (by kernel_rfl)
   have hb25_ := hall 25 (by kernel_rfl)
   have hb26_ := hall 26 (by kernel_rfl)
   have hb27_ := hall 27 (by kernel_rfl)
   have hb28_ := hall 28 (by kernel_rfl)
   have hb29_ := hall 29 (by kernel_rfl)
   have hb30_ := hall 30 (by kernel_rfl)
   have hb31_ := hall 31 (by kernel_rfl)
   subst ha
   simp only [putSel, hb0_, hb1_, hb2_, hb3_, hb4_, hb5_, hb6_, hb7_, hb8_, hb9_, hb10_, hb11_, hb12_, hb13_, hb14_, hb15_, hb16_, hb17_, hb18_, hb19_, hb20_, hb21_, hb22_, hb23_, hb24_, hb25_, hb26_, hb27_, hb28_, hb29_, hb30_, hb31_, if_true, Act.put, List.setIfInBounds_toArray, List.set_cons_zero, List.set_cons_succ]
   replace FA := m0_ (Kd.N_below FA.out Q_HB);replace FB := m0_ (Kd.N_below FB.out Q_HB);replace FS := m0_ (Kd.R_below FS.out Q_HB);replace FP := m0_ (Kd.N_below FP.out Q_HB);replace FQ := m0_ (Kd.N_below FQ.out Q_HB);replace FW := m0_ (Kd.R_below FW.out Q_HB);replace FT := m0_ (Kd.R_below FT.out Q_HB);replace FU := m0_ (Kd.R_below FU.out Q_HB);replace BK3 := m0_ (blk_below BK3.out Q_HB);replace BK4 := m0_ (blk_below BK4.out Q_HB);replace BK7 := m0_ (blk_below BK7.out Q_HB);replace BK8 := m0_ (blk_below BK8.out Q_HB);replace HB := m0_ (below_step HB.out Q_HB)
   have Zv15 := m0_ (show u15.heap.size ≤ v15.heap.size from Below.size Q_HB)
   clear Q_HB hall  hb0_ hb1_ hb2_ hb3_ hb4_ hb5_ hb6_ hb7_ hb8_ hb9_ hb10_ hb11_ hb12_ hb13_ hb14_ hb15_ hb16_ hb17_ hb18_ hb19_ hb20_ hb21_ hb22_ hb23_ hb24_ hb25_ hb26_ hb27_ hb28_ hb29_ hb30_ hb31_
   have hz3_0 := (blk_cell BK3.out 0).trans (show _ = some (Value.int .i64 a0) from rfl);have hz3_1 := (blk_cell BK3.out 1).trans (show _ = some (Value.int .i64 a1) from rfl);have hz3_2 := (blk_cell BK3.out 2).trans (show _ = some (Value.int .i64 a2) from rfl);have hz3_3 := (blk_cell BK3.out 3).trans (show _ = some (Value.slice AA la.length cA) from rfl)
   go_wp2_with (go_at_call 13;fail)
   clear hz3_0 hz3_1 hz3_2 hz3_3
   refine (spec_ExOk.calls k a0 a1 a2 _ _ la oa _ ?s1 ?s2 TOA.out).mono ?_
   (case s1 => exact (Kd.N_reads' FA.out).2.2)
   (case s2 => exact (Kd.N_reads' FA.out).2.1)
   rintro e w10 ⟨rfl, hb⟩
   have Zw10 := m0_ (show v15.heap.size ≤ w10.heap.size from hb.size)
   replace FA := m0_ (Kd.N_below FA.out hb);replace FB := m0_ (Kd.N_below FB.out hb);replace FS := m0_ (Kd.R_below FS.out hb);replace FP := m0_ (Kd.N_below FP.out hb);replace FQ := m0_ (Kd.N_below FQ.out hb);replace FW := m0_ (Kd.R_below FW.out hb);replace FT := m0_ (Kd.R_below FT.out hb);replace FU := m0_ (Kd.R_below FU.out hb);replace BK3 := m0_ (blk_below BK3.out hb);replace BK4 := m0_ (blk_below BK4.out hb);replace BK7 := m0_ (blk_below BK7.out hb);replace BK8 := m0_ (blk_below BK8.out hb);replace HB := m0_ (below_step HB.out hb)
   clear hb
   have hl1_ := HL1.out
   have hz3_0 := (blk_cell BK3.out 0).trans (show _ = some (Value.int .i64 a0) from rfl);have hz3_1 := (blk_cell BK3.out 1).trans (show _ = some (Value.int .i64 a1) from rfl);have hz3_2 := (blk_cell BK3.out 2).trans (show _ = some (Value.int .i64 a2) from rfl);have hz3_3 := (blk_cell BK3.out 3).trans (show _ = some (Value.slice AA la.length cA) from rfl)
   go_wp2_with (go_at_call 13;fail)
   clear hz3_0 hz3_1 hz3_2 hz3_3
   refine (spec_ExOk.calls k a0 a1 a2 _ _ la oa _ ?s1 ?s2 TOA.out).mono ?_
   (case s1 => exact (Kd.N_reads' FA.out).2.2)
   (case s2 => exact (Kd.N_reads' FA.out).2.1)
   rintro e w11 ⟨rfl, hb⟩
   have Zw11 := m0_ (show w10.heap.size ≤ w11.heap.size from hb.size)
   replace FA := m0_ (Kd.N_below FA.out hb);replace FB := m0_ (Kd.N_below FB.out hb);replace FS := m0_ (Kd.R_below FS.out hb);replace FP := m0_ (Kd.N_below FP.out hb);replace FQ := m0_ (Kd.N_below FQ.out hb);replace FW := m0_ (Kd.R_below FW.out hb);replace FT := m0_ (Kd.R_below FT.out hb);replace FU := m0_ (Kd.R_below FU.out hb);replace BK3 := m0_ (blk_below BK3.out hb);replace BK4 := m0_ (blk_below BK4.out hb);replace BK7 := m0_ (blk_below BK7.out hb);replace BK8 := m0_ (blk_below BK8.out hb);replace HB := m0_ (below_step HB.out hb)
   clear hb
   go_wp2
   go_ret
   exact ⟨congrArg (fun b_ : Bool => Ending.returned (.bool b_)) HL2.out, HB.out⟩

end Go.Proofs.Ytbcdfbiggjfmlaa.M
namespace Go.Proofs.Ytbcdfbiggjfmlaa.M
set_option linter.unusedVariables false
set_option linter.unusedSimpArgs false
open Go.RowKit Go.Proofs.YtbcdfbiggjfmlaaW.PrintWords Go.Proofs.YtbcdfbiggjfmlaaW.PrintLast

theorem maxLen_le {n : Nat} (h : n ≤ maxLen) : n ≤ 9223372036854775807 := by unfold maxLen at h; omega
end Go.Proofs.Ytbcdfbiggjfmlaa.M
namespace Go.Proofs.Ytbcdfbiggjfmlaa.M
open Go.RowKit Go.Proofs.YtbcdfbiggjfmlaaW.PrintWords Go.Proofs.YtbcdfbiggjfmlaaW.PrintLast Go.Proofs.YtbcdfbiggjfmlaaW.PrintMore
attribute [local go_sem] max2_int min2_int max_two min_two max_three min_three max_four min_four
set_option linter.unusedVariables false
set_option linter.unusedSimpArgs false


end Go.Proofs.Ytbcdfbiggjfmlaa.M
namespace Go.Proofs.Ytbcdfbiggjfmlaa.M
set_option linter.unusedVariables false
set_option linter.unusedSimpArgs false
open Go.RowKit Go.Proofs.YtbcdfbiggjfmlaaW.PrintWords Go.Proofs.YtbcdfbiggjfmlaaW.PrintLast

theorem indI {P : S29 → Prop} (h : ∀ x, (∀ y ∈ x.f3, P y) → P x) : ∀ x, P x := by
  have key : ∀ n, ∀ x : S29, SizeOf.sizeOf x ≤ n → P x := by
    intro n
    induction n with
    | zero => intro x hx; cases x; simp at hx
    | succ n ih =>
      intro x hx
      refine h x (fun y hy => ih y ?_)
      have := List.sizeOf_lt_of_mem hy
      cases x
      simp at *
      omega
  exact fun x => key _ x (Nat.le_refl _)

mutual
def allY : S29 → Nat
  | ⟨_, _, _, l⟩ => l.length + kidsY l
def kidsY : List S29 → Nat
  | [] => 0
  | x :: xs => allY x + kidsY xs
end
theorem allY_is (x : S29) : allY x = x.f3.length + kidsY x.f3 := by cases x; simp [allY]
theorem kidsY_cons (x : S29) (l : List S29) : kidsY (x :: l) = allY x + kidsY l := by simp [kidsY]
theorem kidsY_nil : kidsY [] = 0 := by simp [kidsY]
theorem kidsY_mem {l : List S29} {x : S29} (h : x ∈ l) : allY x ≤ kidsY l := by
  induction l with
  | nil => simp at h
  | cons y l ih =>
    rw [kidsY_cons]
    rcases List.mem_cons.1 h with rfl | h
    · omega
    · have := ih h
      omega
theorem allY_mem {x y : S29} (h : y ∈ x.f3) : allY y + 1 ≤ allY x := by
  have := kidsY_mem h
  have h2 := List.length_pos_of_mem h
  rw [allY_is x]
  omega
theorem allY_len {x : S29} : x.f3.length ≤ allY x := by rw [allY_is]; omega
theorem rdI (l : List S29) (n : Nat) (h : n < l.length) : rd_T29 l (n : Int) = l[n] := by
  show l.getD n z29 = _
  rw [List.getD_eq_getElem?_getD, List.getElem?_eq_getElem h]
  rfl

def SameOk (a : S29) : Prop := ∀ b : S29, ∃ r, Ev (fun k => spec_ExSame.f k a.f0 a.f1 a.f2 a.f3 b.f0 b.f1 b.f2 b.f3) r ∧ Ev (fun k => impl_ExSame.f k a.f0 a.f1 a.f2 a.f3 b.f0 b.f1 b.f2 b.f3) r
theorem same_l0_ev (l m : List S29) (hl : l.length ≤ 1048576) (hm : l.length = m.length) (hs : ∀ x ∈ l, SameOk x) (p q r p' q' r' : Int) : ∀ (d n : Nat), n + d = l.length → ∃ v, Ev (fun k => spec_ExSame.l0 k (n : Int) p q r l p' q' r' m) v ∧ Ev (fun k => impl_Ex_26.l0 k m l (l.length : Int) (n : Int)) v := by
  intro d
  induction d with
  | zero =>
    intro n hn
    exact ⟨true, Ev.last (fun k => by simp only [spec_ExSame.l0]; rw [if_neg (by omega)]), Ev.last (fun k => by simp only [impl_Ex_26.l0]; rw [if_neg (by omega)])⟩
  | succ d ih =>
    intro n hn
    obtain ⟨v, h1, h2⟩ := hs l[n] (List.getElem_mem _) m[n]
    obtain ⟨v', h3, h4⟩ := ih (n + 1) (by omega)
    cases v with
    | true =>
      refine ⟨v', ?_, ?_⟩
      · refine Ev.step (fun k => by simp only [spec_ExSame.l0]; rw [if_pos (by omega), if_pos (by omega), if_pos (by omega), rdI l n (by omega), rdI m n (by omega), w_succ (by omega)]) ?_
        exact Ev.bind h1 (Ev.pos rfl h3)
      · refine Ev.step (fun k => by simp only [impl_Ex_26.l0]; rw [if_pos (by omega), if_pos (by omega), if_pos (by omega), if_pos (by omega), rdI l n (by omega), rdI m n (by omega), w_succ (by omega)]) ?_
        exact Ev.bind h2 (Ev.pos rfl h4)
    | false =>
      refine ⟨false, ?_, ?_⟩
      · refine Ev.step (fun k => by simp only [spec_ExSame.l0]; rw [if_pos (by omega), if_pos (by omega), if_pos (by omega), rdI l n (by omega), rdI m n (by omega), w_succ (by omega)]) ?_
        exact Ev.bind h1 (Ev.neg (by decide) (Ev.now _))
      · refine Ev.step (fun k => by simp only [impl_Ex_26.l0]; rw [if_pos (by omega), if_pos (by omega), if_pos (by omega), if_pos (by omega), rdI l n (by omega), rdI m n (by omega), w_succ (by omega)]) ?_
        exact Ev.bind h2 (Ev.neg (by decide) (Ev.now _))
theorem same_ev : ∀ a : S29, allY a ≤ 1048576 → SameOk a := by
  refine indI (fun x ih g b => ?_)
  have hk : ∀ y ∈ x.f3, SameOk y := fun y hy => ih y hy (by have := allY_mem hy; omega)
  have hl : x.f3.length ≤ 1048576 := by have := allY_len (x := x); omega
  have bad : Ev (fun k => spec_ExSame.j0 k true x.f0 x.f1 x.f2 x.f3 b.f0 b.f1 b.f2 b.f3) false := Ev.last (fun k => by simp only [spec_ExSame.j0]; rw [if_pos trivial])
  by_cases h0 : x.f0 = b.f0
  rotate_left
  · exact ⟨false, Ev.step (fun k => by simp only [spec_ExSame.f]; rw [if_neg h0]) bad, Ev.last (fun k => by simp only [impl_ExSame.f]; rw [if_neg h0])⟩
  by_cases h1 : x.f1 = b.f1
  rotate_left
  · exact ⟨false, Ev.step (fun k => by simp only [spec_ExSame.f]; rw [if_pos h0, if_neg h1]) bad, Ev.last (fun k => by simp only [impl_ExSame.f]; rw [if_pos h0, if_neg h1])⟩
  by_cases h2 : x.f2 = b.f2
  rotate_left
  · exact ⟨false, Ev.step (fun k => by simp only [spec_ExSame.f]; rw [if_pos h0, if_pos h1, if_neg h2]) bad, Ev.last (fun k => by simp only [impl_ExSame.f]; rw [if_pos h0, if_pos h1, if_neg h2])⟩
  by_cases h3 : x.f3.length = b.f3.length
  · obtain ⟨v, hv, hw⟩ := same_l0_ev x.f3 b.f3 hl h3 hk x.f0 x.f1 x.f2 b.f0 b.f1 b.f2 x.f3.length 0 (by omega)
    refine ⟨v, ?_, ?_⟩
    · have hd : ((x.f3.length : Int) != (b.f3.length : Int)) = false := by rw [h3]; simp
      refine Ev.step (fun k => by simp only [spec_ExSame.f]; rw [if_pos h0, if_pos h1, if_pos h2, hd]) ?_
      refine Ev.step (fun k => by simp only [spec_ExSame.j0]; rw [if_neg (by decide)]) ?_
      exact hv
    · refine Ev.step (fun k => by simp only [impl_ExSame.f]; rw [if_pos h0, if_pos h1, if_pos h2]) ?_
      refine Ev.bindS (Ev.step (fun k => by simp only [impl_Ex_26.f]; rw [if_pos (by omega)]; rfl) hw) rfl
  · have hd : ((x.f3.length : Int) != (b.f3.length : Int)) = true := by simp; omega
    refine ⟨false, ?_, ?_⟩
    · refine Ev.step (fun k => by simp only [spec_ExSame.f]; rw [if_pos h0, if_pos h1, if_pos h2, hd]) ?_
      exact bad
    · refine Ev.step (fun k => by simp only [impl_ExSame.f]; rw [if_pos h0, if_pos h1, if_pos h2]) ?_
      refine Ev.bindS (a := false) (Ev.last (fun k => by simp only [impl_Ex_26.f]; rw [if_neg (by omega)])) rfl
theorem ofInt_small (a : Nat) (ha : a < 9223372036854775808) : (BitVec.ofInt 64 (a : Int)).toNat = a := by
  rw [BitVec.ofInt_natCast, BitVec.toNat_ofNat]; exact Nat.mod_eq_of_lt (by omega)
theorem xor_small (a b : Nat) (ha : a < 9223372036854775808) (hb : b < 9223372036854775808) : bits .xor .i64 (a : Int) (b : Int) = ((a ^^^ b : Nat) : Int) := by
  have hx : a ^^^ b < 2 ^ 63 := Nat.xor_lt_two_pow (by omega) (by omega)
  show IntKind.i64.wrap ((BitVec.ofInt 64 (a : Int) ^^^ BitVec.ofInt 64 (b : Int)).toNat : Int) = _
  rw [BitVec.toNat_xor, ofInt_small a ha, ofInt_small b hb, IntKind.wrap_i64]
  omega
theorem mix_small (x : Int) (h0 : 0 ≤ x) (h1 : x ≤ 1099511627776) : 0 ≤ bits .xor .i64 x (wrap64 (Int.tdiv x 64)) := by
  obtain ⟨n, rfl⟩ := Int.eq_ofNat_of_zero_le h0
  have : Int.tdiv (n : Int) 64 = ((n / 64 : Nat) : Int) := rfl
  rw [this, w_small (by omega) (by omega), xor_small n (n / 64) (by omega) (by omega)]
  exact Int.natCast_nonneg _

def Bytes (bs : List Int) : Prop := bs.length ≤ 2000 ∧ ∀ x ∈ bs, 0 ≤ x ∧ x ≤ 255
theorem bytes_of {l : List Int} (h : ∀ x ∈ l, (Lit.int .u8 x).wf = true) : ∀ x ∈ l, 0 ≤ x ∧ x ≤ 255 := by
  intro x hx
  have := h x hx
  simp only [Lit.wf, Bool.and_eq_true, decide_eq_true_eq] at this
  exact this
theorem Bytes.rdLe {bs : List Int} (h : Bytes bs) (i : Int) : 0 ≤ rd bs i ∧ rd bs i ≤ 255 := by
  unfold rd
  rw [List.getD_eq_getElem?_getD]
  rcases Nat.lt_or_ge i.toNat bs.length with hi | hi
  · rw [List.getElem?_eq_getElem hi]
    exact h.2 _ (List.getElem_mem hi)
  · rw [List.getElem?_eq_none hi]
    simp

theorem l14Open_is (l : List Int) (hl : l.length ≤ 9223372036854775807) : spec_l14Open.f l = some (l.take 2000, 0) := by
  unfold spec_l14Open.f
  by_cases h : (l.length : Int) > 2000
  · rw [if_pos h, if_pos (by omega)]
  · rw [if_neg h, List.take_of_length_le (by omega)]
theorem open_bytes {l : List Int} (h : ∀ x ∈ l, (Lit.int .u8 x).wf = true) : Bytes (l.take 2000) :=
  ⟨by rw [List.length_take]; omega, fun x hx => bytes_of h x (List.mem_of_mem_take hx)⟩

theorem tmod_lt (a n : Int) (h0 : 0 ≤ a) (h1 : 1 ≤ n) : 0 ≤ Int.tmod a n ∧ Int.tmod a n < n := by
  rw [Int.tmod_eq_emod_of_nonneg h0]
  exact ⟨Int.emod_nonneg _ (by omega), Int.emod_lt_of_pos _ (by omega)⟩

theorem pick_ev (bs : List Int) (hb : Bytes bs) (p n : Int) (h0 : 0 ≤ p) (h1 : p ≤ 1000000) : ∃ r, Ev (fun k => spec_l14Rd_pick.f k bs p n) (r, p + 1) ∧ 0 ≤ r ∧ (r < n ∨ n < 1 ∧ r = 0) := by
  have w1 : wrap64 (p + 1) = p + 1 := w_small (by omega) (by omega)
  by_cases hn : n < 1
  · refine ⟨0, ?_, by omega, .inr ⟨hn, rfl⟩⟩
    unfold spec_l14Rd_pick.f
    refine Ev.pos hn (Ev.last (fun k => ?_))
    simp only [spec_l14Rd_pick.j0]
    rw [if_pos trivial, w1]
  by_cases he : (bs.length : Int) = 0
  · refine ⟨0, ?_, by omega, .inl (by omega)⟩
    unfold spec_l14Rd_pick.f
    refine Ev.neg hn (Ev.last (fun k => ?_))
    simp only [spec_l14Rd_pick.j0]
    rw [beq_iff_eq.2 he, if_pos rfl, w1]
  have w2 : wrap64 (p + 1 - 1) = p := by rw [show p + 1 - 1 = p by omega]; exact w_small (by omega) (by omega)
  have hne : ((bs.length : Int) == 0) = false := beq_eq_false_iff_ne.2 he
  have hlen := hb.1
  by_cases hk : p < (bs.length : Int)
  · have hr := hb.rdLe p
    have hm := tmod_lt (rd bs p) n hr.1 (by omega)
    refine ⟨Int.tmod (rd bs p) n, ?_, hm.1, .inl hm.2⟩
    unfold spec_l14Rd_pick.f
    refine Ev.neg hn (Ev.last (fun k => ?_))
    simp only [spec_l14Rd_pick.j0]
    rw [hne, if_neg (by decide), w1, w2, if_pos hk, if_pos h0, if_neg (by omega), w_small (by omega) (by omega)]
  have t1 := tmod_lt p (bs.length : Int) h0 (by omega)
  have w3 : wrap64 (p * 7) = p * 7 := w_small (by omega) (by omega)
  have w4 : wrap64 (p * 7 + 3) = p * 7 + 3 := w_small (by omega) (by omega)
  have t2 := tmod_lt (p * 7 + 3) (bs.length : Int) (by omega) (by omega)
  have r1 := hb.rdLe (Int.tmod p (bs.length : Int))
  have r2 := hb.rdLe (Int.tmod (p * 7 + 3) (bs.length : Int))
  have hd : 0 ≤ Int.tdiv p (bs.length : Int) ∧ Int.tdiv p (bs.length : Int) ≤ p := by
    rw [Int.tdiv_eq_ediv_of_nonneg h0]
    exact ⟨Int.ediv_nonneg h0 (by omega), Int.ediv_le_self _ h0⟩
  have w5 : wrap64 (Int.tdiv p (bs.length : Int)) = Int.tdiv p (bs.length : Int) := w_small (by omega) (by omega)
  generalize hq : Int.tdiv p (bs.length : Int) = q at *
  generalize ha : rd bs (Int.tmod p (bs.length : Int)) = a at *
  generalize hb' : rd bs (Int.tmod (p * 7 + 3) (bs.length : Int)) = b at *
  have x1 : wrap64 a = a := w_small (by omega) (by omega)
  have x2 : wrap64 b = b := w_small (by omega) (by omega)
  have x3 : wrap64 (a * 131) = a * 131 := w_small (by omega) (by omega)
  have x4 : wrap64 (b * 1117) = b * 1117 := w_small (by omega) (by omega)
  have x5 : wrap64 (a * 131 + b * 1117) = a * 131 + b * 1117 := w_small (by omega) (by omega)
  have x6 : wrap64 (p * 29) = p * 29 := w_small (by omega) (by omega)
  have x7 : wrap64 (a * 131 + b * 1117 + p * 29) = a * 131 + b * 1117 + p * 29 := w_small (by omega) (by omega)
  have x8 : wrap64 (q * 53) = q * 53 := w_small (by omega) (by omega)
  have x9 : wrap64 (a * 131 + b * 1117 + p * 29 + q * 53) = a * 131 + b * 1117 + p * 29 + q * 53 := w_small (by omega) (by omega)
  have hx := mix_small (a * 131 + b * 1117 + p * 29 + q * 53) (by omega) (by omega)
  generalize hX : bits .xor .i64 (a * 131 + b * 1117 + p * 29 + q * 53) (wrap64 (Int.tdiv (a * 131 + b * 1117 + p * 29 + q * 53) 64)) = X at *
  have hm := tmod_lt X n hx (by omega)
  refine ⟨Int.tmod X n, ?_, hm.1, .inl hm.2⟩
  unfold spec_l14Rd_pick.f
  refine Ev.neg hn (Ev.last (fun k => ?_))
  simp only [spec_l14Rd_pick.j0]
  rw [hne, if_neg (by decide), w1, w2, if_neg hk, if_neg he, if_pos t1.1, if_pos t1.2, w3, w4, if_pos t2.1, if_pos t2.2, if_neg (by omega), hq, ha, hb', w5, x1, x2, x3, x4, x5, x6, x7, x8, x9, hX]

theorem num_ev (bs : List Int) (hb : Bytes bs) (p : Int) (l : List Int) (hl : l ≠ []) (hm : l.length ≤ 1000000) (h0 : 0 ≤ p) (h1 : p ≤ 1000000) : ∃ r, Ev (fun k => spec_l14Rd_num.f k bs p l) (r, p + 1) ∧ r ∈ l := by
  obtain ⟨r, hr, h2, h3⟩ := pick_ev bs hb p (l.length : Int) h0 h1
  have hpos : 0 < l.length := List.length_pos_iff.2 hl
  have hlt : r < (l.length : Int) := by omega
  refine ⟨rd l r, ?_, ?_⟩
  · unfold spec_l14Rd_num.f
    exact Ev.bind hr (Ev.pos h2 (Ev.pos hlt (Ev.now _)))
  · unfold rd
    rw [List.getD_eq_getElem?_getD, List.getElem?_eq_getElem (show r.toNat < l.length by omega)]
    exact List.getElem_mem _
mutual
def manyY : S29 → Nat
  | ⟨_, _, _, l⟩ => 1 + manysY l
def manysY : List S29 → Nat
  | [] => 0
  | x :: xs => manyY x + manysY xs
end
mutual
def deepY : S29 → Nat
  | ⟨_, _, _, l⟩ => 1 + deepsY l
def deepsY : List S29 → Nat
  | [] => 0
  | x :: xs => max (deepY x) (deepsY xs)
end
def kidsOf (a : Int) : Int := if a = 1 then 0 else if a = 7 then 1 else if a = 2 ∨ a = 3 ∨ a = 4 then 2 else if a = 5 ∨ a = 6 then 3 else -1
def okN (a b c : Int) (n : Nat) : Bool := decide (kidsOf a = n) && (if a = 1 then decide (0 ≤ b ∧ b ≤ 4) else decide (b = 0)) && (if a = 7 then decide (1 ≤ c ∧ c ≤ 20) else decide (c = 0))
mutual
def fmY : S29 → Bool
  | ⟨a, b, c, l⟩ => okN a b c l.length && fmsY l
def fmsY : List S29 → Bool
  | [] => true
  | x :: xs => fmY x && fmsY xs
end
theorem manyY_is (x : S29) : manyY x = 1 + manysY x.f3 := by cases x; simp [manyY]
theorem manysY_nil : manysY [] = 0 := by simp [manysY]
theorem manysY_cons (x : S29) (l : List S29) : manysY (x :: l) = manyY x + manysY l := by simp [manysY]
theorem deepY_is (x : S29) : deepY x = 1 + deepsY x.f3 := by cases x; simp [deepY]
theorem deepsY_nil : deepsY [] = 0 := by simp [deepsY]
theorem deepsY_cons (x : S29) (l : List S29) : deepsY (x :: l) = max (deepY x) (deepsY l) := by simp [deepsY]
theorem fmY_is (x : S29) : fmY x = (okN x.f0 x.f1 x.f2 x.f3.length && fmsY x.f3) := by cases x; simp [fmY]
theorem fmsY_nil : fmsY [] = true := by simp [fmsY]
theorem fmsY_cons (x : S29) (l : List S29) : fmsY (x :: l) = (fmY x && fmsY l) := by simp [fmsY]
theorem manysY_all (l : List S29) (h : ∀ x ∈ l, manyY x = 1 + allY x) : manysY l = l.length + kidsY l := by
  induction l with
  | nil => simp [manysY_nil, kidsY_nil]
  | cons x l ih => rw [manysY_cons, kidsY_cons, h x (by simp), ih (fun y hy => h y (by simp [hy]))]; simp; omega
theorem manyY_all : ∀ x : S29, manyY x = 1 + allY x := by
  refine indI (fun x ih => ?_)
  rw [manyY_is, allY_is, manysY_all _ ih]
theorem deepsY_le (l : List S29) (h : ∀ x ∈ l, deepY x ≤ manyY x) : deepsY l ≤ manysY l := by
  induction l with
  | nil => simp [deepsY_nil, manysY_nil]
  | cons x l ih =>
    have h1 := h x (by simp)
    have h2 := ih (fun y hy => h y (by simp [hy]))
    rw [manysY_cons, deepsY_cons]
    omega
theorem deepY_le : ∀ x : S29, deepY x ≤ manyY x := by
  refine indI (fun x ih => ?_)
  have := deepsY_le _ ih
  rw [manyY_is, deepY_is]
  omega
def SizeOk (x : S29) : Prop := Ev (fun k => impl_Ex_size.f k x.f0 x.f1 x.f2 x.f3) ((manyY x : Int), (deepY x : Int))
theorem size_l0_ev (l : List S29) (hl : l.length ≤ 1048576) (hm : manysY l ≤ 1048577) (hs : ∀ x ∈ l, SizeOk x) : ∀ (d n m p : Nat), n + d = l.length → 1 ≤ m → 1 ≤ p → p ≤ 1048579 → m + manysY (l.drop n) ≤ 1048579 → Ev (fun k => impl_Ex_size.l0 k (m : Int) (p : Int) l (l.length : Int) (n : Int)) (((m + manysY (l.drop n) : Nat) : Int), ((max p (1 + deepsY (l.drop n)) : Nat) : Int)) := by
  intro d
  induction d with
  | zero =>
    intro n m p hn h0 h1 h2 h3
    rw [List.drop_of_length_le (by omega), manysY_nil, deepsY_nil]
    refine Ev.last (fun k => by simp only [impl_Ex_size.l0]; rw [if_neg (by omega)]; rw [Nat.max_eq_left (by omega)]; rfl)
  | succ d ih =>
    intro n m p hn h0 h1 h2 h3
    have hx : SizeOk l[n] := hs _ (List.getElem_mem _)
    have hd := List.drop_eq_getElem_cons (l := l) (i := n) (by omega)
    rw [hd, manysY_cons] at h3
    rw [hd, manysY_cons, deepsY_cons]
    have hp := deepY_le l[n]
    have e1 : wrap64 ((m : Int) + (manyY l[n] : Int)) = ((m + manyY l[n] : Nat) : Int) := by rw [w_small (by omega) (by omega)]; omega
    have e2 : mx (p : Int) (wrap64 ((deepY l[n] : Int) + 1)) = ((max p (1 + deepY l[n]) : Nat) : Int) := by rw [w_small (by omega) (by omega)]; unfold mx; omega
    refine Ev.step (fun k => by simp only [impl_Ex_size.l0]; rw [if_pos (by omega), if_pos (by omega), if_pos (by omega), rdI l n (by omega), w_succ (by omega)]) ?_
    refine Ev.bind hx ?_
    simp only [e1, e2]
    refine Ev.val (ih (n + 1) (m + manyY l[n]) (max p (1 + deepY l[n])) (by omega) (by omega) (by omega) (by omega) (by omega)) ?_
    refine Prod.ext ?_ ?_
    · show ((_ : Nat) : Int) = ((_ : Nat) : Int)
      congr 1
      omega
    · show ((_ : Nat) : Int) = ((_ : Nat) : Int)
      congr 1
      omega
theorem size_ev : ∀ x : S29, allY x ≤ 1048576 → SizeOk x := by
  refine indI (fun x ih g => ?_)
  have hk : ∀ y ∈ x.f3, SizeOk y := fun y hy => ih y hy (by have := allY_mem hy; omega)
  have hl : x.f3.length ≤ 1048576 := by have := allY_len (x := x); omega
  have hm : manysY x.f3 ≤ 1048577 := by have h1 := manyY_all x; have h2 := manyY_is x; omega
  unfold SizeOk
  refine Ev.step (fun k => by simp only [impl_Ex_size.f]; rfl) ?_
  refine Ev.val (size_l0_ev x.f3 hl hm hk x.f3.length 0 1 1 (by omega) (by omega) (by omega) (by omega) (by rw [List.drop_zero]; omega)) ?_
  rw [List.drop_zero, manyY_is, deepY_is]
  refine Prod.ext rfl ?_
  show ((_ : Nat) : Int) = ((_ : Nat) : Int)
  congr 1
  omega

def ManyOk (x : S29) : Prop := ∀ d : Nat, d ≤ 100 → deepY x ≤ d + 1 → Ev (fun k => spec_l2Many.f k x.f0 x.f1 x.f2 x.f3 (d : Int)) (manyY x : Int)
theorem many_l0_ev (l : List S29) (hl : l.length ≤ 1048576) (hs : ∀ x ∈ l, ManyOk x) (a b c : Int) (e : Nat) (he : e ≤ 100) : ∀ (d n m : Nat), n + d = l.length → deepsY (l.drop n) ≤ e → m + manysY (l.drop n) ≤ 1048579 → Ev (fun k => spec_l2Many.l0 k (e : Int) (m : Int) (n : Int) a b c l) ((m + manysY (l.drop n) : Nat) : Int) := by
  intro d
  induction d with
  | zero =>
    intro n m hn h1 h3
    rw [List.drop_of_length_le (by omega), manysY_nil]
    refine Ev.last (fun k => by simp only [spec_l2Many.l0]; rw [if_neg (by omega)]; rfl)
  | succ d ih =>
    intro n m hn h1 h3
    have hx : ManyOk l[n] := hs _ (List.getElem_mem _)
    have hd := List.drop_eq_getElem_cons (l := l) (i := n) (by omega)
    rw [hd, manysY_cons] at h3
    rw [hd, deepsY_cons] at h1
    rw [hd, manysY_cons]
    have hp : 1 ≤ deepY l[n] := by rw [deepY_is]; omega
    have e0 : wrap64 ((e : Int) - 1) = ((e - 1 : Nat) : Int) := by rw [w_small (by omega) (by omega)]; omega
    have e1 : wrap64 ((m : Int) + (manyY l[n] : Int)) = ((m + manyY l[n] : Nat) : Int) := by rw [w_small (by omega) (by omega)]; omega
    refine Ev.step (fun k => by simp only [spec_l2Many.l0]; rw [if_pos (by omega), if_pos (by omega), if_pos (by omega), rdI l n (by omega), w_succ (by omega), e0]) ?_
    refine Ev.bind (hx (e - 1) (by omega) (by omega)) ?_
    simp only [e1]
    have h5 : deepsY (l.drop (n + 1)) ≤ e := by omega
    have h6 : m + manyY l[n] + manysY (l.drop (n + 1)) ≤ 1048579 := by rw [Nat.add_assoc]; exact h3
    have h4 := ih (n + 1) (m + manyY l[n]) (by omega) h5 h6
    rw [Nat.add_assoc] at h4
    exact h4
theorem many_ev : ∀ x : S29, allY x ≤ 1048576 → ManyOk x := by
  refine indI (fun x ih g e he hd => ?_)
  have hk : ∀ y ∈ x.f3, ManyOk y := fun y hy => ih y hy (by have := allY_mem hy; omega)
  have hl : x.f3.length ≤ 1048576 := by have := allY_len (x := x); omega
  have hm : manysY x.f3 ≤ 1048577 := by have h1 := manyY_all x; have h2 := manyY_is x; omega
  rw [deepY_is] at hd
  refine Ev.step (fun k => by simp only [spec_l2Many.f]; rfl) ?_
  refine Ev.val (many_l0_ev x.f3 hl hk x.f0 x.f1 x.f2 e he x.f3.length 0 1 (by omega) (by rw [List.drop_zero]; omega) (by rw [List.drop_zero]; omega)) ?_
  rw [List.drop_zero, manyY_is]

theorem l2Kids_ev (a : Int) : Ev (fun k => spec_l2Kids.f k a) (kidsOf a) := by
  unfold spec_l2Kids.f kidsOf
  by_cases h1 : a = 1
  · exact Ev.pos h1 (Ev.val (Ev.now _) (by rw [if_pos h1]))
  refine Ev.neg h1 ?_
  rw [if_neg h1]
  by_cases h7 : a = 7
  · exact Ev.pos h7 (Ev.val (Ev.now _) (by rw [if_pos h7]))
  refine Ev.neg h7 ?_
  rw [if_neg h7]
  have yes : a = 2 ∨ a = 3 ∨ a = 4 → Ev (fun k => spec_l2Kids.j0 k a true) (if a = 2 ∨ a = 3 ∨ a = 4 then 2 else if a = 5 ∨ a = 6 then 3 else -1) := fun h => Ev.last (fun k => by simp only [spec_l2Kids.j0]; rw [if_pos trivial, if_pos h])
  by_cases h2 : a = 2
  · refine Ev.pos h2 ?_
    rw [show (a == 2) = true by simp [h2]]
    exact yes (by omega)
  refine Ev.neg h2 ?_
  by_cases h3 : a = 3
  · refine Ev.pos h3 ?_
    rw [show (a == 3) = true by simp [h3]]
    exact yes (by omega)
  refine Ev.neg h3 ?_
  by_cases h4 : a = 4
  · rw [show (a == 4) = true by simp [h4]]
    exact yes (by omega)
  rw [show (a == 4) = false by simp [h4]]
  rw [if_neg (by omega)]
  by_cases h5 : a = 5
  · exact Ev.last (fun k => by simp only [spec_l2Kids.j0]; rw [if_neg (by decide), if_pos h5, if_pos (by omega)])
  by_cases h6 : a = 6
  · exact Ev.last (fun k => by simp only [spec_l2Kids.j0]; rw [if_neg (by decide), if_neg h5, if_pos h6, if_pos (by omega)])
  · exact Ev.last (fun k => by simp only [spec_l2Kids.j0]; rw [if_neg (by decide), if_neg h5, if_neg h6, if_neg (by omega)])

def FormOk (x : S29) : Prop := ∀ d : Nat, d ≤ 100 → Ev (fun k => spec_l2Form.f k x.f0 x.f1 x.f2 x.f3 (d : Int)) (fmY x && decide (deepY x ≤ d))
theorem form_l0_ev (l : List S29) (hl : l.length ≤ 1048576) (hs : ∀ x ∈ l, FormOk x) (a b c : Int) (e : Nat) (he : e < 100) : ∀ (d n : Nat), n + d = l.length → Ev (fun k => spec_l2Form.l0 k ((e + 1 : Nat) : Int) (n : Int) a b c l) (fmsY (l.drop n) && decide (deepsY (l.drop n) ≤ e)) := by
  intro d
  induction d with
  | zero =>
    intro n hn
    rw [List.drop_of_length_le (by omega), fmsY_nil, deepsY_nil]
    exact Ev.last (fun k => by simp only [spec_l2Form.l0]; rw [if_neg (by omega)]; simp)
  | succ d ih =>
    intro n hn
    have hx : FormOk l[n] := hs _ (List.getElem_mem _)
    have hd := List.drop_eq_getElem_cons (l := l) (i := n) (by omega)
    rw [hd, fmsY_cons, deepsY_cons]
    have e0 : wrap64 (((e + 1 : Nat) : Int) - 1) = (e : Int) := by rw [w_small (by omega) (by omega)]; omega
    refine Ev.step (fun k => by simp only [spec_l2Form.l0]; rw [if_pos (by omega), if_pos (by omega), rdI l n (by omega), w_succ (by omega), e0]) ?_
    refine Ev.bind (hx e (by omega)) ?_
    by_cases h : (fmY l[n] && decide (deepY l[n] ≤ e)) = true
    · refine Ev.pos h (Ev.val (ih (n + 1) (by omega)) ?_)
      simp only [Bool.and_eq_true, decide_eq_true_eq] at h
      rw [h.1, Bool.true_and]
      have : (deepsY (l.drop (n + 1)) ≤ e) ↔ (max (deepY l[n]) (deepsY (l.drop (n + 1))) ≤ e) := by omega
      simp only [this]
    refine Ev.neg h (Ev.val (Ev.now false) ?_)
    by_cases hf : fmY l[n] = true
    · have : ¬ (max (deepY l[n]) (deepsY (l.drop (n + 1))) ≤ e) := by
        simp [hf] at h
        omega
      simp [this]
    · simp [hf]
theorem form_ev : ∀ x : S29, allY x ≤ 1048576 → FormOk x := by
  refine indI (fun x ih g d hd => ?_)
  have hk : ∀ y ∈ x.f3, FormOk y := fun y hy => ih y hy (by have := allY_mem hy; omega)
  have hl : x.f3.length ≤ 1048576 := by have := allY_len (x := x); omega
  rw [fmY_is, deepY_is]
  have bad : ∀ v : Bool, v = false → Ev (fun k => spec_l2Form.j0 k (d : Int) true x.f0 x.f1 x.f2 x.f3) v := fun v hv => Ev.last (fun k => by simp only [spec_l2Form.j0]; rw [if_pos trivial, hv])
  have bad1 : ∀ v : Bool, v = false → Ev (fun k => spec_l2Form.j1 k (d : Int) true x.f0 x.f1 x.f2 x.f3) v := fun v hv => Ev.last (fun k => by simp only [spec_l2Form.j1]; rw [if_pos trivial, hv])
  by_cases hd1 : (d : Int) < 1
  · refine Ev.step (fun k => by simp only [spec_l2Form.f]; rw [if_pos hd1]) (bad _ ?_)
    have : ¬ (1 + deepsY x.f3 ≤ d) := by omega
    simp [this]
  obtain ⟨e, rfl⟩ : ∃ e, d = e + 1 := ⟨d - 1, by omega⟩
  refine Ev.step (fun k => by simp only [spec_l2Form.f]; rw [if_neg hd1]) ?_
  refine Ev.bind (l2Kids_ev x.f0) ?_
  by_cases hn : kidsOf x.f0 = (x.f3.length : Int)
  rotate_left
  · refine Ev.neg hn (bad _ ?_)
    simp [okN, hn]
  refine Ev.pos hn ?_
  have rest : Ev (fun k => spec_l2Form.j0 k ((e + 1 : Nat) : Int) false x.f0 x.f1 x.f2 x.f3) ((if x.f0 = 7 then decide (1 ≤ x.f2 ∧ x.f2 ≤ 20) else decide (x.f2 = 0)) && (fmsY x.f3 && decide (deepsY x.f3 ≤ e))) := by
    have loop : Ev (fun k => spec_l2Form.j1 k ((e + 1 : Nat) : Int) false x.f0 x.f1 x.f2 x.f3) (fmsY x.f3 && decide (deepsY x.f3 ≤ e)) := by
      refine Ev.step (fun k => by simp only [spec_l2Form.j1]; rw [if_neg (by decide)]) ?_
      exact form_l0_ev x.f3 hl hk x.f0 x.f1 x.f2 e (by omega) x.f3.length 0 (by omega)
    by_cases h7 : x.f0 = 7
    · rw [if_pos h7]
      by_cases c1 : x.f2 < 1
      · refine Ev.step (fun k => by simp only [spec_l2Form.j0]; rw [if_neg (by decide), if_pos h7, if_pos c1]) (bad1 _ ?_)
        have : ¬ (1 ≤ x.f2 ∧ x.f2 ≤ 20) := by omega
        simp [this]
      by_cases c2 : x.f2 > 20
      · refine Ev.step (fun k => by simp only [spec_l2Form.j0]; rw [if_neg (by decide), if_pos h7, if_neg c1, if_pos c2]) (bad1 _ ?_)
        have : ¬ (1 ≤ x.f2 ∧ x.f2 ≤ 20) := by omega
        simp [this]
      · refine Ev.step (fun k => by simp only [spec_l2Form.j0]; rw [if_neg (by decide), if_pos h7, if_neg c1, if_neg c2]) (Ev.val loop ?_)
        have : (1 ≤ x.f2 ∧ x.f2 ≤ 20) := by omega
        simp [this]
    · rw [if_neg h7]
      by_cases c0 : x.f2 = 0
      · refine Ev.step (fun k => by simp only [spec_l2Form.j0]; rw [if_neg (by decide), if_neg h7, show (x.f2 != 0) = false by simp [c0]]) (Ev.val loop ?_)
        simp [c0]
      · refine Ev.step (fun k => by simp only [spec_l2Form.j0]; rw [if_neg (by decide), if_neg h7, show (x.f2 != 0) = true by simp [c0]]) (bad1 _ ?_)
        simp [c0]
  have hdd : (1 + deepsY x.f3 ≤ e + 1) ↔ (deepsY x.f3 ≤ e) := by omega
  simp only [hdd, okN, hn, decide_true, Bool.true_and]
  by_cases b0 : x.f1 < 0
  · refine Ev.pos b0 (bad _ ?_)
    have h1 : ¬ (0 ≤ x.f1 ∧ x.f1 ≤ 4) := by omega
    have h2 : ¬ (x.f1 = 0) := by omega
    simp [h1, h2]
  refine Ev.neg b0 ?_
  by_cases b5 : x.f1 ≥ 5
  · refine Ev.pos b5 (bad _ ?_)
    have h1 : ¬ (0 ≤ x.f1 ∧ x.f1 ≤ 4) := by omega
    have h2 : ¬ (x.f1 = 0) := by omega
    simp [h1, h2]
  refine Ev.neg b5 ?_
  by_cases a1 : x.f0 = 1
  · refine Ev.pos a1 (Ev.val rest ?_)
    rw [if_pos a1]
    have h1 : (0 ≤ x.f1 ∧ x.f1 ≤ 4) := by omega
    simp [h1, Bool.and_assoc]
  refine Ev.neg a1 ?_
  rw [if_neg a1]
  by_cases hb : x.f1 = 0
  · rw [show (x.f1 != 0) = false by simp [hb]]
    refine Ev.val rest ?_
    simp [hb, Bool.and_assoc]
  · rw [show (x.f1 != 0) = true by simp [hb]]
    exact bad _ (by simp [hb])

theorem in_is (a b c : Int) : impl_in.f a b c = some (decide (b ≤ a ∧ a ≤ c)) := by
  unfold impl_in.f
  by_cases h : b ≤ a
  · rw [if_pos h]; simp [h]
  · rw [if_neg h]; simp [h]
theorem kids_is (a : Int) (h1 : 1 ≤ a) (h7 : a ≤ 7) : impl_kids.f a = some (kidsOf a) := by
  have : a = 1 ∨ a = 2 ∨ a = 3 ∨ a = 4 ∨ a = 5 ∨ a = 6 ∨ a = 7 := by omega
  rcases this with rfl | rfl | rfl | rfl | rfl | rfl | rfl <;> rfl
theorem kidsOf_out {a : Int} (h : ¬ (1 ≤ a ∧ a ≤ 7)) : kidsOf a = -1 := by
  unfold kidsOf
  rw [if_neg (by omega), if_neg (by omega), if_neg (by omega), if_neg (by omega)]
def FmOk (x : S29) : Prop := Ev (fun k => impl_Ex_formed.f k x.f0 x.f1 x.f2 x.f3) (fmY x)
theorem fm_l0_ev (l : List S29) (hl : l.length ≤ 1048576) (hs : ∀ x ∈ l, FmOk x) : ∀ (d n : Nat), n + d = l.length → ∃ r : Int, Ev (fun k => impl_Ex_52.l0 k l (l.length : Int) (n : Int)) r ∧ (decide (r ≥ 0) = !fmsY (l.drop n)) := by
  intro d
  induction d with
  | zero =>
    intro n hn
    rw [List.drop_of_length_le (by omega), fmsY_nil]
    exact ⟨-1, Ev.last (fun k => by simp only [impl_Ex_52.l0]; rw [if_neg (by omega)]), by decide⟩
  | succ d ih =>
    intro n hn
    have hx : FmOk l[n] := hs _ (List.getElem_mem _)
    have hd := List.drop_eq_getElem_cons (l := l) (i := n) (by omega)
    rw [hd, fmsY_cons]
    have h1 : Ev (fun k => impl_Ex_formed_1.f k l[n].f0 l[n].f1 l[n].f2 l[n].f3) (!fmY l[n]) := Ev.step (fun k => by simp only [impl_Ex_formed_1.f]; rfl) (Ev.bindS hx rfl)
    cases hf : fmY l[n] with
    | true =>
      obtain ⟨r, hr, hv⟩ := ih (n + 1) (by omega)
      refine ⟨r, ?_, by rw [hv, Bool.true_and]⟩
      refine Ev.step (fun k => by simp only [impl_Ex_52.l0]; rw [if_pos (by omega), if_pos (by omega), if_pos (by omega), rdI l n (by omega), w_succ (by omega)]) ?_
      exact Ev.bind h1 (Ev.neg (by rw [hf]; decide) hr)
    | false =>
      refine ⟨(n : Int), ?_, by simp⟩
      refine Ev.step (fun k => by simp only [impl_Ex_52.l0]; rw [if_pos (by omega), if_pos (by omega), if_pos (by omega), rdI l n (by omega), w_succ (by omega)]) ?_
      exact Ev.bind h1 (Ev.pos (by rw [hf]; decide) (Ev.now _))
theorem formed_ev : ∀ x : S29, allY x ≤ 1048576 → FmOk x := by
  refine indI (fun x ih g => ?_)
  have hk : ∀ y ∈ x.f3, FmOk y := fun y hy => ih y hy (by have := allY_mem hy; omega)
  have hl : x.f3.length ≤ 1048576 := by have := allY_len (x := x); omega
  have hc : Ev (fun k => impl_Ex_44.f k x.f3) (!fmsY x.f3) := by
    obtain ⟨r, hr, hv⟩ := fm_l0_ev x.f3 hl hk x.f3.length 0 (by omega)
    rw [List.drop_zero] at hv
    refine Ev.step (fun k => by simp only [impl_Ex_44.f]; rfl) ?_
    refine Ev.bindS (Ev.step (fun k => by simp only [impl_Ex_52.f]; rfl) hr) ?_
    rw [hv]
  have bad : ∀ v : Bool, v = false → Ev (fun k => impl_Ex_formed.j0 k true x.f0 x.f1 x.f2 x.f3) v := fun v hv => Ev.last (fun k => by simp only [impl_Ex_formed.j0]; rw [if_pos trivial, hv])
  have bad1 : ∀ v : Bool, v = false → Ev (fun k => impl_Ex_formed.j1 k true x.f0 x.f1 x.f2 x.f3) v := fun v hv => Ev.last (fun k => by simp only [impl_Ex_formed.j1]; rw [if_pos trivial, hv])
  have last : Ev (fun k => impl_Ex_formed.j1 k false x.f0 x.f1 x.f2 x.f3) ((if x.f0 = 7 then decide (1 ≤ x.f2 ∧ x.f2 ≤ 20) else decide (x.f2 = 0)) && fmsY x.f3) := by
    by_cases h7 : x.f0 = 7
    · rw [if_pos h7]
      refine Ev.step (fun k => by simp only [impl_Ex_formed.j1]; rw [if_neg (by decide), if_pos h7, in_is, Option.bind_some]) ?_
      by_cases hc7 : 1 ≤ x.f2 ∧ x.f2 ≤ 20
      · refine Ev.pos (by simp [hc7]) (Ev.bindS hc ?_)
        simp [hc7]
      · refine Ev.neg (by simp; omega) (Ev.val (Ev.now false) ?_)
        simp [hc7]
    · rw [if_neg h7]
      by_cases hc0 : x.f2 = 0
      · refine Ev.step (fun k => by simp only [impl_Ex_formed.j1]; rw [if_neg (by decide), if_neg h7, if_pos hc0]) (Ev.bindS hc ?_)
        simp [hc0]
      · refine Ev.last (fun k => by simp only [impl_Ex_formed.j1]; rw [if_neg (by decide), if_neg h7, if_neg hc0]; simp [hc0])
  unfold FmOk
  rw [fmY_is]
  refine Ev.step (fun k => by simp only [impl_Ex_formed.f, impl_isKind.f]; rw [in_is, Option.bind_some, Option.bind_some]) ?_
  by_cases hkd : 1 ≤ x.f0 ∧ x.f0 ≤ 7
  rotate_left
  · refine Ev.neg (by simp; omega) (bad _ ?_)
    have hn : ¬ (kidsOf x.f0 = (x.f3.length : Int)) := by rw [kidsOf_out hkd]; omega
    simp [okN, hn]
  refine Ev.pos (by simp [hkd]) ?_
  refine Ev.bind (Ev.one (fun _ => kids_is x.f0 hkd.1 hkd.2)) ?_
  by_cases hn : kidsOf x.f0 = (x.f3.length : Int)
  rotate_left
  · rw [show ((x.f3.length : Int) != kidsOf x.f0) = true by simp; omega]
    exact bad _ (by simp [okN, hn])
  rw [show ((x.f3.length : Int) != kidsOf x.f0) = false by simp [hn]]
  by_cases a1 : x.f0 = 1
  · refine Ev.step (fun k => by simp only [impl_Ex_formed.j0, impl_isSym.f]; rw [if_neg (by decide), if_pos a1, in_is, Option.bind_some, Option.bind_some]) ?_
    by_cases hb : 0 ≤ x.f1 ∧ x.f1 ≤ 4
    · refine Ev.pos (by simp [hb]) (Ev.val last ?_)
      simp only [okN, hn, decide_true, Bool.true_and]
      rw [if_pos a1]
      simp [hb]
    · refine Ev.neg (by simp; omega) (bad1 _ ?_)
      simp only [okN, hn, decide_true, Bool.true_and]
      rw [if_pos a1]
      simp [hb]
  · by_cases hb : x.f1 = 0
    · refine Ev.step (fun k => by simp only [impl_Ex_formed.j0]; rw [if_neg (by decide), if_neg a1, show (x.f1 != 0) = false by simp [hb]]) (Ev.val last ?_)
      simp only [okN, hn, decide_true, Bool.true_and]
      rw [if_neg a1]
      simp [hb]
    · refine Ev.step (fun k => by simp only [impl_Ex_formed.j0]; rw [if_neg (by decide), if_neg a1, show (x.f1 != 0) = true by simp [hb]]) (bad1 _ ?_)
      simp only [okN, hn, decide_true, Bool.true_and]
      rw [if_neg a1]
      simp [hb]
def okX (x : S29) : Bool := fmY x && decide (deepY x ≤ 5) && decide (manyY x ≤ 12)
theorem form5 (x : S29) (h : allY x ≤ 1048576) : Ev (fun k => spec_l2Form.f k x.f0 x.f1 x.f2 x.f3 5) (fmY x && decide (deepY x ≤ 5)) := form_ev x h 5 (by omega)
theorem many5 (x : S29) (h : allY x ≤ 1048576) (hd : deepY x ≤ 5) : Ev (fun k => spec_l2Many.f k x.f0 x.f1 x.f2 x.f3 5) (manyY x : Int) := many_ev x h 5 (by omega) (by omega)
theorem spec_ExOk_ev (x : S29) (h : allY x ≤ 1048576) : Ev (fun k => spec_ExOk.f k x.f0 x.f1 x.f2 x.f3) (okX x) := by
  unfold spec_ExOk.f okX
  refine Ev.bind (form5 x h) ?_
  by_cases hf : (fmY x && decide (deepY x ≤ 5)) = true
  · have hd : deepY x ≤ 5 := by simp at hf; exact hf.2
    refine Ev.pos hf (Ev.bindS (many5 x h hd) ?_)
    rw [hf, Bool.true_and]
    have : ((manyY x : Int) ≤ 12) ↔ (manyY x ≤ 12) := by omega
    simp only [this]
  · refine Ev.neg hf (Ev.val (Ev.now _) ?_)
    simp only [Bool.not_eq_true] at hf
    rw [hf]
    rfl
theorem impl_ExOk_ev (x : S29) (h : allY x ≤ 1048576) : Ev (fun k => impl_ExOk.f k x.f0 x.f1 x.f2 x.f3) (okX x) := by
  unfold impl_ExOk.f okX
  refine Ev.bind (size_ev x h) ?_
  by_cases hm : manyY x ≤ 12
  · refine Ev.pos (show ((manyY x : Nat) : Int) ≤ 12 by omega) ?_
    by_cases hd : deepY x ≤ 5
    · refine Ev.pos (show ((deepY x : Nat) : Int) ≤ 5 by omega) (Ev.bindS (formed_ev x h) ?_)
      simp [hm, hd]
    · refine Ev.neg (show ¬ (((deepY x : Nat) : Int) ≤ 5) by omega) (Ev.val (Ev.now _) ?_)
      simp [hd]
  · refine Ev.neg (show ¬ (((manyY x : Nat) : Int) ≤ 12) by omega) (Ev.val (Ev.now _) ?_)
    simp [hm]
theorem kidsY_append (l m : List S29) : kidsY (l ++ m) = kidsY l + kidsY m := by
  induction l with
  | nil => simp [kidsY_nil]
  | cons x l ih => rw [List.cons_append, kidsY_cons, kidsY_cons, ih]; omega
theorem kidsOf_le (a : Int) : kidsOf a ≤ 3 := by
  unfold kidsOf
  (repeat' split) <;> omega
def bX : Nat → Nat
  | 0 => 0
  | d + 1 => 3 + 3 * bX d
def cX : Nat → Nat
  | 0 => 1
  | d + 1 => 3 + 3 * cX d
def DrawX (bs : List Int) (d : Nat) : Prop := ∀ p : Int, 0 ≤ p → p + (cX d : Int) ≤ 990000 → ∃ (x : S29) (q : Int), Ev (fun k => spec_l2Ex.f k bs p ((d + 1 : Nat) : Int)) (x.f0, x.f1, x.f2, x.f3, q) ∧ allY x ≤ bX d ∧ p ≤ q ∧ q ≤ p + (cX d : Int)
theorem eta_X (x : S29) : (⟨x.f0, x.f1, x.f2, x.f3⟩ : S29) = x := by cases x; rfl
theorem allY_mk (a b c : Int) (l : List S29) : allY (⟨a, b, c, l⟩ : S29) = l.length + kidsY l := by rw [allY_is]
theorem l2leaf_ev (bs : List Int) (hb : Bytes bs) (a p : Int) (h0 : 0 ≤ p) (h1 : p ≤ 1000000) : ∃ r : Int, Ev (fun k => spec_l2Ex.j0 k a true bs p) (1, r, 0, [], p + 1) := by
  obtain ⟨r, hr, _⟩ := num_ev bs hb p [0, 0, 1, 1, 2, 2, 3, 4] (by simp) (by simp) h0 h1
  exact ⟨r, (by refine Ev.step (fun k => by simp only [spec_l2Ex.j0]; rw [if_pos trivial]) ?_; exact (Ev.bindS hr rfl))⟩
theorem l2kids_ev (bs : List Int) (hb : Bytes bs) (d : Nat) (hd3 : d ≤ 3) (hd : DrawX bs d) : ∀ (e : Nat) (n p A B C : Int) (xs : List S29), n ≤ (e : Int) → e ≤ 3 → 0 ≤ p → p + ((e * cX d : Nat) : Int) ≤ 990000 → xs.length + e ≤ 1000 →
    ∃ (ys : List S29) (q : Int), Ev (fun k => spec_l2Ex.l0 k ((d + 2 : Nat) : Int) n bs p A B C xs) (A, B, C, ys, q) ∧ ys.length ≤ xs.length + e ∧ kidsY ys ≤ kidsY xs + e * bX d ∧ p ≤ q ∧ q ≤ p + ((e * cX d : Nat) : Int)
  | 0, n, p, A, B, C, xs, hn, _, h0, h1, hx => by
    refine ⟨xs, p, (by refine Ev.step (fun k => by simp only [spec_l2Ex.l0]; rw [if_neg (by omega)]) ?_; exact (Ev.now _)), by omega, by omega, by omega, by omega⟩
  | e + 1, n, p, A, B, C, xs, hn, he, h0, h1, hx => by
    have m1 : (e + 1) * cX d = e * cX d + cX d := Nat.succ_mul _ _
    have m2 : (e + 1) * bX d = e * bX d + bX d := Nat.succ_mul _ _
    by_cases hp : n > 0
    · have w1 : wrap64 (((d + 2 : Nat) : Int) - 1) = wrap64 ((d + 1 : Nat) : Int) := by congr 1; omega
      obtain ⟨x, q, hq, h2, h3, h4⟩ := hd p h0 (by omega)
      obtain ⟨ys, q', g1, g2, g3, g4, g5⟩ := l2kids_ev bs hb d hd3 hd e (n - 1) q A B C (xs ++ [x]) (by omega) (by omega) (by omega) (by omega) (by rw [List.length_append, List.length_singleton]; omega)
      rw [List.length_append, List.length_singleton] at g2
      rw [kidsY_append, kidsY_cons, kidsY_nil] at g3
      rw [w_small (i := ((d + 1 : Nat) : Int)) (by omega) (by omega)] at w1
      have w2 : wrap64 (n - 1) = n - 1 := w_small (by omega) (by omega)
      refine ⟨ys, q', (by refine Ev.step (fun k => by simp only [spec_l2Ex.l0]; rw [if_pos hp, w1, w2]) ?_; refine Ev.bind hq (Ev.pos (by omega) ?_); show Ev (fun k => spec_l2Ex.l0 k ((d + 2 : Nat) : Int) (n - 1) bs q A B C (xs ++ [(⟨x.f0, x.f1, x.f2, x.f3⟩ : S29)])) _; rw [eta_X]; exact g1), by omega, by omega, by omega, by omega⟩
    · refine ⟨xs, p, (by refine Ev.step (fun k => by simp only [spec_l2Ex.l0]; rw [if_neg hp]) ?_; exact (Ev.now _)), by omega, by omega, by omega, by omega⟩
theorem l2Ex_ev (bs : List Int) (hb : Bytes bs) : ∀ d : Nat, d ≤ 3 → DrawX bs d
  | 0, _ => fun p h0 h1 => by
    obtain ⟨r, hr⟩ := l2leaf_ev bs hb ((0 + 1 : Nat) : Int) p h0 (by omega)
    refine ⟨⟨1, r, 0, []⟩, p + 1, Ev.step (fun k => by simp only [spec_l2Ex.f]; rw [if_pos (by omega)]) hr, ?_, by omega, ?_⟩
    · rw [allY_mk, kidsY_nil]; exact Nat.le_refl _
    · show p + 1 ≤ p + ((1 : Nat) : Int); omega
  | d + 1, hd => fun p h0 h1 => by
    have ih := l2Ex_ev bs hb d (by omega)
    have hc : cX d ≤ 66 := by
      match d, hd with
      | 0, _ => decide
      | 1, _ => decide
      | 2, _ => decide
    obtain ⟨r, hr, _⟩ := pick_ev bs hb p 4 h0 (by omega)
    have e1 : cX (d + 1) = 3 + 3 * cX d := rfl
    have e2 : bX (d + 1) = 3 + 3 * bX d := rfl
    by_cases hz : r = 0
    · obtain ⟨s, hs⟩ := l2leaf_ev bs hb ((d + 1 + 1 : Nat) : Int) (p + 1) (by omega) (by omega)
      refine ⟨⟨1, s, 0, []⟩, p + 1 + 1, ?_, ?_, by omega, by omega⟩
      · refine Ev.step (fun k => by simp only [spec_l2Ex.f]; rw [if_neg (by omega)]) (Ev.bind hr ?_)
        simp only [hz]; exact hs
      · rw [allY_mk, kidsY_nil]; simp
    have hzf : (r == 0) = false := beq_eq_false_iff_ne.2 hz
    obtain ⟨K, hK, _⟩ := num_ev bs hb (p + 1) [2, 3, 3, 4, 4, 4, 5, 6, 7] (by simp) (by simp) (by omega) (by omega)
    have fin : ∀ (q N : Int), 0 ≤ q → q ≤ p + 3 → p ≤ q → ∃ (x : S29) (q' : Int), Ev (fun k => spec_l2Ex.j1 k ((d + 2 : Nat) : Int) bs q K 0 N) (x.f0, x.f1, x.f2, x.f3, q') ∧ allY x ≤ 3 + 3 * bX d ∧ p ≤ q' ∧ q' ≤ p + ((3 + 3 * cX d : Nat) : Int) := fun q N g0 g1 g2 => by
      obtain ⟨ys, q', f1, f2, f3, f4, f5⟩ := l2kids_ev bs hb d (by omega) ih 3 (kidsOf K) q K 0 N [] (kidsOf_le K) (by omega) g0 (by omega) (by simp)
      rw [kidsY_nil] at f3
      rw [List.length_nil] at f2
      refine ⟨⟨K, 0, N, ys⟩, q', (by refine Ev.step (fun k => by rw [spec_l2Ex.j1]) ?_; exact (Ev.bind (l2Kids_ev K) f1)), ?_, by omega, by omega⟩
      rw [allY_mk]; omega
    by_cases h7 : K = 7
    · obtain ⟨N, hN, _⟩ := num_ev bs hb (p + 1 + 1) [1, 2, 3, 5, 20] (by simp) (by simp) (by omega) (by omega)
      obtain ⟨x, q', f1, f2, f3, f4⟩ := fin (p + 1 + 1 + 1) N (by omega) (by omega) (by omega)
      refine ⟨x, q', ?_, by omega, f3, by omega⟩
      refine Ev.step (fun k => by simp only [spec_l2Ex.f]; rw [if_neg (by omega)]) (Ev.bind hr ?_)
      simp only [hzf]
      refine (by refine Ev.step (fun k => by simp only [spec_l2Ex.j0]; rw [if_neg (by decide)]) ?_; exact (Ev.bind hK (Ev.pos h7 (Ev.bind hN f1))))
    · obtain ⟨x, q', f1, f2, f3, f4⟩ := fin (p + 1 + 1) 0 (by omega) (by omega) (by omega)
      refine ⟨x, q', ?_, by omega, f3, by omega⟩
      refine Ev.step (fun k => by simp only [spec_l2Ex.f]; rw [if_neg (by omega)]) (Ev.bind hr ?_)
      simp only [hzf]
      refine (by refine Ev.step (fun k => by simp only [spec_l2Ex.j0]; rw [if_neg (by decide)]) ?_; exact (Ev.bind hK (Ev.neg h7 f1)))
theorem l2Ex2_ev (bs : List Int) (hb : Bytes bs) (p : Int) (h0 : 0 ≤ p) (h1 : p ≤ 900000) : ∃ (x : S29) (q : Int), Ev (fun k => spec_l2Ex.f k bs p 2) (x.f0, x.f1, x.f2, x.f3, q) ∧ allY x ≤ 39 ∧ p ≤ q ∧ q ≤ p + 6 := by
  have e : cX 1 = 6 := rfl
  obtain ⟨x, q, h2, h3, h4, h5⟩ := l2Ex_ev bs hb 1 (by omega) p h0 (by omega)
  exact ⟨x, q, h2, Nat.le_trans h3 (by decide), h4, h5⟩
theorem l2Some_ev (bs : List Int) (hb : Bytes bs) (p : Int) (h0 : 0 ≤ p) (h1 : p ≤ 800000) : ∃ (x : S29) (q : Int), Ev (fun k => spec_l2Some.f k bs p) (x.f0, x.f1, x.f2, x.f3, q) ∧ allY x ≤ 39 ∧ p ≤ q ∧ q ≤ p + 73 := by
  obtain ⟨r, hr, r0, r1⟩ := pick_ev bs hb p 4 h0 (by omega)
  obtain ⟨d, rfl⟩ := Int.eq_ofNat_of_zero_le r0
  have hd : d ≤ 3 := by omega
  have w1 : wrap64 (1 + (d : Int)) = ((d + 1 : Nat) : Int) := by rw [w_small (by omega) (by omega)]; omega
  have hc : cX d ≤ 66 ∧ bX d ≤ 39 := by
    match d, hd with
    | 0, _ => decide
    | 1, _ => decide
    | 2, _ => decide
    | 3, _ => decide
  obtain ⟨x, q, h2, h3, h4, h5⟩ := l2Ex_ev bs hb d hd (p + 1) (by omega) (by omega)
  have hk := spec_ExOk_ev x (by omega)
  by_cases ho : okX x = true
  · refine ⟨x, q, ?_, by omega, by omega, by omega⟩
    unfold spec_l2Some.f
    refine Ev.bind hr ?_
    simp only [w1]
    exact Ev.bind h2 (Ev.bind hk (Ev.pos ho (Ev.now _)))
  obtain ⟨y, q', g2, g3, g4, g5⟩ := l2Ex2_ev bs hb q (by omega) (by omega)
  refine ⟨y, q', ?_, g3, by omega, by omega⟩
  unfold spec_l2Some.f
  refine Ev.bind hr ?_
  simp only [w1]
  exact Ev.bind h2 (Ev.bind hk (Ev.neg ho (Ev.bindS g2 rfl)))
def CopyOk (x : S29) : Prop := Ev (fun k => spec_l2Copy.f k x.f0 x.f1 x.f2 x.f3) (x.f0, x.f1, x.f2, x.f3)
theorem l2Copy_l0_ev (l : List S29) (hl : l.length ≤ 1000000) (hs : ∀ x ∈ l, CopyOk x) (a b c A B C : Int) : ∀ d n : Nat, n + d = l.length → Ev (fun k => spec_l2Copy.l0 k (n : Int) a b c l A B C (l.take n)) (A, B, C, l)
  | 0, n, h => by
    have : l.take n = l := List.take_of_length_le (by omega)
    rw [this]
    exact (by refine Ev.step (fun k => by simp only [spec_l2Copy.l0]; rw [if_neg (by omega)]) ?_; exact (Ev.now _))
  | d + 1, n, h => by
    have hn : n < l.length := by omega
    have hw : wrap64 ((n : Int) + 1) = ((n + 1 : Nat) : Int) := by rw [w_small (by omega) (by omega)]; omega
    have hx := hs l[n] (List.getElem_mem hn)
    have ih := l2Copy_l0_ev l hl hs a b c A B C d (n + 1) (by omega)
    refine Ev.step (fun k => by simp only [spec_l2Copy.l0]; rw [if_pos (by omega), if_pos (by omega), rdI l n hn]) ?_
    refine Ev.bind hx (Ev.pos (by rw [List.length_take]; omega) ?_)
    have e : l.take n ++ [(⟨l[n].f0, l[n].f1, l[n].f2, l[n].f3⟩ : S29)] = l.take (n + 1) := by
      rw [eta_X, List.take_succ_eq_append_getElem hn]
    simp only [e, hw]
    exact ih
theorem l2Copy_ev : ∀ x : S29, allY x ≤ 1000000 → CopyOk x := by
  refine indI (fun x ih h => ?_)
  have hlen := allY_len (x := x)
  refine Ev.step (fun k => by rw [spec_l2Copy.f]) ?_
  exact l2Copy_l0_ev x.f3 (by omega) (fun y hy => ih y hy (by have := allY_mem hy; omega)) _ _ _ _ _ _ x.f3.length 0 (by omega)
theorem l2Bent_l0_ev (bs : List Int) (p : Int) : ∀ (e n : Nat) (x : S29), n + e = 5 → ∃ y : S29, Ev (fun k => spec_l2Bent.l0 k (n : Int) bs p x.f0 x.f1 x.f2 x.f3) (y.f0, y.f1, y.f2, y.f3, p) ∧ allY y ≤ allY x + e
  | 0, n, x, h => ⟨x, (by refine Ev.step (fun k => by simp only [spec_l2Bent.l0]; rw [if_neg (by omega)]) ?_; exact (Ev.now _)), by omega⟩
  | e + 1, n, x, h => by
    have hw : wrap64 ((n : Int) + 1) = ((n + 1 : Nat) : Int) := by rw [w_small (by omega) (by omega)]; omega
    obtain ⟨y, h1, h2⟩ := l2Bent_l0_ev bs p e (n + 1) ⟨7, 0, 1, [x]⟩ (by omega)
    refine ⟨y, Ev.step (fun k => by simp only [spec_l2Bent.l0]; rw [if_pos (by omega), hw, eta_X]) h1, ?_⟩
    rw [allY_mk, kidsY_cons, kidsY_nil, List.length_singleton] at h2
    omega
def dblX : Nat → Nat → Nat
  | 0, a => a
  | e + 1, a => dblX e (2 * a + 2)
theorem l2Bent_l1_ev (bs : List Int) (p : Int) : ∀ (e n : Nat) (x : S29) (m : Nat), n + e = 4 → allY x ≤ m → dblX e m ≤ 1000 → m ≤ 1000 → ∃ y : S29, Ev (fun k => spec_l2Bent.l1 k (n : Int) bs p x.f0 x.f1 x.f2 x.f3) (y.f0, y.f1, y.f2, y.f3, p) ∧ allY y ≤ dblX e m
  | 0, n, x, m, h, hm, _, _ => ⟨x, (by refine Ev.step (fun k => by simp only [spec_l2Bent.l1]; rw [if_neg (by omega)]) ?_; exact (Ev.now _)), hm⟩
  | e + 1, n, x, m, h, hm, hd, hm1 => by
    have hw : wrap64 ((n : Int) + 1) = ((n + 1 : Nat) : Int) := by rw [w_small (by omega) (by omega)]; omega
    have hc := l2Copy_ev x (by omega)
    have mono : ∀ (e a : Nat), a ≤ dblX e a := by
      intro e
      induction e with
      | zero => intro a; exact Nat.le_refl _
      | succ e ih => intro a; have := ih (2 * a + 2); simp only [dblX]; omega
    have hd' : dblX e (2 * m + 2) ≤ 1000 := hd
    have hm2 := mono e (2 * m + 2)
    obtain ⟨y, h1, h2⟩ := l2Bent_l1_ev bs p e (n + 1) ⟨2, 0, 0, [x, x]⟩ (2 * m + 2) (by omega) (by rw [allY_mk, kidsY_cons, kidsY_cons, kidsY_nil]; simp only [List.length_cons, List.length_nil]; omega) hd' (by omega)
    refine ⟨y, ?_, h2⟩
    refine Ev.step (fun k => by simp only [spec_l2Bent.l1]; rw [if_pos (by omega)]) ?_
    refine Ev.bind hc ?_
    simp only [hw, eta_X]
    exact h1
theorem l2Bent_ev (bs : List Int) (hb : Bytes bs) (p : Int) (h0 : 0 ≤ p) (h1 : p ≤ 700000) : ∃ (x : S29) (q : Int), Ev (fun k => spec_l2Bent.f k bs p) (x.f0, x.f1, x.f2, x.f3, q) ∧ allY x ≤ 1000 ∧ p ≤ q ∧ q ≤ p + 75 := by
  obtain ⟨x, q, h2, h3, h4, h5⟩ := l2Some_ev bs hb p h0 (by omega)
  obtain ⟨r, hr, _, _⟩ := pick_ev bs hb q 60 (by omega) (by omega)
  have hx := allY_is x
  by_cases c0 : r = 0
  · obtain ⟨s, hs, _⟩ := num_ev bs hb (q + 1) [0, 8, 2, 5] (by simp) (by simp) (by omega) (by omega)
    refine ⟨⟨s, x.f1, x.f2, x.f3⟩, q + 1 + 1, ?_, by rw [allY_mk]; omega, by omega, by omega⟩
    unfold spec_l2Bent.f
    exact Ev.bind h2 (Ev.bind hr (Ev.pos c0 (Ev.bindS hs rfl)))
  by_cases c1 : r = 1
  · obtain ⟨s, hs, _⟩ := num_ev bs hb (q + 1) [(-1), 5, 1] (by simp) (by simp) (by omega) (by omega)
    refine ⟨⟨x.f0, s, x.f2, x.f3⟩, q + 1 + 1, ?_, by rw [allY_mk]; omega, by omega, by omega⟩
    unfold spec_l2Bent.f
    exact Ev.bind h2 (Ev.bind hr (Ev.neg c0 (Ev.pos c1 (Ev.bindS hs rfl))))
  by_cases c2 : r = 2
  · obtain ⟨s, hs, _⟩ := num_ev bs hb (q + 1) [(-1), 21, 1, 0] (by simp) (by simp) (by omega) (by omega)
    refine ⟨⟨x.f0, x.f1, s, x.f3⟩, q + 1 + 1, ?_, by rw [allY_mk]; omega, by omega, by omega⟩
    unfold spec_l2Bent.f
    exact Ev.bind h2 (Ev.bind hr (Ev.neg c0 (Ev.neg c1 (Ev.pos c2 (Ev.bindS hs rfl)))))
  by_cases c3 : r = 3
  · obtain ⟨y, g1, g2⟩ := l2Bent_l0_ev bs (q + 1) 5 0 x rfl
    refine ⟨y, q + 1, ?_, by omega, by omega, by omega⟩
    unfold spec_l2Bent.f
    exact Ev.bind h2 (Ev.bind hr (Ev.neg c0 (Ev.neg c1 (Ev.neg c2 (Ev.pos c3 g1)))))
  by_cases c4 : r = 4
  · obtain ⟨y, g1, g2⟩ := l2Bent_l1_ev bs (q + 1) 4 0 x 39 rfl h3 (by decide) (by decide)
    refine ⟨y, q + 1, ?_, Nat.le_trans g2 (by decide), by omega, by omega⟩
    unfold spec_l2Bent.f
    exact Ev.bind h2 (Ev.bind hr (Ev.neg c0 (Ev.neg c1 (Ev.neg c2 (Ev.neg c3 (Ev.pos c4 g1))))))
  · refine ⟨x, q + 1, ?_, by omega, by omega, by omega⟩
    unfold spec_l2Bent.f
    exact Ev.bind h2 (Ev.bind hr (Ev.neg c0 (Ev.neg c1 (Ev.neg c2 (Ev.neg c3 (Ev.neg c4 (Ev.now _)))))))
theorem ev_one {α : Type} {g : Nat → Option α} {r s : α} (h : Ev g r) (h' : Ev g s) : r = s := by
  obtain ⟨K, hK⟩ := h
  obtain ⟨L, hL⟩ := h'
  have h1 := hK (max K L) (by omega)
  rw [hL (max K L) (by omega)] at h1
  exact (Option.some.inj h1).symm
def ReflOk (a : S29) : Prop := Ev (fun k => spec_ExSame.f k a.f0 a.f1 a.f2 a.f3 a.f0 a.f1 a.f2 a.f3) true
theorem refl_l0_ev (l : List S29) (hl : l.length ≤ 1048576) (hs : ∀ x ∈ l, ReflOk x) (p q r p' q' r' : Int) : ∀ (d n : Nat), n + d = l.length → Ev (fun k => spec_ExSame.l0 k (n : Int) p q r l p' q' r' l) true := by
  intro d
  induction d with
  | zero =>
    intro n hn
    exact Ev.last (fun k => by simp only [spec_ExSame.l0]; rw [if_neg (by omega)])
  | succ d ih =>
    intro n hn
    have hlt : n < l.length := by omega
    have hx := hs l[n] (List.getElem_mem _)
    refine Ev.step (fun k => by simp only [spec_ExSame.l0]; rw [if_pos (by omega), if_pos (by omega), if_pos (by omega), rdI l n hlt, w_succ (by omega)]) (Ev.bind hx (Ev.pos rfl (ih (n + 1) (by omega))))
theorem refl_ev : ∀ a : S29, allY a ≤ 1048576 → ReflOk a := by
  refine indI ?_
  intro a ih ha
  have hk : ∀ y ∈ a.f3, ReflOk y := fun y hy => ih y hy (by have := allY_mem hy; omega)
  have := refl_l0_ev a.f3 (by have := allY_len (x := a); omega) hk a.f0 a.f1 a.f2 a.f0 a.f1 a.f2 a.f3.length 0 (by omega)
  have hd : ((a.f3.length : Int) != (a.f3.length : Int)) = false := bne_self_eq_false _
  refine Ev.step (fun k => by simp only [spec_ExSame.f]; rw [if_pos trivial, if_pos trivial, if_pos trivial, hd]) ?_
  refine Ev.step (fun k => by simp only [spec_ExSame.j0]; rw [if_neg (by decide)]) ?_
  exact this
theorem same_self (a : S29) (h : allY a ≤ 1048576) : Ev (fun k => impl_ExSame.f k a.f0 a.f1 a.f2 a.f3 a.f0 a.f1 a.f2 a.f3) true := by
  obtain ⟨r, h1, h2⟩ := same_ev a h a
  rw [ev_one h1 (refl_ev a h)] at h2
  exact h2
theorem DrawExSame_ev (l : List Int) (hl : l.length ≤ 9223372036854775807) (hw : ∀ x ∈ l, (Lit.int .u8 x).wf = true) : ∃ a b : S29, Ev (fun k => spec_DrawExSame.f k l) (a.f0, a.f1, a.f2, a.f3, b.f0, b.f1, b.f2, b.f3) ∧ allY a ≤ 1000 ∧ allY b ≤ 1000 := by
  have hb := open_bytes hw
  obtain ⟨x, q, h1, h2, _, _⟩ := l2Bent_ev _ hb 0 (by omega) (by omega)
  have ho : Ev (fun _ => spec_l14Open.f l) (l.take 2000, (0 : Int)) := Ev.one (fun _ => l14Open_is l hl)
  refine ⟨x, ⟨x.f0, if 0 < l.length ∧ Int.tmod (rd l 0) 2 = 1 then wrap64 (x.f1 + 1) else x.f1, x.f2, x.f3⟩, ?_, h2, ?_⟩
  · unfold spec_DrawExSame.f
    exact Ev.bind ho (Ev.bind h1 (Ev.bind h1 (Ev.now _)))
  · rw [allY_mk, ← allY_is]
    exact h2
def numY (x : S29) : Int := if okX x = true then (manyY x : Int) else 0
theorem spec_ExMany2_ev (x : S29) (h : allY x ≤ 1048576) : Ev (fun k => spec_ExMany.f k x.f0 x.f1 x.f2 x.f3) (numY x) := by
  unfold spec_ExMany.f numY
  refine Ev.bind (spec_ExOk_ev x h) ?_
  by_cases ho : okX x = true
  · have hd : deepY x ≤ 5 := by simp [okX] at ho; exact ho.1.2
    refine Ev.pos ho (Ev.bindS (many5 x h hd) ?_)
    rw [if_pos ho]
  · refine Ev.neg ho (Ev.val (Ev.now _) ?_)
    rw [if_neg ho]
theorem impl_ExMany2_ev (x : S29) (h : allY x ≤ 1048576) : Ev (fun k => impl_ExMany.f k x.f0 x.f1 x.f2 x.f3) (numY x) := by
  unfold impl_ExMany.f numY
  refine Ev.bind (impl_ExOk_ev x h) ?_
  by_cases ho : okX x = true
  · refine Ev.pos ho (Ev.bindS (size_ev x h) ?_)
    rw [if_pos ho]
  · refine Ev.neg ho (Ev.val (Ev.now _) ?_)
    rw [if_neg ho]
abbrev Asc (l : List Int) : Prop := l.Pairwise (· < ·)
theorem asc_ext : ∀ l m : List Int, Asc l → Asc m → (∀ x, x ∈ l ↔ x ∈ m) → l = m
  | [], [], _, _, _ => rfl
  | [], y :: ys, _, _, h => by have := (h y).2 (by simp); simp at this
  | x :: xs, [], _, _, h => by have := (h x).1 (by simp); simp at this
  | x :: xs, y :: ys, hl, hm, h => by
    have h1 := List.pairwise_cons.1 hl
    have h2 := List.pairwise_cons.1 hm
    have e : x = y := by
      rcases List.mem_cons.1 ((h x).1 (by simp)) with e | e
      · exact e
      rcases List.mem_cons.1 ((h y).2 (by simp)) with e' | e'
      · exact e'.symm
      · have a := h2.1 x e
        have b := h1.1 y e'
        omega
    subst e
    rw [asc_ext xs ys h1.2 h2.2 (fun z => ?_)]
    constructor
    · intro hz
      rcases List.mem_cons.1 ((h z).1 (by simp [hz])) with e | e
      · have := h1.1 z hz; omega
      · exact e
    · intro hz
      rcases List.mem_cons.1 ((h z).2 (by simp [hz])) with e | e
      · have := h2.1 z hz; omega
      · exact e
theorem compact_asc (zs : List Int) (h : zs.Pairwise (· ≤ ·)) : Asc (Lib.compact zs) := by
  unfold Lib.compact Lib.compactUpTo
  rw [Asc, List.pairwise_map, List.pairwise_filter]
  refine List.pairwise_lt_range.imp_of_mem ?_
  intro i j hi hj hij _ hk
  have hj' := List.mem_range.1 hj
  rcases of_decide_eq_true hk with h0 | h0
  · omega
  have g1 : zs.toArray[j]! = zs[j] := by simp [hj']
  have g2 : zs.toArray[j - 1]! = zs[j - 1] := by simp [show j - 1 < zs.length by omega]
  have g3 : zs.toArray[i]! = zs[i] := by simp [show i < zs.length by omega]
  rw [g1, g2] at h0
  rw [g1, g3]
  have a : zs[j - 1] ≤ zs[j] := List.pairwise_iff_getElem.1 h (j - 1) j (by omega) hj' (by omega)
  rcases Nat.eq_or_lt_of_le (show i ≤ j - 1 by omega) with e | e
  · subst e; omega
  · have b : zs[i] ≤ zs[j - 1] := List.pairwise_iff_getElem.1 h i (j - 1) (by omega) (by omega) e
    omega
theorem mem_compact (zs : List Int) (x : Int) : x ∈ Lib.compact zs ↔ x ∈ zs := by
  unfold Lib.compact Lib.compactUpTo
  simp only [List.mem_map, List.mem_filter, List.mem_range]
  constructor
  · rintro ⟨i, ⟨hi, _⟩, rfl⟩
    simp [hi]
  intro hx
  obtain ⟨i, hi, rfl⟩ := List.mem_iff_getElem.1 hx
  have key : ∀ i, (hi : i < zs.length) → ∃ a, (a < zs.length ∧ Lib.keeps zs.toArray a = true) ∧ zs.toArray[a]! = zs[i] := by
    intro i
    induction i with
    | zero => exact fun hi => ⟨0, ⟨hi, by simp [Lib.keeps]⟩, by simp [hi]⟩
    | succ i ih =>
      intro hi
      by_cases e : zs[i + 1] = zs[i]
      · obtain ⟨a, ha, hv⟩ := ih (by omega)
        exact ⟨a, ha, by rw [hv, e]⟩
      · refine ⟨i + 1, ⟨hi, ?_⟩, by simp [hi]⟩
        have hi2 : i < zs.length := by omega
        simp [Lib.keeps, hi, hi2, e]
  exact key i hi
theorem sortI_sorted (xs : List Int) : (sortI xs).Pairwise (· ≤ ·) := by
  have := List.pairwise_mergeSort (le := fun x y : Int => decide (x ≤ y)) (fun a b c h1 h2 => by simp at *; omega) (fun a b => by simp; omega) xs
  exact this.imp (fun h => of_decide_eq_true h)
theorem mem_sortI (xs : List Int) (x : Int) : x ∈ sortI xs ↔ x ∈ xs := List.mem_mergeSort
theorem joinI_asc (xs ys : List Int) : Asc (joinI xs ys) := compact_asc _ (sortI_sorted _)
theorem mem_joinI (xs ys : List Int) (x : Int) : x ∈ joinI xs ys ↔ x ∈ xs ∨ x ∈ ys := by
  unfold joinI
  rw [mem_compact, mem_sortI, List.mem_append]
theorem fmsY_mem : ∀ (l : List S29), fmsY l = true → ∀ y ∈ l, fmY y = true
  | [], _, y, hy => by simp at hy
  | x :: l, h, y, hy => by
    rw [fmsY_cons, Bool.and_eq_true] at h
    rcases List.mem_cons.1 hy with rfl | hy
    · exact h.1
    · exact fmsY_mem l h.2 y hy
theorem mem_symsL (s : Int) : ∀ l : List S29, s ∈ symsL l ↔ ∃ y ∈ l, s ∈ symsX y
  | [] => by simp [symsL_nil]
  | x :: l => by
    rw [symsL_cons, List.mem_append, mem_symsL s l]
    constructor
    · rintro (h | ⟨y, hy, h⟩)
      · exact ⟨x, by simp, h⟩
      · exact ⟨y, by simp [hy], h⟩
    rintro ⟨y, hy, h⟩
    rcases List.mem_cons.1 hy with rfl | hy
    · exact .inl h
    · exact .inr ⟨y, hy, h⟩
theorem okN_kids {a b c : Int} {n : Nat} (h : okN a b c n = true) : kidsOf a = n ∧ (a = 1 → 0 ≤ b ∧ b ≤ 4) := by
  unfold okN at h
  rw [Bool.and_eq_true, Bool.and_eq_true] at h
  refine ⟨of_decide_eq_true h.1.1, fun e => ?_⟩
  have := h.1.2
  rw [if_pos e] at this
  exact of_decide_eq_true this
theorem fm_leaf {x : S29} (h : fmY x = true) (h1 : x.f0 = 1) : x.f3 = [] ∧ 0 ≤ x.f1 ∧ x.f1 ≤ 4 := by
  rw [fmY_is, Bool.and_eq_true] at h
  obtain ⟨k1, k2⟩ := okN_kids h.1
  rw [h1] at k1
  have : x.f3.length = 0 := by unfold kidsOf at k1; simp at k1; omega
  exact ⟨List.eq_nil_of_length_eq_zero this, k2 h1⟩
theorem fm_inner {x : S29} (h : fmY x = true) (h1 : x.f0 ≠ 1) : 1 ≤ x.f3.length ∧ ∀ y ∈ x.f3, fmY y = true := by
  rw [fmY_is, Bool.and_eq_true] at h
  obtain ⟨k1, _⟩ := okN_kids h.1
  refine ⟨?_, fmsY_mem _ h.2⟩
  unfold kidsOf at k1
  rw [if_neg h1] at k1
  split at k1
  · omega
  split at k1
  · omega
  · split at k1
    · omega
    · omega
theorem syms_leaf {x : S29} (h : fmY x = true) (h1 : x.f0 = 1) : symsX x = [x.f1] := by
  rw [symsX_is, if_pos h1, (fm_leaf h h1).1, symsL_nil]; rfl
theorem syms_inner {x : S29} (h1 : x.f0 ≠ 1) : symsX x = symsL x.f3 := by rw [symsX_is, if_neg h1]; rfl
theorem syms_range : ∀ x : S29, fmY x = true → ∀ s ∈ symsX x, 0 ≤ s ∧ s ≤ 4 := by
  refine indI ?_
  intro x ih h s hs
  by_cases h1 : x.f0 = 1
  · rw [syms_leaf h h1, List.mem_singleton] at hs
    rw [hs]; exact (fm_leaf h h1).2
  · rw [syms_inner h1, mem_symsL] at hs
    obtain ⟨y, hy, hs⟩ := hs
    exact ih y hy ((fm_inner h h1).2 y hy) s hs
theorem syms_ne : ∀ x : S29, fmY x = true → 0 < (symsX x).length := by
  refine indI ?_
  intro x ih h
  by_cases h1 : x.f0 = 1
  · rw [syms_leaf h h1]; simp
  rw [syms_inner h1]
  obtain ⟨k1, k2⟩ := fm_inner h h1
  rcases hx : x.f3 with _ | ⟨y, l⟩
  · rw [hx] at k1; simp at k1
  · have := ih y (by rw [hx]; simp) (k2 y (by rw [hx]; simp))
    rw [symsL_cons, List.length_append]
    omega
theorem symsL_len (l : List S29) (h : ∀ x ∈ l, (symsX x).length ≤ manyY x) : (symsL l).length ≤ manysY l := by
  induction l with
  | nil => simp [symsL_nil]
  | cons x l ih =>
    rw [symsL_cons, manysY_cons, List.length_append]
    have h1 := h x (by simp)
    have h2 := ih (fun y hy => h y (by simp [hy]))
    omega
theorem symsX_len : ∀ x : S29, (symsX x).length ≤ manyY x := by
  refine indI ?_
  intro x ih
  have := symsL_len x.f3 ih
  rw [symsX_is, manyY_is, List.length_append]
  by_cases h1 : x.f0 = 1
  · rw [if_pos h1]; simp; omega
  · rw [if_neg h1]; simp; omega
def NamesOk (x : S29) : Prop := ∀ s : Int, Ev (fun k => spec_l2Names.f k x.f0 x.f1 x.f2 x.f3 s) (decide (s ∈ symsX x))
theorem names_l0_ev (l : List S29) (hl : l.length ≤ 1048576) (hs : ∀ x ∈ l, NamesOk x) (s a b c : Int) : ∀ (d n : Nat), n + d = l.length → Ev (fun k => spec_l2Names.l0 k s (n : Int) a b c l) (decide (s ∈ symsL (l.drop n))) := by
  intro d
  induction d with
  | zero =>
    intro n hn
    rw [List.drop_of_length_le (by omega), symsL_nil]
    exact Ev.last (fun k => by simp only [spec_l2Names.l0]; rw [if_neg (by omega)]; simp)
  | succ d ih =>
    intro n hn
    have hlt : n < l.length := by omega
    have hx := hs l[n] (List.getElem_mem _) s
    rw [List.drop_eq_getElem_cons hlt, symsL_cons]
    refine Ev.step (fun k => by simp only [spec_l2Names.l0]; rw [if_pos (by omega), if_pos (by omega), rdI l n hlt, w_succ (by omega)]) (Ev.bind hx ?_)
    by_cases c : s ∈ symsX l[n]
    · rw [decide_eq_true c, decide_eq_true (List.mem_append.2 (.inl c))]
      exact Ev.pos rfl (Ev.now _)
    have e : decide (s ∈ symsX l[n] ++ symsL (l.drop (n + 1))) = decide (s ∈ symsL (l.drop (n + 1))) := by
      rw [decide_eq_decide, List.mem_append]
      exact ⟨fun h => h.elim (fun h => absurd h c) id, .inr⟩
    rw [decide_eq_false c, e]
    exact Ev.neg (by decide) (ih (n + 1) (by omega))
theorem names_ev : ∀ x : S29, allY x ≤ 1048576 → fmY x = true → NamesOk x := by
  refine indI ?_
  intro x ih ha h s
  by_cases h1 : x.f0 = 1
  · rw [syms_leaf h h1]
    refine Ev.last (fun k => ?_)
    simp only [spec_l2Names.f]
    rw [if_pos h1]
    congr 1
    rw [Bool.eq_iff_iff, beq_iff_eq, decide_eq_true_iff, List.mem_singleton]
    exact eq_comm
  · rw [syms_inner h1]
    have hk : ∀ y ∈ x.f3, NamesOk y := fun y hy => ih y hy (by have := allY_mem hy; omega) ((fm_inner h h1).2 y hy)
    have := names_l0_ev x.f3 (by have := allY_len (x := x); omega) hk s x.f0 x.f1 x.f2 x.f3.length 0 (by omega)
    exact Ev.step (fun k => by simp only [spec_l2Names.f]; rw [if_neg h1]; rfl) this
def upS (x : S29) : Nat → Nat → List Int
  | 0, _ => []
  | d + 1, s => if (s : Int) ∈ symsX x then (s : Int) :: upS x d (s + 1) else upS x d (s + 1)
theorem mem_upS (x : S29) (z : Int) : ∀ d s : Nat, z ∈ upS x d s ↔ ((s : Int) ≤ z ∧ z < (s : Int) + d) ∧ z ∈ symsX x
  | 0, s => by
    unfold upS
    constructor
    · intro h; simp at h
    · rintro ⟨h, _⟩; omega
  | d + 1, s => by
    unfold upS
    have ih := mem_upS x z d (s + 1)
    by_cases c : (s : Int) ∈ symsX x
    · rw [if_pos c, List.mem_cons, ih]
      constructor
      · rintro (rfl | ⟨h, g⟩)
        · exact ⟨by omega, c⟩
        · exact ⟨by omega, g⟩
      rintro ⟨h, g⟩
      by_cases e : z = (s : Int)
      · exact .inl e
      · exact .inr ⟨by omega, g⟩
    · rw [if_neg c, ih]
      constructor
      · rintro ⟨h, g⟩; exact ⟨by omega, g⟩
      · rintro ⟨h, g⟩
        have : z ≠ (s : Int) := by rintro rfl; exact c g
        exact ⟨by omega, g⟩
theorem asc_upS (x : S29) : ∀ d s : Nat, Asc (upS x d s)
  | 0, _ => List.Pairwise.nil
  | d + 1, s => by
    unfold upS
    have ih := asc_upS x d (s + 1)
    by_cases c : (s : Int) ∈ symsX x
    · rw [if_pos c]
      refine List.pairwise_cons.2 ⟨fun z hz => ?_, ih⟩
      have := ((mem_upS x z d (s + 1)).1 hz).1
      omega
    · rw [if_neg c]; exact ih
theorem upS_is (x : S29) (h : fmY x = true) : upS x 5 0 = Lib.compact (sortI (symsX x)) :=
  asc_ext _ _ (asc_upS x 5 0) (compact_asc _ (sortI_sorted _)) (fun z => by
    rw [mem_upS, mem_compact, mem_sortI]
    constructor
    · exact fun h => h.2
    · intro hz
      have := syms_range x h z hz
      exact ⟨by omega, hz⟩)
def symsO (x : S29) : List Int := if okX x = true then Lib.compact (sortI (symsX x)) else []
theorem symsO_len (x : S29) : (symsO x).length ≤ 12 := by
  unfold symsO
  by_cases h : okX x = true
  · rw [if_pos h]
    have h1 := compact_le (sortI (symsX x))
    have h2 : (sortI (symsX x)).length = (symsX x).length := by unfold sortI; rw [List.length_mergeSort]
    have h3 := symsX_len x
    unfold okX at h
    simp only [Bool.and_eq_true, decide_eq_true_eq] at h
    omega
  · rw [if_neg h]; simp
theorem impl_ExSyms_ev (x : S29) (h : allY x ≤ 1048576) : Ev (fun k => impl_ExSyms.f k x.f0 x.f1 x.f2 x.f3) (symsO x) := by
  unfold impl_ExSyms.f symsO
  refine Ev.bind (impl_ExOk_ev x h) ?_
  cases hv : okX x with
  | false => exact Ev.neg (by decide) (Ev.val (Ev.now _) (by rw [if_neg (by decide)]))
  | true =>
    have h3 := symsX_len x
    have hk := hv
    unfold okX at hk
    simp only [Bool.and_eq_true, decide_eq_true_eq] at hk
    have e : (⟨x.f0, x.f1, x.f2, x.f3⟩ : S29) = x := by cases x; rfl
    refine Ev.pos rfl ?_
    rw [e]
    exact Ev.pos ⟨syms_ne x hk.1.1, by omega⟩ (Ev.val (Ev.now _) (by rw [if_pos rfl]))
theorem spec_ExSyms_l0_ev (x : S29) (h : allY x ≤ 1048576) (ho : okX x = true) (hf : fmY x = true) : ∀ (d s : Nat) (out : List Int), s + d = 5 → out.length ≤ s → Ev (fun k => spec_ExSyms.l0 k out (s : Int) x.f0 x.f1 x.f2 x.f3) (out ++ upS x d s) := by
  intro d
  induction d with
  | zero =>
    intro s out hs hl
    unfold upS
    rw [List.append_nil]
    refine Ev.step (fun k => by simp only [spec_ExSyms.l0]; rw [if_neg (by omega)]) ?_
    exact Ev.last (fun k => by simp only [spec_ExSyms.j1]; rw [if_neg (by decide)])
  | succ d ih =>
    intro s out hs hl
    refine Ev.step (fun k => by simp only [spec_ExSyms.l0]; rw [if_pos (by omega)]) (Ev.bind (spec_ExOk_ev x h) ?_)
    rw [ho]
    refine Ev.step (fun k => by simp only [spec_ExSyms.j1]; rw [if_pos trivial, w_succ (by omega)]) (Ev.bind (names_ev x h hf (s : Int)) ?_)
    unfold upS
    by_cases c : (s : Int) ∈ symsX x
    · rw [decide_eq_true c, if_pos c]
      refine Ev.pos rfl (Ev.pos (by omega) ?_)
      have := ih (s + 1) (out ++ [(s : Int)]) (by omega) (by rw [List.length_append, List.length_singleton]; omega)
      rwa [List.append_assoc, List.singleton_append] at this
    · rw [decide_eq_false c, if_neg c]
      exact Ev.neg (by decide) (ih (s + 1) out (by omega) (by omega))
theorem spec_ExSyms_ev (x : S29) (h : allY x ≤ 1048576) : Ev (fun k => spec_ExSyms.f k x.f0 x.f1 x.f2 x.f3) (symsO x) := by
  unfold spec_ExSyms.f symsO
  cases hv : okX x with
  | false =>
    refine Ev.step (fun k => by simp only [spec_ExSyms.l0]; rw [if_pos (by omega)]) (Ev.bind (spec_ExOk_ev x h) ?_)
    rw [hv]
    exact Ev.last (fun k => by simp only [spec_ExSyms.j1]; rw [if_neg (by decide)]; simp)
  | true =>
    have hk := hv
    unfold okX at hk
    simp only [Bool.and_eq_true, decide_eq_true_eq] at hk
    have := spec_ExSyms_l0_ev x h hv hk.1.1 5 0 [] (by omega) (by simp)
    rw [List.nil_append, upS_is x hk.1.1] at this
    rw [if_pos rfl]
    exact this
theorem asc_sub : ∀ m l : List Int, Asc l → Asc m → (∀ x ∈ l, x ∈ m) → l.length ≤ m.length
  | [], l, _, _, h => by
    rcases l with _ | ⟨x, xs⟩
    · simp
    · have := h x (by simp); simp at this
  | y :: ys, [], _, _, _ => by simp
  | y :: ys, x :: xs, hl, hm, h => by
    have h1 := List.pairwise_cons.1 hl
    have h2 := List.pairwise_cons.1 hm
    by_cases e : x = y
    · have := asc_sub ys xs h1.2 h2.2 (fun z hz => by
        rcases List.mem_cons.1 (h z (by simp [hz])) with g | g
        · have := h1.1 z hz; omega
        · exact g)
      simp only [List.length_cons]
      omega
    have hx : x ∈ ys := by
      rcases List.mem_cons.1 (h x (by simp)) with g | g
      · exact absurd g e
      · exact g
    have := asc_sub ys (x :: xs) hl h2.2 (fun z hz => by
      rcases List.mem_cons.1 (h z hz) with g | g
      · have g1 := h2.1 x hx
        rcases List.mem_cons.1 hz with g2 | g2
        · omega
        · have := h1.1 z g2; omega
      · exact g)
    simp only [List.length_cons] at this ⊢
    omega
theorem okX_iff (x : S29) : okX x = true ↔ fmY x = true ∧ deepY x ≤ 5 ∧ manyY x ≤ 12 := by
  unfold okX
  simp only [Bool.and_eq_true, decide_eq_true_eq, and_assoc]
section
variable (x y : S29)
theorem one_many : manyY (⟨7, 0, 1, [x]⟩ : S29) = 1 + manyY x := by rw [manyY_is]; simp [manysY_cons, manysY_nil]
theorem one_all : allY (⟨7, 0, 1, [x]⟩ : S29) = 1 + allY x := by rw [allY_is]; simp [kidsY_cons, kidsY_nil]
theorem one_syms : symsX (⟨7, 0, 1, [x]⟩ : S29) = symsX x := by rw [symsX_is]; simp [symsL_cons, symsL_nil]
theorem one_ok (h : okX (⟨7, 0, 1, [x]⟩ : S29) = true) : okX x = true := by
  rw [okX_iff] at h ⊢
  obtain ⟨h1, h2, h3⟩ := h
  rw [fmY_is] at h1
  rw [deepY_is] at h2
  rw [one_many] at h3
  simp only [fmsY_cons, fmsY_nil, Bool.and_true, Bool.and_eq_true, deepsY_cons, deepsY_nil] at h1 h2
  exact ⟨h1.2, by omega, by omega⟩
theorem two_many : manyY (⟨4, 0, 0, [x, y]⟩ : S29) = 1 + manyY x + manyY y := by rw [manyY_is]; simp [manysY_cons, manysY_nil]; omega
theorem two_all : allY (⟨4, 0, 0, [x, y]⟩ : S29) = 2 + allY x + allY y := by rw [allY_is]; simp [kidsY_cons, kidsY_nil]; omega
theorem two_syms : symsX (⟨4, 0, 0, [x, y]⟩ : S29) = symsX x ++ symsX y := by rw [symsX_is]; simp [symsL_cons, symsL_nil]
theorem two_ok (h : okX (⟨4, 0, 0, [x, y]⟩ : S29) = true) : okX x = true ∧ okX y = true := by
  rw [okX_iff] at h
  rw [okX_iff, okX_iff]
  obtain ⟨h1, h2, h3⟩ := h
  rw [fmY_is] at h1
  rw [deepY_is] at h2
  rw [two_many] at h3
  simp only [fmsY_cons, fmsY_nil, Bool.and_true, Bool.and_eq_true, deepsY_cons, deepsY_nil] at h1 h2
  exact ⟨⟨h1.2.1, by omega, by omega⟩, ⟨h1.2.2, by omega, by omega⟩⟩
end
theorem symsO_ok {x : S29} (h : okX x = true) : symsO x = Lib.compact (sortI (symsX x)) := by unfold symsO; rw [if_pos h]
theorem symsO_asc {x : S29} (h : okX x = true) : Asc (symsO x) := by rw [symsO_ok h]; exact compact_asc _ (sortI_sorted _)
theorem mem_symsO {x : S29} (h : okX x = true) (z : Int) : z ∈ symsO x ↔ z ∈ symsX x := by rw [symsO_ok h, mem_compact, mem_sortI]
theorem symsO_pos {x : S29} (h : okX x = true) : 0 < (symsO x).length := by
  have h1 := syms_ne x ((okX_iff x).1 h).1
  rcases hx : symsX x with _ | ⟨z, l⟩
  · rw [hx] at h1; simp at h1
  · have : z ∈ symsO x := (mem_symsO h z).2 (by rw [hx]; simp)
    exact List.length_pos_of_mem this
theorem numY_ok {x : S29} (h : okX x = true) : numY x = (manyY x : Int) ∧ 1 ≤ manyY x ∧ manyY x ≤ 12 := by
  refine ⟨by unfold numY; rw [if_pos h], by rw [manyY_is]; omega, ((okX_iff x).1 h).2.2⟩
theorem manyG_ev (x y : S29) (hx : allY x ≤ 1000) (hy : allY y ≤ 1000) : Ev (fun k => laws_FnExMany.g k x.f0 x.f1 x.f2 x.f3 y.f0 y.f1 y.f2 y.f3) true := by
  have ex : (⟨x.f0, x.f1, x.f2, x.f3⟩ : S29) = x := by cases x; rfl
  have ey : (⟨y.f0, y.f1, y.f2, y.f3⟩ : S29) = y := by cases y; rfl
  obtain ⟨e, s1, s2⟩ := same_ev x (by omega) y
  have aP := one_all x
  have aQ := two_all x y
  have lx := symsO_len x
  have ly := symsO_len y
  have lQ := symsO_len ⟨4, 0, 0, [x, y]⟩
  unfold laws_FnExMany.g
  rw [ex, ey]
  refine Ev.bind (impl_ExMany2_ev x (by omega)) (Ev.bind (impl_ExSyms_ev x (by omega)) (Ev.bind (spec_ExMany2_ev x (by omega)) (Ev.bind (spec_ExSyms_ev x (by omega)) (Ev.bind s2 (Ev.bind s1 (Ev.bind (same_self x (by omega)) ?_))))))
  refine Ev.bind (impl_ExOk_ev ⟨7, 0, 1, [x]⟩ (by omega)) (Ev.bind (impl_ExMany2_ev ⟨7, 0, 1, [x]⟩ (by omega)) (Ev.bind (impl_ExSyms_ev ⟨7, 0, 1, [x]⟩ (by omega)) ?_))
  refine Ev.bind (impl_ExOk_ev ⟨4, 0, 0, [x, y]⟩ (by omega)) (Ev.bind (impl_ExSyms_ev y (by omega)) (Ev.bind (impl_ExSyms_ev ⟨4, 0, 0, [x, y]⟩ (by omega)) (Ev.bind (impl_ExMany2_ev ⟨4, 0, 0, [x, y]⟩ (by omega)) (Ev.bind (impl_ExMany2_ev y (by omega)) (Ev.bind (spec_ExOk_ev x (by omega)) ?_)))))
  refine Ev.pos ⟨⟨rfl, rfl, rfl, rfl⟩, fun hp => ?_, fun hq => ?_, ?_, ?_⟩ (Ev.now _)
  · have hx' := one_ok x hp
    obtain ⟨n1, n2, n3⟩ := numY_ok hp
    obtain ⟨m1, m2, m3⟩ := numY_ok hx'
    rw [one_many] at n1 n3
    refine ⟨by rw [n1, m1, w_small (by omega) (by omega)]; omega, ?_⟩
    rw [symsO_ok hp, symsO_ok hx', one_syms]
  · obtain ⟨hx', hy'⟩ := two_ok x y hq
    obtain ⟨n1, n2, n3⟩ := numY_ok hq
    obtain ⟨m1, m2, m3⟩ := numY_ok hx'
    obtain ⟨p1, p2, p3⟩ := numY_ok hy'
    rw [two_many] at n1 n3
    have e1 : symsO ⟨4, 0, 0, [x, y]⟩ = joinI (symsO x) (symsO y) := asc_ext _ _ (symsO_asc hq) (joinI_asc _ _) (fun z => by rw [mem_symsO hq, two_syms, List.mem_append, mem_joinI, mem_symsO hx', mem_symsO hy'])
    have g1 := asc_sub _ _ (symsO_asc hx') (symsO_asc hq) (fun z hz => (mem_symsO hq z).2 (by rw [two_syms, List.mem_append]; exact .inl ((mem_symsO hx' z).1 hz)))
    have g2 := asc_sub _ _ (symsO_asc hy') (symsO_asc hq) (fun z hz => (mem_symsO hq z).2 (by rw [two_syms, List.mem_append]; exact .inr ((mem_symsO hy' z).1 hz)))
    have g3 := joinI_le (symsO x) (symsO y)
    rw [← e1] at g3
    have w1 : wrap64 (numY x + numY y) = numY x + numY y := by rw [m1, p1]; exact w_small (by omega) (by omega)
    refine ⟨?_, by omega, by omega, ?_⟩
    · rw [w1, w_small (by omega) (by omega), n1, m1, p1]; omega
    · rw [w_small (by omega) (by omega)]; omega
  · cases ho : okX x with
    | true =>
      obtain ⟨m1, m2, m3⟩ := numY_ok ho
      have : (numY x == 0) = false := beq_eq_false_iff_ne.2 (by omega)
      rw [this]; rfl
    | false =>
      have : (numY x == 0) = true := beq_iff_eq.2 (by unfold numY; rw [if_neg (by rw [ho]; decide)])
      rw [this]; rfl
  · cases ho : okX x with
    | true => rw [decide_eq_true (symsO_pos ho)]; rfl
    | false =>
      have : symsO x = [] := by unfold symsO; rw [if_neg (by rw [ho]; decide)]
      rw [this]; rfl
theorem FnExMany_pure (l0 : List Int) (h0 : l0.length ≤ maxLen ∧ ∀ y ∈ l0, (Lit.int .u8 y).wf = true) (_ : l0.length * 1 ≤ 140737488351232) : ∃ k, laws_FnExMany.f k l0 = some true := by
  refine Ev.rounds (g := fun k => laws_FnExMany.f k l0) ?_
  unfold laws_FnExMany.f
  by_cases c : (l0.length : Int) > 1048576
  · exact Ev.pos c (Ev.now _)
  · obtain ⟨a, b, h, ha, hb⟩ := DrawExSame_ev l0 (maxLen_le h0.1) h0.2
    exact Ev.neg c (Ev.bind h (manyG_ev a b ha hb))
end Go.Proofs.Ytbcdfbiggjfmlaa.M
