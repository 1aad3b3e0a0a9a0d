/- What the claim's law leans on: the program's functions, what they compute, and the law over plain values; no condition is asked. (Part 4 of 6.) -/
import Derived.Test.YtdljhokealbnnaaCLawsFnRulesTurn3
namespace Go.Proofs.Ytdljhokealbnnaa.M
open Go.RowKit Go.Proofs.YtdljhokealbnnaaW.PrintWords Go.Proofs.YtdljhokealbnnaaW.PrintLast Go.Proofs.YtdljhokealbnnaaW.PrintMore
attribute [local go_sem] max2_int min2_int max_two min_two max_three min_three max_four min_four
set_option linter.unusedVariables false
set_option linter.unusedSimpArgs false

def spec_l8Rule.j0 : Nat → ByteArray → List Int → Int → Int → Int → Int → List (S37) → Option (ByteArray × Int × Int × Int × Int × Int × (List (S37)) × Int × Int × Int × Int × Int × Int)
 | 0, _, _, _, _, _, _, _ => none
 | k + 1, x1, x1000, x1001, x110000, x110001, x110002, x110003 => (spec_l14Rd_num.f k x1000 x1001 (([0, 0, 0, 1, 5] : List Int))).bind fun bt122 => ((spec_l14Rd_num.f k x1000 bt122.2 (([0, 1, 5, 5, 9] : List Int))).bind fun bt127 => ((spec_l14Rd_pick.f k x1000 bt127.2 5).bind fun bt129 => ((spec_l14Rd_num.f k x1000 bt129.2 (([100, 100, 5] : List Int))).bind fun bt134 => ((spec_l14Rd_pick.f k x1000 bt134.2 4).bind fun bt136 => ((spec_l14Rd_num.f k x1000 bt136.2 (([1, 1, 2, 9, 0, (-1)] : List Int))).bind fun bt141 => ((spec_l14Rd_num.f k x1000 bt141.2 (([(-1), (-1), (-1), (-1), 3, 4, 2] : List Int))).bind fun bt146 => (some (x1, bt127.1, bt129.1, x110000, x110001, x110002, x110003, bt122.1, bt134.1, bt136.1, bt141.1, bt146.1, bt146.2))))))))
def spec_l8Rule.f (k : Nat) (s0_0 : List Int) (s0_1 : Int) (a1 : ByteArray) : Option (ByteArray × Int × Int × Int × Int × Int × (List (S37)) × Int × Int × Int × Int × Int × Int) := (spec_l2Some.f k s0_0 s0_1).bind fun bt102 => ((spec_l14Rd_pick.f k s0_0 bt102.2.2.2.2 2).bind fun bt110 => (if bt110.1 = 0 then ((spec_l2Ex.f k s0_0 bt110.2 2).bind fun bt112 => (spec_l8Rule.j0 k a1 s0_0 bt112.2.2.2.2 bt112.1 bt112.2.1 bt112.2.2.1 bt112.2.2.2.1)) else (spec_l8Rule.j0 k a1 s0_0 bt110.2 bt102.1 bt102.2.1 bt102.2.2.1 bt102.2.2.2.1)))
def spec_l8Rule.T5 : Bool × List (List Nat × List Nat) := (true, [([], []), ([], []), ([], []), ([1, 2], [1, 2]), ([], []), ([4, 3], [4]), ([], []), ([], []), ([], []), ([], []), ([8, 9, 5], [8, 9]), ([], []), ([11, 10], [11]), ([], []), ([], []), ([13, 14, 12], [13, 14]), ([], []), ([], []), ([16, 17, 15], [16, 17]), ([0, 3, 5, 6, 7, 10, 12, 15, 18], [0, 3, 5, 6, 7, 10, 12, 15, 18]), ([19, 18, 0, 1, 2, 3, 4, 5, 6, 7, 8, 9, 10, 11, 12, 13, 14, 15, 16, 17, 18, 19], [19])])
def spec_l8Rule.B5 : List Nat := [0, 0, 0, 6, 0, 30, 0, 0, 0, 0, 830, 0, 3902, 0, 0, 32574, 0, 0, 261950, 524287, 1048575]
theorem spec_l8Rule.tab5 : rtab .any (opsOf Try.f133 5) = spec_l8Rule.T5 := by kernel_rfl
theorem spec_l8Rule.bits5 : waitsOk spec_l8Rule.T5.2 spec_l8Rule.B5 = true := by kernel_rfl
set_option maxHeartbeats 8000000 in
set_option maxRecDepth 100000 in
theorem spec_l8Rule.calls (k : Nat) (g : Nat) (s0_0 : List Int) (s0_1 : Int) (a1 : ByteArray) (r1 : ByteArray) (r2 : Int) (r3 : Int) (r4 : Int) (r5 : Int) (r6 : Int) (r7 : List (S37)) (r8 : Int) (r9 : Int) (r10 : Int) (r11 : Int) (r12 : Int) (r13 : Int) (w0 w : World) (hI : IsS127 w0 w g s0_0 s0_1) (hB : Below w0.heap.size w0 w) (h : spec_l8Rule.f k s0_0 s0_1 a1 = some (r1, r2, r3, r4, r5, r6, r7, r8, r9, r10, r11, r12, r13)) :
  Calls Try.prog 133 #[.pointer (some ⟨g, 0, none⟩), .string a1] w fun e w' => ∃ v6_ : Value, e = .returned (.agg #[.string r1, .int .i64 r2, .int .i64 r3, .int .i64 r4, .int .i64 r5, .int .i64 r6, v6_, .int .i64 r8, .int .i64 r9, .int .i64 r10, .int .i64 r11, .int .i64 r12]) ∧ Kd.R k37 37 w' w.heap.size (fun _ => True) v6_ r7 ∧ IsS127 w0 w' g s0_0 r13 ∧ Below w0.heap.size w0 w' ∧ KeepBut w w' g none := by
 have hu39 := Try.underlying39
 have hu37 := Try.underlying37
 have HI0 := m0_ hI
 have HK := m0_ (KeepBut.refl w g none)
 have HL := m0_ hB.size
 clear hI
 have HW0 := m0_ hB.size
 have HB := m0_ hB
 clear hB
 have H : ((spec_l2Some.f k s0_0 s0_1).bind fun bt102 => ((spec_l14Rd_pick.f k s0_0 bt102.2.2.2.2 2).bind fun bt110 => (if bt110.1 = 0 then ((spec_l2Ex.f k s0_0 bt110.2 2).bind fun bt112 => (spec_l8Rule.j0 k a1 s0_0 bt112.2.2.2.2 bt112.1 bt112.2.1 bt112.2.2.1 bt112.2.2.2.1)) else (spec_l8Rule.j0 k a1 s0_0 bt110.2 bt102.1 bt102.2.1 bt102.2.2.1 bt102.2.2.2.1)))) = some (r1, r2, r3, r4, r5, r6, r7, r8, r9, r10, r11, r12, r13) := h
 clear h
 replace H := Option.bind_eq_some_iff.mp H
 obtain ⟨⟨t102, t103, t104, t105, t108⟩, A30, H⟩ := H
 replace H : ((spec_l14Rd_pick.f k s0_0 t108 2).bind fun bt110 => (if bt110.1 = 0 then ((spec_l2Ex.f k s0_0 bt110.2 2).bind fun bt112 => (spec_l8Rule.j0 k a1 s0_0 bt112.2.2.2.2 bt112.1 bt112.2.1 bt112.2.2.1 bt112.2.2.2.1)) else (spec_l8Rule.j0 k a1 s0_0 bt110.2 t102 t103 t104 t105))) = some (r1, r2, r3, r4, r5, r6, r7, r8, r9, r10, r11, r12, r13) := H
 have A3 := m0_ A30
 clear A30
 replace H := Option.bind_eq_some_iff.mp H
 obtain ⟨⟨t110, t111⟩, A40, H⟩ := H
 replace H : (if t110 = 0 then ((spec_l2Ex.f k s0_0 t111 2).bind fun bt112 => (spec_l8Rule.j0 k a1 s0_0 bt112.2.2.2.2 bt112.1 bt112.2.1 bt112.2.2.1 bt112.2.2.2.1)) else (spec_l8Rule.j0 k a1 s0_0 t111 t102 t103 t104 t105)) = some (r1, r2, r3, r4, r5, r6, r7, r8, r9, r10, r11, r12, r13) := H
 have A4 := m0_ A40
 clear A40
 have HC5 := m0_ H
 clear H
 go_enter Try.func133, Try.ntmps133
 go_upto_if 11 with (first | ((with_reducible refine gate_dst (N := 4) rfl ?_);refine box_event ?hg (N := 4) ?hd (cs := #[.string (⟨#[]⟩ : ByteArray), .int .i64 0, .int .i64 0, .int .i64 0, .int .i64 0, .int .i64 0, .slice none 0 0, .int .i64 0, .int .i64 0, .int .i64 0, .int .i64 0, .int .i64 0]) (t := 39) ?hr ?_;(case hd => rfl);(case hg => rfl);(case hr => first | (go_simp;done) | (go_simp;rfl));intro gb101 hg w6 hbox hb;replace HB := m0_ (below_step (by repeat (first | (with_reducible first | exact HB.out | apply below_alloc | apply pw_below_drewN | apply below_drew1 | refine below_set ?_ (IsS127.ge HI0.out)) | exact HB.out)) hb);have BK101 := m0_ (hbox);have GW101 := m0_ ((by rw [hg];exact (keep_size (w := w) (g := g) (row := none) (by repeat (first | (with_reducible first | exact HK.out | apply KeepBut.set_ | apply keep_drewN | apply keep_drew | apply keep_alloc) | exact HK.out))) : w.heap.size ≤ gb101));have GE101 := m0_ ((Nat.le_trans HW0.out (by rw [hg];exact (keep_size (w := w) (g := g) (row := none) (by repeat (first | (with_reducible first | exact HK.out | apply KeepBut.set_ | apply keep_drewN | apply keep_drew | apply keep_alloc) | exact HK.out))) : w.heap.size ≤ gb101) : w0.heap.size ≤ gb101));replace HK := m0_ (KeepBut.trans (by repeat (first | (with_reducible first | exact HK.out | apply KeepBut.set_ | apply keep_drewN | apply keep_drew | apply keep_alloc) | exact HK.out)) (KeepBut.of_below hb g none) (.inl rfl));have NB0_101 := m0_ ((by rw [hg];exact Nat.ne_of_lt (IsS127.lt (show IsS127 w0 _ g s0_0 s0_1 from by repeat (first | (with_reducible first | exact HI0.out | apply IsS127.alloc | apply IsS127.drewN | apply IsS127.drew | apply IsS127.set_1) | exact HI0.out))) : g ≠ gb101));have NB101_0 := m0_ ((by rw [hg];exact Nat.ne_of_gt (IsS127.lt (show IsS127 w0 _ g s0_0 s0_1 from by repeat (first | (with_reducible first | exact HI0.out | apply IsS127.alloc | apply IsS127.drewN | apply IsS127.drew | apply IsS127.set_1) | exact HI0.out))) : gb101 ≠ g));replace HI0 := m0_ (IsS127.below (by repeat (first | (with_reducible first | exact HI0.out | apply IsS127.alloc | apply IsS127.drewN | apply IsS127.drew | apply IsS127.set_1) | exact HI0.out)) hb);clear hb hbox hg) | ((with_reducible refine gate_callee (f := 134) rfl ?_);refine goesL_ (some 8) rfl rfl Try.func134 (by kernel_rfl) rfl #[.pointer (some ⟨g, 0, none⟩)] rfl (by (try simp only [List.map_toArray, List.map_cons, List.map_nil]);first | done | rfl | (simp only [List.length_drop, List.length_take];rfl)) ?_;(with_reducible refine (spec_l2Some.calls k g s0_0 s0_1 t102 t103 t104 t105 t108 w0 _ ?side1 ?side2 A3.out).mono ?_);(case side1 => repeat (first | (with_reducible first | exact HI0.out | apply IsS127.alloc | apply IsS127.drewN | apply IsS127.drew | apply IsS127.set_1 | refine IsS127.far ?_ NB0_101.out _) | exact HI0.out));(case side2 => repeat (first | (with_reducible first | exact HB.out | apply below_alloc | apply pw_below_drewN | apply below_drew1 | refine below_set ?_ (IsS127.ge HI0.out) | refine below_set ?_ GE101.out) | exact HB.out));rintro e w7 ⟨v106, rfl, ho0, hi, hb, hk⟩;refine ⟨_, rfl, ?_⟩;replace BK101 := m0_ (KeepBut.blk hk (g' := gb101) (o := .cells #[.string (⟨#[]⟩ : ByteArray), .int .i64 0, .int .i64 0, .int .i64 0, .int .i64 0, .int .i64 0, .slice none 0 0, .int .i64 0, .int .i64 0, .int .i64 0, .int .i64 0, .int .i64 0] 39 (0, 0)) (by (with_reducible repeat (first | refine blk_drewN ?_ _ | refine blk_drew ?_ | refine blk_alloc ?_ _));exact BK101.out) NB101_0.out (by simp));have HO107 := m0_ (Kd.R_lower ho0 (keep_size (w := w) (g := g) (row := none) (by repeat (first | (with_reducible first | exact HK.out | apply KeepBut.set_ | apply keep_drewN | apply keep_drew | apply keep_alloc | refine keep_far ?_ GW101.out _) | exact HK.out))));replace HK := m0_ (KeepBut.trans (by repeat (first | (with_reducible first | exact HK.out | apply KeepBut.set_ | apply keep_drewN | apply keep_drew | apply keep_alloc | refine keep_far ?_ GW101.out _) | exact HK.out)) hk (.inl rfl));replace HB := m0_ (hb);replace HI0 := m0_ (hi);(try clear hb);(try clear hb2);(try clear hk);(try clear hi);(try clear ho0)) | ((with_reducible refine gate_dst (N := 5) rfl ?_);refine box_event ?hg (N := 5) ?hd (cs := #[.int .i64 0, .int .i64 0, .int .i64 0, .slice none 0 0]) (t := 37) ?hr ?_;(case hd => rfl);(case hg => rfl);(case hr => first | (go_simp;done) | (go_simp;rfl));intro gb109 hg w8 hbox hb;replace HO107 := m0_ (Kd.R_below (Kd.R_elderB (by exact HO107.out) gb109 (Nat.le_of_eq hg.symm)) hb);replace HB := m0_ (below_step (by repeat (first | (with_reducible first | exact HB.out | apply below_alloc | apply pw_below_drewN | apply below_drew1 | refine below_set ?_ (IsS127.ge HI0.out) | refine below_set ?_ GE101.out) | exact HB.out)) hb);have BK109 := m0_ (hbox);have GW109 := m0_ ((by rw [hg];exact (keep_size (w := w) (g := g) (row := none) (by repeat (first | (with_reducible first | exact HK.out | apply KeepBut.set_ | apply keep_drewN | apply keep_drew | apply keep_alloc | refine keep_far ?_ GW101.out _) | exact HK.out))) : w.heap.size ≤ gb109));have GE109 := m0_ ((Nat.le_trans HW0.out (by rw [hg];exact (keep_size (w := w) (g := g) (row := none) (by repeat (first | (with_reducible first | exact HK.out | apply KeepBut.set_ | apply keep_drewN | apply keep_drew | apply keep_alloc | refine keep_far ?_ GW101.out _) | exact HK.out))) : w.heap.size ≤ gb109) : w0.heap.size ≤ gb109));replace HK := m0_ (KeepBut.trans (by repeat (first | (with_reducible first | exact HK.out | apply KeepBut.set_ | apply keep_drewN | apply keep_drew | apply keep_alloc | refine keep_far ?_ GW101.out _) | exact HK.out)) (KeepBut.of_below hb g none) (.inl rfl));have NB101_109 := m0_ ((by rw [hg];exact Nat.ne_of_lt (blk_lt (g := gb101) (o := .cells #[.string (⟨#[]⟩ : ByteArray), .int .i64 0, .int .i64 0, .int .i64 0, .int .i64 0, .int .i64 0, .slice none 0 0, .int .i64 0, .int .i64 0, .int .i64 0, .int .i64 0, .int .i64 0] 39 (0, 0)) (by (with_reducible repeat (first | refine blk_drewN ?_ _ | refine blk_drew ?_ | refine blk_alloc ?_ _));exact BK101.out)) : gb101 ≠ gb109));have NB109_101 := m0_ ((by rw [hg];exact Nat.ne_of_gt (blk_lt (g := gb101) (o := .cells #[.string (⟨#[]⟩ : ByteArray), .int .i64 0, .int .i64 0, .int .i64 0, .int .i64 0, .int .i64 0, .slice none 0 0, .int .i64 0, .int .i64 0, .int .i64 0, .int .i64 0, .int .i64 0] 39 (0, 0)) (by (with_reducible repeat (first | refine blk_drewN ?_ _ | refine blk_drew ?_ | refine blk_alloc ?_ _));exact BK101.out)) : gb109 ≠ gb101));replace BK101 := m0_ (blk_below (g := gb101) (o := .cells #[.string (⟨#[]⟩ : ByteArray), .int .i64 0, .int .i64 0, .int .i64 0, .int .i64 0, .int .i64 0, .slice none 0 0, .int .i64 0, .int .i64 0, .int .i64 0, .int .i64 0, .int .i64 0] 39 (0, 0)) (by (with_reducible repeat (first | refine blk_drewN ?_ _ | refine blk_drew ?_ | refine blk_alloc ?_ _));exact BK101.out) hb);have NB0_109 := m0_ ((by rw [hg];exact Nat.ne_of_lt (IsS127.lt (show IsS127 w0 _ g s0_0 t108 from by repeat (first | (with_reducible first | exact HI0.out | apply IsS127.alloc | apply IsS127.drewN | apply IsS127.drew | apply IsS127.set_1 | refine IsS127.far ?_ NB0_101.out _) | exact HI0.out))) : g ≠ gb109));have NB109_0 := m0_ ((by rw [hg];exact Nat.ne_of_gt (IsS127.lt (show IsS127 w0 _ g s0_0 t108 from by repeat (first | (with_reducible first | exact HI0.out | apply IsS127.alloc | apply IsS127.drewN | apply IsS127.drew | apply IsS127.set_1 | refine IsS127.far ?_ NB0_101.out _) | exact HI0.out))) : gb109 ≠ g));replace HI0 := m0_ (IsS127.below (by repeat (first | (with_reducible first | exact HI0.out | apply IsS127.alloc | apply IsS127.drewN | apply IsS127.drew | apply IsS127.set_1 | refine IsS127.far ?_ NB0_101.out _) | exact HI0.out)) hb);clear hb hbox hg;have hnb9 := NB109_101.out;have hnc9 := NB101_109.out;have hnb10 := NB109_0.out;have hnc10 := NB0_109.out;obtain ⟨hcz11_0, hcz11_1, hcz11_2, hcz11_3, hfz11_0, hfz11_1, hfz11_2, hfz11_3⟩ := bx4 BK109.out;obtain ⟨Ao12, co12, eo12⟩ := Kd.R_slice HO107.out;subst eo12) | ((with_reducible refine gate_callee (f := 97) rfl ?_);refine goesL_ (some 10) rfl rfl Try.func97 (by kernel_rfl) rfl #[.pointer (some ⟨g, 0, none⟩), .int .i64 2] rfl (by (try simp only [List.map_toArray, List.map_cons, List.map_nil]);first | done | rfl | (simp only [List.length_drop, List.length_take];rfl)) ?_;(with_reducible refine (spec_l14Rd_pick.calls k g s0_0 t108 2 t110 t111 w0 _ ?side1 ?side2 A4.out).mono ?_);(case side1 => repeat (first | (with_reducible first | exact HI0.out | apply IsS127.alloc | apply IsS127.drewN | apply IsS127.drew | apply IsS127.set_1 | refine IsS127.far ?_ NB0_101.out _ | refine IsS127.far ?_ NB0_109.out _) | exact HI0.out));(case side2 => repeat (first | (with_reducible first | exact HB.out | apply below_alloc | apply pw_below_drewN | apply below_drew1 | refine below_set ?_ (IsS127.ge HI0.out) | refine below_set ?_ GE101.out | refine below_set ?_ GE109.out) | exact HB.out));rintro e w13 ⟨rfl, hi, hb, hk⟩;refine ⟨_, rfl, ?_⟩;replace BK101 := m0_ (KeepBut.blk hk (g' := gb101) (o := .cells #[.string (⟨#[]⟩ : ByteArray), .int .i64 0, .int .i64 0, .int .i64 0, .int .i64 0, .int .i64 0, .slice none 0 0, .int .i64 0, .int .i64 0, .int .i64 0, .int .i64 0, .int .i64 0] 39 (0, 0)) (by (with_reducible repeat (first | refine blk_drewN ?_ _ | refine blk_drew ?_ | refine blk_alloc ?_ _));refine blk_far ?_ NB101_109.out _;(with_reducible repeat (first | refine blk_drewN ?_ _ | refine blk_drew ?_ | refine blk_alloc ?_ _));refine blk_far ?_ NB101_109.out _;(with_reducible repeat (first | refine blk_drewN ?_ _ | refine blk_drew ?_ | refine blk_alloc ?_ _));refine blk_far ?_ NB101_109.out _;(with_reducible repeat (first | refine blk_drewN ?_ _ | refine blk_drew ?_ | refine blk_alloc ?_ _));refine blk_far ?_ NB101_109.out _;(with_reducible repeat (first | refine blk_drewN ?_ _ | refine blk_drew ?_ | refine blk_alloc ?_ _));exact BK101.out) NB101_0.out (by simp));replace HO107 := m0_ (Kd.R_mono (Kd.R_keep (IsS127.apart (show IsS127 w0 _ g s0_0 t108 from by repeat (first | (with_reducible first | exact HI0.out | apply IsS127.alloc | apply IsS127.drewN | apply IsS127.drew | apply IsS127.set_1 | refine IsS127.far ?_ NB0_101.out _ | refine IsS127.far ?_ NB0_109.out _) | exact HI0.out)) (by (with_reducible repeat (first | apply Kd.R_alloc | apply Kd.R_drewN | apply Kd.R_drew));exact (Kd.R_mono (Kd.R_far (p := ⟨gb109, 3, none⟩) (Kd.R_far (p := ⟨gb109, 2, none⟩) (Kd.R_far (p := ⟨gb109, 1, none⟩) (Kd.R_far (p := ⟨gb109, 0, none⟩) (Kd.R_mono HO107.out (fun k_ hk => (⟨hk, hk.2⟩ : _ ∧ k_ ≠ gb109))) (fun _ hk => hk.2) (.int .i64 t102)) (fun _ hk => hk.2) (.int .i64 t103)) (fun _ hk => hk.2) (.int .i64 t104)) (fun _ hk => hk.2) (.slice Ao12 t105.length co12)) (fun _ h_ => h_.1))) (by decide)) hk (fun _ h => h.2)) (fun _ h => h.1));replace BK109 := m0_ (KeepBut.blk hk (g' := gb109) (o := .cells #[.int .i64 t102, .int .i64 t103, .int .i64 t104, .slice Ao12 t105.length co12] 37 (0, 0)) (by (with_reducible repeat (first | refine blk_drewN ?_ _ | refine blk_drew ?_ | refine blk_alloc ?_ _));refine blk_put (cs := #[.int .i64 t102, .int .i64 t103, .int .i64 t104, .slice none 0 0]) ?_ 3 _ rfl;(with_reducible repeat (first | refine blk_drewN ?_ _ | refine blk_drew ?_ | refine blk_alloc ?_ _));refine blk_put (cs := #[.int .i64 t102, .int .i64 t103, .int .i64 0, .slice none 0 0]) ?_ 2 _ rfl;(with_reducible repeat (first | refine blk_drewN ?_ _ | refine blk_drew ?_ | refine blk_alloc ?_ _));refine blk_put (cs := #[.int .i64 t102, .int .i64 0, .int .i64 0, .slice none 0 0]) ?_ 1 _ rfl;(with_reducible repeat (first | refine blk_drewN ?_ _ | refine blk_drew ?_ | refine blk_alloc ?_ _));refine blk_put (cs := #[.int .i64 0, .int .i64 0, .int .i64 0, .slice none 0 0]) ?_ 0 _ rfl;(with_reducible repeat (first | refine blk_drewN ?_ _ | refine blk_drew ?_ | refine blk_alloc ?_ _));exact BK109.out) NB109_0.out (by simp));replace HK := m0_ (KeepBut.trans (by repeat (first | (with_reducible first | exact HK.out | apply KeepBut.set_ | apply keep_drewN | apply keep_drew | apply keep_alloc | refine keep_far ?_ GW101.out _ | refine keep_far ?_ GW109.out _) | exact HK.out)) hk (.inl rfl));replace HB := m0_ (hb);replace HI0 := m0_ (hi);(try clear hb);(try clear hb2);(try clear hk);(try clear hi)))
 (try simp only [Act.put, List.setIfInBounds_toArray, List.set_cons_zero, List.set_cons_succ])
 go_cut [] (fun wc => ∃ (kq : Nat) (x1001_4 : Int) (x110000_4 : Int) (x110001_4 : Int) (x110002_4 : Int) (x110003_4 : List (S37)) (u110003 : Value), Aside0 (spec_l8Rule.j0 kq a1 s0_0 x1001_4 x110000_4 x110001_4 x110002_4 x110003_4 = some (r1, r2, r3, r4, r5, r6, r7, r8, r9, r10, r11, r12, r13)) ∧ Aside0 (kq ≤ k) ∧ Aside0 (Kd.R k37 37 wc w.heap.size (fun k_ => k_ ≠ gb109) u110003 x110003_4) ∧ Aside0 (wc.heap[gb101]? = some (.cells #[.string (⟨#[]⟩ : ByteArray), .int .i64 0, .int .i64 0, .int .i64 0, .int .i64 0, .int .i64 0, (.slice none 0 0), .int .i64 0, .int .i64 0, .int .i64 0, .int .i64 0, .int .i64 0] 39 (0, 0))) ∧ Aside0 (wc.heap[gb109]? = some (.cells #[.int .i64 x110000_4, .int .i64 x110001_4, .int .i64 x110002_4, u110003] 37 (0, 0))) ∧ Aside0 (IsS127 w0 wc g s0_0 x1001_4) ∧ Aside0 (KeepBut w wc g none) ∧ Aside0 (Below w0.heap.size w0 wc))
 case first =>
  have H := HC5.out
  clear HC5
  by_cases c14 : t110 = 0
  rotate_left
  ·rw [if_neg c14] at H
   have c14b0 : (t110 == 0) = false := beq_eq_false_iff_ne.mpr c14
   have c14b1 : (t110 != 0) = true := bne_iff_ne.mpr c14
   (first | rw [c14b0] | (simp only [i64_w, i32_w];rw [c14b0]) | skip)
   have H' := m0_ H
   clear H
   go_wp2
   go_meet
   case rel => exact ⟨_, (t111), (t102), (t103), (t104), (t105), (.slice Ao12 t105.length co12), H', ⟨by first | omega | exact Nat.le_refl _⟩, ⟨by (with_reducible repeat (first | apply Kd.R_alloc | apply Kd.R_drewN | apply Kd.R_drew));exact Kd.R_mono HO107.out (fun _ hk => hk.2)⟩, ⟨by (with_reducible repeat (first | refine blk_drewN ?_ _ | refine blk_drew ?_ | refine blk_alloc ?_ _));exact BK101.out⟩, ⟨by (with_reducible repeat (first | refine blk_drewN ?_ _ | refine blk_drew ?_ | refine blk_alloc ?_ _));exact BK109.out⟩, ⟨by repeat (first | (with_reducible first | exact HI0.out | apply IsS127.alloc | apply IsS127.drewN | apply IsS127.drew | apply IsS127.set_1 | refine IsS127.far ?_ NB0_101.out _ | refine IsS127.far ?_ NB0_109.out _) | exact HI0.out)⟩, ⟨by repeat (first | (with_reducible first | exact HK.out | apply KeepBut.set_ | apply keep_drewN | apply keep_drew | apply keep_alloc | refine keep_far ?_ GW101.out _ | refine keep_far ?_ GW109.out _) | exact HK.out)⟩, ⟨by repeat (first | (with_reducible first | exact HB.out | apply below_alloc | apply pw_below_drewN | apply below_drew1 | refine below_set ?_ (IsS127.ge HI0.out) | refine below_set ?_ GE101.out | refine below_set ?_ GE109.out) | exact HB.out)⟩⟩
  rw [if_pos c14] at H
  have c14b0 : (t110 == 0) = true := beq_iff_eq.mpr c14
  have c14b1 : (t110 != 0) = false := bne_eq_false_iff_eq.mpr c14
  clear c14
  (first | rw [c14b0] | (simp only [i64_w, i32_w];rw [c14b0]) | skip)
  replace H := Option.bind_eq_some_iff.mp H
  obtain ⟨⟨t112, t113, t114, t115, t118⟩, A150, H⟩ := H
  replace H : (spec_l8Rule.j0 k a1 s0_0 t118 t112 t113 t114 t115) = some (r1, r2, r3, r4, r5, r6, r7, r8, r9, r10, r11, r12, r13) := H
  have A15 := m0_ A150
  clear A150
  have H' := m0_ H
  clear H
  go_wp2_with (first | ((with_reducible refine gate_callee (f := 162) rfl ?_);refine goesL_ (some 13) rfl rfl Try.func162 (by kernel_rfl) rfl #[.pointer (some ⟨g, 0, none⟩), .int .i64 2] rfl (by (try simp only [List.map_toArray, List.map_cons, List.map_nil]);first | done | rfl | (simp only [List.length_drop, List.length_take];rfl)) ?_;(with_reducible refine (spec_l2Ex.calls k g s0_0 t111 2 t112 t113 t114 t115 t118 w0 _ ?side1 ?side2 A15.out).mono ?_);(case side1 => repeat (first | (with_reducible first | exact HI0.out | apply IsS127.alloc | apply IsS127.drewN | apply IsS127.drew | apply IsS127.set_1 | refine IsS127.far ?_ NB0_101.out _ | refine IsS127.far ?_ NB0_109.out _) | exact HI0.out));(case side2 => repeat (first | (with_reducible first | exact HB.out | apply below_alloc | apply pw_below_drewN | apply below_drew1 | refine below_set ?_ (IsS127.ge HI0.out) | refine below_set ?_ GE101.out | refine below_set ?_ GE109.out) | exact HB.out));rintro e w16 ⟨v116, rfl, ho0, hi, hb, hk⟩;refine ⟨_, rfl, ?_⟩;replace BK101 := m0_ (KeepBut.blk hk (g' := gb101) (o := .cells #[.string (⟨#[]⟩ : ByteArray), .int .i64 0, .int .i64 0, .int .i64 0, .int .i64 0, .int .i64 0, .slice none 0 0, .int .i64 0, .int .i64 0, .int .i64 0, .int .i64 0, .int .i64 0] 39 (0, 0)) (by (with_reducible repeat (first | refine blk_drewN ?_ _ | refine blk_drew ?_ | refine blk_alloc ?_ _));exact BK101.out) NB101_0.out (by simp));have HO117 := m0_ (Kd.R_lower (Kd.R_newB (Kd.R_new' ho0 (Kd.R_lt (by exact HO107.out))) BK109.out) (keep_size (w := w) (g := g) (row := none) (by repeat (first | (with_reducible first | exact HK.out | apply KeepBut.set_ | apply keep_drewN | apply keep_drew | apply keep_alloc | refine keep_far ?_ GW101.out _ | refine keep_far ?_ GW109.out _) | exact HK.out))));replace HO107 := m0_ (Kd.R_mono (Kd.R_told (Kd.R_oldK (IsS127.apart (show IsS127 w0 _ g s0_0 t111 from by repeat (first | (with_reducible first | exact HI0.out | apply IsS127.alloc | apply IsS127.drewN | apply IsS127.drew | apply IsS127.set_1 | refine IsS127.far ?_ NB0_101.out _ | refine IsS127.far ?_ NB0_109.out _) | exact HI0.out)) (by exact HO107.out) (by decide)) hk) (Kd.R_base ho0)) (fun _ h_ => h_.1));replace BK109 := m0_ (KeepBut.blk hk (g' := gb109) (o := .cells #[.int .i64 t102, .int .i64 t103, .int .i64 t104, .slice Ao12 t105.length co12] 37 (0, 0)) (by (with_reducible repeat (first | refine blk_drewN ?_ _ | refine blk_drew ?_ | refine blk_alloc ?_ _));exact BK109.out) NB109_0.out (by simp));replace HK := m0_ (KeepBut.trans (by repeat (first | (with_reducible first | exact HK.out | apply KeepBut.set_ | apply keep_drewN | apply keep_drew | apply keep_alloc | refine keep_far ?_ GW101.out _ | refine keep_far ?_ GW109.out _) | exact HK.out)) hk (.inl rfl));replace HB := m0_ (hb);replace HI0 := m0_ (hi);(try clear hb);(try clear hb2);(try clear hk);(try clear hi);(try clear ho0);have hnb17 := NB109_101.out;have hnc17 := NB101_109.out;have hnb18 := NB109_0.out;have hnc18 := NB0_109.out;obtain ⟨hcz19_0, hcz19_1, hcz19_2, hcz19_3, hfz19_0, hfz19_1, hfz19_2, hfz19_3⟩ := bx4 BK109.out;obtain ⟨Ao20, co20, eo20⟩ := Kd.R_slice HO117.out;subst eo20))
  go_meet
  case rel => exact ⟨_, (t118), (t112), (t113), (t114), (t115), (.slice Ao20 t115.length co20), H', ⟨by first | omega | exact Nat.le_refl _⟩, ⟨by (with_reducible repeat (first | apply Kd.R_alloc | apply Kd.R_drewN | apply Kd.R_drew));exact Kd.R_mono (Kd.R_far (p := ⟨gb109, 3, none⟩) (Kd.R_far (p := ⟨gb109, 2, none⟩) (Kd.R_far (p := ⟨gb109, 1, none⟩) (Kd.R_far (p := ⟨gb109, 0, none⟩) (Kd.R_mono HO117.out (fun k_ hk => (⟨hk, hk.2⟩ : _ ∧ k_ ≠ gb109))) (fun _ hk => hk.2) (.int .i64 t112)) (fun _ hk => hk.2) (.int .i64 t113)) (fun _ hk => hk.2) (.int .i64 t114)) (fun _ hk => hk.2) (.slice Ao20 t115.length co20)) (fun _ hk => hk.1.2)⟩, ⟨by (with_reducible repeat (first | refine blk_drewN ?_ _ | refine blk_drew ?_ | refine blk_alloc ?_ _));refine blk_far ?_ NB101_109.out _;(with_reducible repeat (first | refine blk_drewN ?_ _ | refine blk_drew ?_ | refine blk_alloc ?_ _));refine blk_far ?_ NB101_109.out _;(with_reducible repeat (first | refine blk_drewN ?_ _ | refine blk_drew ?_ | refine blk_alloc ?_ _));refine blk_far ?_ NB101_109.out _;(with_reducible repeat (first | refine blk_drewN ?_ _ | refine blk_drew ?_ | refine blk_alloc ?_ _));refine blk_far ?_ NB101_109.out _;(with_reducible repeat (first | refine blk_drewN ?_ _ | refine blk_drew ?_ | refine blk_alloc ?_ _));exact BK101.out⟩, ⟨by (with_reducible repeat (first | refine blk_drewN ?_ _ | refine blk_drew ?_ | refine blk_alloc ?_ _));refine blk_put (cs := #[.int .i64 t112, .int .i64 t113, .int .i64 t114, .slice Ao12 t105.length co12]) ?_ 3 _ rfl;(with_reducible repeat (first | refine blk_drewN ?_ _ | refine blk_drew ?_ | refine blk_alloc ?_ _));refine blk_put (cs := #[.int .i64 t112, .int .i64 t113, .int .i64 t104, .slice Ao12 t105.length co12]) ?_ 2 _ rfl;(with_reducible repeat (first | refine blk_drewN ?_ _ | refine blk_drew ?_ | refine blk_alloc ?_ _));refine blk_put (cs := #[.int .i64 t112, .int .i64 t103, .int .i64 t104, .slice Ao12 t105.length co12]) ?_ 1 _ rfl;(with_reducible repeat (first | refine blk_drewN ?_ _ | refine blk_drew ?_ | refine blk_alloc ?_ _));refine blk_put (cs := #[.int .i64 t102, .int .i64 t103, .int .i64 t104, .slice Ao12 t105.length co12]) ?_ 0 _ rfl;(with_reducible repeat (first | refine blk_drewN ?_ _ | refine blk_drew ?_ | refine blk_alloc ?_ _));exact BK109.out⟩, ⟨by repeat (first | (with_reducible first | exact HI0.out | apply IsS127.alloc | apply IsS127.drewN | apply IsS127.drew | apply IsS127.set_1 | refine IsS127.far ?_ NB0_101.out _ | refine IsS127.far ?_ NB0_109.out _) | exact HI0.out)⟩, ⟨by repeat (first | (with_reducible first | exact HK.out | apply KeepBut.set_ | apply keep_drewN | apply keep_drew | apply keep_alloc | refine keep_far ?_ GW101.out _ | refine keep_far ?_ GW109.out _) | exact HK.out)⟩, ⟨by repeat (first | (with_reducible first | exact HB.out | apply below_alloc | apply pw_below_drewN | apply below_drew1 | refine below_set ?_ (IsS127.ge HI0.out) | refine below_set ?_ GE101.out | refine below_set ?_ GE109.out) | exact HB.out)⟩⟩
 case rest =>
  clear HC5
  try clear c1
  try clear p2
  try clear c9
  try clear c10
  try clear c13
  try clear c14
  try clear c14b0
  try clear c14b1
  try clear c16
  try clear c17
  try clear c18
  try clear hcz11_0
  try clear hcz11_1
  try clear hcz11_2
  try clear hcz11_3
  try clear hcz19_0
  try clear hcz19_1
  try clear hcz19_2
  try clear hcz19_3
  try clear hfz11_0
  try clear hfz11_1
  try clear hfz11_2
  try clear hfz11_3
  try clear hfz19_0
  try clear hfz19_1
  try clear hfz19_2
  try clear hfz19_3
  obtain ⟨kq, x1001_4, x110000_4, x110001_4, x110002_4, x110003_4, u110003, HA, HJ4, HO_110003, BK101, BK109, HI0, HK, HB⟩ := hcut
  cases kq with
  | zero => exact absurd HA.out (by simp [spec_l8Rule.j0])
  | succ kj4 =>
   have H := HA.out
   clear HA
   simp only [spec_l8Rule.j0] at H
   obtain ⟨y119, hy119⟩ : ∃ y_ : List Int, y_ = (([0, 0, 0, 1, 5] : List Int)) := ⟨_, rfl⟩
   replace H : ((spec_l14Rd_num.f kj4 s0_0 x1001_4 y119).bind fun bt122 => ((spec_l14Rd_num.f kj4 s0_0 bt122.2 (([0, 1, 5, 5, 9] : List Int))).bind fun bt127 => ((spec_l14Rd_pick.f kj4 s0_0 bt127.2 5).bind fun bt129 => ((spec_l14Rd_num.f kj4 s0_0 bt129.2 (([100, 100, 5] : List Int))).bind fun bt134 => ((spec_l14Rd_pick.f kj4 s0_0 bt134.2 4).bind fun bt136 => ((spec_l14Rd_num.f kj4 s0_0 bt136.2 (([1, 1, 2, 9, 0, (-1)] : List Int))).bind fun bt141 => ((spec_l14Rd_num.f kj4 s0_0 bt141.2 (([(-1), (-1), (-1), (-1), 3, 4, 2] : List Int))).bind fun bt146 => (some (a1, bt127.1, bt129.1, x110000_4, x110001_4, x110002_4, x110003_4, bt122.1, bt134.1, bt136.1, bt141.1, bt146.1, bt146.2))))))))) = some (r1, r2, r3, r4, r5, r6, r7, r8, r9, r10, r11, r12, r13) := by first | (rw [hy119];with_reducible exact H) | (have H2_ := (Option.bind_some _ _).symm.trans H;rw [hy119];with_reducible exact H2_) | (have H2_ := (Option.bind_some _ _).symm.trans H;with_reducible exact H2_) | with_reducible exact H | (rw [hy119];exact H) | exact H
   have Ny119 := m0_ hy119
   clear hy119
   replace H := Option.bind_eq_some_iff.mp H
   obtain ⟨⟨t122, t123⟩, A210, H⟩ := H
   replace H : ((spec_l14Rd_num.f kj4 s0_0 t123 (([0, 1, 5, 5, 9] : List Int))).bind fun bt127 => ((spec_l14Rd_pick.f kj4 s0_0 bt127.2 5).bind fun bt129 => ((spec_l14Rd_num.f kj4 s0_0 bt129.2 (([100, 100, 5] : List Int))).bind fun bt134 => ((spec_l14Rd_pick.f kj4 s0_0 bt134.2 4).bind fun bt136 => ((spec_l14Rd_num.f kj4 s0_0 bt136.2 (([1, 1, 2, 9, 0, (-1)] : List Int))).bind fun bt141 => ((spec_l14Rd_num.f kj4 s0_0 bt141.2 (([(-1), (-1), (-1), (-1), 3, 4, 2] : List Int))).bind fun bt146 => (some (a1, bt127.1, bt129.1, x110000_4, x110001_4, x110002_4, x110003_4, t122, bt134.1, bt136.1, bt141.1, bt146.1, bt146.2)))))))) = some (r1, r2, r3, r4, r5, r6, r7, r8, r9, r10, r11, r12, r13) := H
   have A21 := m0_ A210
   clear A210
   obtain ⟨y124, hy124⟩ : ∃ y_ : List Int, y_ = (([0, 1, 5, 5, 9] : List Int)) := ⟨_, rfl⟩
   replace H : ((spec_l14Rd_num.f kj4 s0_0 t123 y124).bind fun bt127 => ((spec_l14Rd_pick.f kj4 s0_0 bt127.2 5).bind fun bt129 => ((spec_l14Rd_num.f kj4 s0_0 bt129.2 (([100, 100, 5] : List Int))).bind fun bt134 => ((spec_l14Rd_pick.f kj4 s0_0 bt134.2 4).bind fun bt136 => ((spec_l14Rd_num.f kj4 s0_0 bt136.2 (([1, 1, 2, 9, 0, (-1)] : List Int))).bind fun bt141 => ((spec_l14Rd_num.f kj4 s0_0 bt141.2 (([(-1), (-1), (-1), (-1), 3, 4, 2] : List Int))).bind fun bt146 => (some (a1, bt127.1, bt129.1, x110000_4, x110001_4, x110002_4, x110003_4, t122, bt134.1, bt136.1, bt141.1, bt146.1, bt146.2)))))))) = some (r1, r2, r3, r4, r5, r6, r7, r8, r9, r10, r11, r12, r13) := by first | (rw [hy124];with_reducible exact H) | (have H2_ := (Option.bind_some _ _).symm.trans H;rw [hy124];with_reducible exact H2_) | (have H2_ := (Option.bind_some _ _).symm.trans H;with_reducible exact H2_) | with_reducible exact H | (rw [hy124];exact H) | exact H
   have Ny124 := m0_ hy124
   clear hy124
   replace H := Option.bind_eq_some_iff.mp H
   obtain ⟨⟨t127, t128⟩, A220, H⟩ := H
   replace H : ((spec_l14Rd_pick.f kj4 s0_0 t128 5).bind fun bt129 => ((spec_l14Rd_num.f kj4 s0_0 bt129.2 (([100, 100, 5] : List Int))).bind fun bt134 => ((spec_l14Rd_pick.f kj4 s0_0 bt134.2 4).bind fun bt136 => ((spec_l14Rd_num.f kj4 s0_0 bt136.2 (([1, 1, 2, 9, 0, (-1)] : List Int))).bind fun bt141 => ((spec_l14Rd_num.f kj4 s0_0 bt141.2 (([(-1), (-1), (-1), (-1), 3, 4, 2] : List Int))).bind fun bt146 => (some (a1, t127, bt129.1, x110000_4, x110001_4, x110002_4, x110003_4, t122, bt134.1, bt136.1, bt141.1, bt146.1, bt146.2))))))) = some (r1, r2, r3, r4, r5, r6, r7, r8, r9, r10, r11, r12, r13) := H
   have A22 := m0_ A220
   clear A220
   replace H := Option.bind_eq_some_iff.mp H
   obtain ⟨⟨t129, t130⟩, A230, H⟩ := H
   replace H : ((spec_l14Rd_num.f kj4 s0_0 t130 (([100, 100, 5] : List Int))).bind fun bt134 => ((spec_l14Rd_pick.f kj4 s0_0 bt134.2 4).bind fun bt136 => ((spec_l14Rd_num.f kj4 s0_0 bt136.2 (([1, 1, 2, 9, 0, (-1)] : List Int))).bind fun bt141 => ((spec_l14Rd_num.f kj4 s0_0 bt141.2 (([(-1), (-1), (-1), (-1), 3, 4, 2] : List Int))).bind fun bt146 => (some (a1, t127, t129, x110000_4, x110001_4, x110002_4, x110003_4, t122, bt134.1, bt136.1, bt141.1, bt146.1, bt146.2)))))) = some (r1, r2, r3, r4, r5, r6, r7, r8, r9, r10, r11, r12, r13) := H
   have A23 := m0_ A230
   clear A230
   obtain ⟨y131, hy131⟩ : ∃ y_ : List Int, y_ = (([100, 100, 5] : List Int)) := ⟨_, rfl⟩
   replace H : ((spec_l14Rd_num.f kj4 s0_0 t130 y131).bind fun bt134 => ((spec_l14Rd_pick.f kj4 s0_0 bt134.2 4).bind fun bt136 => ((spec_l14Rd_num.f kj4 s0_0 bt136.2 (([1, 1, 2, 9, 0, (-1)] : List Int))).bind fun bt141 => ((spec_l14Rd_num.f kj4 s0_0 bt141.2 (([(-1), (-1), (-1), (-1), 3, 4, 2] : List Int))).bind fun bt146 => (some (a1, t127, t129, x110000_4, x110001_4, x110002_4, x110003_4, t122, bt134.1, bt136.1, bt141.1, bt146.1, bt146.2)))))) = some (r1, r2, r3, r4, r5, r6, r7, r8, r9, r10, r11, r12, r13) := by first | (rw [hy131];with_reducible exact H) | (have H2_ := (Option.bind_some _ _).symm.trans H;rw [hy131];with_reducible exact H2_) | (have H2_ := (Option.bind_some _ _).symm.trans H;with_reducible exact H2_) | with_reducible exact H | (rw [hy131];exact H) | exact H
   have Ny131 := m0_ hy131
   clear hy131
   replace H := Option.bind_eq_some_iff.mp H
   obtain ⟨⟨t134, t135⟩, A240, H⟩ := H
   replace H : ((spec_l14Rd_pick.f kj4 s0_0 t135 4).bind fun bt136 => ((spec_l14Rd_num.f kj4 s0_0 bt136.2 (([1, 1, 2, 9, 0, (-1)] : List Int))).bind fun bt141 => ((spec_l14Rd_num.f kj4 s0_0 bt141.2 (([(-1), (-1), (-1), (-1), 3, 4, 2] : List Int))).bind fun bt146 => (some (a1, t127, t129, x110000_4, x110001_4, x110002_4, x110003_4, t122, t134, bt136.1, bt141.1, bt146.1, bt146.2))))) = some (r1, r2, r3, r4, r5, r6, r7, r8, r9, r10, r11, r12, r13) := H
   have A24 := m0_ A240
   clear A240
   replace H := Option.bind_eq_some_iff.mp H
   obtain ⟨⟨t136, t137⟩, A250, H⟩ := H
   replace H : ((spec_l14Rd_num.f kj4 s0_0 t137 (([1, 1, 2, 9, 0, (-1)] : List Int))).bind fun bt141 => ((spec_l14Rd_num.f kj4 s0_0 bt141.2 (([(-1), (-1), (-1), (-1), 3, 4, 2] : List Int))).bind fun bt146 => (some (a1, t127, t129, x110000_4, x110001_4, x110002_4, x110003_4, t122, t134, t136, bt141.1, bt146.1, bt146.2)))) = some (r1, r2, r3, r4, r5, r6, r7, r8, r9, r10, r11, r12, r13) := H
   have A25 := m0_ A250
   clear A250
   obtain ⟨y138, hy138⟩ : ∃ y_ : List Int, y_ = (([1, 1, 2, 9, 0, (-1)] : List Int)) := ⟨_, rfl⟩
   replace H : ((spec_l14Rd_num.f kj4 s0_0 t137 y138).bind fun bt141 => ((spec_l14Rd_num.f kj4 s0_0 bt141.2 (([(-1), (-1), (-1), (-1), 3, 4, 2] : List Int))).bind fun bt146 => (some (a1, t127, t129, x110000_4, x110001_4, x110002_4, x110003_4, t122, t134, t136, bt141.1, bt146.1, bt146.2)))) = some (r1, r2, r3, r4, r5, r6, r7, r8, r9, r10, r11, r12, r13) := by first | (rw [hy138];with_reducible exact H) | (have H2_ := (Option.bind_some _ _).symm.trans H;rw [hy138];with_reducible exact H2_) | (have H2_ := (Option.bind_some _ _).symm.trans H;with_reducible exact H2_) | with_reducible exact H | (rw [hy138];exact H) | exact H
   have Ny138 := m0_ hy138
   clear hy138
   replace H := Option.bind_eq_some_iff.mp H
   obtain ⟨⟨t141, t142⟩, A260, H⟩ := H
   replace H : ((spec_l14Rd_num.f kj4 s0_0 t142 (([(-1), (-1), (-1), (-1), 3, 4, 2] : List Int))).bind fun bt146 => (some (a1, t127, t129, x110000_4, x110001_4, x110002_4, x110003_4, t122, t134, t136, t141, bt146.1, bt146.2))) = some (r1, r2, r3, r4, r5, r6, r7, r8, r9, r10, r11, r12, r13) := H
   have A26 := m0_ A260
   clear A260
   obtain ⟨y143, hy143⟩ : ∃ y_ : List Int, y_ = (([(-1), (-1), (-1), (-1), 3, 4, 2] : List Int)) := ⟨_, rfl⟩
   replace H : ((spec_l14Rd_num.f kj4 s0_0 t142 y143).bind fun bt146 => (some (a1, t127, t129, x110000_4, x110001_4, x110002_4, x110003_4, t122, t134, t136, t141, bt146.1, bt146.2))) = some (r1, r2, r3, r4, r5, r6, r7, r8, r9, r10, r11, r12, r13) := by first | (rw [hy143];with_reducible exact H) | (have H2_ := (Option.bind_some _ _).symm.trans H;rw [hy143];with_reducible exact H2_) | (have H2_ := (Option.bind_some _ _).symm.trans H;with_reducible exact H2_) | with_reducible exact H | (rw [hy143];exact H) | exact H
   have Ny143 := m0_ hy143
   clear hy143
   replace H := Option.bind_eq_some_iff.mp H
   obtain ⟨⟨t146, t147⟩, A270, H⟩ := H
   replace H : (some (a1, t127, t129, x110000_4, x110001_4, x110002_4, x110003_4, t122, t134, t136, t141, t146, t147)) = some (r1, r2, r3, r4, r5, r6, r7, r8, r9, r10, r11, r12, r13) := H
   have A27 := m0_ A270
   clear A270
   simp only [Option.some.injEq, Prod.mk.injEq] at H
   obtain ⟨rfl, rfl, rfl, rfl, rfl, rfl, rfl, rfl, rfl, rfl, rfl, rfl, rfl⟩ := H
   try go_wp2_with (first | ((with_reducible refine gate_dst (N := 15) rfl ?_);refine Kd.R_lit (Kd.int .i64) _ 3 ?hg (N := 15) ?hd (xs := ([0, 0, 0, 1, 5] : List Int)) (inner := [.int .i64 0, .int .i64 0, .int .i64 0, .int .i64 1, .int .i64 5]) (ok := fun _ => True) (okp := fun _ => True) ?hr ?hp (fun _ hk => hk) trivial (Below.refl _ _) (Nat.le_refl _) (by simp) ?_;(case hd => rfl);(case hg => rfl);(case hr => first | (go_simp;done) | (go_simp;rfl));(case hp => exact (Reps.one (show Kd.M (Kd.int .i64) _ _ _ 0 [.int .i64 0] from rfl) (Reps.one (show Kd.M (Kd.int .i64) _ _ _ 0 [.int .i64 0] from rfl) (Reps.one (show Kd.M (Kd.int .i64) _ _ _ 0 [.int .i64 0] from rfl) (Reps.one (show Kd.M (Kd.int .i64) _ _ _ 1 [.int .i64 1] from rfl) (Reps.one (show Kd.M (Kd.int .i64) _ _ _ 5 [.int .i64 5] from rfl) (Reps.none _ _)))))));intro v120 w28 ho29 hb hg_ hnew_;clear hg_ hnew_;(first | rw [← Ny119.out] at ho29 | (simp only [Int.reduceToNat] at ho29;rw [← Ny119.out] at ho29));replace HO_110003 := m0_ (Kd.R_below (by exact HO_110003.out) hb);have HO121 := m0_ (Kd.R_lower ho29 (keep_size (w := w) (g := g) (row := none) (by repeat (first | (with_reducible first | exact HK.out | apply KeepBut.set_ | apply keep_drewN | apply keep_drew | apply keep_alloc | refine keep_far ?_ GW101.out _ | refine keep_far ?_ GW109.out _) | exact HK.out))));replace BK101 := m0_ (blk_below (g := gb101) (o := .cells #[.string (⟨#[]⟩ : ByteArray), .int .i64 0, .int .i64 0, .int .i64 0, .int .i64 0, .int .i64 0, .slice none 0 0, .int .i64 0, .int .i64 0, .int .i64 0, .int .i64 0, .int .i64 0] 39 (0, 0)) (by (with_reducible repeat (first | refine blk_drewN ?_ _ | refine blk_drew ?_ | refine blk_alloc ?_ _));exact BK101.out) hb);replace BK109 := m0_ (blk_below BK109.out hb);replace HK := m0_ (KeepBut.trans (by repeat (first | (with_reducible first | exact HK.out | apply KeepBut.set_ | apply keep_drewN | apply keep_drew | apply keep_alloc | refine keep_far ?_ GW101.out _ | refine keep_far ?_ GW109.out _) | exact HK.out)) (KeepBut.of_below hb g none) (.inl rfl));replace HB := m0_ (below_step (by repeat (first | (with_reducible first | exact HB.out | apply below_alloc | apply pw_below_drewN | apply below_drew1 | refine below_set ?_ (IsS127.ge HI0.out) | refine below_set ?_ GE101.out | refine below_set ?_ GE109.out) | exact HB.out)) hb);replace HI0 := m0_ (IsS127.below (by repeat (first | (with_reducible first | exact HI0.out | apply IsS127.alloc | apply IsS127.drewN | apply IsS127.drew | apply IsS127.set_1 | refine IsS127.far ?_ NB0_101.out _ | refine IsS127.far ?_ NB0_109.out _) | exact HI0.out)) hb);clear hb ho29;obtain ⟨Ao30, co30, eo30⟩ := Kd.R_slice HO121.out;subst eo30) | ((with_reducible refine gate_callee (f := 99) rfl ?_);refine goesL_ (some 16) rfl rfl Try.func99 (by kernel_rfl) rfl #[.pointer (some ⟨g, 0, none⟩), .slice Ao30 y119.length co30] rfl (by (try simp only [List.map_toArray, List.map_cons, List.map_nil]);first | done | rfl | (simp only [List.length_drop, List.length_take];rfl)) ?_;(with_reducible refine (spec_l14Rd_num.calls kj4 g s0_0 x1001_4 _ _ y119 t122 t123 w0 _ ?side1 ?side2 ?side3 ?side4 ?side5 A21.out).mono ?_);(case side1 => repeat (first | (with_reducible first | exact HI0.out | apply IsS127.alloc | apply IsS127.drewN | apply IsS127.drew | apply IsS127.set_1 | refine IsS127.far ?_ NB0_101.out _ | refine IsS127.far ?_ NB0_109.out _) | exact HI0.out));(case side2 => repeat (first | (with_reducible first | exact HB.out | apply below_alloc | apply pw_below_drewN | apply below_drew1 | refine below_set ?_ (IsS127.ge HI0.out) | refine below_set ?_ GE101.out | refine below_set ?_ GE109.out) | exact HB.out));(case side3 => repeat (first | exact (Kd.R_reads' HO121.out).2.2 | (with_reducible refine Kd.C_alloc ?_ _) | (with_reducible refine Kd.C_drewN ?_ _) | (with_reducible refine Kd.C_drew ?_)));(case side4 => exact (Kd.R_reads' HO121.out).2.1);(case side5 => exact far_slice (IsS127.own_ne HI0.out HO121.out (by decide)));rintro e w31 ⟨rfl, hi, hb, hk⟩;refine ⟨_, rfl, ?_⟩;replace HO_110003 := m0_ (Kd.R_mono (Kd.R_keep (IsS127.apart (show IsS127 w0 _ g s0_0 x1001_4 from by repeat (first | (with_reducible first | exact HI0.out | apply IsS127.alloc | apply IsS127.drewN | apply IsS127.drew | apply IsS127.set_1 | refine IsS127.far ?_ NB0_101.out _ | refine IsS127.far ?_ NB0_109.out _) | exact HI0.out)) (by exact HO_110003.out) (by decide)) hk (fun _ h => h.2)) (fun _ h => h.1));replace BK101 := m0_ (KeepBut.blk hk (g' := gb101) (o := .cells #[.string (⟨#[]⟩ : ByteArray), .int .i64 0, .int .i64 0, .int .i64 0, .int .i64 0, .int .i64 0, .slice none 0 0, .int .i64 0, .int .i64 0, .int .i64 0, .int .i64 0, .int .i64 0] 39 (0, 0)) (by (with_reducible repeat (first | refine blk_drewN ?_ _ | refine blk_drew ?_ | refine blk_alloc ?_ _));exact BK101.out) NB101_0.out (by simp));replace BK109 := m0_ (KeepBut.blk hk (g' := gb109) (o := .cells #[.int .i64 x110000_4, .int .i64 x110001_4, .int .i64 x110002_4, u110003] 37 (0, 0)) (by (with_reducible repeat (first | refine blk_drewN ?_ _ | refine blk_drew ?_ | refine blk_alloc ?_ _));exact BK109.out) NB109_0.out (by simp));replace HO121 := m0_ (Kd.R_mono (Kd.R_keep (IsS127.apart (show IsS127 w0 _ g s0_0 x1001_4 from by repeat (first | (with_reducible first | exact HI0.out | apply IsS127.alloc | apply IsS127.drewN | apply IsS127.drew | apply IsS127.set_1 | refine IsS127.far ?_ NB0_101.out _ | refine IsS127.far ?_ NB0_109.out _) | exact HI0.out)) (by exact HO121.out) (by decide)) hk (fun _ h => h.2)) (fun _ h => h.1));replace HK := m0_ (KeepBut.trans (by repeat (first | (with_reducible first | exact HK.out | apply KeepBut.set_ | apply keep_drewN | apply keep_drew | apply keep_alloc | refine keep_far ?_ GW101.out _ | refine keep_far ?_ GW109.out _) | exact HK.out)) hk (.inl rfl));replace HB := m0_ (hb);replace HI0 := m0_ (hi);(try clear hb);(try clear hb2);(try clear hk);(try clear hi);obtain ⟨Ao32, co32, eo32⟩ := Kd.R_slice HO_110003.out;subst eo32))
   replace HO_110003 := m0_ (Kd.R_drew HO_110003.out)
   replace HO121 := m0_ (Kd.R_drew HO121.out)
   replace BK101 := m0_ (blk_drew BK101.out)
   replace BK109 := m0_ (blk_drew BK109.out)
   replace HI0 := m0_ (IsS127.drew HI0.out)
   replace HK := m0_ (keep_drew HK.out)
   replace HB := m0_ (below_drew1 HB.out)
   refine start_ (n := 21) (S := fun w' => True) (ds := []) #[false, false, false, false, false, false, false, false, false, false, false, false, false, false, false, false, false, false, false, false, false] (by kernel_rfl) rfl rfl trivial (fun hHeld => ?_);refine with_tabW spec_l8Rule.tab5 spec_l8Rule.bits5 (fun HT_ HW_ => ?_)
   generalize w31.drew = w33 at HO_110003 HO121 BK101 BK109 HI0 HK HB hHeld ⊢
   refine pv_ 0 17 #[true, false, false, false, false, false, false, false, false, false, false, false, false, false, false, false, false, false, false, false, false] (any_of HT_.out (by kernel_rfl)) ?_
   refine pv_ 1 18 #[true, true, false, false, false, false, false, false, false, false, false, false, false, false, false, false, false, false, false, false, false] (any_of HT_.out (by kernel_rfl)) ?_
   refine pv_ 4 21 #[true, true, false, false, true, false, false, false, false, false, false, false, false, false, false, false, false, false, false, false, false] (any_of HT_.out (by kernel_rfl)) ?_
   refine pv_ 7 24 #[true, true, false, false, true, false, false, true, false, false, false, false, false, false, false, false, false, false, false, false, false] (any_of HT_.out (by kernel_rfl)) ?_
   refine pv_ 8 25 #[true, true, false, false, true, false, false, true, true, false, false, false, false, false, false, false, false, false, false, false, false] (any_of HT_.out (by kernel_rfl)) ?_
   refine pv_ 11 28 #[true, true, false, false, true, false, false, true, true, false, false, true, false, false, false, false, false, false, false, false, false] (any_of HT_.out (by kernel_rfl)) ?_
   refine pv_ 13 30 #[true, true, false, false, true, false, false, true, true, false, false, true, false, true, false, false, false, false, false, false, false] (any_of HT_.out (by kernel_rfl)) ?_
   refine pv_ 16 33 #[true, true, false, false, true, false, false, true, true, false, false, true, false, true, false, false, true, false, false, false, false] (any_of HT_.out (by kernel_rfl)) ?_
   refine inv_at [2, 3, 5, 6, 9, 10, 12, 14, 15, 17, 18, 19, 20] (fun a0_ b a w' => ∃ (v125 : Value) (v132 : Value) (v139 : Value) (v144 : Value), a = putSel a0_ b [(2, 19, v125), (3, 20, .int .i64 t127), (5, 22, .int .i64 t129), (6, 23, .agg #[.int .i64 x110000_4, .int .i64 x110001_4, .int .i64 x110002_4, .slice Ao32 x110003_4.length co32]), (9, 26, v132), (10, 27, .int .i64 t134), (12, 29, .int .i64 t136), (14, 31, v139), (15, 32, .int .i64 t141), (17, 34, v144), (18, 35, .int .i64 t146), (19, 36, .agg #[.string a1, .int .i64 t127, .int .i64 t129, .int .i64 x110000_4, .int .i64 x110001_4, .int .i64 x110002_4, .slice Ao32 x110003_4.length co32, .int .i64 t122, .int .i64 t134, .int .i64 t136, .int .i64 t141, .int .i64 t146])] ∧ (Kd.R (Kd.int .i64) 3 w' w.heap.size (fun _ => True) (.slice Ao30 y119.length co30) y119) ∧ (Kd.R k37 37 w' w.heap.size (fun k_ => k_ ≠ gb109) (.slice Ao32 x110003_4.length co32) x110003_4) ∧ (b 20 = false → w'.heap[gb101]? = some (.cells #[.string (⟨#[]⟩ : ByteArray), .int .i64 0, .int .i64 0, .int .i64 0, .int .i64 0, .int .i64 0, .slice none 0 0, .int .i64 0, .int .i64 0, .int .i64 0, .int .i64 0, .int .i64 0] 39 (0, 0))) ∧ (w'.heap[gb109]? = some (.cells #[.int .i64 x110000_4, .int .i64 x110001_4, .int .i64 x110002_4, .slice Ao32 x110003_4.length co32] 37 (0, 0))) ∧ (b 3 = false → IsS127 w0 w' g s0_0 t123) ∧ (KeepBut w w' g none) ∧ (Below w0.heap.size w0 w') ∧ (b 2 = true → Kd.R (Kd.int .i64) 3 w' w.heap.size (fun k_ => some k_ ≠ (.slice Ao30 y119.length co30 : Value).ownBlock) v125 y124) ∧ (b 3 = true → b 5 = false → IsS127 w0 w' g s0_0 t128) ∧ (b 5 = true → b 10 = false → IsS127 w0 w' g s0_0 t130) ∧ (b 9 = true → Kd.R (Kd.int .i64) 3 w' w.heap.size (fun k_ => some k_ ≠ (.slice Ao30 y119.length co30 : Value).ownBlock) v132 y131) ∧ (b 10 = true → b 12 = false → IsS127 w0 w' g s0_0 t135) ∧ (b 12 = true → b 15 = false → IsS127 w0 w' g s0_0 t137) ∧ (b 14 = true → Kd.R (Kd.int .i64) 3 w' w.heap.size (fun k_ => some k_ ≠ (.slice Ao30 y119.length co30 : Value).ownBlock) v139 y138) ∧ (b 15 = true → b 18 = false → IsS127 w0 w' g s0_0 t142) ∧ (b 17 = true → Kd.R (Kd.int .i64) 3 w' w.heap.size (fun k_ => some k_ ≠ (.slice Ao30 y119.length co30 : Value).ownBlock) v144 y143) ∧ (b 18 = true → IsS127 w0 w' g s0_0 t147) ∧ (b 20 = true → w'.heap[gb101]? = some (.cells #[.string a1, .int .i64 t127, .int .i64 t129, .int .i64 x110000_4, .int .i64 x110001_4, .int .i64 x110002_4, .slice Ao32 x110003_4.length co32, .int .i64 t122, .int .i64 t134, .int .i64 t136, .int .i64 t141, .int .i64 t146] 39 (0, 0)))) HT_.out HW_.out (by kernel_rfl) (by kernel_rfl) ?_ ?_ ?_
   ·exact ⟨.bool false, .bool false, .bool false, .bool false, by simp only [putSel, Bool.false_eq_true, if_false], HO121.out, HO_110003.out, fun _ => BK101.out, BK109.out, fun _ => HI0.out, HK.out, HB.out, fun h_ => absurd h_ (by decide), fun h_ => absurd h_ (by decide), fun h_ => absurd h_ (by decide), fun h_ => absurd h_ (by decide), fun h_ => absurd h_ (by decide), fun h_ => absurd h_ (by decide), fun h_ => absurd h_ (by decide), fun h_ => absurd h_ (by decide), fun h_ => absurd h_ (by decide), fun h_ => absurd h_ (by decide), fun h_ => absurd h_ (by decide)⟩
   ·skip
    clear BK101 BK109 HB HI0 HK HO121 HO_110003
    refine steps_cons ?_ ?_
    ·rintro b a w' ⟨v125, v132, v139, v144, ha, Q_HO121, Q_HO_110003, Q_BK101, Q_BK109, Q_HI0, Q_HK, Q_HB, Q_HO126, Q_HI0_e3, Q_HI0_e5, Q_HO133, Q_HI0_e10, Q_HI0_e12, Q_HO140, Q_HI0_e15, Q_HO145, Q_HI0_e18, Q_BK101_e20⟩ hb_ hon hoff
     refine ⟨_, rfl, fun K hK => ?_⟩
     replace ha := m0_ ha
     have HO121 := m0_ Q_HO121
     have HO_110003 := m0_ Q_HO_110003
     have BK101 := m0_ (Q_BK101 (hoff 20 (by kernel_rfl)))
     have BK109 := m0_ Q_BK109
     have HI0 := m0_ (Q_HI0 (hoff 3 (by kernel_rfl)))
     have HK := m0_ Q_HK
     have HB := m0_ Q_HB
     refine Kd.R_lit_step (Kd.int .i64) _ 3 ?hg (N := 19) ?hd (xs := ([0, 1, 5, 5, 9] : List Int)) (inner := [.int .i64 0, .int .i64 1, .int .i64 5, .int .i64 5, .int .i64 9]) (ok := fun _ => True) (okp := fun _ => True) ?hr ?hp (fun _ hk => hk) trivial (Below.refl _ _) (Nat.le_refl _) (by simp) ?_;(case hd => rfl);(case hg => rfl);(case hr => first | (go_simp;done) | (go_simp;rfl));(case hp => exact (Reps.one (show Kd.M (Kd.int .i64) _ _ _ 0 [.int .i64 0] from rfl) (Reps.one (show Kd.M (Kd.int .i64) _ _ _ 1 [.int .i64 1] from rfl) (Reps.one (show Kd.M (Kd.int .i64) _ _ _ 5 [.int .i64 5] from rfl) (Reps.one (show Kd.M (Kd.int .i64) _ _ _ 5 [.int .i64 5] from rfl) (Reps.one (show Kd.M (Kd.int .i64) _ _ _ 9 [.int .i64 9] from rfl) (Reps.none _ _)))))))
     intro v125 w34 ho35 hb hg_ hnew_
     clear hg_ hnew_
     (first | rw [← Ny124.out] at ho35 | (simp only [Int.reduceToNat] at ho35;rw [← Ny124.out] at ho35))
     have n0_ := m0_ (Kd.R_below (by exact HO_110003.out) hb)
     have n1_ := m0_ (Kd.R_elder' (by exact HO121.out) (Kd.R_base ho35) hb)
     have n2_ := m0_ (Kd.R_lower (Kd.R_new' ho35 (Kd.R_lt (by exact HO121.out))) (keep_size (w := w) (g := g) (row := none) (by repeat (first | (with_reducible first | exact HK.out | apply KeepBut.set_ | apply keep_drewN | apply keep_drew | apply keep_alloc | refine keep_far ?_ GW101.out _ | refine keep_far ?_ GW109.out _) | exact HK.out))))
     have n3_ := m0_ (blk_below (g := gb101) (o := .cells #[.string (⟨#[]⟩ : ByteArray), .int .i64 0, .int .i64 0, .int .i64 0, .int .i64 0, .int .i64 0, .slice none 0 0, .int .i64 0, .int .i64 0, .int .i64 0, .int .i64 0, .int .i64 0] 39 (0, 0)) (by (with_reducible repeat (first | refine blk_drewN ?_ _ | refine blk_drew ?_ | refine blk_alloc ?_ _));exact BK101.out) hb)
     have n4_ := m0_ (blk_below BK109.out hb)
     have n5_ := m0_ (IsS127.below (by repeat (first | (with_reducible first | exact HI0.out | apply IsS127.alloc | apply IsS127.drewN | apply IsS127.drew | apply IsS127.set_1 | refine IsS127.far ?_ NB0_101.out _ | refine IsS127.far ?_ NB0_109.out _) | exact HI0.out)) hb)
     have n6_ := m0_ (KeepBut.trans (by repeat (first | (with_reducible first | exact HK.out | apply KeepBut.set_ | apply keep_drewN | apply keep_drew | apply keep_alloc | refine keep_far ?_ GW101.out _ | refine keep_far ?_ GW109.out _) | exact HK.out)) (KeepBut.of_below hb g none) (.inl rfl))
     have n7_ := m0_ (below_step (by repeat (first | (with_reducible first | exact HB.out | apply below_alloc | apply pw_below_drewN | apply below_drew1 | refine below_set ?_ (IsS127.ge HI0.out) | refine below_set ?_ GE101.out | refine below_set ?_ GE109.out) | exact HB.out)) hb)
     have z_HO133 := fun (h0_ : b 9 = true) => (show Kd.R (Kd.int .i64) 3 w34 w.heap.size (fun k_ => some k_ ≠ (.slice Ao30 y119.length co30 : Value).ownBlock) v132 y131 from by first | exact (Kd.R_elder' (by (with_reducible repeat (first | apply Kd.R_alloc | apply Kd.R_drewN | apply Kd.R_drew));exact (Q_HO133 h0_)) (Kd.R_base ho35) hb) | exact Kd.R_mono (Kd.R_elder' (by (with_reducible repeat (first | apply Kd.R_alloc | apply Kd.R_drewN | apply Kd.R_drew));exact (Q_HO133 h0_)) (Kd.R_base ho35) hb) (fun _ h_ => by first | trivial | exact h_ | exact h_.1))
     have z_HO140 := fun (h0_ : b 14 = true) => (show Kd.R (Kd.int .i64) 3 w34 w.heap.size (fun k_ => some k_ ≠ (.slice Ao30 y119.length co30 : Value).ownBlock) v139 y138 from by first | exact (Kd.R_elder' (by (with_reducible repeat (first | apply Kd.R_alloc | apply Kd.R_drewN | apply Kd.R_drew));exact (Q_HO140 h0_)) (Kd.R_base ho35) hb) | exact Kd.R_mono (Kd.R_elder' (by (with_reducible repeat (first | apply Kd.R_alloc | apply Kd.R_drewN | apply Kd.R_drew));exact (Q_HO140 h0_)) (Kd.R_base ho35) hb) (fun _ h_ => by first | trivial | exact h_ | exact h_.1))
     have z_HO145 := fun (h0_ : b 17 = true) => (show Kd.R (Kd.int .i64) 3 w34 w.heap.size (fun k_ => some k_ ≠ (.slice Ao30 y119.length co30 : Value).ownBlock) v144 y143 from by first | exact (Kd.R_elder' (by (with_reducible repeat (first | apply Kd.R_alloc | apply Kd.R_drewN | apply Kd.R_drew));exact (Q_HO145 h0_)) (Kd.R_base ho35) hb) | exact Kd.R_mono (Kd.R_elder' (by (with_reducible repeat (first | apply Kd.R_alloc | apply Kd.R_drewN | apply Kd.R_drew));exact (Q_HO145 h0_)) (Kd.R_base ho35) hb) (fun _ h_ => by first | trivial | exact h_ | exact h_.1))
     clear HO_110003
     clear HO121
     clear BK101
     clear BK109
     clear HI0
     clear HK
     clear HB
     have HO_110003 := n0_
     have HO121 := n1_
     have HO126 := n2_
     have BK101 := n3_
     have BK109 := n4_
     have HI0 := n5_
     have HK := n6_
     have HB := n7_
     clear n0_ n1_ n2_ n3_ n4_ n5_ n6_ n7_
     clear hb ho35
     refine hK.out _ _ ⟨v125, v132, v139, v144, (by rw [ha.out];exact putSel_upk 0 hb_ rfl rfl rfl), (by (with_reducible repeat (first | apply Kd.R_alloc | apply Kd.R_drewN | apply Kd.R_drew));exact Kd.R_mono HO121.out (fun _ hk => by first | exact hk.2 | trivial)), (by exact HO_110003.out), fun _ => (by (with_reducible repeat (first | refine blk_drewN ?_ _ | refine blk_drew ?_ | refine blk_alloc ?_ _));exact BK101.out), (by (with_reducible repeat (first | refine blk_drewN ?_ _ | refine blk_drew ?_ | refine blk_alloc ?_ _));exact BK109.out), fun _ => (by repeat (first | (with_reducible first | exact HI0.out | apply IsS127.alloc | apply IsS127.drewN | apply IsS127.drew | apply IsS127.set_1 | refine IsS127.far ?_ NB0_101.out _ | refine IsS127.far ?_ NB0_109.out _) | exact HI0.out)), (by repeat (first | (with_reducible first | exact HK.out | apply KeepBut.set_ | apply keep_drewN | apply keep_drew | apply keep_alloc | refine keep_far ?_ GW101.out _ | refine keep_far ?_ GW109.out _) | exact HK.out)), (by repeat (first | (with_reducible first | exact HB.out | apply below_alloc | apply pw_below_drewN | apply below_drew1 | refine below_set ?_ (IsS127.ge HI0.out) | refine below_set ?_ GE101.out | refine below_set ?_ GE109.out) | exact HB.out)), fun _ => (by (with_reducible repeat (first | apply Kd.R_alloc | apply Kd.R_drewN | apply Kd.R_drew));exact Kd.R_mono HO126.out (fun _ hk => by first | exact hk.2 | trivial)), fun h0_ _ => absurd ((hoff 3 (by kernel_rfl)).symm.trans h0_) (by decide), fun h0_ _ => absurd ((hoff 5 (by kernel_rfl)).symm.trans h0_) (by decide), z_HO133, fun h0_ _ => absurd ((hoff 10 (by kernel_rfl)).symm.trans h0_) (by decide), fun h0_ _ => absurd ((hoff 12 (by kernel_rfl)).symm.trans h0_) (by decide), z_HO140, fun h0_ _ => absurd ((hoff 15 (by kernel_rfl)).symm.trans h0_) (by decide), z_HO145, fun h0_ => absurd ((hoff 18 (by kernel_rfl)).symm.trans h0_) (by decide), fun h0_ => absurd ((hoff 20 (by kernel_rfl)).symm.trans h0_) (by decide)⟩
    refine steps_cons ?_ ?_
    ·rintro b a w' ⟨v125, v132, v139, v144, ha, Q_HO121, Q_HO_110003, Q_BK101, Q_BK109, Q_HI0, Q_HK, Q_HB, Q_HO126, Q_HI0_e3, Q_HI0_e5, Q_HO133, Q_HI0_e10, Q_HI0_e12, Q_HO140, Q_HI0_e15, Q_HO145, Q_HI0_e18, Q_BK101_e20⟩ hb_ hon hoff
     refine ⟨_, rfl, fun K hK => ?_⟩
     have e18 : a.tmps[18]? = some (.pointer (some ⟨g, 0, none⟩)) := by rw [ha];exact (putSel_off rfl).trans rfl
     have e19 : a.tmps[19]? = some (v125) := by rw [ha];exact putSel_on (e := (2, 19, v125)) 0 rfl rfl (hon 2 (by kernel_rfl)) rfl
     replace ha := m0_ ha
     have HO121 := m0_ Q_HO121
     have HO_110003 := m0_ Q_HO_110003
     have BK101 := m0_ (Q_BK101 (hoff 20 (by kernel_rfl)))
     have BK109 := m0_ Q_BK109
     have HI0 := m0_ (Q_HI0 hb_)
     have HK := m0_ Q_HK
     have HB := m0_ Q_HB
     have HO126 := m0_ (Q_HO126 (hon 2 (by kernel_rfl)))
     obtain ⟨Ao37, co37, eo37⟩ := Kd.R_slice HO126.out
     (first | subst eo37 | (injection eo37 with f1_ f2_ f3_;have f4_ := f1_.symm;have f5_ := f3_.symm;clear f1_ f2_ f3_;subst f4_;subst f5_))
     refine goes_ Try.func99 (by kernel_rfl) rfl #[.pointer (some ⟨g, 0, none⟩), .slice Ao37 y124.length co37] (by rfl) rfl rfl (by first | (simp only [List.map_toArray, List.map_cons, List.map_nil, Act.eval, Array.getD_eq_getD_getElem?, Option.getD_some, e18, e19];done) | (simp only [List.map_toArray, List.map_cons, List.map_nil, Act.eval, Array.getD_eq_getD_getElem?, Option.getD_some, e18, e19];rfl)) ?_
     with_reducible refine (spec_l14Rd_num.calls kj4 g s0_0 t123 _ _ y124 t127 t128 w0 _ ?side1 ?side2 ?side3 ?side4 ?side5 A22.out).mono ?_
     (case side1 => repeat (first | (with_reducible first | exact HI0.out | apply IsS127.alloc | apply IsS127.drewN | apply IsS127.drew | apply IsS127.set_1 | refine IsS127.far ?_ NB0_101.out _ | refine IsS127.far ?_ NB0_109.out _) | exact HI0.out))
     (case side2 => repeat (first | (with_reducible first | exact HB.out | apply below_alloc | apply pw_below_drewN | apply below_drew1 | refine below_set ?_ (IsS127.ge HI0.out) | refine below_set ?_ GE101.out | refine below_set ?_ GE109.out) | exact HB.out))
     (case side3 => repeat (first | exact (Kd.R_reads' HO126.out).2.2 | (with_reducible refine Kd.C_alloc ?_ _) | (with_reducible refine Kd.C_drewN ?_ _) | (with_reducible refine Kd.C_drew ?_)))
     (case side4 => exact (Kd.R_reads' HO126.out).2.1)
     (case side5 => exact far_slice (IsS127.own_ne HI0.out HO126.out (by decide)))
     rintro e w38 ⟨rfl, hi, hb, hk⟩
     refine ⟨_, rfl, ?_⟩
     have n0_ := m0_ (Kd.R_mono (Kd.R_keep (IsS127.apart (show IsS127 w0 _ g s0_0 t123 from by repeat (first | (with_reducible first | exact HI0.out | apply IsS127.alloc | apply IsS127.drewN | apply IsS127.drew | apply IsS127.set_1 | refine IsS127.far ?_ NB0_101.out _ | refine IsS127.far ?_ NB0_109.out _) | exact HI0.out)) (by exact HO_110003.out) (by decide)) hk (fun _ h => h.2)) (fun _ h => h.1))
     have n1_ := m0_ (KeepBut.blk hk (g' := gb101) (o := .cells #[.string (⟨#[]⟩ : ByteArray), .int .i64 0, .int .i64 0, .int .i64 0, .int .i64 0, .int .i64 0, .slice none 0 0, .int .i64 0, .int .i64 0, .int .i64 0, .int .i64 0, .int .i64 0] 39 (0, 0)) (by (with_reducible repeat (first | refine blk_drewN ?_ _ | refine blk_drew ?_ | refine blk_alloc ?_ _));exact BK101.out) NB101_0.out (by simp))
     have n2_ := m0_ (KeepBut.blk hk (g' := gb109) (o := .cells #[.int .i64 x110000_4, .int .i64 x110001_4, .int .i64 x110002_4, .slice Ao32 x110003_4.length co32] 37 (0, 0)) (by (with_reducible repeat (first | refine blk_drewN ?_ _ | refine blk_drew ?_ | refine blk_alloc ?_ _));exact BK109.out) NB109_0.out (by simp))
     have n3_ := m0_ (Kd.R_mono (Kd.R_keep (IsS127.apart (show IsS127 w0 _ g s0_0 t123 from by repeat (first | (with_reducible first | exact HI0.out | apply IsS127.alloc | apply IsS127.drewN | apply IsS127.drew | apply IsS127.set_1 | refine IsS127.far ?_ NB0_101.out _ | refine IsS127.far ?_ NB0_109.out _) | exact HI0.out)) (by exact HO121.out) (by decide)) hk (fun _ h => h.2)) (fun _ h => h.1))
     have n4_ := m0_ (Kd.R_mono (Kd.R_keep (IsS127.apart (show IsS127 w0 _ g s0_0 t123 from by repeat (first | (with_reducible first | exact HI0.out | apply IsS127.alloc | apply IsS127.drewN | apply IsS127.drew | apply IsS127.set_1 | refine IsS127.far ?_ NB0_101.out _ | refine IsS127.far ?_ NB0_109.out _) | exact HI0.out)) (by exact HO126.out) (by decide)) hk (fun _ h => h.2)) (fun _ h => h.1))
     have n5_ := m0_ (KeepBut.trans (by repeat (first | (with_reducible first | exact HK.out | apply KeepBut.set_ | apply keep_drewN | apply keep_drew | apply keep_alloc | refine keep_far ?_ GW101.out _ | refine keep_far ?_ GW109.out _) | exact HK.out)) hk (.inl rfl))
     have n6_ := m0_ (hb)
     have n7_ := m0_ (hi)
     have z_HO133 := fun (h0_ : b 9 = true) => (show Kd.R (Kd.int .i64) 3 w38 w.heap.size (fun k_ => some k_ ≠ (.slice Ao30 y119.length co30 : Value).ownBlock) v132 y131 from by first | exact (Kd.R_mono (Kd.R_keep (IsS127.apart (show IsS127 w0 _ g s0_0 t123 from by repeat (first | (with_reducible first | exact HI0.out | apply IsS127.alloc | apply IsS127.drewN | apply IsS127.drew | apply IsS127.set_1 | refine IsS127.far ?_ NB0_101.out _ | refine IsS127.far ?_ NB0_109.out _) | exact HI0.out)) (by (with_reducible repeat (first | apply Kd.R_alloc | apply Kd.R_drewN | apply Kd.R_drew));exact (Q_HO133 h0_)) (by decide)) hk (fun _ h => h.2)) (fun _ h => h.1)) | exact Kd.R_mono (Kd.R_mono (Kd.R_keep (IsS127.apart (show IsS127 w0 _ g s0_0 t123 from by repeat (first | (with_reducible first | exact HI0.out | apply IsS127.alloc | apply IsS127.drewN | apply IsS127.drew | apply IsS127.set_1 | refine IsS127.far ?_ NB0_101.out _ | refine IsS127.far ?_ NB0_109.out _) | exact HI0.out)) (by (with_reducible repeat (first | apply Kd.R_alloc | apply Kd.R_drewN | apply Kd.R_drew));exact (Q_HO133 h0_)) (by decide)) hk (fun _ h => h.2)) (fun _ h => h.1)) (fun _ h_ => by first | trivial | exact h_ | exact h_.1))
     have z_HO140 := fun (h0_ : b 14 = true) => (show Kd.R (Kd.int .i64) 3 w38 w.heap.size (fun k_ => some k_ ≠ (.slice Ao30 y119.length co30 : Value).ownBlock) v139 y138 from by first | exact (Kd.R_mono (Kd.R_keep (IsS127.apart (show IsS127 w0 _ g s0_0 t123 from by repeat (first | (with_reducible first | exact HI0.out | apply IsS127.alloc | apply IsS127.drewN | apply IsS127.drew | apply IsS127.set_1 | refine IsS127.far ?_ NB0_101.out _ | refine IsS127.far ?_ NB0_109.out _) | exact HI0.out)) (by (with_reducible repeat (first | apply Kd.R_alloc | apply Kd.R_drewN | apply Kd.R_drew));exact (Q_HO140 h0_)) (by decide)) hk (fun _ h => h.2)) (fun _ h => h.1)) | exact Kd.R_mono (Kd.R_mono (Kd.R_keep (IsS127.apart (show IsS127 w0 _ g s0_0 t123 from by repeat (first | (with_reducible first | exact HI0.out | apply IsS127.alloc | apply IsS127.drewN | apply IsS127.drew | apply IsS127.set_1 | refine IsS127.far ?_ NB0_101.out _ | refine IsS127.far ?_ NB0_109.out _) | exact HI0.out)) (by (with_reducible repeat (first | apply Kd.R_alloc | apply Kd.R_drewN | apply Kd.R_drew));exact (Q_HO140 h0_)) (by decide)) hk (fun _ h => h.2)) (fun _ h => h.1)) (fun _ h_ => by first | trivial | exact h_ | exact h_.1))
     have z_HO145 := fun (h0_ : b 17 = true) => (show Kd.R (Kd.int .i64) 3 w38 w.heap.size (fun k_ => some k_ ≠ (.slice Ao30 y119.length co30 : Value).ownBlock) v144 y143 from by first | exact (Kd.R_mono (Kd.R_keep (IsS127.apart (show IsS127 w0 _ g s0_0 t123 from by repeat (first | (with_reducible first | exact HI0.out | apply IsS127.alloc | apply IsS127.drewN | apply IsS127.drew | apply IsS127.set_1 | refine IsS127.far ?_ NB0_101.out _ | refine IsS127.far ?_ NB0_109.out _) | exact HI0.out)) (by (with_reducible repeat (first | apply Kd.R_alloc | apply Kd.R_drewN | apply Kd.R_drew));exact (Q_HO145 h0_)) (by decide)) hk (fun _ h => h.2)) (fun _ h => h.1)) | exact Kd.R_mono (Kd.R_mono (Kd.R_keep (IsS127.apart (show IsS127 w0 _ g s0_0 t123 from by repeat (first | (with_reducible first | exact HI0.out | apply IsS127.alloc | apply IsS127.drewN | apply IsS127.drew | apply IsS127.set_1 | refine IsS127.far ?_ NB0_101.out _ | refine IsS127.far ?_ NB0_109.out _) | exact HI0.out)) (by (with_reducible repeat (first | apply Kd.R_alloc | apply Kd.R_drewN | apply Kd.R_drew));exact (Q_HO145 h0_)) (by decide)) hk (fun _ h => h.2)) (fun _ h => h.1)) (fun _ h_ => by first | trivial | exact h_ | exact h_.1))
     clear HO_110003
     clear BK101
     clear BK109
     clear HO121
     clear HO126
     clear HK
     clear HB
     clear HI0
     have HO_110003 := n0_
     have BK101 := n1_
     have BK109 := n2_
     have HO121 := n3_
     have HO126 := n4_
     have HK := n5_
     have HB := n6_
     have HI0 := n7_
     clear n0_ n1_ n2_ n3_ n4_ n5_ n6_ n7_
     (try clear hb)
     (try clear hb2)
     (try clear hk)
     (try clear hi)
     refine hK.out _ _ ⟨.slice Ao37 y124.length co37, v132, v139, v144, (by rw [ha.out];exact putSel_upk 1 hb_ rfl rfl rfl), (by exact HO121.out), (by exact HO_110003.out), fun _ => (by (with_reducible repeat (first | refine blk_drewN ?_ _ | refine blk_drew ?_ | refine blk_alloc ?_ _));exact BK101.out), (by (with_reducible repeat (first | refine blk_drewN ?_ _ | refine blk_drew ?_ | refine blk_alloc ?_ _));exact BK109.out), fun h0_ => absurd ((up_self b 3).symm.trans h0_) (by decide), (by repeat (first | (with_reducible first | exact HK.out | apply KeepBut.set_ | apply keep_drewN | apply keep_drew | apply keep_alloc | refine keep_far ?_ GW101.out _ | refine keep_far ?_ GW109.out _) | exact HK.out)), (by repeat (first | (with_reducible first | exact HB.out | apply below_alloc | apply pw_below_drewN | apply below_drew1 | refine below_set ?_ (IsS127.ge HI0.out) | refine below_set ?_ GE101.out | refine below_set ?_ GE109.out) | exact HB.out)), fun _ => (by exact HO126.out), fun _ _ => (by repeat (first | (with_reducible first | exact HI0.out | apply IsS127.alloc | apply IsS127.drewN | apply IsS127.drew | apply IsS127.set_1 | refine IsS127.far ?_ NB0_101.out _ | refine IsS127.far ?_ NB0_109.out _) | exact HI0.out)), fun h0_ _ => absurd ((hoff 5 (by kernel_rfl)).symm.trans h0_) (by decide), z_HO133, fun h0_ _ => absurd ((hoff 10 (by kernel_rfl)).symm.trans h0_) (by decide), fun h0_ _ => absurd ((hoff 12 (by kernel_rfl)).symm.trans h0_) (by decide), z_HO140, fun h0_ _ => absurd ((hoff 15 (by kernel_rfl)).symm.trans h0_) (by decide), z_HO145, fun h0_ => absurd ((hoff 18 (by kernel_rfl)).symm.trans h0_) (by decide), fun h0_ => absurd ((hoff 20 (by kernel_rfl)).symm.trans h0_) (by decide)⟩
    refine steps_cons ?_ ?_
    ·rintro b a w' ⟨v125, v132, v139, v144, ha, Q_HO121, Q_HO_110003, Q_BK101, Q_BK109, Q_HI0, Q_HK, Q_HB, Q_HO126, Q_HI0_e3, Q_HI0_e5, Q_HO133, Q_HI0_e10, Q_HI0_e12, Q_HO140, Q_HI0_e15, Q_HO145, Q_HI0_e18, Q_BK101_e20⟩ hb_ hon hoff
     refine ⟨_, rfl, fun K hK => ?_⟩
     have e21 : a.tmps[21]? = some (.pointer (some ⟨g, 0, none⟩)) := by rw [ha];exact (putSel_off rfl).trans rfl
     replace ha := m0_ ha
     have HO121 := m0_ Q_HO121
     have HO_110003 := m0_ Q_HO_110003
     have BK101 := m0_ (Q_BK101 (hoff 20 (by kernel_rfl)))
     have BK109 := m0_ Q_BK109
     have HK := m0_ Q_HK
     have HB := m0_ Q_HB
     have HO126 := m0_ (Q_HO126 (hon 2 (by kernel_rfl)))
     have HI0 := m0_ (Q_HI0_e3 (hon 3 (by kernel_rfl)) hb_)
     refine goes_ Try.func97 (by kernel_rfl) rfl #[.pointer (some ⟨g, 0, none⟩), .int .i64 5] (by rfl) rfl rfl (by first | (simp only [List.map_toArray, List.map_cons, List.map_nil, Act.eval, Array.getD_eq_getD_getElem?, Option.getD_some, e21];done) | (simp only [List.map_toArray, List.map_cons, List.map_nil, Act.eval, Array.getD_eq_getD_getElem?, Option.getD_some, e21];rfl)) ?_
     with_reducible refine (spec_l14Rd_pick.calls kj4 g s0_0 t128 5 t129 t130 w0 _ ?side1 ?side2 A23.out).mono ?_
     (case side1 => repeat (first | (with_reducible first | exact HI0.out | apply IsS127.alloc | apply IsS127.drewN | apply IsS127.drew | apply IsS127.set_1 | refine IsS127.far ?_ NB0_101.out _ | refine IsS127.far ?_ NB0_109.out _) | exact HI0.out))
     (case side2 => repeat (first | (with_reducible first | exact HB.out | apply below_alloc | apply pw_below_drewN | apply below_drew1 | refine below_set ?_ (IsS127.ge HI0.out) | refine below_set ?_ GE101.out | refine below_set ?_ GE109.out) | exact HB.out))
     rintro e w39 ⟨rfl, hi, hb, hk⟩
     refine ⟨_, rfl, ?_⟩
     have n0_ := m0_ (Kd.R_mono (Kd.R_keep (IsS127.apart (show IsS127 w0 _ g s0_0 t128 from by repeat (first | (with_reducible first | exact HI0.out | apply IsS127.alloc | apply IsS127.drewN | apply IsS127.drew | apply IsS127.set_1 | refine IsS127.far ?_ NB0_101.out _ | refine IsS127.far ?_ NB0_109.out _) | exact HI0.out)) (by exact HO_110003.out) (by decide)) hk (fun _ h => h.2)) (fun _ h => h.1))
     have n1_ := m0_ (KeepBut.blk hk (g' := gb101) (o := .cells #[.string (⟨#[]⟩ : ByteArray), .int .i64 0, .int .i64 0, .int .i64 0, .int .i64 0, .int .i64 0, .slice none 0 0, .int .i64 0, .int .i64 0, .int .i64 0, .int .i64 0, .int .i64 0] 39 (0, 0)) (by (with_reducible repeat (first | refine blk_drewN ?_ _ | refine blk_drew ?_ | refine blk_alloc ?_ _));exact BK101.out) NB101_0.out (by simp))
     have n2_ := m0_ (KeepBut.blk hk (g' := gb109) (o := .cells #[.int .i64 x110000_4, .int .i64 x110001_4, .int .i64 x110002_4, .slice Ao32 x110003_4.length co32] 37 (0, 0)) (by (with_reducible repeat (first | refine blk_drewN ?_ _ | refine blk_drew ?_ | refine blk_alloc ?_ _));exact BK109.out) NB109_0.out (by simp))
     have n3_ := m0_ (Kd.R_mono (Kd.R_keep (IsS127.apart (show IsS127 w0 _ g s0_0 t128 from by repeat (first | (with_reducible first | exact HI0.out | apply IsS127.alloc | apply IsS127.drewN | apply IsS127.drew | apply IsS127.set_1 | refine IsS127.far ?_ NB0_101.out _ | refine IsS127.far ?_ NB0_109.out _) | exact HI0.out)) (by exact HO121.out) (by decide)) hk (fun _ h => h.2)) (fun _ h => h.1))
     have n4_ := m0_ (Kd.R_mono (Kd.R_keep (IsS127.apart (show IsS127 w0 _ g s0_0 t128 from by repeat (first | (with_reducible first | exact HI0.out | apply IsS127.alloc | apply IsS127.drewN | apply IsS127.drew | apply IsS127.set_1 | refine IsS127.far ?_ NB0_101.out _ | refine IsS127.far ?_ NB0_109.out _) | exact HI0.out)) (by exact HO126.out) (by decide)) hk (fun _ h => h.2)) (fun _ h => h.1))
     have n5_ := m0_ (KeepBut.trans (by repeat (first | (with_reducible first | exact HK.out | apply KeepBut.set_ | apply keep_drewN | apply keep_drew | apply keep_alloc | refine keep_far ?_ GW101.out _ | refine keep_far ?_ GW109.out _) | exact HK.out)) hk (.inl rfl))
     have n6_ := m0_ (hb)
     have n7_ := m0_ (hi)
     have z_HO133 := fun (h0_ : b 9 = true) => (show Kd.R (Kd.int .i64) 3 w39 w.heap.size (fun k_ => some k_ ≠ (.slice Ao30 y119.length co30 : Value).ownBlock) v132 y131 from by first | exact (Kd.R_mono (Kd.R_keep (IsS127.apart (show IsS127 w0 _ g s0_0 t128 from by repeat (first | (with_reducible first | exact HI0.out | apply IsS127.alloc | apply IsS127.drewN | apply IsS127.drew | apply IsS127.set_1 | refine IsS127.far ?_ NB0_101.out _ | refine IsS127.far ?_ NB0_109.out _) | exact HI0.out)) (by (with_reducible repeat (first | apply Kd.R_alloc | apply Kd.R_drewN | apply Kd.R_drew));exact (Q_HO133 h0_)) (by decide)) hk (fun _ h => h.2)) (fun _ h => h.1)) | exact Kd.R_mono (Kd.R_mono (Kd.R_keep (IsS127.apart (show IsS127 w0 _ g s0_0 t128 from by repeat (first | (with_reducible first | exact HI0.out | apply IsS127.alloc | apply IsS127.drewN | apply IsS127.drew | apply IsS127.set_1 | refine IsS127.far ?_ NB0_101.out _ | refine IsS127.far ?_ NB0_109.out _) | exact HI0.out)) (by (with_reducible repeat (first | apply Kd.R_alloc | apply Kd.R_drewN | apply Kd.R_drew));exact (Q_HO133 h0_)) (by decide)) hk (fun _ h => h.2)) (fun _ h => h.1)) (fun _ h_ => by first | trivial | exact h_ | exact h_.1))
     have z_HO140 := fun (h0_ : b 14 = true) => (show Kd.R (Kd.int .i64) 3 w39 w.heap.size (fun k_ => some k_ ≠ (.slice Ao30 y119.length co30 : Value).ownBlock) v139 y138 from by first | exact (Kd.R_mono (Kd.R_keep (IsS127.apart (show IsS127 w0 _ g s0_0 t128 from by repeat (first | (with_reducible first | exact HI0.out | apply IsS127.alloc | apply IsS127.drewN | apply IsS127.drew | apply IsS127.set_1 | refine IsS127.far ?_ NB0_101.out _ | refine IsS127.far ?_ NB0_109.out _) | exact HI0.out)) (by (with_reducible repeat (first | apply Kd.R_alloc | apply Kd.R_drewN | apply Kd.R_drew));exact (Q_HO140 h0_)) (by decide)) hk (fun _ h => h.2)) (fun _ h => h.1)) | exact Kd.R_mono (Kd.R_mono (Kd.R_keep (IsS127.apart (show IsS127 w0 _ g s0_0 t128 from by repeat (first | (with_reducible first | exact HI0.out | apply IsS127.alloc | apply IsS127.drewN | apply IsS127.drew | apply IsS127.set_1 | refine IsS127.far ?_ NB0_101.out _ | refine IsS127.far ?_ NB0_109.out _) | exact HI0.out)) (by (with_reducible repeat (first | apply Kd.R_alloc | apply Kd.R_drewN | apply Kd.R_drew));exact (Q_HO140 h0_)) (by decide)) hk (fun _ h => h.2)) (fun _ h => h.1)) (fun _ h_ => by first | trivial | exact h_ | exact h_.1))
     have z_HO145 := fun (h0_ : b 17 = true) => (show Kd.R (Kd.int .i64) 3 w39 w.heap.size (fun k_ => some k_ ≠ (.slice Ao30 y119.length co30 : Value).ownBlock) v144 y143 from by first | exact (Kd.R_mono (Kd.R_keep (IsS127.apart (show IsS127 w0 _ g s0_0 t128 from by repeat (first | (with_reducible first | exact HI0.out | apply IsS127.alloc | apply IsS127.drewN | apply IsS127.drew | apply IsS127.set_1 | refine IsS127.far ?_ NB0_101.out _ | refine IsS127.far ?_ NB0_109.out _) | exact HI0.out)) (by (with_reducible repeat (first | apply Kd.R_alloc | apply Kd.R_drewN | apply Kd.R_drew));exact (Q_HO145 h0_)) (by decide)) hk (fun _ h => h.2)) (fun _ h => h.1)) | exact Kd.R_mono (Kd.R_mono (Kd.R_keep (IsS127.apart (show IsS127 w0 _ g s0_0 t128 from by repeat (first | (with_reducible first | exact HI0.out | apply IsS127.alloc | apply IsS127.drewN | apply IsS127.drew | apply IsS127.set_1 | refine IsS127.far ?_ NB0_101.out _ | refine IsS127.far ?_ NB0_109.out _) | exact HI0.out)) (by (with_reducible repeat (first | apply Kd.R_alloc | apply Kd.R_drewN | apply Kd.R_drew));exact (Q_HO145 h0_)) (by decide)) hk (fun _ h => h.2)) (fun _ h => h.1)) (fun _ h_ => by first | trivial | exact h_ | exact h_.1))
     clear HO_110003
     clear BK101
     clear BK109
     clear HO121
     clear HO126
     clear HK
     clear HB
     clear HI0
     have HO_110003 := n0_
     have BK101 := n1_
     have BK109 := n2_
     have HO121 := n3_
     have HO126 := n4_
     have HK := n5_
     have HB := n6_
     have HI0 := n7_
     clear n0_ n1_ n2_ n3_ n4_ n5_ n6_ n7_
     (try clear hb)
     (try clear hb2)
     (try clear hk)
     (try clear hi)
     refine hK.out _ _ ⟨v125, v132, v139, v144, (by rw [ha.out];exact putSel_upk 2 hb_ rfl rfl rfl), (by exact HO121.out), (by exact HO_110003.out), fun _ => (by (with_reducible repeat (first | refine blk_drewN ?_ _ | refine blk_drew ?_ | refine blk_alloc ?_ _));exact BK101.out), (by (with_reducible repeat (first | refine blk_drewN ?_ _ | refine blk_drew ?_ | refine blk_alloc ?_ _));exact BK109.out), fun h0_ => absurd ((hon 3 (by kernel_rfl)).symm.trans h0_) (by decide), (by repeat (first | (with_reducible first | exact HK.out | apply KeepBut.set_ | apply keep_drewN | apply keep_drew | apply keep_alloc | refine keep_far ?_ GW101.out _ | refine keep_far ?_ GW109.out _) | exact HK.out)), (by repeat (first | (with_reducible first | exact HB.out | apply below_alloc | apply pw_below_drewN | apply below_drew1 | refine below_set ?_ (IsS127.ge HI0.out) | refine below_set ?_ GE101.out | refine below_set ?_ GE109.out) | exact HB.out)), fun _ => (by exact HO126.out), fun _ h1_ => absurd ((up_self b 5).symm.trans h1_) (by decide), fun _ _ => (by repeat (first | (with_reducible first | exact HI0.out | apply IsS127.alloc | apply IsS127.drewN | apply IsS127.drew | apply IsS127.set_1 | refine IsS127.far ?_ NB0_101.out _ | refine IsS127.far ?_ NB0_109.out _) | exact HI0.out)), z_HO133, fun h0_ _ => absurd ((hoff 10 (by kernel_rfl)).symm.trans h0_) (by decide), fun h0_ _ => absurd ((hoff 12 (by kernel_rfl)).symm.trans h0_) (by decide), z_HO140, fun h0_ _ => absurd ((hoff 15 (by kernel_rfl)).symm.trans h0_) (by decide), z_HO145, fun h0_ => absurd ((hoff 18 (by kernel_rfl)).symm.trans h0_) (by decide), fun h0_ => absurd ((hoff 20 (by kernel_rfl)).symm.trans h0_) (by decide)⟩
    refine steps_cons ?_ ?_
    ·rintro b a w' ⟨v125, v132, v139, v144, ha, Q_HO121, Q_HO_110003, Q_BK101, Q_BK109, Q_HI0, Q_HK, Q_HB, Q_HO126, Q_HI0_e3, Q_HI0_e5, Q_HO133, Q_HI0_e10, Q_HI0_e12, Q_HO140, Q_HI0_e15, Q_HO145, Q_HI0_e18, Q_BK101_e20⟩ hb_ hon hoff
     refine ⟨_, rfl, fun K hK => ?_⟩
     have e5 : a.tmps[5]? = some (.pointer (some ⟨gb109, 0, none⟩)) := by rw [ha];exact (putSel_off rfl).trans rfl
     replace ha := m0_ ha
     have HO121 := m0_ Q_HO121
     have HO_110003 := m0_ Q_HO_110003
     have BK101 := m0_ (Q_BK101 (hoff 20 (by kernel_rfl)))
     have BK109 := m0_ Q_BK109
     have HK := m0_ Q_HK
     have HB := m0_ Q_HB
     have hc0_ : w'.cell? ⟨gb109, 0, none⟩ = some (.int .i64 x110000_4) := (blk_cell BK109.out 0).trans rfl
     have hc1_ : w'.cell? ⟨gb109, 1, none⟩ = some (.int .i64 x110001_4) := (blk_cell BK109.out 1).trans rfl
     have hc2_ : w'.cell? ⟨gb109, 2, none⟩ = some (.int .i64 x110002_4) := (blk_cell BK109.out 2).trans rfl
     have hc3_ : w'.cell? ⟨gb109, 3, none⟩ = some (.slice Ao32 x110003_4.length co32) := (blk_cell BK109.out 3).trans rfl
     refine value_ (w1 := w') (v := .agg #[.int .i64 x110000_4, .int .i64 x110001_4, .int .i64 x110002_4, .slice Ao32 x110003_4.length co32]) (by rfl) rfl ?_ ?_
     ·go_simp
      (try simp only [i64_w])
      try rfl
     refine hK.out _ _ ⟨v125, v132, v139, v144, (by rw [ha.out];exact putSel_upk 3 hb_ rfl rfl rfl), Q_HO121, Q_HO_110003, Q_BK101, Q_BK109, Q_HI0, Q_HK, Q_HB, Q_HO126, Q_HI0_e3, Q_HI0_e5, Q_HO133, Q_HI0_e10, Q_HI0_e12, Q_HO140, Q_HI0_e15, Q_HO145, Q_HI0_e18, fun h0_ => absurd ((hoff 20 (by kernel_rfl)).symm.trans h0_) (by decide)⟩
    refine steps_cons ?_ ?_
    ·rintro b a w' ⟨v125, v132, v139, v144, ha, Q_HO121, Q_HO_110003, Q_BK101, Q_BK109, Q_HI0, Q_HK, Q_HB, Q_HO126, Q_HI0_e3, Q_HI0_e5, Q_HO133, Q_HI0_e10, Q_HI0_e12, Q_HO140, Q_HI0_e15, Q_HO145, Q_HI0_e18, Q_BK101_e20⟩ hb_ hon hoff
     refine ⟨_, rfl, fun K hK => ?_⟩
     replace ha := m0_ ha
     have HO121 := m0_ Q_HO121
     have HO_110003 := m0_ Q_HO_110003
     have BK101 := m0_ (Q_BK101 (hoff 20 (by kernel_rfl)))
     have BK109 := m0_ Q_BK109
     have HK := m0_ Q_HK
     have HB := m0_ Q_HB
     refine Kd.R_lit_step (Kd.int .i64) _ 3 ?hg (N := 26) ?hd (xs := ([100, 100, 5] : List Int)) (inner := [.int .i64 100, .int .i64 100, .int .i64 5]) (ok := fun _ => True) (okp := fun _ => True) ?hr ?hp (fun _ hk => hk) trivial (Below.refl _ _) (Nat.le_refl _) (by simp) ?_;(case hd => rfl);(case hg => rfl);(case hr => first | (go_simp;done) | (go_simp;rfl));(case hp => exact (Reps.one (show Kd.M (Kd.int .i64) _ _ _ 100 [.int .i64 100] from rfl) (Reps.one (show Kd.M (Kd.int .i64) _ _ _ 100 [.int .i64 100] from rfl) (Reps.one (show Kd.M (Kd.int .i64) _ _ _ 5 [.int .i64 5] from rfl) (Reps.none _ _)))))
     intro v132 w34 ho35 hb hg_ hnew_
     clear hg_ hnew_
     (first | rw [← Ny131.out] at ho35 | (simp only [Int.reduceToNat] at ho35;rw [← Ny131.out] at ho35))
     have n0_ := m0_ (Kd.R_below (by exact HO_110003.out) hb)
     have n1_ := m0_ (Kd.R_elder' (by exact HO121.out) (Kd.R_base ho35) hb)
     have n2_ := m0_ (Kd.R_lower (Kd.R_new' ho35 (Kd.R_lt (by exact HO121.out))) (keep_size (w := w) (g := g) (row := none) (by repeat (first | (with_reducible first | exact HK.out | apply KeepBut.set_ | apply keep_drewN | apply keep_drew | apply keep_alloc | refine keep_far ?_ GW101.out _ | refine keep_far ?_ GW109.out _) | exact HK.out))))
     have n3_ := m0_ (blk_below (g := gb101) (o := .cells #[.string (⟨#[]⟩ : ByteArray), .int .i64 0, .int .i64 0, .int .i64 0, .int .i64 0, .int .i64 0, .slice none 0 0, .int .i64 0, .int .i64 0, .int .i64 0, .int .i64 0, .int .i64 0] 39 (0, 0)) (by (with_reducible repeat (first | refine blk_drewN ?_ _ | refine blk_drew ?_ | refine blk_alloc ?_ _));exact BK101.out) hb)
     have n4_ := m0_ (blk_below BK109.out hb)
     have n6_ := m0_ (KeepBut.trans (by repeat (first | (with_reducible first | exact HK.out | apply KeepBut.set_ | apply keep_drewN | apply keep_drew | apply keep_alloc | refine keep_far ?_ GW101.out _ | refine keep_far ?_ GW109.out _) | exact HK.out)) (KeepBut.of_below hb g none) (.inl rfl))
     have n7_ := m0_ (below_step (by exact HB.out) hb)
     have z_HI0 := fun (h0_ : b 3 = false) => (show IsS127 w0 w34 g s0_0 t123 from by first | exact (IsS127.below (by repeat (first | (with_reducible first | exact (Q_HI0 h0_) | apply IsS127.alloc | apply IsS127.drewN | apply IsS127.drew | apply IsS127.set_1 | refine IsS127.far ?_ NB0_101.out _ | refine IsS127.far ?_ NB0_109.out _) | exact (Q_HI0 h0_))) hb))
     have z_HO126 := fun (h0_ : b 2 = true) => (show Kd.R (Kd.int .i64) 3 w34 w.heap.size (fun k_ => some k_ ≠ (.slice Ao30 y119.length co30 : Value).ownBlock) v125 y124 from by first | exact (Kd.R_elder' (by (with_reducible repeat (first | apply Kd.R_alloc | apply Kd.R_drewN | apply Kd.R_drew));exact (Q_HO126 h0_)) (Kd.R_base ho35) hb) | exact Kd.R_mono (Kd.R_elder' (by (with_reducible repeat (first | apply Kd.R_alloc | apply Kd.R_drewN | apply Kd.R_drew));exact (Q_HO126 h0_)) (Kd.R_base ho35) hb) (fun _ h_ => by first | trivial | exact h_ | exact h_.1))
     have z_HI0_e3 := fun (h0_ : b 3 = true) (h1_ : b 5 = false) => (show IsS127 w0 w34 g s0_0 t128 from by first | exact (IsS127.below (by repeat (first | (with_reducible first | exact (Q_HI0_e3 h0_ h1_) | apply IsS127.alloc | apply IsS127.drewN | apply IsS127.drew | apply IsS127.set_1 | refine IsS127.far ?_ NB0_101.out _ | refine IsS127.far ?_ NB0_109.out _) | exact (Q_HI0_e3 h0_ h1_))) hb))
     have z_HI0_e5 := fun (h0_ : b 5 = true) (h1_ : b 10 = false) => (show IsS127 w0 w34 g s0_0 t130 from by first | exact (IsS127.below (by repeat (first | (with_reducible first | exact (Q_HI0_e5 h0_ h1_) | apply IsS127.alloc | apply IsS127.drewN | apply IsS127.drew | apply IsS127.set_1 | refine IsS127.far ?_ NB0_101.out _ | refine IsS127.far ?_ NB0_109.out _) | exact (Q_HI0_e5 h0_ h1_))) hb))
     have z_HO140 := fun (h0_ : b 14 = true) => (show Kd.R (Kd.int .i64) 3 w34 w.heap.size (fun k_ => some k_ ≠ (.slice Ao30 y119.length co30 : Value).ownBlock) v139 y138 from by first | exact (Kd.R_elder' (by (with_reducible repeat (first | apply Kd.R_alloc | apply Kd.R_drewN | apply Kd.R_drew));exact (Q_HO140 h0_)) (Kd.R_base ho35) hb) | exact Kd.R_mono (Kd.R_elder' (by (with_reducible repeat (first | apply Kd.R_alloc | apply Kd.R_drewN | apply Kd.R_drew));exact (Q_HO140 h0_)) (Kd.R_base ho35) hb) (fun _ h_ => by first | trivial | exact h_ | exact h_.1))
     have z_HO145 := fun (h0_ : b 17 = true) => (show Kd.R (Kd.int .i64) 3 w34 w.heap.size (fun k_ => some k_ ≠ (.slice Ao30 y119.length co30 : Value).ownBlock) v144 y143 from by first | exact (Kd.R_elder' (by (with_reducible repeat (first | apply Kd.R_alloc | apply Kd.R_drewN | apply Kd.R_drew));exact (Q_HO145 h0_)) (Kd.R_base ho35) hb) | exact Kd.R_mono (Kd.R_elder' (by (with_reducible repeat (first | apply Kd.R_alloc | apply Kd.R_drewN | apply Kd.R_drew));exact (Q_HO145 h0_)) (Kd.R_base ho35) hb) (fun _ h_ => by first | trivial | exact h_ | exact h_.1))
     clear HO_110003
     clear HO121
     clear BK101
     clear BK109
     clear HK
     clear HB
     have HO_110003 := n0_
     have HO121 := n1_
     have HO133 := n2_
     have BK101 := n3_
     have BK109 := n4_
     have HK := n6_
     have HB := n7_
     clear n0_ n1_ n2_ n3_ n4_ n6_ n7_
     clear hb ho35
     refine hK.out _ _ ⟨v125, v132, v139, v144, (by rw [ha.out];exact putSel_upk 4 hb_ rfl rfl rfl), (by (with_reducible repeat (first | apply Kd.R_alloc | apply Kd.R_drewN | apply Kd.R_drew));exact Kd.R_mono HO121.out (fun _ hk => by first | exact hk.2 | trivial)), (by exact HO_110003.out), fun _ => (by (with_reducible repeat (first | refine blk_drewN ?_ _ | refine blk_drew ?_ | refine blk_alloc ?_ _));exact BK101.out), (by (with_reducible repeat (first | refine blk_drewN ?_ _ | refine blk_drew ?_ | refine blk_alloc ?_ _));exact BK109.out), z_HI0, (by repeat (first | (with_reducible first | exact HK.out | apply KeepBut.set_ | apply keep_drewN | apply keep_drew | apply keep_alloc | refine keep_far ?_ GW101.out _ | refine keep_far ?_ GW109.out _) | exact HK.out)), (by exact HB.out), z_HO126, z_HI0_e3, z_HI0_e5, fun _ => (by (with_reducible repeat (first | apply Kd.R_alloc | apply Kd.R_drewN | apply Kd.R_drew));exact Kd.R_mono HO133.out (fun _ hk => by first | exact hk.2 | trivial)), fun h0_ _ => absurd ((hoff 10 (by kernel_rfl)).symm.trans h0_) (by decide), fun h0_ _ => absurd ((hoff 12 (by kernel_rfl)).symm.trans h0_) (by decide), z_HO140, fun h0_ _ => absurd ((hoff 15 (by kernel_rfl)).symm.trans h0_) (by decide), z_HO145, fun h0_ => absurd ((hoff 18 (by kernel_rfl)).symm.trans h0_) (by decide), fun h0_ => absurd ((hoff 20 (by kernel_rfl)).symm.trans h0_) (by decide)⟩
    refine steps_cons ?_ ?_
    ·rintro b a w' ⟨v125, v132, v139, v144, ha, Q_HO121, Q_HO_110003, Q_BK101, Q_BK109, Q_HI0, Q_HK, Q_HB, Q_HO126, Q_HI0_e3, Q_HI0_e5, Q_HO133, Q_HI0_e10, Q_HI0_e12, Q_HO140, Q_HI0_e15, Q_HO145, Q_HI0_e18, Q_BK101_e20⟩ hb_ hon hoff
     refine ⟨_, rfl, fun K hK => ?_⟩
     have e25 : a.tmps[25]? = some (.pointer (some ⟨g, 0, none⟩)) := by rw [ha];exact (putSel_off rfl).trans rfl
     have e26 : a.tmps[26]? = some (v132) := by rw [ha];exact putSel_on (e := (9, 26, v132)) 4 rfl rfl (hon 9 (by kernel_rfl)) rfl
     replace ha := m0_ ha
     have HO121 := m0_ Q_HO121
     have HO_110003 := m0_ Q_HO_110003
     have BK101 := m0_ (Q_BK101 (hoff 20 (by kernel_rfl)))
     have BK109 := m0_ Q_BK109
     have HK := m0_ Q_HK
     have HB := m0_ Q_HB
     have HO126 := m0_ (Q_HO126 (hon 2 (by kernel_rfl)))
     have HI0 := m0_ (Q_HI0_e5 (hon 5 (by kernel_rfl)) hb_)
     have HO133 := m0_ (Q_HO133 (hon 9 (by kernel_rfl)))
     obtain ⟨Ao42, co42, eo42⟩ := Kd.R_slice HO133.out
     (first | subst eo42 | (injection eo42 with f1_ f2_ f3_;have f4_ := f1_.symm;have f5_ := f3_.symm;clear f1_ f2_ f3_;subst f4_;subst f5_))
     refine goes_ Try.func99 (by kernel_rfl) rfl #[.pointer (some ⟨g, 0, none⟩), .slice Ao42 y131.length co42] (by rfl) rfl rfl (by first | (simp only [List.map_toArray, List.map_cons, List.map_nil, Act.eval, Array.getD_eq_getD_getElem?, Option.getD_some, e25, e26];done) | (simp only [List.map_toArray, List.map_cons, List.map_nil, Act.eval, Array.getD_eq_getD_getElem?, Option.getD_some, e25, e26];rfl)) ?_
     with_reducible refine (spec_l14Rd_num.calls kj4 g s0_0 t130 _ _ y131 t134 t135 w0 _ ?side1 ?side2 ?side3 ?side4 ?side5 A24.out).mono ?_
     (case side1 => repeat (first | (with_reducible first | exact HI0.out | apply IsS127.alloc | apply IsS127.drewN | apply IsS127.drew | apply IsS127.set_1 | refine IsS127.far ?_ NB0_101.out _ | refine IsS127.far ?_ NB0_109.out _) | exact HI0.out))
     (case side2 => repeat (first | (with_reducible first | exact HB.out | apply below_alloc | apply pw_below_drewN | apply below_drew1 | refine below_set ?_ (IsS127.ge HI0.out) | refine below_set ?_ GE101.out | refine below_set ?_ GE109.out) | exact HB.out))
     (case side3 => repeat (first | exact (Kd.R_reads' HO133.out).2.2 | (with_reducible refine Kd.C_alloc ?_ _) | (with_reducible refine Kd.C_drewN ?_ _) | (with_reducible refine Kd.C_drew ?_)))
     (case side4 => exact (Kd.R_reads' HO133.out).2.1)
     (case side5 => exact far_slice (IsS127.own_ne HI0.out HO133.out (by decide)))
     rintro e w43 ⟨rfl, hi, hb, hk⟩
     refine ⟨_, rfl, ?_⟩
     have n0_ := m0_ (Kd.R_mono (Kd.R_keep (IsS127.apart (show IsS127 w0 _ g s0_0 t130 from by repeat (first | (with_reducible first | exact HI0.out | apply IsS127.alloc | apply IsS127.drewN | apply IsS127.drew | apply IsS127.set_1 | refine IsS127.far ?_ NB0_101.out _ | refine IsS127.far ?_ NB0_109.out _) | exact HI0.out)) (by exact HO_110003.out) (by decide)) hk (fun _ h => h.2)) (fun _ h => h.1))
     have n1_ := m0_ (KeepBut.blk hk (g' := gb101) (o := .cells #[.string (⟨#[]⟩ : ByteArray), .int .i64 0, .int .i64 0, .int .i64 0, .int .i64 0, .int .i64 0, .slice none 0 0, .int .i64 0, .int .i64 0, .int .i64 0, .int .i64 0, .int .i64 0] 39 (0, 0)) (by (with_reducible repeat (first | refine blk_drewN ?_ _ | refine blk_drew ?_ | refine blk_alloc ?_ _));exact BK101.out) NB101_0.out (by simp))
     have n2_ := m0_ (KeepBut.blk hk (g' := gb109) (o := .cells #[.int .i64 x110000_4, .int .i64 x110001_4, .int .i64 x110002_4, .slice Ao32 x110003_4.length co32] 37 (0, 0)) (by (with_reducible repeat (first | refine blk_drewN ?_ _ | refine blk_drew ?_ | refine blk_alloc ?_ _));exact BK109.out) NB109_0.out (by simp))
     have n3_ := m0_ (Kd.R_mono (Kd.R_keep (IsS127.apart (show IsS127 w0 _ g s0_0 t130 from by repeat (first | (with_reducible first | exact HI0.out | apply IsS127.alloc | apply IsS127.drewN | apply IsS127.drew | apply IsS127.set_1 | refine IsS127.far ?_ NB0_101.out _ | refine IsS127.far ?_ NB0_109.out _) | exact HI0.out)) (by exact HO121.out) (by decide)) hk (fun _ h => h.2)) (fun _ h => h.1))
     have n4_ := m0_ (Kd.R_mono (Kd.R_keep (IsS127.apart (show IsS127 w0 _ g s0_0 t130 from by repeat (first | (with_reducible first | exact HI0.out | apply IsS127.alloc | apply IsS127.drewN | apply IsS127.drew | apply IsS127.set_1 | refine IsS127.far ?_ NB0_101.out _ | refine IsS127.far ?_ NB0_109.out _) | exact HI0.out)) (by exact HO126.out) (by decide)) hk (fun _ h => h.2)) (fun _ h => h.1))
     have n5_ := m0_ (Kd.R_mono (Kd.R_keep (IsS127.apart (show IsS127 w0 _ g s0_0 t130 from by repeat (first | (with_reducible first | exact HI0.out | apply IsS127.alloc | apply IsS127.drewN | apply IsS127.drew | apply IsS127.set_1 | refine IsS127.far ?_ NB0_101.out _ | refine IsS127.far ?_ NB0_109.out _) | exact HI0.out)) (by exact HO133.out) (by decide)) hk (fun _ h => h.2)) (fun _ h => h.1))
     have n6_ := m0_ (KeepBut.trans (by repeat (first | (with_reducible first | exact HK.out | apply KeepBut.set_ | apply keep_drewN | apply keep_drew | apply keep_alloc | refine keep_far ?_ GW101.out _ | refine keep_far ?_ GW109.out _) | exact HK.out)) hk (.inl rfl))
     have n7_ := m0_ (hb)
     have n8_ := m0_ (hi)
     have z_HO140 := fun (h0_ : b 14 = true) => (show Kd.R (Kd.int .i64) 3 w43 w.heap.size (fun k_ => some k_ ≠ (.slice Ao30 y119.length co30 : Value).ownBlock) v139 y138 from by first | exact (Kd.R_mono (Kd.R_keep (IsS127.apart (show IsS127 w0 _ g s0_0 t130 from by repeat (first | (with_reducible first | exact HI0.out | apply IsS127.alloc | apply IsS127.drewN | apply IsS127.drew | apply IsS127.set_1 | refine IsS127.far ?_ NB0_101.out _ | refine IsS127.far ?_ NB0_109.out _) | exact HI0.out)) (by (with_reducible repeat (first | apply Kd.R_alloc | apply Kd.R_drewN | apply Kd.R_drew));exact (Q_HO140 h0_)) (by decide)) hk (fun _ h => h.2)) (fun _ h => h.1)) | exact Kd.R_mono (Kd.R_mono (Kd.R_keep (IsS127.apart (show IsS127 w0 _ g s0_0 t130 from by repeat (first | (with_reducible first | exact HI0.out | apply IsS127.alloc | apply IsS127.drewN | apply IsS127.drew | apply IsS127.set_1 | refine IsS127.far ?_ NB0_101.out _ | refine IsS127.far ?_ NB0_109.out _) | exact HI0.out)) (by (with_reducible repeat (first | apply Kd.R_alloc | apply Kd.R_drewN | apply Kd.R_drew));exact (Q_HO140 h0_)) (by decide)) hk (fun _ h => h.2)) (fun _ h => h.1)) (fun _ h_ => by first | trivial | exact h_ | exact h_.1))
     have z_HO145 := fun (h0_ : b 17 = true) => (show Kd.R (Kd.int .i64) 3 w43 w.heap.size (fun k_ => some k_ ≠ (.slice Ao30 y119.length co30 : Value).ownBlock) v144 y143 from by first | exact (Kd.R_mono (Kd.R_keep (IsS127.apart (show IsS127 w0 _ g s0_0 t130 from by repeat (first | (with_reducible first | exact HI0.out | apply IsS127.alloc | apply IsS127.drewN | apply IsS127.drew | apply IsS127.set_1 | refine IsS127.far ?_ NB0_101.out _ | refine IsS127.far ?_ NB0_109.out _) | exact HI0.out)) (by (with_reducible repeat (first | apply Kd.R_alloc | apply Kd.R_drewN | apply Kd.R_drew));exact (Q_HO145 h0_)) (by decide)) hk (fun _ h => h.2)) (fun _ h => h.1)) | exact Kd.R_mono (Kd.R_mono (Kd.R_keep (IsS127.apart (show IsS127 w0 _ g s0_0 t130 from by repeat (first | (with_reducible first | exact HI0.out | apply IsS127.alloc | apply IsS127.drewN | apply IsS127.drew | apply IsS127.set_1 | refine IsS127.far ?_ NB0_101.out _ | refine IsS127.far ?_ NB0_109.out _) | exact HI0.out)) (by (with_reducible repeat (first | apply Kd.R_alloc | apply Kd.R_drewN | apply Kd.R_drew));exact (Q_HO145 h0_)) (by decide)) hk (fun _ h => h.2)) (fun _ h => h.1)) (fun _ h_ => by first | trivial | exact h_ | exact h_.1))
     clear HO_110003
     clear BK101
     clear BK109
     clear HO121
     clear HO126
     clear HO133
     clear HK
     clear HB
     clear HI0
     have HO_110003 := n0_
     have BK101 := n1_
     have BK109 := n2_
     have HO121 := n3_
     have HO126 := n4_
     have HO133 := n5_
     have HK := n6_
     have HB := n7_
     have HI0 := n8_
     clear n0_ n1_ n2_ n3_ n4_ n5_ n6_ n7_ n8_
     (try clear hb)
     (try clear hb2)
     (try clear hk)
     (try clear hi)
     refine hK.out _ _ ⟨v125, .slice Ao42 y131.length co42, v139, v144, (by rw [ha.out];exact putSel_upk 5 hb_ rfl rfl rfl), (by exact HO121.out), (by exact HO_110003.out), fun _ => (by (with_reducible repeat (first | refine blk_drewN ?_ _ | refine blk_drew ?_ | refine blk_alloc ?_ _));exact BK101.out), (by (with_reducible repeat (first | refine blk_drewN ?_ _ | refine blk_drew ?_ | refine blk_alloc ?_ _));exact BK109.out), fun h0_ => absurd ((hon 3 (by kernel_rfl)).symm.trans h0_) (by decide), (by repeat (first | (with_reducible first | exact HK.out | apply KeepBut.set_ | apply keep_drewN | apply keep_drew | apply keep_alloc | refine keep_far ?_ GW101.out _ | refine keep_far ?_ GW109.out _) | exact HK.out)), (by repeat (first | (with_reducible first | exact HB.out | apply below_alloc | apply pw_below_drewN | apply below_drew1 | refine below_set ?_ (IsS127.ge HI0.out) | refine below_set ?_ GE101.out | refine below_set ?_ GE109.out) | exact HB.out)), fun _ => (by exact HO126.out), fun _ h1_ => absurd ((hon 5 (by kernel_rfl)).symm.trans h1_) (by decide), fun _ h1_ => absurd ((up_self b 10).symm.trans h1_) (by decide), fun _ => (by exact HO133.out), fun _ _ => (by repeat (first | (with_reducible first | exact HI0.out | apply IsS127.alloc | apply IsS127.drewN | apply IsS127.drew | apply IsS127.set_1 | refine IsS127.far ?_ NB0_101.out _ | refine IsS127.far ?_ NB0_109.out _) | exact HI0.out)), fun h0_ _ => absurd ((hoff 12 (by kernel_rfl)).symm.trans h0_) (by decide), z_HO140, fun h0_ _ => absurd ((hoff 15 (by kernel_rfl)).symm.trans h0_) (by decide), z_HO145, fun h0_ => absurd ((hoff 18 (by kernel_rfl)).symm.trans h0_) (by decide), fun h0_ => absurd ((hoff 20 (by kernel_rfl)).symm.trans h0_) (by decide)⟩
    refine steps_cons ?_ ?_
    ·rintro b a w' ⟨v125, v132, v139, v144, ha, Q_HO121, Q_HO_110003, Q_BK101, Q_BK109, Q_HI0, Q_HK, Q_HB, Q_HO126, Q_HI0_e3, Q_HI0_e5, Q_HO133, Q_HI0_e10, Q_HI0_e12, Q_HO140, Q_HI0_e15, Q_HO145, Q_HI0_e18, Q_BK101_e20⟩ hb_ hon hoff
     refine ⟨_, rfl, fun K hK => ?_⟩
     have e28 : a.tmps[28]? = some (.pointer (some ⟨g, 0, none⟩)) := by rw [ha];exact (putSel_off rfl).trans rfl
     replace ha := m0_ ha
     have HO121 := m0_ Q_HO121
     have HO_110003 := m0_ Q_HO_110003
     have BK101 := m0_ (Q_BK101 (hoff 20 (by kernel_rfl)))
     have BK109 := m0_ Q_BK109
     have HK := m0_ Q_HK
     have HB := m0_ Q_HB
     have HO126 := m0_ (Q_HO126 (hon 2 (by kernel_rfl)))
     have HO133 := m0_ (Q_HO133 (hon 9 (by kernel_rfl)))
     have HI0 := m0_ (Q_HI0_e10 (hon 10 (by kernel_rfl)) hb_)
     refine goes_ Try.func97 (by kernel_rfl) rfl #[.pointer (some ⟨g, 0, none⟩), .int .i64 4] (by rfl) rfl rfl (by first | (simp only [List.map_toArray, List.map_cons, List.map_nil, Act.eval, Array.getD_eq_getD_getElem?, Option.getD_some, e28];done) | (simp only [List.map_toArray, List.map_cons, List.map_nil, Act.eval, Array.getD_eq_getD_getElem?, Option.getD_some, e28];rfl)) ?_
     with_reducible refine (spec_l14Rd_pick.calls kj4 g s0_0 t135 4 t136 t137 w0 _ ?side1 ?side2 A25.out).mono ?_
     (case side1 => repeat (first | (with_reducible first | exact HI0.out | apply IsS127.alloc | apply IsS127.drewN | apply IsS127.drew | apply IsS127.set_1 | refine IsS127.far ?_ NB0_101.out _ | refine IsS127.far ?_ NB0_109.out _) | exact HI0.out))
     (case side2 => repeat (first | (with_reducible first | exact HB.out | apply below_alloc | apply pw_below_drewN | apply below_drew1 | refine below_set ?_ (IsS127.ge HI0.out) | refine below_set ?_ GE101.out | refine below_set ?_ GE109.out) | exact HB.out))
     rintro e w44 ⟨rfl, hi, hb, hk⟩
     refine ⟨_, rfl, ?_⟩
     have n0_ := m0_ (Kd.R_mono (Kd.R_keep (IsS127.apart (show IsS127 w0 _ g s0_0 t135 from by repeat (first | (with_reducible first | exact HI0.out | apply IsS127.alloc | apply IsS127.drewN | apply IsS127.drew | apply IsS127.set_1 | refine IsS127.far ?_ NB0_101.out _ | refine IsS127.far ?_ NB0_109.out _) | exact HI0.out)) (by exact HO_110003.out) (by decide)) hk (fun _ h => h.2)) (fun _ h => h.1))
     have n1_ := m0_ (KeepBut.blk hk (g' := gb101) (o := .cells #[.string (⟨#[]⟩ : ByteArray), .int .i64 0, .int .i64 0, .int .i64 0, .int .i64 0, .int .i64 0, .slice none 0 0, .int .i64 0, .int .i64 0, .int .i64 0, .int .i64 0, .int .i64 0] 39 (0, 0)) (by (with_reducible repeat (first | refine blk_drewN ?_ _ | refine blk_drew ?_ | refine blk_alloc ?_ _));exact BK101.out) NB101_0.out (by simp))
     have n2_ := m0_ (KeepBut.blk hk (g' := gb109) (o := .cells #[.int .i64 x110000_4, .int .i64 x110001_4, .int .i64 x110002_4, .slice Ao32 x110003_4.length co32] 37 (0, 0)) (by (with_reducible repeat (first | refine blk_drewN ?_ _ | refine blk_drew ?_ | refine blk_alloc ?_ _));exact BK109.out) NB109_0.out (by simp))
     have n3_ := m0_ (Kd.R_mono (Kd.R_keep (IsS127.apart (show IsS127 w0 _ g s0_0 t135 from by repeat (first | (with_reducible first | exact HI0.out | apply IsS127.alloc | apply IsS127.drewN | apply IsS127.drew | apply IsS127.set_1 | refine IsS127.far ?_ NB0_101.out _ | refine IsS127.far ?_ NB0_109.out _) | exact HI0.out)) (by exact HO121.out) (by decide)) hk (fun _ h => h.2)) (fun _ h => h.1))
     have n4_ := m0_ (Kd.R_mono (Kd.R_keep (IsS127.apart (show IsS127 w0 _ g s0_0 t135 from by repeat (first | (with_reducible first | exact HI0.out | apply IsS127.alloc | apply IsS127.drewN | apply IsS127.drew | apply IsS127.set_1 | refine IsS127.far ?_ NB0_101.out _ | refine IsS127.far ?_ NB0_109.out _) | exact HI0.out)) (by exact HO126.out) (by decide)) hk (fun _ h => h.2)) (fun _ h => h.1))
     have n5_ := m0_ (Kd.R_mono (Kd.R_keep (IsS127.apart (show IsS127 w0 _ g s0_0 t135 from by repeat (first | (with_reducible first | exact HI0.out | apply IsS127.alloc | apply IsS127.drewN | apply IsS127.drew | apply IsS127.set_1 | refine IsS127.far ?_ NB0_101.out _ | refine IsS127.far ?_ NB0_109.out _) | exact HI0.out)) (by exact HO133.out) (by decide)) hk (fun _ h => h.2)) (fun _ h => h.1))
     have n6_ := m0_ (KeepBut.trans (by repeat (first | (with_reducible first | exact HK.out | apply KeepBut.set_ | apply keep_drewN | apply keep_drew | apply keep_alloc | refine keep_far ?_ GW101.out _ | refine keep_far ?_ GW109.out _) | exact HK.out)) hk (.inl rfl))
     have n7_ := m0_ (hb)
     have n8_ := m0_ (hi)
     have z_HO140 := fun (h0_ : b 14 = true) => (show Kd.R (Kd.int .i64) 3 w44 w.heap.size (fun k_ => some k_ ≠ (.slice Ao30 y119.length co30 : Value).ownBlock) v139 y138 from by first | exact (Kd.R_mono (Kd.R_keep (IsS127.apart (show IsS127 w0 _ g s0_0 t135 from by repeat (first | (with_reducible first | exact HI0.out | apply IsS127.alloc | apply IsS127.drewN | apply IsS127.drew | apply IsS127.set_1 | refine IsS127.far ?_ NB0_101.out _ | refine IsS127.far ?_ NB0_109.out _) | exact HI0.out)) (by (with_reducible repeat (first | apply Kd.R_alloc | apply Kd.R_drewN | apply Kd.R_drew));exact (Q_HO140 h0_)) (by decide)) hk (fun _ h => h.2)) (fun _ h => h.1)) | exact Kd.R_mono (Kd.R_mono (Kd.R_keep (IsS127.apart (show IsS127 w0 _ g s0_0 t135 from by repeat (first | (with_reducible first | exact HI0.out | apply IsS127.alloc | apply IsS127.drewN | apply IsS127.drew | apply IsS127.set_1 | refine IsS127.far ?_ NB0_101.out _ | refine IsS127.far ?_ NB0_109.out _) | exact HI0.out)) (by (with_reducible repeat (first | apply Kd.R_alloc | apply Kd.R_drewN | apply Kd.R_drew));exact (Q_HO140 h0_)) (by decide)) hk (fun _ h => h.2)) (fun _ h => h.1)) (fun _ h_ => by first | trivial | exact h_ | exact h_.1))
     have z_HO145 := fun (h0_ : b 17 = true) => (show Kd.R (Kd.int .i64) 3 w44 w.heap.size (fun k_ => some k_ ≠ (.slice Ao30 y119.length co30 : Value).ownBlock) v144 y143 from by first | exact (Kd.R_mono (Kd.R_keep (IsS127.apart (show IsS127 w0 _ g s0_0 t135 from by repeat (first | (with_reducible first | exact HI0.out | apply IsS127.alloc | apply IsS127.drewN | apply IsS127.drew | apply IsS127.set_1 | refine IsS127.far ?_ NB0_101.out _ | refine IsS127.far ?_ NB0_109.out _) | exact HI0.out)) (by (with_reducible repeat (first | apply Kd.R_alloc | apply Kd.R_drewN | apply Kd.R_drew));exact (Q_HO145 h0_)) (by decide)) hk (fun _ h => h.2)) (fun _ h => h.1)) | exact Kd.R_mono (Kd.R_mono (Kd.R_keep (IsS127.apart (show IsS127 w0 _ g s0_0 t135 from by repeat (first | (with_reducible first | exact HI0.out | apply IsS127.alloc | apply IsS127.drewN | apply IsS127.drew | apply IsS127.set_1 | refine IsS127.far ?_ NB0_101.out _ | refine IsS127.far ?_ NB0_109.out _) | exact HI0.out)) (by (with_reducible repeat (first | apply Kd.R_alloc | apply Kd.R_drewN | apply Kd.R_drew));exact (Q_HO145 h0_)) (by decide)) hk (fun _ h => h.2)) (fun _ h => h.1)) (fun _ h_ => by first | trivial | exact h_ | exact h_.1))
     clear HO_110003
     clear BK101
     clear BK109
     clear HO121
     clear HO126
     clear HO133
     clear HK
     clear HB
     clear HI0
     have HO_110003 := n0_
     have BK101 := n1_
     have BK109 := n2_
     have HO121 := n3_
     have HO126 := n4_
     have HO133 := n5_
     have HK := n6_
     have HB := n7_
     have HI0 := n8_
     clear n0_ n1_ n2_ n3_ n4_ n5_ n6_ n7_ n8_
     (try clear hb)
     (try clear hb2)
     (try clear hk)
     (try clear hi)
     refine hK.out _ _ ⟨v125, v132, v139, v144, (by rw [ha.out];exact putSel_upk 6 hb_ rfl rfl rfl), (by exact HO121.out), (by exact HO_110003.out), fun _ => (by (with_reducible repeat (first | refine blk_drewN ?_ _ | refine blk_drew ?_ | refine blk_alloc ?_ _));exact BK101.out), (by (with_reducible repeat (first | refine blk_drewN ?_ _ | refine blk_drew ?_ | refine blk_alloc ?_ _));exact BK109.out), fun h0_ => absurd ((hon 3 (by kernel_rfl)).symm.trans h0_) (by decide), (by repeat (first | (with_reducible first | exact HK.out | apply KeepBut.set_ | apply keep_drewN | apply keep_drew | apply keep_alloc | refine keep_far ?_ GW101.out _ | refine keep_far ?_ GW109.out _) | exact HK.out)), (by repeat (first | (with_reducible first | exact HB.out | apply below_alloc | apply pw_below_drewN | apply below_drew1 | refine below_set ?_ (IsS127.ge HI0.out) | refine below_set ?_ GE101.out | refine below_set ?_ GE109.out) | exact HB.out)), fun _ => (by exact HO126.out), fun _ h1_ => absurd ((hon 5 (by kernel_rfl)).symm.trans h1_) (by decide), fun _ h1_ => absurd ((hon 10 (by kernel_rfl)).symm.trans h1_) (by decide), fun _ => (by exact HO133.out), fun _ h1_ => absurd ((up_self b 12).symm.trans h1_) (by decide), fun _ _ => (by repeat (first | (with_reducible first | exact HI0.out | apply IsS127.alloc | apply IsS127.drewN | apply IsS127.drew | apply IsS127.set_1 | refine IsS127.far ?_ NB0_101.out _ | refine IsS127.far ?_ NB0_109.out _) | exact HI0.out)), z_HO140, fun h0_ _ => absurd ((hoff 15 (by kernel_rfl)).symm.trans h0_) (by decide), z_HO145, fun h0_ => absurd ((hoff 18 (by kernel_rfl)).symm.trans h0_) (by decide), fun h0_ => absurd ((hoff 20 (by kernel_rfl)).symm.trans h0_) (by decide)⟩
    refine steps_cons ?_ ?_
    ·rintro b a w' ⟨v125, v132, v139, v144, ha, Q_HO121, Q_HO_110003, Q_BK101, Q_BK109, Q_HI0, Q_HK, Q_HB, Q_HO126, Q_HI0_e3, Q_HI0_e5, Q_HO133, Q_HI0_e10, Q_HI0_e12, Q_HO140, Q_HI0_e15, Q_HO145, Q_HI0_e18, Q_BK101_e20⟩ hb_ hon hoff
     refine ⟨_, rfl, fun K hK => ?_⟩
     replace ha := m0_ ha
     have HO121 := m0_ Q_HO121
     have HO_110003 := m0_ Q_HO_110003
     have BK101 := m0_ (Q_BK101 (hoff 20 (by kernel_rfl)))
     have BK109 := m0_ Q_BK109
     have HK := m0_ Q_HK
     have HB := m0_ Q_HB
     refine Kd.R_lit_step (Kd.int .i64) _ 3 ?hg (N := 31) ?hd (xs := ([1, 1, 2, 9, 0, (-1)] : List Int)) (inner := [.int .i64 1, .int .i64 1, .int .i64 2, .int .i64 9, .int .i64 0, .int .i64 (-1)]) (ok := fun _ => True) (okp := fun _ => True) ?hr ?hp (fun _ hk => hk) trivial (Below.refl _ _) (Nat.le_refl _) (by simp) ?_;(case hd => rfl);(case hg => rfl);(case hr => first | (go_simp;done) | (go_simp;rfl));(case hp => exact (Reps.one (show Kd.M (Kd.int .i64) _ _ _ 1 [.int .i64 1] from rfl) (Reps.one (show Kd.M (Kd.int .i64) _ _ _ 1 [.int .i64 1] from rfl) (Reps.one (show Kd.M (Kd.int .i64) _ _ _ 2 [.int .i64 2] from rfl) (Reps.one (show Kd.M (Kd.int .i64) _ _ _ 9 [.int .i64 9] from rfl) (Reps.one (show Kd.M (Kd.int .i64) _ _ _ 0 [.int .i64 0] from rfl) (Reps.one (show Kd.M (Kd.int .i64) _ _ _ (-1) [.int .i64 (-1)] from rfl) (Reps.none _ _))))))))
     intro v139 w34 ho35 hb hg_ hnew_
     clear hg_ hnew_
     (first | rw [← Ny138.out] at ho35 | (simp only [Int.reduceToNat] at ho35;rw [← Ny138.out] at ho35))
     have n0_ := m0_ (Kd.R_below (by exact HO_110003.out) hb)
     have n1_ := m0_ (Kd.R_elder' (by exact HO121.out) (Kd.R_base ho35) hb)
     have n2_ := m0_ (Kd.R_lower (Kd.R_new' ho35 (Kd.R_lt (by exact HO121.out))) (keep_size (w := w) (g := g) (row := none) (by repeat (first | (with_reducible first | exact HK.out | apply KeepBut.set_ | apply keep_drewN | apply keep_drew | apply keep_alloc | refine keep_far ?_ GW101.out _ | refine keep_far ?_ GW109.out _) | exact HK.out))))
     have n3_ := m0_ (blk_below (g := gb101) (o := .cells #[.string (⟨#[]⟩ : ByteArray), .int .i64 0, .int .i64 0, .int .i64 0, .int .i64 0, .int .i64 0, .slice none 0 0, .int .i64 0, .int .i64 0, .int .i64 0, .int .i64 0, .int .i64 0] 39 (0, 0)) (by (with_reducible repeat (first | refine blk_drewN ?_ _ | refine blk_drew ?_ | refine blk_alloc ?_ _));exact BK101.out) hb)
     have n4_ := m0_ (blk_below BK109.out hb)
     have n6_ := m0_ (KeepBut.trans (by repeat (first | (with_reducible first | exact HK.out | apply KeepBut.set_ | apply keep_drewN | apply keep_drew | apply keep_alloc | refine keep_far ?_ GW101.out _ | refine keep_far ?_ GW109.out _) | exact HK.out)) (KeepBut.of_below hb g none) (.inl rfl))
     have n7_ := m0_ (below_step (by exact HB.out) hb)
     have z_HI0 := fun (h0_ : b 3 = false) => (show IsS127 w0 w34 g s0_0 t123 from by first | exact (IsS127.below (by repeat (first | (with_reducible first | exact (Q_HI0 h0_) | apply IsS127.alloc | apply IsS127.drewN | apply IsS127.drew | apply IsS127.set_1 | refine IsS127.far ?_ NB0_101.out _ | refine IsS127.far ?_ NB0_109.out _) | exact (Q_HI0 h0_))) hb))
     have z_HO126 := fun (h0_ : b 2 = true) => (show Kd.R (Kd.int .i64) 3 w34 w.heap.size (fun k_ => some k_ ≠ (.slice Ao30 y119.length co30 : Value).ownBlock) v125 y124 from by first | exact (Kd.R_elder' (by (with_reducible repeat (first | apply Kd.R_alloc | apply Kd.R_drewN | apply Kd.R_drew));exact (Q_HO126 h0_)) (Kd.R_base ho35) hb) | exact Kd.R_mono (Kd.R_elder' (by (with_reducible repeat (first | apply Kd.R_alloc | apply Kd.R_drewN | apply Kd.R_drew));exact (Q_HO126 h0_)) (Kd.R_base ho35) hb) (fun _ h_ => by first | trivial | exact h_ | exact h_.1))
     have z_HI0_e3 := fun (h0_ : b 3 = true) (h1_ : b 5 = false) => (show IsS127 w0 w34 g s0_0 t128 from by first | exact (IsS127.below (by repeat (first | (with_reducible first | exact (Q_HI0_e3 h0_ h1_) | apply IsS127.alloc | apply IsS127.drewN | apply IsS127.drew | apply IsS127.set_1 | refine IsS127.far ?_ NB0_101.out _ | refine IsS127.far ?_ NB0_109.out _) | exact (Q_HI0_e3 h0_ h1_))) hb))
     have z_HI0_e5 := fun (h0_ : b 5 = true) (h1_ : b 10 = false) => (show IsS127 w0 w34 g s0_0 t130 from by first | exact (IsS127.below (by repeat (first | (with_reducible first | exact (Q_HI0_e5 h0_ h1_) | apply IsS127.alloc | apply IsS127.drewN | apply IsS127.drew | apply IsS127.set_1 | refine IsS127.far ?_ NB0_101.out _ | refine IsS127.far ?_ NB0_109.out _) | exact (Q_HI0_e5 h0_ h1_))) hb))
     have z_HO133 := fun (h0_ : b 9 = true) => (show Kd.R (Kd.int .i64) 3 w34 w.heap.size (fun k_ => some k_ ≠ (.slice Ao30 y119.length co30 : Value).ownBlock) v132 y131 from by first | exact (Kd.R_elder' (by (with_reducible repeat (first | apply Kd.R_alloc | apply Kd.R_drewN | apply Kd.R_drew));exact (Q_HO133 h0_)) (Kd.R_base ho35) hb) | exact Kd.R_mono (Kd.R_elder' (by (with_reducible repeat (first | apply Kd.R_alloc | apply Kd.R_drewN | apply Kd.R_drew));exact (Q_HO133 h0_)) (Kd.R_base ho35) hb) (fun _ h_ => by first | trivial | exact h_ | exact h_.1))
     have z_HI0_e10 := fun (h0_ : b 10 = true) (h1_ : b 12 = false) => (show IsS127 w0 w34 g s0_0 t135 from by first | exact (IsS127.below (by repeat (first | (with_reducible first | exact (Q_HI0_e10 h0_ h1_) | apply IsS127.alloc | apply IsS127.drewN | apply IsS127.drew | apply IsS127.set_1 | refine IsS127.far ?_ NB0_101.out _ | refine IsS127.far ?_ NB0_109.out _) | exact (Q_HI0_e10 h0_ h1_))) hb))
     have z_HI0_e12 := fun (h0_ : b 12 = true) (h1_ : b 15 = false) => (show IsS127 w0 w34 g s0_0 t137 from by first | exact (IsS127.below (by repeat (first | (with_reducible first | exact (Q_HI0_e12 h0_ h1_) | apply IsS127.alloc | apply IsS127.drewN | apply IsS127.drew | apply IsS127.set_1 | refine IsS127.far ?_ NB0_101.out _ | refine IsS127.far ?_ NB0_109.out _) | exact (Q_HI0_e12 h0_ h1_))) hb))
     have z_HO145 := fun (h0_ : b 17 = true) => (show Kd.R (Kd.int .i64) 3 w34 w.heap.size (fun k_ => some k_ ≠ (.slice Ao30 y119.length co30 : Value).ownBlock) v144 y143 from by first | exact (Kd.R_elder' (by (with_reducible repeat (first | apply Kd.R_alloc | apply Kd.R_drewN | apply Kd.R_drew));exact (Q_HO145 h0_)) (Kd.R_base ho35) hb) | exact Kd.R_mono (Kd.R_elder' (by (with_reducible repeat (first | apply Kd.R_alloc | apply Kd.R_drewN | apply Kd.R_drew));exact (Q_HO145 h0_)) (Kd.R_base ho35) hb) (fun _ h_ => by first | trivial | exact h_ | exact h_.1))
     clear HO_110003
     clear HO121
     clear BK101
     clear BK109
     clear HK
     clear HB
     have HO_110003 := n0_
     have HO121 := n1_
     have HO140 := n2_
     have BK101 := n3_
     have BK109 := n4_
     have HK := n6_
     have HB := n7_
     clear n0_ n1_ n2_ n3_ n4_ n6_ n7_
     clear hb ho35
     refine hK.out _ _ ⟨v125, v132, v139, v144, (by rw [ha.out];exact putSel_upk 7 hb_ rfl rfl rfl), (by (with_reducible repeat (first | apply Kd.R_alloc | apply Kd.R_drewN | apply Kd.R_drew));exact Kd.R_mono HO121.out (fun _ hk => by first | exact hk.2 | trivial)), (by exact HO_110003.out), fun _ => (by (with_reducible repeat (first | refine blk_drewN ?_ _ | refine blk_drew ?_ | refine blk_alloc ?_ _));exact BK101.out), (by (with_reducible repeat (first | refine blk_drewN ?_ _ | refine blk_drew ?_ | refine blk_alloc ?_ _));exact BK109.out), z_HI0, (by repeat (first | (with_reducible first | exact HK.out | apply KeepBut.set_ | apply keep_drewN | apply keep_drew | apply keep_alloc | refine keep_far ?_ GW101.out _ | refine keep_far ?_ GW109.out _) | exact HK.out)), (by exact HB.out), z_HO126, z_HI0_e3, z_HI0_e5, z_HO133, z_HI0_e10, z_HI0_e12, fun _ => (by (with_reducible repeat (first | apply Kd.R_alloc | apply Kd.R_drewN | apply Kd.R_drew));exact Kd.R_mono HO140.out (fun _ hk => by first | exact hk.2 | trivial)), fun h0_ _ => absurd ((hoff 15 (by kernel_rfl)).symm.trans h0_) (by decide), z_HO145, fun h0_ => absurd ((hoff 18 (by kernel_rfl)).symm.trans h0_) (by decide), fun h0_ => absurd ((hoff 20 (by kernel_rfl)).symm.trans h0_) (by decide)⟩
    refine steps_cons ?_ ?_
    ·rintro b a w' ⟨v125, v132, v139, v144, ha, Q_HO121, Q_HO_110003, Q_BK101, Q_BK109, Q_HI0, Q_HK, Q_HB, Q_HO126, Q_HI0_e3, Q_HI0_e5, Q_HO133, Q_HI0_e10, Q_HI0_e12, Q_HO140, Q_HI0_e15, Q_HO145, Q_HI0_e18, Q_BK101_e20⟩ hb_ hon hoff
     refine ⟨_, rfl, fun K hK => ?_⟩
     have e30 : a.tmps[30]? = some (.pointer (some ⟨g, 0, none⟩)) := by rw [ha];exact (putSel_off rfl).trans rfl
     have e31 : a.tmps[31]? = some (v139) := by rw [ha];exact putSel_on (e := (14, 31, v139)) 7 rfl rfl (hon 14 (by kernel_rfl)) rfl
     replace ha := m0_ ha
     have HO121 := m0_ Q_HO121
     have HO_110003 := m0_ Q_HO_110003
     have BK101 := m0_ (Q_BK101 (hoff 20 (by kernel_rfl)))
     have BK109 := m0_ Q_BK109
     have HK := m0_ Q_HK
     have HB := m0_ Q_HB
     have HO126 := m0_ (Q_HO126 (hon 2 (by kernel_rfl)))
     have HO133 := m0_ (Q_HO133 (hon 9 (by kernel_rfl)))
     have HI0 := m0_ (Q_HI0_e12 (hon 12 (by kernel_rfl)) hb_)
     have HO140 := m0_ (Q_HO140 (hon 14 (by kernel_rfl)))
     obtain ⟨Ao47, co47, eo47⟩ := Kd.R_slice HO140.out
     (first | subst eo47 | (injection eo47 with f1_ f2_ f3_;have f4_ := f1_.symm;have f5_ := f3_.symm;clear f1_ f2_ f3_;subst f4_;subst f5_))
     refine goes_ Try.func99 (by kernel_rfl) rfl #[.pointer (some ⟨g, 0, none⟩), .slice Ao47 y138.length co47] (by rfl) rfl rfl (by first | (simp only [List.map_toArray, List.map_cons, List.map_nil, Act.eval, Array.getD_eq_getD_getElem?, Option.getD_some, e30, e31];done) | (simp only [List.map_toArray, List.map_cons, List.map_nil, Act.eval, Array.getD_eq_getD_getElem?, Option.getD_some, e30, e31];rfl)) ?_
     with_reducible refine (spec_l14Rd_num.calls kj4 g s0_0 t137 _ _ y138 t141 t142 w0 _ ?side1 ?side2 ?side3 ?side4 ?side5 A26.out).mono ?_
     (case side1 => repeat (first | (with_reducible first | exact HI0.out | apply IsS127.alloc | apply IsS127.drewN | apply IsS127.drew | apply IsS127.set_1 | refine IsS127.far ?_ NB0_101.out _ | refine IsS127.far ?_ NB0_109.out _) | exact HI0.out))
     (case side2 => repeat (first | (with_reducible first | exact HB.out | apply below_alloc | apply pw_below_drewN | apply below_drew1 | refine below_set ?_ (IsS127.ge HI0.out) | refine below_set ?_ GE101.out | refine below_set ?_ GE109.out) | exact HB.out))
     (case side3 => repeat (first | exact (Kd.R_reads' HO140.out).2.2 | (with_reducible refine Kd.C_alloc ?_ _) | (with_reducible refine Kd.C_drewN ?_ _) | (with_reducible refine Kd.C_drew ?_)))
     (case side4 => exact (Kd.R_reads' HO140.out).2.1)
     (case side5 => exact far_slice (IsS127.own_ne HI0.out HO140.out (by decide)))
     rintro e w48 ⟨rfl, hi, hb, hk⟩
     refine ⟨_, rfl, ?_⟩
     have n0_ := m0_ (Kd.R_mono (Kd.R_keep (IsS127.apart (show IsS127 w0 _ g s0_0 t137 from by repeat (first | (with_reducible first | exact HI0.out | apply IsS127.alloc | apply IsS127.drewN | apply IsS127.drew | apply IsS127.set_1 | refine IsS127.far ?_ NB0_101.out _ | refine IsS127.far ?_ NB0_109.out _) | exact HI0.out)) (by exact HO_110003.out) (by decide)) hk (fun _ h => h.2)) (fun _ h => h.1))
     have n1_ := m0_ (KeepBut.blk hk (g' := gb101) (o := .cells #[.string (⟨#[]⟩ : ByteArray), .int .i64 0, .int .i64 0, .int .i64 0, .int .i64 0, .int .i64 0, .slice none 0 0, .int .i64 0, .int .i64 0, .int .i64 0, .int .i64 0, .int .i64 0] 39 (0, 0)) (by (with_reducible repeat (first | refine blk_drewN ?_ _ | refine blk_drew ?_ | refine blk_alloc ?_ _));exact BK101.out) NB101_0.out (by simp))
     have n2_ := m0_ (KeepBut.blk hk (g' := gb109) (o := .cells #[.int .i64 x110000_4, .int .i64 x110001_4, .int .i64 x110002_4, .slice Ao32 x110003_4.length co32] 37 (0, 0)) (by (with_reducible repeat (first | refine blk_drewN ?_ _ | refine blk_drew ?_ | refine blk_alloc ?_ _));exact BK109.out) NB109_0.out (by simp))
     have n3_ := m0_ (Kd.R_mono (Kd.R_keep (IsS127.apart (show IsS127 w0 _ g s0_0 t137 from by repeat (first | (with_reducible first | exact HI0.out | apply IsS127.alloc | apply IsS127.drewN | apply IsS127.drew | apply IsS127.set_1 | refine IsS127.far ?_ NB0_101.out _ | refine IsS127.far ?_ NB0_109.out _) | exact HI0.out)) (by exact HO121.out) (by decide)) hk (fun _ h => h.2)) (fun _ h => h.1))
     have n4_ := m0_ (Kd.R_mono (Kd.R_keep (IsS127.apart (show IsS127 w0 _ g s0_0 t137 from by repeat (first | (with_reducible first | exact HI0.out | apply IsS127.alloc | apply IsS127.drewN | apply IsS127.drew | apply IsS127.set_1 | refine IsS127.far ?_ NB0_101.out _ | refine IsS127.far ?_ NB0_109.out _) | exact HI0.out)) (by exact HO126.out) (by decide)) hk (fun _ h => h.2)) (fun _ h => h.1))
     have n5_ := m0_ (Kd.R_mono (Kd.R_keep (IsS127.apart (show IsS127 w0 _ g s0_0 t137 from by repeat (first | (with_reducible first | exact HI0.out | apply IsS127.alloc | apply IsS127.drewN | apply IsS127.drew | apply IsS127.set_1 | refine IsS127.far ?_ NB0_101.out _ | refine IsS127.far ?_ NB0_109.out _) | exact HI0.out)) (by exact HO133.out) (by decide)) hk (fun _ h => h.2)) (fun _ h => h.1))
     have n6_ := m0_ (Kd.R_mono (Kd.R_keep (IsS127.apart (show IsS127 w0 _ g s0_0 t137 from by repeat (first | (with_reducible first | exact HI0.out | apply IsS127.alloc | apply IsS127.drewN | apply IsS127.drew | apply IsS127.set_1 | refine IsS127.far ?_ NB0_101.out _ | refine IsS127.far ?_ NB0_109.out _) | exact HI0.out)) (by exact HO140.out) (by decide)) hk (fun _ h => h.2)) (fun _ h => h.1))
     have n7_ := m0_ (KeepBut.trans (by repeat (first | (with_reducible first | exact HK.out | apply KeepBut.set_ | apply keep_drewN | apply keep_drew | apply keep_alloc | refine keep_far ?_ GW101.out _ | refine keep_far ?_ GW109.out _) | exact HK.out)) hk (.inl rfl))
     have n8_ := m0_ (hb)
     have n9_ := m0_ (hi)
     have z_HO145 := fun (h0_ : b 17 = true) => (show Kd.R (Kd.int .i64) 3 w48 w.heap.size (fun k_ => some k_ ≠ (.slice Ao30 y119.length co30 : Value).ownBlock) v144 y143 from by first | exact (Kd.R_mono (Kd.R_keep (IsS127.apart (show IsS127 w0 _ g s0_0 t137 from by repeat (first | (with_reducible first | exact HI0.out | apply IsS127.alloc | apply IsS127.drewN | apply IsS127.drew | apply IsS127.set_1 | refine IsS127.far ?_ NB0_101.out _ | refine IsS127.far ?_ NB0_109.out _) | exact HI0.out)) (by (with_reducible repeat (first | apply Kd.R_alloc | apply Kd.R_drewN | apply Kd.R_drew));exact (Q_HO145 h0_)) (by decide)) hk (fun _ h => h.2)) (fun _ h => h.1)) | exact Kd.R_mono (Kd.R_mono (Kd.R_keep (IsS127.apart (show IsS127 w0 _ g s0_0 t137 from by repeat (first | (with_reducible first | exact HI0.out | apply IsS127.alloc | apply IsS127.drewN | apply IsS127.drew | apply IsS127.set_1 | refine IsS127.far ?_ NB0_101.out _ | refine IsS127.far ?_ NB0_109.out _) | exact HI0.out)) (by (with_reducible repeat (first | apply Kd.R_alloc | apply Kd.R_drewN | apply Kd.R_drew));exact (Q_HO145 h0_)) (by decide)) hk (fun _ h => h.2)) (fun _ h => h.1)) (fun _ h_ => by first | trivial | exact h_ | exact h_.1))
     clear HO_110003
     clear BK101
     clear BK109
     clear HO121
     clear HO126
     clear HO133
     clear HO140
     clear HK
     clear HB
     clear HI0
     have HO_110003 := n0_
     have BK101 := n1_
     have BK109 := n2_
     have HO121 := n3_
     have HO126 := n4_
     have HO133 := n5_
     have HO140 := n6_
     have HK := n7_
     have HB := n8_
     have HI0 := n9_
     clear n0_ n1_ n2_ n3_ n4_ n5_ n6_ n7_ n8_ n9_
     (try clear hb)
     (try clear hb2)
     (try clear hk)
     (try clear hi)
     refine hK.out _ _ ⟨v125, v132, .slice Ao47 y138.length co47, v144, (by rw [ha.out];exact putSel_upk 8 hb_ rfl rfl rfl), (by exact HO121.out), (by exact HO_110003.out), fun _ => (by (with_reducible repeat (first | refine blk_drewN ?_ _ | refine blk_drew ?_ | refine blk_alloc ?_ _));exact BK101.out), (by (with_reducible repeat (first | refine blk_drewN ?_ _ | refine blk_drew ?_ | refine blk_alloc ?_ _));exact BK109.out), fun h0_ => absurd ((hon 3 (by kernel_rfl)).symm.trans h0_) (by decide), (by repeat (first | (with_reducible first | exact HK.out | apply KeepBut.set_ | apply keep_drewN | apply keep_drew | apply keep_alloc | refine keep_far ?_ GW101.out _ | refine keep_far ?_ GW109.out _) | exact HK.out)), (by repeat (first | (with_reducible first | exact HB.out | apply below_alloc | apply pw_below_drewN | apply below_drew1 | refine below_set ?_ (IsS127.ge HI0.out) | refine below_set ?_ GE101.out | refine below_set ?_ GE109.out) | exact HB.out)), fun _ => (by exact HO126.out), fun _ h1_ => absurd ((hon 5 (by kernel_rfl)).symm.trans h1_) (by decide), fun _ h1_ => absurd ((hon 10 (by kernel_rfl)).symm.trans h1_) (by decide), fun _ => (by exact HO133.out), fun _ h1_ => absurd ((hon 12 (by kernel_rfl)).symm.trans h1_) (by decide), fun _ h1_ => absurd ((up_self b 15).symm.trans h1_) (by decide), fun _ => (by exact HO140.out), fun _ _ => (by repeat (first | (with_reducible first | exact HI0.out | apply IsS127.alloc | apply IsS127.drewN | apply IsS127.drew | apply IsS127.set_1 | refine IsS127.far ?_ NB0_101.out _ | refine IsS127.far ?_ NB0_109.out _) | exact HI0.out)), z_HO145, fun h0_ => absurd ((hoff 18 (by kernel_rfl)).symm.trans h0_) (by decide), fun h0_ => absurd ((hoff 20 (by kernel_rfl)).symm.trans h0_) (by decide)⟩
    refine steps_cons ?_ ?_
    ·rintro b a w' ⟨v125, v132, v139, v144, ha, Q_HO121, Q_HO_110003, Q_BK101, Q_BK109, Q_HI0, Q_HK, Q_HB, Q_HO126, Q_HI0_e3, Q_HI0_e5, Q_HO133, Q_HI0_e10, Q_HI0_e12, Q_HO140, Q_HI0_e15, Q_HO145, Q_HI0_e18, Q_BK101_e20⟩ hb_ hon hoff
     refine ⟨_, rfl, fun K hK => ?_⟩
     replace ha := m0_ ha
     have HO121 := m0_ Q_HO121
     have HO_110003 := m0_ Q_HO_110003
     have BK101 := m0_ (Q_BK101 (hoff 20 (by kernel_rfl)))
     have BK109 := m0_ Q_BK109
     have HK := m0_ Q_HK
     have HB := m0_ Q_HB
     refine Kd.R_lit_step (Kd.int .i64) _ 3 ?hg (N := 34) ?hd (xs := ([(-1), (-1), (-1), (-1), 3, 4, 2] : List Int)) (inner := [.int .i64 (-1), .int .i64 (-1), .int .i64 (-1), .int .i64 (-1), .int .i64 3, .int .i64 4, .int .i64 2]) (ok := fun _ => True) (okp := fun _ => True) ?hr ?hp (fun _ hk => hk) trivial (Below.refl _ _) (Nat.le_refl _) (by simp) ?_;(case hd => rfl);(case hg => rfl);(case hr => first | (go_simp;done) | (go_simp;rfl));(case hp => exact (Reps.one (show Kd.M (Kd.int .i64) _ _ _ (-1) [.int .i64 (-1)] from rfl) (Reps.one (show Kd.M (Kd.int .i64) _ _ _ (-1) [.int .i64 (-1)] from rfl) (Reps.one (show Kd.M (Kd.int .i64) _ _ _ (-1) [.int .i64 (-1)] from rfl) (Reps.one (show Kd.M (Kd.int .i64) _ _ _ (-1) [.int .i64 (-1)] from rfl) (Reps.one (show Kd.M (Kd.int .i64) _ _ _ 3 [.int .i64 3] from rfl) (Reps.one (show Kd.M (Kd.int .i64) _ _ _ 4 [.int .i64 4] from rfl) (Reps.one (show Kd.M (Kd.int .i64) _ _ _ 2 [.int .i64 2] from rfl) (Reps.none _ _)))))))))
     intro v144 w34 ho35 hb hg_ hnew_
     clear hg_ hnew_
     (first | rw [← Ny143.out] at ho35 | (simp only [Int.reduceToNat] at ho35;rw [← Ny143.out] at ho35))
     have n0_ := m0_ (Kd.R_below (by exact HO_110003.out) hb)
     have n1_ := m0_ (Kd.R_elder' (by exact HO121.out) (Kd.R_base ho35) hb)
     have n2_ := m0_ (Kd.R_lower (Kd.R_new' ho35 (Kd.R_lt (by exact HO121.out))) (keep_size (w := w) (g := g) (row := none) (by repeat (first | (with_reducible first | exact HK.out | apply KeepBut.set_ | apply keep_drewN | apply keep_drew | apply keep_alloc | refine keep_far ?_ GW101.out _ | refine keep_far ?_ GW109.out _) | exact HK.out))))
     have n3_ := m0_ (blk_below (g := gb101) (o := .cells #[.string (⟨#[]⟩ : ByteArray), .int .i64 0, .int .i64 0, .int .i64 0, .int .i64 0, .int .i64 0, .slice none 0 0, .int .i64 0, .int .i64 0, .int .i64 0, .int .i64 0, .int .i64 0] 39 (0, 0)) (by (with_reducible repeat (first | refine blk_drewN ?_ _ | refine blk_drew ?_ | refine blk_alloc ?_ _));exact BK101.out) hb)
     have n4_ := m0_ (blk_below BK109.out hb)
     have n6_ := m0_ (KeepBut.trans (by repeat (first | (with_reducible first | exact HK.out | apply KeepBut.set_ | apply keep_drewN | apply keep_drew | apply keep_alloc | refine keep_far ?_ GW101.out _ | refine keep_far ?_ GW109.out _) | exact HK.out)) (KeepBut.of_below hb g none) (.inl rfl))
     have n7_ := m0_ (below_step (by exact HB.out) hb)
     have z_HI0 := fun (h0_ : b 3 = false) => (show IsS127 w0 w34 g s0_0 t123 from by first | exact (IsS127.below (by repeat (first | (with_reducible first | exact (Q_HI0 h0_) | apply IsS127.alloc | apply IsS127.drewN | apply IsS127.drew | apply IsS127.set_1 | refine IsS127.far ?_ NB0_101.out _ | refine IsS127.far ?_ NB0_109.out _) | exact (Q_HI0 h0_))) hb))
     have z_HO126 := fun (h0_ : b 2 = true) => (show Kd.R (Kd.int .i64) 3 w34 w.heap.size (fun k_ => some k_ ≠ (.slice Ao30 y119.length co30 : Value).ownBlock) v125 y124 from by first | exact (Kd.R_elder' (by (with_reducible repeat (first | apply Kd.R_alloc | apply Kd.R_drewN | apply Kd.R_drew));exact (Q_HO126 h0_)) (Kd.R_base ho35) hb) | exact Kd.R_mono (Kd.R_elder' (by (with_reducible repeat (first | apply Kd.R_alloc | apply Kd.R_drewN | apply Kd.R_drew));exact (Q_HO126 h0_)) (Kd.R_base ho35) hb) (fun _ h_ => by first | trivial | exact h_ | exact h_.1))
     have z_HI0_e3 := fun (h0_ : b 3 = true) (h1_ : b 5 = false) => (show IsS127 w0 w34 g s0_0 t128 from by first | exact (IsS127.below (by repeat (first | (with_reducible first | exact (Q_HI0_e3 h0_ h1_) | apply IsS127.alloc | apply IsS127.drewN | apply IsS127.drew | apply IsS127.set_1 | refine IsS127.far ?_ NB0_101.out _ | refine IsS127.far ?_ NB0_109.out _) | exact (Q_HI0_e3 h0_ h1_))) hb))
     have z_HI0_e5 := fun (h0_ : b 5 = true) (h1_ : b 10 = false) => (show IsS127 w0 w34 g s0_0 t130 from by first | exact (IsS127.below (by repeat (first | (with_reducible first | exact (Q_HI0_e5 h0_ h1_) | apply IsS127.alloc | apply IsS127.drewN | apply IsS127.drew | apply IsS127.set_1 | refine IsS127.far ?_ NB0_101.out _ | refine IsS127.far ?_ NB0_109.out _) | exact (Q_HI0_e5 h0_ h1_))) hb))
     have z_HO133 := fun (h0_ : b 9 = true) => (show Kd.R (Kd.int .i64) 3 w34 w.heap.size (fun k_ => some k_ ≠ (.slice Ao30 y119.length co30 : Value).ownBlock) v132 y131 from by first | exact (Kd.R_elder' (by (with_reducible repeat (first | apply Kd.R_alloc | apply Kd.R_drewN | apply Kd.R_drew));exact (Q_HO133 h0_)) (Kd.R_base ho35) hb) | exact Kd.R_mono (Kd.R_elder' (by (with_reducible repeat (first | apply Kd.R_alloc | apply Kd.R_drewN | apply Kd.R_drew));exact (Q_HO133 h0_)) (Kd.R_base ho35) hb) (fun _ h_ => by first | trivial | exact h_ | exact h_.1))
     have z_HI0_e10 := fun (h0_ : b 10 = true) (h1_ : b 12 = false) => (show IsS127 w0 w34 g s0_0 t135 from by first | exact (IsS127.below (by repeat (first | (with_reducible first | exact (Q_HI0_e10 h0_ h1_) | apply IsS127.alloc | apply IsS127.drewN | apply IsS127.drew | apply IsS127.set_1 | refine IsS127.far ?_ NB0_101.out _ | refine IsS127.far ?_ NB0_109.out _) | exact (Q_HI0_e10 h0_ h1_))) hb))
     have z_HI0_e12 := fun (h0_ : b 12 = true) (h1_ : b 15 = false) => (show IsS127 w0 w34 g s0_0 t137 from by first | exact (IsS127.below (by repeat (first | (with_reducible first | exact (Q_HI0_e12 h0_ h1_) | apply IsS127.alloc | apply IsS127.drewN | apply IsS127.drew | apply IsS127.set_1 | refine IsS127.far ?_ NB0_101.out _ | refine IsS127.far ?_ NB0_109.out _) | exact (Q_HI0_e12 h0_ h1_))) hb))
     have z_HO140 := fun (h0_ : b 14 = true) => (show Kd.R (Kd.int .i64) 3 w34 w.heap.size (fun k_ => some k_ ≠ (.slice Ao30 y119.length co30 : Value).ownBlock) v139 y138 from by first | exact (Kd.R_elder' (by (with_reducible repeat (first | apply Kd.R_alloc | apply Kd.R_drewN | apply Kd.R_drew));exact (Q_HO140 h0_)) (Kd.R_base ho35) hb) | exact Kd.R_mono (Kd.R_elder' (by (with_reducible repeat (first | apply Kd.R_alloc | apply Kd.R_drewN | apply Kd.R_drew));exact (Q_HO140 h0_)) (Kd.R_base ho35) hb) (fun _ h_ => by first | trivial | exact h_ | exact h_.1))
     have z_HI0_e15 := fun (h0_ : b 15 = true) (h1_ : b 18 = false) => (show IsS127 w0 w34 g s0_0 t142 from by first | exact (IsS127.below (by repeat (first | (with_reducible first | exact (Q_HI0_e15 h0_ h1_) | apply IsS127.alloc | apply IsS127.drewN | apply IsS127.drew | apply IsS127.set_1 | refine IsS127.far ?_ NB0_101.out _ | refine IsS127.far ?_ NB0_109.out _) | exact (Q_HI0_e15 h0_ h1_))) hb))
     clear HO_110003
     clear HO121
     clear BK101
     clear BK109
     clear HK
     clear HB
     have HO_110003 := n0_
     have HO121 := n1_
     have HO145 := n2_
     have BK101 := n3_
     have BK109 := n4_
     have HK := n6_
     have HB := n7_
     clear n0_ n1_ n2_ n3_ n4_ n6_ n7_
     clear hb ho35
     refine hK.out _ _ ⟨v125, v132, v139, v144, (by rw [ha.out];exact putSel_upk 9 hb_ rfl rfl rfl), (by (with_reducible repeat (first | apply Kd.R_alloc | apply Kd.R_drewN | apply Kd.R_drew));exact Kd.R_mono HO121.out (fun _ hk => by first | exact hk.2 | trivial)), (by exact HO_110003.out), fun _ => (by (with_reducible repeat (first | refine blk_drewN ?_ _ | refine blk_drew ?_ | refine blk_alloc ?_ _));exact BK101.out), (by (with_reducible repeat (first | refine blk_drewN ?_ _ | refine blk_drew ?_ | refine blk_alloc ?_ _));exact BK109.out), z_HI0, (by repeat (first | (with_reducible first | exact HK.out | apply KeepBut.set_ | apply keep_drewN | apply keep_drew | apply keep_alloc | refine keep_far ?_ GW101.out _ | refine keep_far ?_ GW109.out _) | exact HK.out)), (by exact HB.out), z_HO126, z_HI0_e3, z_HI0_e5, z_HO133, z_HI0_e10, z_HI0_e12, z_HO140, z_HI0_e15, fun _ => (by (with_reducible repeat (first | apply Kd.R_alloc | apply Kd.R_drewN | apply Kd.R_drew));exact Kd.R_mono HO145.out (fun _ hk => by first | exact hk.2 | trivial)), fun h0_ => absurd ((hoff 18 (by kernel_rfl)).symm.trans h0_) (by decide), fun h0_ => absurd ((hoff 20 (by kernel_rfl)).symm.trans h0_) (by decide)⟩
    refine steps_cons ?_ ?_
    ·rintro b a w' ⟨v125, v132, v139, v144, ha, Q_HO121, Q_HO_110003, Q_BK101, Q_BK109, Q_HI0, Q_HK, Q_HB, Q_HO126, Q_HI0_e3, Q_HI0_e5, Q_HO133, Q_HI0_e10, Q_HI0_e12, Q_HO140, Q_HI0_e15, Q_HO145, Q_HI0_e18, Q_BK101_e20⟩ hb_ hon hoff
     refine ⟨_, rfl, fun K hK => ?_⟩
     have e33 : a.tmps[33]? = some (.pointer (some ⟨g, 0, none⟩)) := by rw [ha];exact (putSel_off rfl).trans rfl
     have e34 : a.tmps[34]? = some (v144) := by rw [ha];exact putSel_on (e := (17, 34, v144)) 9 rfl rfl (hon 17 (by kernel_rfl)) rfl
     replace ha := m0_ ha
     have HO121 := m0_ Q_HO121
     have HO_110003 := m0_ Q_HO_110003
     have BK101 := m0_ (Q_BK101 (hoff 20 (by kernel_rfl)))
     have BK109 := m0_ Q_BK109
     have HK := m0_ Q_HK
     have HB := m0_ Q_HB
     have HO126 := m0_ (Q_HO126 (hon 2 (by kernel_rfl)))
     have HO133 := m0_ (Q_HO133 (hon 9 (by kernel_rfl)))
     have HO140 := m0_ (Q_HO140 (hon 14 (by kernel_rfl)))
     have HI0 := m0_ (Q_HI0_e15 (hon 15 (by kernel_rfl)) hb_)
     have HO145 := m0_ (Q_HO145 (hon 17 (by kernel_rfl)))
     obtain ⟨Ao51, co51, eo51⟩ := Kd.R_slice HO145.out
     (first | subst eo51 | (injection eo51 with f1_ f2_ f3_;have f4_ := f1_.symm;have f5_ := f3_.symm;clear f1_ f2_ f3_;subst f4_;subst f5_))
     refine goes_ Try.func99 (by kernel_rfl) rfl #[.pointer (some ⟨g, 0, none⟩), .slice Ao51 y143.length co51] (by rfl) rfl rfl (by first | (simp only [List.map_toArray, List.map_cons, List.map_nil, Act.eval, Array.getD_eq_getD_getElem?, Option.getD_some, e33, e34];done) | (simp only [List.map_toArray, List.map_cons, List.map_nil, Act.eval, Array.getD_eq_getD_getElem?, Option.getD_some, e33, e34];rfl)) ?_
     with_reducible refine (spec_l14Rd_num.calls kj4 g s0_0 t142 _ _ y143 t146 t147 w0 _ ?side1 ?side2 ?side3 ?side4 ?side5 A27.out).mono ?_
     (case side1 => repeat (first | (with_reducible first | exact HI0.out | apply IsS127.alloc | apply IsS127.drewN | apply IsS127.drew | apply IsS127.set_1 | refine IsS127.far ?_ NB0_101.out _ | refine IsS127.far ?_ NB0_109.out _) | exact HI0.out))
     (case side2 => repeat (first | (with_reducible first | exact HB.out | apply below_alloc | apply pw_below_drewN | apply below_drew1 | refine below_set ?_ (IsS127.ge HI0.out) | refine below_set ?_ GE101.out | refine below_set ?_ GE109.out) | exact HB.out))
     (case side3 => repeat (first | exact (Kd.R_reads' HO145.out).2.2 | (with_reducible refine Kd.C_alloc ?_ _) | (with_reducible refine Kd.C_drewN ?_ _) | (with_reducible refine Kd.C_drew ?_)))
     (case side4 => exact (Kd.R_reads' HO145.out).2.1)
     (case side5 => exact far_slice (IsS127.own_ne HI0.out HO145.out (by decide)))
     rintro e w52 ⟨rfl, hi, hb, hk⟩
     refine ⟨_, rfl, ?_⟩
     replace HO_110003 := m0_ (Kd.R_mono (Kd.R_keep (IsS127.apart (show IsS127 w0 _ g s0_0 t142 from by repeat (first | (with_reducible first | exact HI0.out | apply IsS127.alloc | apply IsS127.drewN | apply IsS127.drew | apply IsS127.set_1 | refine IsS127.far ?_ NB0_101.out _ | refine IsS127.far ?_ NB0_109.out _) | exact HI0.out)) (by exact HO_110003.out) (by decide)) hk (fun _ h => h.2)) (fun _ h => h.1))
     replace BK101 := m0_ (KeepBut.blk hk (g' := gb101) (o := .cells #[.string (⟨#[]⟩ : ByteArray), .int .i64 0, .int .i64 0, .int .i64 0, .int .i64 0, .int .i64 0, .slice none 0 0, .int .i64 0, .int .i64 0, .int .i64 0, .int .i64 0, .int .i64 0] 39 (0, 0)) (by (with_reducible repeat (first | refine blk_drewN ?_ _ | refine blk_drew ?_ | refine blk_alloc ?_ _));exact BK101.out) NB101_0.out (by simp))
     replace BK109 := m0_ (KeepBut.blk hk (g' := gb109) (o := .cells #[.int .i64 x110000_4, .int .i64 x110001_4, .int .i64 x110002_4, .slice Ao32 x110003_4.length co32] 37 (0, 0)) (by (with_reducible repeat (first | refine blk_drewN ?_ _ | refine blk_drew ?_ | refine blk_alloc ?_ _));exact BK109.out) NB109_0.out (by simp))
     replace HO121 := m0_ (Kd.R_mono (Kd.R_keep (IsS127.apart (show IsS127 w0 _ g s0_0 t142 from by repeat (first | (with_reducible first | exact HI0.out | apply IsS127.alloc | apply IsS127.drewN | apply IsS127.drew | apply IsS127.set_1 | refine IsS127.far ?_ NB0_101.out _ | refine IsS127.far ?_ NB0_109.out _) | exact HI0.out)) (by exact HO121.out) (by decide)) hk (fun _ h => h.2)) (fun _ h => h.1))
     replace HO126 := m0_ (Kd.R_mono (Kd.R_keep (IsS127.apart (show IsS127 w0 _ g s0_0 t142 from by repeat (first | (with_reducible first | exact HI0.out | apply IsS127.alloc | apply IsS127.drewN | apply IsS127.drew | apply IsS127.set_1 | refine IsS127.far ?_ NB0_101.out _ | refine IsS127.far ?_ NB0_109.out _) | exact HI0.out)) (by exact HO126.out) (by decide)) hk (fun _ h => h.2)) (fun _ h => h.1))
     replace HO133 := m0_ (Kd.R_mono (Kd.R_keep (IsS127.apart (show IsS127 w0 _ g s0_0 t142 from by repeat (first | (with_reducible first | exact HI0.out | apply IsS127.alloc | apply IsS127.drewN | apply IsS127.drew | apply IsS127.set_1 | refine IsS127.far ?_ NB0_101.out _ | refine IsS127.far ?_ NB0_109.out _) | exact HI0.out)) (by exact HO133.out) (by decide)) hk (fun _ h => h.2)) (fun _ h => h.1))
     replace HO140 := m0_ (Kd.R_mono (Kd.R_keep (IsS127.apart (show IsS127 w0 _ g s0_0 t142 from by repeat (first | (with_reducible first | exact HI0.out | apply IsS127.alloc | apply IsS127.drewN | apply IsS127.drew | apply IsS127.set_1 | refine IsS127.far ?_ NB0_101.out _ | refine IsS127.far ?_ NB0_109.out _) | exact HI0.out)) (by exact HO140.out) (by decide)) hk (fun _ h => h.2)) (fun _ h => h.1))
     replace HO145 := m0_ (Kd.R_mono (Kd.R_keep (IsS127.apart (show IsS127 w0 _ g s0_0 t142 from by repeat (first | (with_reducible first | exact HI0.out | apply IsS127.alloc | apply IsS127.drewN | apply IsS127.drew | apply IsS127.set_1 | refine IsS127.far ?_ NB0_101.out _ | refine IsS127.far ?_ NB0_109.out _) | exact HI0.out)) (by exact HO145.out) (by decide)) hk (fun _ h => h.2)) (fun _ h => h.1))
     replace HK := m0_ (KeepBut.trans (by repeat (first | (with_reducible first | exact HK.out | apply KeepBut.set_ | apply keep_drewN | apply keep_drew | apply keep_alloc | refine keep_far ?_ GW101.out _ | refine keep_far ?_ GW109.out _) | exact HK.out)) hk (.inl rfl))
     replace HB := m0_ (hb)
     replace HI0 := m0_ (hi)
     (try clear hb)
     (try clear hb2)
     (try clear hk)
     (try clear hi)
     refine hK.out _ _ ⟨v125, v132, v139, .slice Ao51 y143.length co51, (by rw [ha.out];exact putSel_upk 10 hb_ rfl rfl rfl), (by exact HO121.out), (by exact HO_110003.out), fun _ => (by (with_reducible repeat (first | refine blk_drewN ?_ _ | refine blk_drew ?_ | refine blk_alloc ?_ _));exact BK101.out), (by (with_reducible repeat (first | refine blk_drewN ?_ _ | refine blk_drew ?_ | refine blk_alloc ?_ _));exact BK109.out), fun h0_ => absurd ((hon 3 (by kernel_rfl)).symm.trans h0_) (by decide), (by repeat (first | (with_reducible first | exact HK.out | apply KeepBut.set_ | apply keep_drewN | apply keep_drew | apply keep_alloc | refine keep_far ?_ GW101.out _ | refine keep_far ?_ GW109.out _) | exact HK.out)), (by repeat (first | (with_reducible first | exact HB.out | apply below_alloc | apply pw_below_drewN | apply below_drew1 | refine below_set ?_ (IsS127.ge HI0.out) | refine below_set ?_ GE101.out | refine below_set ?_ GE109.out) | exact HB.out)), fun _ => (by exact HO126.out), fun _ h1_ => absurd ((hon 5 (by kernel_rfl)).symm.trans h1_) (by decide), fun _ h1_ => absurd ((hon 10 (by kernel_rfl)).symm.trans h1_) (by decide), fun _ => (by exact HO133.out), fun _ h1_ => absurd ((hon 12 (by kernel_rfl)).symm.trans h1_) (by decide), fun _ h1_ => absurd ((hon 15 (by kernel_rfl)).symm.trans h1_) (by decide), fun _ => (by exact HO140.out), fun _ h1_ => absurd ((up_self b 18).symm.trans h1_) (by decide), fun _ => (by exact HO145.out), fun _ => (by repeat (first | (with_reducible first | exact HI0.out | apply IsS127.alloc | apply IsS127.drewN | apply IsS127.drew | apply IsS127.set_1 | refine IsS127.far ?_ NB0_101.out _ | refine IsS127.far ?_ NB0_109.out _) | exact HI0.out)), fun h0_ => absurd ((hoff 20 (by kernel_rfl)).symm.trans h0_) (by decide)⟩
    refine steps_cons ?_ ?_
    ·rintro b a w' ⟨v125, v132, v139, v144, ha, Q_HO121, Q_HO_110003, Q_BK101, Q_BK109, Q_HI0, Q_HK, Q_HB, Q_HO126, Q_HI0_e3, Q_HI0_e5, Q_HO133, Q_HI0_e10, Q_HI0_e12, Q_HO140, Q_HI0_e15, Q_HO145, Q_HI0_e18, Q_BK101_e20⟩ hb_ hon hoff
     refine ⟨_, rfl, fun K hK => ?_⟩
     have e17 : a.tmps[17]? = some (.string a1) := by rw [ha];exact (putSel_off rfl).trans rfl
     have e20 : a.tmps[20]? = some (.int .i64 t127) := by rw [ha];exact putSel_on (e := (3, 20, .int .i64 t127)) 1 rfl rfl (hon 3 (by kernel_rfl)) rfl
     have e22 : a.tmps[22]? = some (.int .i64 t129) := by rw [ha];exact putSel_on (e := (5, 22, .int .i64 t129)) 2 rfl rfl (hon 5 (by kernel_rfl)) rfl
     have e23 : a.tmps[23]? = some (.agg #[.int .i64 x110000_4, .int .i64 x110001_4, .int .i64 x110002_4, .slice Ao32 x110003_4.length co32]) := by rw [ha];exact putSel_on (e := (6, 23, .agg #[.int .i64 x110000_4, .int .i64 x110001_4, .int .i64 x110002_4, .slice Ao32 x110003_4.length co32])) 3 rfl rfl (hon 6 (by kernel_rfl)) rfl
     have e24 : a.tmps[24]? = some (.int .i64 t122) := by rw [ha];exact (putSel_off rfl).trans rfl
     have e27 : a.tmps[27]? = some (.int .i64 t134) := by rw [ha];exact putSel_on (e := (10, 27, .int .i64 t134)) 5 rfl rfl (hon 10 (by kernel_rfl)) rfl
     have e29 : a.tmps[29]? = some (.int .i64 t136) := by rw [ha];exact putSel_on (e := (12, 29, .int .i64 t136)) 6 rfl rfl (hon 12 (by kernel_rfl)) rfl
     have e32 : a.tmps[32]? = some (.int .i64 t141) := by rw [ha];exact putSel_on (e := (15, 32, .int .i64 t141)) 8 rfl rfl (hon 15 (by kernel_rfl)) rfl
     have e35 : a.tmps[35]? = some (.int .i64 t146) := by rw [ha];exact putSel_on (e := (18, 35, .int .i64 t146)) 10 rfl rfl (hon 18 (by kernel_rfl)) rfl
     replace ha := m0_ ha
     have HO121 := m0_ Q_HO121
     have HO_110003 := m0_ Q_HO_110003
     have BK101 := m0_ (Q_BK101 (hoff 20 (by kernel_rfl)))
     have BK109 := m0_ Q_BK109
     have HK := m0_ Q_HK
     have HB := m0_ Q_HB
     have HO126 := m0_ (Q_HO126 (hon 2 (by kernel_rfl)))
     have HO133 := m0_ (Q_HO133 (hon 9 (by kernel_rfl)))
     have HO140 := m0_ (Q_HO140 (hon 14 (by kernel_rfl)))
     have HO145 := m0_ (Q_HO145 (hon 17 (by kernel_rfl)))
     have HI0 := m0_ (Q_HI0_e18 (hon 18 (by kernel_rfl)))
     refine value_ (w1 := w') (v := .agg #[.string a1, .int .i64 t127, .int .i64 t129, .int .i64 x110000_4, .int .i64 x110001_4, .int .i64 x110002_4, .slice Ao32 x110003_4.length co32, .int .i64 t122, .int .i64 t134, .int .i64 t136, .int .i64 t141, .int .i64 t146]) (by rfl) rfl ?_ ?_
     ·go_simp
      (try simp only [i64_w])
      try rfl
     refine hK.out _ _ ⟨v125, v132, v139, v144, (by rw [ha.out];exact putSel_upk 11 hb_ rfl rfl rfl), Q_HO121, Q_HO_110003, Q_BK101, Q_BK109, fun h0_ => absurd ((hon 3 (by kernel_rfl)).symm.trans h0_) (by decide), Q_HK, Q_HB, Q_HO126, fun _ h1_ => absurd ((hon 5 (by kernel_rfl)).symm.trans h1_) (by decide), fun _ h1_ => absurd ((hon 10 (by kernel_rfl)).symm.trans h1_) (by decide), Q_HO133, fun _ h1_ => absurd ((hon 12 (by kernel_rfl)).symm.trans h1_) (by decide), fun _ h1_ => absurd ((hon 15 (by kernel_rfl)).symm.trans h1_) (by decide), Q_HO140, fun _ h1_ => absurd ((hon 18 (by kernel_rfl)).symm.trans h1_) (by decide), Q_HO145, Q_HI0_e18, fun h0_ => absurd ((hoff 20 (by kernel_rfl)).symm.trans h0_) (by decide)⟩
    refine steps_cons ?_ ?_
    ·rintro b a w' ⟨v125, v132, v139, v144, ha, Q_HO121, Q_HO_110003, Q_BK101, Q_BK109, Q_HI0, Q_HK, Q_HB, Q_HO126, Q_HI0_e3, Q_HI0_e5, Q_HO133, Q_HI0_e10, Q_HI0_e12, Q_HO140, Q_HI0_e15, Q_HO145, Q_HI0_e18, Q_BK101_e20⟩ hb_ hon hoff
     refine ⟨_, rfl, fun K hK => ?_⟩
     have e4 : a.tmps[4]? = some (.pointer (some ⟨gb101, 0, none⟩)) := by rw [ha];exact (putSel_off rfl).trans rfl
     have e36 : a.tmps[36]? = some (.agg #[.string a1, .int .i64 t127, .int .i64 t129, .int .i64 x110000_4, .int .i64 x110001_4, .int .i64 x110002_4, .slice Ao32 x110003_4.length co32, .int .i64 t122, .int .i64 t134, .int .i64 t136, .int .i64 t141, .int .i64 t146]) := by rw [ha];exact putSel_on (e := (19, 36, .agg #[.string a1, .int .i64 t127, .int .i64 t129, .int .i64 x110000_4, .int .i64 x110001_4, .int .i64 x110002_4, .slice Ao32 x110003_4.length co32, .int .i64 t122, .int .i64 t134, .int .i64 t136, .int .i64 t141, .int .i64 t146])) 11 rfl rfl (hon 19 (by kernel_rfl)) rfl
     replace ha := m0_ ha
     have HO121 := m0_ Q_HO121
     have HO_110003 := m0_ Q_HO_110003
     have BK101 := m0_ (Q_BK101 hb_)
     have BK109 := m0_ Q_BK109
     have HK := m0_ Q_HK
     have HB := m0_ Q_HB
     have HO126 := m0_ (Q_HO126 (hon 2 (by kernel_rfl)))
     have HO133 := m0_ (Q_HO133 (hon 9 (by kernel_rfl)))
     have HO140 := m0_ (Q_HO140 (hon 14 (by kernel_rfl)))
     have HO145 := m0_ (Q_HO145 (hon 17 (by kernel_rfl)))
     have HI0 := m0_ (Q_HI0_e18 (hon 18 (by kernel_rfl)))
     have hs53 : w'.cell? ⟨gb101, 0, none⟩ = some (.string (⟨#[]⟩ : ByteArray)) := (blk_cell BK101.out 0).trans rfl
     have hfs53 := blk_frozen BK101.out 0
     have hns53_1 := NB109_101.out
     have hms53_1 := NB101_109.out
     have hs54 : w'.cell? ⟨gb101, 1, none⟩ = some (.int .i64 0) := (blk_cell BK101.out 1).trans rfl
     have hfs54 := blk_frozen BK101.out 1
     have hns54_1 := NB109_101.out
     have hms54_1 := NB101_109.out
     have hs55 : w'.cell? ⟨gb101, 2, none⟩ = some (.int .i64 0) := (blk_cell BK101.out 2).trans rfl
     have hfs55 := blk_frozen BK101.out 2
     have hns55_1 := NB109_101.out
     have hms55_1 := NB101_109.out
     have hs56 : w'.cell? ⟨gb101, 3, none⟩ = some (.int .i64 0) := (blk_cell BK101.out 3).trans rfl
     have hfs56 := blk_frozen BK101.out 3
     have hns56_1 := NB109_101.out
     have hms56_1 := NB101_109.out
     have hs57 : w'.cell? ⟨gb101, 4, none⟩ = some (.int .i64 0) := (blk_cell BK101.out 4).trans rfl
     have hfs57 := blk_frozen BK101.out 4
     have hns57_1 := NB109_101.out
     have hms57_1 := NB101_109.out
     have hs58 : w'.cell? ⟨gb101, 5, none⟩ = some (.int .i64 0) := (blk_cell BK101.out 5).trans rfl
     have hfs58 := blk_frozen BK101.out 5
     have hns58_1 := NB109_101.out
     have hms58_1 := NB101_109.out
     have hs59 : w'.cell? ⟨gb101, 6, none⟩ = some (.slice none 0 0) := (blk_cell BK101.out 6).trans rfl
     have hfs59 := blk_frozen BK101.out 6
     have hns59_1 := NB109_101.out
     have hms59_1 := NB101_109.out
     have hs60 : w'.cell? ⟨gb101, 7, none⟩ = some (.int .i64 0) := (blk_cell BK101.out 7).trans rfl
     have hfs60 := blk_frozen BK101.out 7
     have hns60_1 := NB109_101.out
     have hms60_1 := NB101_109.out
     have hs61 : w'.cell? ⟨gb101, 8, none⟩ = some (.int .i64 0) := (blk_cell BK101.out 8).trans rfl
     have hfs61 := blk_frozen BK101.out 8
     have hns61_1 := NB109_101.out
     have hms61_1 := NB101_109.out
     have hs62 : w'.cell? ⟨gb101, 9, none⟩ = some (.int .i64 0) := (blk_cell BK101.out 9).trans rfl
     have hfs62 := blk_frozen BK101.out 9
     have hns62_1 := NB109_101.out
     have hms62_1 := NB101_109.out
     have hs63 : w'.cell? ⟨gb101, 10, none⟩ = some (.int .i64 0) := (blk_cell BK101.out 10).trans rfl
     have hfs63 := blk_frozen BK101.out 10
     have hns63_1 := NB109_101.out
     have hms63_1 := NB101_109.out
     have hs64 : w'.cell? ⟨gb101, 11, none⟩ = some (.int .i64 0) := (blk_cell BK101.out 11).trans rfl
     have hfs64 := blk_frozen BK101.out 11
     have hns64_1 := NB109_101.out
     have hms64_1 := NB101_109.out
     refine skip_ (w1 := ?_) (by rfl) rfl ?_ ?_
     rotate_left
     ·go_simp
      rfl
     refine hK.out _ _ ⟨v125, v132, v139, v144, (by rw [ha.out];exact putSel_none (v := undef) rfl), (by (with_reducible repeat (first | apply Kd.R_alloc | apply Kd.R_drewN | apply Kd.R_drew));exact Kd.R_mono (Kd.R_far (p := ⟨gb101, 11, none⟩) (Kd.R_far (p := ⟨gb101, 10, none⟩) (Kd.R_far (p := ⟨gb101, 9, none⟩) (Kd.R_far (p := ⟨gb101, 8, none⟩) (Kd.R_far (p := ⟨gb101, 7, none⟩) (Kd.R_far (p := ⟨gb101, 6, none⟩) (Kd.R_far (p := ⟨gb101, 5, none⟩) (Kd.R_far (p := ⟨gb101, 4, none⟩) (Kd.R_far (p := ⟨gb101, 3, none⟩) (Kd.R_far (p := ⟨gb101, 2, none⟩) (Kd.R_far (p := ⟨gb101, 1, none⟩) (Kd.R_far (p := ⟨gb101, 0, none⟩) (Kd.R_types HO121.out BK101.out (by decide)) (fun _ hk => hk.2) (.string a1)) (fun _ hk => hk.2) (.int .i64 t127)) (fun _ hk => hk.2) (.int .i64 t129)) (fun _ hk => hk.2) (.int .i64 x110000_4)) (fun _ hk => hk.2) (.int .i64 x110001_4)) (fun _ hk => hk.2) (.int .i64 x110002_4)) (fun _ hk => hk.2) (.slice Ao32 x110003_4.length co32)) (fun _ hk => hk.2) (.int .i64 t122)) (fun _ hk => hk.2) (.int .i64 t134)) (fun _ hk => hk.2) (.int .i64 t136)) (fun _ hk => hk.2) (.int .i64 t141)) (fun _ hk => hk.2) (.int .i64 t146)) (fun _ hk => by first | exact ⟨hk.1.1, ⟨hk.1.2.1, ⟨hk.1.2.2.1, hk.1.2.2.2⟩⟩⟩ | trivial | exact hk.1 | exact hk.2)), (by (with_reducible repeat (first | apply Kd.R_alloc | apply Kd.R_drewN | apply Kd.R_drew));exact Kd.R_mono (Kd.R_far (p := ⟨gb101, 11, none⟩) (Kd.R_far (p := ⟨gb101, 10, none⟩) (Kd.R_far (p := ⟨gb101, 9, none⟩) (Kd.R_far (p := ⟨gb101, 8, none⟩) (Kd.R_far (p := ⟨gb101, 7, none⟩) (Kd.R_far (p := ⟨gb101, 6, none⟩) (Kd.R_far (p := ⟨gb101, 5, none⟩) (Kd.R_far (p := ⟨gb101, 4, none⟩) (Kd.R_far (p := ⟨gb101, 3, none⟩) (Kd.R_far (p := ⟨gb101, 2, none⟩) (Kd.R_far (p := ⟨gb101, 1, none⟩) (Kd.R_far (p := ⟨gb101, 0, none⟩) (Kd.R_types HO_110003.out BK101.out (by decide)) (fun _ hk => hk.2) (.string a1)) (fun _ hk => hk.2) (.int .i64 t127)) (fun _ hk => hk.2) (.int .i64 t129)) (fun _ hk => hk.2) (.int .i64 x110000_4)) (fun _ hk => hk.2) (.int .i64 x110001_4)) (fun _ hk => hk.2) (.int .i64 x110002_4)) (fun _ hk => hk.2) (.slice Ao32 x110003_4.length co32)) (fun _ hk => hk.2) (.int .i64 t122)) (fun _ hk => hk.2) (.int .i64 t134)) (fun _ hk => hk.2) (.int .i64 t136)) (fun _ hk => hk.2) (.int .i64 t141)) (fun _ hk => hk.2) (.int .i64 t146)) (fun _ hk => hk.1)), fun h0_ => absurd ((up_self b 20).symm.trans h0_) (by decide), (by (with_reducible repeat (first | refine blk_drewN ?_ _ | refine blk_drew ?_ | refine blk_alloc ?_ _));refine blk_far ?_ NB109_101.out _;(with_reducible repeat (first | refine blk_drewN ?_ _ | refine blk_drew ?_ | refine blk_alloc ?_ _));refine blk_far ?_ NB109_101.out _;(with_reducible repeat (first | refine blk_drewN ?_ _ | refine blk_drew ?_ | refine blk_alloc ?_ _));refine blk_far ?_ NB109_101.out _;(with_reducible repeat (first | refine blk_drewN ?_ _ | refine blk_drew ?_ | refine blk_alloc ?_ _));refine blk_far ?_ NB109_101.out _;(with_reducible repeat (first | refine blk_drewN ?_ _ | refine blk_drew ?_ | refine blk_alloc ?_ _));refine blk_far ?_ NB109_101.out _;(with_reducible repeat (first | refine blk_drewN ?_ _ | refine blk_drew ?_ | refine blk_alloc ?_ _));refine blk_far ?_ NB109_101.out _;(with_reducible repeat (first | refine blk_drewN ?_ _ | refine blk_drew ?_ | refine blk_alloc ?_ _));refine blk_far ?_ NB109_101.out _;(with_reducible repeat (first | refine blk_drewN ?_ _ | refine blk_drew ?_ | refine blk_alloc ?_ _));refine blk_far ?_ NB109_101.out _;(with_reducible repeat (first | refine blk_drewN ?_ _ | refine blk_drew ?_ | refine blk_alloc ?_ _));refine blk_far ?_ NB109_101.out _;(with_reducible repeat (first | refine blk_drewN ?_ _ | refine blk_drew ?_ | refine blk_alloc ?_ _));refine blk_far ?_ NB109_101.out _;(with_reducible repeat (first | refine blk_drewN ?_ _ | refine blk_drew ?_ | refine blk_alloc ?_ _));refine blk_far ?_ NB109_101.out _;(with_reducible repeat (first | refine blk_drewN ?_ _ | refine blk_drew ?_ | refine blk_alloc ?_ _));refine blk_far ?_ NB109_101.out _;(with_reducible repeat (first | refine blk_drewN ?_ _ | refine blk_drew ?_ | refine blk_alloc ?_ _));exact BK109.out), fun h0_ => absurd ((hon 3 (by kernel_rfl)).symm.trans h0_) (by decide), (by repeat (first | (with_reducible first | exact HK.out | apply KeepBut.set_ | apply keep_drewN | apply keep_drew | apply keep_alloc | refine keep_far ?_ GW101.out _ | refine keep_far ?_ GW109.out _) | exact HK.out)), (by repeat (first | (with_reducible first | exact HB.out | apply below_alloc | apply pw_below_drewN | apply below_drew1 | refine below_set ?_ (IsS127.ge HI0.out) | refine below_set ?_ GE101.out | refine below_set ?_ GE109.out) | exact HB.out)), fun _ => (by (with_reducible repeat (first | apply Kd.R_alloc | apply Kd.R_drewN | apply Kd.R_drew));exact Kd.R_mono (Kd.R_far (p := ⟨gb101, 11, none⟩) (Kd.R_far (p := ⟨gb101, 10, none⟩) (Kd.R_far (p := ⟨gb101, 9, none⟩) (Kd.R_far (p := ⟨gb101, 8, none⟩) (Kd.R_far (p := ⟨gb101, 7, none⟩) (Kd.R_far (p := ⟨gb101, 6, none⟩) (Kd.R_far (p := ⟨gb101, 5, none⟩) (Kd.R_far (p := ⟨gb101, 4, none⟩) (Kd.R_far (p := ⟨gb101, 3, none⟩) (Kd.R_far (p := ⟨gb101, 2, none⟩) (Kd.R_far (p := ⟨gb101, 1, none⟩) (Kd.R_far (p := ⟨gb101, 0, none⟩) (Kd.R_types HO126.out BK101.out (by decide)) (fun _ hk => hk.2) (.string a1)) (fun _ hk => hk.2) (.int .i64 t127)) (fun _ hk => hk.2) (.int .i64 t129)) (fun _ hk => hk.2) (.int .i64 x110000_4)) (fun _ hk => hk.2) (.int .i64 x110001_4)) (fun _ hk => hk.2) (.int .i64 x110002_4)) (fun _ hk => hk.2) (.slice Ao32 x110003_4.length co32)) (fun _ hk => hk.2) (.int .i64 t122)) (fun _ hk => hk.2) (.int .i64 t134)) (fun _ hk => hk.2) (.int .i64 t136)) (fun _ hk => hk.2) (.int .i64 t141)) (fun _ hk => hk.2) (.int .i64 t146)) (fun _ hk => by first | exact ⟨hk.1.1, ⟨hk.1.2.1, ⟨hk.1.2.2.1, hk.1.2.2.2⟩⟩⟩ | trivial | exact hk.1 | exact hk.2)), fun _ h1_ => absurd ((hon 5 (by kernel_rfl)).symm.trans h1_) (by decide), fun _ h1_ => absurd ((hon 10 (by kernel_rfl)).symm.trans h1_) (by decide), fun _ => (by (with_reducible repeat (first | apply Kd.R_alloc | apply Kd.R_drewN | apply Kd.R_drew));exact Kd.R_mono (Kd.R_far (p := ⟨gb101, 11, none⟩) (Kd.R_far (p := ⟨gb101, 10, none⟩) (Kd.R_far (p := ⟨gb101, 9, none⟩) (Kd.R_far (p := ⟨gb101, 8, none⟩) (Kd.R_far (p := ⟨gb101, 7, none⟩) (Kd.R_far (p := ⟨gb101, 6, none⟩) (Kd.R_far (p := ⟨gb101, 5, none⟩) (Kd.R_far (p := ⟨gb101, 4, none⟩) (Kd.R_far (p := ⟨gb101, 3, none⟩) (Kd.R_far (p := ⟨gb101, 2, none⟩) (Kd.R_far (p := ⟨gb101, 1, none⟩) (Kd.R_far (p := ⟨gb101, 0, none⟩) (Kd.R_types HO133.out BK101.out (by decide)) (fun _ hk => hk.2) (.string a1)) (fun _ hk => hk.2) (.int .i64 t127)) (fun _ hk => hk.2) (.int .i64 t129)) (fun _ hk => hk.2) (.int .i64 x110000_4)) (fun _ hk => hk.2) (.int .i64 x110001_4)) (fun _ hk => hk.2) (.int .i64 x110002_4)) (fun _ hk => hk.2) (.slice Ao32 x110003_4.length co32)) (fun _ hk => hk.2) (.int .i64 t122)) (fun _ hk => hk.2) (.int .i64 t134)) (fun _ hk => hk.2) (.int .i64 t136)) (fun _ hk => hk.2) (.int .i64 t141)) (fun _ hk => hk.2) (.int .i64 t146)) (fun _ hk => by first | exact ⟨hk.1.1, ⟨hk.1.2.1, ⟨hk.1.2.2.1, hk.1.2.2.2⟩⟩⟩ | trivial | exact hk.1 | exact hk.2)), fun _ h1_ => absurd ((hon 12 (by kernel_rfl)).symm.trans h1_) (by decide), fun _ h1_ => absurd ((hon 15 (by kernel_rfl)).symm.trans h1_) (by decide), fun _ => (by (with_reducible repeat (first | apply Kd.R_alloc | apply Kd.R_drewN | apply Kd.R_drew));exact Kd.R_mono (Kd.R_far (p := ⟨gb101, 11, none⟩) (Kd.R_far (p := ⟨gb101, 10, none⟩) (Kd.R_far (p := ⟨gb101, 9, none⟩) (Kd.R_far (p := ⟨gb101, 8, none⟩) (Kd.R_far (p := ⟨gb101, 7, none⟩) (Kd.R_far (p := ⟨gb101, 6, none⟩) (Kd.R_far (p := ⟨gb101, 5, none⟩) (Kd.R_far (p := ⟨gb101, 4, none⟩) (Kd.R_far (p := ⟨gb101, 3, none⟩) (Kd.R_far (p := ⟨gb101, 2, none⟩) (Kd.R_far (p := ⟨gb101, 1, none⟩) (Kd.R_far (p := ⟨gb101, 0, none⟩) (Kd.R_types HO140.out BK101.out (by decide)) (fun _ hk => hk.2) (.string a1)) (fun _ hk => hk.2) (.int .i64 t127)) (fun _ hk => hk.2) (.int .i64 t129)) (fun _ hk => hk.2) (.int .i64 x110000_4)) (fun _ hk => hk.2) (.int .i64 x110001_4)) (fun _ hk => hk.2) (.int .i64 x110002_4)) (fun _ hk => hk.2) (.slice Ao32 x110003_4.length co32)) (fun _ hk => hk.2) (.int .i64 t122)) (fun _ hk => hk.2) (.int .i64 t134)) (fun _ hk => hk.2) (.int .i64 t136)) (fun _ hk => hk.2) (.int .i64 t141)) (fun _ hk => hk.2) (.int .i64 t146)) (fun _ hk => by first | exact ⟨hk.1.1, ⟨hk.1.2.1, ⟨hk.1.2.2.1, hk.1.2.2.2⟩⟩⟩ | trivial | exact hk.1 | exact hk.2)), fun _ h1_ => absurd ((hon 18 (by kernel_rfl)).symm.trans h1_) (by decide), fun _ => (by (with_reducible repeat (first | apply Kd.R_alloc | apply Kd.R_drewN | apply Kd.R_drew));exact Kd.R_mono (Kd.R_far (p := ⟨gb101, 11, none⟩) (Kd.R_far (p := ⟨gb101, 10, none⟩) (Kd.R_far (p := ⟨gb101, 9, none⟩) (Kd.R_far (p := ⟨gb101, 8, none⟩) (Kd.R_far (p := ⟨gb101, 7, none⟩) (Kd.R_far (p := ⟨gb101, 6, none⟩) (Kd.R_far (p := ⟨gb101, 5, none⟩) (Kd.R_far (p := ⟨gb101, 4, none⟩) (Kd.R_far (p := ⟨gb101, 3, none⟩) (Kd.R_far (p := ⟨gb101, 2, none⟩) (Kd.R_far (p := ⟨gb101, 1, none⟩) (Kd.R_far (p := ⟨gb101, 0, none⟩) (Kd.R_types HO145.out BK101.out (by decide)) (fun _ hk => hk.2) (.string a1)) (fun _ hk => hk.2) (.int .i64 t127)) (fun _ hk => hk.2) (.int .i64 t129)) (fun _ hk => hk.2) (.int .i64 x110000_4)) (fun _ hk => hk.2) (.int .i64 x110001_4)) (fun _ hk => hk.2) (.int .i64 x110002_4)) (fun _ hk => hk.2) (.slice Ao32 x110003_4.length co32)) (fun _ hk => hk.2) (.int .i64 t122)) (fun _ hk => hk.2) (.int .i64 t134)) (fun _ hk => hk.2) (.int .i64 t136)) (fun _ hk => hk.2) (.int .i64 t141)) (fun _ hk => hk.2) (.int .i64 t146)) (fun _ hk => by first | exact ⟨hk.1.1, ⟨hk.1.2.1, ⟨hk.1.2.2.1, hk.1.2.2.2⟩⟩⟩ | trivial | exact hk.1 | exact hk.2)), fun _ => (by repeat (first | (with_reducible first | exact HI0.out | apply IsS127.alloc | apply IsS127.drewN | apply IsS127.drew | apply IsS127.set_1 | refine IsS127.far ?_ NB0_101.out _ | refine IsS127.far ?_ NB0_109.out _) | exact HI0.out)), fun _ => (by (with_reducible repeat (first | refine blk_drewN ?_ _ | refine blk_drew ?_ | refine blk_alloc ?_ _));refine blk_put (cs := #[.string a1, .int .i64 t127, .int .i64 t129, .int .i64 x110000_4, .int .i64 x110001_4, .int .i64 x110002_4, .slice Ao32 x110003_4.length co32, .int .i64 t122, .int .i64 t134, .int .i64 t136, .int .i64 t141, .int .i64 0]) ?_ 11 _ rfl;(with_reducible repeat (first | refine blk_drewN ?_ _ | refine blk_drew ?_ | refine blk_alloc ?_ _));refine blk_put (cs := #[.string a1, .int .i64 t127, .int .i64 t129, .int .i64 x110000_4, .int .i64 x110001_4, .int .i64 x110002_4, .slice Ao32 x110003_4.length co32, .int .i64 t122, .int .i64 t134, .int .i64 t136, .int .i64 0, .int .i64 0]) ?_ 10 _ rfl;(with_reducible repeat (first | refine blk_drewN ?_ _ | refine blk_drew ?_ | refine blk_alloc ?_ _));refine blk_put (cs := #[.string a1, .int .i64 t127, .int .i64 t129, .int .i64 x110000_4, .int .i64 x110001_4, .int .i64 x110002_4, .slice Ao32 x110003_4.length co32, .int .i64 t122, .int .i64 t134, .int .i64 0, .int .i64 0, .int .i64 0]) ?_ 9 _ rfl;(with_reducible repeat (first | refine blk_drewN ?_ _ | refine blk_drew ?_ | refine blk_alloc ?_ _));refine blk_put (cs := #[.string a1, .int .i64 t127, .int .i64 t129, .int .i64 x110000_4, .int .i64 x110001_4, .int .i64 x110002_4, .slice Ao32 x110003_4.length co32, .int .i64 t122, .int .i64 0, .int .i64 0, .int .i64 0, .int .i64 0]) ?_ 8 _ rfl;(with_reducible repeat (first | refine blk_drewN ?_ _ | refine blk_drew ?_ | refine blk_alloc ?_ _));refine blk_put (cs := #[.string a1, .int .i64 t127, .int .i64 t129, .int .i64 x110000_4, .int .i64 x110001_4, .int .i64 x110002_4, .slice Ao32 x110003_4.length co32, .int .i64 0, .int .i64 0, .int .i64 0, .int .i64 0, .int .i64 0]) ?_ 7 _ rfl;(with_reducible repeat (first | refine blk_drewN ?_ _ | refine blk_drew ?_ | refine blk_alloc ?_ _));refine blk_put (cs := #[.string a1, .int .i64 t127, .int .i64 t129, .int .i64 x110000_4, .int .i64 x110001_4, .int .i64 x110002_4, .slice none 0 0, .int .i64 0, .int .i64 0, .int .i64 0, .int .i64 0, .int .i64 0]) ?_ 6 _ rfl;(with_reducible repeat (first | refine blk_drewN ?_ _ | refine blk_drew ?_ | refine blk_alloc ?_ _));refine blk_put (cs := #[.string a1, .int .i64 t127, .int .i64 t129, .int .i64 x110000_4, .int .i64 x110001_4, .int .i64 0, .slice none 0 0, .int .i64 0, .int .i64 0, .int .i64 0, .int .i64 0, .int .i64 0]) ?_ 5 _ rfl;(with_reducible repeat (first | refine blk_drewN ?_ _ | refine blk_drew ?_ | refine blk_alloc ?_ _));refine blk_put (cs := #[.string a1, .int .i64 t127, .int .i64 t129, .int .i64 x110000_4, .int .i64 0, .int .i64 0, .slice none 0 0, .int .i64 0, .int .i64 0, .int .i64 0, .int .i64 0, .int .i64 0]) ?_ 4 _ rfl;(with_reducible repeat (first | refine blk_drewN ?_ _ | refine blk_drew ?_ | refine blk_alloc ?_ _));refine blk_put (cs := #[.string a1, .int .i64 t127, .int .i64 t129, .int .i64 0, .int .i64 0, .int .i64 0, .slice none 0 0, .int .i64 0, .int .i64 0, .int .i64 0, .int .i64 0, .int .i64 0]) ?_ 3 _ rfl;(with_reducible repeat (first | refine blk_drewN ?_ _ | refine blk_drew ?_ | refine blk_alloc ?_ _));refine blk_put (cs := #[.string a1, .int .i64 t127, .int .i64 0, .int .i64 0, .int .i64 0, .int .i64 0, .slice none 0 0, .int .i64 0, .int .i64 0, .int .i64 0, .int .i64 0, .int .i64 0]) ?_ 2 _ rfl;(with_reducible repeat (first | refine blk_drewN ?_ _ | refine blk_drew ?_ | refine blk_alloc ?_ _));refine blk_put (cs := #[.string a1, .int .i64 0, .int .i64 0, .int .i64 0, .int .i64 0, .int .i64 0, .slice none 0 0, .int .i64 0, .int .i64 0, .int .i64 0, .int .i64 0, .int .i64 0]) ?_ 1 _ rfl;(with_reducible repeat (first | refine blk_drewN ?_ _ | refine blk_drew ?_ | refine blk_alloc ?_ _));refine blk_put (cs := #[.string (⟨#[]⟩ : ByteArray), .int .i64 0, .int .i64 0, .int .i64 0, .int .i64 0, .int .i64 0, .slice none 0 0, .int .i64 0, .int .i64 0, .int .i64 0, .int .i64 0, .int .i64 0]) ?_ 0 _ rfl;(with_reducible repeat (first | refine blk_drewN ?_ _ | refine blk_drew ?_ | refine blk_alloc ?_ _));exact BK101.out)⟩
    exact steps_nil
   rintro b a w64 hall ⟨v125, v132, v139, v144, ha, Q_HO121, Q_HO_110003, Q_BK101, Q_BK109, Q_HI0, Q_HK, Q_HB, Q_HO126, Q_HI0_e3, Q_HI0_e5, Q_HO133, Q_HI0_e10, Q_HI0_e12, Q_HO140, Q_HI0_e15, Q_HO145, Q_HI0_e18, Q_BK101_e20⟩
   clear BK101 BK109 HB HI0 HK HO121 HO_110003
   have hb2_ := hall 2 (by kernel_rfl)
   have hb3_ := hall 3 (by kernel_rfl)
   have hb5_ := hall 5 (by kernel_rfl)
   have hb6_ := hall 6 (by kernel_rfl)
   have hb9_ := hall 9 (by kernel_rfl)
   have hb10_ := hall 10 (by kernel_rfl)
   have hb12_ := hall 12 (by kernel_rfl)
   have hb14_ := hall 14 (by kernel_rfl)
   have hb15_ := hall 15 (by kernel_rfl)
   have hb17_ := hall 17 (by kernel_rfl)
   have hb18_ := hall 18 (by kernel_rfl)
   have hb19_ := hall 19 (by kernel_rfl)
   have hb20_ := hall 20 (by kernel_rfl)
   subst ha
   simp only [putSel, hb2_, hb3_, hb5_, hb6_, hb9_, hb10_, hb12_, hb14_, hb15_, hb17_, hb18_, hb19_, hb20_, if_true, Act.put, List.setIfInBounds_toArray, List.set_cons_zero, List.set_cons_succ]
   have HO121 := m0_ Q_HO121
   clear Q_HO121
   have HO_110003 := m0_ Q_HO_110003
   clear Q_HO_110003
   clear Q_BK101
   have BK109 := m0_ Q_BK109
   clear Q_BK109
   clear Q_HI0
   have HK := m0_ Q_HK
   clear Q_HK
   have HB := m0_ Q_HB
   clear Q_HB
   have HO126 := m0_ (Q_HO126 hb2_)
   clear Q_HO126
   clear Q_HI0_e3
   clear Q_HI0_e5
   have HO133 := m0_ (Q_HO133 hb9_)
   clear Q_HO133
   clear Q_HI0_e10
   clear Q_HI0_e12
   have HO140 := m0_ (Q_HO140 hb14_)
   clear Q_HO140
   clear Q_HI0_e15
   have HO145 := m0_ (Q_HO145 hb17_)
   clear Q_HO145
   have HI0 := m0_ (Q_HI0_e18 hb18_)
   clear Q_HI0_e18
   have BK101 := m0_ (Q_BK101_e20 hb20_)
   clear Q_BK101_e20
   clear hall hb2_ hb3_ hb5_ hb6_ hb9_ hb10_ hb12_ hb14_ hb15_ hb17_ hb18_ hb19_ hb20_
   try go_wp2
   refine bodyPost_ret (results_cell_row rfl _ _ gb101 39 #[.string a1, .int .i64 t127, .int .i64 t129, .int .i64 x110000_4, .int .i64 x110001_4, .int .i64 x110002_4, .slice Ao32 x110003_4.length co32, .int .i64 t122, .int .i64 t134, .int .i64 t136, .int .i64 t141, .int .i64 t146] (0, 0) _ rfl (by (with_reducible repeat (first | refine blk_drewN ?_ _ | refine blk_drew ?_ | refine blk_alloc ?_ _));exact BK101.out) Try.underlying39 rfl (by kernel_rfl)) rfl ?_
   exact ⟨_, by first | rfl | (simp [errW_none, errW_some] <;> rfl) | (simp [*, errW_none, errW_some] <;> rfl), by (with_reducible repeat (first | apply Kd.R_alloc | apply Kd.R_drewN | apply Kd.R_drew));exact Kd.R_mono HO_110003.out (fun _ hk => trivial), by repeat (first | (with_reducible first | exact HI0.out | apply IsS127.alloc | apply IsS127.drewN | apply IsS127.drew | apply IsS127.set_1 | refine IsS127.far ?_ NB0_101.out _ | refine IsS127.far ?_ NB0_109.out _) | exact HI0.out), by repeat (first | (with_reducible first | exact HB.out | apply below_alloc | apply pw_below_drewN | apply below_drew1 | refine below_set ?_ (IsS127.ge HI0.out) | refine below_set ?_ GE101.out | refine below_set ?_ GE109.out) | exact HB.out), by repeat (first | (with_reducible first | exact HK.out | apply KeepBut.set_ | apply keep_drewN | apply keep_drew | apply keep_alloc | refine keep_far ?_ GW101.out _ | refine keep_far ?_ GW109.out _) | exact HK.out)⟩

def spec_l8Rules.l0 : Nat → List (S39) → Int → List Int → Int → Option ((List (S39)) × Int)
 | 0, _, _, _, _ => none
 | k + 1, x3, x4, x1000, x1001 => if x4 > 0 then ((some (([(⟨#[111, 110, 101]⟩ : ByteArray), (⟨#[116, 119, 111]⟩ : ByteArray), (⟨#[116, 104, 114, 101, 101]⟩ : ByteArray), (⟨#[102, 111, 117, 114]⟩ : ByteArray)] : List ByteArray) : List ByteArray)).bind fun y106 => (if 0 ≤ (x3.length : Int) then (if (x3.length : Int) < (y106.length : Int) then ((spec_l8Rule.f k x1000 x1001 (rdOf ByteArray.empty y106 (x3.length : Int))).bind fun bt110 => (if x3.length < 1172812402961 then (spec_l8Rules.l0 k (x3 ++ [(⟨bt110.1, bt110.2.1, bt110.2.2.1, (⟨bt110.2.2.2.1, bt110.2.2.2.2.1, bt110.2.2.2.2.2.1, bt110.2.2.2.2.2.2.1⟩ : S37), bt110.2.2.2.2.2.2.2.1, bt110.2.2.2.2.2.2.2.2.1, bt110.2.2.2.2.2.2.2.2.2.1, bt110.2.2.2.2.2.2.2.2.2.2.1, bt110.2.2.2.2.2.2.2.2.2.2.2.1⟩ : S39)]) (wrap64 (x4 - 1)) x1000 bt110.2.2.2.2.2.2.2.2.2.2.2.2) else (none))) else (none)) else (none))) else (some (x3, x1001))
def spec_l8Rules.f (k : Nat) (s0_0 : List Int) (s0_1 : Int) : Option ((List (S39)) × Int) := (spec_l14Rd_pick.f k s0_0 s0_1 5).bind fun bt104 => (spec_l8Rules.l0 k (([] : List (S39))) bt104.1 s0_0 bt104.2)
set_option maxHeartbeats 8000000 in
set_option maxRecDepth 100000 in
theorem spec_l8Rules.calls (k : Nat) (g : Nat) (s0_0 : List Int) (s0_1 : Int) (r1 : List (S39)) (r2 : Int) (w0 w : World) (hI : IsS127 w0 w g s0_0 s0_1) (hB : Below w0.heap.size w0 w) (h : spec_l8Rules.f k s0_0 s0_1 = some (r1, r2)) :
  Calls Try.prog 96 #[.pointer (some ⟨g, 0, none⟩)] w fun e w' => ∃ v0_ : Value, e = .returned (v0_) ∧ Kd.R k39 39 w' w.heap.size (fun _ => True) v0_ r1 ∧ IsS127 w0 w' g s0_0 r2 ∧ Below w0.heap.size w0 w' ∧ KeepBut w w' g none := by
 have HI0 := m0_ hI
 have HK := m0_ (KeepBut.refl w g none)
 have HL := m0_ hB.size
 clear hI
 have HW0 := m0_ hB.size
 have HB := m0_ hB
 clear hB
 have H : ((spec_l14Rd_pick.f k s0_0 s0_1 5).bind fun bt104 => (spec_l8Rules.l0 k (([] : List (S39))) bt104.1 s0_0 bt104.2)) = some (r1, r2) := h
 clear h
 obtain ⟨y101, hy101⟩ : ∃ y_ : List (S39), y_ = (([] : List (S39))) := ⟨_, rfl⟩
 replace H : ((spec_l14Rd_pick.f k s0_0 s0_1 5).bind fun bt104 => (spec_l8Rules.l0 k y101 bt104.1 s0_0 bt104.2)) = some (r1, r2) := by first | (rw [hy101];with_reducible exact H) | (have H2_ := (Option.bind_some _ _).symm.trans H;rw [hy101];with_reducible exact H2_) | (have H2_ := (Option.bind_some _ _).symm.trans H;with_reducible exact H2_) | with_reducible exact H | (rw [hy101];exact H) | exact H
 have Ny101 := m0_ hy101
 clear hy101
 replace H := Option.bind_eq_some_iff.mp H
 obtain ⟨⟨t104, t105⟩, A20, H⟩ := H
 replace H : (spec_l8Rules.l0 k y101 t104 s0_0 t105) = some (r1, r2) := H
 have A2 := m0_ A20
 clear A20
 have H' := m0_ H
 clear H
 go_enter Try.func96, Try.ntmps96
 go_wp2_with (first | ((with_reducible refine gate_dst (N := 5) rfl ?_);refine Kd.R_lit k39 _ 39 ?hg (N := 5) ?hd (xs := ([] : List (S39))) (inner := []) (ok := fun _ => True) (okp := fun _ => True) ?hr ?hp (fun _ hk => hk) trivial (Below.refl _ _) (Nat.le_refl _) (by simp) ?_;(case hd => rfl);(case hg => rfl);(case hr => first | (go_simp;done) | (go_simp;rfl));(case hp => exact (Reps.none _ _));intro v102 w3 ho4 hb hg_ hnew_;clear hg_ hnew_;(first | rw [← Ny101.out] at ho4 | (simp only [Int.reduceToNat] at ho4;rw [← Ny101.out] at ho4));have HO103 := m0_ (Kd.R_lower ho4 (keep_size (w := w) (g := g) (row := none) (by repeat (first | (with_reducible first | exact HK.out | apply KeepBut.set_ | apply keep_drewN | apply keep_drew | apply keep_alloc) | exact HK.out))));replace HK := m0_ (KeepBut.trans (by repeat (first | (with_reducible first | exact HK.out | apply KeepBut.set_ | apply keep_drewN | apply keep_drew | apply keep_alloc) | exact HK.out)) (KeepBut.of_below hb g none) (.inl rfl));replace HB := m0_ (below_step (by repeat (first | (with_reducible first | exact HB.out | apply below_alloc | apply pw_below_drewN | apply below_drew1 | refine below_set ?_ (IsS127.ge HI0.out)) | exact HB.out)) hb);replace HI0 := m0_ (IsS127.below (by repeat (first | (with_reducible first | exact HI0.out | apply IsS127.alloc | apply IsS127.drewN | apply IsS127.drew | apply IsS127.set_1) | exact HI0.out)) hb);clear hb ho4) | ((with_reducible refine gate_callee (f := 97) rfl ?_);refine goesL_ (some 7) rfl rfl Try.func97 (by kernel_rfl) rfl #[.pointer (some ⟨g, 0, none⟩), .int .i64 5] rfl (by (try simp only [List.map_toArray, List.map_cons, List.map_nil]);first | done | rfl | (simp only [List.length_drop, List.length_take];rfl)) ?_;(with_reducible refine (spec_l14Rd_pick.calls k g s0_0 s0_1 5 t104 t105 w0 _ ?side1 ?side2 A2.out).mono ?_);(case side1 => repeat (first | (with_reducible first | exact HI0.out | apply IsS127.alloc | apply IsS127.drewN | apply IsS127.drew | apply IsS127.set_1) | exact HI0.out));(case side2 => repeat (first | (with_reducible first | exact HB.out | apply below_alloc | apply pw_below_drewN | apply below_drew1 | refine below_set ?_ (IsS127.ge HI0.out)) | exact HB.out));rintro e w5 ⟨rfl, hi, hb, hk⟩;refine ⟨_, rfl, ?_⟩;replace HO103 := m0_ (Kd.R_mono (Kd.R_keep (IsS127.apart (show IsS127 w0 _ g s0_0 s0_1 from by repeat (first | (with_reducible first | exact HI0.out | apply IsS127.alloc | apply IsS127.drewN | apply IsS127.drew | apply IsS127.set_1) | exact HI0.out)) (by exact HO103.out) (by decide)) hk (fun _ h => h.2)) (fun _ h => h.1));replace HK := m0_ (KeepBut.trans (by repeat (first | (with_reducible first | exact HK.out | apply KeepBut.set_ | apply keep_drewN | apply keep_drew | apply keep_alloc) | exact HK.out)) hk (.inl rfl));replace HB := m0_ (hb);replace HI0 := m0_ (hi);(try clear hb);(try clear hb2);(try clear hk);(try clear hi)))
 go_loopg [3, 4] k (fun kq v3 v4 w' => ∃ (x3_1 : List (S39)) (x4_1 : Int) (x1001_1 : Int), v4 = .int .i64 x4_1 ∧ Aside0 (spec_l8Rules.l0 kq x3_1 x4_1 s0_0 x1001_1 = some (r1, r2)) ∧ Aside0 (kq ≤ k) ∧ Aside0 (Kd.R k39 39 w' w.heap.size (fun _ => True) v3 x3_1) ∧ Aside0 (IsS127 w0 w' g s0_0 x1001_1) ∧ Aside0 (KeepBut w w' g none) ∧ Aside0 (Below w0.heap.size w0 w'))
 case atStart => exact ⟨(y101), (t104), (t105), (by first | rfl | (simp;done) | (simp [*];done)), H', ⟨Nat.le_refl _⟩, ⟨by (with_reducible repeat (first | apply Kd.R_alloc | apply Kd.R_drewN | apply Kd.R_drew));exact HO103.out⟩, ⟨by repeat (first | (with_reducible first | exact HI0.out | apply IsS127.alloc | apply IsS127.drewN | apply IsS127.drew | apply IsS127.set_1) | exact HI0.out)⟩, ⟨by repeat (first | (with_reducible first | exact HK.out | apply KeepBut.set_ | apply keep_drewN | apply keep_drew | apply keep_alloc) | exact HK.out)⟩, ⟨by repeat (first | (with_reducible first | exact HB.out | apply below_alloc | apply pw_below_drewN | apply below_drew1 | refine below_set ?_ (IsS127.ge HI0.out)) | exact HB.out)⟩⟩
 case round =>
  clear H'
  try clear p2
  obtain ⟨x3_1, x4_1, x1001_1, rfl, HA, HK1, HO_3, HI0, HK, HB⟩ := hrel
  cases gk with
  | zero => exact absurd HA.out (by simp [spec_l8Rules.l0])
  | succ k1 =>
   have H := HA.out
   clear HA
   simp only [spec_l8Rules.l0] at H
   by_cases c6 : x4_1 > 0
   rotate_left
   ·rw [if_neg c6] at H
    have c6b0 : decide (0 < x4_1) = false := decide_eq_false c6
    clear c6
    simp only [Option.some.injEq, Prod.mk.injEq] at H
    obtain ⟨rfl, rfl⟩ := H
    go_wp2
    go_ret
    exact ⟨_, by first | rfl | (simp [errW_none, errW_some] <;> rfl) | (simp [*, errW_none, errW_some] <;> rfl), by (with_reducible repeat (first | apply Kd.R_alloc | apply Kd.R_drewN | apply Kd.R_drew));exact HO_3.out, by repeat (first | (with_reducible first | exact HI0.out | apply IsS127.alloc | apply IsS127.drewN | apply IsS127.drew | apply IsS127.set_1) | exact HI0.out), by repeat (first | (with_reducible first | exact HB.out | apply below_alloc | apply pw_below_drewN | apply below_drew1 | refine below_set ?_ (IsS127.ge HI0.out)) | exact HB.out), by repeat (first | (with_reducible first | exact HK.out | apply KeepBut.set_ | apply keep_drewN | apply keep_drew | apply keep_alloc) | exact HK.out)⟩
   rw [if_pos c6] at H
   have c6b0 : decide (0 < x4_1) = true := decide_eq_true c6
   clear c6
   obtain ⟨y106, hy106⟩ : ∃ y_ : List ByteArray, y_ = (([(⟨#[111, 110, 101]⟩ : ByteArray), (⟨#[116, 119, 111]⟩ : ByteArray), (⟨#[116, 104, 114, 101, 101]⟩ : ByteArray), (⟨#[102, 111, 117, 114]⟩ : ByteArray)] : List ByteArray)) := ⟨_, rfl⟩
   replace H : (if 0 ≤ (x3_1.length : Int) then (if (x3_1.length : Int) < (y106.length : Int) then ((spec_l8Rule.f k1 s0_0 x1001_1 (rdOf ByteArray.empty y106 (x3_1.length : Int))).bind fun bt110 => (if x3_1.length < 1172812402961 then (spec_l8Rules.l0 k1 (x3_1 ++ [(⟨bt110.1, bt110.2.1, bt110.2.2.1, (⟨bt110.2.2.2.1, bt110.2.2.2.2.1, bt110.2.2.2.2.2.1, bt110.2.2.2.2.2.2.1⟩ : S37), bt110.2.2.2.2.2.2.2.1, bt110.2.2.2.2.2.2.2.2.1, bt110.2.2.2.2.2.2.2.2.2.1, bt110.2.2.2.2.2.2.2.2.2.2.1, bt110.2.2.2.2.2.2.2.2.2.2.2.1⟩ : S39)]) (wrap64 (x4_1 - 1)) s0_0 bt110.2.2.2.2.2.2.2.2.2.2.2.2) else (none))) else (none)) else (none)) = some (r1, r2) := by first | (rw [hy106];with_reducible exact H) | (have H2_ := (Option.bind_some _ _).symm.trans H;rw [hy106];with_reducible exact H2_) | (have H2_ := (Option.bind_some _ _).symm.trans H;with_reducible exact H2_) | with_reducible exact H | (rw [hy106];exact H) | exact H
   have Ny106 := m0_ hy106
   clear hy106
   by_cases c7 : 0 ≤ (x3_1.length : Int)
   rotate_left
   ·rw [if_neg c7] at H
    exact absurd H (by simp)
   rw [if_pos c7] at H
   have c7b0 : decide (0 ≤ (x3_1.length : Int)) = true := decide_eq_true c7
   have c7b1 : decide (0 ≤ x3_1.length) = true := decide_eq_true (by omega)
   clear c7
   by_cases c8 : (x3_1.length : Int) < (y106.length : Int)
   rotate_left
   ·rw [if_neg c8] at H
    exact absurd H (by simp)
   rw [if_pos c8] at H
   have c8b0 : decide ((x3_1.length : Int) < (y106.length : Int)) = true := decide_eq_true c8
   (try (have c8b1 : (x3_1.length < y106.length) := by omega))
   have c8b2 : decide (x3_1.length < y106.length) = true := decide_eq_true (Int.ofNat_lt.mp c8)
   clear c8
   replace H := Option.bind_eq_some_iff.mp H
   obtain ⟨⟨t110, t111, t112, t113, t114, t115, t116, t119, t120, t121, t122, t123, t124⟩, A90, H⟩ := H
   replace H : (if x3_1.length < 1172812402961 then (spec_l8Rules.l0 k1 (x3_1 ++ [(⟨t110, t111, t112, (⟨t113, t114, t115, t116⟩ : S37), t119, t120, t121, t122, t123⟩ : S39)]) (wrap64 (x4_1 - 1)) s0_0 t124) else (none)) = some (r1, r2) := H
   have A9 := m0_ A90
   clear A90
   by_cases c10 : x3_1.length < 1172812402961
   ·rw [if_pos c10] at H
    have LMc10 := m0_ c10
    clear c10
    obtain ⟨y125, hy125⟩ : ∃ y_ : List (S39), y_ = (x3_1 ++ [(⟨t110, t111, t112, (⟨t113, t114, t115, t116⟩ : S37), t119, t120, t121, t122, t123⟩ : S39)]) := ⟨_, rfl⟩
    replace H : (spec_l8Rules.l0 k1 y125 (wrap64 (x4_1 - 1)) s0_0 t124) = some (r1, r2) := by first | (rw [hy125];with_reducible exact H) | (have H2_ := (Option.bind_some _ _).symm.trans H;rw [hy125];with_reducible exact H2_) | (have H2_ := (Option.bind_some _ _).symm.trans H;with_reducible exact H2_) | with_reducible exact H | (rw [hy125];exact H) | exact H
    have Ny125 := m0_ hy125
    clear hy125
    have H' := m0_ H
    clear H
    go_wp2_with (first | ((with_reducible refine gate_dst (N := 14) rfl ?_);refine Kd.R_lit Kd.string _ 9 ?hg (N := 14) ?hd (xs := ([(⟨#[111, 110, 101]⟩ : ByteArray), (⟨#[116, 119, 111]⟩ : ByteArray), (⟨#[116, 104, 114, 101, 101]⟩ : ByteArray), (⟨#[102, 111, 117, 114]⟩ : ByteArray)] : List ByteArray)) (inner := [.string (⟨#[111, 110, 101]⟩ : ByteArray), .string (⟨#[116, 119, 111]⟩ : ByteArray), .string (⟨#[116, 104, 114, 101, 101]⟩ : ByteArray), .string (⟨#[102, 111, 117, 114]⟩ : ByteArray)]) (ok := fun _ => True) (okp := fun _ => True) ?hr ?hp (fun _ hk => hk) trivial (Below.refl _ _) (Nat.le_refl _) (by simp) ?_;(case hd => rfl);(case hg => rfl);(case hr => first | (go_simp;done) | (go_simp;rfl));(case hp => exact (Reps.one (show Kd.M Kd.string _ _ _ (⟨#[111, 110, 101]⟩ : ByteArray) [.string (⟨#[111, 110, 101]⟩ : ByteArray)] from rfl) (Reps.one (show Kd.M Kd.string _ _ _ (⟨#[116, 119, 111]⟩ : ByteArray) [.string (⟨#[116, 119, 111]⟩ : ByteArray)] from rfl) (Reps.one (show Kd.M Kd.string _ _ _ (⟨#[116, 104, 114, 101, 101]⟩ : ByteArray) [.string (⟨#[116, 104, 114, 101, 101]⟩ : ByteArray)] from rfl) (Reps.one (show Kd.M Kd.string _ _ _ (⟨#[102, 111, 117, 114]⟩ : ByteArray) [.string (⟨#[102, 111, 117, 114]⟩ : ByteArray)] from rfl) (Reps.none _ _))))));intro v107 w11 ho12 hb hg_ hnew_;clear hg_ hnew_;(first | rw [← Ny106.out] at ho12 | (simp only [Int.reduceToNat] at ho12;rw [← Ny106.out] at ho12));replace HO_3 := m0_ (Kd.R_below (by exact HO_3.out) hb);have HO108 := m0_ (Kd.R_lower ho12 (keep_size (w := w) (g := g) (row := none) (by repeat (first | (with_reducible first | exact HK.out | apply KeepBut.set_ | apply keep_drewN | apply keep_drew | apply keep_alloc) | exact HK.out))));replace HK := m0_ (KeepBut.trans (by repeat (first | (with_reducible first | exact HK.out | apply KeepBut.set_ | apply keep_drewN | apply keep_drew | apply keep_alloc) | exact HK.out)) (KeepBut.of_below hb g none) (.inl rfl));replace HB := m0_ (below_step (by repeat (first | (with_reducible first | exact HB.out | apply below_alloc | apply pw_below_drewN | apply below_drew1 | refine below_set ?_ (IsS127.ge HI0.out)) | exact HB.out)) hb);replace HI0 := m0_ (IsS127.below (by repeat (first | (with_reducible first | exact HI0.out | apply IsS127.alloc | apply IsS127.drewN | apply IsS127.drew | apply IsS127.set_1) | exact HI0.out)) hb);clear hb ho12;obtain ⟨Ao13, co13, eo13⟩ := Kd.R_slice HO_3.out;subst eo13;obtain ⟨Ao14, co14, eo14⟩ := Kd.R_slice HO108.out;subst eo14;have p109 : 0 ≤ ((x3_1.length : Int) : Int) := of_decide_eq_true (by first | (with_reducible assumption) | assumption);have q109 : (x3_1.length : Int) < (y106.length : Int) := of_decide_eq_true (by first | (with_reducible assumption) | assumption);obtain ⟨ad109, e109, hx109_0⟩ := Kd.at_string (Kd.R_reads' HO108.out).2.2 (x3_1.length : Int) p109 q109;cases e109;(try simp only [Go.IntWalk.toNatUp] at hx109_0);replace p109 := eq_true p109;replace q109 := eq_true q109) | ((with_reducible refine gate_callee (f := 133) rfl ?_);refine goesL_ (some 19) rfl rfl Try.func133 (by kernel_rfl) rfl #[.pointer (some ⟨g, 0, none⟩), .string (rdOf ByteArray.empty y106 (x3_1.length : Int))] rfl (by (try simp only [List.map_toArray, List.map_cons, List.map_nil]);first | done | rfl | (simp only [List.length_drop, List.length_take];rfl)) ?_;(with_reducible refine (spec_l8Rule.calls k1 g s0_0 x1001_1 (rdOf ByteArray.empty y106 (x3_1.length : Int)) t110 t111 t112 t113 t114 t115 t116 t119 t120 t121 t122 t123 t124 w0 _ ?side1 ?side2 A9.out).mono ?_);(case side1 => repeat (first | (with_reducible first | exact HI0.out | apply IsS127.alloc | apply IsS127.drewN | apply IsS127.drew | apply IsS127.set_1) | exact HI0.out));(case side2 => repeat (first | (with_reducible first | exact HB.out | apply below_alloc | apply pw_below_drewN | apply below_drew1 | refine below_set ?_ (IsS127.ge HI0.out)) | exact HB.out));rintro e w15 ⟨v117, rfl, ho0, hi, hb, hk⟩;refine ⟨_, rfl, ?_⟩;replace HO_3 := m0_ (Kd.R_mono (Kd.R_told (Kd.R_oldK (IsS127.apart (show IsS127 w0 _ g s0_0 x1001_1 from by repeat (first | (with_reducible first | exact HI0.out | apply IsS127.alloc | apply IsS127.drewN | apply IsS127.drew | apply IsS127.set_1) | exact HI0.out)) (by exact HO_3.out) (by decide)) hk) (Kd.R_base ho0)) (fun _ h_ => h_.1));replace HO108 := m0_ (Kd.R_mono (Kd.R_keep (IsS127.apart (show IsS127 w0 _ g s0_0 x1001_1 from by repeat (first | (with_reducible first | exact HI0.out | apply IsS127.alloc | apply IsS127.drewN | apply IsS127.drew | apply IsS127.set_1) | exact HI0.out)) (by exact HO108.out) (by decide)) hk (fun _ h => h.2)) (fun _ h => h.1));have HO118 := m0_ (Kd.R_lower ho0 (keep_size (w := w) (g := g) (row := none) (by repeat (first | (with_reducible first | exact HK.out | apply KeepBut.set_ | apply keep_drewN | apply keep_drew | apply keep_alloc) | exact HK.out))));replace HK := m0_ (KeepBut.trans (by repeat (first | (with_reducible first | exact HK.out | apply KeepBut.set_ | apply keep_drewN | apply keep_drew | apply keep_alloc) | exact HK.out)) hk (.inl rfl));replace HB := m0_ (hb);replace HI0 := m0_ (hi);(try clear hb);(try clear hb2);(try clear hk);(try clear hi);(try clear ho0);obtain ⟨Ao17, co17, eo17⟩ := Kd.R_slice HO118.out;subst eo17) | ((with_reducible refine gate_builtin (b := .append) (xs := #[.tmp 12, .tmp 20]) rfl ?_);at_builtin;refine Kd.R_append k39 w.heap.size rfl (.tmp 12) (.tmp 20) 25 39 (.agg #[(.string ⟨#[]⟩), (.int .i64 0), (.int .i64 0), (.int .i64 0), (.int .i64 0), (.int .i64 0), (.slice none 0 0), (.int .i64 0), (.int .i64 0), (.int .i64 0), (.int .i64 0), (.int .i64 0)]) 120 rfl Try.underlying25 info39 rfl (by decide) (by omega) (.slice Ao13 x3_1.length co13) x3_1 (⟨t110, t111, t112, (⟨t113, t114, t115, t116⟩ : S37), t119, t120, t121, t122, t123⟩ : S39) [.string t110, .int .i64 t111, .int .i64 t112, .int .i64 t113, .int .i64 t114, .int .i64 t115, .slice Ao17 t116.length co17, .int .i64 t119, .int .i64 t120, .int .i64 t121, .int .i64 t122, .int .i64 t123] (fun _ => True) (fun k_ => ((fun _ => True)) k_ ∧ some k_ ≠ (.slice Ao13 x3_1.length co13 : Value).ownBlock) rfl rfl ?aP (fun _ hk => hk) ?aF ?aO (Below.refl _ _) ?aS ?aL ?_;(case aP => exact k39_mkM _ _ _ (⟨t110, t111, t112, (⟨t113, t114, t115, t116⟩ : S37), t119, t120, t121, t122, t123⟩ : S39) (Kd.R_mono (Kd.R_apart' (HO118.out) (Kd.R_typed HO_3.out) (by decide)) (fun k_ hk => ⟨trivial, hk.2⟩)));(case aF => exact (fun _ _ => trivial));(case aO => exact (by (with_reducible repeat (first | apply Kd.R_alloc | apply Kd.R_drewN | apply Kd.R_drew));exact Kd.R_mono HO_3.out (fun _ hk => trivial)));(case aS => exact (keep_size (w := w) (g := g) (row := none) (by repeat (first | (with_reducible first | exact HK.out | apply KeepBut.set_ | apply keep_drewN | apply keep_drew | apply keep_alloc) | exact HK.out))));(case aL => have := LMc10.out;omega);intro v126 w16 ho hb hg hat;rw [← Ny125.out] at ho;have n0_ := m0_ (IsS127.grown (by repeat (first | (with_reducible first | exact HI0.out | apply IsS127.alloc | apply IsS127.drewN | apply IsS127.drew | apply IsS127.set_1) | exact HI0.out)) hg (IsS127.own_ne HI0.out HO_3.out (by decide)));have n1_ := m0_ (Kd.R_over' (by exact HO108.out) (Kd.R_typed (by exact HO_3.out)) (by decide) hg);have n2_ := m0_ (below_weaken (by repeat (first | (with_reducible first | exact HB.out | apply below_alloc | apply pw_below_drewN | apply below_drew1 | refine below_set ?_ (IsS127.ge HI0.out)) | exact HB.out)) HL.out hb);have n3_ := m0_ (KeepBut.trans (by repeat (first | (with_reducible first | exact HK.out | apply KeepBut.set_ | apply keep_drewN | apply keep_drew | apply keep_alloc) | exact HK.out)) (KeepBut.of_grown hg g) (Kd.R_base2 HO_3.out));have n4_ := m0_ (ho);clear HI0;clear HO108;clear HB;clear HK;clear HO_3;clear HO118;have HI0 := n0_;have HO108 := n1_;have HB := n2_;have HK := n3_;have HO127 := n4_;clear n0_ n1_ n2_ n3_ n4_;clear ho hb hg hat))
    go_roundg k1
    case measure => have := HK1.out;omega
    case rel => exact ⟨(y125), (wrap64 (x4_1 - 1)), (t124), (by first | rfl | (simp;done) | (simp [*];done)), H', ⟨by have := HK1.out;omega⟩, ⟨by (with_reducible repeat (first | apply Kd.R_alloc | apply Kd.R_drewN | apply Kd.R_drew));exact HO127.out⟩, ⟨by repeat (first | (with_reducible first | exact HI0.out | apply IsS127.alloc | apply IsS127.drewN | apply IsS127.drew | apply IsS127.set_1) | exact HI0.out)⟩, ⟨by repeat (first | (with_reducible first | exact HK.out | apply KeepBut.set_ | apply keep_drewN | apply keep_drew | apply keep_alloc) | exact HK.out)⟩, ⟨by repeat (first | (with_reducible first | exact HB.out | apply below_alloc | apply pw_below_drewN | apply below_drew1 | refine below_set ?_ (IsS127.ge HI0.out)) | exact HB.out)⟩⟩
   ·rw [if_neg c10] at H
    exact absurd H (by simp)

def spec_l14Rd_of.f (k : Nat) (s0_0 : List Int) (s0_1 : Int) (l1 : List ByteArray) : Option (ByteArray × Int) := (spec_l14Rd_pick.f k s0_0 s0_1 (l1.length : Int)).bind fun bt101 => (if 0 ≤ bt101.1 then (if bt101.1 < (l1.length : Int) then (some (rdOf ByteArray.empty l1 bt101.1, bt101.2)) else (none)) else (none))
set_option maxHeartbeats 8000000 in
set_option maxRecDepth 100000 in
theorem spec_l14Rd_of.calls (k : Nat) (g : Nat) (s0_0 : List Int) (s0_1 : Int) (A1 : Option Addr) (c1 : Nat) (l1 : List ByteArray) (r1 : ByteArray) (r2 : Int) (w0 w : World) (hI : IsS127 w0 w g s0_0 s0_1) (hB : Below w0.heap.size w0 w) (hr1 : Kd.C Kd.string w A1 l1.length l1) (hc1 : l1.length ≤ c1) (hf1 : ∀ ad, A1 = some ad → 0 < l1.length → ad.block ≠ g) (h : spec_l14Rd_of.f k s0_0 s0_1 l1 = some (r1, r2)) :
  Calls Try.prog 98 #[.pointer (some ⟨g, 0, none⟩), .slice A1 l1.length c1] w fun e w' => e = .returned (.string r1) ∧ IsS127 w0 w' g s0_0 r2 ∧ Below w0.heap.size w0 w' ∧ KeepBut w w' g none := by
 have HR1 := m0_ hr1
 have HC1 := m0_ hc1
 clear hr1 hc1
 have HI0 := m0_ hI
 have HK := m0_ (KeepBut.refl w g none)
 have HL := m0_ hB.size
 clear hI
 have HW0 := m0_ hB.size
 have HB := m0_ hB
 clear hB
 have H : ((spec_l14Rd_pick.f k s0_0 s0_1 (l1.length : Int)).bind fun bt101 => (if 0 ≤ bt101.1 then (if bt101.1 < (l1.length : Int) then (some (rdOf ByteArray.empty l1 bt101.1, bt101.2)) else (none)) else (none))) = some (r1, r2) := h
 clear h
 replace H := Option.bind_eq_some_iff.mp H
 obtain ⟨⟨t101, t102⟩, A30, H⟩ := H
 replace H : (if 0 ≤ t101 then (if t101 < (l1.length : Int) then (some (rdOf ByteArray.empty l1 t101, t102)) else (none)) else (none)) = some (r1, r2) := H
 have A3 := m0_ A30
 clear A30
 by_cases c4 : 0 ≤ t101
 rotate_left
 ·rw [if_neg c4] at H
  exact absurd H (by simp)
 rw [if_pos c4] at H
 have c4b0 : decide (0 ≤ t101) = true := decide_eq_true c4
 clear c4
 by_cases c5 : t101 < (l1.length : Int)
 ·rw [if_pos c5] at H
  have c5b0 : decide (t101 < (l1.length : Int)) = true := decide_eq_true c5
  clear c5
  simp only [Option.some.injEq, Prod.mk.injEq] at H
  obtain ⟨rfl, rfl⟩ := H
  go_enter Try.func98, Try.ntmps98
  go_wp2_with (first | ((with_reducible refine gate_callee (f := 97) rfl ?_);refine goesL_ (some 9) rfl rfl Try.func97 (by kernel_rfl) rfl #[.pointer (some ⟨g, 0, none⟩), .int .i64 (l1.length : Int)] rfl (by (try simp only [List.map_toArray, List.map_cons, List.map_nil]);first | done | rfl | (simp only [List.length_drop, List.length_take];rfl)) ?_;(with_reducible refine (spec_l14Rd_pick.calls k g s0_0 s0_1 (l1.length : Int) t101 t102 w0 _ ?side1 ?side2 A3.out).mono ?_);(case side1 => repeat (first | (with_reducible first | exact HI0.out | apply IsS127.alloc | apply IsS127.drewN | apply IsS127.drew | apply IsS127.set_1) | exact HI0.out));(case side2 => repeat (first | (with_reducible first | exact HB.out | apply below_alloc | apply pw_below_drewN | apply below_drew1 | refine below_set ?_ (IsS127.ge HI0.out)) | exact HB.out));rintro e w6 ⟨rfl, hi, hb, hk⟩;refine ⟨_, rfl, ?_⟩;replace HK := m0_ (KeepBut.trans (by repeat (first | (with_reducible first | exact HK.out | apply KeepBut.set_ | apply keep_drewN | apply keep_drew | apply keep_alloc) | exact HK.out)) hk (.inl rfl));replace HB := m0_ (hb);replace HI0 := m0_ (hi);(try clear hb);(try clear hb2);(try clear hk);(try clear hi);have p103 : 0 ≤ (t101 : Int) := of_decide_eq_true (by first | (with_reducible assumption) | assumption);have q103 : t101 < (l1.length : Int) := of_decide_eq_true (by first | (with_reducible assumption) | assumption);obtain ⟨ad103, e103, hx103_0⟩ := Kd.at_string HR1.out t101 p103 q103;cases e103;replace hx103_0 := keep_cell HK.out hx103_0 (by first | (rw [add_block];exact hf1 _ rfl (by omega)) | exact hf1 _ rfl (by omega) | exact hf1 ad103 rfl (by omega));replace p103 := eq_true p103;replace q103 := eq_true q103))
  go_ret
  exact ⟨by first | rfl | (simp [errW_none, errW_some] <;> rfl) | (simp [*, errW_none, errW_some] <;> rfl), by repeat (first | (with_reducible first | exact HI0.out | apply IsS127.alloc | apply IsS127.drewN | apply IsS127.drew | apply IsS127.set_1) | exact HI0.out), by repeat (first | (with_reducible first | exact HB.out | apply below_alloc | apply pw_below_drewN | apply below_drew1 | refine below_set ?_ (IsS127.ge HI0.out)) | exact HB.out), by repeat (first | (with_reducible first | exact HK.out | apply KeepBut.set_ | apply keep_drewN | apply keep_drew | apply keep_alloc) | exact HK.out)⟩
 ·rw [if_neg c5] at H
  exact absurd H (by simp)

end Go.Proofs.Ytdljhokealbnnaa.M
