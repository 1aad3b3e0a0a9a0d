/- What the claim's law leans on: the program's functions, what they compute, and the law over plain values; no condition is asked. (Part 5 of 6.) -/
import Derived.Test.YtdljhokealbnnaaCLawsFnRulesTurn4
import Derived.Sort.LotA
namespace Go.Proofs.Ytdljhokealbnnaa.M
open Go.RowKit Go.Proofs.YtdljhokealbnnaaW.PrintWords Go.Proofs.YtdljhokealbnnaaW.PrintLast Go.Proofs.YtdljhokealbnnaaW.PrintMore
attribute [local go_sem] max2_int min2_int max_two min_two max_three min_three max_four min_four
set_option linter.unusedVariables false
set_option linter.unusedSimpArgs false

def spec_l8Bent.f (k : Nat) (s0_0 : List Int) (s0_1 : Int) : Option ((List (S39)) × Int) := (spec_l8Rules.f k s0_0 s0_1).bind fun bt101 => (if (bt101.1.length : Int) = 0 then (some (bt101.1, bt101.2)) else ((spec_l14Rd_pick.f k s0_0 bt101.2 (bt101.1.length : Int)).bind fun bt105 => ((spec_l14Rd_pick.f k s0_0 bt105.2 60).bind fun bt107 => (if bt107.1 = 0 then ((spec_l14Rd_of.f k s0_0 bt107.2 (([(⟨#[]⟩ : ByteArray), (⟨#[65]⟩ : ByteArray), (⟨#[116, 111, 111, 108, 111, 110, 103]⟩ : ByteArray), (⟨#[111, 110, 101]⟩ : ByteArray)] : List ByteArray))).bind fun bt112 => (if 0 ≤ bt105.1 then (if bt105.1 < (bt101.1.length : Int) then (some ((bt101.1.set (bt105.1 : Int).toNat (⟨bt112.1, (rd_T39 bt101.1 bt105.1).f1, (rd_T39 bt101.1 bt105.1).f2, (⟨(rd_T39 bt101.1 bt105.1).f3.f0, (rd_T39 bt101.1 bt105.1).f3.f1, (rd_T39 bt101.1 bt105.1).f3.f2, (rd_T39 bt101.1 bt105.1).f3.f3⟩ : S37), (rd_T39 bt101.1 bt105.1).f4, (rd_T39 bt101.1 bt105.1).f5, (rd_T39 bt101.1 bt105.1).f6, (rd_T39 bt101.1 bt105.1).f7, (rd_T39 bt101.1 bt105.1).f8⟩ : S39)), bt112.2)) else (none)) else (none))) else (if bt107.1 = 1 then ((spec_l14Rd_num.f k s0_0 bt107.2 (([(-1), 10] : List Int))).bind fun bt118 => (if 0 ≤ bt105.1 then (if bt105.1 < (bt101.1.length : Int) then (some ((bt101.1.set (bt105.1 : Int).toNat (⟨(rd_T39 bt101.1 bt105.1).f0, bt118.1, (rd_T39 bt101.1 bt105.1).f2, (⟨(rd_T39 bt101.1 bt105.1).f3.f0, (rd_T39 bt101.1 bt105.1).f3.f1, (rd_T39 bt101.1 bt105.1).f3.f2, (rd_T39 bt101.1 bt105.1).f3.f3⟩ : S37), (rd_T39 bt101.1 bt105.1).f4, (rd_T39 bt101.1 bt105.1).f5, (rd_T39 bt101.1 bt105.1).f6, (rd_T39 bt101.1 bt105.1).f7, (rd_T39 bt101.1 bt105.1).f8⟩ : S39)), bt118.2)) else (none)) else (none))) else (if bt107.1 = 2 then ((spec_l14Rd_num.f k s0_0 bt107.2 (([(-1), 101] : List Int))).bind fun bt124 => (if 0 ≤ bt105.1 then (if bt105.1 < (bt101.1.length : Int) then (some ((bt101.1.set (bt105.1 : Int).toNat (⟨(rd_T39 bt101.1 bt105.1).f0, (rd_T39 bt101.1 bt105.1).f1, (rd_T39 bt101.1 bt105.1).f2, (⟨(rd_T39 bt101.1 bt105.1).f3.f0, (rd_T39 bt101.1 bt105.1).f3.f1, (rd_T39 bt101.1 bt105.1).f3.f2, (rd_T39 bt101.1 bt105.1).f3.f3⟩ : S37), bt124.1, (rd_T39 bt101.1 bt105.1).f5, (rd_T39 bt101.1 bt105.1).f6, (rd_T39 bt101.1 bt105.1).f7, (rd_T39 bt101.1 bt105.1).f8⟩ : S39)), bt124.2)) else (none)) else (none))) else (if bt107.1 = 3 then (if 0 ≤ bt105.1 then (if bt105.1 < (bt101.1.length : Int) then (some ((bt101.1.set (bt105.1 : Int).toNat (⟨(rd_T39 bt101.1 bt105.1).f0, (rd_T39 bt101.1 bt105.1).f1, (rd_T39 bt101.1 bt105.1).f2, (⟨(rd_T39 bt101.1 bt105.1).f3.f0, (rd_T39 bt101.1 bt105.1).f3.f1, (rd_T39 bt101.1 bt105.1).f3.f2, (rd_T39 bt101.1 bt105.1).f3.f3⟩ : S37), (rd_T39 bt101.1 bt105.1).f4, (rd_T39 bt101.1 bt105.1).f5, 4, (rd_T39 bt101.1 bt105.1).f7, (rd_T39 bt101.1 bt105.1).f8⟩ : S39)), bt107.2)) else (none)) else (none)) else (if bt107.1 = 4 then ((spec_l14Rd_num.f k s0_0 bt107.2 (([(-10), 10, (-9)] : List Int))).bind fun bt131 => (if 0 ≤ bt105.1 then (if bt105.1 < (bt101.1.length : Int) then (some ((bt101.1.set (bt105.1 : Int).toNat (⟨(rd_T39 bt101.1 bt105.1).f0, (rd_T39 bt101.1 bt105.1).f1, (rd_T39 bt101.1 bt105.1).f2, (⟨(rd_T39 bt101.1 bt105.1).f3.f0, (rd_T39 bt101.1 bt105.1).f3.f1, (rd_T39 bt101.1 bt105.1).f3.f2, (rd_T39 bt101.1 bt105.1).f3.f3⟩ : S37), (rd_T39 bt101.1 bt105.1).f4, (rd_T39 bt101.1 bt105.1).f5, (rd_T39 bt101.1 bt105.1).f6, bt131.1, (rd_T39 bt101.1 bt105.1).f8⟩ : S39)), bt131.2)) else (none)) else (none))) else (if bt107.1 = 5 then ((spec_l2Bent.f k s0_0 bt107.2).bind fun bt134 => (if 0 ≤ bt105.1 then (if bt105.1 < (bt101.1.length : Int) then (some ((bt101.1.set (bt105.1 : Int).toNat (⟨(rd_T39 bt101.1 bt105.1).f0, (rd_T39 bt101.1 bt105.1).f1, (rd_T39 bt101.1 bt105.1).f2, (⟨bt134.1, bt134.2.1, bt134.2.2.1, bt134.2.2.2.1⟩ : S37), (rd_T39 bt101.1 bt105.1).f4, (rd_T39 bt101.1 bt105.1).f5, (rd_T39 bt101.1 bt105.1).f6, (rd_T39 bt101.1 bt105.1).f7, (rd_T39 bt101.1 bt105.1).f8⟩ : S39)), bt134.2.2.2.2)) else (none)) else (none))) else (some (bt101.1, bt107.2)))))))))))
set_option maxHeartbeats 8000000 in
set_option maxRecDepth 100000 in
theorem spec_l8Bent.calls (k : Nat) (g : Nat) (s0_0 : List Int) (s0_1 : Int) (r1 : List (S39)) (r2 : Int) (w0 w : World) (hI : IsS127 w0 w g s0_0 s0_1) (hB : Below w0.heap.size w0 w) (h : spec_l8Bent.f k s0_0 s0_1 = some (r1, r2)) :
  Calls Try.prog 66 #[.pointer (some ⟨g, 0, none⟩)] w fun e w' => ∃ v0_ : Value, e = .returned (v0_) ∧ Kd.N k39 39 w' w.heap.size (fun k_ => (w.heap.size ≤ k_)) v0_ r1 ∧ IsS127 w0 w' g s0_0 r2 ∧ Below w0.heap.size w0 w' ∧ KeepBut w w' g none := by
 have hu37 := Try.underlying37
 have HI0 := m0_ hI
 have HK := m0_ (KeepBut.refl w g none)
 have HL := m0_ hB.size
 clear hI
 have HW0 := m0_ hB.size
 have HB := m0_ hB
 clear hB
 have H : ((spec_l8Rules.f k s0_0 s0_1).bind fun bt101 => (if (bt101.1.length : Int) = 0 then (some (bt101.1, bt101.2)) else ((spec_l14Rd_pick.f k s0_0 bt101.2 (bt101.1.length : Int)).bind fun bt105 => ((spec_l14Rd_pick.f k s0_0 bt105.2 60).bind fun bt107 => (if bt107.1 = 0 then ((spec_l14Rd_of.f k s0_0 bt107.2 (([(⟨#[]⟩ : ByteArray), (⟨#[65]⟩ : ByteArray), (⟨#[116, 111, 111, 108, 111, 110, 103]⟩ : ByteArray), (⟨#[111, 110, 101]⟩ : ByteArray)] : List ByteArray))).bind fun bt112 => (if 0 ≤ bt105.1 then (if bt105.1 < (bt101.1.length : Int) then (some ((bt101.1.set (bt105.1 : Int).toNat (⟨bt112.1, (rd_T39 bt101.1 bt105.1).f1, (rd_T39 bt101.1 bt105.1).f2, (⟨(rd_T39 bt101.1 bt105.1).f3.f0, (rd_T39 bt101.1 bt105.1).f3.f1, (rd_T39 bt101.1 bt105.1).f3.f2, (rd_T39 bt101.1 bt105.1).f3.f3⟩ : S37), (rd_T39 bt101.1 bt105.1).f4, (rd_T39 bt101.1 bt105.1).f5, (rd_T39 bt101.1 bt105.1).f6, (rd_T39 bt101.1 bt105.1).f7, (rd_T39 bt101.1 bt105.1).f8⟩ : S39)), bt112.2)) else (none)) else (none))) else (if bt107.1 = 1 then ((spec_l14Rd_num.f k s0_0 bt107.2 (([(-1), 10] : List Int))).bind fun bt118 => (if 0 ≤ bt105.1 then (if bt105.1 < (bt101.1.length : Int) then (some ((bt101.1.set (bt105.1 : Int).toNat (⟨(rd_T39 bt101.1 bt105.1).f0, bt118.1, (rd_T39 bt101.1 bt105.1).f2, (⟨(rd_T39 bt101.1 bt105.1).f3.f0, (rd_T39 bt101.1 bt105.1).f3.f1, (rd_T39 bt101.1 bt105.1).f3.f2, (rd_T39 bt101.1 bt105.1).f3.f3⟩ : S37), (rd_T39 bt101.1 bt105.1).f4, (rd_T39 bt101.1 bt105.1).f5, (rd_T39 bt101.1 bt105.1).f6, (rd_T39 bt101.1 bt105.1).f7, (rd_T39 bt101.1 bt105.1).f8⟩ : S39)), bt118.2)) else (none)) else (none))) else (if bt107.1 = 2 then ((spec_l14Rd_num.f k s0_0 bt107.2 (([(-1), 101] : List Int))).bind fun bt124 => (if 0 ≤ bt105.1 then (if bt105.1 < (bt101.1.length : Int) then (some ((bt101.1.set (bt105.1 : Int).toNat (⟨(rd_T39 bt101.1 bt105.1).f0, (rd_T39 bt101.1 bt105.1).f1, (rd_T39 bt101.1 bt105.1).f2, (⟨(rd_T39 bt101.1 bt105.1).f3.f0, (rd_T39 bt101.1 bt105.1).f3.f1, (rd_T39 bt101.1 bt105.1).f3.f2, (rd_T39 bt101.1 bt105.1).f3.f3⟩ : S37), bt124.1, (rd_T39 bt101.1 bt105.1).f5, (rd_T39 bt101.1 bt105.1).f6, (rd_T39 bt101.1 bt105.1).f7, (rd_T39 bt101.1 bt105.1).f8⟩ : S39)), bt124.2)) else (none)) else (none))) else (if bt107.1 = 3 then (if 0 ≤ bt105.1 then (if bt105.1 < (bt101.1.length : Int) then (some ((bt101.1.set (bt105.1 : Int).toNat (⟨(rd_T39 bt101.1 bt105.1).f0, (rd_T39 bt101.1 bt105.1).f1, (rd_T39 bt101.1 bt105.1).f2, (⟨(rd_T39 bt101.1 bt105.1).f3.f0, (rd_T39 bt101.1 bt105.1).f3.f1, (rd_T39 bt101.1 bt105.1).f3.f2, (rd_T39 bt101.1 bt105.1).f3.f3⟩ : S37), (rd_T39 bt101.1 bt105.1).f4, (rd_T39 bt101.1 bt105.1).f5, 4, (rd_T39 bt101.1 bt105.1).f7, (rd_T39 bt101.1 bt105.1).f8⟩ : S39)), bt107.2)) else (none)) else (none)) else (if bt107.1 = 4 then ((spec_l14Rd_num.f k s0_0 bt107.2 (([(-10), 10, (-9)] : List Int))).bind fun bt131 => (if 0 ≤ bt105.1 then (if bt105.1 < (bt101.1.length : Int) then (some ((bt101.1.set (bt105.1 : Int).toNat (⟨(rd_T39 bt101.1 bt105.1).f0, (rd_T39 bt101.1 bt105.1).f1, (rd_T39 bt101.1 bt105.1).f2, (⟨(rd_T39 bt101.1 bt105.1).f3.f0, (rd_T39 bt101.1 bt105.1).f3.f1, (rd_T39 bt101.1 bt105.1).f3.f2, (rd_T39 bt101.1 bt105.1).f3.f3⟩ : S37), (rd_T39 bt101.1 bt105.1).f4, (rd_T39 bt101.1 bt105.1).f5, (rd_T39 bt101.1 bt105.1).f6, bt131.1, (rd_T39 bt101.1 bt105.1).f8⟩ : S39)), bt131.2)) else (none)) else (none))) else (if bt107.1 = 5 then ((spec_l2Bent.f k s0_0 bt107.2).bind fun bt134 => (if 0 ≤ bt105.1 then (if bt105.1 < (bt101.1.length : Int) then (some ((bt101.1.set (bt105.1 : Int).toNat (⟨(rd_T39 bt101.1 bt105.1).f0, (rd_T39 bt101.1 bt105.1).f1, (rd_T39 bt101.1 bt105.1).f2, (⟨bt134.1, bt134.2.1, bt134.2.2.1, bt134.2.2.2.1⟩ : S37), (rd_T39 bt101.1 bt105.1).f4, (rd_T39 bt101.1 bt105.1).f5, (rd_T39 bt101.1 bt105.1).f6, (rd_T39 bt101.1 bt105.1).f7, (rd_T39 bt101.1 bt105.1).f8⟩ : S39)), bt134.2.2.2.2)) else (none)) else (none))) else (some (bt101.1, bt107.2)))))))))))) = some (r1, r2) := h
 clear h
 replace H := Option.bind_eq_some_iff.mp H
 obtain ⟨⟨t101, t104⟩, A20, H⟩ := H
 replace H : (if (t101.length : Int) = 0 then (some (t101, t104)) else ((spec_l14Rd_pick.f k s0_0 t104 (t101.length : Int)).bind fun bt105 => ((spec_l14Rd_pick.f k s0_0 bt105.2 60).bind fun bt107 => (if bt107.1 = 0 then ((spec_l14Rd_of.f k s0_0 bt107.2 (([(⟨#[]⟩ : ByteArray), (⟨#[65]⟩ : ByteArray), (⟨#[116, 111, 111, 108, 111, 110, 103]⟩ : ByteArray), (⟨#[111, 110, 101]⟩ : ByteArray)] : List ByteArray))).bind fun bt112 => (if 0 ≤ bt105.1 then (if bt105.1 < (t101.length : Int) then (some ((t101.set (bt105.1 : Int).toNat (⟨bt112.1, (rd_T39 t101 bt105.1).f1, (rd_T39 t101 bt105.1).f2, (⟨(rd_T39 t101 bt105.1).f3.f0, (rd_T39 t101 bt105.1).f3.f1, (rd_T39 t101 bt105.1).f3.f2, (rd_T39 t101 bt105.1).f3.f3⟩ : S37), (rd_T39 t101 bt105.1).f4, (rd_T39 t101 bt105.1).f5, (rd_T39 t101 bt105.1).f6, (rd_T39 t101 bt105.1).f7, (rd_T39 t101 bt105.1).f8⟩ : S39)), bt112.2)) else (none)) else (none))) else (if bt107.1 = 1 then ((spec_l14Rd_num.f k s0_0 bt107.2 (([(-1), 10] : List Int))).bind fun bt118 => (if 0 ≤ bt105.1 then (if bt105.1 < (t101.length : Int) then (some ((t101.set (bt105.1 : Int).toNat (⟨(rd_T39 t101 bt105.1).f0, bt118.1, (rd_T39 t101 bt105.1).f2, (⟨(rd_T39 t101 bt105.1).f3.f0, (rd_T39 t101 bt105.1).f3.f1, (rd_T39 t101 bt105.1).f3.f2, (rd_T39 t101 bt105.1).f3.f3⟩ : S37), (rd_T39 t101 bt105.1).f4, (rd_T39 t101 bt105.1).f5, (rd_T39 t101 bt105.1).f6, (rd_T39 t101 bt105.1).f7, (rd_T39 t101 bt105.1).f8⟩ : S39)), bt118.2)) else (none)) else (none))) else (if bt107.1 = 2 then ((spec_l14Rd_num.f k s0_0 bt107.2 (([(-1), 101] : List Int))).bind fun bt124 => (if 0 ≤ bt105.1 then (if bt105.1 < (t101.length : Int) then (some ((t101.set (bt105.1 : Int).toNat (⟨(rd_T39 t101 bt105.1).f0, (rd_T39 t101 bt105.1).f1, (rd_T39 t101 bt105.1).f2, (⟨(rd_T39 t101 bt105.1).f3.f0, (rd_T39 t101 bt105.1).f3.f1, (rd_T39 t101 bt105.1).f3.f2, (rd_T39 t101 bt105.1).f3.f3⟩ : S37), bt124.1, (rd_T39 t101 bt105.1).f5, (rd_T39 t101 bt105.1).f6, (rd_T39 t101 bt105.1).f7, (rd_T39 t101 bt105.1).f8⟩ : S39)), bt124.2)) else (none)) else (none))) else (if bt107.1 = 3 then (if 0 ≤ bt105.1 then (if bt105.1 < (t101.length : Int) then (some ((t101.set (bt105.1 : Int).toNat (⟨(rd_T39 t101 bt105.1).f0, (rd_T39 t101 bt105.1).f1, (rd_T39 t101 bt105.1).f2, (⟨(rd_T39 t101 bt105.1).f3.f0, (rd_T39 t101 bt105.1).f3.f1, (rd_T39 t101 bt105.1).f3.f2, (rd_T39 t101 bt105.1).f3.f3⟩ : S37), (rd_T39 t101 bt105.1).f4, (rd_T39 t101 bt105.1).f5, 4, (rd_T39 t101 bt105.1).f7, (rd_T39 t101 bt105.1).f8⟩ : S39)), bt107.2)) else (none)) else (none)) else (if bt107.1 = 4 then ((spec_l14Rd_num.f k s0_0 bt107.2 (([(-10), 10, (-9)] : List Int))).bind fun bt131 => (if 0 ≤ bt105.1 then (if bt105.1 < (t101.length : Int) then (some ((t101.set (bt105.1 : Int).toNat (⟨(rd_T39 t101 bt105.1).f0, (rd_T39 t101 bt105.1).f1, (rd_T39 t101 bt105.1).f2, (⟨(rd_T39 t101 bt105.1).f3.f0, (rd_T39 t101 bt105.1).f3.f1, (rd_T39 t101 bt105.1).f3.f2, (rd_T39 t101 bt105.1).f3.f3⟩ : S37), (rd_T39 t101 bt105.1).f4, (rd_T39 t101 bt105.1).f5, (rd_T39 t101 bt105.1).f6, bt131.1, (rd_T39 t101 bt105.1).f8⟩ : S39)), bt131.2)) else (none)) else (none))) else (if bt107.1 = 5 then ((spec_l2Bent.f k s0_0 bt107.2).bind fun bt134 => (if 0 ≤ bt105.1 then (if bt105.1 < (t101.length : Int) then (some ((t101.set (bt105.1 : Int).toNat (⟨(rd_T39 t101 bt105.1).f0, (rd_T39 t101 bt105.1).f1, (rd_T39 t101 bt105.1).f2, (⟨bt134.1, bt134.2.1, bt134.2.2.1, bt134.2.2.2.1⟩ : S37), (rd_T39 t101 bt105.1).f4, (rd_T39 t101 bt105.1).f5, (rd_T39 t101 bt105.1).f6, (rd_T39 t101 bt105.1).f7, (rd_T39 t101 bt105.1).f8⟩ : S39)), bt134.2.2.2.2)) else (none)) else (none))) else (some (t101, bt107.2))))))))))) = some (r1, r2) := H
 have A2 := m0_ A20
 clear A20
 by_cases c3 : (t101.length : Int) = 0
 ·rw [if_pos c3] at H
  have c3b0 : ((t101.length : Int) == 0) = true := beq_iff_eq.mpr c3
  have c3b1 : ((t101.length : Int) != 0) = false := bne_eq_false_iff_eq.mpr c3
  clear c3
  simp only [Option.some.injEq, Prod.mk.injEq] at H
  obtain ⟨rfl, rfl⟩ := H
  go_enter Try.func66, Try.ntmps66
  go_wp2_with (first | ((with_reducible refine gate_callee (f := 96) rfl ?_);refine goesL_ (some 6) rfl rfl Try.func96 (by kernel_rfl) rfl #[.pointer (some ⟨g, 0, none⟩)] rfl (by (try simp only [List.map_toArray, List.map_cons, List.map_nil]);first | done | rfl | (simp only [List.length_drop, List.length_take];rfl)) ?_;(with_reducible refine (spec_l8Rules.calls k g s0_0 s0_1 t101 t104 w0 _ ?side1 ?side2 A2.out).mono ?_);(case side1 => repeat (first | (with_reducible first | exact HI0.out | apply IsS127.alloc | apply IsS127.drewN | apply IsS127.drew | apply IsS127.set_1) | exact HI0.out));(case side2 => repeat (first | (with_reducible first | exact HB.out | apply below_alloc | apply pw_below_drewN | apply below_drew1 | refine below_set ?_ (IsS127.ge HI0.out)) | exact HB.out));rintro e w4 ⟨v102, rfl, ho0, hi, hb, hk⟩;refine ⟨_, rfl, ?_⟩;have HO103 := m0_ (Kd.N_lower (Kd.N_mono (ok' := fun k_ => (w.heap.size ≤ k_) ∧ k_ ≠ g) (Kd.R_N (Kd.R_bound ho0)) (fun k_ hk_ => ⟨(Nat.le_trans (keep_size (w := w) (g := g) (row := none) (by repeat (first | (with_reducible first | exact HK.out | apply KeepBut.set_ | apply keep_drewN | apply keep_drew | apply keep_alloc) | exact HK.out))) hk_.2.1), (IsS127.fresh (by repeat (first | (with_reducible first | exact HI0.out | apply IsS127.alloc | apply IsS127.drewN | apply IsS127.drew | apply IsS127.set_1) | exact HI0.out)) k_ hk_.2.1)⟩)) (keep_size (w := w) (g := g) (row := none) (by repeat (first | (with_reducible first | exact HK.out | apply KeepBut.set_ | apply keep_drewN | apply keep_drew | apply keep_alloc) | exact HK.out))));replace HK := m0_ (KeepBut.trans (by repeat (first | (with_reducible first | exact HK.out | apply KeepBut.set_ | apply keep_drewN | apply keep_drew | apply keep_alloc) | exact HK.out)) hk (.inl rfl));replace HB := m0_ (hb);replace HI0 := m0_ (hi);(try clear hb);(try clear hb2);(try clear hk);(try clear hi);(try clear ho0);obtain ⟨Ao5, co5, eo5⟩ := Kd.N_slice HO103.out;subst eo5))
  go_ret
  exact ⟨_, by first | rfl | (simp [errW_none, errW_some] <;> rfl) | (simp [*, errW_none, errW_some] <;> rfl), by (with_reducible repeat (first | apply Kd.N_alloc | apply Kd.N_drewN | apply Kd.N_drew));exact Kd.N_mono HO103.out (fun _ hk => hk.1), by repeat (first | (with_reducible first | exact HI0.out | apply IsS127.alloc | apply IsS127.drewN | apply IsS127.drew | apply IsS127.set_1) | exact HI0.out), by repeat (first | (with_reducible first | exact HB.out | apply below_alloc | apply pw_below_drewN | apply below_drew1 | refine below_set ?_ (IsS127.ge HI0.out)) | exact HB.out), by repeat (first | (with_reducible first | exact HK.out | apply KeepBut.set_ | apply keep_drewN | apply keep_drew | apply keep_alloc) | exact HK.out)⟩
 rw [if_neg c3] at H
 have c3b0 : ((t101.length : Int) == 0) = false := beq_eq_false_iff_ne.mpr c3
 have c3b1 : ((t101.length : Int) != 0) = true := bne_iff_ne.mpr c3
 have c3b2 : ¬ (t101 = []) := fun h_ => c3 (by rw [h_];rfl)
 replace H := Option.bind_eq_some_iff.mp H
 obtain ⟨⟨t105, t106⟩, A60, H⟩ := H
 replace H : ((spec_l14Rd_pick.f k s0_0 t106 60).bind fun bt107 => (if bt107.1 = 0 then ((spec_l14Rd_of.f k s0_0 bt107.2 (([(⟨#[]⟩ : ByteArray), (⟨#[65]⟩ : ByteArray), (⟨#[116, 111, 111, 108, 111, 110, 103]⟩ : ByteArray), (⟨#[111, 110, 101]⟩ : ByteArray)] : List ByteArray))).bind fun bt112 => (if 0 ≤ t105 then (if t105 < (t101.length : Int) then (some ((t101.set (t105 : Int).toNat (⟨bt112.1, (rd_T39 t101 t105).f1, (rd_T39 t101 t105).f2, (⟨(rd_T39 t101 t105).f3.f0, (rd_T39 t101 t105).f3.f1, (rd_T39 t101 t105).f3.f2, (rd_T39 t101 t105).f3.f3⟩ : S37), (rd_T39 t101 t105).f4, (rd_T39 t101 t105).f5, (rd_T39 t101 t105).f6, (rd_T39 t101 t105).f7, (rd_T39 t101 t105).f8⟩ : S39)), bt112.2)) else (none)) else (none))) else (if bt107.1 = 1 then ((spec_l14Rd_num.f k s0_0 bt107.2 (([(-1), 10] : List Int))).bind fun bt118 => (if 0 ≤ t105 then (if t105 < (t101.length : Int) then (some ((t101.set (t105 : Int).toNat (⟨(rd_T39 t101 t105).f0, bt118.1, (rd_T39 t101 t105).f2, (⟨(rd_T39 t101 t105).f3.f0, (rd_T39 t101 t105).f3.f1, (rd_T39 t101 t105).f3.f2, (rd_T39 t101 t105).f3.f3⟩ : S37), (rd_T39 t101 t105).f4, (rd_T39 t101 t105).f5, (rd_T39 t101 t105).f6, (rd_T39 t101 t105).f7, (rd_T39 t101 t105).f8⟩ : S39)), bt118.2)) else (none)) else (none))) else (if bt107.1 = 2 then ((spec_l14Rd_num.f k s0_0 bt107.2 (([(-1), 101] : List Int))).bind fun bt124 => (if 0 ≤ t105 then (if t105 < (t101.length : Int) then (some ((t101.set (t105 : Int).toNat (⟨(rd_T39 t101 t105).f0, (rd_T39 t101 t105).f1, (rd_T39 t101 t105).f2, (⟨(rd_T39 t101 t105).f3.f0, (rd_T39 t101 t105).f3.f1, (rd_T39 t101 t105).f3.f2, (rd_T39 t101 t105).f3.f3⟩ : S37), bt124.1, (rd_T39 t101 t105).f5, (rd_T39 t101 t105).f6, (rd_T39 t101 t105).f7, (rd_T39 t101 t105).f8⟩ : S39)), bt124.2)) else (none)) else (none))) else (if bt107.1 = 3 then (if 0 ≤ t105 then (if t105 < (t101.length : Int) then (some ((t101.set (t105 : Int).toNat (⟨(rd_T39 t101 t105).f0, (rd_T39 t101 t105).f1, (rd_T39 t101 t105).f2, (⟨(rd_T39 t101 t105).f3.f0, (rd_T39 t101 t105).f3.f1, (rd_T39 t101 t105).f3.f2, (rd_T39 t101 t105).f3.f3⟩ : S37), (rd_T39 t101 t105).f4, (rd_T39 t101 t105).f5, 4, (rd_T39 t101 t105).f7, (rd_T39 t101 t105).f8⟩ : S39)), bt107.2)) else (none)) else (none)) else (if bt107.1 = 4 then ((spec_l14Rd_num.f k s0_0 bt107.2 (([(-10), 10, (-9)] : List Int))).bind fun bt131 => (if 0 ≤ t105 then (if t105 < (t101.length : Int) then (some ((t101.set (t105 : Int).toNat (⟨(rd_T39 t101 t105).f0, (rd_T39 t101 t105).f1, (rd_T39 t101 t105).f2, (⟨(rd_T39 t101 t105).f3.f0, (rd_T39 t101 t105).f3.f1, (rd_T39 t101 t105).f3.f2, (rd_T39 t101 t105).f3.f3⟩ : S37), (rd_T39 t101 t105).f4, (rd_T39 t101 t105).f5, (rd_T39 t101 t105).f6, bt131.1, (rd_T39 t101 t105).f8⟩ : S39)), bt131.2)) else (none)) else (none))) else (if bt107.1 = 5 then ((spec_l2Bent.f k s0_0 bt107.2).bind fun bt134 => (if 0 ≤ t105 then (if t105 < (t101.length : Int) then (some ((t101.set (t105 : Int).toNat (⟨(rd_T39 t101 t105).f0, (rd_T39 t101 t105).f1, (rd_T39 t101 t105).f2, (⟨bt134.1, bt134.2.1, bt134.2.2.1, bt134.2.2.2.1⟩ : S37), (rd_T39 t101 t105).f4, (rd_T39 t101 t105).f5, (rd_T39 t101 t105).f6, (rd_T39 t101 t105).f7, (rd_T39 t101 t105).f8⟩ : S39)), bt134.2.2.2.2)) else (none)) else (none))) else (some (t101, bt107.2))))))))) = some (r1, r2) := H
 have A6 := m0_ A60
 clear A60
 replace H := Option.bind_eq_some_iff.mp H
 obtain ⟨⟨t107, t108⟩, A70, H⟩ := H
 replace H : (if t107 = 0 then ((spec_l14Rd_of.f k s0_0 t108 (([(⟨#[]⟩ : ByteArray), (⟨#[65]⟩ : ByteArray), (⟨#[116, 111, 111, 108, 111, 110, 103]⟩ : ByteArray), (⟨#[111, 110, 101]⟩ : ByteArray)] : List ByteArray))).bind fun bt112 => (if 0 ≤ t105 then (if t105 < (t101.length : Int) then (some ((t101.set (t105 : Int).toNat (⟨bt112.1, (rd_T39 t101 t105).f1, (rd_T39 t101 t105).f2, (⟨(rd_T39 t101 t105).f3.f0, (rd_T39 t101 t105).f3.f1, (rd_T39 t101 t105).f3.f2, (rd_T39 t101 t105).f3.f3⟩ : S37), (rd_T39 t101 t105).f4, (rd_T39 t101 t105).f5, (rd_T39 t101 t105).f6, (rd_T39 t101 t105).f7, (rd_T39 t101 t105).f8⟩ : S39)), bt112.2)) else (none)) else (none))) else (if t107 = 1 then ((spec_l14Rd_num.f k s0_0 t108 (([(-1), 10] : List Int))).bind fun bt118 => (if 0 ≤ t105 then (if t105 < (t101.length : Int) then (some ((t101.set (t105 : Int).toNat (⟨(rd_T39 t101 t105).f0, bt118.1, (rd_T39 t101 t105).f2, (⟨(rd_T39 t101 t105).f3.f0, (rd_T39 t101 t105).f3.f1, (rd_T39 t101 t105).f3.f2, (rd_T39 t101 t105).f3.f3⟩ : S37), (rd_T39 t101 t105).f4, (rd_T39 t101 t105).f5, (rd_T39 t101 t105).f6, (rd_T39 t101 t105).f7, (rd_T39 t101 t105).f8⟩ : S39)), bt118.2)) else (none)) else (none))) else (if t107 = 2 then ((spec_l14Rd_num.f k s0_0 t108 (([(-1), 101] : List Int))).bind fun bt124 => (if 0 ≤ t105 then (if t105 < (t101.length : Int) then (some ((t101.set (t105 : Int).toNat (⟨(rd_T39 t101 t105).f0, (rd_T39 t101 t105).f1, (rd_T39 t101 t105).f2, (⟨(rd_T39 t101 t105).f3.f0, (rd_T39 t101 t105).f3.f1, (rd_T39 t101 t105).f3.f2, (rd_T39 t101 t105).f3.f3⟩ : S37), bt124.1, (rd_T39 t101 t105).f5, (rd_T39 t101 t105).f6, (rd_T39 t101 t105).f7, (rd_T39 t101 t105).f8⟩ : S39)), bt124.2)) else (none)) else (none))) else (if t107 = 3 then (if 0 ≤ t105 then (if t105 < (t101.length : Int) then (some ((t101.set (t105 : Int).toNat (⟨(rd_T39 t101 t105).f0, (rd_T39 t101 t105).f1, (rd_T39 t101 t105).f2, (⟨(rd_T39 t101 t105).f3.f0, (rd_T39 t101 t105).f3.f1, (rd_T39 t101 t105).f3.f2, (rd_T39 t101 t105).f3.f3⟩ : S37), (rd_T39 t101 t105).f4, (rd_T39 t101 t105).f5, 4, (rd_T39 t101 t105).f7, (rd_T39 t101 t105).f8⟩ : S39)), t108)) else (none)) else (none)) else (if t107 = 4 then ((spec_l14Rd_num.f k s0_0 t108 (([(-10), 10, (-9)] : List Int))).bind fun bt131 => (if 0 ≤ t105 then (if t105 < (t101.length : Int) then (some ((t101.set (t105 : Int).toNat (⟨(rd_T39 t101 t105).f0, (rd_T39 t101 t105).f1, (rd_T39 t101 t105).f2, (⟨(rd_T39 t101 t105).f3.f0, (rd_T39 t101 t105).f3.f1, (rd_T39 t101 t105).f3.f2, (rd_T39 t101 t105).f3.f3⟩ : S37), (rd_T39 t101 t105).f4, (rd_T39 t101 t105).f5, (rd_T39 t101 t105).f6, bt131.1, (rd_T39 t101 t105).f8⟩ : S39)), bt131.2)) else (none)) else (none))) else (if t107 = 5 then ((spec_l2Bent.f k s0_0 t108).bind fun bt134 => (if 0 ≤ t105 then (if t105 < (t101.length : Int) then (some ((t101.set (t105 : Int).toNat (⟨(rd_T39 t101 t105).f0, (rd_T39 t101 t105).f1, (rd_T39 t101 t105).f2, (⟨bt134.1, bt134.2.1, bt134.2.2.1, bt134.2.2.2.1⟩ : S37), (rd_T39 t101 t105).f4, (rd_T39 t101 t105).f5, (rd_T39 t101 t105).f6, (rd_T39 t101 t105).f7, (rd_T39 t101 t105).f8⟩ : S39)), bt134.2.2.2.2)) else (none)) else (none))) else (some (t101, t108)))))))) = some (r1, r2) := H
 have A7 := m0_ A70
 clear A70
 by_cases c8 : t107 = 0
 ·rw [if_pos c8] at H
  have c8b0 : (t107 == 0) = true := beq_iff_eq.mpr c8
  have c8b1 : (t107 != 0) = false := bne_eq_false_iff_eq.mpr c8
  clear c8
  obtain ⟨y109, hy109⟩ : ∃ y_ : List ByteArray, y_ = (([(⟨#[]⟩ : ByteArray), (⟨#[65]⟩ : ByteArray), (⟨#[116, 111, 111, 108, 111, 110, 103]⟩ : ByteArray), (⟨#[111, 110, 101]⟩ : ByteArray)] : List ByteArray)) := ⟨_, rfl⟩
  replace H : ((spec_l14Rd_of.f k s0_0 t108 y109).bind fun bt112 => (if 0 ≤ t105 then (if t105 < (t101.length : Int) then (some ((t101.set (t105 : Int).toNat (⟨bt112.1, (rd_T39 t101 t105).f1, (rd_T39 t101 t105).f2, (⟨(rd_T39 t101 t105).f3.f0, (rd_T39 t101 t105).f3.f1, (rd_T39 t101 t105).f3.f2, (rd_T39 t101 t105).f3.f3⟩ : S37), (rd_T39 t101 t105).f4, (rd_T39 t101 t105).f5, (rd_T39 t101 t105).f6, (rd_T39 t101 t105).f7, (rd_T39 t101 t105).f8⟩ : S39)), bt112.2)) else (none)) else (none))) = some (r1, r2) := by first | (rw [hy109];with_reducible exact H) | (have H2_ := (Option.bind_some _ _).symm.trans H;rw [hy109];with_reducible exact H2_) | (have H2_ := (Option.bind_some _ _).symm.trans H;with_reducible exact H2_) | with_reducible exact H | (rw [hy109];exact H) | exact H
  have Ny109 := m0_ hy109
  clear hy109
  replace H := Option.bind_eq_some_iff.mp H
  obtain ⟨⟨t112, t113⟩, A90, H⟩ := H
  replace H : (if 0 ≤ t105 then (if t105 < (t101.length : Int) then (some ((t101.set (t105 : Int).toNat (⟨t112, (rd_T39 t101 t105).f1, (rd_T39 t101 t105).f2, (⟨(rd_T39 t101 t105).f3.f0, (rd_T39 t101 t105).f3.f1, (rd_T39 t101 t105).f3.f2, (rd_T39 t101 t105).f3.f3⟩ : S37), (rd_T39 t101 t105).f4, (rd_T39 t101 t105).f5, (rd_T39 t101 t105).f6, (rd_T39 t101 t105).f7, (rd_T39 t101 t105).f8⟩ : S39)), t113)) else (none)) else (none)) = some (r1, r2) := H
  have A9 := m0_ A90
  clear A90
  by_cases c10 : 0 ≤ t105
  rotate_left
  ·rw [if_neg c10] at H
   exact absurd H (by simp)
  rw [if_pos c10] at H
  have c10b0 : decide (0 ≤ t105) = true := decide_eq_true c10
  clear c10
  by_cases c11 : t105 < (t101.length : Int)
  ·rw [if_pos c11] at H
   have c11b0 : decide (t105 < (t101.length : Int)) = true := decide_eq_true c11
   clear c11
   obtain ⟨y114, hy114⟩ : ∃ y_ : List (S39), y_ = (t101.set (t105 : Int).toNat (⟨t112, (rd_T39 t101 t105).f1, (rd_T39 t101 t105).f2, (⟨(rd_T39 t101 t105).f3.f0, (rd_T39 t101 t105).f3.f1, (rd_T39 t101 t105).f3.f2, (rd_T39 t101 t105).f3.f3⟩ : S37), (rd_T39 t101 t105).f4, (rd_T39 t101 t105).f5, (rd_T39 t101 t105).f6, (rd_T39 t101 t105).f7, (rd_T39 t101 t105).f8⟩ : S39)) := ⟨_, rfl⟩
   replace H : (some (y114, t113)) = some (r1, r2) := by first | (rw [hy114];with_reducible exact H) | (have H2_ := (Option.bind_some _ _).symm.trans H;rw [hy114];with_reducible exact H2_) | (have H2_ := (Option.bind_some _ _).symm.trans H;with_reducible exact H2_) | with_reducible exact H | (rw [hy114];exact H) | exact H
   have Ny114 := m0_ hy114
   clear hy114
   simp only [Option.some.injEq, Prod.mk.injEq] at H
   obtain ⟨rfl, rfl⟩ := H
   go_enter Try.func66, Try.ntmps66
   go_wp2_with (first | ((with_reducible refine gate_callee (f := 96) rfl ?_);refine goesL_ (some 6) rfl rfl Try.func96 (by kernel_rfl) rfl #[.pointer (some ⟨g, 0, none⟩)] rfl (by (try simp only [List.map_toArray, List.map_cons, List.map_nil]);first | done | rfl | (simp only [List.length_drop, List.length_take];rfl)) ?_;(with_reducible refine (spec_l8Rules.calls k g s0_0 s0_1 t101 t104 w0 _ ?side1 ?side2 A2.out).mono ?_);(case side1 => repeat (first | (with_reducible first | exact HI0.out | apply IsS127.alloc | apply IsS127.drewN | apply IsS127.drew | apply IsS127.set_1) | exact HI0.out));(case side2 => repeat (first | (with_reducible first | exact HB.out | apply below_alloc | apply pw_below_drewN | apply below_drew1 | refine below_set ?_ (IsS127.ge HI0.out)) | exact HB.out));rintro e w13 ⟨v102, rfl, ho0, hi, hb, hk⟩;refine ⟨_, rfl, ?_⟩;have HO103 := m0_ (Kd.N_lower (Kd.N_mono (ok' := fun k_ => (w.heap.size ≤ k_) ∧ k_ ≠ g) (Kd.R_N (Kd.R_bound ho0)) (fun k_ hk_ => ⟨(Nat.le_trans (keep_size (w := w) (g := g) (row := none) (by repeat (first | (with_reducible first | exact HK.out | apply KeepBut.set_ | apply keep_drewN | apply keep_drew | apply keep_alloc) | exact HK.out))) hk_.2.1), (IsS127.fresh (by repeat (first | (with_reducible first | exact HI0.out | apply IsS127.alloc | apply IsS127.drewN | apply IsS127.drew | apply IsS127.set_1) | exact HI0.out)) k_ hk_.2.1)⟩)) (keep_size (w := w) (g := g) (row := none) (by repeat (first | (with_reducible first | exact HK.out | apply KeepBut.set_ | apply keep_drewN | apply keep_drew | apply keep_alloc) | exact HK.out))));replace HK := m0_ (KeepBut.trans (by repeat (first | (with_reducible first | exact HK.out | apply KeepBut.set_ | apply keep_drewN | apply keep_drew | apply keep_alloc) | exact HK.out)) hk (.inl rfl));replace HB := m0_ (hb);replace HI0 := m0_ (hi);(try clear hb);(try clear hb2);(try clear hk);(try clear hi);(try clear ho0);obtain ⟨Ao14, co14, eo14⟩ := Kd.N_slice HO103.out;subst eo14) | ((with_reducible refine gate_callee (f := 97) rfl ?_);refine goesL_ (some 14) rfl rfl Try.func97 (by kernel_rfl) rfl #[.pointer (some ⟨g, 0, none⟩), .int .i64 (t101.length : Int)] rfl (by (try simp only [List.map_toArray, List.map_cons, List.map_nil]);first | done | rfl | (simp only [List.length_drop, List.length_take];rfl)) ?_;(with_reducible refine (spec_l14Rd_pick.calls k g s0_0 t104 (t101.length : Int) t105 t106 w0 _ ?side1 ?side2 A6.out).mono ?_);(case side1 => repeat (first | (with_reducible first | exact HI0.out | apply IsS127.alloc | apply IsS127.drewN | apply IsS127.drew | apply IsS127.set_1) | exact HI0.out));(case side2 => repeat (first | (with_reducible first | exact HB.out | apply below_alloc | apply pw_below_drewN | apply below_drew1 | refine below_set ?_ (IsS127.ge HI0.out)) | exact HB.out));rintro e w15 ⟨rfl, hi, hb, hk⟩;refine ⟨_, rfl, ?_⟩;replace HO103 := m0_ (Kd.N_mono (Kd.N_keep (Kd.N_mono (ok := fun k_ => (((w.heap.size ≤ k_)) ∧ k_ ≠ g)) (by exact HO103.out) (fun k_ hk_ => (⟨hk_, hk_.2⟩ : _ ∧ k_ ≠ g))) hk (fun _ h => h.2)) (fun _ h => h.1));replace HK := m0_ (KeepBut.trans (by repeat (first | (with_reducible first | exact HK.out | apply KeepBut.set_ | apply keep_drewN | apply keep_drew | apply keep_alloc) | exact HK.out)) hk (.inl rfl));replace HB := m0_ (hb);replace HI0 := m0_ (hi);(try clear hb);(try clear hb2);(try clear hk);(try clear hi)) | ((with_reducible refine gate_callee (f := 97) rfl ?_);refine goesL_ (some 16) rfl rfl Try.func97 (by kernel_rfl) rfl #[.pointer (some ⟨g, 0, none⟩), .int .i64 60] rfl (by (try simp only [List.map_toArray, List.map_cons, List.map_nil]);first | done | rfl | (simp only [List.length_drop, List.length_take];rfl)) ?_;(with_reducible refine (spec_l14Rd_pick.calls k g s0_0 t106 60 t107 t108 w0 _ ?side1 ?side2 A7.out).mono ?_);(case side1 => repeat (first | (with_reducible first | exact HI0.out | apply IsS127.alloc | apply IsS127.drewN | apply IsS127.drew | apply IsS127.set_1) | exact HI0.out));(case side2 => repeat (first | (with_reducible first | exact HB.out | apply below_alloc | apply pw_below_drewN | apply below_drew1 | refine below_set ?_ (IsS127.ge HI0.out)) | exact HB.out));rintro e w16 ⟨rfl, hi, hb, hk⟩;refine ⟨_, rfl, ?_⟩;replace HO103 := m0_ (Kd.N_mono (Kd.N_keep (Kd.N_mono (ok := fun k_ => (((w.heap.size ≤ k_)) ∧ k_ ≠ g)) (by exact HO103.out) (fun k_ hk_ => (⟨hk_, hk_.2⟩ : _ ∧ k_ ≠ g))) hk (fun _ h => h.2)) (fun _ h => h.1));replace HK := m0_ (KeepBut.trans (by repeat (first | (with_reducible first | exact HK.out | apply KeepBut.set_ | apply keep_drewN | apply keep_drew | apply keep_alloc) | exact HK.out)) hk (.inl rfl));replace HB := m0_ (hb);replace HI0 := m0_ (hi);(try clear hb);(try clear hb2);(try clear hk);(try clear hi)) | ((with_reducible refine gate_dst (N := 22) rfl ?_);refine Kd.R_lit Kd.string _ 9 ?hg (N := 22) ?hd (xs := ([(⟨#[]⟩ : ByteArray), (⟨#[65]⟩ : ByteArray), (⟨#[116, 111, 111, 108, 111, 110, 103]⟩ : ByteArray), (⟨#[111, 110, 101]⟩ : ByteArray)] : List ByteArray)) (inner := [.string (⟨#[]⟩ : ByteArray), .string (⟨#[65]⟩ : ByteArray), .string (⟨#[116, 111, 111, 108, 111, 110, 103]⟩ : ByteArray), .string (⟨#[111, 110, 101]⟩ : ByteArray)]) (ok := fun _ => True) (okp := fun _ => True) ?hr ?hp (fun _ hk => hk) trivial (Below.refl _ _) (Nat.le_refl _) (by simp) ?_;(case hd => rfl);(case hg => rfl);(case hr => first | (go_simp;done) | (go_simp;rfl));(case hp => exact (Reps.one (show Kd.M Kd.string _ _ _ (⟨#[]⟩ : ByteArray) [.string (⟨#[]⟩ : ByteArray)] from rfl) (Reps.one (show Kd.M Kd.string _ _ _ (⟨#[65]⟩ : ByteArray) [.string (⟨#[65]⟩ : ByteArray)] from rfl) (Reps.one (show Kd.M Kd.string _ _ _ (⟨#[116, 111, 111, 108, 111, 110, 103]⟩ : ByteArray) [.string (⟨#[116, 111, 111, 108, 111, 110, 103]⟩ : ByteArray)] from rfl) (Reps.one (show Kd.M Kd.string _ _ _ (⟨#[111, 110, 101]⟩ : ByteArray) [.string (⟨#[111, 110, 101]⟩ : ByteArray)] from rfl) (Reps.none _ _))))));intro v110 w17 ho18 hb hg_ hnew_;clear hg_ hnew_;(first | rw [← Ny109.out] at ho18 | (simp only [Int.reduceToNat] at ho18;rw [← Ny109.out] at ho18));replace HO103 := m0_ (Kd.N_elder' (by exact HO103.out) (Kd.R_base ho18) hb);have HO111 := m0_ (Kd.R_lower (Kd.R_newM (M := fun k_ => (w.heap.size ≤ k_)) ho18 (keep_size (w := w) (g := g) (row := none) (by repeat (first | (with_reducible first | exact HK.out | apply KeepBut.set_ | apply keep_drewN | apply keep_drew | apply keep_alloc) | exact HK.out))) (fun k_ h_ => h_)) (keep_size (w := w) (g := g) (row := none) (by repeat (first | (with_reducible first | exact HK.out | apply KeepBut.set_ | apply keep_drewN | apply keep_drew | apply keep_alloc) | exact HK.out))));replace HK := m0_ (KeepBut.trans (by repeat (first | (with_reducible first | exact HK.out | apply KeepBut.set_ | apply keep_drewN | apply keep_drew | apply keep_alloc) | exact HK.out)) (KeepBut.of_below hb g none) (.inl rfl));replace HB := m0_ (below_step (by repeat (first | (with_reducible first | exact HB.out | apply below_alloc | apply pw_below_drewN | apply below_drew1 | refine below_set ?_ (IsS127.ge HI0.out)) | exact HB.out)) hb);replace HI0 := m0_ (IsS127.below (by repeat (first | (with_reducible first | exact HI0.out | apply IsS127.alloc | apply IsS127.drewN | apply IsS127.drew | apply IsS127.set_1) | exact HI0.out)) hb);clear hb ho18;obtain ⟨Ao19, co19, eo19⟩ := Kd.R_slice HO111.out;subst eo19) | ((with_reducible refine gate_callee (f := 98) rfl ?_);refine goesL_ (some 23) rfl rfl Try.func98 (by kernel_rfl) rfl #[.pointer (some ⟨g, 0, none⟩), .slice Ao19 y109.length co19] rfl (by (try simp only [List.map_toArray, List.map_cons, List.map_nil]);first | done | rfl | (simp only [List.length_drop, List.length_take];rfl)) ?_;(with_reducible refine (spec_l14Rd_of.calls k g s0_0 t108 _ _ y109 t112 t113 w0 _ ?side1 ?side2 ?side3 ?side4 ?side5 A9.out).mono ?_);(case side1 => repeat (first | (with_reducible first | exact HI0.out | apply IsS127.alloc | apply IsS127.drewN | apply IsS127.drew | apply IsS127.set_1) | exact HI0.out));(case side2 => repeat (first | (with_reducible first | exact HB.out | apply below_alloc | apply pw_below_drewN | apply below_drew1 | refine below_set ?_ (IsS127.ge HI0.out)) | exact HB.out));(case side3 => repeat (first | exact (Kd.R_reads' HO111.out).2.2 | (with_reducible refine Kd.C_alloc ?_ _) | (with_reducible refine Kd.C_drewN ?_ _) | (with_reducible refine Kd.C_drew ?_)));(case side4 => exact (Kd.R_reads' HO111.out).2.1);(case side5 => exact far_slice (IsS127.own_ne HI0.out HO111.out (by decide)));rintro e w20 ⟨rfl, hi, hb, hk⟩;refine ⟨_, rfl, ?_⟩;replace HO103 := m0_ (Kd.N_mono (Kd.N_keep (Kd.N_mono (ok := fun k_ => ((((w.heap.size ≤ k_)) ∧ k_ ≠ g) ∧ some k_ ≠ (.slice Ao19 y109.length co19 : Value).ownBlock)) (by exact HO103.out) (fun k_ hk_ => (⟨hk_, hk_.1.2⟩ : _ ∧ k_ ≠ g))) hk (fun _ h => h.2)) (fun _ h => h.1));replace HO111 := m0_ (Kd.R_mono (Kd.R_keep (IsS127.apart (show IsS127 w0 _ g s0_0 t108 from by repeat (first | (with_reducible first | exact HI0.out | apply IsS127.alloc | apply IsS127.drewN | apply IsS127.drew | apply IsS127.set_1) | exact HI0.out)) (by exact HO111.out) (by decide)) hk (fun _ h => h.2)) (fun _ h => h.1));replace HK := m0_ (KeepBut.trans (by repeat (first | (with_reducible first | exact HK.out | apply KeepBut.set_ | apply keep_drewN | apply keep_drew | apply keep_alloc) | exact HK.out)) hk (.inl rfl));replace HB := m0_ (hb);replace HI0 := m0_ (hi);(try clear hb);(try clear hb2);(try clear hk);(try clear hi);have p12 : 0 ≤ (t105 : Int) := of_decide_eq_true (by first | (with_reducible assumption) | assumption);have q12 : (t105 : Int) < ((t101.length : Int) : Int) := of_decide_eq_true (by first | (with_reducible assumption) | assumption);obtain ⟨go12, co12, eo12, gb12, gl12, cl12, HG12⟩ := Kd.N_form HO103.out (by omega);(first | cases eo12 | (injection eo12 with ea_ en_ ec_;(first | subst ea_ | (injection ea_ with ea_;subst ea_));subst ec_;clear en_));have GB12 := m0_ gb12;have GG12 := m0_ HG12;clear gb12 gl12 HG12;obtain ⟨ce12, hcl12, hM12, hcc12, hfr12⟩ := Kd.N_elem HO103.out z39 (t105 : Int) p12 q12;obtain ⟨ua12_6, uc12_6, rfl, ul12_6, ge12_6⟩ := k39_openF hM12;have hx12_0 : w20.cell? ⟨go12, (t105 : Int).toNat * 12, none⟩ = some (.string ((rd_T39 t101 t105).f0)) := hcc12 0 _ rfl;have hx12_1 : w20.cell? ⟨go12, (t105 : Int).toNat * 12 + 1, none⟩ = some (.int .i64 ((rd_T39 t101 t105).f1)) := hcc12 1 _ rfl;have hx12_2 : w20.cell? ⟨go12, (t105 : Int).toNat * 12 + 2, none⟩ = some (.int .i64 ((rd_T39 t101 t105).f2)) := hcc12 2 _ rfl;have hx12_3 : w20.cell? ⟨go12, (t105 : Int).toNat * 12 + 3, none⟩ = some (.int .i64 ((rd_T39 t101 t105).f3.f0)) := hcc12 3 _ rfl;have hx12_4 : w20.cell? ⟨go12, (t105 : Int).toNat * 12 + 4, none⟩ = some (.int .i64 ((rd_T39 t101 t105).f3.f1)) := hcc12 4 _ rfl;have hx12_5 : w20.cell? ⟨go12, (t105 : Int).toNat * 12 + 5, none⟩ = some (.int .i64 ((rd_T39 t101 t105).f3.f2)) := hcc12 5 _ rfl;have hx12_6 : w20.cell? ⟨go12, (t105 : Int).toNat * 12 + 6, none⟩ = some (.slice ua12_6 ((rd_T39 t101 t105).f3.f3).length uc12_6) := hcc12 6 _ rfl;have hx12_7 : w20.cell? ⟨go12, (t105 : Int).toNat * 12 + 7, none⟩ = some (.int .i64 ((rd_T39 t101 t105).f4)) := hcc12 7 _ rfl;have hx12_8 : w20.cell? ⟨go12, (t105 : Int).toNat * 12 + 8, none⟩ = some (.int .i64 ((rd_T39 t101 t105).f5)) := hcc12 8 _ rfl;have hx12_9 : w20.cell? ⟨go12, (t105 : Int).toNat * 12 + 9, none⟩ = some (.int .i64 ((rd_T39 t101 t105).f6)) := hcc12 9 _ rfl;have hx12_10 : w20.cell? ⟨go12, (t105 : Int).toNat * 12 + 10, none⟩ = some (.int .i64 ((rd_T39 t101 t105).f7)) := hcc12 10 _ rfl;have hx12_11 : w20.cell? ⟨go12, (t105 : Int).toNat * 12 + 11, none⟩ = some (.int .i64 ((rd_T39 t101 t105).f8)) := hcc12 11 _ rfl;have hf12_0 : w20.frozen? ⟨go12, (t105 : Int).toNat * 12, none⟩ = false := hfr12 0;have hf12_1 : w20.frozen? ⟨go12, (t105 : Int).toNat * 12 + 1, none⟩ = false := hfr12 1;have hf12_2 : w20.frozen? ⟨go12, (t105 : Int).toNat * 12 + 2, none⟩ = false := hfr12 2;have hf12_3 : w20.frozen? ⟨go12, (t105 : Int).toNat * 12 + 3, none⟩ = false := hfr12 3;have hf12_4 : w20.frozen? ⟨go12, (t105 : Int).toNat * 12 + 4, none⟩ = false := hfr12 4;have hf12_5 : w20.frozen? ⟨go12, (t105 : Int).toNat * 12 + 5, none⟩ = false := hfr12 5;have hf12_6 : w20.frozen? ⟨go12, (t105 : Int).toNat * 12 + 6, none⟩ = false := hfr12 6;have hf12_7 : w20.frozen? ⟨go12, (t105 : Int).toNat * 12 + 7, none⟩ = false := hfr12 7;have hf12_8 : w20.frozen? ⟨go12, (t105 : Int).toNat * 12 + 8, none⟩ = false := hfr12 8;have hf12_9 : w20.frozen? ⟨go12, (t105 : Int).toNat * 12 + 9, none⟩ = false := hfr12 9;have hf12_10 : w20.frozen? ⟨go12, (t105 : Int).toNat * 12 + 10, none⟩ = false := hfr12 10;have hf12_11 : w20.frozen? ⟨go12, (t105 : Int).toNat * 12 + 11, none⟩ = false := hfr12 11;clear hcl12 hcc12 hfr12 hM12;replace p12 := eq_true p12;replace q12 := eq_true q12;have n_ := m0_ (Kd.N_mono (ok' := (fun k_ => (w.heap.size ≤ k_) ∧ some k_ ≠ (.slice Ao19 y109.length co19 : Value).ownBlock)) HO103.out (fun k_ hk => ⟨hk.1.1, hk.2⟩));clear HO103;have HO103 := n_;clear n_;have HX21 := m0_ (show Kd.N k39 39 w20 w.heap.size (fun k_ => (w.heap.size ≤ k_) ∧ some k_ ≠ (.slice Ao19 y109.length co19 : Value).ownBlock) (.slice (some ⟨go12, 0, none⟩) t101.length co14) t101 from (by exact HO103.out));obtain ⟨ce21, hcl21, hM21, hcc21, hfr21⟩ := Kd.N_elem HX21.out z39 (t105 : Int) (of_decide_eq_true (by first | (with_reducible assumption) | assumption)) (by have h_ : (t105 : Int) < ((t101.length : Int) : Int) := of_decide_eq_true (by first | (with_reducible assumption) | assumption);first | exact h_ | (have e_ := (Kd.N_reads' HO103.out).1;omega) | simpa using h_);obtain ⟨ua21_6, uc21_6, rfl, ul21_6, ge21_6⟩ := k39_openF hM21;have HP21 := Kd.N_seg HX21.out (t105 : Int) (of_decide_eq_true (by first | (with_reducible assumption) | assumption)) (by have h_ : (t105 : Int) < ((t101.length : Int) : Int) := of_decide_eq_true (by first | (with_reducible assumption) | assumption);first | exact h_ | (have e_ := (Kd.N_reads' HO103.out).1;omega) | simpa using h_) (seg := [.string t112]) (j := 0) hcl21 hcc21 (show 1 ≤ 12 from by decide) (x' := (⟨t112, (rd_T39 t101 t105).f1, (rd_T39 t101 t105).f2, (⟨(rd_T39 t101 t105).f3.f0, (rd_T39 t101 t105).f3.f1, (rd_T39 t101 t105).f3.f2, (rd_T39 t101 t105).f3.f3⟩ : S37), (rd_T39 t101 t105).f4, (rd_T39 t101 t105).f5, (rd_T39 t101 t105).f6, (rd_T39 t101 t105).f7, (rd_T39 t101 t105).f8⟩ : S39)) (k39_mkF _ _ (⟨t112, (rd_T39 t101 t105).f1, (rd_T39 t101 t105).f2, (⟨(rd_T39 t101 t105).f3.f0, (rd_T39 t101 t105).f3.f1, (rd_T39 t101 t105).f3.f2, (rd_T39 t101 t105).f3.f3⟩ : S37), (rd_T39 t101 t105).f4, (rd_T39 t101 t105).f5, (rd_T39 t101 t105).f6, (rd_T39 t101 t105).f7, (rd_T39 t101 t105).f8⟩ : S39) ul21_6 ge21_6) (fun _ hk => hk);have hx21_0 := hcc21 0 _ rfl;(try simp only [show (k39).sz = 12 from rfl, Nat.mul_one, Nat.add_zero] at hx21_0);have hf21_0 := hfr21 0;(try simp only [show (k39).sz = 12 from rfl, Nat.mul_one, Nat.add_zero] at hf21_0);clear hcl21 hcc21 hfr21 hM21) | ((with_reducible refine gate_store (t := 9) (p := 25) rfl ?_);refine store_event (t := 9) (p := 25) (v := ?vo_w22) (w1 := (w20.setCell ⟨go12, (t105 : Int).toNat * 12, none⟩ (.string t112))) ?hg ?ho ?hn ?hr ?_;(case ho => rfl);(case hg => rfl);(case hn => rfl);(case hr => first | (go_simp;done) | (go_simp;rfl));intro w22 hw;have hg : w20.grownBy w22 (some go12) := (by rw [hw];exact HP21.2);have hp_ : Kd.N k39 39 w22 w.heap.size (fun k_ => (w.heap.size ≤ k_) ∧ some k_ ≠ (.slice Ao19 y109.length co19 : Value).ownBlock) (.slice (some ⟨go12, 0, none⟩) t101.length co14) y114 := (by rw [hw, Ny114.out];exact HP21.1);clear HP21;replace HI0 := m0_ (IsS127.grown (by repeat (first | (with_reducible first | exact HI0.out | apply IsS127.alloc | apply IsS127.drewN | apply IsS127.drew | apply IsS127.set_1) | exact HI0.out)) hg (IsS127.own_neN HI0.out HO103.out (by decide)));replace HO111 := m0_ (Kd.R_over' (v := (.slice (some ⟨go12, 0, none⟩) t101.length co14)) (by exact HO111.out) (Kd.N_typed HO103.out) (by decide) hg);replace HB := m0_ ((by rw [hw];exact below_set (HB.out) (Nat.le_trans HL.out GB12.out) : Below w0.heap.size w0 w22));replace HK := m0_ (KeepBut.trans (by repeat (first | (with_reducible first | exact HK.out | apply KeepBut.set_ | apply keep_drewN | apply keep_drew | apply keep_alloc) | exact HK.out)) (KeepBut.of_grown hg g) (Kd.N_base2 HO103.out));replace HO103 := m0_ (hp_);clear hg hw hp_))
   go_ret
   exact ⟨_, by first | rfl | (simp [errW_none, errW_some] <;> rfl) | (simp [*, errW_none, errW_some] <;> rfl), by (with_reducible repeat (first | apply Kd.N_alloc | apply Kd.N_drewN | apply Kd.N_drew));exact Kd.N_mono HO103.out (fun _ hk => hk.1), by repeat (first | (with_reducible first | exact HI0.out | apply IsS127.alloc | apply IsS127.drewN | apply IsS127.drew | apply IsS127.set_1) | exact HI0.out), by repeat (first | (with_reducible first | exact HB.out | apply below_alloc | apply pw_below_drewN | apply below_drew1 | refine below_set ?_ (IsS127.ge HI0.out)) | exact HB.out), by repeat (first | (with_reducible first | exact HK.out | apply KeepBut.set_ | apply keep_drewN | apply keep_drew | apply keep_alloc) | exact HK.out)⟩
  ·rw [if_neg c11] at H
   exact absurd H (by simp)
 rw [if_neg c8] at H
 have c8b0 : (t107 == 0) = false := beq_eq_false_iff_ne.mpr c8
 have c8b1 : (t107 != 0) = true := bne_iff_ne.mpr c8
 by_cases c23 : t107 = 1
 ·rw [if_pos c23] at H
  have c23b0 : (t107 == 1) = true := beq_iff_eq.mpr c23
  have c23b1 : (t107 != 1) = false := bne_eq_false_iff_eq.mpr c23
  clear c23
  obtain ⟨y115, hy115⟩ : ∃ y_ : List Int, y_ = (([(-1), 10] : List Int)) := ⟨_, rfl⟩
  replace H : ((spec_l14Rd_num.f k s0_0 t108 y115).bind fun bt118 => (if 0 ≤ t105 then (if t105 < (t101.length : Int) then (some ((t101.set (t105 : Int).toNat (⟨(rd_T39 t101 t105).f0, bt118.1, (rd_T39 t101 t105).f2, (⟨(rd_T39 t101 t105).f3.f0, (rd_T39 t101 t105).f3.f1, (rd_T39 t101 t105).f3.f2, (rd_T39 t101 t105).f3.f3⟩ : S37), (rd_T39 t101 t105).f4, (rd_T39 t101 t105).f5, (rd_T39 t101 t105).f6, (rd_T39 t101 t105).f7, (rd_T39 t101 t105).f8⟩ : S39)), bt118.2)) else (none)) else (none))) = some (r1, r2) := by first | (rw [hy115];with_reducible exact H) | (have H2_ := (Option.bind_some _ _).symm.trans H;rw [hy115];with_reducible exact H2_) | (have H2_ := (Option.bind_some _ _).symm.trans H;with_reducible exact H2_) | with_reducible exact H | (rw [hy115];exact H) | exact H
  have Ny115 := m0_ hy115
  clear hy115
  replace H := Option.bind_eq_some_iff.mp H
  obtain ⟨⟨t118, t119⟩, A240, H⟩ := H
  replace H : (if 0 ≤ t105 then (if t105 < (t101.length : Int) then (some ((t101.set (t105 : Int).toNat (⟨(rd_T39 t101 t105).f0, t118, (rd_T39 t101 t105).f2, (⟨(rd_T39 t101 t105).f3.f0, (rd_T39 t101 t105).f3.f1, (rd_T39 t101 t105).f3.f2, (rd_T39 t101 t105).f3.f3⟩ : S37), (rd_T39 t101 t105).f4, (rd_T39 t101 t105).f5, (rd_T39 t101 t105).f6, (rd_T39 t101 t105).f7, (rd_T39 t101 t105).f8⟩ : S39)), t119)) else (none)) else (none)) = some (r1, r2) := H
  have A24 := m0_ A240
  clear A240
  by_cases c25 : 0 ≤ t105
  rotate_left
  ·rw [if_neg c25] at H
   exact absurd H (by simp)
  rw [if_pos c25] at H
  have c25b0 : decide (0 ≤ t105) = true := decide_eq_true c25
  clear c25
  by_cases c26 : t105 < (t101.length : Int)
  ·rw [if_pos c26] at H
   have c26b0 : decide (t105 < (t101.length : Int)) = true := decide_eq_true c26
   clear c26
   obtain ⟨y120, hy120⟩ : ∃ y_ : List (S39), y_ = (t101.set (t105 : Int).toNat (⟨(rd_T39 t101 t105).f0, t118, (rd_T39 t101 t105).f2, (⟨(rd_T39 t101 t105).f3.f0, (rd_T39 t101 t105).f3.f1, (rd_T39 t101 t105).f3.f2, (rd_T39 t101 t105).f3.f3⟩ : S37), (rd_T39 t101 t105).f4, (rd_T39 t101 t105).f5, (rd_T39 t101 t105).f6, (rd_T39 t101 t105).f7, (rd_T39 t101 t105).f8⟩ : S39)) := ⟨_, rfl⟩
   replace H : (some (y120, t119)) = some (r1, r2) := by first | (rw [hy120];with_reducible exact H) | (have H2_ := (Option.bind_some _ _).symm.trans H;rw [hy120];with_reducible exact H2_) | (have H2_ := (Option.bind_some _ _).symm.trans H;with_reducible exact H2_) | with_reducible exact H | (rw [hy120];exact H) | exact H
   have Ny120 := m0_ hy120
   clear hy120
   simp only [Option.some.injEq, Prod.mk.injEq] at H
   obtain ⟨rfl, rfl⟩ := H
   go_enter Try.func66, Try.ntmps66
   go_wp2_with (first | ((with_reducible refine gate_callee (f := 96) rfl ?_);refine goesL_ (some 6) rfl rfl Try.func96 (by kernel_rfl) rfl #[.pointer (some ⟨g, 0, none⟩)] rfl (by (try simp only [List.map_toArray, List.map_cons, List.map_nil]);first | done | rfl | (simp only [List.length_drop, List.length_take];rfl)) ?_;(with_reducible refine (spec_l8Rules.calls k g s0_0 s0_1 t101 t104 w0 _ ?side1 ?side2 A2.out).mono ?_);(case side1 => repeat (first | (with_reducible first | exact HI0.out | apply IsS127.alloc | apply IsS127.drewN | apply IsS127.drew | apply IsS127.set_1) | exact HI0.out));(case side2 => repeat (first | (with_reducible first | exact HB.out | apply below_alloc | apply pw_below_drewN | apply below_drew1 | refine below_set ?_ (IsS127.ge HI0.out)) | exact HB.out));rintro e w28 ⟨v102, rfl, ho0, hi, hb, hk⟩;refine ⟨_, rfl, ?_⟩;have HO103 := m0_ (Kd.N_lower (Kd.N_mono (ok' := fun k_ => (w.heap.size ≤ k_) ∧ k_ ≠ g) (Kd.R_N (Kd.R_bound ho0)) (fun k_ hk_ => ⟨(Nat.le_trans (keep_size (w := w) (g := g) (row := none) (by repeat (first | (with_reducible first | exact HK.out | apply KeepBut.set_ | apply keep_drewN | apply keep_drew | apply keep_alloc) | exact HK.out))) hk_.2.1), (IsS127.fresh (by repeat (first | (with_reducible first | exact HI0.out | apply IsS127.alloc | apply IsS127.drewN | apply IsS127.drew | apply IsS127.set_1) | exact HI0.out)) k_ hk_.2.1)⟩)) (keep_size (w := w) (g := g) (row := none) (by repeat (first | (with_reducible first | exact HK.out | apply KeepBut.set_ | apply keep_drewN | apply keep_drew | apply keep_alloc) | exact HK.out))));replace HK := m0_ (KeepBut.trans (by repeat (first | (with_reducible first | exact HK.out | apply KeepBut.set_ | apply keep_drewN | apply keep_drew | apply keep_alloc) | exact HK.out)) hk (.inl rfl));replace HB := m0_ (hb);replace HI0 := m0_ (hi);(try clear hb);(try clear hb2);(try clear hk);(try clear hi);(try clear ho0);obtain ⟨Ao29, co29, eo29⟩ := Kd.N_slice HO103.out;subst eo29) | ((with_reducible refine gate_callee (f := 97) rfl ?_);refine goesL_ (some 14) rfl rfl Try.func97 (by kernel_rfl) rfl #[.pointer (some ⟨g, 0, none⟩), .int .i64 (t101.length : Int)] rfl (by (try simp only [List.map_toArray, List.map_cons, List.map_nil]);first | done | rfl | (simp only [List.length_drop, List.length_take];rfl)) ?_;(with_reducible refine (spec_l14Rd_pick.calls k g s0_0 t104 (t101.length : Int) t105 t106 w0 _ ?side1 ?side2 A6.out).mono ?_);(case side1 => repeat (first | (with_reducible first | exact HI0.out | apply IsS127.alloc | apply IsS127.drewN | apply IsS127.drew | apply IsS127.set_1) | exact HI0.out));(case side2 => repeat (first | (with_reducible first | exact HB.out | apply below_alloc | apply pw_below_drewN | apply below_drew1 | refine below_set ?_ (IsS127.ge HI0.out)) | exact HB.out));rintro e w30 ⟨rfl, hi, hb, hk⟩;refine ⟨_, rfl, ?_⟩;replace HO103 := m0_ (Kd.N_mono (Kd.N_keep (Kd.N_mono (ok := fun k_ => (((w.heap.size ≤ k_)) ∧ k_ ≠ g)) (by exact HO103.out) (fun k_ hk_ => (⟨hk_, hk_.2⟩ : _ ∧ k_ ≠ g))) hk (fun _ h => h.2)) (fun _ h => h.1));replace HK := m0_ (KeepBut.trans (by repeat (first | (with_reducible first | exact HK.out | apply KeepBut.set_ | apply keep_drewN | apply keep_drew | apply keep_alloc) | exact HK.out)) hk (.inl rfl));replace HB := m0_ (hb);replace HI0 := m0_ (hi);(try clear hb);(try clear hb2);(try clear hk);(try clear hi)) | ((with_reducible refine gate_callee (f := 97) rfl ?_);refine goesL_ (some 16) rfl rfl Try.func97 (by kernel_rfl) rfl #[.pointer (some ⟨g, 0, none⟩), .int .i64 60] rfl (by (try simp only [List.map_toArray, List.map_cons, List.map_nil]);first | done | rfl | (simp only [List.length_drop, List.length_take];rfl)) ?_;(with_reducible refine (spec_l14Rd_pick.calls k g s0_0 t106 60 t107 t108 w0 _ ?side1 ?side2 A7.out).mono ?_);(case side1 => repeat (first | (with_reducible first | exact HI0.out | apply IsS127.alloc | apply IsS127.drewN | apply IsS127.drew | apply IsS127.set_1) | exact HI0.out));(case side2 => repeat (first | (with_reducible first | exact HB.out | apply below_alloc | apply pw_below_drewN | apply below_drew1 | refine below_set ?_ (IsS127.ge HI0.out)) | exact HB.out));rintro e w31 ⟨rfl, hi, hb, hk⟩;refine ⟨_, rfl, ?_⟩;replace HO103 := m0_ (Kd.N_mono (Kd.N_keep (Kd.N_mono (ok := fun k_ => (((w.heap.size ≤ k_)) ∧ k_ ≠ g)) (by exact HO103.out) (fun k_ hk_ => (⟨hk_, hk_.2⟩ : _ ∧ k_ ≠ g))) hk (fun _ h => h.2)) (fun _ h => h.1));replace HK := m0_ (KeepBut.trans (by repeat (first | (with_reducible first | exact HK.out | apply KeepBut.set_ | apply keep_drewN | apply keep_drew | apply keep_alloc) | exact HK.out)) hk (.inl rfl));replace HB := m0_ (hb);replace HI0 := m0_ (hi);(try clear hb);(try clear hb2);(try clear hk);(try clear hi)) | ((with_reducible refine gate_dst (N := 31) rfl ?_);refine Kd.R_lit (Kd.int .i64) _ 3 ?hg (N := 31) ?hd (xs := ([(-1), 10] : List Int)) (inner := [.int .i64 (-1), .int .i64 10]) (ok := fun _ => True) (okp := fun _ => True) ?hr ?hp (fun _ hk => hk) trivial (Below.refl _ _) (Nat.le_refl _) (by simp) ?_;(case hd => rfl);(case hg => rfl);(case hr => first | (go_simp;done) | (go_simp;rfl));(case hp => exact (Reps.one (show Kd.M (Kd.int .i64) _ _ _ (-1) [.int .i64 (-1)] from rfl) (Reps.one (show Kd.M (Kd.int .i64) _ _ _ 10 [.int .i64 10] from rfl) (Reps.none _ _))));intro v116 w32 ho33 hb hg_ hnew_;clear hg_ hnew_;(first | rw [← Ny115.out] at ho33 | (simp only [Int.reduceToNat] at ho33;rw [← Ny115.out] at ho33));replace HO103 := m0_ (Kd.N_elder' (by exact HO103.out) (Kd.R_base ho33) hb);have HO117 := m0_ (Kd.R_lower (Kd.R_newM (M := fun k_ => (w.heap.size ≤ k_)) ho33 (keep_size (w := w) (g := g) (row := none) (by repeat (first | (with_reducible first | exact HK.out | apply KeepBut.set_ | apply keep_drewN | apply keep_drew | apply keep_alloc) | exact HK.out))) (fun k_ h_ => h_)) (keep_size (w := w) (g := g) (row := none) (by repeat (first | (with_reducible first | exact HK.out | apply KeepBut.set_ | apply keep_drewN | apply keep_drew | apply keep_alloc) | exact HK.out))));replace HK := m0_ (KeepBut.trans (by repeat (first | (with_reducible first | exact HK.out | apply KeepBut.set_ | apply keep_drewN | apply keep_drew | apply keep_alloc) | exact HK.out)) (KeepBut.of_below hb g none) (.inl rfl));replace HB := m0_ (below_step (by repeat (first | (with_reducible first | exact HB.out | apply below_alloc | apply pw_below_drewN | apply below_drew1 | refine below_set ?_ (IsS127.ge HI0.out)) | exact HB.out)) hb);replace HI0 := m0_ (IsS127.below (by repeat (first | (with_reducible first | exact HI0.out | apply IsS127.alloc | apply IsS127.drewN | apply IsS127.drew | apply IsS127.set_1) | exact HI0.out)) hb);clear hb ho33;obtain ⟨Ao34, co34, eo34⟩ := Kd.R_slice HO117.out;subst eo34) | ((with_reducible refine gate_callee (f := 99) rfl ?_);refine goesL_ (some 32) rfl rfl Try.func99 (by kernel_rfl) rfl #[.pointer (some ⟨g, 0, none⟩), .slice Ao34 y115.length co34] rfl (by (try simp only [List.map_toArray, List.map_cons, List.map_nil]);first | done | rfl | (simp only [List.length_drop, List.length_take];rfl)) ?_;(with_reducible refine (spec_l14Rd_num.calls k g s0_0 t108 _ _ y115 t118 t119 w0 _ ?side1 ?side2 ?side3 ?side4 ?side5 A24.out).mono ?_);(case side1 => repeat (first | (with_reducible first | exact HI0.out | apply IsS127.alloc | apply IsS127.drewN | apply IsS127.drew | apply IsS127.set_1) | exact HI0.out));(case side2 => repeat (first | (with_reducible first | exact HB.out | apply below_alloc | apply pw_below_drewN | apply below_drew1 | refine below_set ?_ (IsS127.ge HI0.out)) | exact HB.out));(case side3 => repeat (first | exact (Kd.R_reads' HO117.out).2.2 | (with_reducible refine Kd.C_alloc ?_ _) | (with_reducible refine Kd.C_drewN ?_ _) | (with_reducible refine Kd.C_drew ?_)));(case side4 => exact (Kd.R_reads' HO117.out).2.1);(case side5 => exact far_slice (IsS127.own_ne HI0.out HO117.out (by decide)));rintro e w35 ⟨rfl, hi, hb, hk⟩;refine ⟨_, rfl, ?_⟩;replace HO103 := m0_ (Kd.N_mono (Kd.N_keep (Kd.N_mono (ok := fun k_ => ((((w.heap.size ≤ k_)) ∧ k_ ≠ g) ∧ some k_ ≠ (.slice Ao34 y115.length co34 : Value).ownBlock)) (by exact HO103.out) (fun k_ hk_ => (⟨hk_, hk_.1.2⟩ : _ ∧ k_ ≠ g))) hk (fun _ h => h.2)) (fun _ h => h.1));replace HO117 := m0_ (Kd.R_mono (Kd.R_keep (IsS127.apart (show IsS127 w0 _ g s0_0 t108 from by repeat (first | (with_reducible first | exact HI0.out | apply IsS127.alloc | apply IsS127.drewN | apply IsS127.drew | apply IsS127.set_1) | exact HI0.out)) (by exact HO117.out) (by decide)) hk (fun _ h => h.2)) (fun _ h => h.1));replace HK := m0_ (KeepBut.trans (by repeat (first | (with_reducible first | exact HK.out | apply KeepBut.set_ | apply keep_drewN | apply keep_drew | apply keep_alloc) | exact HK.out)) hk (.inl rfl));replace HB := m0_ (hb);replace HI0 := m0_ (hi);(try clear hb);(try clear hb2);(try clear hk);(try clear hi);have p27 : 0 ≤ (t105 : Int) := of_decide_eq_true (by first | (with_reducible assumption) | assumption);have q27 : (t105 : Int) < ((t101.length : Int) : Int) := of_decide_eq_true (by first | (with_reducible assumption) | assumption);obtain ⟨go27, co27, eo27, gb27, gl27, cl27, HG27⟩ := Kd.N_form HO103.out (by omega);(first | cases eo27 | (injection eo27 with ea_ en_ ec_;(first | subst ea_ | (injection ea_ with ea_;subst ea_));subst ec_;clear en_));have GB27 := m0_ gb27;have GG27 := m0_ HG27;clear gb27 gl27 HG27;obtain ⟨ce27, hcl27, hM27, hcc27, hfr27⟩ := Kd.N_elem HO103.out z39 (t105 : Int) p27 q27;obtain ⟨ua27_6, uc27_6, rfl, ul27_6, ge27_6⟩ := k39_openF hM27;have hx27_0 : w35.cell? ⟨go27, (t105 : Int).toNat * 12, none⟩ = some (.string ((rd_T39 t101 t105).f0)) := hcc27 0 _ rfl;have hx27_1 : w35.cell? ⟨go27, (t105 : Int).toNat * 12 + 1, none⟩ = some (.int .i64 ((rd_T39 t101 t105).f1)) := hcc27 1 _ rfl;have hx27_2 : w35.cell? ⟨go27, (t105 : Int).toNat * 12 + 2, none⟩ = some (.int .i64 ((rd_T39 t101 t105).f2)) := hcc27 2 _ rfl;have hx27_3 : w35.cell? ⟨go27, (t105 : Int).toNat * 12 + 3, none⟩ = some (.int .i64 ((rd_T39 t101 t105).f3.f0)) := hcc27 3 _ rfl;have hx27_4 : w35.cell? ⟨go27, (t105 : Int).toNat * 12 + 4, none⟩ = some (.int .i64 ((rd_T39 t101 t105).f3.f1)) := hcc27 4 _ rfl;have hx27_5 : w35.cell? ⟨go27, (t105 : Int).toNat * 12 + 5, none⟩ = some (.int .i64 ((rd_T39 t101 t105).f3.f2)) := hcc27 5 _ rfl;have hx27_6 : w35.cell? ⟨go27, (t105 : Int).toNat * 12 + 6, none⟩ = some (.slice ua27_6 ((rd_T39 t101 t105).f3.f3).length uc27_6) := hcc27 6 _ rfl;have hx27_7 : w35.cell? ⟨go27, (t105 : Int).toNat * 12 + 7, none⟩ = some (.int .i64 ((rd_T39 t101 t105).f4)) := hcc27 7 _ rfl;have hx27_8 : w35.cell? ⟨go27, (t105 : Int).toNat * 12 + 8, none⟩ = some (.int .i64 ((rd_T39 t101 t105).f5)) := hcc27 8 _ rfl;have hx27_9 : w35.cell? ⟨go27, (t105 : Int).toNat * 12 + 9, none⟩ = some (.int .i64 ((rd_T39 t101 t105).f6)) := hcc27 9 _ rfl;have hx27_10 : w35.cell? ⟨go27, (t105 : Int).toNat * 12 + 10, none⟩ = some (.int .i64 ((rd_T39 t101 t105).f7)) := hcc27 10 _ rfl;have hx27_11 : w35.cell? ⟨go27, (t105 : Int).toNat * 12 + 11, none⟩ = some (.int .i64 ((rd_T39 t101 t105).f8)) := hcc27 11 _ rfl;have hf27_0 : w35.frozen? ⟨go27, (t105 : Int).toNat * 12, none⟩ = false := hfr27 0;have hf27_1 : w35.frozen? ⟨go27, (t105 : Int).toNat * 12 + 1, none⟩ = false := hfr27 1;have hf27_2 : w35.frozen? ⟨go27, (t105 : Int).toNat * 12 + 2, none⟩ = false := hfr27 2;have hf27_3 : w35.frozen? ⟨go27, (t105 : Int).toNat * 12 + 3, none⟩ = false := hfr27 3;have hf27_4 : w35.frozen? ⟨go27, (t105 : Int).toNat * 12 + 4, none⟩ = false := hfr27 4;have hf27_5 : w35.frozen? ⟨go27, (t105 : Int).toNat * 12 + 5, none⟩ = false := hfr27 5;have hf27_6 : w35.frozen? ⟨go27, (t105 : Int).toNat * 12 + 6, none⟩ = false := hfr27 6;have hf27_7 : w35.frozen? ⟨go27, (t105 : Int).toNat * 12 + 7, none⟩ = false := hfr27 7;have hf27_8 : w35.frozen? ⟨go27, (t105 : Int).toNat * 12 + 8, none⟩ = false := hfr27 8;have hf27_9 : w35.frozen? ⟨go27, (t105 : Int).toNat * 12 + 9, none⟩ = false := hfr27 9;have hf27_10 : w35.frozen? ⟨go27, (t105 : Int).toNat * 12 + 10, none⟩ = false := hfr27 10;have hf27_11 : w35.frozen? ⟨go27, (t105 : Int).toNat * 12 + 11, none⟩ = false := hfr27 11;clear hcl27 hcc27 hfr27 hM27;replace p27 := eq_true p27;replace q27 := eq_true q27;have n_ := m0_ (Kd.N_mono (ok' := (fun k_ => (w.heap.size ≤ k_) ∧ some k_ ≠ (.slice Ao34 y115.length co34 : Value).ownBlock)) HO103.out (fun k_ hk => ⟨hk.1.1, hk.2⟩));clear HO103;have HO103 := n_;clear n_;have HX36 := m0_ (show Kd.N k39 39 w35 w.heap.size (fun k_ => (w.heap.size ≤ k_) ∧ some k_ ≠ (.slice Ao34 y115.length co34 : Value).ownBlock) (.slice (some ⟨go27, 0, none⟩) t101.length co29) t101 from (by exact HO103.out));obtain ⟨ce36, hcl36, hM36, hcc36, hfr36⟩ := Kd.N_elem HX36.out z39 (t105 : Int) (of_decide_eq_true (by first | (with_reducible assumption) | assumption)) (by have h_ : (t105 : Int) < ((t101.length : Int) : Int) := of_decide_eq_true (by first | (with_reducible assumption) | assumption);first | exact h_ | (have e_ := (Kd.N_reads' HO103.out).1;omega) | simpa using h_);obtain ⟨ua36_6, uc36_6, rfl, ul36_6, ge36_6⟩ := k39_openF hM36;have HP36 := Kd.N_seg HX36.out (t105 : Int) (of_decide_eq_true (by first | (with_reducible assumption) | assumption)) (by have h_ : (t105 : Int) < ((t101.length : Int) : Int) := of_decide_eq_true (by first | (with_reducible assumption) | assumption);first | exact h_ | (have e_ := (Kd.N_reads' HO103.out).1;omega) | simpa using h_) (seg := [.int .i64 t118]) (j := 1) hcl36 hcc36 (show 2 ≤ 12 from by decide) (x' := (⟨(rd_T39 t101 t105).f0, t118, (rd_T39 t101 t105).f2, (⟨(rd_T39 t101 t105).f3.f0, (rd_T39 t101 t105).f3.f1, (rd_T39 t101 t105).f3.f2, (rd_T39 t101 t105).f3.f3⟩ : S37), (rd_T39 t101 t105).f4, (rd_T39 t101 t105).f5, (rd_T39 t101 t105).f6, (rd_T39 t101 t105).f7, (rd_T39 t101 t105).f8⟩ : S39)) (k39_mkF _ _ (⟨(rd_T39 t101 t105).f0, t118, (rd_T39 t101 t105).f2, (⟨(rd_T39 t101 t105).f3.f0, (rd_T39 t101 t105).f3.f1, (rd_T39 t101 t105).f3.f2, (rd_T39 t101 t105).f3.f3⟩ : S37), (rd_T39 t101 t105).f4, (rd_T39 t101 t105).f5, (rd_T39 t101 t105).f6, (rd_T39 t101 t105).f7, (rd_T39 t101 t105).f8⟩ : S39) ul36_6 ge36_6) (fun _ hk => hk);have hx36_1 := hcc36 1 _ rfl;(try simp only [show (k39).sz = 12 from rfl, Nat.mul_one, Nat.add_zero] at hx36_1);have hf36_1 := hfr36 1;(try simp only [show (k39).sz = 12 from rfl, Nat.mul_one, Nat.add_zero] at hf36_1);clear hcl36 hcc36 hfr36 hM36) | ((with_reducible refine gate_store (t := 3) (p := 34) rfl ?_);refine store_event (t := 3) (p := 34) (v := ?vo_w37) (w1 := (w35.setCell ⟨go27, (t105 : Int).toNat * 12 + 1, none⟩ (.int .i64 t118))) ?hg ?ho ?hn ?hr ?_;(case ho => rfl);(case hg => rfl);(case hn => rfl);(case hr => first | (go_simp;done) | (go_simp;rfl));intro w37 hw;have hg : w35.grownBy w37 (some go27) := (by rw [hw];exact HP36.2);have hp_ : Kd.N k39 39 w37 w.heap.size (fun k_ => (w.heap.size ≤ k_) ∧ some k_ ≠ (.slice Ao34 y115.length co34 : Value).ownBlock) (.slice (some ⟨go27, 0, none⟩) t101.length co29) y120 := (by rw [hw, Ny120.out];exact HP36.1);clear HP36;replace HI0 := m0_ (IsS127.grown (by repeat (first | (with_reducible first | exact HI0.out | apply IsS127.alloc | apply IsS127.drewN | apply IsS127.drew | apply IsS127.set_1) | exact HI0.out)) hg (IsS127.own_neN HI0.out HO103.out (by decide)));replace HO117 := m0_ (Kd.R_over' (v := (.slice (some ⟨go27, 0, none⟩) t101.length co29)) (by exact HO117.out) (Kd.N_typed HO103.out) (by decide) hg);replace HB := m0_ ((by rw [hw];exact below_set (HB.out) (Nat.le_trans HL.out GB27.out) : Below w0.heap.size w0 w37));replace HK := m0_ (KeepBut.trans (by repeat (first | (with_reducible first | exact HK.out | apply KeepBut.set_ | apply keep_drewN | apply keep_drew | apply keep_alloc) | exact HK.out)) (KeepBut.of_grown hg g) (Kd.N_base2 HO103.out));replace HO103 := m0_ (hp_);clear hg hw hp_))
   go_ret
   exact ⟨_, by first | rfl | (simp [errW_none, errW_some] <;> rfl) | (simp [*, errW_none, errW_some] <;> rfl), by (with_reducible repeat (first | apply Kd.N_alloc | apply Kd.N_drewN | apply Kd.N_drew));exact Kd.N_mono HO103.out (fun _ hk => hk.1), by repeat (first | (with_reducible first | exact HI0.out | apply IsS127.alloc | apply IsS127.drewN | apply IsS127.drew | apply IsS127.set_1) | exact HI0.out), by repeat (first | (with_reducible first | exact HB.out | apply below_alloc | apply pw_below_drewN | apply below_drew1 | refine below_set ?_ (IsS127.ge HI0.out)) | exact HB.out), by repeat (first | (with_reducible first | exact HK.out | apply KeepBut.set_ | apply keep_drewN | apply keep_drew | apply keep_alloc) | exact HK.out)⟩
  ·rw [if_neg c26] at H
   exact absurd H (by simp)
 rw [if_neg c23] at H
 have c23b0 : (t107 == 1) = false := beq_eq_false_iff_ne.mpr c23
 have c23b1 : (t107 != 1) = true := bne_iff_ne.mpr c23
 by_cases c38 : t107 = 2
 ·rw [if_pos c38] at H
  have c38b0 : (t107 == 2) = true := beq_iff_eq.mpr c38
  have c38b1 : (t107 != 2) = false := bne_eq_false_iff_eq.mpr c38
  clear c38
  obtain ⟨y121, hy121⟩ : ∃ y_ : List Int, y_ = (([(-1), 101] : List Int)) := ⟨_, rfl⟩
  replace H : ((spec_l14Rd_num.f k s0_0 t108 y121).bind fun bt124 => (if 0 ≤ t105 then (if t105 < (t101.length : Int) then (some ((t101.set (t105 : Int).toNat (⟨(rd_T39 t101 t105).f0, (rd_T39 t101 t105).f1, (rd_T39 t101 t105).f2, (⟨(rd_T39 t101 t105).f3.f0, (rd_T39 t101 t105).f3.f1, (rd_T39 t101 t105).f3.f2, (rd_T39 t101 t105).f3.f3⟩ : S37), bt124.1, (rd_T39 t101 t105).f5, (rd_T39 t101 t105).f6, (rd_T39 t101 t105).f7, (rd_T39 t101 t105).f8⟩ : S39)), bt124.2)) else (none)) else (none))) = some (r1, r2) := by first | (rw [hy121];with_reducible exact H) | (have H2_ := (Option.bind_some _ _).symm.trans H;rw [hy121];with_reducible exact H2_) | (have H2_ := (Option.bind_some _ _).symm.trans H;with_reducible exact H2_) | with_reducible exact H | (rw [hy121];exact H) | exact H
  have Ny121 := m0_ hy121
  clear hy121
  replace H := Option.bind_eq_some_iff.mp H
  obtain ⟨⟨t124, t125⟩, A390, H⟩ := H
  replace H : (if 0 ≤ t105 then (if t105 < (t101.length : Int) then (some ((t101.set (t105 : Int).toNat (⟨(rd_T39 t101 t105).f0, (rd_T39 t101 t105).f1, (rd_T39 t101 t105).f2, (⟨(rd_T39 t101 t105).f3.f0, (rd_T39 t101 t105).f3.f1, (rd_T39 t101 t105).f3.f2, (rd_T39 t101 t105).f3.f3⟩ : S37), t124, (rd_T39 t101 t105).f5, (rd_T39 t101 t105).f6, (rd_T39 t101 t105).f7, (rd_T39 t101 t105).f8⟩ : S39)), t125)) else (none)) else (none)) = some (r1, r2) := H
  have A39 := m0_ A390
  clear A390
  by_cases c40 : 0 ≤ t105
  rotate_left
  ·rw [if_neg c40] at H
   exact absurd H (by simp)
  rw [if_pos c40] at H
  have c40b0 : decide (0 ≤ t105) = true := decide_eq_true c40
  clear c40
  by_cases c41 : t105 < (t101.length : Int)
  ·rw [if_pos c41] at H
   have c41b0 : decide (t105 < (t101.length : Int)) = true := decide_eq_true c41
   clear c41
   obtain ⟨y126, hy126⟩ : ∃ y_ : List (S39), y_ = (t101.set (t105 : Int).toNat (⟨(rd_T39 t101 t105).f0, (rd_T39 t101 t105).f1, (rd_T39 t101 t105).f2, (⟨(rd_T39 t101 t105).f3.f0, (rd_T39 t101 t105).f3.f1, (rd_T39 t101 t105).f3.f2, (rd_T39 t101 t105).f3.f3⟩ : S37), t124, (rd_T39 t101 t105).f5, (rd_T39 t101 t105).f6, (rd_T39 t101 t105).f7, (rd_T39 t101 t105).f8⟩ : S39)) := ⟨_, rfl⟩
   replace H : (some (y126, t125)) = some (r1, r2) := by first | (rw [hy126];with_reducible exact H) | (have H2_ := (Option.bind_some _ _).symm.trans H;rw [hy126];with_reducible exact H2_) | (have H2_ := (Option.bind_some _ _).symm.trans H;with_reducible exact H2_) | with_reducible exact H | (rw [hy126];exact H) | exact H
   have Ny126 := m0_ hy126
   clear hy126
   simp only [Option.some.injEq, Prod.mk.injEq] at H
   obtain ⟨rfl, rfl⟩ := H
   go_enter Try.func66, Try.ntmps66
   go_wp2_with (first | ((with_reducible refine gate_callee (f := 96) rfl ?_);refine goesL_ (some 6) rfl rfl Try.func96 (by kernel_rfl) rfl #[.pointer (some ⟨g, 0, none⟩)] rfl (by (try simp only [List.map_toArray, List.map_cons, List.map_nil]);first | done | rfl | (simp only [List.length_drop, List.length_take];rfl)) ?_;(with_reducible refine (spec_l8Rules.calls k g s0_0 s0_1 t101 t104 w0 _ ?side1 ?side2 A2.out).mono ?_);(case side1 => repeat (first | (with_reducible first | exact HI0.out | apply IsS127.alloc | apply IsS127.drewN | apply IsS127.drew | apply IsS127.set_1) | exact HI0.out));(case side2 => repeat (first | (with_reducible first | exact HB.out | apply below_alloc | apply pw_below_drewN | apply below_drew1 | refine below_set ?_ (IsS127.ge HI0.out)) | exact HB.out));rintro e w43 ⟨v102, rfl, ho0, hi, hb, hk⟩;refine ⟨_, rfl, ?_⟩;have HO103 := m0_ (Kd.N_lower (Kd.N_mono (ok' := fun k_ => (w.heap.size ≤ k_) ∧ k_ ≠ g) (Kd.R_N (Kd.R_bound ho0)) (fun k_ hk_ => ⟨(Nat.le_trans (keep_size (w := w) (g := g) (row := none) (by repeat (first | (with_reducible first | exact HK.out | apply KeepBut.set_ | apply keep_drewN | apply keep_drew | apply keep_alloc) | exact HK.out))) hk_.2.1), (IsS127.fresh (by repeat (first | (with_reducible first | exact HI0.out | apply IsS127.alloc | apply IsS127.drewN | apply IsS127.drew | apply IsS127.set_1) | exact HI0.out)) k_ hk_.2.1)⟩)) (keep_size (w := w) (g := g) (row := none) (by repeat (first | (with_reducible first | exact HK.out | apply KeepBut.set_ | apply keep_drewN | apply keep_drew | apply keep_alloc) | exact HK.out))));replace HK := m0_ (KeepBut.trans (by repeat (first | (with_reducible first | exact HK.out | apply KeepBut.set_ | apply keep_drewN | apply keep_drew | apply keep_alloc) | exact HK.out)) hk (.inl rfl));replace HB := m0_ (hb);replace HI0 := m0_ (hi);(try clear hb);(try clear hb2);(try clear hk);(try clear hi);(try clear ho0);obtain ⟨Ao44, co44, eo44⟩ := Kd.N_slice HO103.out;subst eo44) | ((with_reducible refine gate_callee (f := 97) rfl ?_);refine goesL_ (some 14) rfl rfl Try.func97 (by kernel_rfl) rfl #[.pointer (some ⟨g, 0, none⟩), .int .i64 (t101.length : Int)] rfl (by (try simp only [List.map_toArray, List.map_cons, List.map_nil]);first | done | rfl | (simp only [List.length_drop, List.length_take];rfl)) ?_;(with_reducible refine (spec_l14Rd_pick.calls k g s0_0 t104 (t101.length : Int) t105 t106 w0 _ ?side1 ?side2 A6.out).mono ?_);(case side1 => repeat (first | (with_reducible first | exact HI0.out | apply IsS127.alloc | apply IsS127.drewN | apply IsS127.drew | apply IsS127.set_1) | exact HI0.out));(case side2 => repeat (first | (with_reducible first | exact HB.out | apply below_alloc | apply pw_below_drewN | apply below_drew1 | refine below_set ?_ (IsS127.ge HI0.out)) | exact HB.out));rintro e w45 ⟨rfl, hi, hb, hk⟩;refine ⟨_, rfl, ?_⟩;replace HO103 := m0_ (Kd.N_mono (Kd.N_keep (Kd.N_mono (ok := fun k_ => (((w.heap.size ≤ k_)) ∧ k_ ≠ g)) (by exact HO103.out) (fun k_ hk_ => (⟨hk_, hk_.2⟩ : _ ∧ k_ ≠ g))) hk (fun _ h => h.2)) (fun _ h => h.1));replace HK := m0_ (KeepBut.trans (by repeat (first | (with_reducible first | exact HK.out | apply KeepBut.set_ | apply keep_drewN | apply keep_drew | apply keep_alloc) | exact HK.out)) hk (.inl rfl));replace HB := m0_ (hb);replace HI0 := m0_ (hi);(try clear hb);(try clear hb2);(try clear hk);(try clear hi)) | ((with_reducible refine gate_callee (f := 97) rfl ?_);refine goesL_ (some 16) rfl rfl Try.func97 (by kernel_rfl) rfl #[.pointer (some ⟨g, 0, none⟩), .int .i64 60] rfl (by (try simp only [List.map_toArray, List.map_cons, List.map_nil]);first | done | rfl | (simp only [List.length_drop, List.length_take];rfl)) ?_;(with_reducible refine (spec_l14Rd_pick.calls k g s0_0 t106 60 t107 t108 w0 _ ?side1 ?side2 A7.out).mono ?_);(case side1 => repeat (first | (with_reducible first | exact HI0.out | apply IsS127.alloc | apply IsS127.drewN | apply IsS127.drew | apply IsS127.set_1) | exact HI0.out));(case side2 => repeat (first | (with_reducible first | exact HB.out | apply below_alloc | apply pw_below_drewN | apply below_drew1 | refine below_set ?_ (IsS127.ge HI0.out)) | exact HB.out));rintro e w46 ⟨rfl, hi, hb, hk⟩;refine ⟨_, rfl, ?_⟩;replace HO103 := m0_ (Kd.N_mono (Kd.N_keep (Kd.N_mono (ok := fun k_ => (((w.heap.size ≤ k_)) ∧ k_ ≠ g)) (by exact HO103.out) (fun k_ hk_ => (⟨hk_, hk_.2⟩ : _ ∧ k_ ≠ g))) hk (fun _ h => h.2)) (fun _ h => h.1));replace HK := m0_ (KeepBut.trans (by repeat (first | (with_reducible first | exact HK.out | apply KeepBut.set_ | apply keep_drewN | apply keep_drew | apply keep_alloc) | exact HK.out)) hk (.inl rfl));replace HB := m0_ (hb);replace HI0 := m0_ (hi);(try clear hb);(try clear hb2);(try clear hk);(try clear hi)) | ((with_reducible refine gate_dst (N := 40) rfl ?_);refine Kd.R_lit (Kd.int .i64) _ 3 ?hg (N := 40) ?hd (xs := ([(-1), 101] : List Int)) (inner := [.int .i64 (-1), .int .i64 101]) (ok := fun _ => True) (okp := fun _ => True) ?hr ?hp (fun _ hk => hk) trivial (Below.refl _ _) (Nat.le_refl _) (by simp) ?_;(case hd => rfl);(case hg => rfl);(case hr => first | (go_simp;done) | (go_simp;rfl));(case hp => exact (Reps.one (show Kd.M (Kd.int .i64) _ _ _ (-1) [.int .i64 (-1)] from rfl) (Reps.one (show Kd.M (Kd.int .i64) _ _ _ 101 [.int .i64 101] from rfl) (Reps.none _ _))));intro v122 w47 ho48 hb hg_ hnew_;clear hg_ hnew_;(first | rw [← Ny121.out] at ho48 | (simp only [Int.reduceToNat] at ho48;rw [← Ny121.out] at ho48));replace HO103 := m0_ (Kd.N_elder' (by exact HO103.out) (Kd.R_base ho48) hb);have HO123 := m0_ (Kd.R_lower (Kd.R_newM (M := fun k_ => (w.heap.size ≤ k_)) ho48 (keep_size (w := w) (g := g) (row := none) (by repeat (first | (with_reducible first | exact HK.out | apply KeepBut.set_ | apply keep_drewN | apply keep_drew | apply keep_alloc) | exact HK.out))) (fun k_ h_ => h_)) (keep_size (w := w) (g := g) (row := none) (by repeat (first | (with_reducible first | exact HK.out | apply KeepBut.set_ | apply keep_drewN | apply keep_drew | apply keep_alloc) | exact HK.out))));replace HK := m0_ (KeepBut.trans (by repeat (first | (with_reducible first | exact HK.out | apply KeepBut.set_ | apply keep_drewN | apply keep_drew | apply keep_alloc) | exact HK.out)) (KeepBut.of_below hb g none) (.inl rfl));replace HB := m0_ (below_step (by repeat (first | (with_reducible first | exact HB.out | apply below_alloc | apply pw_below_drewN | apply below_drew1 | refine below_set ?_ (IsS127.ge HI0.out)) | exact HB.out)) hb);replace HI0 := m0_ (IsS127.below (by repeat (first | (with_reducible first | exact HI0.out | apply IsS127.alloc | apply IsS127.drewN | apply IsS127.drew | apply IsS127.set_1) | exact HI0.out)) hb);clear hb ho48;obtain ⟨Ao49, co49, eo49⟩ := Kd.R_slice HO123.out;subst eo49) | ((with_reducible refine gate_callee (f := 99) rfl ?_);refine goesL_ (some 41) rfl rfl Try.func99 (by kernel_rfl) rfl #[.pointer (some ⟨g, 0, none⟩), .slice Ao49 y121.length co49] rfl (by (try simp only [List.map_toArray, List.map_cons, List.map_nil]);first | done | rfl | (simp only [List.length_drop, List.length_take];rfl)) ?_;(with_reducible refine (spec_l14Rd_num.calls k g s0_0 t108 _ _ y121 t124 t125 w0 _ ?side1 ?side2 ?side3 ?side4 ?side5 A39.out).mono ?_);(case side1 => repeat (first | (with_reducible first | exact HI0.out | apply IsS127.alloc | apply IsS127.drewN | apply IsS127.drew | apply IsS127.set_1) | exact HI0.out));(case side2 => repeat (first | (with_reducible first | exact HB.out | apply below_alloc | apply pw_below_drewN | apply below_drew1 | refine below_set ?_ (IsS127.ge HI0.out)) | exact HB.out));(case side3 => repeat (first | exact (Kd.R_reads' HO123.out).2.2 | (with_reducible refine Kd.C_alloc ?_ _) | (with_reducible refine Kd.C_drewN ?_ _) | (with_reducible refine Kd.C_drew ?_)));(case side4 => exact (Kd.R_reads' HO123.out).2.1);(case side5 => exact far_slice (IsS127.own_ne HI0.out HO123.out (by decide)));rintro e w50 ⟨rfl, hi, hb, hk⟩;refine ⟨_, rfl, ?_⟩;replace HO103 := m0_ (Kd.N_mono (Kd.N_keep (Kd.N_mono (ok := fun k_ => ((((w.heap.size ≤ k_)) ∧ k_ ≠ g) ∧ some k_ ≠ (.slice Ao49 y121.length co49 : Value).ownBlock)) (by exact HO103.out) (fun k_ hk_ => (⟨hk_, hk_.1.2⟩ : _ ∧ k_ ≠ g))) hk (fun _ h => h.2)) (fun _ h => h.1));replace HO123 := m0_ (Kd.R_mono (Kd.R_keep (IsS127.apart (show IsS127 w0 _ g s0_0 t108 from by repeat (first | (with_reducible first | exact HI0.out | apply IsS127.alloc | apply IsS127.drewN | apply IsS127.drew | apply IsS127.set_1) | exact HI0.out)) (by exact HO123.out) (by decide)) hk (fun _ h => h.2)) (fun _ h => h.1));replace HK := m0_ (KeepBut.trans (by repeat (first | (with_reducible first | exact HK.out | apply KeepBut.set_ | apply keep_drewN | apply keep_drew | apply keep_alloc) | exact HK.out)) hk (.inl rfl));replace HB := m0_ (hb);replace HI0 := m0_ (hi);(try clear hb);(try clear hb2);(try clear hk);(try clear hi);have p42 : 0 ≤ (t105 : Int) := of_decide_eq_true (by first | (with_reducible assumption) | assumption);have q42 : (t105 : Int) < ((t101.length : Int) : Int) := of_decide_eq_true (by first | (with_reducible assumption) | assumption);obtain ⟨go42, co42, eo42, gb42, gl42, cl42, HG42⟩ := Kd.N_form HO103.out (by omega);(first | cases eo42 | (injection eo42 with ea_ en_ ec_;(first | subst ea_ | (injection ea_ with ea_;subst ea_));subst ec_;clear en_));have GB42 := m0_ gb42;have GG42 := m0_ HG42;clear gb42 gl42 HG42;obtain ⟨ce42, hcl42, hM42, hcc42, hfr42⟩ := Kd.N_elem HO103.out z39 (t105 : Int) p42 q42;obtain ⟨ua42_6, uc42_6, rfl, ul42_6, ge42_6⟩ := k39_openF hM42;have hx42_0 : w50.cell? ⟨go42, (t105 : Int).toNat * 12, none⟩ = some (.string ((rd_T39 t101 t105).f0)) := hcc42 0 _ rfl;have hx42_1 : w50.cell? ⟨go42, (t105 : Int).toNat * 12 + 1, none⟩ = some (.int .i64 ((rd_T39 t101 t105).f1)) := hcc42 1 _ rfl;have hx42_2 : w50.cell? ⟨go42, (t105 : Int).toNat * 12 + 2, none⟩ = some (.int .i64 ((rd_T39 t101 t105).f2)) := hcc42 2 _ rfl;have hx42_3 : w50.cell? ⟨go42, (t105 : Int).toNat * 12 + 3, none⟩ = some (.int .i64 ((rd_T39 t101 t105).f3.f0)) := hcc42 3 _ rfl;have hx42_4 : w50.cell? ⟨go42, (t105 : Int).toNat * 12 + 4, none⟩ = some (.int .i64 ((rd_T39 t101 t105).f3.f1)) := hcc42 4 _ rfl;have hx42_5 : w50.cell? ⟨go42, (t105 : Int).toNat * 12 + 5, none⟩ = some (.int .i64 ((rd_T39 t101 t105).f3.f2)) := hcc42 5 _ rfl;have hx42_6 : w50.cell? ⟨go42, (t105 : Int).toNat * 12 + 6, none⟩ = some (.slice ua42_6 ((rd_T39 t101 t105).f3.f3).length uc42_6) := hcc42 6 _ rfl;have hx42_7 : w50.cell? ⟨go42, (t105 : Int).toNat * 12 + 7, none⟩ = some (.int .i64 ((rd_T39 t101 t105).f4)) := hcc42 7 _ rfl;have hx42_8 : w50.cell? ⟨go42, (t105 : Int).toNat * 12 + 8, none⟩ = some (.int .i64 ((rd_T39 t101 t105).f5)) := hcc42 8 _ rfl;have hx42_9 : w50.cell? ⟨go42, (t105 : Int).toNat * 12 + 9, none⟩ = some (.int .i64 ((rd_T39 t101 t105).f6)) := hcc42 9 _ rfl;have hx42_10 : w50.cell? ⟨go42, (t105 : Int).toNat * 12 + 10, none⟩ = some (.int .i64 ((rd_T39 t101 t105).f7)) := hcc42 10 _ rfl;have hx42_11 : w50.cell? ⟨go42, (t105 : Int).toNat * 12 + 11, none⟩ = some (.int .i64 ((rd_T39 t101 t105).f8)) := hcc42 11 _ rfl;have hf42_0 : w50.frozen? ⟨go42, (t105 : Int).toNat * 12, none⟩ = false := hfr42 0;have hf42_1 : w50.frozen? ⟨go42, (t105 : Int).toNat * 12 + 1, none⟩ = false := hfr42 1;have hf42_2 : w50.frozen? ⟨go42, (t105 : Int).toNat * 12 + 2, none⟩ = false := hfr42 2;have hf42_3 : w50.frozen? ⟨go42, (t105 : Int).toNat * 12 + 3, none⟩ = false := hfr42 3;have hf42_4 : w50.frozen? ⟨go42, (t105 : Int).toNat * 12 + 4, none⟩ = false := hfr42 4;have hf42_5 : w50.frozen? ⟨go42, (t105 : Int).toNat * 12 + 5, none⟩ = false := hfr42 5;have hf42_6 : w50.frozen? ⟨go42, (t105 : Int).toNat * 12 + 6, none⟩ = false := hfr42 6;have hf42_7 : w50.frozen? ⟨go42, (t105 : Int).toNat * 12 + 7, none⟩ = false := hfr42 7;have hf42_8 : w50.frozen? ⟨go42, (t105 : Int).toNat * 12 + 8, none⟩ = false := hfr42 8;have hf42_9 : w50.frozen? ⟨go42, (t105 : Int).toNat * 12 + 9, none⟩ = false := hfr42 9;have hf42_10 : w50.frozen? ⟨go42, (t105 : Int).toNat * 12 + 10, none⟩ = false := hfr42 10;have hf42_11 : w50.frozen? ⟨go42, (t105 : Int).toNat * 12 + 11, none⟩ = false := hfr42 11;clear hcl42 hcc42 hfr42 hM42;replace p42 := eq_true p42;replace q42 := eq_true q42;have n_ := m0_ (Kd.N_mono (ok' := (fun k_ => (w.heap.size ≤ k_) ∧ some k_ ≠ (.slice Ao49 y121.length co49 : Value).ownBlock)) HO103.out (fun k_ hk => ⟨hk.1.1, hk.2⟩));clear HO103;have HO103 := n_;clear n_;have HX51 := m0_ (show Kd.N k39 39 w50 w.heap.size (fun k_ => (w.heap.size ≤ k_) ∧ some k_ ≠ (.slice Ao49 y121.length co49 : Value).ownBlock) (.slice (some ⟨go42, 0, none⟩) t101.length co44) t101 from (by exact HO103.out));obtain ⟨ce51, hcl51, hM51, hcc51, hfr51⟩ := Kd.N_elem HX51.out z39 (t105 : Int) (of_decide_eq_true (by first | (with_reducible assumption) | assumption)) (by have h_ : (t105 : Int) < ((t101.length : Int) : Int) := of_decide_eq_true (by first | (with_reducible assumption) | assumption);first | exact h_ | (have e_ := (Kd.N_reads' HO103.out).1;omega) | simpa using h_);obtain ⟨ua51_6, uc51_6, rfl, ul51_6, ge51_6⟩ := k39_openF hM51;have HP51 := Kd.N_seg HX51.out (t105 : Int) (of_decide_eq_true (by first | (with_reducible assumption) | assumption)) (by have h_ : (t105 : Int) < ((t101.length : Int) : Int) := of_decide_eq_true (by first | (with_reducible assumption) | assumption);first | exact h_ | (have e_ := (Kd.N_reads' HO103.out).1;omega) | simpa using h_) (seg := [.int .i64 t124]) (j := 7) hcl51 hcc51 (show 8 ≤ 12 from by decide) (x' := (⟨(rd_T39 t101 t105).f0, (rd_T39 t101 t105).f1, (rd_T39 t101 t105).f2, (⟨(rd_T39 t101 t105).f3.f0, (rd_T39 t101 t105).f3.f1, (rd_T39 t101 t105).f3.f2, (rd_T39 t101 t105).f3.f3⟩ : S37), t124, (rd_T39 t101 t105).f5, (rd_T39 t101 t105).f6, (rd_T39 t101 t105).f7, (rd_T39 t101 t105).f8⟩ : S39)) (k39_mkF _ _ (⟨(rd_T39 t101 t105).f0, (rd_T39 t101 t105).f1, (rd_T39 t101 t105).f2, (⟨(rd_T39 t101 t105).f3.f0, (rd_T39 t101 t105).f3.f1, (rd_T39 t101 t105).f3.f2, (rd_T39 t101 t105).f3.f3⟩ : S37), t124, (rd_T39 t101 t105).f5, (rd_T39 t101 t105).f6, (rd_T39 t101 t105).f7, (rd_T39 t101 t105).f8⟩ : S39) ul51_6 ge51_6) (fun _ hk => hk);have hx51_7 := hcc51 7 _ rfl;(try simp only [show (k39).sz = 12 from rfl, Nat.mul_one, Nat.add_zero] at hx51_7);have hf51_7 := hfr51 7;(try simp only [show (k39).sz = 12 from rfl, Nat.mul_one, Nat.add_zero] at hf51_7);clear hcl51 hcc51 hfr51 hM51) | ((with_reducible refine gate_store (t := 3) (p := 43) rfl ?_);refine store_event (t := 3) (p := 43) (v := ?vo_w52) (w1 := (w50.setCell ⟨go42, (t105 : Int).toNat * 12 + 7, none⟩ (.int .i64 t124))) ?hg ?ho ?hn ?hr ?_;(case ho => rfl);(case hg => rfl);(case hn => rfl);(case hr => first | (go_simp;done) | (go_simp;rfl));intro w52 hw;have hg : w50.grownBy w52 (some go42) := (by rw [hw];exact HP51.2);have hp_ : Kd.N k39 39 w52 w.heap.size (fun k_ => (w.heap.size ≤ k_) ∧ some k_ ≠ (.slice Ao49 y121.length co49 : Value).ownBlock) (.slice (some ⟨go42, 0, none⟩) t101.length co44) y126 := (by rw [hw, Ny126.out];exact HP51.1);clear HP51;replace HI0 := m0_ (IsS127.grown (by repeat (first | (with_reducible first | exact HI0.out | apply IsS127.alloc | apply IsS127.drewN | apply IsS127.drew | apply IsS127.set_1) | exact HI0.out)) hg (IsS127.own_neN HI0.out HO103.out (by decide)));replace HO123 := m0_ (Kd.R_over' (v := (.slice (some ⟨go42, 0, none⟩) t101.length co44)) (by exact HO123.out) (Kd.N_typed HO103.out) (by decide) hg);replace HB := m0_ ((by rw [hw];exact below_set (HB.out) (Nat.le_trans HL.out GB42.out) : Below w0.heap.size w0 w52));replace HK := m0_ (KeepBut.trans (by repeat (first | (with_reducible first | exact HK.out | apply KeepBut.set_ | apply keep_drewN | apply keep_drew | apply keep_alloc) | exact HK.out)) (KeepBut.of_grown hg g) (Kd.N_base2 HO103.out));replace HO103 := m0_ (hp_);clear hg hw hp_))
   go_ret
   exact ⟨_, by first | rfl | (simp [errW_none, errW_some] <;> rfl) | (simp [*, errW_none, errW_some] <;> rfl), by (with_reducible repeat (first | apply Kd.N_alloc | apply Kd.N_drewN | apply Kd.N_drew));exact Kd.N_mono HO103.out (fun _ hk => hk.1), by repeat (first | (with_reducible first | exact HI0.out | apply IsS127.alloc | apply IsS127.drewN | apply IsS127.drew | apply IsS127.set_1) | exact HI0.out), by repeat (first | (with_reducible first | exact HB.out | apply below_alloc | apply pw_below_drewN | apply below_drew1 | refine below_set ?_ (IsS127.ge HI0.out)) | exact HB.out), by repeat (first | (with_reducible first | exact HK.out | apply KeepBut.set_ | apply keep_drewN | apply keep_drew | apply keep_alloc) | exact HK.out)⟩
  ·rw [if_neg c41] at H
   exact absurd H (by simp)
 rw [if_neg c38] at H
 have c38b0 : (t107 == 2) = false := beq_eq_false_iff_ne.mpr c38
 have c38b1 : (t107 != 2) = true := bne_iff_ne.mpr c38
 by_cases c53 : t107 = 3
 ·rw [if_pos c53] at H
  have c53b0 : (t107 == 3) = true := beq_iff_eq.mpr c53
  have c53b1 : (t107 != 3) = false := bne_eq_false_iff_eq.mpr c53
  clear c53
  by_cases c54 : 0 ≤ t105
  rotate_left
  ·rw [if_neg c54] at H
   exact absurd H (by simp)
  rw [if_pos c54] at H
  have c54b0 : decide (0 ≤ t105) = true := decide_eq_true c54
  clear c54
  by_cases c55 : t105 < (t101.length : Int)
  ·rw [if_pos c55] at H
   have c55b0 : decide (t105 < (t101.length : Int)) = true := decide_eq_true c55
   clear c55
   obtain ⟨y127, hy127⟩ : ∃ y_ : List (S39), y_ = (t101.set (t105 : Int).toNat (⟨(rd_T39 t101 t105).f0, (rd_T39 t101 t105).f1, (rd_T39 t101 t105).f2, (⟨(rd_T39 t101 t105).f3.f0, (rd_T39 t101 t105).f3.f1, (rd_T39 t101 t105).f3.f2, (rd_T39 t101 t105).f3.f3⟩ : S37), (rd_T39 t101 t105).f4, (rd_T39 t101 t105).f5, 4, (rd_T39 t101 t105).f7, (rd_T39 t101 t105).f8⟩ : S39)) := ⟨_, rfl⟩
   replace H : (some (y127, t108)) = some (r1, r2) := by first | (rw [hy127];with_reducible exact H) | (have H2_ := (Option.bind_some _ _).symm.trans H;rw [hy127];with_reducible exact H2_) | (have H2_ := (Option.bind_some _ _).symm.trans H;with_reducible exact H2_) | with_reducible exact H | (rw [hy127];exact H) | exact H
   have Ny127 := m0_ hy127
   clear hy127
   simp only [Option.some.injEq, Prod.mk.injEq] at H
   obtain ⟨rfl, rfl⟩ := H
   go_enter Try.func66, Try.ntmps66
   go_wp2_with (first | ((with_reducible refine gate_callee (f := 96) rfl ?_);refine goesL_ (some 6) rfl rfl Try.func96 (by kernel_rfl) rfl #[.pointer (some ⟨g, 0, none⟩)] rfl (by (try simp only [List.map_toArray, List.map_cons, List.map_nil]);first | done | rfl | (simp only [List.length_drop, List.length_take];rfl)) ?_;(with_reducible refine (spec_l8Rules.calls k g s0_0 s0_1 t101 t104 w0 _ ?side1 ?side2 A2.out).mono ?_);(case side1 => repeat (first | (with_reducible first | exact HI0.out | apply IsS127.alloc | apply IsS127.drewN | apply IsS127.drew | apply IsS127.set_1) | exact HI0.out));(case side2 => repeat (first | (with_reducible first | exact HB.out | apply below_alloc | apply pw_below_drewN | apply below_drew1 | refine below_set ?_ (IsS127.ge HI0.out)) | exact HB.out));rintro e w57 ⟨v102, rfl, ho0, hi, hb, hk⟩;refine ⟨_, rfl, ?_⟩;have HO103 := m0_ (Kd.N_lower (Kd.N_mono (ok' := fun k_ => (w.heap.size ≤ k_) ∧ k_ ≠ g) (Kd.R_N (Kd.R_bound ho0)) (fun k_ hk_ => ⟨(Nat.le_trans (keep_size (w := w) (g := g) (row := none) (by repeat (first | (with_reducible first | exact HK.out | apply KeepBut.set_ | apply keep_drewN | apply keep_drew | apply keep_alloc) | exact HK.out))) hk_.2.1), (IsS127.fresh (by repeat (first | (with_reducible first | exact HI0.out | apply IsS127.alloc | apply IsS127.drewN | apply IsS127.drew | apply IsS127.set_1) | exact HI0.out)) k_ hk_.2.1)⟩)) (keep_size (w := w) (g := g) (row := none) (by repeat (first | (with_reducible first | exact HK.out | apply KeepBut.set_ | apply keep_drewN | apply keep_drew | apply keep_alloc) | exact HK.out))));replace HK := m0_ (KeepBut.trans (by repeat (first | (with_reducible first | exact HK.out | apply KeepBut.set_ | apply keep_drewN | apply keep_drew | apply keep_alloc) | exact HK.out)) hk (.inl rfl));replace HB := m0_ (hb);replace HI0 := m0_ (hi);(try clear hb);(try clear hb2);(try clear hk);(try clear hi);(try clear ho0);obtain ⟨Ao58, co58, eo58⟩ := Kd.N_slice HO103.out;subst eo58) | ((with_reducible refine gate_callee (f := 97) rfl ?_);refine goesL_ (some 14) rfl rfl Try.func97 (by kernel_rfl) rfl #[.pointer (some ⟨g, 0, none⟩), .int .i64 (t101.length : Int)] rfl (by (try simp only [List.map_toArray, List.map_cons, List.map_nil]);first | done | rfl | (simp only [List.length_drop, List.length_take];rfl)) ?_;(with_reducible refine (spec_l14Rd_pick.calls k g s0_0 t104 (t101.length : Int) t105 t106 w0 _ ?side1 ?side2 A6.out).mono ?_);(case side1 => repeat (first | (with_reducible first | exact HI0.out | apply IsS127.alloc | apply IsS127.drewN | apply IsS127.drew | apply IsS127.set_1) | exact HI0.out));(case side2 => repeat (first | (with_reducible first | exact HB.out | apply below_alloc | apply pw_below_drewN | apply below_drew1 | refine below_set ?_ (IsS127.ge HI0.out)) | exact HB.out));rintro e w59 ⟨rfl, hi, hb, hk⟩;refine ⟨_, rfl, ?_⟩;replace HO103 := m0_ (Kd.N_mono (Kd.N_keep (Kd.N_mono (ok := fun k_ => (((w.heap.size ≤ k_)) ∧ k_ ≠ g)) (by exact HO103.out) (fun k_ hk_ => (⟨hk_, hk_.2⟩ : _ ∧ k_ ≠ g))) hk (fun _ h => h.2)) (fun _ h => h.1));replace HK := m0_ (KeepBut.trans (by repeat (first | (with_reducible first | exact HK.out | apply KeepBut.set_ | apply keep_drewN | apply keep_drew | apply keep_alloc) | exact HK.out)) hk (.inl rfl));replace HB := m0_ (hb);replace HI0 := m0_ (hi);(try clear hb);(try clear hb2);(try clear hk);(try clear hi)) | ((with_reducible refine gate_callee (f := 97) rfl ?_);refine goesL_ (some 16) rfl rfl Try.func97 (by kernel_rfl) rfl #[.pointer (some ⟨g, 0, none⟩), .int .i64 60] rfl (by (try simp only [List.map_toArray, List.map_cons, List.map_nil]);first | done | rfl | (simp only [List.length_drop, List.length_take];rfl)) ?_;(with_reducible refine (spec_l14Rd_pick.calls k g s0_0 t106 60 t107 t108 w0 _ ?side1 ?side2 A7.out).mono ?_);(case side1 => repeat (first | (with_reducible first | exact HI0.out | apply IsS127.alloc | apply IsS127.drewN | apply IsS127.drew | apply IsS127.set_1) | exact HI0.out));(case side2 => repeat (first | (with_reducible first | exact HB.out | apply below_alloc | apply pw_below_drewN | apply below_drew1 | refine below_set ?_ (IsS127.ge HI0.out)) | exact HB.out));rintro e w60 ⟨rfl, hi, hb, hk⟩;refine ⟨_, rfl, ?_⟩;replace HO103 := m0_ (Kd.N_mono (Kd.N_keep (Kd.N_mono (ok := fun k_ => (((w.heap.size ≤ k_)) ∧ k_ ≠ g)) (by exact HO103.out) (fun k_ hk_ => (⟨hk_, hk_.2⟩ : _ ∧ k_ ≠ g))) hk (fun _ h => h.2)) (fun _ h => h.1));replace HK := m0_ (KeepBut.trans (by repeat (first | (with_reducible first | exact HK.out | apply KeepBut.set_ | apply keep_drewN | apply keep_drew | apply keep_alloc) | exact HK.out)) hk (.inl rfl));replace HB := m0_ (hb);replace HI0 := m0_ (hi);(try clear hb);(try clear hb2);(try clear hk);(try clear hi);have p56 : 0 ≤ (t105 : Int) := of_decide_eq_true (by first | (with_reducible assumption) | assumption);have q56 : (t105 : Int) < ((t101.length : Int) : Int) := of_decide_eq_true (by first | (with_reducible assumption) | assumption);obtain ⟨go56, co56, eo56, gb56, gl56, cl56, HG56⟩ := Kd.N_form HO103.out (by omega);(first | cases eo56 | (injection eo56 with ea_ en_ ec_;(first | subst ea_ | (injection ea_ with ea_;subst ea_));subst ec_;clear en_));have GB56 := m0_ gb56;have GG56 := m0_ HG56;clear gb56 gl56 HG56;obtain ⟨ce56, hcl56, hM56, hcc56, hfr56⟩ := Kd.N_elem HO103.out z39 (t105 : Int) p56 q56;obtain ⟨ua56_6, uc56_6, rfl, ul56_6, ge56_6⟩ := k39_openF hM56;have hx56_0 : w60.cell? ⟨go56, (t105 : Int).toNat * 12, none⟩ = some (.string ((rd_T39 t101 t105).f0)) := hcc56 0 _ rfl;have hx56_1 : w60.cell? ⟨go56, (t105 : Int).toNat * 12 + 1, none⟩ = some (.int .i64 ((rd_T39 t101 t105).f1)) := hcc56 1 _ rfl;have hx56_2 : w60.cell? ⟨go56, (t105 : Int).toNat * 12 + 2, none⟩ = some (.int .i64 ((rd_T39 t101 t105).f2)) := hcc56 2 _ rfl;have hx56_3 : w60.cell? ⟨go56, (t105 : Int).toNat * 12 + 3, none⟩ = some (.int .i64 ((rd_T39 t101 t105).f3.f0)) := hcc56 3 _ rfl;have hx56_4 : w60.cell? ⟨go56, (t105 : Int).toNat * 12 + 4, none⟩ = some (.int .i64 ((rd_T39 t101 t105).f3.f1)) := hcc56 4 _ rfl;have hx56_5 : w60.cell? ⟨go56, (t105 : Int).toNat * 12 + 5, none⟩ = some (.int .i64 ((rd_T39 t101 t105).f3.f2)) := hcc56 5 _ rfl;have hx56_6 : w60.cell? ⟨go56, (t105 : Int).toNat * 12 + 6, none⟩ = some (.slice ua56_6 ((rd_T39 t101 t105).f3.f3).length uc56_6) := hcc56 6 _ rfl;have hx56_7 : w60.cell? ⟨go56, (t105 : Int).toNat * 12 + 7, none⟩ = some (.int .i64 ((rd_T39 t101 t105).f4)) := hcc56 7 _ rfl;have hx56_8 : w60.cell? ⟨go56, (t105 : Int).toNat * 12 + 8, none⟩ = some (.int .i64 ((rd_T39 t101 t105).f5)) := hcc56 8 _ rfl;have hx56_9 : w60.cell? ⟨go56, (t105 : Int).toNat * 12 + 9, none⟩ = some (.int .i64 ((rd_T39 t101 t105).f6)) := hcc56 9 _ rfl;have hx56_10 : w60.cell? ⟨go56, (t105 : Int).toNat * 12 + 10, none⟩ = some (.int .i64 ((rd_T39 t101 t105).f7)) := hcc56 10 _ rfl;have hx56_11 : w60.cell? ⟨go56, (t105 : Int).toNat * 12 + 11, none⟩ = some (.int .i64 ((rd_T39 t101 t105).f8)) := hcc56 11 _ rfl;have hf56_0 : w60.frozen? ⟨go56, (t105 : Int).toNat * 12, none⟩ = false := hfr56 0;have hf56_1 : w60.frozen? ⟨go56, (t105 : Int).toNat * 12 + 1, none⟩ = false := hfr56 1;have hf56_2 : w60.frozen? ⟨go56, (t105 : Int).toNat * 12 + 2, none⟩ = false := hfr56 2;have hf56_3 : w60.frozen? ⟨go56, (t105 : Int).toNat * 12 + 3, none⟩ = false := hfr56 3;have hf56_4 : w60.frozen? ⟨go56, (t105 : Int).toNat * 12 + 4, none⟩ = false := hfr56 4;have hf56_5 : w60.frozen? ⟨go56, (t105 : Int).toNat * 12 + 5, none⟩ = false := hfr56 5;have hf56_6 : w60.frozen? ⟨go56, (t105 : Int).toNat * 12 + 6, none⟩ = false := hfr56 6;have hf56_7 : w60.frozen? ⟨go56, (t105 : Int).toNat * 12 + 7, none⟩ = false := hfr56 7;have hf56_8 : w60.frozen? ⟨go56, (t105 : Int).toNat * 12 + 8, none⟩ = false := hfr56 8;have hf56_9 : w60.frozen? ⟨go56, (t105 : Int).toNat * 12 + 9, none⟩ = false := hfr56 9;have hf56_10 : w60.frozen? ⟨go56, (t105 : Int).toNat * 12 + 10, none⟩ = false := hfr56 10;have hf56_11 : w60.frozen? ⟨go56, (t105 : Int).toNat * 12 + 11, none⟩ = false := hfr56 11;clear hcl56 hcc56 hfr56 hM56;replace p56 := eq_true p56;replace q56 := eq_true q56;have HX61 := m0_ (show Kd.N k39 39 w60 w.heap.size (fun k_ => (w.heap.size ≤ k_) ∧ k_ ≠ g) (.slice (some ⟨go56, 0, none⟩) t101.length co58) t101 from (by exact HO103.out));obtain ⟨ce61, hcl61, hM61, hcc61, hfr61⟩ := Kd.N_elem HX61.out z39 (t105 : Int) (of_decide_eq_true (by first | (with_reducible assumption) | assumption)) (by have h_ : (t105 : Int) < ((t101.length : Int) : Int) := of_decide_eq_true (by first | (with_reducible assumption) | assumption);first | exact h_ | (have e_ := (Kd.N_reads' HO103.out).1;omega) | simpa using h_);obtain ⟨ua61_6, uc61_6, rfl, ul61_6, ge61_6⟩ := k39_openF hM61;have HP61 := Kd.N_seg HX61.out (t105 : Int) (of_decide_eq_true (by first | (with_reducible assumption) | assumption)) (by have h_ : (t105 : Int) < ((t101.length : Int) : Int) := of_decide_eq_true (by first | (with_reducible assumption) | assumption);first | exact h_ | (have e_ := (Kd.N_reads' HO103.out).1;omega) | simpa using h_) (seg := [.int .i64 4]) (j := 9) hcl61 hcc61 (show 10 ≤ 12 from by decide) (x' := (⟨(rd_T39 t101 t105).f0, (rd_T39 t101 t105).f1, (rd_T39 t101 t105).f2, (⟨(rd_T39 t101 t105).f3.f0, (rd_T39 t101 t105).f3.f1, (rd_T39 t101 t105).f3.f2, (rd_T39 t101 t105).f3.f3⟩ : S37), (rd_T39 t101 t105).f4, (rd_T39 t101 t105).f5, 4, (rd_T39 t101 t105).f7, (rd_T39 t101 t105).f8⟩ : S39)) (k39_mkF _ _ (⟨(rd_T39 t101 t105).f0, (rd_T39 t101 t105).f1, (rd_T39 t101 t105).f2, (⟨(rd_T39 t101 t105).f3.f0, (rd_T39 t101 t105).f3.f1, (rd_T39 t101 t105).f3.f2, (rd_T39 t101 t105).f3.f3⟩ : S37), (rd_T39 t101 t105).f4, (rd_T39 t101 t105).f5, 4, (rd_T39 t101 t105).f7, (rd_T39 t101 t105).f8⟩ : S39) ul61_6 ge61_6) (fun _ hk => hk);have hx61_9 := hcc61 9 _ rfl;(try simp only [show (k39).sz = 12 from rfl, Nat.mul_one, Nat.add_zero] at hx61_9);have hf61_9 := hfr61 9;(try simp only [show (k39).sz = 12 from rfl, Nat.mul_one, Nat.add_zero] at hf61_9);clear hcl61 hcc61 hfr61 hM61) | ((with_reducible refine gate_store (t := 3) (p := 49) rfl ?_);refine store_event (t := 3) (p := 49) (v := ?vo_w62) (w1 := (w60.setCell ⟨go56, (t105 : Int).toNat * 12 + 9, none⟩ (.int .i64 4))) ?hg ?ho ?hn ?hr ?_;(case ho => rfl);(case hg => rfl);(case hn => rfl);(case hr => first | (go_simp;done) | (go_simp;rfl));intro w62 hw;have hg : w60.grownBy w62 (some go56) := (by rw [hw];exact HP61.2);have hp_ : Kd.N k39 39 w62 w.heap.size (fun k_ => (w.heap.size ≤ k_) ∧ k_ ≠ g) (.slice (some ⟨go56, 0, none⟩) t101.length co58) y127 := (by rw [hw, Ny127.out];exact HP61.1);clear HP61;replace HI0 := m0_ (IsS127.grown (by repeat (first | (with_reducible first | exact HI0.out | apply IsS127.alloc | apply IsS127.drewN | apply IsS127.drew | apply IsS127.set_1) | exact HI0.out)) hg (IsS127.own_neN HI0.out HO103.out (by decide)));replace HB := m0_ ((by rw [hw];exact below_set (HB.out) (Nat.le_trans HL.out GB56.out) : Below w0.heap.size w0 w62));replace HK := m0_ (KeepBut.trans (by repeat (first | (with_reducible first | exact HK.out | apply KeepBut.set_ | apply keep_drewN | apply keep_drew | apply keep_alloc) | exact HK.out)) (KeepBut.of_grown hg g) (Kd.N_base2 HO103.out));replace HO103 := m0_ (hp_);clear hg hw hp_))
   go_ret
   exact ⟨_, by first | rfl | (simp [errW_none, errW_some] <;> rfl) | (simp [*, errW_none, errW_some] <;> rfl), by (with_reducible repeat (first | apply Kd.N_alloc | apply Kd.N_drewN | apply Kd.N_drew));exact Kd.N_mono HO103.out (fun _ hk => hk.1), by repeat (first | (with_reducible first | exact HI0.out | apply IsS127.alloc | apply IsS127.drewN | apply IsS127.drew | apply IsS127.set_1) | exact HI0.out), by repeat (first | (with_reducible first | exact HB.out | apply below_alloc | apply pw_below_drewN | apply below_drew1 | refine below_set ?_ (IsS127.ge HI0.out)) | exact HB.out), by repeat (first | (with_reducible first | exact HK.out | apply KeepBut.set_ | apply keep_drewN | apply keep_drew | apply keep_alloc) | exact HK.out)⟩
  ·rw [if_neg c55] at H
   exact absurd H (by simp)
 rw [if_neg c53] at H
 have c53b0 : (t107 == 3) = false := beq_eq_false_iff_ne.mpr c53
 have c53b1 : (t107 != 3) = true := bne_iff_ne.mpr c53
 by_cases c63 : t107 = 4
 ·rw [if_pos c63] at H
  have c63b0 : (t107 == 4) = true := beq_iff_eq.mpr c63
  have c63b1 : (t107 != 4) = false := bne_eq_false_iff_eq.mpr c63
  clear c63
  obtain ⟨y128, hy128⟩ : ∃ y_ : List Int, y_ = (([(-10), 10, (-9)] : List Int)) := ⟨_, rfl⟩
  replace H : ((spec_l14Rd_num.f k s0_0 t108 y128).bind fun bt131 => (if 0 ≤ t105 then (if t105 < (t101.length : Int) then (some ((t101.set (t105 : Int).toNat (⟨(rd_T39 t101 t105).f0, (rd_T39 t101 t105).f1, (rd_T39 t101 t105).f2, (⟨(rd_T39 t101 t105).f3.f0, (rd_T39 t101 t105).f3.f1, (rd_T39 t101 t105).f3.f2, (rd_T39 t101 t105).f3.f3⟩ : S37), (rd_T39 t101 t105).f4, (rd_T39 t101 t105).f5, (rd_T39 t101 t105).f6, bt131.1, (rd_T39 t101 t105).f8⟩ : S39)), bt131.2)) else (none)) else (none))) = some (r1, r2) := by first | (rw [hy128];with_reducible exact H) | (have H2_ := (Option.bind_some _ _).symm.trans H;rw [hy128];with_reducible exact H2_) | (have H2_ := (Option.bind_some _ _).symm.trans H;with_reducible exact H2_) | with_reducible exact H | (rw [hy128];exact H) | exact H
  have Ny128 := m0_ hy128
  clear hy128
  replace H := Option.bind_eq_some_iff.mp H
  obtain ⟨⟨t131, t132⟩, A640, H⟩ := H
  replace H : (if 0 ≤ t105 then (if t105 < (t101.length : Int) then (some ((t101.set (t105 : Int).toNat (⟨(rd_T39 t101 t105).f0, (rd_T39 t101 t105).f1, (rd_T39 t101 t105).f2, (⟨(rd_T39 t101 t105).f3.f0, (rd_T39 t101 t105).f3.f1, (rd_T39 t101 t105).f3.f2, (rd_T39 t101 t105).f3.f3⟩ : S37), (rd_T39 t101 t105).f4, (rd_T39 t101 t105).f5, (rd_T39 t101 t105).f6, t131, (rd_T39 t101 t105).f8⟩ : S39)), t132)) else (none)) else (none)) = some (r1, r2) := H
  have A64 := m0_ A640
  clear A640
  by_cases c65 : 0 ≤ t105
  rotate_left
  ·rw [if_neg c65] at H
   exact absurd H (by simp)
  rw [if_pos c65] at H
  have c65b0 : decide (0 ≤ t105) = true := decide_eq_true c65
  clear c65
  by_cases c66 : t105 < (t101.length : Int)
  ·rw [if_pos c66] at H
   have c66b0 : decide (t105 < (t101.length : Int)) = true := decide_eq_true c66
   clear c66
   obtain ⟨y133, hy133⟩ : ∃ y_ : List (S39), y_ = (t101.set (t105 : Int).toNat (⟨(rd_T39 t101 t105).f0, (rd_T39 t101 t105).f1, (rd_T39 t101 t105).f2, (⟨(rd_T39 t101 t105).f3.f0, (rd_T39 t101 t105).f3.f1, (rd_T39 t101 t105).f3.f2, (rd_T39 t101 t105).f3.f3⟩ : S37), (rd_T39 t101 t105).f4, (rd_T39 t101 t105).f5, (rd_T39 t101 t105).f6, t131, (rd_T39 t101 t105).f8⟩ : S39)) := ⟨_, rfl⟩
   replace H : (some (y133, t132)) = some (r1, r2) := by first | (rw [hy133];with_reducible exact H) | (have H2_ := (Option.bind_some _ _).symm.trans H;rw [hy133];with_reducible exact H2_) | (have H2_ := (Option.bind_some _ _).symm.trans H;with_reducible exact H2_) | with_reducible exact H | (rw [hy133];exact H) | exact H
   have Ny133 := m0_ hy133
   clear hy133
   simp only [Option.some.injEq, Prod.mk.injEq] at H
   obtain ⟨rfl, rfl⟩ := H
   go_enter Try.func66, Try.ntmps66
   go_wp2_with (first | ((with_reducible refine gate_callee (f := 96) rfl ?_);refine goesL_ (some 6) rfl rfl Try.func96 (by kernel_rfl) rfl #[.pointer (some ⟨g, 0, none⟩)] rfl (by (try simp only [List.map_toArray, List.map_cons, List.map_nil]);first | done | rfl | (simp only [List.length_drop, List.length_take];rfl)) ?_;(with_reducible refine (spec_l8Rules.calls k g s0_0 s0_1 t101 t104 w0 _ ?side1 ?side2 A2.out).mono ?_);(case side1 => repeat (first | (with_reducible first | exact HI0.out | apply IsS127.alloc | apply IsS127.drewN | apply IsS127.drew | apply IsS127.set_1) | exact HI0.out));(case side2 => repeat (first | (with_reducible first | exact HB.out | apply below_alloc | apply pw_below_drewN | apply below_drew1 | refine below_set ?_ (IsS127.ge HI0.out)) | exact HB.out));rintro e w68 ⟨v102, rfl, ho0, hi, hb, hk⟩;refine ⟨_, rfl, ?_⟩;have HO103 := m0_ (Kd.N_lower (Kd.N_mono (ok' := fun k_ => (w.heap.size ≤ k_) ∧ k_ ≠ g) (Kd.R_N (Kd.R_bound ho0)) (fun k_ hk_ => ⟨(Nat.le_trans (keep_size (w := w) (g := g) (row := none) (by repeat (first | (with_reducible first | exact HK.out | apply KeepBut.set_ | apply keep_drewN | apply keep_drew | apply keep_alloc) | exact HK.out))) hk_.2.1), (IsS127.fresh (by repeat (first | (with_reducible first | exact HI0.out | apply IsS127.alloc | apply IsS127.drewN | apply IsS127.drew | apply IsS127.set_1) | exact HI0.out)) k_ hk_.2.1)⟩)) (keep_size (w := w) (g := g) (row := none) (by repeat (first | (with_reducible first | exact HK.out | apply KeepBut.set_ | apply keep_drewN | apply keep_drew | apply keep_alloc) | exact HK.out))));replace HK := m0_ (KeepBut.trans (by repeat (first | (with_reducible first | exact HK.out | apply KeepBut.set_ | apply keep_drewN | apply keep_drew | apply keep_alloc) | exact HK.out)) hk (.inl rfl));replace HB := m0_ (hb);replace HI0 := m0_ (hi);(try clear hb);(try clear hb2);(try clear hk);(try clear hi);(try clear ho0);obtain ⟨Ao69, co69, eo69⟩ := Kd.N_slice HO103.out;subst eo69) | ((with_reducible refine gate_callee (f := 97) rfl ?_);refine goesL_ (some 14) rfl rfl Try.func97 (by kernel_rfl) rfl #[.pointer (some ⟨g, 0, none⟩), .int .i64 (t101.length : Int)] rfl (by (try simp only [List.map_toArray, List.map_cons, List.map_nil]);first | done | rfl | (simp only [List.length_drop, List.length_take];rfl)) ?_;(with_reducible refine (spec_l14Rd_pick.calls k g s0_0 t104 (t101.length : Int) t105 t106 w0 _ ?side1 ?side2 A6.out).mono ?_);(case side1 => repeat (first | (with_reducible first | exact HI0.out | apply IsS127.alloc | apply IsS127.drewN | apply IsS127.drew | apply IsS127.set_1) | exact HI0.out));(case side2 => repeat (first | (with_reducible first | exact HB.out | apply below_alloc | apply pw_below_drewN | apply below_drew1 | refine below_set ?_ (IsS127.ge HI0.out)) | exact HB.out));rintro e w70 ⟨rfl, hi, hb, hk⟩;refine ⟨_, rfl, ?_⟩;replace HO103 := m0_ (Kd.N_mono (Kd.N_keep (Kd.N_mono (ok := fun k_ => (((w.heap.size ≤ k_)) ∧ k_ ≠ g)) (by exact HO103.out) (fun k_ hk_ => (⟨hk_, hk_.2⟩ : _ ∧ k_ ≠ g))) hk (fun _ h => h.2)) (fun _ h => h.1));replace HK := m0_ (KeepBut.trans (by repeat (first | (with_reducible first | exact HK.out | apply KeepBut.set_ | apply keep_drewN | apply keep_drew | apply keep_alloc) | exact HK.out)) hk (.inl rfl));replace HB := m0_ (hb);replace HI0 := m0_ (hi);(try clear hb);(try clear hb2);(try clear hk);(try clear hi)) | ((with_reducible refine gate_callee (f := 97) rfl ?_);refine goesL_ (some 16) rfl rfl Try.func97 (by kernel_rfl) rfl #[.pointer (some ⟨g, 0, none⟩), .int .i64 60] rfl (by (try simp only [List.map_toArray, List.map_cons, List.map_nil]);first | done | rfl | (simp only [List.length_drop, List.length_take];rfl)) ?_;(with_reducible refine (spec_l14Rd_pick.calls k g s0_0 t106 60 t107 t108 w0 _ ?side1 ?side2 A7.out).mono ?_);(case side1 => repeat (first | (with_reducible first | exact HI0.out | apply IsS127.alloc | apply IsS127.drewN | apply IsS127.drew | apply IsS127.set_1) | exact HI0.out));(case side2 => repeat (first | (with_reducible first | exact HB.out | apply below_alloc | apply pw_below_drewN | apply below_drew1 | refine below_set ?_ (IsS127.ge HI0.out)) | exact HB.out));rintro e w71 ⟨rfl, hi, hb, hk⟩;refine ⟨_, rfl, ?_⟩;replace HO103 := m0_ (Kd.N_mono (Kd.N_keep (Kd.N_mono (ok := fun k_ => (((w.heap.size ≤ k_)) ∧ k_ ≠ g)) (by exact HO103.out) (fun k_ hk_ => (⟨hk_, hk_.2⟩ : _ ∧ k_ ≠ g))) hk (fun _ h => h.2)) (fun _ h => h.1));replace HK := m0_ (KeepBut.trans (by repeat (first | (with_reducible first | exact HK.out | apply KeepBut.set_ | apply keep_drewN | apply keep_drew | apply keep_alloc) | exact HK.out)) hk (.inl rfl));replace HB := m0_ (hb);replace HI0 := m0_ (hi);(try clear hb);(try clear hb2);(try clear hk);(try clear hi)) | ((with_reducible refine gate_dst (N := 55) rfl ?_);refine Kd.R_lit (Kd.int .i64) _ 3 ?hg (N := 55) ?hd (xs := ([(-10), 10, (-9)] : List Int)) (inner := [.int .i64 (-10), .int .i64 10, .int .i64 (-9)]) (ok := fun _ => True) (okp := fun _ => True) ?hr ?hp (fun _ hk => hk) trivial (Below.refl _ _) (Nat.le_refl _) (by simp) ?_;(case hd => rfl);(case hg => rfl);(case hr => first | (go_simp;done) | (go_simp;rfl));(case hp => exact (Reps.one (show Kd.M (Kd.int .i64) _ _ _ (-10) [.int .i64 (-10)] from rfl) (Reps.one (show Kd.M (Kd.int .i64) _ _ _ 10 [.int .i64 10] from rfl) (Reps.one (show Kd.M (Kd.int .i64) _ _ _ (-9) [.int .i64 (-9)] from rfl) (Reps.none _ _)))));intro v129 w72 ho73 hb hg_ hnew_;clear hg_ hnew_;(first | rw [← Ny128.out] at ho73 | (simp only [Int.reduceToNat] at ho73;rw [← Ny128.out] at ho73));replace HO103 := m0_ (Kd.N_elder' (by exact HO103.out) (Kd.R_base ho73) hb);have HO130 := m0_ (Kd.R_lower (Kd.R_newM (M := fun k_ => (w.heap.size ≤ k_)) ho73 (keep_size (w := w) (g := g) (row := none) (by repeat (first | (with_reducible first | exact HK.out | apply KeepBut.set_ | apply keep_drewN | apply keep_drew | apply keep_alloc) | exact HK.out))) (fun k_ h_ => h_)) (keep_size (w := w) (g := g) (row := none) (by repeat (first | (with_reducible first | exact HK.out | apply KeepBut.set_ | apply keep_drewN | apply keep_drew | apply keep_alloc) | exact HK.out))));replace HK := m0_ (KeepBut.trans (by repeat (first | (with_reducible first | exact HK.out | apply KeepBut.set_ | apply keep_drewN | apply keep_drew | apply keep_alloc) | exact HK.out)) (KeepBut.of_below hb g none) (.inl rfl));replace HB := m0_ (below_step (by repeat (first | (with_reducible first | exact HB.out | apply below_alloc | apply pw_below_drewN | apply below_drew1 | refine below_set ?_ (IsS127.ge HI0.out)) | exact HB.out)) hb);replace HI0 := m0_ (IsS127.below (by repeat (first | (with_reducible first | exact HI0.out | apply IsS127.alloc | apply IsS127.drewN | apply IsS127.drew | apply IsS127.set_1) | exact HI0.out)) hb);clear hb ho73;obtain ⟨Ao74, co74, eo74⟩ := Kd.R_slice HO130.out;subst eo74) | ((with_reducible refine gate_callee (f := 99) rfl ?_);refine goesL_ (some 56) rfl rfl Try.func99 (by kernel_rfl) rfl #[.pointer (some ⟨g, 0, none⟩), .slice Ao74 y128.length co74] rfl (by (try simp only [List.map_toArray, List.map_cons, List.map_nil]);first | done | rfl | (simp only [List.length_drop, List.length_take];rfl)) ?_;(with_reducible refine (spec_l14Rd_num.calls k g s0_0 t108 _ _ y128 t131 t132 w0 _ ?side1 ?side2 ?side3 ?side4 ?side5 A64.out).mono ?_);(case side1 => repeat (first | (with_reducible first | exact HI0.out | apply IsS127.alloc | apply IsS127.drewN | apply IsS127.drew | apply IsS127.set_1) | exact HI0.out));(case side2 => repeat (first | (with_reducible first | exact HB.out | apply below_alloc | apply pw_below_drewN | apply below_drew1 | refine below_set ?_ (IsS127.ge HI0.out)) | exact HB.out));(case side3 => repeat (first | exact (Kd.R_reads' HO130.out).2.2 | (with_reducible refine Kd.C_alloc ?_ _) | (with_reducible refine Kd.C_drewN ?_ _) | (with_reducible refine Kd.C_drew ?_)));(case side4 => exact (Kd.R_reads' HO130.out).2.1);(case side5 => exact far_slice (IsS127.own_ne HI0.out HO130.out (by decide)));rintro e w75 ⟨rfl, hi, hb, hk⟩;refine ⟨_, rfl, ?_⟩;replace HO103 := m0_ (Kd.N_mono (Kd.N_keep (Kd.N_mono (ok := fun k_ => ((((w.heap.size ≤ k_)) ∧ k_ ≠ g) ∧ some k_ ≠ (.slice Ao74 y128.length co74 : Value).ownBlock)) (by exact HO103.out) (fun k_ hk_ => (⟨hk_, hk_.1.2⟩ : _ ∧ k_ ≠ g))) hk (fun _ h => h.2)) (fun _ h => h.1));replace HO130 := m0_ (Kd.R_mono (Kd.R_keep (IsS127.apart (show IsS127 w0 _ g s0_0 t108 from by repeat (first | (with_reducible first | exact HI0.out | apply IsS127.alloc | apply IsS127.drewN | apply IsS127.drew | apply IsS127.set_1) | exact HI0.out)) (by exact HO130.out) (by decide)) hk (fun _ h => h.2)) (fun _ h => h.1));replace HK := m0_ (KeepBut.trans (by repeat (first | (with_reducible first | exact HK.out | apply KeepBut.set_ | apply keep_drewN | apply keep_drew | apply keep_alloc) | exact HK.out)) hk (.inl rfl));replace HB := m0_ (hb);replace HI0 := m0_ (hi);(try clear hb);(try clear hb2);(try clear hk);(try clear hi);have p67 : 0 ≤ (t105 : Int) := of_decide_eq_true (by first | (with_reducible assumption) | assumption);have q67 : (t105 : Int) < ((t101.length : Int) : Int) := of_decide_eq_true (by first | (with_reducible assumption) | assumption);obtain ⟨go67, co67, eo67, gb67, gl67, cl67, HG67⟩ := Kd.N_form HO103.out (by omega);(first | cases eo67 | (injection eo67 with ea_ en_ ec_;(first | subst ea_ | (injection ea_ with ea_;subst ea_));subst ec_;clear en_));have GB67 := m0_ gb67;have GG67 := m0_ HG67;clear gb67 gl67 HG67;obtain ⟨ce67, hcl67, hM67, hcc67, hfr67⟩ := Kd.N_elem HO103.out z39 (t105 : Int) p67 q67;obtain ⟨ua67_6, uc67_6, rfl, ul67_6, ge67_6⟩ := k39_openF hM67;have hx67_0 : w75.cell? ⟨go67, (t105 : Int).toNat * 12, none⟩ = some (.string ((rd_T39 t101 t105).f0)) := hcc67 0 _ rfl;have hx67_1 : w75.cell? ⟨go67, (t105 : Int).toNat * 12 + 1, none⟩ = some (.int .i64 ((rd_T39 t101 t105).f1)) := hcc67 1 _ rfl;have hx67_2 : w75.cell? ⟨go67, (t105 : Int).toNat * 12 + 2, none⟩ = some (.int .i64 ((rd_T39 t101 t105).f2)) := hcc67 2 _ rfl;have hx67_3 : w75.cell? ⟨go67, (t105 : Int).toNat * 12 + 3, none⟩ = some (.int .i64 ((rd_T39 t101 t105).f3.f0)) := hcc67 3 _ rfl;have hx67_4 : w75.cell? ⟨go67, (t105 : Int).toNat * 12 + 4, none⟩ = some (.int .i64 ((rd_T39 t101 t105).f3.f1)) := hcc67 4 _ rfl;have hx67_5 : w75.cell? ⟨go67, (t105 : Int).toNat * 12 + 5, none⟩ = some (.int .i64 ((rd_T39 t101 t105).f3.f2)) := hcc67 5 _ rfl;have hx67_6 : w75.cell? ⟨go67, (t105 : Int).toNat * 12 + 6, none⟩ = some (.slice ua67_6 ((rd_T39 t101 t105).f3.f3).length uc67_6) := hcc67 6 _ rfl;have hx67_7 : w75.cell? ⟨go67, (t105 : Int).toNat * 12 + 7, none⟩ = some (.int .i64 ((rd_T39 t101 t105).f4)) := hcc67 7 _ rfl;have hx67_8 : w75.cell? ⟨go67, (t105 : Int).toNat * 12 + 8, none⟩ = some (.int .i64 ((rd_T39 t101 t105).f5)) := hcc67 8 _ rfl;have hx67_9 : w75.cell? ⟨go67, (t105 : Int).toNat * 12 + 9, none⟩ = some (.int .i64 ((rd_T39 t101 t105).f6)) := hcc67 9 _ rfl;have hx67_10 : w75.cell? ⟨go67, (t105 : Int).toNat * 12 + 10, none⟩ = some (.int .i64 ((rd_T39 t101 t105).f7)) := hcc67 10 _ rfl;have hx67_11 : w75.cell? ⟨go67, (t105 : Int).toNat * 12 + 11, none⟩ = some (.int .i64 ((rd_T39 t101 t105).f8)) := hcc67 11 _ rfl;have hf67_0 : w75.frozen? ⟨go67, (t105 : Int).toNat * 12, none⟩ = false := hfr67 0;have hf67_1 : w75.frozen? ⟨go67, (t105 : Int).toNat * 12 + 1, none⟩ = false := hfr67 1;have hf67_2 : w75.frozen? ⟨go67, (t105 : Int).toNat * 12 + 2, none⟩ = false := hfr67 2;have hf67_3 : w75.frozen? ⟨go67, (t105 : Int).toNat * 12 + 3, none⟩ = false := hfr67 3;have hf67_4 : w75.frozen? ⟨go67, (t105 : Int).toNat * 12 + 4, none⟩ = false := hfr67 4;have hf67_5 : w75.frozen? ⟨go67, (t105 : Int).toNat * 12 + 5, none⟩ = false := hfr67 5;have hf67_6 : w75.frozen? ⟨go67, (t105 : Int).toNat * 12 + 6, none⟩ = false := hfr67 6;have hf67_7 : w75.frozen? ⟨go67, (t105 : Int).toNat * 12 + 7, none⟩ = false := hfr67 7;have hf67_8 : w75.frozen? ⟨go67, (t105 : Int).toNat * 12 + 8, none⟩ = false := hfr67 8;have hf67_9 : w75.frozen? ⟨go67, (t105 : Int).toNat * 12 + 9, none⟩ = false := hfr67 9;have hf67_10 : w75.frozen? ⟨go67, (t105 : Int).toNat * 12 + 10, none⟩ = false := hfr67 10;have hf67_11 : w75.frozen? ⟨go67, (t105 : Int).toNat * 12 + 11, none⟩ = false := hfr67 11;clear hcl67 hcc67 hfr67 hM67;replace p67 := eq_true p67;replace q67 := eq_true q67;have n_ := m0_ (Kd.N_mono (ok' := (fun k_ => (w.heap.size ≤ k_) ∧ some k_ ≠ (.slice Ao74 y128.length co74 : Value).ownBlock)) HO103.out (fun k_ hk => ⟨hk.1.1, hk.2⟩));clear HO103;have HO103 := n_;clear n_;have HX76 := m0_ (show Kd.N k39 39 w75 w.heap.size (fun k_ => (w.heap.size ≤ k_) ∧ some k_ ≠ (.slice Ao74 y128.length co74 : Value).ownBlock) (.slice (some ⟨go67, 0, none⟩) t101.length co69) t101 from (by exact HO103.out));obtain ⟨ce76, hcl76, hM76, hcc76, hfr76⟩ := Kd.N_elem HX76.out z39 (t105 : Int) (of_decide_eq_true (by first | (with_reducible assumption) | assumption)) (by have h_ : (t105 : Int) < ((t101.length : Int) : Int) := of_decide_eq_true (by first | (with_reducible assumption) | assumption);first | exact h_ | (have e_ := (Kd.N_reads' HO103.out).1;omega) | simpa using h_);obtain ⟨ua76_6, uc76_6, rfl, ul76_6, ge76_6⟩ := k39_openF hM76;have HP76 := Kd.N_seg HX76.out (t105 : Int) (of_decide_eq_true (by first | (with_reducible assumption) | assumption)) (by have h_ : (t105 : Int) < ((t101.length : Int) : Int) := of_decide_eq_true (by first | (with_reducible assumption) | assumption);first | exact h_ | (have e_ := (Kd.N_reads' HO103.out).1;omega) | simpa using h_) (seg := [.int .i64 t131]) (j := 10) hcl76 hcc76 (show 11 ≤ 12 from by decide) (x' := (⟨(rd_T39 t101 t105).f0, (rd_T39 t101 t105).f1, (rd_T39 t101 t105).f2, (⟨(rd_T39 t101 t105).f3.f0, (rd_T39 t101 t105).f3.f1, (rd_T39 t101 t105).f3.f2, (rd_T39 t101 t105).f3.f3⟩ : S37), (rd_T39 t101 t105).f4, (rd_T39 t101 t105).f5, (rd_T39 t101 t105).f6, t131, (rd_T39 t101 t105).f8⟩ : S39)) (k39_mkF _ _ (⟨(rd_T39 t101 t105).f0, (rd_T39 t101 t105).f1, (rd_T39 t101 t105).f2, (⟨(rd_T39 t101 t105).f3.f0, (rd_T39 t101 t105).f3.f1, (rd_T39 t101 t105).f3.f2, (rd_T39 t101 t105).f3.f3⟩ : S37), (rd_T39 t101 t105).f4, (rd_T39 t101 t105).f5, (rd_T39 t101 t105).f6, t131, (rd_T39 t101 t105).f8⟩ : S39) ul76_6 ge76_6) (fun _ hk => hk);have hx76_10 := hcc76 10 _ rfl;(try simp only [show (k39).sz = 12 from rfl, Nat.mul_one, Nat.add_zero] at hx76_10);have hf76_10 := hfr76 10;(try simp only [show (k39).sz = 12 from rfl, Nat.mul_one, Nat.add_zero] at hf76_10);clear hcl76 hcc76 hfr76 hM76) | ((with_reducible refine gate_store (t := 3) (p := 58) rfl ?_);refine store_event (t := 3) (p := 58) (v := ?vo_w77) (w1 := (w75.setCell ⟨go67, (t105 : Int).toNat * 12 + 10, none⟩ (.int .i64 t131))) ?hg ?ho ?hn ?hr ?_;(case ho => rfl);(case hg => rfl);(case hn => rfl);(case hr => first | (go_simp;done) | (go_simp;rfl));intro w77 hw;have hg : w75.grownBy w77 (some go67) := (by rw [hw];exact HP76.2);have hp_ : Kd.N k39 39 w77 w.heap.size (fun k_ => (w.heap.size ≤ k_) ∧ some k_ ≠ (.slice Ao74 y128.length co74 : Value).ownBlock) (.slice (some ⟨go67, 0, none⟩) t101.length co69) y133 := (by rw [hw, Ny133.out];exact HP76.1);clear HP76;replace HI0 := m0_ (IsS127.grown (by repeat (first | (with_reducible first | exact HI0.out | apply IsS127.alloc | apply IsS127.drewN | apply IsS127.drew | apply IsS127.set_1) | exact HI0.out)) hg (IsS127.own_neN HI0.out HO103.out (by decide)));replace HO130 := m0_ (Kd.R_over' (v := (.slice (some ⟨go67, 0, none⟩) t101.length co69)) (by exact HO130.out) (Kd.N_typed HO103.out) (by decide) hg);replace HB := m0_ ((by rw [hw];exact below_set (HB.out) (Nat.le_trans HL.out GB67.out) : Below w0.heap.size w0 w77));replace HK := m0_ (KeepBut.trans (by repeat (first | (with_reducible first | exact HK.out | apply KeepBut.set_ | apply keep_drewN | apply keep_drew | apply keep_alloc) | exact HK.out)) (KeepBut.of_grown hg g) (Kd.N_base2 HO103.out));replace HO103 := m0_ (hp_);clear hg hw hp_))
   go_ret
   exact ⟨_, by first | rfl | (simp [errW_none, errW_some] <;> rfl) | (simp [*, errW_none, errW_some] <;> rfl), by (with_reducible repeat (first | apply Kd.N_alloc | apply Kd.N_drewN | apply Kd.N_drew));exact Kd.N_mono HO103.out (fun _ hk => hk.1), by repeat (first | (with_reducible first | exact HI0.out | apply IsS127.alloc | apply IsS127.drewN | apply IsS127.drew | apply IsS127.set_1) | exact HI0.out), by repeat (first | (with_reducible first | exact HB.out | apply below_alloc | apply pw_below_drewN | apply below_drew1 | refine below_set ?_ (IsS127.ge HI0.out)) | exact HB.out), by repeat (first | (with_reducible first | exact HK.out | apply KeepBut.set_ | apply keep_drewN | apply keep_drew | apply keep_alloc) | exact HK.out)⟩
  ·rw [if_neg c66] at H
   exact absurd H (by simp)
 rw [if_neg c63] at H
 have c63b0 : (t107 == 4) = false := beq_eq_false_iff_ne.mpr c63
 have c63b1 : (t107 != 4) = true := bne_iff_ne.mpr c63
 by_cases c78 : t107 = 5
 rotate_left
 ·rw [if_neg c78] at H
  have c78b0 : (t107 == 5) = false := beq_eq_false_iff_ne.mpr c78
  have c78b1 : (t107 != 5) = true := bne_iff_ne.mpr c78
  simp only [Option.some.injEq, Prod.mk.injEq] at H
  obtain ⟨rfl, rfl⟩ := H
  go_enter Try.func66, Try.ntmps66
  go_wp2_with (first | ((with_reducible refine gate_callee (f := 96) rfl ?_);refine goesL_ (some 6) rfl rfl Try.func96 (by kernel_rfl) rfl #[.pointer (some ⟨g, 0, none⟩)] rfl (by (try simp only [List.map_toArray, List.map_cons, List.map_nil]);first | done | rfl | (simp only [List.length_drop, List.length_take];rfl)) ?_;(with_reducible refine (spec_l8Rules.calls k g s0_0 s0_1 t101 t104 w0 _ ?side1 ?side2 A2.out).mono ?_);(case side1 => repeat (first | (with_reducible first | exact HI0.out | apply IsS127.alloc | apply IsS127.drewN | apply IsS127.drew | apply IsS127.set_1) | exact HI0.out));(case side2 => repeat (first | (with_reducible first | exact HB.out | apply below_alloc | apply pw_below_drewN | apply below_drew1 | refine below_set ?_ (IsS127.ge HI0.out)) | exact HB.out));rintro e w91 ⟨v102, rfl, ho0, hi, hb, hk⟩;refine ⟨_, rfl, ?_⟩;have HO103 := m0_ (Kd.N_lower (Kd.N_mono (ok' := fun k_ => (w.heap.size ≤ k_) ∧ k_ ≠ g) (Kd.R_N (Kd.R_bound ho0)) (fun k_ hk_ => ⟨(Nat.le_trans (keep_size (w := w) (g := g) (row := none) (by repeat (first | (with_reducible first | exact HK.out | apply KeepBut.set_ | apply keep_drewN | apply keep_drew | apply keep_alloc) | exact HK.out))) hk_.2.1), (IsS127.fresh (by repeat (first | (with_reducible first | exact HI0.out | apply IsS127.alloc | apply IsS127.drewN | apply IsS127.drew | apply IsS127.set_1) | exact HI0.out)) k_ hk_.2.1)⟩)) (keep_size (w := w) (g := g) (row := none) (by repeat (first | (with_reducible first | exact HK.out | apply KeepBut.set_ | apply keep_drewN | apply keep_drew | apply keep_alloc) | exact HK.out))));replace HK := m0_ (KeepBut.trans (by repeat (first | (with_reducible first | exact HK.out | apply KeepBut.set_ | apply keep_drewN | apply keep_drew | apply keep_alloc) | exact HK.out)) hk (.inl rfl));replace HB := m0_ (hb);replace HI0 := m0_ (hi);(try clear hb);(try clear hb2);(try clear hk);(try clear hi);(try clear ho0);obtain ⟨Ao92, co92, eo92⟩ := Kd.N_slice HO103.out;subst eo92) | ((with_reducible refine gate_callee (f := 97) rfl ?_);refine goesL_ (some 14) rfl rfl Try.func97 (by kernel_rfl) rfl #[.pointer (some ⟨g, 0, none⟩), .int .i64 (t101.length : Int)] rfl (by (try simp only [List.map_toArray, List.map_cons, List.map_nil]);first | done | rfl | (simp only [List.length_drop, List.length_take];rfl)) ?_;(with_reducible refine (spec_l14Rd_pick.calls k g s0_0 t104 (t101.length : Int) t105 t106 w0 _ ?side1 ?side2 A6.out).mono ?_);(case side1 => repeat (first | (with_reducible first | exact HI0.out | apply IsS127.alloc | apply IsS127.drewN | apply IsS127.drew | apply IsS127.set_1) | exact HI0.out));(case side2 => repeat (first | (with_reducible first | exact HB.out | apply below_alloc | apply pw_below_drewN | apply below_drew1 | refine below_set ?_ (IsS127.ge HI0.out)) | exact HB.out));rintro e w93 ⟨rfl, hi, hb, hk⟩;refine ⟨_, rfl, ?_⟩;replace HO103 := m0_ (Kd.N_mono (Kd.N_keep (Kd.N_mono (ok := fun k_ => (((w.heap.size ≤ k_)) ∧ k_ ≠ g)) (by exact HO103.out) (fun k_ hk_ => (⟨hk_, hk_.2⟩ : _ ∧ k_ ≠ g))) hk (fun _ h => h.2)) (fun _ h => h.1));replace HK := m0_ (KeepBut.trans (by repeat (first | (with_reducible first | exact HK.out | apply KeepBut.set_ | apply keep_drewN | apply keep_drew | apply keep_alloc) | exact HK.out)) hk (.inl rfl));replace HB := m0_ (hb);replace HI0 := m0_ (hi);(try clear hb);(try clear hb2);(try clear hk);(try clear hi)) | ((with_reducible refine gate_callee (f := 97) rfl ?_);refine goesL_ (some 16) rfl rfl Try.func97 (by kernel_rfl) rfl #[.pointer (some ⟨g, 0, none⟩), .int .i64 60] rfl (by (try simp only [List.map_toArray, List.map_cons, List.map_nil]);first | done | rfl | (simp only [List.length_drop, List.length_take];rfl)) ?_;(with_reducible refine (spec_l14Rd_pick.calls k g s0_0 t106 60 t107 t108 w0 _ ?side1 ?side2 A7.out).mono ?_);(case side1 => repeat (first | (with_reducible first | exact HI0.out | apply IsS127.alloc | apply IsS127.drewN | apply IsS127.drew | apply IsS127.set_1) | exact HI0.out));(case side2 => repeat (first | (with_reducible first | exact HB.out | apply below_alloc | apply pw_below_drewN | apply below_drew1 | refine below_set ?_ (IsS127.ge HI0.out)) | exact HB.out));rintro e w94 ⟨rfl, hi, hb, hk⟩;refine ⟨_, rfl, ?_⟩;replace HO103 := m0_ (Kd.N_mono (Kd.N_keep (Kd.N_mono (ok := fun k_ => (((w.heap.size ≤ k_)) ∧ k_ ≠ g)) (by exact HO103.out) (fun k_ hk_ => (⟨hk_, hk_.2⟩ : _ ∧ k_ ≠ g))) hk (fun _ h => h.2)) (fun _ h => h.1));replace HK := m0_ (KeepBut.trans (by repeat (first | (with_reducible first | exact HK.out | apply KeepBut.set_ | apply keep_drewN | apply keep_drew | apply keep_alloc) | exact HK.out)) hk (.inl rfl));replace HB := m0_ (hb);replace HI0 := m0_ (hi);(try clear hb);(try clear hb2);(try clear hk);(try clear hi)))
  go_ret
  exact ⟨_, by first | rfl | (simp [errW_none, errW_some] <;> rfl) | (simp [*, errW_none, errW_some] <;> rfl), by (with_reducible repeat (first | apply Kd.N_alloc | apply Kd.N_drewN | apply Kd.N_drew));exact Kd.N_mono HO103.out (fun _ hk => hk.1), by repeat (first | (with_reducible first | exact HI0.out | apply IsS127.alloc | apply IsS127.drewN | apply IsS127.drew | apply IsS127.set_1) | exact HI0.out), by repeat (first | (with_reducible first | exact HB.out | apply below_alloc | apply pw_below_drewN | apply below_drew1 | refine below_set ?_ (IsS127.ge HI0.out)) | exact HB.out), by repeat (first | (with_reducible first | exact HK.out | apply KeepBut.set_ | apply keep_drewN | apply keep_drew | apply keep_alloc) | exact HK.out)⟩
 rw [if_pos c78] at H
 have c78b0 : (t107 == 5) = true := beq_iff_eq.mpr c78
 have c78b1 : (t107 != 5) = false := bne_eq_false_iff_eq.mpr c78
 clear c78
 replace H := Option.bind_eq_some_iff.mp H
 obtain ⟨⟨t134, t135, t136, t137, t140⟩, A790, H⟩ := H
 replace H : (if 0 ≤ t105 then (if t105 < (t101.length : Int) then (some ((t101.set (t105 : Int).toNat (⟨(rd_T39 t101 t105).f0, (rd_T39 t101 t105).f1, (rd_T39 t101 t105).f2, (⟨t134, t135, t136, t137⟩ : S37), (rd_T39 t101 t105).f4, (rd_T39 t101 t105).f5, (rd_T39 t101 t105).f6, (rd_T39 t101 t105).f7, (rd_T39 t101 t105).f8⟩ : S39)), t140)) else (none)) else (none)) = some (r1, r2) := H
 have A79 := m0_ A790
 clear A790
 by_cases c80 : 0 ≤ t105
 rotate_left
 ·rw [if_neg c80] at H
  exact absurd H (by simp)
 rw [if_pos c80] at H
 have c80b0 : decide (0 ≤ t105) = true := decide_eq_true c80
 clear c80
 by_cases c81 : t105 < (t101.length : Int)
 ·rw [if_pos c81] at H
  have c81b0 : decide (t105 < (t101.length : Int)) = true := decide_eq_true c81
  clear c81
  obtain ⟨y141, hy141⟩ : ∃ y_ : List (S39), y_ = (t101.set (t105 : Int).toNat (⟨(rd_T39 t101 t105).f0, (rd_T39 t101 t105).f1, (rd_T39 t101 t105).f2, (⟨t134, t135, t136, t137⟩ : S37), (rd_T39 t101 t105).f4, (rd_T39 t101 t105).f5, (rd_T39 t101 t105).f6, (rd_T39 t101 t105).f7, (rd_T39 t101 t105).f8⟩ : S39)) := ⟨_, rfl⟩
  replace H : (some (y141, t140)) = some (r1, r2) := by first | (rw [hy141];with_reducible exact H) | (have H2_ := (Option.bind_some _ _).symm.trans H;rw [hy141];with_reducible exact H2_) | (have H2_ := (Option.bind_some _ _).symm.trans H;with_reducible exact H2_) | with_reducible exact H | (rw [hy141];exact H) | exact H
  have Ny141 := m0_ hy141
  clear hy141
  simp only [Option.some.injEq, Prod.mk.injEq] at H
  obtain ⟨rfl, rfl⟩ := H
  go_enter Try.func66, Try.ntmps66
  go_wp2_with (first | ((with_reducible refine gate_callee (f := 96) rfl ?_);refine goesL_ (some 6) rfl rfl Try.func96 (by kernel_rfl) rfl #[.pointer (some ⟨g, 0, none⟩)] rfl (by (try simp only [List.map_toArray, List.map_cons, List.map_nil]);first | done | rfl | (simp only [List.length_drop, List.length_take];rfl)) ?_;(with_reducible refine (spec_l8Rules.calls k g s0_0 s0_1 t101 t104 w0 _ ?side1 ?side2 A2.out).mono ?_);(case side1 => repeat (first | (with_reducible first | exact HI0.out | apply IsS127.alloc | apply IsS127.drewN | apply IsS127.drew | apply IsS127.set_1) | exact HI0.out));(case side2 => repeat (first | (with_reducible first | exact HB.out | apply below_alloc | apply pw_below_drewN | apply below_drew1 | refine below_set ?_ (IsS127.ge HI0.out)) | exact HB.out));rintro e w83 ⟨v102, rfl, ho0, hi, hb, hk⟩;refine ⟨_, rfl, ?_⟩;have HO103 := m0_ (Kd.N_lower (Kd.N_mono (ok' := fun k_ => (w.heap.size ≤ k_) ∧ k_ ≠ g) (Kd.R_N (Kd.R_bound ho0)) (fun k_ hk_ => ⟨(Nat.le_trans (keep_size (w := w) (g := g) (row := none) (by repeat (first | (with_reducible first | exact HK.out | apply KeepBut.set_ | apply keep_drewN | apply keep_drew | apply keep_alloc) | exact HK.out))) hk_.2.1), (IsS127.fresh (by repeat (first | (with_reducible first | exact HI0.out | apply IsS127.alloc | apply IsS127.drewN | apply IsS127.drew | apply IsS127.set_1) | exact HI0.out)) k_ hk_.2.1)⟩)) (keep_size (w := w) (g := g) (row := none) (by repeat (first | (with_reducible first | exact HK.out | apply KeepBut.set_ | apply keep_drewN | apply keep_drew | apply keep_alloc) | exact HK.out))));replace HK := m0_ (KeepBut.trans (by repeat (first | (with_reducible first | exact HK.out | apply KeepBut.set_ | apply keep_drewN | apply keep_drew | apply keep_alloc) | exact HK.out)) hk (.inl rfl));replace HB := m0_ (hb);replace HI0 := m0_ (hi);(try clear hb);(try clear hb2);(try clear hk);(try clear hi);(try clear ho0);obtain ⟨Ao84, co84, eo84⟩ := Kd.N_slice HO103.out;subst eo84) | ((with_reducible refine gate_callee (f := 97) rfl ?_);refine goesL_ (some 14) rfl rfl Try.func97 (by kernel_rfl) rfl #[.pointer (some ⟨g, 0, none⟩), .int .i64 (t101.length : Int)] rfl (by (try simp only [List.map_toArray, List.map_cons, List.map_nil]);first | done | rfl | (simp only [List.length_drop, List.length_take];rfl)) ?_;(with_reducible refine (spec_l14Rd_pick.calls k g s0_0 t104 (t101.length : Int) t105 t106 w0 _ ?side1 ?side2 A6.out).mono ?_);(case side1 => repeat (first | (with_reducible first | exact HI0.out | apply IsS127.alloc | apply IsS127.drewN | apply IsS127.drew | apply IsS127.set_1) | exact HI0.out));(case side2 => repeat (first | (with_reducible first | exact HB.out | apply below_alloc | apply pw_below_drewN | apply below_drew1 | refine below_set ?_ (IsS127.ge HI0.out)) | exact HB.out));rintro e w85 ⟨rfl, hi, hb, hk⟩;refine ⟨_, rfl, ?_⟩;replace HO103 := m0_ (Kd.N_mono (Kd.N_keep (Kd.N_mono (ok := fun k_ => (((w.heap.size ≤ k_)) ∧ k_ ≠ g)) (by exact HO103.out) (fun k_ hk_ => (⟨hk_, hk_.2⟩ : _ ∧ k_ ≠ g))) hk (fun _ h => h.2)) (fun _ h => h.1));replace HK := m0_ (KeepBut.trans (by repeat (first | (with_reducible first | exact HK.out | apply KeepBut.set_ | apply keep_drewN | apply keep_drew | apply keep_alloc) | exact HK.out)) hk (.inl rfl));replace HB := m0_ (hb);replace HI0 := m0_ (hi);(try clear hb);(try clear hb2);(try clear hk);(try clear hi)) | ((with_reducible refine gate_callee (f := 97) rfl ?_);refine goesL_ (some 16) rfl rfl Try.func97 (by kernel_rfl) rfl #[.pointer (some ⟨g, 0, none⟩), .int .i64 60] rfl (by (try simp only [List.map_toArray, List.map_cons, List.map_nil]);first | done | rfl | (simp only [List.length_drop, List.length_take];rfl)) ?_;(with_reducible refine (spec_l14Rd_pick.calls k g s0_0 t106 60 t107 t108 w0 _ ?side1 ?side2 A7.out).mono ?_);(case side1 => repeat (first | (with_reducible first | exact HI0.out | apply IsS127.alloc | apply IsS127.drewN | apply IsS127.drew | apply IsS127.set_1) | exact HI0.out));(case side2 => repeat (first | (with_reducible first | exact HB.out | apply below_alloc | apply pw_below_drewN | apply below_drew1 | refine below_set ?_ (IsS127.ge HI0.out)) | exact HB.out));rintro e w86 ⟨rfl, hi, hb, hk⟩;refine ⟨_, rfl, ?_⟩;replace HO103 := m0_ (Kd.N_mono (Kd.N_keep (Kd.N_mono (ok := fun k_ => (((w.heap.size ≤ k_)) ∧ k_ ≠ g)) (by exact HO103.out) (fun k_ hk_ => (⟨hk_, hk_.2⟩ : _ ∧ k_ ≠ g))) hk (fun _ h => h.2)) (fun _ h => h.1));replace HK := m0_ (KeepBut.trans (by repeat (first | (with_reducible first | exact HK.out | apply KeepBut.set_ | apply keep_drewN | apply keep_drew | apply keep_alloc) | exact HK.out)) hk (.inl rfl));replace HB := m0_ (hb);replace HI0 := m0_ (hi);(try clear hb);(try clear hb2);(try clear hk);(try clear hi)) | ((with_reducible refine gate_callee (f := 100) rfl ?_);refine goesL_ (some 64) rfl rfl Try.func100 (by kernel_rfl) rfl #[.pointer (some ⟨g, 0, none⟩)] rfl (by (try simp only [List.map_toArray, List.map_cons, List.map_nil]);first | done | rfl | (simp only [List.length_drop, List.length_take];rfl)) ?_;(with_reducible refine (spec_l2Bent.calls k g s0_0 t108 t134 t135 t136 t137 t140 w0 _ ?side1 ?side2 A79.out).mono ?_);(case side1 => repeat (first | (with_reducible first | exact HI0.out | apply IsS127.alloc | apply IsS127.drewN | apply IsS127.drew | apply IsS127.set_1) | exact HI0.out));(case side2 => repeat (first | (with_reducible first | exact HB.out | apply below_alloc | apply pw_below_drewN | apply below_drew1 | refine below_set ?_ (IsS127.ge HI0.out)) | exact HB.out));rintro e w87 ⟨v138, rfl, ho0, hi, hb, hk⟩;refine ⟨_, rfl, ?_⟩;have HO139 := m0_ (Kd.N_lower (Kd.N_mono (ok' := fun k_ => (w.heap.size ≤ k_) ∧ some k_ ≠ (.slice Ao84 t101.length co84 : Value).ownBlock ∧ k_ ≠ g) ho0 (fun k_ hk_ => ⟨(Nat.le_trans (keep_size (w := w) (g := g) (row := none) (by repeat (first | (with_reducible first | exact HK.out | apply KeepBut.set_ | apply keep_drewN | apply keep_drew | apply keep_alloc) | exact HK.out))) hk_), (Kd.fresh' (Kd.N_lt (by exact HO103.out)) k_ hk_), (IsS127.fresh (by repeat (first | (with_reducible first | exact HI0.out | apply IsS127.alloc | apply IsS127.drewN | apply IsS127.drew | apply IsS127.set_1) | exact HI0.out)) k_ hk_)⟩)) (keep_size (w := w) (g := g) (row := none) (by repeat (first | (with_reducible first | exact HK.out | apply KeepBut.set_ | apply keep_drewN | apply keep_drew | apply keep_alloc) | exact HK.out))));replace HO103 := m0_ (Kd.N_mono (Kd.N_told (Kd.N_oldK (Kd.N_mono (ok := fun k_ => (((w.heap.size ≤ k_)) ∧ k_ ≠ g)) (by exact HO103.out) (fun k_ hk_ => (⟨hk_, hk_.2⟩ : _ ∧ k_ ≠ g))) hk) (by first | exact Kd.N_base ho0 | exact Kd.S_base ho0 | exact Kd.R_base ho0)) (fun _ h_ => h_.1));replace HK := m0_ (KeepBut.trans (by repeat (first | (with_reducible first | exact HK.out | apply KeepBut.set_ | apply keep_drewN | apply keep_drew | apply keep_alloc) | exact HK.out)) hk (.inl rfl));replace HB := m0_ (hb);replace HI0 := m0_ (hi);(try clear hb);(try clear hb2);(try clear hk);(try clear hi);(try clear ho0);have p82 : 0 ≤ (t105 : Int) := of_decide_eq_true (by first | (with_reducible assumption) | assumption);have q82 : (t105 : Int) < ((t101.length : Int) : Int) := of_decide_eq_true (by first | (with_reducible assumption) | assumption);obtain ⟨go82, co82, eo82, gb82, gl82, cl82, HG82⟩ := Kd.N_form HO103.out (by omega);(first | cases eo82 | (injection eo82 with ea_ en_ ec_;(first | subst ea_ | (injection ea_ with ea_;subst ea_));subst ec_;clear en_));have GB82 := m0_ gb82;have GG82 := m0_ HG82;clear gb82 gl82 HG82;obtain ⟨ce82, hcl82, hM82, hcc82, hfr82⟩ := Kd.N_elem HO103.out z39 (t105 : Int) p82 q82;obtain ⟨ua82_6, uc82_6, rfl, ul82_6, ge82_6⟩ := k39_openF hM82;have hx82_0 : w87.cell? ⟨go82, (t105 : Int).toNat * 12, none⟩ = some (.string ((rd_T39 t101 t105).f0)) := hcc82 0 _ rfl;have hx82_1 : w87.cell? ⟨go82, (t105 : Int).toNat * 12 + 1, none⟩ = some (.int .i64 ((rd_T39 t101 t105).f1)) := hcc82 1 _ rfl;have hx82_2 : w87.cell? ⟨go82, (t105 : Int).toNat * 12 + 2, none⟩ = some (.int .i64 ((rd_T39 t101 t105).f2)) := hcc82 2 _ rfl;have hx82_3 : w87.cell? ⟨go82, (t105 : Int).toNat * 12 + 3, none⟩ = some (.int .i64 ((rd_T39 t101 t105).f3.f0)) := hcc82 3 _ rfl;have hx82_4 : w87.cell? ⟨go82, (t105 : Int).toNat * 12 + 4, none⟩ = some (.int .i64 ((rd_T39 t101 t105).f3.f1)) := hcc82 4 _ rfl;have hx82_5 : w87.cell? ⟨go82, (t105 : Int).toNat * 12 + 5, none⟩ = some (.int .i64 ((rd_T39 t101 t105).f3.f2)) := hcc82 5 _ rfl;have hx82_6 : w87.cell? ⟨go82, (t105 : Int).toNat * 12 + 6, none⟩ = some (.slice ua82_6 ((rd_T39 t101 t105).f3.f3).length uc82_6) := hcc82 6 _ rfl;have hx82_7 : w87.cell? ⟨go82, (t105 : Int).toNat * 12 + 7, none⟩ = some (.int .i64 ((rd_T39 t101 t105).f4)) := hcc82 7 _ rfl;have hx82_8 : w87.cell? ⟨go82, (t105 : Int).toNat * 12 + 8, none⟩ = some (.int .i64 ((rd_T39 t101 t105).f5)) := hcc82 8 _ rfl;have hx82_9 : w87.cell? ⟨go82, (t105 : Int).toNat * 12 + 9, none⟩ = some (.int .i64 ((rd_T39 t101 t105).f6)) := hcc82 9 _ rfl;have hx82_10 : w87.cell? ⟨go82, (t105 : Int).toNat * 12 + 10, none⟩ = some (.int .i64 ((rd_T39 t101 t105).f7)) := hcc82 10 _ rfl;have hx82_11 : w87.cell? ⟨go82, (t105 : Int).toNat * 12 + 11, none⟩ = some (.int .i64 ((rd_T39 t101 t105).f8)) := hcc82 11 _ rfl;have hf82_0 : w87.frozen? ⟨go82, (t105 : Int).toNat * 12, none⟩ = false := hfr82 0;have hf82_1 : w87.frozen? ⟨go82, (t105 : Int).toNat * 12 + 1, none⟩ = false := hfr82 1;have hf82_2 : w87.frozen? ⟨go82, (t105 : Int).toNat * 12 + 2, none⟩ = false := hfr82 2;have hf82_3 : w87.frozen? ⟨go82, (t105 : Int).toNat * 12 + 3, none⟩ = false := hfr82 3;have hf82_4 : w87.frozen? ⟨go82, (t105 : Int).toNat * 12 + 4, none⟩ = false := hfr82 4;have hf82_5 : w87.frozen? ⟨go82, (t105 : Int).toNat * 12 + 5, none⟩ = false := hfr82 5;have hf82_6 : w87.frozen? ⟨go82, (t105 : Int).toNat * 12 + 6, none⟩ = false := hfr82 6;have hf82_7 : w87.frozen? ⟨go82, (t105 : Int).toNat * 12 + 7, none⟩ = false := hfr82 7;have hf82_8 : w87.frozen? ⟨go82, (t105 : Int).toNat * 12 + 8, none⟩ = false := hfr82 8;have hf82_9 : w87.frozen? ⟨go82, (t105 : Int).toNat * 12 + 9, none⟩ = false := hfr82 9;have hf82_10 : w87.frozen? ⟨go82, (t105 : Int).toNat * 12 + 10, none⟩ = false := hfr82 10;have hf82_11 : w87.frozen? ⟨go82, (t105 : Int).toNat * 12 + 11, none⟩ = false := hfr82 11;clear hcl82 hcc82 hfr82 hM82;replace p82 := eq_true p82;replace q82 := eq_true q82;obtain ⟨Ao90, co90, eo90⟩ := Kd.N_slice HO139.out;subst eo90;have n_ := m0_ (Kd.N_mono (ok' := (fun k_ => (w.heap.size ≤ k_) ∧ some k_ ≠ (.slice Ao90 t137.length co90 : Value).ownBlock)) HO103.out (fun k_ hk => ⟨hk.1.1, hk.2⟩));clear HO103;have HO103 := n_;clear n_;have HX88 := m0_ (show Kd.N k39 39 w87 w.heap.size (fun k_ => (w.heap.size ≤ k_)) (.slice (some ⟨go82, 0, none⟩) t101.length co84) t101 from (by (with_reducible repeat (first | apply Kd.N_alloc | apply Kd.N_drewN | apply Kd.N_drew));exact Kd.N_mono HO103.out (fun _ hk => hk.1)));obtain ⟨ce88, hcl88, hM88, hcc88, hfr88⟩ := Kd.N_elem HX88.out z39 (t105 : Int) (of_decide_eq_true (by first | (with_reducible assumption) | assumption)) (by have h_ : (t105 : Int) < ((t101.length : Int) : Int) := of_decide_eq_true (by first | (with_reducible assumption) | assumption);first | exact h_ | (have e_ := (Kd.N_reads' HO103.out).1;omega) | simpa using h_);obtain ⟨ua88_6, uc88_6, rfl, ul88_6, ge88_6⟩ := k39_openF hM88;have HP88 := Kd.N_seg HX88.out (t105 : Int) (of_decide_eq_true (by first | (with_reducible assumption) | assumption)) (by have h_ : (t105 : Int) < ((t101.length : Int) : Int) := of_decide_eq_true (by first | (with_reducible assumption) | assumption);first | exact h_ | (have e_ := (Kd.N_reads' HO103.out).1;omega) | simpa using h_) (seg := [.int .i64 t134, .int .i64 t135, .int .i64 t136, .slice Ao90 t137.length co90]) (j := 3) hcl88 hcc88 (show 7 ≤ 12 from by decide) (x' := (⟨(rd_T39 t101 t105).f0, (rd_T39 t101 t105).f1, (rd_T39 t101 t105).f2, (⟨t134, t135, t136, t137⟩ : S37), (rd_T39 t101 t105).f4, (rd_T39 t101 t105).f5, (rd_T39 t101 t105).f6, (rd_T39 t101 t105).f7, (rd_T39 t101 t105).f8⟩ : S39)) (k39_mkF _ _ (⟨(rd_T39 t101 t105).f0, (rd_T39 t101 t105).f1, (rd_T39 t101 t105).f2, (⟨t134, t135, t136, t137⟩ : S37), (rd_T39 t101 t105).f4, (rd_T39 t101 t105).f5, (rd_T39 t101 t105).f6, (rd_T39 t101 t105).f7, (rd_T39 t101 t105).f8⟩ : S39) (Kd.N_reads' (Kd.N_mono (ok' := (fun k_ => ((fun k_ => (w.heap.size ≤ k_))) k_ ∧ k_ ≠ go82)) (HO139.out) (fun k_ hk => ⟨hk.1, fun e_ => (hk.2.1) (by rw [e_];rfl)⟩))).2.1 (Kd.N_F (Kd.N_mono (ok' := (fun k_ => ((fun k_ => (w.heap.size ≤ k_))) k_ ∧ k_ ≠ go82)) (HO139.out) (fun k_ hk => ⟨hk.1, fun e_ => (hk.2.1) (by rw [e_];rfl)⟩)))) (fun _ hk => hk);have hx88_3 := hcc88 3 _ rfl;(try simp only [show (k39).sz = 12 from rfl, Nat.mul_one, Nat.add_zero] at hx88_3);have hf88_3 := hfr88 3;(try simp only [show (k39).sz = 12 from rfl, Nat.mul_one, Nat.add_zero] at hf88_3);have hx88_4 := hcc88 4 _ rfl;(try simp only [show (k39).sz = 12 from rfl, Nat.mul_one, Nat.add_zero] at hx88_4);have hf88_4 := hfr88 4;(try simp only [show (k39).sz = 12 from rfl, Nat.mul_one, Nat.add_zero] at hf88_4);have hx88_5 := hcc88 5 _ rfl;(try simp only [show (k39).sz = 12 from rfl, Nat.mul_one, Nat.add_zero] at hx88_5);have hf88_5 := hfr88 5;(try simp only [show (k39).sz = 12 from rfl, Nat.mul_one, Nat.add_zero] at hf88_5);have hx88_6 := hcc88 6 _ rfl;(try simp only [show (k39).sz = 12 from rfl, Nat.mul_one, Nat.add_zero] at hx88_6);have hf88_6 := hfr88 6;(try simp only [show (k39).sz = 12 from rfl, Nat.mul_one, Nat.add_zero] at hf88_6);clear hcl88 hcc88 hfr88 hM88) | ((with_reducible refine gate_store (t := 37) (p := 66) rfl ?_);refine store_event (t := 37) (p := 66) (v := ?vo_w89) (w1 := ((((w87.setCell ⟨go82, (t105 : Int).toNat * 12 + 3, none⟩ (.int .i64 t134)).setCell ⟨go82, (t105 : Int).toNat * 12 + 4, none⟩ (.int .i64 t135)).setCell ⟨go82, (t105 : Int).toNat * 12 + 5, none⟩ (.int .i64 t136)).setCell ⟨go82, (t105 : Int).toNat * 12 + 6, none⟩ (.slice Ao90 t137.length co90))) ?hg ?ho ?hn ?hr ?_;(case ho => rfl);(case hg => rfl);(case hn => rfl);(case hr => first | (go_simp;done) | (go_simp;rfl));intro w89 hw;have hg : w87.grownBy w89 (some go82) := (by rw [hw];exact HP88.2);have hp_ : Kd.N k39 39 w89 w.heap.size (fun k_ => (w.heap.size ≤ k_)) (.slice (some ⟨go82, 0, none⟩) t101.length co84) y141 := (by rw [hw, Ny141.out];exact HP88.1);clear HP88;have n0_ := m0_ (IsS127.grown (by repeat (first | (with_reducible first | exact HI0.out | apply IsS127.alloc | apply IsS127.drewN | apply IsS127.drew | apply IsS127.set_1) | exact HI0.out)) hg (IsS127.own_neN HI0.out HO103.out (by decide)));have n1_ := m0_ (hp_);have n2_ := m0_ ((by rw [hw];exact below_set (below_set (below_set (below_set (HB.out) (Nat.le_trans HL.out GB82.out)) (Nat.le_trans HL.out GB82.out)) (Nat.le_trans HL.out GB82.out)) (Nat.le_trans HL.out GB82.out) : Below w0.heap.size w0 w89));have n3_ := m0_ (KeepBut.trans (by repeat (first | (with_reducible first | exact HK.out | apply KeepBut.set_ | apply keep_drewN | apply keep_drew | apply keep_alloc) | exact HK.out)) (KeepBut.of_grown hg g) (Kd.N_base2 HO103.out));clear HI0;clear HO103;clear HB;clear HK;clear HO139;have HI0 := n0_;have HO103 := n1_;have HB := n2_;have HK := n3_;clear n0_ n1_ n2_ n3_;clear hg hw hp_))
  go_ret
  exact ⟨_, by first | rfl | (simp [errW_none, errW_some] <;> rfl) | (simp [*, errW_none, errW_some] <;> rfl), by (with_reducible repeat (first | apply Kd.N_alloc | apply Kd.N_drewN | apply Kd.N_drew));exact HO103.out, by repeat (first | (with_reducible first | exact HI0.out | apply IsS127.alloc | apply IsS127.drewN | apply IsS127.drew | apply IsS127.set_1) | exact HI0.out), by repeat (first | (with_reducible first | exact HB.out | apply below_alloc | apply pw_below_drewN | apply below_drew1 | refine below_set ?_ (IsS127.ge HI0.out)) | exact HB.out), by repeat (first | (with_reducible first | exact HK.out | apply KeepBut.set_ | apply keep_drewN | apply keep_drew | apply keep_alloc) | exact HK.out)⟩
 ·rw [if_neg c81] at H
  exact absurd H (by simp)

def spec_l14Open.f (l0 : List Int) : Option (List Int × Int) := if (l0.length : Int) > 2000 then (if 2000 ≤ (l0.length : Int) then (some (l0.take 2000, 0)) else (none)) else (some (l0, 0))
set_option maxHeartbeats 8000000 in
set_option maxRecDepth 100000 in
theorem spec_l14Open.calls (A0 : Option Addr) (c0 : Nat) (l0 : List Int) (r1 : List Int) (r2 : Int) (w0 w : World) (hB : Below w0.heap.size w0 w) (hr0 : Kd.C (Kd.int .u8) w0 A0 l0.length l0) (hc0 : l0.length ≤ c0) (h : spec_l14Open.f l0 = some (r1, r2)) :
  Calls Try.prog 67 #[.slice A0 l0.length c0] w fun e w' => ∃ g_ : Nat, e = .returned (.pointer (some ⟨g_, 0, none⟩)) ∧ IsS127 w0 w' g_ r1 r2 ∧ Below w0.heap.size w0 w' ∧ Below w.heap.size w w' := by
 have hu127 := Try.underlying127
 have HR0 := m0_ hr0
 have HC0 := m0_ hc0
 clear hr0 hc0
 have HBW := m0_ (Below.refl w.heap.size w)
 have HW0 := m0_ hB.size
 have HB := m0_ hB
 clear hB
 have H : (if (l0.length : Int) > 2000 then (if 2000 ≤ (l0.length : Int) then (some (l0.take 2000, 0)) else (none)) else (some (l0, 0))) = some (r1, r2) := h
 clear h
 by_cases c2 : (l0.length : Int) > 2000
 rotate_left
 ·rw [if_neg c2] at H
  have c2b0 : decide (2000 < (l0.length : Int)) = false := decide_eq_false c2
  have c2b1 : decide (2000 < l0.length) = false := decide_eq_false (by omega)
  clear c2
  simp only [Option.some.injEq, Prod.mk.injEq] at H
  obtain ⟨rfl, rfl⟩ := H
  go_enter Try.func67, Try.ntmps67
  go_wp2_with (first | ((with_reducible refine gate_dst (N := 10) rfl ?_);refine box_event ?hg (N := 10) ?hd (cs := #[.slice A0 l0.length c0, .int .i64 0]) (t := 127) ?hr ?_;(case hd => rfl);(case hg => rfl);(case hr => first | (go_simp;done) | (go_simp;rfl));intro gb103 hg w6 hbox hb;replace HB := m0_ (below_step (by exact HB.out) hb);have BK103 := m0_ (hbox);have GW103 := m0_ ((by rw [hg];exact (below_size (by repeat (first | (with_reducible first | exact HBW.out | apply below_alloc | apply pw_below_drewN | apply below_drew1) | exact HBW.out))) : w.heap.size ≤ gb103));have GE103 := m0_ ((Nat.le_trans HW0.out (by rw [hg];exact (below_size (by repeat (first | (with_reducible first | exact HBW.out | apply below_alloc | apply pw_below_drewN | apply below_drew1) | exact HBW.out))) : w.heap.size ≤ gb103) : w0.heap.size ≤ gb103));replace HBW := m0_ (below_step HBW.out hb);clear hb hbox hg))
  go_ret
  exact ⟨_, rfl, (show IsS127 w0 _ gb103 l0 0 from ⟨_, _, by (with_reducible repeat (first | refine blk_drewN ?_ _ | refine blk_drew ?_ | refine blk_alloc ?_ _));exact BK103.out, GE103.out, HR0.out⟩), by repeat (first | (with_reducible first | exact HB.out | apply below_alloc | apply pw_below_drewN | apply below_drew1 | refine below_set ?_ GE103.out) | exact HB.out), by repeat (first | (with_reducible first | exact HBW.out | apply below_alloc | apply pw_below_drewN | apply below_drew1 | refine below_set ?_ GW103.out) | exact HBW.out)⟩
 rw [if_pos c2] at H
 have c2b0 : decide (2000 < (l0.length : Int)) = true := decide_eq_true c2
 have c2b1 : decide (2000 < l0.length) = true := decide_eq_true (by omega)
 clear c2
 by_cases c3 : 2000 ≤ (l0.length : Int)
 rotate_left
 ·rw [if_neg c3] at H
  exact absurd H (by simp)
 rw [if_pos c3] at H
 have c3b0 := eq_true c3
 have c3b1 : decide (2000 ≤ (l0.length : Int)) = true := decide_eq_true c3
 clear c3
 simp only [Option.some.injEq, Prod.mk.injEq] at H
 obtain ⟨rfl, rfl⟩ := H
 obtain ⟨i04, hi04, _, hsz4, _⟩ := info_parts info5
 obtain ⟨hcut4, hA4, hC4⟩ := print_take_of (P := Try.prog) (Value.int .u8) 0 50 5 .i64 Try.underlying50 hi04 hsz4 A0 c0 l0 2000 (by omega) (of_decide_eq_true (by first | (with_reducible assumption) | assumption)) HC0.out
 have HR101 := m0_ (Kd.C_of_reads (h1 := fun _ => rfl) (hA4 _ (Kd.reads_of_C HR0.out)))
 have HC101 := m0_ hC4
 clear hA4 hC4 hi04 hsz4
 go_enter Try.func67, Try.ntmps67
 go_wp2_with (first | ((with_reducible refine gate_dst (N := 10) rfl ?_);refine box_event ?hg (N := 10) ?hd (cs := #[.slice A0 (l0.take 2000).length c0, .int .i64 0]) (t := 127) ?hr ?_;(case hd => rfl);(case hg => rfl);(case hr => first | (go_simp;done) | (go_simp;rfl));intro gb102 hg w5 hbox hb;replace HB := m0_ (below_step (by exact HB.out) hb);have BK102 := m0_ (hbox);have GW102 := m0_ ((by rw [hg];exact (below_size (by repeat (first | (with_reducible first | exact HBW.out | apply below_alloc | apply pw_below_drewN | apply below_drew1) | exact HBW.out))) : w.heap.size ≤ gb102));have GE102 := m0_ ((Nat.le_trans HW0.out (by rw [hg];exact (below_size (by repeat (first | (with_reducible first | exact HBW.out | apply below_alloc | apply pw_below_drewN | apply below_drew1) | exact HBW.out))) : w.heap.size ≤ gb102) : w0.heap.size ≤ gb102));replace HBW := m0_ (below_step HBW.out hb);clear hb hbox hg))
 go_ret
 exact ⟨_, rfl, (show IsS127 w0 _ gb102 (l0.take 2000) 0 from ⟨_, _, by (with_reducible repeat (first | refine blk_drewN ?_ _ | refine blk_drew ?_ | refine blk_alloc ?_ _));exact BK102.out, GE102.out, HR101.out⟩), by repeat (first | (with_reducible first | exact HB.out | apply below_alloc | apply pw_below_drewN | apply below_drew1 | refine below_set ?_ GE102.out) | exact HB.out), by repeat (first | (with_reducible first | exact HBW.out | apply below_alloc | apply pw_below_drewN | apply below_drew1 | refine below_set ?_ GW102.out) | exact HBW.out)⟩

def spec_DrawRulesOrder.f (k : Nat) (l0 : List Int) : Option ((List (S39))) := (spec_l14Open.f l0).bind fun bt101 => ((spec_l8Bent.f k bt101.1 bt101.2).bind fun bt104 => (some bt104.1))
set_option maxHeartbeats 8000000 in
set_option maxRecDepth 100000 in
theorem spec_DrawRulesOrder.calls (k : Nat) (A0 : Option Addr) (c0 : Nat) (l0 : List Int) (r : List (S39)) (w : World) (hr0 : Kd.C (Kd.int .u8) w A0 l0.length l0) (hc0 : l0.length ≤ c0) (h : spec_DrawRulesOrder.f k l0 = some r) :
  Calls Try.prog 31 #[.slice A0 l0.length c0] w fun e w' => ∃ v0_ : Value, e = .returned (v0_) ∧ Kd.N k39 39 w' w.heap.size (fun k_ => (w.heap.size ≤ k_)) v0_ r ∧ Below w.heap.size w w' := by
 have HR0 := m0_ hr0
 have HC0 := m0_ hc0
 clear hr0 hc0
 have HB := m0_ (Below.refl w.heap.size w)
 have H : ((spec_l14Open.f l0).bind fun bt101 => ((spec_l8Bent.f k bt101.1 bt101.2).bind fun bt104 => (some bt104.1))) = some r := h
 clear h
 replace H := Option.bind_eq_some_iff.mp H
 obtain ⟨⟨t101, t102⟩, A20, H⟩ := H
 replace H : ((spec_l8Bent.f k t101 t102).bind fun bt104 => (some bt104.1)) = some r := H
 have A2 := m0_ A20
 clear A20
 replace H := Option.bind_eq_some_iff.mp H
 obtain ⟨⟨t104, t107⟩, A30, H⟩ := H
 replace H : (some t104) = some r := H
 have A3 := m0_ A30
 clear A30
 obtain rfl := Option.some.inj H
 go_enter Try.func31, Try.ntmps31
 go_wp2_with (first | ((with_reducible refine gate_callee (f := 67) rfl ?_);refine goesL_ (some 4) rfl rfl Try.func67 (by kernel_rfl) rfl #[.slice A0 l0.length c0] rfl (by (try simp only [List.map_toArray, List.map_cons, List.map_nil]);first | done | rfl | (simp only [List.length_drop, List.length_take];rfl)) ?_;(with_reducible refine (spec_l14Open.calls _ _ l0 t101 t102 w _ ?side1 ?side2 ?side3 A2.out).mono ?_);(case side1 => repeat (first | (with_reducible first | exact HB.out | apply below_alloc | apply pw_below_drewN | apply below_drew1) | exact HB.out));(case side2 => exact HR0.out);(case side3 => exact HC0.out);rintro e w4 ⟨g103, rfl, hi, hb, hb2⟩;refine ⟨_, rfl, ?_⟩;replace HB := m0_ (hb);have HI103 := m0_ (hi);(try clear hb);(try clear hb2);(try clear hk);(try clear hi)) | ((with_reducible refine gate_callee (f := 66) rfl ?_);refine goesL_ (some 5) rfl rfl Try.func66 (by kernel_rfl) rfl #[.pointer (some ⟨g103, 0, none⟩)] rfl (by (try simp only [List.map_toArray, List.map_cons, List.map_nil]);first | done | rfl | (simp only [List.length_drop, List.length_take];rfl)) ?_;(with_reducible refine (spec_l8Bent.calls k g103 t101 t102 t104 t107 w _ ?side1 ?side2 A3.out).mono ?_);(case side1 => repeat (first | (with_reducible first | exact HI103.out | apply IsS127.alloc | apply IsS127.drewN | apply IsS127.drew | apply IsS127.set_1) | exact HI103.out));(case side2 => repeat (first | (with_reducible first | exact HB.out | apply below_alloc | apply pw_below_drewN | apply below_drew1 | refine below_set ?_ (IsS127.ge HI103.out)) | exact HB.out));rintro e w5 ⟨v105, rfl, ho0, hi, hb, hk⟩;refine ⟨_, rfl, ?_⟩;have HO106 := m0_ (Kd.N_lower (Kd.N_mono (ok' := fun k_ => (w.heap.size ≤ k_) ∧ k_ ≠ g103) ho0 (fun k_ hk_ => ⟨(Nat.le_trans (below_size (by repeat (first | (with_reducible first | exact HB.out | apply below_alloc | apply pw_below_drewN | apply below_drew1 | refine below_set ?_ (IsS127.ge HI103.out)) | exact HB.out))) hk_), (IsS127.fresh (by repeat (first | (with_reducible first | exact HI103.out | apply IsS127.alloc | apply IsS127.drewN | apply IsS127.drew | apply IsS127.set_1) | exact HI103.out)) k_ hk_)⟩)) (below_size (by repeat (first | (with_reducible first | exact HB.out | apply below_alloc | apply pw_below_drewN | apply below_drew1 | refine below_set ?_ (IsS127.ge HI103.out)) | exact HB.out))));replace HB := m0_ (hb);replace HI103 := m0_ (hi);(try clear hb);(try clear hb2);(try clear hk);(try clear hi);(try clear ho0)))
 go_ret
 exact ⟨_, by first | rfl | (simp [errW_none, errW_some] <;> rfl) | (simp [*, errW_none, errW_some] <;> rfl), by (with_reducible repeat (first | apply Kd.N_alloc | apply Kd.N_drewN | apply Kd.N_drew));exact Kd.N_mono HO106.out (fun _ hk => hk.1), by repeat (first | (with_reducible first | exact HB.out | apply below_alloc | apply pw_below_drewN | apply below_drew1 | refine below_set ?_ (IsS127.ge HI103.out)) | exact HB.out)⟩

mutual
def laws_FnRulesTurn.j0 : Nat → List (S39) → List Int → Bool → Option (Bool)
 | 0, _, _, _ => none
 | k + 1, x3, x4, x32 => if x32 = true then ((spec_RulesOrder.f k x3).bind fun t111 => (some ((x4.length : Int) == (t111.length : Int)))) else (laws_FnRulesTurn.l0 k x3 x4 (([] : List (S39))) (wrap64 ((x3.length : Int) - 1)))
def laws_FnRulesTurn.l0 : Nat → List (S39) → List Int → List (S39) → Int → Option (Bool)
 | 0, _, _, _, _ => none
 | k + 1, x3, x4, x5, x6 => if x6 ≥ 0 then (if 0 ≤ x6 then (if x6 < (x3.length : Int) then (if x5.length < 1172812402961 then (laws_FnRulesTurn.l1 k x3 x4 (x5 ++ [(⟨(rd_T39 x3 x6).f0, (rd_T39 x3 x6).f1, (rd_T39 x3 x6).f2, (⟨(rd_T39 x3 x6).f3.f0, (rd_T39 x3 x6).f3.f1, (rd_T39 x3 x6).f3.f2, (rd_T39 x3 x6).f3.f3⟩ : S37), (rd_T39 x3 x6).f4, (rd_T39 x3 x6).f5, (rd_T39 x3 x6).f6, (rd_T39 x3 x6).f7, (rd_T39 x3 x6).f8⟩ : S39)]) x6 0) else (none)) else (none)) else (none)) else ((impl_RulesOrder.f k x5).bind fun t123 => (laws_FnRulesTurn.l2 k x3 x4 x5 t123 0))
def laws_FnRulesTurn.l1 : Nat → List (S39) → List Int → List (S39) → Int → Int → Option (Bool)
 | 0, _, _, _, _, _ => none
 | k + 1, x3, x4, x5, x6, x7 => if x7 < x6 then (if 0 ≤ x7 then (if x7 < (x3.length : Int) then (if 0 ≤ x6 then (if x6 < (x3.length : Int) then (if ((rd_T39 x3 x7).f1) = ((rd_T39 x3 x6).f1) then (some true) else (laws_FnRulesTurn.l1 k x3 x4 x5 x6 (wrap64 (x7 + 1)))) else (none)) else (none)) else (none)) else (none)) else (laws_FnRulesTurn.l0 k x3 x4 x5 (wrap64 (x6 - 1)))
def laws_FnRulesTurn.l2 : Nat → List (S39) → List Int → List (S39) → List Int → Int → Option (Bool)
 | 0, _, _, _, _, _ => none
 | k + 1, x3, x4, x5, x8, x9 => if x9 < (x4.length : Int) then (if x9 ≥ (x8.length : Int) then (some false) else (if 0 ≤ x9 then (if x9 < (x8.length : Int) then (if 0 ≤ (rd x8 x9) then (if (rd x8 x9) < (x5.length : Int) then (if 0 ≤ (rd x4 x9) then (if (rd x4 x9) < (x3.length : Int) then (if ((rd_T39 x5 (rd x8 x9)).f0).toList = ((rd_T39 x3 (rd x4 x9)).f0).toList then (laws_FnRulesTurn.l2 k x3 x4 x5 x8 (wrap64 (x9 + 1))) else (some false)) else (none)) else (none)) else (none)) else (none)) else (none)) else (none))) else (some ((x8.length : Int) == (x4.length : Int)))
end
def laws_FnRulesTurn.f (k : Nat) (l0 : List Int) : Option (Bool) := if (l0.length : Int) > 1048576 then (some true) else ((spec_DrawRulesOrder.f k l0).bind fun t101 => ((impl_RulesOrder.f k t101).bind fun t104 => ((spec_RulesOrder.f k t101).bind fun t107 => (if (t104.length : Int) = (t107.length : Int) then ((spec_RulesOk.f k t101).bind fun t110 => (if t110 = true then (laws_FnRulesTurn.j0 k t101 t104 ((t101.length : Int) == 0)) else (laws_FnRulesTurn.j0 k t101 t104 true))) else (laws_FnRulesTurn.j0 k t101 t104 true)))))
set_option maxHeartbeats 8000000 in
set_option maxRecDepth 100000 in
theorem laws_FnRulesTurn.calls (k : Nat) (A0 : Option Addr) (c0 : Nat) (l0 : List Int) (r : Bool) (hT_ : Aside0 (r = true)) (w : World) (hr0 : Kd.C (Kd.int .u8) w A0 l0.length l0) (hc0 : l0.length ≤ c0) (h : laws_FnRulesTurn.f k l0 = some r) :
  Calls Try.prog 8 #[.slice A0 l0.length c0] w fun e w' => e = .returned (.bool r) ∧ Below w.heap.size w w' := by
 have hu39 := Try.underlying39
 have HR0 := m0_ hr0
 have HC0 := m0_ hc0
 clear hr0 hc0
 have HB := m0_ (Below.refl w.heap.size w)
 have H : (if (l0.length : Int) > 1048576 then (some true) else ((spec_DrawRulesOrder.f k l0).bind fun t101 => ((impl_RulesOrder.f k t101).bind fun t104 => ((spec_RulesOrder.f k t101).bind fun t107 => (if (t104.length : Int) = (t107.length : Int) then ((spec_RulesOk.f k t101).bind fun t110 => (if t110 = true then (laws_FnRulesTurn.j0 k t101 t104 ((t101.length : Int) == 0)) else (laws_FnRulesTurn.j0 k t101 t104 true))) else (laws_FnRulesTurn.j0 k t101 t104 true)))))) = some r := h
 clear h
 by_cases c2 : (l0.length : Int) > 1048576
 ·rw [if_pos c2] at H
  have c2b0 : decide (1048576 < (l0.length : Int)) = true := decide_eq_true c2
  have c2b1 : decide (1048576 < l0.length) = true := decide_eq_true (by omega)
  clear c2
  obtain rfl := Option.some.inj H
  go_enter Try.func8, Try.ntmps8
  go_wp2
  repeat (go_quiet (fail);try go_wp2)
  go_ret
  exact ⟨by first | rfl | (simp [errW_none, errW_some] <;> rfl) | (simp [*, errW_none, errW_some] <;> rfl), by repeat (first | (with_reducible first | exact HB.out | apply below_alloc | apply pw_below_drewN | apply below_drew1) | exact HB.out)⟩
 rw [if_neg c2] at H
 have c2b0 : decide (1048576 < (l0.length : Int)) = false := decide_eq_false c2
 have c2b1 : decide (1048576 < l0.length) = false := decide_eq_false (by omega)
 clear c2
 replace H := Option.bind_eq_some_iff.mp H
 obtain ⟨t101, A30, H⟩ := H
 replace H : ((impl_RulesOrder.f k t101).bind fun t104 => ((spec_RulesOrder.f k t101).bind fun t107 => (if (t104.length : Int) = (t107.length : Int) then ((spec_RulesOk.f k t101).bind fun t110 => (if t110 = true then (laws_FnRulesTurn.j0 k t101 t104 ((t101.length : Int) == 0)) else (laws_FnRulesTurn.j0 k t101 t104 true))) else (laws_FnRulesTurn.j0 k t101 t104 true)))) = some r := H
 have A3 := m0_ A30
 clear A30
 replace H := Option.bind_eq_some_iff.mp H
 obtain ⟨t104, A40, H⟩ := H
 replace H : ((spec_RulesOrder.f k t101).bind fun t107 => (if (t104.length : Int) = (t107.length : Int) then ((spec_RulesOk.f k t101).bind fun t110 => (if t110 = true then (laws_FnRulesTurn.j0 k t101 t104 ((t101.length : Int) == 0)) else (laws_FnRulesTurn.j0 k t101 t104 true))) else (laws_FnRulesTurn.j0 k t101 t104 true))) = some r := H
 have A4 := m0_ A40
 clear A40
 have HC5 := m0_ H
 clear H
 go_enter Try.func8, Try.ntmps8
 go_upto_region 5 with (first | (go_at_call 31;(with_reducible refine (spec_DrawRulesOrder.calls k _ _ l0 t101 _ ?side1 ?side2 A3.out).mono ?_);(case side1 => repeat (first | exact HR0.out | (with_reducible refine Kd.C_alloc ?_ _) | (with_reducible refine Kd.C_drewN ?_ _) | (with_reducible refine Kd.C_drew ?_)));(case side2 => exact HC0.out);rintro e w6 ⟨v102, rfl, ho0, hb⟩;have HO103 := m0_ (Kd.N_lower (Kd.N_mono (ok' := fun k_ => True) ho0 (fun k_ hk_ => trivial)) (below_size (by exact HB.out)));replace HB := m0_ (below_step (by exact HB.out) hb);(try clear hb);(try clear hb2);(try clear hk);(try clear hi);(try clear ho0);obtain ⟨Ao7, co7, eo7⟩ := Kd.N_slice HO103.out;subst eo7) | (go_at_call 26;(with_reducible refine (impl_RulesOrder.calls k _ _ t101 t104 _ ?side1 ?side2 A4.out).mono ?_);(case side1 => repeat (first | exact (Kd.N_reads' HO103.out).2.2 | (with_reducible refine Kd.C_alloc ?_ _) | (with_reducible refine Kd.C_drewN ?_ _) | (with_reducible refine Kd.C_drew ?_)));(case side2 => exact (Kd.N_reads' HO103.out).2.1);rintro e w8 ⟨v105, rfl, ho0, hb⟩;replace HO103 := m0_ (Kd.N_elder' (by exact HO103.out) (Kd.R_base ho0) hb);have HO106 := m0_ (Kd.R_lower ho0 (below_size (by exact HB.out)));replace HB := m0_ (below_step (by exact HB.out) hb);(try clear hb);(try clear hb2);(try clear hk);(try clear hi);(try clear ho0)))
 repeat (go_quiet (first | (go_at_call 31;(with_reducible refine (spec_DrawRulesOrder.calls k _ _ l0 t101 _ ?side1 ?side2 A3.out).mono ?_);(case side1 => repeat (first | exact HR0.out | (with_reducible refine Kd.C_alloc ?_ _) | (with_reducible refine Kd.C_drewN ?_ _) | (with_reducible refine Kd.C_drew ?_)));(case side2 => exact HC0.out);rintro e w6 ⟨v102, rfl, ho0, hb⟩;have HO103 := m0_ (Kd.N_lower (Kd.N_mono (ok' := fun k_ => True) ho0 (fun k_ hk_ => trivial)) (below_size (by exact HB.out)));replace HB := m0_ (below_step (by exact HB.out) hb);(try clear hb);(try clear hb2);(try clear hk);(try clear hi);(try clear ho0);obtain ⟨Ao7, co7, eo7⟩ := Kd.N_slice HO103.out;subst eo7) | (go_at_call 26;(with_reducible refine (impl_RulesOrder.calls k _ _ t101 t104 _ ?side1 ?side2 A4.out).mono ?_);(case side1 => repeat (first | exact (Kd.N_reads' HO103.out).2.2 | (with_reducible refine Kd.C_alloc ?_ _) | (with_reducible refine Kd.C_drewN ?_ _) | (with_reducible refine Kd.C_drew ?_)));(case side2 => exact (Kd.N_reads' HO103.out).2.1);rintro e w8 ⟨v105, rfl, ho0, hb⟩;replace HO103 := m0_ (Kd.N_elder' (by exact HO103.out) (Kd.R_base ho0) hb);have HO106 := m0_ (Kd.R_lower ho0 (below_size (by exact HB.out)));replace HB := m0_ (below_step (by exact HB.out) hb);(try clear hb);(try clear hb2);(try clear hk);(try clear hi);(try clear ho0)));go_upto_region 5 with (first | (go_at_call 31;(with_reducible refine (spec_DrawRulesOrder.calls k _ _ l0 t101 _ ?side1 ?side2 A3.out).mono ?_);(case side1 => repeat (first | exact HR0.out | (with_reducible refine Kd.C_alloc ?_ _) | (with_reducible refine Kd.C_drewN ?_ _) | (with_reducible refine Kd.C_drew ?_)));(case side2 => exact HC0.out);rintro e w6 ⟨v102, rfl, ho0, hb⟩;have HO103 := m0_ (Kd.N_lower (Kd.N_mono (ok' := fun k_ => True) ho0 (fun k_ hk_ => trivial)) (below_size (by exact HB.out)));replace HB := m0_ (below_step (by exact HB.out) hb);(try clear hb);(try clear hb2);(try clear hk);(try clear hi);(try clear ho0);obtain ⟨Ao7, co7, eo7⟩ := Kd.N_slice HO103.out;subst eo7) | (go_at_call 26;(with_reducible refine (impl_RulesOrder.calls k _ _ t101 t104 _ ?side1 ?side2 A4.out).mono ?_);(case side1 => repeat (first | exact (Kd.N_reads' HO103.out).2.2 | (with_reducible refine Kd.C_alloc ?_ _) | (with_reducible refine Kd.C_drewN ?_ _) | (with_reducible refine Kd.C_drew ?_)));(case side2 => exact (Kd.N_reads' HO103.out).2.1);rintro e w8 ⟨v105, rfl, ho0, hb⟩;replace HO103 := m0_ (Kd.N_elder' (by exact HO103.out) (Kd.R_base ho0) hb);have HO106 := m0_ (Kd.R_lower ho0 (below_size (by exact HB.out)));replace HB := m0_ (below_step (by exact HB.out) hb);(try clear hb);(try clear hb2);(try clear hk);(try clear hi);(try clear ho0))))
 (try simp only [Act.put, List.setIfInBounds_toArray, List.set_cons_zero, List.set_cons_succ])
 go_cut [32] (fun v32 wc => ∃ (kq : Nat) (x32_4 : Bool), v32 = .bool x32_4 ∧ Aside0 (laws_FnRulesTurn.j0 kq t101 t104 x32_4 = some r) ∧ Aside0 (kq ≤ k) ∧ Aside0 (Kd.N k39 39 wc w.heap.size (fun k_ => some k_ ≠ (v105 : Value).ownBlock) (.slice Ao7 t101.length co7) t101) ∧ Aside0 (Kd.R (Kd.int .i64) 3 wc w.heap.size (fun _ => True) v105 t104) ∧ Aside0 (Below w.heap.size w wc))
 case first =>
  have H := HC5.out
  clear HC5
  replace H := Option.bind_eq_some_iff.mp H
  obtain ⟨t107, A90, H⟩ := H
  replace H : (if (t104.length : Int) = (t107.length : Int) then ((spec_RulesOk.f k t101).bind fun t110 => (if t110 = true then (laws_FnRulesTurn.j0 k t101 t104 ((t101.length : Int) == 0)) else (laws_FnRulesTurn.j0 k t101 t104 true))) else (laws_FnRulesTurn.j0 k t101 t104 true)) = some r := H
  have A9 := m0_ A90
  clear A90
  by_cases c10 : (t104.length : Int) = (t107.length : Int)
  rotate_left
  ·rw [if_neg c10] at H
   have c10b0 : ((t104.length : Int) == (t107.length : Int)) = false := beq_eq_false_iff_ne.mpr c10
   have c10b1 : ((t104.length : Int) != (t107.length : Int)) = true := bne_iff_ne.mpr c10
   have c10b2 : (t104.length == t107.length) = false := by first | simpa using c10 | (simp at c10 ⊢;omega)
   (first | rw [c10b0] | (simp only [i64_w, i32_w];rw [c10b0]) | skip)
   have H' := m0_ H
   clear H
   obtain ⟨Ao21, co21, eo21⟩ := Kd.R_slice HO106.out
   subst eo21
   go_wp2_with (first | (go_at_call 25;(with_reducible refine (spec_RulesOrder.calls k _ _ t101 t107 _ ?side1 ?side2 A9.out).mono ?_);(case side1 => repeat (first | exact (Kd.N_reads' HO103.out).2.2 | (with_reducible refine Kd.C_alloc ?_ _) | (with_reducible refine Kd.C_drewN ?_ _) | (with_reducible refine Kd.C_drew ?_)));(case side2 => exact (Kd.N_reads' HO103.out).2.1);rintro e w22 ⟨v108, rfl, ho0, hb⟩;replace HO103 := m0_ (Kd.N_elder' (by exact HO103.out) (Kd.R_base ho0) hb);have HO109 := m0_ (Kd.R_lower (Kd.R_new' ho0 (Kd.R_lt (by exact HO106.out))) (below_size (by exact HB.out)));replace HO106 := m0_ (Kd.R_elder' (by exact HO106.out) (Kd.R_base ho0) hb);replace HB := m0_ (below_step (by exact HB.out) hb);(try clear hb);(try clear hb2);(try clear hk);(try clear hi);(try clear ho0);obtain ⟨Ao23, co23, eo23⟩ := Kd.R_slice HO109.out;subst eo23))
   repeat (go_quiet (first | (go_at_call 25;(with_reducible refine (spec_RulesOrder.calls k _ _ t101 t107 _ ?side1 ?side2 A9.out).mono ?_);(case side1 => repeat (first | exact (Kd.N_reads' HO103.out).2.2 | (with_reducible refine Kd.C_alloc ?_ _) | (with_reducible refine Kd.C_drewN ?_ _) | (with_reducible refine Kd.C_drew ?_)));(case side2 => exact (Kd.N_reads' HO103.out).2.1);rintro e w22 ⟨v108, rfl, ho0, hb⟩;replace HO103 := m0_ (Kd.N_elder' (by exact HO103.out) (Kd.R_base ho0) hb);have HO109 := m0_ (Kd.R_lower (Kd.R_new' ho0 (Kd.R_lt (by exact HO106.out))) (below_size (by exact HB.out)));replace HO106 := m0_ (Kd.R_elder' (by exact HO106.out) (Kd.R_base ho0) hb);replace HB := m0_ (below_step (by exact HB.out) hb);(try clear hb);(try clear hb2);(try clear hk);(try clear hi);(try clear ho0);obtain ⟨Ao23, co23, eo23⟩ := Kd.R_slice HO109.out;subst eo23));try go_wp2_with (first | (go_at_call 25;(with_reducible refine (spec_RulesOrder.calls k _ _ t101 t107 _ ?side1 ?side2 A9.out).mono ?_);(case side1 => repeat (first | exact (Kd.N_reads' HO103.out).2.2 | (with_reducible refine Kd.C_alloc ?_ _) | (with_reducible refine Kd.C_drewN ?_ _) | (with_reducible refine Kd.C_drew ?_)));(case side2 => exact (Kd.N_reads' HO103.out).2.1);rintro e w22 ⟨v108, rfl, ho0, hb⟩;replace HO103 := m0_ (Kd.N_elder' (by exact HO103.out) (Kd.R_base ho0) hb);have HO109 := m0_ (Kd.R_lower (Kd.R_new' ho0 (Kd.R_lt (by exact HO106.out))) (below_size (by exact HB.out)));replace HO106 := m0_ (Kd.R_elder' (by exact HO106.out) (Kd.R_base ho0) hb);replace HB := m0_ (below_step (by exact HB.out) hb);(try clear hb);(try clear hb2);(try clear hk);(try clear hi);(try clear ho0);obtain ⟨Ao23, co23, eo23⟩ := Kd.R_slice HO109.out;subst eo23)))
   go_meet
   case rel => exact ⟨_, (true), (by first | rfl | (simp;done) | (simp [*];done)), H', ⟨by first | omega | exact Nat.le_refl _⟩, ⟨by (with_reducible repeat (first | apply Kd.N_alloc | apply Kd.N_drewN | apply Kd.N_drew));exact Kd.N_mono HO103.out (fun _ hk => hk.1.2)⟩, ⟨by (with_reducible repeat (first | apply Kd.R_alloc | apply Kd.R_drewN | apply Kd.R_drew));exact Kd.R_mono HO106.out (fun _ hk => trivial)⟩, ⟨by repeat (first | (with_reducible first | exact HB.out | apply below_alloc | apply pw_below_drewN | apply below_drew1) | exact HB.out)⟩⟩
  rw [if_pos c10] at H
  have c10b0 : ((t104.length : Int) == (t107.length : Int)) = true := beq_iff_eq.mpr c10
  have c10b1 : ((t104.length : Int) != (t107.length : Int)) = false := bne_eq_false_iff_eq.mpr c10
  have c10b2 : (t104.length == t107.length) = true := by first | simpa using c10 | (simp at c10 ⊢;omega)
  clear c10
  (first | rw [c10b0] | (simp only [i64_w, i32_w];rw [c10b0]) | skip)
  replace H := Option.bind_eq_some_iff.mp H
  obtain ⟨t110, A110, H⟩ := H
  replace H : (if t110 = true then (laws_FnRulesTurn.j0 k t101 t104 ((t101.length : Int) == 0)) else (laws_FnRulesTurn.j0 k t101 t104 true)) = some r := H
  have A11 := m0_ A110
  clear A110
  by_cases c12 : t110 = true
  ·subst c12
   have H1 : (laws_FnRulesTurn.j0 k t101 t104 ((t101.length : Int) == 0)) = some r := by rw [if_pos rfl] at H;exact H
   clear H
   have H := H1
   clear H1
   have H' := m0_ H
   clear H
   obtain ⟨Ao13, co13, eo13⟩ := Kd.R_slice HO106.out
   subst eo13
   go_wp2_with (first | (go_at_call 25;(with_reducible refine (spec_RulesOrder.calls k _ _ t101 t107 _ ?side1 ?side2 A9.out).mono ?_);(case side1 => repeat (first | exact (Kd.N_reads' HO103.out).2.2 | (with_reducible refine Kd.C_alloc ?_ _) | (with_reducible refine Kd.C_drewN ?_ _) | (with_reducible refine Kd.C_drew ?_)));(case side2 => exact (Kd.N_reads' HO103.out).2.1);rintro e w14 ⟨v108, rfl, ho0, hb⟩;replace HO103 := m0_ (Kd.N_elder' (by exact HO103.out) (Kd.R_base ho0) hb);have HO109 := m0_ (Kd.R_lower (Kd.R_new' ho0 (Kd.R_lt (by exact HO106.out))) (below_size (by exact HB.out)));replace HO106 := m0_ (Kd.R_elder' (by exact HO106.out) (Kd.R_base ho0) hb);replace HB := m0_ (below_step (by exact HB.out) hb);(try clear hb);(try clear hb2);(try clear hk);(try clear hi);(try clear ho0);obtain ⟨Ao15, co15, eo15⟩ := Kd.R_slice HO109.out;subst eo15) | (go_at_call 23;(with_reducible refine (spec_RulesOk.calls k _ _ t101 true _ ?side1 ?side2 A11.out).mono ?_);(case side1 => repeat (first | exact (Kd.N_reads' HO103.out).2.2 | (with_reducible refine Kd.C_alloc ?_ _) | (with_reducible refine Kd.C_drewN ?_ _) | (with_reducible refine Kd.C_drew ?_)));(case side2 => exact (Kd.N_reads' HO103.out).2.1);rintro e w16 ⟨rfl, hb⟩;replace HO103 := m0_ (Kd.N_below (by exact HO103.out) hb);replace HO106 := m0_ (Kd.R_below (by exact HO106.out) hb);replace HO109 := m0_ (Kd.R_below (by exact HO109.out) hb);replace HB := m0_ (below_step (by exact HB.out) hb);(try clear hb);(try clear hb2);(try clear hk);(try clear hi)))
   repeat (go_quiet (first | (go_at_call 25;(with_reducible refine (spec_RulesOrder.calls k _ _ t101 t107 _ ?side1 ?side2 A9.out).mono ?_);(case side1 => repeat (first | exact (Kd.N_reads' HO103.out).2.2 | (with_reducible refine Kd.C_alloc ?_ _) | (with_reducible refine Kd.C_drewN ?_ _) | (with_reducible refine Kd.C_drew ?_)));(case side2 => exact (Kd.N_reads' HO103.out).2.1);rintro e w14 ⟨v108, rfl, ho0, hb⟩;replace HO103 := m0_ (Kd.N_elder' (by exact HO103.out) (Kd.R_base ho0) hb);have HO109 := m0_ (Kd.R_lower (Kd.R_new' ho0 (Kd.R_lt (by exact HO106.out))) (below_size (by exact HB.out)));replace HO106 := m0_ (Kd.R_elder' (by exact HO106.out) (Kd.R_base ho0) hb);replace HB := m0_ (below_step (by exact HB.out) hb);(try clear hb);(try clear hb2);(try clear hk);(try clear hi);(try clear ho0);obtain ⟨Ao15, co15, eo15⟩ := Kd.R_slice HO109.out;subst eo15) | (go_at_call 23;(with_reducible refine (spec_RulesOk.calls k _ _ t101 true _ ?side1 ?side2 A11.out).mono ?_);(case side1 => repeat (first | exact (Kd.N_reads' HO103.out).2.2 | (with_reducible refine Kd.C_alloc ?_ _) | (with_reducible refine Kd.C_drewN ?_ _) | (with_reducible refine Kd.C_drew ?_)));(case side2 => exact (Kd.N_reads' HO103.out).2.1);rintro e w16 ⟨rfl, hb⟩;replace HO103 := m0_ (Kd.N_below (by exact HO103.out) hb);replace HO106 := m0_ (Kd.R_below (by exact HO106.out) hb);replace HO109 := m0_ (Kd.R_below (by exact HO109.out) hb);replace HB := m0_ (below_step (by exact HB.out) hb);(try clear hb);(try clear hb2);(try clear hk);(try clear hi)));try go_wp2_with (first | (go_at_call 25;(with_reducible refine (spec_RulesOrder.calls k _ _ t101 t107 _ ?side1 ?side2 A9.out).mono ?_);(case side1 => repeat (first | exact (Kd.N_reads' HO103.out).2.2 | (with_reducible refine Kd.C_alloc ?_ _) | (with_reducible refine Kd.C_drewN ?_ _) | (with_reducible refine Kd.C_drew ?_)));(case side2 => exact (Kd.N_reads' HO103.out).2.1);rintro e w14 ⟨v108, rfl, ho0, hb⟩;replace HO103 := m0_ (Kd.N_elder' (by exact HO103.out) (Kd.R_base ho0) hb);have HO109 := m0_ (Kd.R_lower (Kd.R_new' ho0 (Kd.R_lt (by exact HO106.out))) (below_size (by exact HB.out)));replace HO106 := m0_ (Kd.R_elder' (by exact HO106.out) (Kd.R_base ho0) hb);replace HB := m0_ (below_step (by exact HB.out) hb);(try clear hb);(try clear hb2);(try clear hk);(try clear hi);(try clear ho0);obtain ⟨Ao15, co15, eo15⟩ := Kd.R_slice HO109.out;subst eo15) | (go_at_call 23;(with_reducible refine (spec_RulesOk.calls k _ _ t101 true _ ?side1 ?side2 A11.out).mono ?_);(case side1 => repeat (first | exact (Kd.N_reads' HO103.out).2.2 | (with_reducible refine Kd.C_alloc ?_ _) | (with_reducible refine Kd.C_drewN ?_ _) | (with_reducible refine Kd.C_drew ?_)));(case side2 => exact (Kd.N_reads' HO103.out).2.1);rintro e w16 ⟨rfl, hb⟩;replace HO103 := m0_ (Kd.N_below (by exact HO103.out) hb);replace HO106 := m0_ (Kd.R_below (by exact HO106.out) hb);replace HO109 := m0_ (Kd.R_below (by exact HO109.out) hb);replace HB := m0_ (below_step (by exact HB.out) hb);(try clear hb);(try clear hb2);(try clear hk);(try clear hi))))
   go_meet
   case rel => exact ⟨_, (((t101.length : Int) == 0)), (by first | rfl | (simp;done) | (simp [*];done)), H', ⟨by first | omega | exact Nat.le_refl _⟩, ⟨by (with_reducible repeat (first | apply Kd.N_alloc | apply Kd.N_drewN | apply Kd.N_drew));exact Kd.N_mono HO103.out (fun _ hk => hk.1.2)⟩, ⟨by (with_reducible repeat (first | apply Kd.R_alloc | apply Kd.R_drewN | apply Kd.R_drew));exact Kd.R_mono HO106.out (fun _ hk => trivial)⟩, ⟨by repeat (first | (with_reducible first | exact HB.out | apply below_alloc | apply pw_below_drewN | apply below_drew1) | exact HB.out)⟩⟩
  replace c12 := Bool.eq_false_iff.mpr c12
  subst c12
  have H1 : (laws_FnRulesTurn.j0 k t101 t104 true) = some r := by rw [if_neg (show ¬ (false = true) by decide)] at H;exact H
  clear H
  have H := H1
  clear H1
  have H' := m0_ H
  clear H
  obtain ⟨Ao17, co17, eo17⟩ := Kd.R_slice HO106.out
  subst eo17
  go_wp2_with (first | (go_at_call 25;(with_reducible refine (spec_RulesOrder.calls k _ _ t101 t107 _ ?side1 ?side2 A9.out).mono ?_);(case side1 => repeat (first | exact (Kd.N_reads' HO103.out).2.2 | (with_reducible refine Kd.C_alloc ?_ _) | (with_reducible refine Kd.C_drewN ?_ _) | (with_reducible refine Kd.C_drew ?_)));(case side2 => exact (Kd.N_reads' HO103.out).2.1);rintro e w18 ⟨v108, rfl, ho0, hb⟩;replace HO103 := m0_ (Kd.N_elder' (by exact HO103.out) (Kd.R_base ho0) hb);have HO109 := m0_ (Kd.R_lower (Kd.R_new' ho0 (Kd.R_lt (by exact HO106.out))) (below_size (by exact HB.out)));replace HO106 := m0_ (Kd.R_elder' (by exact HO106.out) (Kd.R_base ho0) hb);replace HB := m0_ (below_step (by exact HB.out) hb);(try clear hb);(try clear hb2);(try clear hk);(try clear hi);(try clear ho0);obtain ⟨Ao19, co19, eo19⟩ := Kd.R_slice HO109.out;subst eo19) | (go_at_call 23;(with_reducible refine (spec_RulesOk.calls k _ _ t101 false _ ?side1 ?side2 A11.out).mono ?_);(case side1 => repeat (first | exact (Kd.N_reads' HO103.out).2.2 | (with_reducible refine Kd.C_alloc ?_ _) | (with_reducible refine Kd.C_drewN ?_ _) | (with_reducible refine Kd.C_drew ?_)));(case side2 => exact (Kd.N_reads' HO103.out).2.1);rintro e w20 ⟨rfl, hb⟩;replace HO103 := m0_ (Kd.N_below (by exact HO103.out) hb);replace HO106 := m0_ (Kd.R_below (by exact HO106.out) hb);replace HO109 := m0_ (Kd.R_below (by exact HO109.out) hb);replace HB := m0_ (below_step (by exact HB.out) hb);(try clear hb);(try clear hb2);(try clear hk);(try clear hi)))
  repeat (go_quiet (first | (go_at_call 25;(with_reducible refine (spec_RulesOrder.calls k _ _ t101 t107 _ ?side1 ?side2 A9.out).mono ?_);(case side1 => repeat (first | exact (Kd.N_reads' HO103.out).2.2 | (with_reducible refine Kd.C_alloc ?_ _) | (with_reducible refine Kd.C_drewN ?_ _) | (with_reducible refine Kd.C_drew ?_)));(case side2 => exact (Kd.N_reads' HO103.out).2.1);rintro e w18 ⟨v108, rfl, ho0, hb⟩;replace HO103 := m0_ (Kd.N_elder' (by exact HO103.out) (Kd.R_base ho0) hb);have HO109 := m0_ (Kd.R_lower (Kd.R_new' ho0 (Kd.R_lt (by exact HO106.out))) (below_size (by exact HB.out)));replace HO106 := m0_ (Kd.R_elder' (by exact HO106.out) (Kd.R_base ho0) hb);replace HB := m0_ (below_step (by exact HB.out) hb);(try clear hb);(try clear hb2);(try clear hk);(try clear hi);(try clear ho0);obtain ⟨Ao19, co19, eo19⟩ := Kd.R_slice HO109.out;subst eo19) | (go_at_call 23;(with_reducible refine (spec_RulesOk.calls k _ _ t101 false _ ?side1 ?side2 A11.out).mono ?_);(case side1 => repeat (first | exact (Kd.N_reads' HO103.out).2.2 | (with_reducible refine Kd.C_alloc ?_ _) | (with_reducible refine Kd.C_drewN ?_ _) | (with_reducible refine Kd.C_drew ?_)));(case side2 => exact (Kd.N_reads' HO103.out).2.1);rintro e w20 ⟨rfl, hb⟩;replace HO103 := m0_ (Kd.N_below (by exact HO103.out) hb);replace HO106 := m0_ (Kd.R_below (by exact HO106.out) hb);replace HO109 := m0_ (Kd.R_below (by exact HO109.out) hb);replace HB := m0_ (below_step (by exact HB.out) hb);(try clear hb);(try clear hb2);(try clear hk);(try clear hi)));try go_wp2_with (first | (go_at_call 25;(with_reducible refine (spec_RulesOrder.calls k _ _ t101 t107 _ ?side1 ?side2 A9.out).mono ?_);(case side1 => repeat (first | exact (Kd.N_reads' HO103.out).2.2 | (with_reducible refine Kd.C_alloc ?_ _) | (with_reducible refine Kd.C_drewN ?_ _) | (with_reducible refine Kd.C_drew ?_)));(case side2 => exact (Kd.N_reads' HO103.out).2.1);rintro e w18 ⟨v108, rfl, ho0, hb⟩;replace HO103 := m0_ (Kd.N_elder' (by exact HO103.out) (Kd.R_base ho0) hb);have HO109 := m0_ (Kd.R_lower (Kd.R_new' ho0 (Kd.R_lt (by exact HO106.out))) (below_size (by exact HB.out)));replace HO106 := m0_ (Kd.R_elder' (by exact HO106.out) (Kd.R_base ho0) hb);replace HB := m0_ (below_step (by exact HB.out) hb);(try clear hb);(try clear hb2);(try clear hk);(try clear hi);(try clear ho0);obtain ⟨Ao19, co19, eo19⟩ := Kd.R_slice HO109.out;subst eo19) | (go_at_call 23;(with_reducible refine (spec_RulesOk.calls k _ _ t101 false _ ?side1 ?side2 A11.out).mono ?_);(case side1 => repeat (first | exact (Kd.N_reads' HO103.out).2.2 | (with_reducible refine Kd.C_alloc ?_ _) | (with_reducible refine Kd.C_drewN ?_ _) | (with_reducible refine Kd.C_drew ?_)));(case side2 => exact (Kd.N_reads' HO103.out).2.1);rintro e w20 ⟨rfl, hb⟩;replace HO103 := m0_ (Kd.N_below (by exact HO103.out) hb);replace HO106 := m0_ (Kd.R_below (by exact HO106.out) hb);replace HO109 := m0_ (Kd.R_below (by exact HO109.out) hb);replace HB := m0_ (below_step (by exact HB.out) hb);(try clear hb);(try clear hb2);(try clear hk);(try clear hi))))
  go_meet
  case rel => exact ⟨_, (true), (by first | rfl | (simp;done) | (simp [*];done)), H', ⟨by first | omega | exact Nat.le_refl _⟩, ⟨by (with_reducible repeat (first | apply Kd.N_alloc | apply Kd.N_drewN | apply Kd.N_drew));exact Kd.N_mono HO103.out (fun _ hk => hk.1.2)⟩, ⟨by (with_reducible repeat (first | apply Kd.R_alloc | apply Kd.R_drewN | apply Kd.R_drew));exact Kd.R_mono HO106.out (fun _ hk => trivial)⟩, ⟨by repeat (first | (with_reducible first | exact HB.out | apply below_alloc | apply pw_below_drewN | apply below_drew1) | exact HB.out)⟩⟩
 case rest =>
  clear HC5
  try clear c1
  try clear c2
  try clear c2b0
  try clear c2b1
  try clear p2
  try clear c8
  try clear c10
  try clear c10b0
  try clear c10b1
  try clear c10b2
  try clear c12
  obtain ⟨kq, x32_4, rfl, HA, HJ4, HO_3, HO_4, HB⟩ := hcut
  cases kq with
  | zero => exact absurd HA.out (by simp [laws_FnRulesTurn.j0])
  | succ kj4 =>
   have H := HA.out
   clear HA
   simp only [laws_FnRulesTurn.j0] at H
   by_cases c24 : x32_4 = true
   ·subst c24
    have H1 : ((spec_RulesOrder.f kj4 t101).bind fun t111 => (some ((t104.length : Int) == (t111.length : Int)))) = some r := by rw [if_pos rfl] at H;exact H
    clear H
    have H := H1
    clear H1
    replace H := Option.bind_eq_some_iff.mp H
    obtain ⟨t111, A250, H⟩ := H
    replace H : (some ((t104.length : Int) == (t111.length : Int))) = some r := H
    have A25 := m0_ A250
    clear A250
    obtain rfl := Option.some.inj H
    obtain ⟨Ao26, co26, eo26⟩ := Kd.R_slice HO_4.out
    subst eo26
    go_wp2_with (first | (go_at_call 25;(with_reducible refine (spec_RulesOrder.calls kj4 _ _ t101 t111 _ ?side1 ?side2 A25.out).mono ?_);(case side1 => repeat (first | exact (Kd.N_reads' HO_3.out).2.2 | (with_reducible refine Kd.C_alloc ?_ _) | (with_reducible refine Kd.C_drewN ?_ _) | (with_reducible refine Kd.C_drew ?_)));(case side2 => exact (Kd.N_reads' HO_3.out).2.1);rintro e w27 ⟨v112, rfl, ho0, hb⟩;replace HO_3 := m0_ (Kd.N_elder' (by exact HO_3.out) (Kd.R_base ho0) hb);have HO113 := m0_ (Kd.R_lower (Kd.R_new' ho0 (Kd.R_lt (by exact HO_4.out))) (below_size (by exact HB.out)));replace HO_4 := m0_ (Kd.R_elder' (by exact HO_4.out) (Kd.R_base ho0) hb);replace HB := m0_ (below_step (by exact HB.out) hb);(try clear hb);(try clear hb2);(try clear hk);(try clear hi);(try clear ho0);obtain ⟨Ao28, co28, eo28⟩ := Kd.R_slice HO113.out;subst eo28))
    repeat (go_quiet (first | (go_at_call 25;(with_reducible refine (spec_RulesOrder.calls kj4 _ _ t101 t111 _ ?side1 ?side2 A25.out).mono ?_);(case side1 => repeat (first | exact (Kd.N_reads' HO_3.out).2.2 | (with_reducible refine Kd.C_alloc ?_ _) | (with_reducible refine Kd.C_drewN ?_ _) | (with_reducible refine Kd.C_drew ?_)));(case side2 => exact (Kd.N_reads' HO_3.out).2.1);rintro e w27 ⟨v112, rfl, ho0, hb⟩;replace HO_3 := m0_ (Kd.N_elder' (by exact HO_3.out) (Kd.R_base ho0) hb);have HO113 := m0_ (Kd.R_lower (Kd.R_new' ho0 (Kd.R_lt (by exact HO_4.out))) (below_size (by exact HB.out)));replace HO_4 := m0_ (Kd.R_elder' (by exact HO_4.out) (Kd.R_base ho0) hb);replace HB := m0_ (below_step (by exact HB.out) hb);(try clear hb);(try clear hb2);(try clear hk);(try clear hi);(try clear ho0);obtain ⟨Ao28, co28, eo28⟩ := Kd.R_slice HO113.out;subst eo28));try go_wp2_with (first | (go_at_call 25;(with_reducible refine (spec_RulesOrder.calls kj4 _ _ t101 t111 _ ?side1 ?side2 A25.out).mono ?_);(case side1 => repeat (first | exact (Kd.N_reads' HO_3.out).2.2 | (with_reducible refine Kd.C_alloc ?_ _) | (with_reducible refine Kd.C_drewN ?_ _) | (with_reducible refine Kd.C_drew ?_)));(case side2 => exact (Kd.N_reads' HO_3.out).2.1);rintro e w27 ⟨v112, rfl, ho0, hb⟩;replace HO_3 := m0_ (Kd.N_elder' (by exact HO_3.out) (Kd.R_base ho0) hb);have HO113 := m0_ (Kd.R_lower (Kd.R_new' ho0 (Kd.R_lt (by exact HO_4.out))) (below_size (by exact HB.out)));replace HO_4 := m0_ (Kd.R_elder' (by exact HO_4.out) (Kd.R_base ho0) hb);replace HB := m0_ (below_step (by exact HB.out) hb);(try clear hb);(try clear hb2);(try clear hk);(try clear hi);(try clear ho0);obtain ⟨Ao28, co28, eo28⟩ := Kd.R_slice HO113.out;subst eo28)))
    go_ret
    exact ⟨by first | rfl | (simp [errW_none, errW_some] <;> rfl) | (simp [*, errW_none, errW_some] <;> rfl), by repeat (first | (with_reducible first | exact HB.out | apply below_alloc | apply pw_below_drewN | apply below_drew1) | exact HB.out)⟩
   replace c24 := Bool.eq_false_iff.mpr c24
   subst c24
   have H1 : (laws_FnRulesTurn.l0 kj4 t101 t104 (([] : List (S39))) (wrap64 ((t101.length : Int) - 1))) = some r := by rw [if_neg (show ¬ (false = true) by decide)] at H;exact H
   clear H
   have H := H1
   clear H1
   obtain ⟨y114, hy114⟩ : ∃ y_ : List (S39), y_ = (([] : List (S39))) := ⟨_, rfl⟩
   replace H : (laws_FnRulesTurn.l0 kj4 t101 t104 y114 (wrap64 ((t101.length : Int) - 1))) = some r := by first | (rw [hy114];with_reducible exact H) | (have H2_ := (Option.bind_some _ _).symm.trans H;rw [hy114];with_reducible exact H2_) | (have H2_ := (Option.bind_some _ _).symm.trans H;with_reducible exact H2_) | with_reducible exact H | (rw [hy114];exact H) | exact H
   have Ny114 := m0_ hy114
   clear hy114
   have H' := m0_ H
   clear H
   go_wp2_with (first | ((with_reducible refine gate_dst (N := 39) rfl ?_);(try (refine gate_guard (by rfl) ?_;dsimp only));refine Kd.N_lit k39 _ 39 ?hg (N' := 39) ?hd (xs := ([] : List (S39))) (inner := []) (ok := (fun k_ => some k_ ≠ (.slice Ao7 t101.length co7 : Value).ownBlock ∧ some k_ ≠ (v105 : Value).ownBlock)) (okp := (fun k_ => some k_ ≠ (.slice Ao7 t101.length co7 : Value).ownBlock ∧ some k_ ≠ (v105 : Value).ownBlock)) ?hr ?hp (fun _ hk => hk) ((show ∀ k_, wc.heap.size ≤ k_ → (fun k_ => some k_ ≠ (.slice Ao7 t101.length co7 : Value).ownBlock ∧ some k_ ≠ (v105 : Value).ownBlock) k_ from fun k_ hk => ⟨Kd.fresh' (Kd.N_lt (by exact HO_3.out)) k_ hk, Kd.fresh' (Kd.R_lt (by exact HO_4.out)) k_ hk⟩) _ (Nat.le_refl _)) (Below.refl _ _) (Nat.le_refl _) (by simp) ?_;(case hd => rfl);(case hg => rfl);(case hr => first | (go_simp;done) | (go_simp;rfl));(case hp => exact (Reps.none _ _));intro v115 w29 ho30 hb hg_ hnew_;clear hg_ hnew_;(first | rw [← Ny114.out] at ho30 | (simp only [Int.reduceToNat] at ho30;rw [← Ny114.out] at ho30));replace HO_3 := m0_ (Kd.N_elder' (by exact HO_3.out) (by first | exact Kd.N_base ho30 | exact Kd.S_base ho30 | exact Kd.R_base ho30) hb);replace HO_4 := m0_ (Kd.R_below (by exact HO_4.out) hb);have HO116 := m0_ (Kd.N_lower ho30 (below_size (by exact HB.out)));replace HB := m0_ (below_step (by exact HB.out) hb);clear hb ho30))
   repeat (go_quiet (first | ((with_reducible refine gate_dst (N := 39) rfl ?_);(try (refine gate_guard (by rfl) ?_;dsimp only));refine Kd.N_lit k39 _ 39 ?hg (N' := 39) ?hd (xs := ([] : List (S39))) (inner := []) (ok := (fun k_ => some k_ ≠ (.slice Ao7 t101.length co7 : Value).ownBlock ∧ some k_ ≠ (v105 : Value).ownBlock)) (okp := (fun k_ => some k_ ≠ (.slice Ao7 t101.length co7 : Value).ownBlock ∧ some k_ ≠ (v105 : Value).ownBlock)) ?hr ?hp (fun _ hk => hk) ((show ∀ k_, wc.heap.size ≤ k_ → (fun k_ => some k_ ≠ (.slice Ao7 t101.length co7 : Value).ownBlock ∧ some k_ ≠ (v105 : Value).ownBlock) k_ from fun k_ hk => ⟨Kd.fresh' (Kd.N_lt (by exact HO_3.out)) k_ hk, Kd.fresh' (Kd.R_lt (by exact HO_4.out)) k_ hk⟩) _ (Nat.le_refl _)) (Below.refl _ _) (Nat.le_refl _) (by simp) ?_;(case hd => rfl);(case hg => rfl);(case hr => first | (go_simp;done) | (go_simp;rfl));(case hp => exact (Reps.none _ _));intro v115 w29 ho30 hb hg_ hnew_;clear hg_ hnew_;(first | rw [← Ny114.out] at ho30 | (simp only [Int.reduceToNat] at ho30;rw [← Ny114.out] at ho30));replace HO_3 := m0_ (Kd.N_elder' (by exact HO_3.out) (by first | exact Kd.N_base ho30 | exact Kd.S_base ho30 | exact Kd.R_base ho30) hb);replace HO_4 := m0_ (Kd.R_below (by exact HO_4.out) hb);have HO116 := m0_ (Kd.N_lower ho30 (below_size (by exact HB.out)));replace HB := m0_ (below_step (by exact HB.out) hb);clear hb ho30));try go_wp2_with (first | ((with_reducible refine gate_dst (N := 39) rfl ?_);(try (refine gate_guard (by rfl) ?_;dsimp only));refine Kd.N_lit k39 _ 39 ?hg (N' := 39) ?hd (xs := ([] : List (S39))) (inner := []) (ok := (fun k_ => some k_ ≠ (.slice Ao7 t101.length co7 : Value).ownBlock ∧ some k_ ≠ (v105 : Value).ownBlock)) (okp := (fun k_ => some k_ ≠ (.slice Ao7 t101.length co7 : Value).ownBlock ∧ some k_ ≠ (v105 : Value).ownBlock)) ?hr ?hp (fun _ hk => hk) ((show ∀ k_, wc.heap.size ≤ k_ → (fun k_ => some k_ ≠ (.slice Ao7 t101.length co7 : Value).ownBlock ∧ some k_ ≠ (v105 : Value).ownBlock) k_ from fun k_ hk => ⟨Kd.fresh' (Kd.N_lt (by exact HO_3.out)) k_ hk, Kd.fresh' (Kd.R_lt (by exact HO_4.out)) k_ hk⟩) _ (Nat.le_refl _)) (Below.refl _ _) (Nat.le_refl _) (by simp) ?_;(case hd => rfl);(case hg => rfl);(case hr => first | (go_simp;done) | (go_simp;rfl));(case hp => exact (Reps.none _ _));intro v115 w29 ho30 hb hg_ hnew_;clear hg_ hnew_;(first | rw [← Ny114.out] at ho30 | (simp only [Int.reduceToNat] at ho30;rw [← Ny114.out] at ho30));replace HO_3 := m0_ (Kd.N_elder' (by exact HO_3.out) (by first | exact Kd.N_base ho30 | exact Kd.S_base ho30 | exact Kd.R_base ho30) hb);replace HO_4 := m0_ (Kd.R_below (by exact HO_4.out) hb);have HO116 := m0_ (Kd.N_lower ho30 (below_size (by exact HB.out)));replace HB := m0_ (below_step (by exact HB.out) hb);clear hb ho30)))
   go_loopg [5, 6] kj4 (fun kq v5 v6 w' => ∃ (x5_2 : List (S39)) (x6_2 : Int), v6 = .int .i64 x6_2 ∧ Aside0 (laws_FnRulesTurn.l0 kq t101 t104 x5_2 x6_2 = some r) ∧ Aside0 (kq ≤ kj4) ∧ Aside0 (Kd.N k39 39 w' w.heap.size (fun k_ => some k_ ≠ (v105 : Value).ownBlock ∧ some k_ ≠ (v5 : Value).ownBlock) (.slice Ao7 t101.length co7) t101) ∧ Aside0 (Kd.R (Kd.int .i64) 3 w' w.heap.size (fun _ => True) v105 t104) ∧ Aside0 (Kd.N k39 39 w' w.heap.size (fun k_ => some k_ ≠ ((.slice Ao7 t101.length co7) : Value).ownBlock ∧ some k_ ≠ (v105 : Value).ownBlock) v5 x5_2) ∧ Aside0 (Below w.heap.size w w'))
   case atStart => exact ⟨(y114), (wrap64 ((t101.length : Int) - 1)), (by first | rfl | (simp;done) | (simp [*];done)), H', ⟨Nat.le_refl _⟩, ⟨by (with_reducible repeat (first | apply Kd.N_alloc | apply Kd.N_drewN | apply Kd.N_drew));exact HO_3.out⟩, ⟨by (with_reducible repeat (first | apply Kd.R_alloc | apply Kd.R_drewN | apply Kd.R_drew));exact HO_4.out⟩, ⟨by (with_reducible repeat (first | apply Kd.N_alloc | apply Kd.N_drewN | apply Kd.N_drew));exact HO116.out⟩, ⟨by repeat (first | (with_reducible first | exact HB.out | apply below_alloc | apply pw_below_drewN | apply below_drew1) | exact HB.out)⟩⟩
   case round =>
    clear H'
    try clear c1
    try clear c2
    try clear c2b0
    try clear c2b1
    try clear p2
    try clear p6
    try clear c8
    try clear c10
    try clear c10b0
    try clear c10b1
    try clear c10b2
    try clear c12
    try clear c24
    try clear p2
    obtain ⟨x5_2, x6_2, rfl, HA, HK2, HO_3, HO_4, HO_5, HB⟩ := hrel
    cases gk with
    | zero => exact absurd HA.out (by simp [laws_FnRulesTurn.l0])
    | succ k2 =>
     have H := HA.out
     clear HA
     simp only [laws_FnRulesTurn.l0] at H
     by_cases c31 : x6_2 ≥ 0
     ·rw [if_pos c31] at H
      have c31b0 : decide (0 ≤ x6_2) = true := decide_eq_true c31
      clear c31
      by_cases c32 : 0 ≤ x6_2
      rotate_left
      ·rw [if_neg c32] at H
       exact absurd H (by simp)
      rw [if_pos c32] at H
      have c32b0 : decide (0 ≤ x6_2) = true := decide_eq_true c32
      clear c32
      by_cases c33 : x6_2 < (t101.length : Int)
      rotate_left
      ·rw [if_neg c33] at H
       exact absurd H (by simp)
      rw [if_pos c33] at H
      have c33b0 : decide (x6_2 < (t101.length : Int)) = true := decide_eq_true c33
      clear c33
      by_cases c34 : x5_2.length < 1172812402961
      rotate_left
      ·rw [if_neg c34] at H
       exact absurd H (by simp)
      rw [if_pos c34] at H
      have LMc34 := m0_ c34
      clear c34
      obtain ⟨y118, hy118⟩ : ∃ y_ : List (S39), y_ = (x5_2 ++ [(⟨(rd_T39 t101 x6_2).f0, (rd_T39 t101 x6_2).f1, (rd_T39 t101 x6_2).f2, (⟨(rd_T39 t101 x6_2).f3.f0, (rd_T39 t101 x6_2).f3.f1, (rd_T39 t101 x6_2).f3.f2, (rd_T39 t101 x6_2).f3.f3⟩ : S37), (rd_T39 t101 x6_2).f4, (rd_T39 t101 x6_2).f5, (rd_T39 t101 x6_2).f6, (rd_T39 t101 x6_2).f7, (rd_T39 t101 x6_2).f8⟩ : S39)]) := ⟨_, rfl⟩
      replace H : (laws_FnRulesTurn.l1 k2 t101 t104 y118 x6_2 0) = some r := by first | (rw [hy118];with_reducible exact H) | (have H2_ := (Option.bind_some _ _).symm.trans H;rw [hy118];with_reducible exact H2_) | (have H2_ := (Option.bind_some _ _).symm.trans H;with_reducible exact H2_) | with_reducible exact H | (rw [hy118];exact H) | exact H
      have Ny118 := m0_ hy118
      clear hy118
      have H' := m0_ H
      clear H
      have p117 : 0 ≤ (x6_2 : Int) := of_decide_eq_true (by first | (with_reducible assumption) | assumption)
      have q117 : x6_2 < (t101.length : Int) := of_decide_eq_true (by first | (with_reducible assumption) | assumption)
      obtain ⟨ad117, A117_6, c117_6, e117, hx117_0, hx117_1, hx117_2, hx117_3, hx117_4, hx117_5, hx117_6, hx117_7, hx117_8, hx117_9, hx117_10, hx117_11, hl117_6, hi117_6⟩ := at_T39 (Kd.N_reads' HO_3.out).2.2 x6_2 p117 q117
      cases e117
      obtain ⟨ce117, hce117, hMe117, hcc117⟩ := Kd.N_get HO_3.out z39 x6_2 p117 (by first | exact q117 | exact of_decide_eq_true (by first | (with_reducible assumption) | assumption) | (have e_ := (Kd.N_reads' HO_3.out).1;omega))
      obtain ⟨ua117_6, uc117_6, rfl, ul117_6, ge117_6⟩ := k39_openF hMe117
      have hv117_6 := hcc117 6 _ rfl
      rw [add_field _ _ 6 (by omega)] at hv117_6
      replace hv117_6 := Option.some.inj (hv117_6.symm.trans hx117_6)
      injection hv117_6 with hva_ hvn_ hvc_
      rw [hva_] at ge117_6
      rw [hvc_] at ul117_6
      have HL117_6 := m0_ (show Kd.V k37 37 _ w.heap.size _ _ ((rd_T39 t101 x6_2).f3.f3) from Kd.V_mk ul117_6 ge117_6)
      clear hva_ hvn_ hvc_ ge117_6 ul117_6
      clear hcc117 hce117
      have HR117_6 := m0_ hi117_6
      have HC117_6 := m0_ hl117_6
      clear hi117_6 hl117_6
      replace p117 := eq_true p117
      replace q117 := eq_true q117
      go_wp2_with (first | ((with_reducible refine gate_builtin (b := .append) (xs := #[.tmp 47, .tmp 52]) rfl ?_);(try (refine gate_guard (by rfl) ?_;dsimp only));at_builtin;refine Kd.N_append k39 (w0 := w) w.heap.size rfl (.tmp 47) (.tmp 52) 25 39 (.agg #[(.string ⟨#[]⟩), (.int .i64 0), (.int .i64 0), (.int .i64 0), (.int .i64 0), (.int .i64 0), (.slice none 0 0), (.int .i64 0), (.int .i64 0), (.int .i64 0), (.int .i64 0), (.int .i64 0)]) 120 rfl Try.underlying25 info39 rfl (by decide) (by omega) u5 x5_2 (⟨(rd_T39 t101 x6_2).f0, (rd_T39 t101 x6_2).f1, (rd_T39 t101 x6_2).f2, (⟨(rd_T39 t101 x6_2).f3.f0, (rd_T39 t101 x6_2).f3.f1, (rd_T39 t101 x6_2).f3.f2, (rd_T39 t101 x6_2).f3.f3⟩ : S37), (rd_T39 t101 x6_2).f4, (rd_T39 t101 x6_2).f5, (rd_T39 t101 x6_2).f6, (rd_T39 t101 x6_2).f7, (rd_T39 t101 x6_2).f8⟩ : S39) [.string ((rd_T39 t101 x6_2).f0), .int .i64 ((rd_T39 t101 x6_2).f1), .int .i64 ((rd_T39 t101 x6_2).f2), .int .i64 ((rd_T39 t101 x6_2).f3.f0), .int .i64 ((rd_T39 t101 x6_2).f3.f1), .int .i64 ((rd_T39 t101 x6_2).f3.f2), .slice A117_6 ((rd_T39 t101 x6_2).f3.f3).length c117_6, .int .i64 ((rd_T39 t101 x6_2).f4), .int .i64 ((rd_T39 t101 x6_2).f5), .int .i64 ((rd_T39 t101 x6_2).f6), .int .i64 ((rd_T39 t101 x6_2).f7), .int .i64 ((rd_T39 t101 x6_2).f8)] (fun k_ => some k_ ≠ (.slice (some ad117) t101.length co7 : Value).ownBlock ∧ some k_ ≠ (v105 : Value).ownBlock) (fun k_ => ((fun k_ => some k_ ≠ (.slice (some ad117) t101.length co7 : Value).ownBlock ∧ some k_ ≠ (v105 : Value).ownBlock)) k_ ∧ some k_ ≠ (u5 : Value).ownBlock) rfl rfl ?aP (fun _ hk => hk) ?aF ?aO ?aB ?aS ?aL ?_;(case aP => exact (k39_mkF _ _ (⟨(rd_T39 t101 x6_2).f0, (rd_T39 t101 x6_2).f1, (rd_T39 t101 x6_2).f2, (⟨(rd_T39 t101 x6_2).f3.f0, (rd_T39 t101 x6_2).f3.f1, (rd_T39 t101 x6_2).f3.f2, (rd_T39 t101 x6_2).f3.f3⟩ : S37), (rd_T39 t101 x6_2).f4, (rd_T39 t101 x6_2).f5, (rd_T39 t101 x6_2).f6, (rd_T39 t101 x6_2).f7, (rd_T39 t101 x6_2).f8⟩ : S39) (Kd.V_reads' (Kd.V_mono (ok' := (fun k_ => ((fun k_ => some k_ ≠ (.slice (some ad117) t101.length co7 : Value).ownBlock ∧ some k_ ≠ (v105 : Value).ownBlock)) k_ ∧ some k_ ≠ (u5 : Value).ownBlock)) (HL117_6.out) (fun k_ hk => ⟨⟨hk.2, hk.1.1⟩, hk.1.2⟩))).2.1 (Kd.V_F (Kd.V_mono (ok' := (fun k_ => ((fun k_ => some k_ ≠ (.slice (some ad117) t101.length co7 : Value).ownBlock ∧ some k_ ≠ (v105 : Value).ownBlock)) k_ ∧ some k_ ≠ (u5 : Value).ownBlock)) (HL117_6.out) (fun k_ hk => ⟨⟨hk.2, hk.1.1⟩, hk.1.2⟩)))));(case aB => exact (by exact HB.out));(case aF => exact (fun k_ hk => ⟨Kd.fresh' (Kd.N_lt (by exact HO_3.out)) k_ hk, Kd.fresh' (Kd.R_lt (by exact HO_4.out)) k_ hk⟩));(case aO => exact (by exact HO_5.out));(case aS => exact (below_size (by exact HB.out)));(case aL => have := LMc34.out;omega);intro v119 w35 ho hb hg hat;rw [← Ny118.out] at ho;have n0_ := m0_ (Kd.N_afterv (ok := (fun k_ => some k_ ≠ (v105 : Value).ownBlock)) (by exact HO_3.out) hg hat);have n1_ := m0_ (Kd.R_over' (by exact HO_4.out) (Kd.N_typed (by exact HO_5.out)) (by decide) hg);have n2_ := m0_ (Kd.V_afterv (ok := (fun k_ => some k_ ≠ (.slice (some ad117) t101.length co7 : Value).ownBlock ∧ some k_ ≠ (v105 : Value).ownBlock)) (by (with_reducible repeat (first | apply Kd.V_alloc | apply Kd.V_drewN | apply Kd.V_drew));exact Kd.V_mono HL117_6.out (fun _ hk => ⟨⟨hk.2, hk.1.1⟩, hk.1.2⟩)) hg hat);have n3_ := m0_ (hb);have n4_ := m0_ (ho);clear HO_3;clear HO_4;clear HL117_6;clear HB;clear HO_5;have HO_3 := n0_;have HO_4 := n1_;have HL117_6 := n2_;have HB := n3_;have HO120 := n4_;clear n0_ n1_ n2_ n3_ n4_;clear ho hb hg hat))
      repeat (go_quiet (first | ((with_reducible refine gate_builtin (b := .append) (xs := #[.tmp 47, .tmp 52]) rfl ?_);(try (refine gate_guard (by rfl) ?_;dsimp only));at_builtin;refine Kd.N_append k39 (w0 := w) w.heap.size rfl (.tmp 47) (.tmp 52) 25 39 (.agg #[(.string ⟨#[]⟩), (.int .i64 0), (.int .i64 0), (.int .i64 0), (.int .i64 0), (.int .i64 0), (.slice none 0 0), (.int .i64 0), (.int .i64 0), (.int .i64 0), (.int .i64 0), (.int .i64 0)]) 120 rfl Try.underlying25 info39 rfl (by decide) (by omega) u5 x5_2 (⟨(rd_T39 t101 x6_2).f0, (rd_T39 t101 x6_2).f1, (rd_T39 t101 x6_2).f2, (⟨(rd_T39 t101 x6_2).f3.f0, (rd_T39 t101 x6_2).f3.f1, (rd_T39 t101 x6_2).f3.f2, (rd_T39 t101 x6_2).f3.f3⟩ : S37), (rd_T39 t101 x6_2).f4, (rd_T39 t101 x6_2).f5, (rd_T39 t101 x6_2).f6, (rd_T39 t101 x6_2).f7, (rd_T39 t101 x6_2).f8⟩ : S39) [.string ((rd_T39 t101 x6_2).f0), .int .i64 ((rd_T39 t101 x6_2).f1), .int .i64 ((rd_T39 t101 x6_2).f2), .int .i64 ((rd_T39 t101 x6_2).f3.f0), .int .i64 ((rd_T39 t101 x6_2).f3.f1), .int .i64 ((rd_T39 t101 x6_2).f3.f2), .slice A117_6 ((rd_T39 t101 x6_2).f3.f3).length c117_6, .int .i64 ((rd_T39 t101 x6_2).f4), .int .i64 ((rd_T39 t101 x6_2).f5), .int .i64 ((rd_T39 t101 x6_2).f6), .int .i64 ((rd_T39 t101 x6_2).f7), .int .i64 ((rd_T39 t101 x6_2).f8)] (fun k_ => some k_ ≠ (.slice (some ad117) t101.length co7 : Value).ownBlock ∧ some k_ ≠ (v105 : Value).ownBlock) (fun k_ => ((fun k_ => some k_ ≠ (.slice (some ad117) t101.length co7 : Value).ownBlock ∧ some k_ ≠ (v105 : Value).ownBlock)) k_ ∧ some k_ ≠ (u5 : Value).ownBlock) rfl rfl ?aP (fun _ hk => hk) ?aF ?aO ?aB ?aS ?aL ?_;(case aP => exact (k39_mkF _ _ (⟨(rd_T39 t101 x6_2).f0, (rd_T39 t101 x6_2).f1, (rd_T39 t101 x6_2).f2, (⟨(rd_T39 t101 x6_2).f3.f0, (rd_T39 t101 x6_2).f3.f1, (rd_T39 t101 x6_2).f3.f2, (rd_T39 t101 x6_2).f3.f3⟩ : S37), (rd_T39 t101 x6_2).f4, (rd_T39 t101 x6_2).f5, (rd_T39 t101 x6_2).f6, (rd_T39 t101 x6_2).f7, (rd_T39 t101 x6_2).f8⟩ : S39) (Kd.V_reads' (Kd.V_mono (ok' := (fun k_ => ((fun k_ => some k_ ≠ (.slice (some ad117) t101.length co7 : Value).ownBlock ∧ some k_ ≠ (v105 : Value).ownBlock)) k_ ∧ some k_ ≠ (u5 : Value).ownBlock)) (HL117_6.out) (fun k_ hk => ⟨⟨hk.2, hk.1.1⟩, hk.1.2⟩))).2.1 (Kd.V_F (Kd.V_mono (ok' := (fun k_ => ((fun k_ => some k_ ≠ (.slice (some ad117) t101.length co7 : Value).ownBlock ∧ some k_ ≠ (v105 : Value).ownBlock)) k_ ∧ some k_ ≠ (u5 : Value).ownBlock)) (HL117_6.out) (fun k_ hk => ⟨⟨hk.2, hk.1.1⟩, hk.1.2⟩)))));(case aB => exact (by exact HB.out));(case aF => exact (fun k_ hk => ⟨Kd.fresh' (Kd.N_lt (by exact HO_3.out)) k_ hk, Kd.fresh' (Kd.R_lt (by exact HO_4.out)) k_ hk⟩));(case aO => exact (by exact HO_5.out));(case aS => exact (below_size (by exact HB.out)));(case aL => have := LMc34.out;omega);intro v119 w35 ho hb hg hat;rw [← Ny118.out] at ho;have n0_ := m0_ (Kd.N_afterv (ok := (fun k_ => some k_ ≠ (v105 : Value).ownBlock)) (by exact HO_3.out) hg hat);have n1_ := m0_ (Kd.R_over' (by exact HO_4.out) (Kd.N_typed (by exact HO_5.out)) (by decide) hg);have n2_ := m0_ (Kd.V_afterv (ok := (fun k_ => some k_ ≠ (.slice (some ad117) t101.length co7 : Value).ownBlock ∧ some k_ ≠ (v105 : Value).ownBlock)) (by (with_reducible repeat (first | apply Kd.V_alloc | apply Kd.V_drewN | apply Kd.V_drew));exact Kd.V_mono HL117_6.out (fun _ hk => ⟨⟨hk.2, hk.1.1⟩, hk.1.2⟩)) hg hat);have n3_ := m0_ (hb);have n4_ := m0_ (ho);clear HO_3;clear HO_4;clear HL117_6;clear HB;clear HO_5;have HO_3 := n0_;have HO_4 := n1_;have HL117_6 := n2_;have HB := n3_;have HO120 := n4_;clear n0_ n1_ n2_ n3_ n4_;clear ho hb hg hat));try go_wp2_with (first | ((with_reducible refine gate_builtin (b := .append) (xs := #[.tmp 47, .tmp 52]) rfl ?_);(try (refine gate_guard (by rfl) ?_;dsimp only));at_builtin;refine Kd.N_append k39 (w0 := w) w.heap.size rfl (.tmp 47) (.tmp 52) 25 39 (.agg #[(.string ⟨#[]⟩), (.int .i64 0), (.int .i64 0), (.int .i64 0), (.int .i64 0), (.int .i64 0), (.slice none 0 0), (.int .i64 0), (.int .i64 0), (.int .i64 0), (.int .i64 0), (.int .i64 0)]) 120 rfl Try.underlying25 info39 rfl (by decide) (by omega) u5 x5_2 (⟨(rd_T39 t101 x6_2).f0, (rd_T39 t101 x6_2).f1, (rd_T39 t101 x6_2).f2, (⟨(rd_T39 t101 x6_2).f3.f0, (rd_T39 t101 x6_2).f3.f1, (rd_T39 t101 x6_2).f3.f2, (rd_T39 t101 x6_2).f3.f3⟩ : S37), (rd_T39 t101 x6_2).f4, (rd_T39 t101 x6_2).f5, (rd_T39 t101 x6_2).f6, (rd_T39 t101 x6_2).f7, (rd_T39 t101 x6_2).f8⟩ : S39) [.string ((rd_T39 t101 x6_2).f0), .int .i64 ((rd_T39 t101 x6_2).f1), .int .i64 ((rd_T39 t101 x6_2).f2), .int .i64 ((rd_T39 t101 x6_2).f3.f0), .int .i64 ((rd_T39 t101 x6_2).f3.f1), .int .i64 ((rd_T39 t101 x6_2).f3.f2), .slice A117_6 ((rd_T39 t101 x6_2).f3.f3).length c117_6, .int .i64 ((rd_T39 t101 x6_2).f4), .int .i64 ((rd_T39 t101 x6_2).f5), .int .i64 ((rd_T39 t101 x6_2).f6), .int .i64 ((rd_T39 t101 x6_2).f7), .int .i64 ((rd_T39 t101 x6_2).f8)] (fun k_ => some k_ ≠ (.slice (some ad117) t101.length co7 : Value).ownBlock ∧ some k_ ≠ (v105 : Value).ownBlock) (fun k_ => ((fun k_ => some k_ ≠ (.slice (some ad117) t101.length co7 : Value).ownBlock ∧ some k_ ≠ (v105 : Value).ownBlock)) k_ ∧ some k_ ≠ (u5 : Value).ownBlock) rfl rfl ?aP (fun _ hk => hk) ?aF ?aO ?aB ?aS ?aL ?_;(case aP => exact (k39_mkF _ _ (⟨(rd_T39 t101 x6_2).f0, (rd_T39 t101 x6_2).f1, (rd_T39 t101 x6_2).f2, (⟨(rd_T39 t101 x6_2).f3.f0, (rd_T39 t101 x6_2).f3.f1, (rd_T39 t101 x6_2).f3.f2, (rd_T39 t101 x6_2).f3.f3⟩ : S37), (rd_T39 t101 x6_2).f4, (rd_T39 t101 x6_2).f5, (rd_T39 t101 x6_2).f6, (rd_T39 t101 x6_2).f7, (rd_T39 t101 x6_2).f8⟩ : S39) (Kd.V_reads' (Kd.V_mono (ok' := (fun k_ => ((fun k_ => some k_ ≠ (.slice (some ad117) t101.length co7 : Value).ownBlock ∧ some k_ ≠ (v105 : Value).ownBlock)) k_ ∧ some k_ ≠ (u5 : Value).ownBlock)) (HL117_6.out) (fun k_ hk => ⟨⟨hk.2, hk.1.1⟩, hk.1.2⟩))).2.1 (Kd.V_F (Kd.V_mono (ok' := (fun k_ => ((fun k_ => some k_ ≠ (.slice (some ad117) t101.length co7 : Value).ownBlock ∧ some k_ ≠ (v105 : Value).ownBlock)) k_ ∧ some k_ ≠ (u5 : Value).ownBlock)) (HL117_6.out) (fun k_ hk => ⟨⟨hk.2, hk.1.1⟩, hk.1.2⟩)))));(case aB => exact (by exact HB.out));(case aF => exact (fun k_ hk => ⟨Kd.fresh' (Kd.N_lt (by exact HO_3.out)) k_ hk, Kd.fresh' (Kd.R_lt (by exact HO_4.out)) k_ hk⟩));(case aO => exact (by exact HO_5.out));(case aS => exact (below_size (by exact HB.out)));(case aL => have := LMc34.out;omega);intro v119 w35 ho hb hg hat;rw [← Ny118.out] at ho;have n0_ := m0_ (Kd.N_afterv (ok := (fun k_ => some k_ ≠ (v105 : Value).ownBlock)) (by exact HO_3.out) hg hat);have n1_ := m0_ (Kd.R_over' (by exact HO_4.out) (Kd.N_typed (by exact HO_5.out)) (by decide) hg);have n2_ := m0_ (Kd.V_afterv (ok := (fun k_ => some k_ ≠ (.slice (some ad117) t101.length co7 : Value).ownBlock ∧ some k_ ≠ (v105 : Value).ownBlock)) (by (with_reducible repeat (first | apply Kd.V_alloc | apply Kd.V_drewN | apply Kd.V_drew));exact Kd.V_mono HL117_6.out (fun _ hk => ⟨⟨hk.2, hk.1.1⟩, hk.1.2⟩)) hg hat);have n3_ := m0_ (hb);have n4_ := m0_ (ho);clear HO_3;clear HO_4;clear HL117_6;clear HB;clear HO_5;have HO_3 := n0_;have HO_4 := n1_;have HL117_6 := n2_;have HB := n3_;have HO120 := n4_;clear n0_ n1_ n2_ n3_ n4_;clear ho hb hg hat)))
      go_loopg [7] k2 (fun kq v7 w' => ∃ (x7_3 : Int), v7 = .int .i64 x7_3 ∧ Aside0 (laws_FnRulesTurn.l1 kq t101 t104 y118 x6_2 x7_3 = some r) ∧ Aside0 (kq ≤ k2) ∧ Aside0 (Kd.N k39 39 w' w.heap.size (fun k_ => some k_ ≠ (v105 : Value).ownBlock ∧ some k_ ≠ (v119 : Value).ownBlock) (.slice (some ad117) t101.length co7) t101) ∧ Aside0 (Kd.R (Kd.int .i64) 3 w' w.heap.size (fun _ => True) v105 t104) ∧ Aside0 (Kd.N k39 39 w' w.heap.size (fun k_ => some k_ ≠ ((.slice (some ad117) t101.length co7) : Value).ownBlock ∧ some k_ ≠ (v105 : Value).ownBlock) v119 y118) ∧ Aside0 (Below w.heap.size w w'))
      case atStart => exact ⟨(0), (by first | rfl | (simp;done) | (simp [*];done)), H', ⟨Nat.le_refl _⟩, ⟨by (with_reducible repeat (first | apply Kd.N_alloc | apply Kd.N_drewN | apply Kd.N_drew));exact HO_3.out⟩, ⟨by (with_reducible repeat (first | apply Kd.R_alloc | apply Kd.R_drewN | apply Kd.R_drew));exact HO_4.out⟩, ⟨by (with_reducible repeat (first | apply Kd.N_alloc | apply Kd.N_drewN | apply Kd.N_drew));exact HO120.out⟩, ⟨by repeat (first | (with_reducible first | exact HB.out | apply below_alloc | apply pw_below_drewN | apply below_drew1) | exact HB.out)⟩⟩
      case round =>
       clear H'
       try clear c1
       try clear p1
       try clear q1
       try clear hx1
       try clear c2
       try clear c2b0
       try clear c2b1
       try clear p2
       try clear c3
       try clear p6
       try clear c8
       try clear c10
       try clear c10b0
       try clear c10b1
       try clear c10b2
       try clear c11
       try clear p11
       try clear q11
       try clear hx11
       try clear c12
       try clear c24
       try clear c31
       try clear c31b0
       try clear c32
       try clear c32b0
       try clear c33
       try clear c33b0
       try clear c34
       try clear hx117_0
       try clear hx117_1
       try clear hx117_10
       try clear hx117_11
       try clear hx117_2
       try clear hx117_3
       try clear hx117_4
       try clear hx117_5
       try clear hx117_6
       try clear hx117_7
       try clear hx117_8
       try clear hx117_9
       try clear p117
       try clear p2
       try clear p6
       try clear q117
       obtain ⟨x7_3, rfl, HA, HK3, HO_3, HO_4, HO_5, HB⟩ := hrel
       cases gk with
       | zero => exact absurd HA.out (by simp [laws_FnRulesTurn.l1])
       | succ k3 =>
        have H := HA.out
        clear HA
        simp only [laws_FnRulesTurn.l1] at H
        by_cases c36 : x7_3 < x6_2
        rotate_left
        ·rw [if_neg c36] at H
         have c36b0 : decide (x7_3 < x6_2) = false := decide_eq_false c36
         clear c36
         have H' := m0_ H
         clear H
         go_wp2
         repeat (go_quiet (fail);try go_wp2)
         go_roundg k3
         case measure => have := HJ4.out;have := HK2.out;have := HK3.out;omega
         case rel => exact ⟨(y118), (wrap64 (x6_2 - 1)), (by first | rfl | (simp;done) | (simp [*];done)), H', ⟨by have := HJ4.out;have := HK2.out;have := HK3.out;omega⟩, ⟨by (with_reducible repeat (first | apply Kd.N_alloc | apply Kd.N_drewN | apply Kd.N_drew));exact HO_3.out⟩, ⟨by (with_reducible repeat (first | apply Kd.R_alloc | apply Kd.R_drewN | apply Kd.R_drew));exact HO_4.out⟩, ⟨by (with_reducible repeat (first | apply Kd.N_alloc | apply Kd.N_drewN | apply Kd.N_drew));exact HO_5.out⟩, ⟨by repeat (first | (with_reducible first | exact HB.out | apply below_alloc | apply pw_below_drewN | apply below_drew1) | exact HB.out)⟩⟩
        rw [if_pos c36] at H
        have c36b0 : decide (x7_3 < x6_2) = true := decide_eq_true c36
        clear c36
        by_cases c37 : 0 ≤ x7_3
        rotate_left
        ·rw [if_neg c37] at H
         exact absurd H (by simp)
        rw [if_pos c37] at H
        have c37b0 : decide (0 ≤ x7_3) = true := decide_eq_true c37
        clear c37
        by_cases c38 : x7_3 < (t101.length : Int)
        rotate_left
        ·rw [if_neg c38] at H
         exact absurd H (by simp)
        rw [if_pos c38] at H
        have c38b0 : decide (x7_3 < (t101.length : Int)) = true := decide_eq_true c38
        clear c38
        by_cases c39 : 0 ≤ x6_2
        rotate_left
        ·rw [if_neg c39] at H
         exact absurd H (by simp)
        rw [if_pos c39] at H
        have c39b0 : decide (0 ≤ x6_2) = true := decide_eq_true c39
        clear c39
        by_cases c40 : x6_2 < (t101.length : Int)
        rotate_left
        ·rw [if_neg c40] at H
         exact absurd H (by simp)
        rw [if_pos c40] at H
        have c40b0 : decide (x6_2 < (t101.length : Int)) = true := decide_eq_true c40
        clear c40
        by_cases c41 : ((rd_T39 t101 x7_3).f1) = ((rd_T39 t101 x6_2).f1)
        ·rw [if_pos c41] at H
         have c41b0 : (((rd_T39 t101 x7_3).f1) == ((rd_T39 t101 x6_2).f1)) = true := beq_iff_eq.mpr c41
         have c41b1 : (((rd_T39 t101 x7_3).f1) != ((rd_T39 t101 x6_2).f1)) = false := bne_eq_false_iff_eq.mpr c41
         clear c41
         obtain rfl := Option.some.inj H
         have p121 : 0 ≤ (x7_3 : Int) := of_decide_eq_true (by first | (with_reducible assumption) | assumption)
         have q121 : x7_3 < (t101.length : Int) := of_decide_eq_true (by first | (with_reducible assumption) | assumption)
         obtain ⟨ad121, A121_6, c121_6, e121, hx121_0, hx121_1, hx121_2, hx121_3, hx121_4, hx121_5, hx121_6, hx121_7, hx121_8, hx121_9, hx121_10, hx121_11, hl121_6, hi121_6⟩ := at_T39 (Kd.N_reads' HO_3.out).2.2 x7_3 p121 q121
         obtain rfl : ad117 = ad121 := (by injection e121)
         obtain ⟨ce121, hce121, hMe121, hcc121⟩ := Kd.N_get HO_3.out z39 x7_3 p121 (by first | exact q121 | exact of_decide_eq_true (by first | (with_reducible assumption) | assumption) | (have e_ := (Kd.N_reads' HO_3.out).1;omega))
         obtain ⟨ua121_6, uc121_6, rfl, ul121_6, ge121_6⟩ := k39_openF hMe121
         have hv121_6 := hcc121 6 _ rfl
         rw [add_field _ _ 6 (by omega)] at hv121_6
         replace hv121_6 := Option.some.inj (hv121_6.symm.trans hx121_6)
         injection hv121_6 with hva_ hvn_ hvc_
         rw [hva_] at ge121_6
         rw [hvc_] at ul121_6
         have HL121_6 := m0_ (show Kd.V k37 37 _ w.heap.size _ _ ((rd_T39 t101 x7_3).f3.f3) from Kd.V_mk ul121_6 ge121_6)
         clear hva_ hvn_ hvc_ ge121_6 ul121_6
         clear hcc121 hce121
         have HR121_6 := m0_ hi121_6
         have HC121_6 := m0_ hl121_6
         clear hi121_6 hl121_6
         replace p121 := eq_true p121
         replace q121 := eq_true q121
         have p122 : 0 ≤ (x6_2 : Int) := of_decide_eq_true (by first | (with_reducible assumption) | assumption)
         have q122 : x6_2 < (t101.length : Int) := of_decide_eq_true (by first | (with_reducible assumption) | assumption)
         obtain ⟨ad122, A122_6, c122_6, e122, hx122_0, hx122_1, hx122_2, hx122_3, hx122_4, hx122_5, hx122_6, hx122_7, hx122_8, hx122_9, hx122_10, hx122_11, hl122_6, hi122_6⟩ := at_T39 (Kd.N_reads' HO_3.out).2.2 x6_2 p122 q122
         obtain rfl : ad117 = ad122 := (by injection e122)
         obtain ⟨ce122, hce122, hMe122, hcc122⟩ := Kd.N_get HO_3.out z39 x6_2 p122 (by first | exact q122 | exact of_decide_eq_true (by first | (with_reducible assumption) | assumption) | (have e_ := (Kd.N_reads' HO_3.out).1;omega))
         obtain ⟨ua122_6, uc122_6, rfl, ul122_6, ge122_6⟩ := k39_openF hMe122
         have hv122_6 := hcc122 6 _ rfl
         rw [add_field _ _ 6 (by omega)] at hv122_6
         replace hv122_6 := Option.some.inj (hv122_6.symm.trans hx122_6)
         injection hv122_6 with hva_ hvn_ hvc_
         rw [hva_] at ge122_6
         rw [hvc_] at ul122_6
         have HL122_6 := m0_ (show Kd.V k37 37 _ w.heap.size _ _ ((rd_T39 t101 x6_2).f3.f3) from Kd.V_mk ul122_6 ge122_6)
         clear hva_ hvn_ hvc_ ge122_6 ul122_6
         clear hcc122 hce122
         have HR122_6 := m0_ hi122_6
         have HC122_6 := m0_ hl122_6
         clear hi122_6 hl122_6
         replace p122 := eq_true p122
         replace q122 := eq_true q122
         go_wp2
         repeat (go_quiet (fail);try go_wp2)
         go_ret
         exact ⟨by first | rfl | (simp [errW_none, errW_some] <;> rfl) | (simp [*, errW_none, errW_some] <;> rfl), by repeat (first | (with_reducible first | exact HB.out | apply below_alloc | apply pw_below_drewN | apply below_drew1) | exact HB.out)⟩
        rw [if_neg c41] at H
        have c41b0 : (((rd_T39 t101 x7_3).f1) == ((rd_T39 t101 x6_2).f1)) = false := beq_eq_false_iff_ne.mpr c41
        have c41b1 : (((rd_T39 t101 x7_3).f1) != ((rd_T39 t101 x6_2).f1)) = true := bne_iff_ne.mpr c41
        have H' := m0_ H
        clear H
        have p121 : 0 ≤ (x7_3 : Int) := of_decide_eq_true (by first | (with_reducible assumption) | assumption)
        have q121 : x7_3 < (t101.length : Int) := of_decide_eq_true (by first | (with_reducible assumption) | assumption)
        obtain ⟨ad121, A121_6, c121_6, e121, hx121_0, hx121_1, hx121_2, hx121_3, hx121_4, hx121_5, hx121_6, hx121_7, hx121_8, hx121_9, hx121_10, hx121_11, hl121_6, hi121_6⟩ := at_T39 (Kd.N_reads' HO_3.out).2.2 x7_3 p121 q121
        obtain rfl : ad117 = ad121 := (by injection e121)
        obtain ⟨ce121, hce121, hMe121, hcc121⟩ := Kd.N_get HO_3.out z39 x7_3 p121 (by first | exact q121 | exact of_decide_eq_true (by first | (with_reducible assumption) | assumption) | (have e_ := (Kd.N_reads' HO_3.out).1;omega))
        obtain ⟨ua121_6, uc121_6, rfl, ul121_6, ge121_6⟩ := k39_openF hMe121
        have hv121_6 := hcc121 6 _ rfl
        rw [add_field _ _ 6 (by omega)] at hv121_6
        replace hv121_6 := Option.some.inj (hv121_6.symm.trans hx121_6)
        injection hv121_6 with hva_ hvn_ hvc_
        rw [hva_] at ge121_6
        rw [hvc_] at ul121_6
        have HL121_6 := m0_ (show Kd.V k37 37 _ w.heap.size _ _ ((rd_T39 t101 x7_3).f3.f3) from Kd.V_mk ul121_6 ge121_6)
        clear hva_ hvn_ hvc_ ge121_6 ul121_6
        clear hcc121 hce121
        have HR121_6 := m0_ hi121_6
        have HC121_6 := m0_ hl121_6
        clear hi121_6 hl121_6
        replace p121 := eq_true p121
        replace q121 := eq_true q121
        have p122 : 0 ≤ (x6_2 : Int) := of_decide_eq_true (by first | (with_reducible assumption) | assumption)
        have q122 : x6_2 < (t101.length : Int) := of_decide_eq_true (by first | (with_reducible assumption) | assumption)
        obtain ⟨ad122, A122_6, c122_6, e122, hx122_0, hx122_1, hx122_2, hx122_3, hx122_4, hx122_5, hx122_6, hx122_7, hx122_8, hx122_9, hx122_10, hx122_11, hl122_6, hi122_6⟩ := at_T39 (Kd.N_reads' HO_3.out).2.2 x6_2 p122 q122
        obtain rfl : ad117 = ad122 := (by injection e122)
        obtain ⟨ce122, hce122, hMe122, hcc122⟩ := Kd.N_get HO_3.out z39 x6_2 p122 (by first | exact q122 | exact of_decide_eq_true (by first | (with_reducible assumption) | assumption) | (have e_ := (Kd.N_reads' HO_3.out).1;omega))
        obtain ⟨ua122_6, uc122_6, rfl, ul122_6, ge122_6⟩ := k39_openF hMe122
        have hv122_6 := hcc122 6 _ rfl
        rw [add_field _ _ 6 (by omega)] at hv122_6
        replace hv122_6 := Option.some.inj (hv122_6.symm.trans hx122_6)
        injection hv122_6 with hva_ hvn_ hvc_
        rw [hva_] at ge122_6
        rw [hvc_] at ul122_6
        have HL122_6 := m0_ (show Kd.V k37 37 _ w.heap.size _ _ ((rd_T39 t101 x6_2).f3.f3) from Kd.V_mk ul122_6 ge122_6)
        clear hva_ hvn_ hvc_ ge122_6 ul122_6
        clear hcc122 hce122
        have HR122_6 := m0_ hi122_6
        have HC122_6 := m0_ hl122_6
        clear hi122_6 hl122_6
        replace p122 := eq_true p122
        replace q122 := eq_true q122
        go_wp2
        repeat (go_quiet (fail);try go_wp2)
        go_roundg k3
        case measure => have := HJ4.out;have := HK2.out;have := HK3.out;omega
        case rel => exact ⟨(wrap64 (x7_3 + 1)), (by first | rfl | (simp;done) | (simp [*];done)), H', ⟨by have := HJ4.out;have := HK2.out;have := HK3.out;omega⟩, ⟨by (with_reducible repeat (first | apply Kd.N_alloc | apply Kd.N_drewN | apply Kd.N_drew));exact HO_3.out⟩, ⟨by (with_reducible repeat (first | apply Kd.R_alloc | apply Kd.R_drewN | apply Kd.R_drew));exact HO_4.out⟩, ⟨by (with_reducible repeat (first | apply Kd.N_alloc | apply Kd.N_drewN | apply Kd.N_drew));exact HO_5.out⟩, ⟨by repeat (first | (with_reducible first | exact HB.out | apply below_alloc | apply pw_below_drewN | apply below_drew1) | exact HB.out)⟩⟩
     rw [if_neg c31] at H
     have c31b0 : decide (0 ≤ x6_2) = false := decide_eq_false c31
     clear c31
     replace H := Option.bind_eq_some_iff.mp H
     obtain ⟨t123, A420, H⟩ := H
     replace H : (laws_FnRulesTurn.l2 k2 t101 t104 x5_2 t123 0) = some r := H
     have A42 := m0_ A420
     clear A420
     have H' := m0_ H
     clear H
     obtain ⟨Ao43, co43, eo43⟩ := Kd.N_slice HO_5.out
     subst eo43
     go_wp2_with (first | (go_at_call 26;(with_reducible refine (impl_RulesOrder.calls k2 _ _ x5_2 t123 _ ?side1 ?side2 A42.out).mono ?_);(case side1 => repeat (first | exact (Kd.N_reads' HO_5.out).2.2 | (with_reducible refine Kd.C_alloc ?_ _) | (with_reducible refine Kd.C_drewN ?_ _) | (with_reducible refine Kd.C_drew ?_)));(case side2 => exact (Kd.N_reads' HO_5.out).2.1);rintro e w44 ⟨v124, rfl, ho0, hb⟩;replace HO_3 := m0_ (Kd.N_elder' (by exact HO_3.out) (Kd.R_base ho0) hb);replace HO_5 := m0_ (Kd.N_elder' (by exact HO_5.out) (Kd.R_base ho0) hb);have HO125 := m0_ (Kd.R_lower (Kd.R_new' ho0 (Kd.R_lt (by exact HO_4.out))) (below_size (by exact HB.out)));replace HO_4 := m0_ (Kd.R_elder' (by exact HO_4.out) (Kd.R_base ho0) hb);replace HB := m0_ (below_step (by exact HB.out) hb);(try clear hb);(try clear hb2);(try clear hk);(try clear hi);(try clear ho0)))
     repeat (go_quiet (first | (go_at_call 26;(with_reducible refine (impl_RulesOrder.calls k2 _ _ x5_2 t123 _ ?side1 ?side2 A42.out).mono ?_);(case side1 => repeat (first | exact (Kd.N_reads' HO_5.out).2.2 | (with_reducible refine Kd.C_alloc ?_ _) | (with_reducible refine Kd.C_drewN ?_ _) | (with_reducible refine Kd.C_drew ?_)));(case side2 => exact (Kd.N_reads' HO_5.out).2.1);rintro e w44 ⟨v124, rfl, ho0, hb⟩;replace HO_3 := m0_ (Kd.N_elder' (by exact HO_3.out) (Kd.R_base ho0) hb);replace HO_5 := m0_ (Kd.N_elder' (by exact HO_5.out) (Kd.R_base ho0) hb);have HO125 := m0_ (Kd.R_lower (Kd.R_new' ho0 (Kd.R_lt (by exact HO_4.out))) (below_size (by exact HB.out)));replace HO_4 := m0_ (Kd.R_elder' (by exact HO_4.out) (Kd.R_base ho0) hb);replace HB := m0_ (below_step (by exact HB.out) hb);(try clear hb);(try clear hb2);(try clear hk);(try clear hi);(try clear ho0)));try go_wp2_with (first | (go_at_call 26;(with_reducible refine (impl_RulesOrder.calls k2 _ _ x5_2 t123 _ ?side1 ?side2 A42.out).mono ?_);(case side1 => repeat (first | exact (Kd.N_reads' HO_5.out).2.2 | (with_reducible refine Kd.C_alloc ?_ _) | (with_reducible refine Kd.C_drewN ?_ _) | (with_reducible refine Kd.C_drew ?_)));(case side2 => exact (Kd.N_reads' HO_5.out).2.1);rintro e w44 ⟨v124, rfl, ho0, hb⟩;replace HO_3 := m0_ (Kd.N_elder' (by exact HO_3.out) (Kd.R_base ho0) hb);replace HO_5 := m0_ (Kd.N_elder' (by exact HO_5.out) (Kd.R_base ho0) hb);have HO125 := m0_ (Kd.R_lower (Kd.R_new' ho0 (Kd.R_lt (by exact HO_4.out))) (below_size (by exact HB.out)));replace HO_4 := m0_ (Kd.R_elder' (by exact HO_4.out) (Kd.R_base ho0) hb);replace HB := m0_ (below_step (by exact HB.out) hb);(try clear hb);(try clear hb2);(try clear hk);(try clear hi);(try clear ho0))))
     go_loopg [9] k2 (fun kq v9 w' => ∃ (x9_3 : Int), v9 = .int .i64 x9_3 ∧ Aside0 (laws_FnRulesTurn.l2 kq t101 t104 x5_2 t123 x9_3 = some r) ∧ Aside0 (kq ≤ k2) ∧ Aside0 (Kd.N k39 39 w' w.heap.size (fun k_ => some k_ ≠ (v105 : Value).ownBlock ∧ some k_ ≠ ((.slice Ao43 x5_2.length co43) : Value).ownBlock ∧ some k_ ≠ (v124 : Value).ownBlock) (.slice Ao7 t101.length co7) t101) ∧ Aside0 (Kd.R (Kd.int .i64) 3 w' w.heap.size (fun k_ => some k_ ≠ (v124 : Value).ownBlock) v105 t104) ∧ Aside0 (Kd.N k39 39 w' w.heap.size (fun k_ => some k_ ≠ ((.slice Ao7 t101.length co7) : Value).ownBlock ∧ some k_ ≠ (v105 : Value).ownBlock ∧ some k_ ≠ (v124 : Value).ownBlock) (.slice Ao43 x5_2.length co43) x5_2) ∧ Aside0 (Kd.R (Kd.int .i64) 3 w' w.heap.size (fun k_ => some k_ ≠ (v105 : Value).ownBlock) v124 t123) ∧ Aside0 (Below w.heap.size w w'))
     case atStart => exact ⟨(0), (by first | rfl | (simp;done) | (simp [*];done)), H', ⟨Nat.le_refl _⟩, ⟨by (with_reducible repeat (first | apply Kd.N_alloc | apply Kd.N_drewN | apply Kd.N_drew));exact Kd.N_mono HO_3.out (fun _ hk => ⟨hk.1.1, ⟨hk.1.2, hk.2⟩⟩)⟩, ⟨by (with_reducible repeat (first | apply Kd.R_alloc | apply Kd.R_drewN | apply Kd.R_drew));exact Kd.R_mono HO_4.out (fun _ hk => hk.2)⟩, ⟨by (with_reducible repeat (first | apply Kd.N_alloc | apply Kd.N_drewN | apply Kd.N_drew));exact Kd.N_mono HO_5.out (fun _ hk => ⟨hk.1.1, ⟨hk.1.2, hk.2⟩⟩)⟩, ⟨by (with_reducible repeat (first | apply Kd.R_alloc | apply Kd.R_drewN | apply Kd.R_drew));exact Kd.R_mono HO125.out (fun _ hk => hk.2)⟩, ⟨by repeat (first | (with_reducible first | exact HB.out | apply below_alloc | apply pw_below_drewN | apply below_drew1) | exact HB.out)⟩⟩
     case round =>
      clear H'
      try clear c1
      try clear p1
      try clear q1
      try clear hx1
      try clear c2
      try clear c2b0
      try clear c2b1
      try clear p2
      try clear c3
      try clear c4
      try clear p6
      try clear c8
      try clear c10
      try clear c10b0
      try clear c10b1
      try clear c10b2
      try clear c11
      try clear p11
      try clear q11
      try clear hx11
      try clear c12
      try clear p12
      try clear q12
      try clear hx12
      try clear c24
      try clear c31
      try clear c31b0
      try clear c32
      try clear c32b0
      try clear c33
      try clear c33b0
      try clear c34
      try clear c36
      try clear c36b0
      try clear c37
      try clear c37b0
      try clear c38
      try clear c38b0
      try clear c39
      try clear c39b0
      try clear c40
      try clear c40b0
      try clear c41
      try clear c41b0
      try clear c41b1
      try clear hx117_0
      try clear hx117_1
      try clear hx117_10
      try clear hx117_11
      try clear hx117_2
      try clear hx117_3
      try clear hx117_4
      try clear hx117_5
      try clear hx117_6
      try clear hx117_7
      try clear hx117_8
      try clear hx117_9
      try clear hx121_0
      try clear hx121_1
      try clear hx121_10
      try clear hx121_11
      try clear hx121_2
      try clear hx121_3
      try clear hx121_4
      try clear hx121_5
      try clear hx121_6
      try clear hx121_7
      try clear hx121_8
      try clear hx121_9
      try clear hx122_0
      try clear hx122_1
      try clear hx122_10
      try clear hx122_11
      try clear hx122_2
      try clear hx122_3
      try clear hx122_4
      try clear hx122_5
      try clear hx122_6
      try clear hx122_7
      try clear hx122_8
      try clear hx122_9
      try clear p1
      try clear p11
      try clear p117
      try clear p121
      try clear p122
      try clear p2
      try clear p6
      try clear q1
      try clear q11
      try clear q117
      try clear q121
      try clear q122
      obtain ⟨x9_3, rfl, HA, HK3, HO_3, HO_4, HO_5, HO_8, HB⟩ := hrel
      cases gk with
      | zero => exact absurd HA.out (by simp [laws_FnRulesTurn.l2])
      | succ k3 =>
       have H := HA.out
       clear HA
       simp only [laws_FnRulesTurn.l2] at H
       by_cases c45 : x9_3 < (t104.length : Int)
       rotate_left
       ·rw [if_neg c45] at H
        have c45b0 : decide (x9_3 < (t104.length : Int)) = false := decide_eq_false c45
        clear c45
        obtain rfl := Option.some.inj H
        obtain ⟨Ao56, co56, eo56⟩ := Kd.R_slice HO_4.out
        subst eo56
        obtain ⟨Ao57, co57, eo57⟩ := Kd.R_slice HO_8.out
        subst eo57
        go_wp2
        repeat (go_quiet (fail);try go_wp2)
        go_ret
        exact ⟨by first | rfl | (simp [errW_none, errW_some] <;> rfl) | (simp [*, errW_none, errW_some] <;> rfl), by repeat (first | (with_reducible first | exact HB.out | apply below_alloc | apply pw_below_drewN | apply below_drew1) | exact HB.out)⟩
       rw [if_pos c45] at H
       have c45b0 : decide (x9_3 < (t104.length : Int)) = true := decide_eq_true c45
       clear c45
       by_cases c46 : x9_3 ≥ (t123.length : Int)
       ·rw [if_pos c46] at H
        have c46b0 : decide ((t123.length : Int) ≤ x9_3) = true := decide_eq_true c46
        clear c46
        exact absurd (Option.some.inj H) (by rw [hT_.out];decide)
       rw [if_neg c46] at H
       have c46b0 : decide ((t123.length : Int) ≤ x9_3) = false := decide_eq_false c46
       clear c46
       by_cases c47 : 0 ≤ x9_3
       rotate_left
       ·rw [if_neg c47] at H
        exact absurd H (by simp)
       rw [if_pos c47] at H
       have c47b0 : decide (0 ≤ x9_3) = true := decide_eq_true c47
       clear c47
       by_cases c48 : x9_3 < (t123.length : Int)
       rotate_left
       ·rw [if_neg c48] at H
        exact absurd H (by simp)
       rw [if_pos c48] at H
       have c48b0 : decide (x9_3 < (t123.length : Int)) = true := decide_eq_true c48
       clear c48
       by_cases c49 : 0 ≤ (rd t123 x9_3)
       rotate_left
       ·rw [if_neg c49] at H
        exact absurd H (by simp)
       rw [if_pos c49] at H
       have c49b0 : decide (0 ≤ (rd t123 x9_3)) = true := decide_eq_true c49
       clear c49
       by_cases c50 : (rd t123 x9_3) < (x5_2.length : Int)
       rotate_left
       ·rw [if_neg c50] at H
        exact absurd H (by simp)
       rw [if_pos c50] at H
       have c50b0 : decide ((rd t123 x9_3) < (x5_2.length : Int)) = true := decide_eq_true c50
       clear c50
       by_cases c51 : 0 ≤ (rd t104 x9_3)
       rotate_left
       ·rw [if_neg c51] at H
        exact absurd H (by simp)
       rw [if_pos c51] at H
       have c51b0 : decide (0 ≤ (rd t104 x9_3)) = true := decide_eq_true c51
       clear c51
       by_cases c52 : (rd t104 x9_3) < (t101.length : Int)
       rotate_left
       ·rw [if_neg c52] at H
        exact absurd H (by simp)
       rw [if_pos c52] at H
       have c52b0 : decide ((rd t104 x9_3) < (t101.length : Int)) = true := decide_eq_true c52
       clear c52
       by_cases c53 : ((rd_T39 x5_2 (rd t123 x9_3)).f0).toList = ((rd_T39 t101 (rd t104 x9_3)).f0).toList
       rotate_left
       ·rw [if_neg c53] at H
        have c53b0 : (((rd_T39 x5_2 (rd t123 x9_3)).f0).toList == ((rd_T39 t101 (rd t104 x9_3)).f0).toList) = false := beq_eq_false_iff_ne.mpr c53
        have c53b1 : (((rd_T39 x5_2 (rd t123 x9_3)).f0).toList != ((rd_T39 t101 (rd t104 x9_3)).f0).toList) = true := bne_iff_ne.mpr c53
        exact absurd (Option.some.inj H) (by rw [hT_.out];decide)
       rw [if_pos c53] at H
       have c53b0 : (((rd_T39 x5_2 (rd t123 x9_3)).f0).toList == ((rd_T39 t101 (rd t104 x9_3)).f0).toList) = true := beq_iff_eq.mpr c53
       have c53b1 : (((rd_T39 x5_2 (rd t123 x9_3)).f0).toList != ((rd_T39 t101 (rd t104 x9_3)).f0).toList) = false := bne_eq_false_iff_eq.mpr c53
       clear c53
       have H' := m0_ H
       clear H
       obtain ⟨Ao54, co54, eo54⟩ := Kd.R_slice HO_4.out
       subst eo54
       obtain ⟨Ao55, co55, eo55⟩ := Kd.R_slice HO_8.out
       subst eo55
       have p126 : 0 ≤ (x9_3 : Int) := of_decide_eq_true (by first | (with_reducible assumption) | assumption)
       have q126 : x9_3 < (t123.length : Int) := of_decide_eq_true (by first | (with_reducible assumption) | assumption)
       obtain ⟨ad126, e126, hx126_0⟩ := Kd.at_int (Kd.R_reads' HO_8.out).2.2 x9_3 p126 q126
       cases e126
       replace p126 := eq_true p126
       replace q126 := eq_true q126
       have p127 : 0 ≤ ((rd t123 x9_3) : Int) := of_decide_eq_true (by first | (with_reducible assumption) | assumption)
       have q127 : (rd t123 x9_3) < (x5_2.length : Int) := of_decide_eq_true (by first | (with_reducible assumption) | assumption)
       obtain ⟨ad127, A127_6, c127_6, e127, hx127_0, hx127_1, hx127_2, hx127_3, hx127_4, hx127_5, hx127_6, hx127_7, hx127_8, hx127_9, hx127_10, hx127_11, hl127_6, hi127_6⟩ := at_T39 (Kd.N_reads' HO_5.out).2.2 (rd t123 x9_3) p127 q127
       cases e127
       obtain ⟨ce127, hce127, hMe127, hcc127⟩ := Kd.N_get HO_5.out z39 (rd t123 x9_3) p127 (by first | exact q127 | exact of_decide_eq_true (by first | (with_reducible assumption) | assumption) | (have e_ := (Kd.N_reads' HO_5.out).1;omega))
       obtain ⟨ua127_6, uc127_6, rfl, ul127_6, ge127_6⟩ := k39_openF hMe127
       have hv127_6 := hcc127 6 _ rfl
       rw [add_field _ _ 6 (by omega)] at hv127_6
       replace hv127_6 := Option.some.inj (hv127_6.symm.trans hx127_6)
       injection hv127_6 with hva_ hvn_ hvc_
       rw [hva_] at ge127_6
       rw [hvc_] at ul127_6
       have HL127_6 := m0_ (show Kd.V k37 37 _ w.heap.size _ _ ((rd_T39 x5_2 (rd t123 x9_3)).f3.f3) from Kd.V_mk ul127_6 ge127_6)
       clear hva_ hvn_ hvc_ ge127_6 ul127_6
       clear hcc127 hce127
       have HR127_6 := m0_ hi127_6
       have HC127_6 := m0_ hl127_6
       clear hi127_6 hl127_6
       replace p127 := eq_true p127
       replace q127 := eq_true q127
       have p128 : 0 ≤ (x9_3 : Int) := of_decide_eq_true (by first | (with_reducible assumption) | assumption)
       have q128 : x9_3 < (t104.length : Int) := of_decide_eq_true (by first | (with_reducible assumption) | assumption)
       obtain ⟨ad128, e128, hx128_0⟩ := Kd.at_int (Kd.R_reads' HO_4.out).2.2 x9_3 p128 q128
       cases e128
       replace p128 := eq_true p128
       replace q128 := eq_true q128
       have p129 : 0 ≤ ((rd t104 x9_3) : Int) := of_decide_eq_true (by first | (with_reducible assumption) | assumption)
       have q129 : (rd t104 x9_3) < (t101.length : Int) := of_decide_eq_true (by first | (with_reducible assumption) | assumption)
       obtain ⟨ad129, A129_6, c129_6, e129, hx129_0, hx129_1, hx129_2, hx129_3, hx129_4, hx129_5, hx129_6, hx129_7, hx129_8, hx129_9, hx129_10, hx129_11, hl129_6, hi129_6⟩ := at_T39 (Kd.N_reads' HO_3.out).2.2 (rd t104 x9_3) p129 q129
       cases e129
       obtain ⟨ce129, hce129, hMe129, hcc129⟩ := Kd.N_get HO_3.out z39 (rd t104 x9_3) p129 (by first | exact q129 | exact of_decide_eq_true (by first | (with_reducible assumption) | assumption) | (have e_ := (Kd.N_reads' HO_3.out).1;omega))
       obtain ⟨ua129_6, uc129_6, rfl, ul129_6, ge129_6⟩ := k39_openF hMe129
       have hv129_6 := hcc129 6 _ rfl
       rw [add_field _ _ 6 (by omega)] at hv129_6
       replace hv129_6 := Option.some.inj (hv129_6.symm.trans hx129_6)
       injection hv129_6 with hva_ hvn_ hvc_
       rw [hva_] at ge129_6
       rw [hvc_] at ul129_6
       have HL129_6 := m0_ (show Kd.V k37 37 _ w.heap.size _ _ ((rd_T39 t101 (rd t104 x9_3)).f3.f3) from Kd.V_mk ul129_6 ge129_6)
       clear hva_ hvn_ hvc_ ge129_6 ul129_6
       clear hcc129 hce129
       have HR129_6 := m0_ hi129_6
       have HC129_6 := m0_ hl129_6
       clear hi129_6 hl129_6
       replace p129 := eq_true p129
       replace q129 := eq_true q129
       go_wp2
       repeat (go_quiet (fail);try go_wp2)
       go_roundg k3
       case measure => have := HJ4.out;have := HK2.out;have := HK3.out;omega
       case rel => exact ⟨(wrap64 (x9_3 + 1)), (by first | rfl | (simp;done) | (simp [*];done)), H', ⟨by have := HJ4.out;have := HK2.out;have := HK3.out;omega⟩, ⟨by (with_reducible repeat (first | apply Kd.N_alloc | apply Kd.N_drewN | apply Kd.N_drew));exact HO_3.out⟩, ⟨by (with_reducible repeat (first | apply Kd.R_alloc | apply Kd.R_drewN | apply Kd.R_drew));exact HO_4.out⟩, ⟨by (with_reducible repeat (first | apply Kd.N_alloc | apply Kd.N_drewN | apply Kd.N_drew));exact HO_5.out⟩, ⟨by (with_reducible repeat (first | apply Kd.R_alloc | apply Kd.R_drewN | apply Kd.R_drew));exact HO_8.out⟩, ⟨by repeat (first | (with_reducible first | exact HB.out | apply below_alloc | apply pw_below_drewN | apply below_drew1) | exact HB.out)⟩⟩

end Go.Proofs.Ytdljhokealbnnaa.M
namespace Go.Proofs.Ytdljhokealbnnaa.M
set_option linter.unusedVariables false
set_option linter.unusedSimpArgs false
open Go Go.Sort Go.Proofs.YtdljhokealbnnaaW.PrintWords Go.Proofs.YtdljhokealbnnaaW.PrintLast

section
variable {α : Type} [Inhabited α] (lt lt' : α → α → Bool) (ix : α → Nat)
theorem inner_same (hlt : ∀ x y, ix y < ix x → lt x y = lt' x y) : ∀ (j : Nat) (d : Array α), j < d.size → (∀ k, k < j → ix d[k]! < ix d[j]!) → insInner lt 0 j d = insInner lt' 0 j d
  | 0, d, _, _ => rfl
  | j + 1, d, hj, h => by
    unfold insInner
    rw [hlt _ _ (h j (by omega))]
    have e : insInner lt 0 j (swp d (j + 1) j) = insInner lt' 0 j (swp d (j + 1) j) := by
      refine inner_same hlt j _ (by rw [swp_size]; omega) (fun k hk => ?_)
      rw [swp_get d hj (by omega), swp_get d hj (by omega), if_neg (by omega), if_neg (by omega), if_pos rfl]
      exact h k (by omega)
    rw [e]
theorem inner_keep : ∀ (j : Nat) (d : Array α), j < d.size → (∀ k, j < k → (insInner lt 0 j d)[k]! = d[k]!) ∧ (∀ k, k ≤ j → ∃ k', k' ≤ j ∧ (insInner lt 0 j d)[k]! = d[k']!)
  | 0, d, _ => ⟨fun _ _ => rfl, fun k hk => ⟨k, hk, rfl⟩⟩
  | j + 1, d, hj => by
    unfold insInner
    split
    · obtain ⟨h1, h2⟩ := inner_keep j (swp d (j + 1) j) (by rw [swp_size]; omega)
      have sg := swp_get d hj (show j < d.size by omega)
      refine ⟨fun k hk => ?_, fun k hk => ?_⟩
      · rw [h1 k (by omega), sg, if_neg (by omega), if_neg (by omega)]
      by_cases hkj : k ≤ j
      · obtain ⟨k', h3, h4⟩ := h2 k hkj
        rw [h4, sg]
        by_cases c : k' = j
        · exact ⟨j + 1, Nat.le_refl _, by rw [if_pos c]⟩
        · exact ⟨k', by omega, by rw [if_neg c, if_neg (by omega)]⟩
      · refine ⟨j, by omega, ?_⟩
        rw [h1 k (by omega), sg, if_neg (by omega), if_pos (by omega)]
    · exact ⟨fun _ _ => rfl, fun k hk => ⟨k, hk, rfl⟩⟩
theorem outer_same (hlt : ∀ x y, ix y < ix x → lt x y = lt' x y) (b : Nat) : ∀ (e i : Nat) (d : Array α), b - i ≤ e → b ≤ d.size → (∀ m, i ≤ m → m < b → ∀ k, k < m → ix d[k]! < ix d[m]!) → insOuter lt 0 b i d = insOuter lt' 0 b i d
  | 0, i, d, he, _, _ => by
    rw [insOuter.eq_def lt, insOuter.eq_def lt', if_neg (by omega), if_neg (by omega)]
  | e + 1, i, d, he, hb, h => by
    rw [insOuter.eq_def lt, insOuter.eq_def lt']
    by_cases hi : i < b
    · rw [if_pos hi, if_pos hi, inner_same lt lt' ix hlt i d (by omega) (h i (Nat.le_refl _) hi)]
      obtain ⟨h1, h2⟩ := inner_keep lt' i d (by omega)
      have hsz := size_inner lt' 0 i d
      refine outer_same hlt b e (i + 1) _ (by omega) (by rw [hsz]; exact hb) (fun m hm hmb k hk => ?_)
      rw [h1 m (by omega)]
      by_cases hki : k ≤ i
      · obtain ⟨k', h3, h4⟩ := h2 k hki
        rw [h4]
        exact h m (by omega) hmb k' (by omega)
      · rw [h1 k (by omega)]
        exact h m (by omega) hmb k hk
    · rw [if_neg hi, if_neg hi]
end
section
variable (l : List S39)
def Due (x y : Nat) : Prop := priAt l y < priAt l x ∨ priAt l x = priAt l y ∧ x < y
instance (x y : Nat) : Decidable (Due l x y) := inferInstanceAs (Decidable (_ ∨ _))
def dueF (M : Nat) (x y : Fin (M + 1)) : Bool := decide (Due l x.val y.val)
theorem dueF_swo (M : Nat) : SWO (dueF l M) := by
  refine ⟨fun x => ?_, fun x y z h1 h2 => ?_, fun x y z h1 h2 => ?_⟩
  · simp [dueF, Due]
  · have h1 := of_decide_eq_true h1
    have h2 := of_decide_eq_true h2
    refine decide_eq_true ?_
    unfold Due at *; omega
  · have h1 := of_decide_eq_false h1
    have h2 := of_decide_eq_false h2
    refine decide_eq_false ?_
    unfold Due at *; omega
theorem sortR_due (M : Nat) (hp : ∀ i : Nat, 0 ≤ priAt l i ∧ priAt l i ≤ 9) : sortR l M = insertionSort (dueF l M) (List.finRange (M + 1)).toArray 0 (M + 1) := by
  unfold sortR insertionSort
  have hg : ∀ k, k < M + 1 → ((List.finRange (M + 1)).toArray[k]!).val = k := fun k hk => by
    rw [getElem!_pos _ k (by simpa using hk)]
    simp
  refine outer_same (ltOf (cmpR l M)) (dueF l M) (fun x => x.val) (fun x y h => ?_) (M + 1) (M + 1) (0 + 1) _ (by omega) (by simp) (fun m h1 h2 k hk => ?_)
  · have hx := hp x.val
    have hy := hp y.val
    have e : cmpR l M x y = priAt l y.val - priAt l x.val := w_small (by omega) (by omega)
    show decide (cmpR l M x y < 0) = decide (Due l x.val y.val)
    apply decide_eq_decide.2
    rw [e]
    unfold Due
    have h : y.val < x.val := h
    omega
  · show ((List.finRange (M + 1)).toArray[k]!).val < ((List.finRange (M + 1)).toArray[m]!).val
    rw [hg k (by omega), hg m h2]
    exact hk
def IsOrder (o : List Int) : Prop := o.Pairwise (fun x y => Due l x.toNat y.toNat) ∧ ∀ x : Int, x ∈ o ↔ 0 ≤ x ∧ x < (l.length : Int)
theorem isOrder_ext : ∀ (a b : List Int), a.Pairwise (fun x y => Due l x.toNat y.toNat) → b.Pairwise (fun x y => Due l x.toNat y.toNat) → (∀ x ∈ a, 0 ≤ x) → (∀ x, x ∈ a ↔ x ∈ b) → a = b
  | [], [], _, _, _, _ => rfl
  | [], y :: b, _, _, _, h => absurd ((h y).2 List.mem_cons_self) (by simp)
  | x :: a, [], _, _, _, h => absurd ((h x).1 List.mem_cons_self) (by simp)
  | x :: a, y :: b, ha, hb, hp, h => by
    obtain ⟨a1, a2⟩ := List.pairwise_cons.1 ha
    obtain ⟨b1, b2⟩ := List.pairwise_cons.1 hb
    have hy0 : 0 ≤ y := hp y ((h y).2 List.mem_cons_self)
    have exy : x = y := by
      rcases List.mem_cons.1 ((h x).1 List.mem_cons_self) with e | e
      · exact e
      rcases List.mem_cons.1 ((h y).2 List.mem_cons_self) with e' | e'
      · exact e'.symm
      have h1 := a1 y e'
      have h2 := b1 x e
      unfold Due at h1 h2
      omega
    subst exy
    have hn : ∀ {c : List Int}, (∀ z ∈ c, Due l x.toNat z.toNat) → x ∉ c := fun hc hm => by
      have := hc x hm
      unfold Due at this
      omega
    rw [isOrder_ext a b a2 b2 (fun z hz => hp z (List.mem_cons_of_mem _ hz)) (fun z => by
      have := h z
      rw [List.mem_cons, List.mem_cons] at this
      constructor
      · intro hz
        rcases this.1 (.inr hz) with e | e
        · exact absurd (e ▸ hz) (hn a1)
        · exact e
      · intro hz
        rcases this.2 (.inr hz) with e | e
        · exact absurd (e ▸ hz) (hn b1)
        · exact e)]
theorem orderR_is (hp : ∀ i : Nat, 0 ≤ priAt l i ∧ priAt l i ≤ 9) : IsOrder l (orderR l) := by
  unfold orderR
  cases hM : l.length with
  | zero => exact ⟨List.Pairwise.nil, fun x => ⟨fun h => (List.not_mem_nil h).elim, fun h => absurd h (by omega)⟩⟩
  | succ M =>
    show IsOrder l ((sortR l M).toList.map (fun i : Fin (M + 1) => (i.val : Int)))
    have hsz := size_sortR l M
    obtain ⟨⟨p1, p2, p3⟩, hs⟩ := insertionSort_holds (lt := dueF l M) (dueF_swo l M) (List.finRange (M + 1)).toArray 0 (M + 1) (Nat.zero_le _) (by simp)
    rw [← sortR_due l M hp] at p1 p3 hs
    have e1 : (sortR l M).extract 0 (M + 1) = sortR l M := by
      have := Array.extract_size (xs := sortR l M)
      rw [hsz] at this
      exact this
    have e2 : ((List.finRange (M + 1)).toArray).extract 0 (M + 1) = (List.finRange (M + 1)).toArray := by
      have := Array.extract_size (xs := (List.finRange (M + 1)).toArray)
      simpa using this
    rw [e1, e2] at p3
    have p4 : (sortR l M).toList.Perm (List.finRange (M + 1)) := p3
    have hnd : (sortR l M).toList.Nodup := p4.nodup_iff.2 (List.nodup_finRange _)
    refine ⟨?_, fun x => ?_⟩
    · rw [List.pairwise_map, List.pairwise_iff_getElem]
      intro i j hi hj hij
      have hi' : i < (sortR l M).size := by simpa using hi
      have hj' : j < (sortR l M).size := by simpa using hj
      have h := hs i j (Nat.zero_le _) hij (by omega)
      rw [getElem!_pos _ i hi', getElem!_pos _ j hj'] at h
      have hne : (sortR l M).toList[i] ≠ (sortR l M).toList[j] := List.pairwise_iff_getElem.1 hnd i j hi hj hij
      simp only [Array.getElem_toList] at hne ⊢
      have hv : ((sortR l M)[i]).val ≠ ((sortR l M)[j]).val := fun e => hne (Fin.ext e)
      have h := of_decide_eq_false h
      show Due l _ _
      simp only [Int.toNat_natCast]
      unfold Due at h ⊢
      omega
    · rw [List.mem_map]
      constructor
      · rintro ⟨i, _, rfl⟩
        have := i.isLt
        rw [hM]; omega
      · intro hx
        rw [hM] at hx
        exact ⟨⟨x.toNat, by omega⟩, p4.mem_iff.2 (List.mem_finRange _), by show ((x.toNat : Nat) : Int) = x; omega⟩
end
end Go.Proofs.Ytdljhokealbnnaa.M
namespace Go.Proofs.Ytdljhokealbnnaa.M
set_option linter.unusedVariables false
set_option linter.unusedSimpArgs false
open Go.RowKit Go.Proofs.YtdljhokealbnnaaW.PrintWords Go.Proofs.YtdljhokealbnnaaW.PrintLast

theorem maxLen_le {n : Nat} (h : n ≤ maxLen) : n ≤ 9223372036854775807 := by unfold maxLen at h; omega
theorem getD_in {α : Type} {l : List α} {z : α} {n : Nat} (h : n < l.length) : l.getD n z = l[n] := by
  rw [List.getD_eq_getElem?_getD, List.getElem?_eq_getElem h]
  rfl

end Go.Proofs.Ytdljhokealbnnaa.M
namespace Go.Proofs.Ytdljhokealbnnaa.M
open Go.RowKit Go.Proofs.YtdljhokealbnnaaW.PrintWords Go.Proofs.YtdljhokealbnnaaW.PrintLast Go.Proofs.YtdljhokealbnnaaW.PrintMore
attribute [local go_sem] max2_int min2_int max_two min_two max_three min_three max_four min_four
set_option linter.unusedVariables false
set_option linter.unusedSimpArgs false


end Go.Proofs.Ytdljhokealbnnaa.M
namespace Go.Proofs.Ytdljhokealbnnaa.M
set_option linter.unusedVariables false
set_option linter.unusedSimpArgs false
open Go.RowKit Go.Proofs.YtdljhokealbnnaaW.PrintWords Go.Proofs.YtdljhokealbnnaaW.PrintLast

theorem indI {P : S37 → Prop} (h : ∀ x, (∀ y ∈ x.f3, P y) → P x) : ∀ x, P x := by
  have key : ∀ n, ∀ x : S37, SizeOf.sizeOf x ≤ n → P x := by
    intro n
    induction n with
    | zero => intro x hx; cases x; simp at hx
    | succ n ih =>
      intro x hx
      refine h x (fun y hy => ih y ?_)
      have := List.sizeOf_lt_of_mem hy
      cases x
      simp at *
      omega
  exact fun x => key _ x (Nat.le_refl _)

mutual
def allY : S37 → Nat
  | ⟨_, _, _, l⟩ => l.length + kidsY l
def kidsY : List S37 → Nat
  | [] => 0
  | x :: xs => allY x + kidsY xs
end
theorem allY_is (x : S37) : allY x = x.f3.length + kidsY x.f3 := by cases x; simp [allY]
theorem kidsY_cons (x : S37) (l : List S37) : kidsY (x :: l) = allY x + kidsY l := by simp [kidsY]
theorem kidsY_nil : kidsY [] = 0 := by simp [kidsY]
theorem kidsY_mem {l : List S37} {x : S37} (h : x ∈ l) : allY x ≤ kidsY l := by
  induction l with
  | nil => simp at h
  | cons y l ih =>
    rw [kidsY_cons]
    rcases List.mem_cons.1 h with rfl | h
    · omega
    · have := ih h
      omega
theorem allY_mem {x y : S37} (h : y ∈ x.f3) : allY y + 1 ≤ allY x := by
  have := kidsY_mem h
  have h2 := List.length_pos_of_mem h
  rw [allY_is x]
  omega
theorem allY_len {x : S37} : x.f3.length ≤ allY x := by rw [allY_is]; omega
theorem rdI (l : List S37) (n : Nat) (h : n < l.length) : rd_T37 l (n : Int) = l[n] := by
  show l.getD n z37 = _
  rw [List.getD_eq_getElem?_getD, List.getElem?_eq_getElem h]
  rfl

end Go.Proofs.Ytdljhokealbnnaa.M
namespace Go.Proofs.Ytdljhokealbnnaa.M
open Go.RowKit Go.Proofs.YtdljhokealbnnaaW.PrintWords Go.Proofs.YtdljhokealbnnaaW.PrintLast Go.Proofs.YtdljhokealbnnaaW.PrintMore
attribute [local go_sem] max2_int min2_int max_two min_two max_three min_three max_four min_four
set_option linter.unusedVariables false
set_option linter.unusedSimpArgs false

end Go.Proofs.Ytdljhokealbnnaa.M
namespace Go.Proofs.Ytdljhokealbnnaa.M
set_option linter.unusedVariables false
set_option linter.unusedSimpArgs false
open Go.RowKit Go.Proofs.YtdljhokealbnnaaW.PrintWords Go.Proofs.YtdljhokealbnnaaW.PrintLast

end Go.Proofs.Ytdljhokealbnnaa.M
namespace Go.Proofs.Ytdljhokealbnnaa.M
open Go.RowKit Go.Proofs.YtdljhokealbnnaaW.PrintWords Go.Proofs.YtdljhokealbnnaaW.PrintLast Go.Proofs.YtdljhokealbnnaaW.PrintMore
attribute [local go_sem] max2_int min2_int max_two min_two max_three min_three max_four min_four
set_option linter.unusedVariables false
set_option linter.unusedSimpArgs false




end Go.Proofs.Ytdljhokealbnnaa.M
namespace Go.Proofs.Ytdljhokealbnnaa.M
set_option linter.unusedVariables false
set_option linter.unusedSimpArgs false
open Go.RowKit Go.Proofs.YtdljhokealbnnaaW.PrintWords Go.Proofs.YtdljhokealbnnaaW.PrintLast

end Go.Proofs.Ytdljhokealbnnaa.M
namespace Go.Proofs.Ytdljhokealbnnaa.M
open Go.RowKit Go.Proofs.YtdljhokealbnnaaW.PrintWords Go.Proofs.YtdljhokealbnnaaW.PrintLast Go.Proofs.YtdljhokealbnnaaW.PrintMore
attribute [local go_sem] max2_int min2_int max_two min_two max_three min_three max_four min_four
set_option linter.unusedVariables false
set_option linter.unusedSimpArgs false


end Go.Proofs.Ytdljhokealbnnaa.M
namespace Go.Proofs.Ytdljhokealbnnaa.M
set_option linter.unusedVariables false
set_option linter.unusedSimpArgs false
open Go.RowKit Go.Proofs.YtdljhokealbnnaaW.PrintWords Go.Proofs.YtdljhokealbnnaaW.PrintLast

mutual
def manyY : S37 → Nat
  | ⟨_, _, _, l⟩ => 1 + manysY l
def manysY : List S37 → Nat
  | [] => 0
  | x :: xs => manyY x + manysY xs
end
mutual
def deepY : S37 → Nat
  | ⟨_, _, _, l⟩ => 1 + deepsY l
def deepsY : List S37 → Nat
  | [] => 0
  | x :: xs => max (deepY x) (deepsY xs)
end
def kidsOf (a : Int) : Int := if a = 1 then 0 else if a = 7 then 1 else if a = 2 ∨ a = 3 ∨ a = 4 then 2 else if a = 5 ∨ a = 6 then 3 else -1
def okN (a b c : Int) (n : Nat) : Bool := decide (kidsOf a = n) && (if a = 1 then decide (0 ≤ b ∧ b ≤ 4) else decide (b = 0)) && (if a = 7 then decide (1 ≤ c ∧ c ≤ 20) else decide (c = 0))
mutual
def fmY : S37 → Bool
  | ⟨a, b, c, l⟩ => okN a b c l.length && fmsY l
def fmsY : List S37 → Bool
  | [] => true
  | x :: xs => fmY x && fmsY xs
end
theorem manyY_is (x : S37) : manyY x = 1 + manysY x.f3 := by cases x; simp [manyY]
theorem manysY_nil : manysY [] = 0 := by simp [manysY]
theorem manysY_cons (x : S37) (l : List S37) : manysY (x :: l) = manyY x + manysY l := by simp [manysY]
theorem deepY_is (x : S37) : deepY x = 1 + deepsY x.f3 := by cases x; simp [deepY]
theorem deepsY_nil : deepsY [] = 0 := by simp [deepsY]
theorem deepsY_cons (x : S37) (l : List S37) : deepsY (x :: l) = max (deepY x) (deepsY l) := by simp [deepsY]
theorem fmY_is (x : S37) : fmY x = (okN x.f0 x.f1 x.f2 x.f3.length && fmsY x.f3) := by cases x; simp [fmY]
theorem fmsY_nil : fmsY [] = true := by simp [fmsY]
theorem fmsY_cons (x : S37) (l : List S37) : fmsY (x :: l) = (fmY x && fmsY l) := by simp [fmsY]
theorem manysY_all (l : List S37) (h : ∀ x ∈ l, manyY x = 1 + allY x) : manysY l = l.length + kidsY l := by
  induction l with
  | nil => simp [manysY_nil, kidsY_nil]
  | cons x l ih => rw [manysY_cons, kidsY_cons, h x (by simp), ih (fun y hy => h y (by simp [hy]))]; simp; omega
theorem manyY_all : ∀ x : S37, manyY x = 1 + allY x := by
  refine indI (fun x ih => ?_)
  rw [manyY_is, allY_is, manysY_all _ ih]
theorem deepsY_le (l : List S37) (h : ∀ x ∈ l, deepY x ≤ manyY x) : deepsY l ≤ manysY l := by
  induction l with
  | nil => simp [deepsY_nil, manysY_nil]
  | cons x l ih =>
    have h1 := h x (by simp)
    have h2 := ih (fun y hy => h y (by simp [hy]))
    rw [manysY_cons, deepsY_cons]
    omega
theorem deepY_le : ∀ x : S37, deepY x ≤ manyY x := by
  refine indI (fun x ih => ?_)
  have := deepsY_le _ ih
  rw [manyY_is, deepY_is]
  omega
def SizeOk (x : S37) : Prop := Ev (fun k => impl_Ex_size.f k x.f0 x.f1 x.f2 x.f3) ((manyY x : Int), (deepY x : Int))
theorem size_l0_ev (l : List S37) (hl : l.length ≤ 1048576) (hm : manysY l ≤ 1048577) (hs : ∀ x ∈ l, SizeOk x) : ∀ (d n m p : Nat), n + d = l.length → 1 ≤ m → 1 ≤ p → p ≤ 1048579 → m + manysY (l.drop n) ≤ 1048579 → Ev (fun k => impl_Ex_size.l0 k (m : Int) (p : Int) l (l.length : Int) (n : Int)) (((m + manysY (l.drop n) : Nat) : Int), ((max p (1 + deepsY (l.drop n)) : Nat) : Int)) := by
  intro d
  induction d with
  | zero =>
    intro n m p hn h0 h1 h2 h3
    rw [List.drop_of_length_le (by omega), manysY_nil, deepsY_nil]
    refine Ev.last (fun k => by simp only [impl_Ex_size.l0]; rw [if_neg (by omega)]; rw [Nat.max_eq_left (by omega)]; rfl)
  | succ d ih =>
    intro n m p hn h0 h1 h2 h3
    have hx : SizeOk l[n] := hs _ (List.getElem_mem _)
    have hd := List.drop_eq_getElem_cons (l := l) (i := n) (by omega)
    rw [hd, manysY_cons] at h3
    rw [hd, manysY_cons, deepsY_cons]
    have hp := deepY_le l[n]
    have e1 : wrap64 ((m : Int) + (manyY l[n] : Int)) = ((m + manyY l[n] : Nat) : Int) := by rw [w_small (by omega) (by omega)]; omega
    have e2 : mx (p : Int) (wrap64 ((deepY l[n] : Int) + 1)) = ((max p (1 + deepY l[n]) : Nat) : Int) := by rw [w_small (by omega) (by omega)]; unfold mx; omega
    refine Ev.step (fun k => by simp only [impl_Ex_size.l0]; rw [if_pos (by omega), if_pos (by omega), if_pos (by omega), rdI l n (by omega), w_succ (by omega)]) ?_
    refine Ev.bind hx ?_
    simp only [e1, e2]
    refine Ev.val (ih (n + 1) (m + manyY l[n]) (max p (1 + deepY l[n])) (by omega) (by omega) (by omega) (by omega) (by omega)) ?_
    refine Prod.ext ?_ ?_
    · show ((_ : Nat) : Int) = ((_ : Nat) : Int)
      congr 1
      omega
    · show ((_ : Nat) : Int) = ((_ : Nat) : Int)
      congr 1
      omega
theorem size_ev : ∀ x : S37, allY x ≤ 1048576 → SizeOk x := by
  refine indI (fun x ih g => ?_)
  have hk : ∀ y ∈ x.f3, SizeOk y := fun y hy => ih y hy (by have := allY_mem hy; omega)
  have hl : x.f3.length ≤ 1048576 := by have := allY_len (x := x); omega
  have hm : manysY x.f3 ≤ 1048577 := by have h1 := manyY_all x; have h2 := manyY_is x; omega
  unfold SizeOk
  refine Ev.step (fun k => by simp only [impl_Ex_size.f]; rfl) ?_
  refine Ev.val (size_l0_ev x.f3 hl hm hk x.f3.length 0 1 1 (by omega) (by omega) (by omega) (by omega) (by rw [List.drop_zero]; omega)) ?_
  rw [List.drop_zero, manyY_is, deepY_is]
  refine Prod.ext rfl ?_
  show ((_ : Nat) : Int) = ((_ : Nat) : Int)
  congr 1
  omega

def ManyOk (x : S37) : Prop := ∀ d : Nat, d ≤ 100 → deepY x ≤ d + 1 → Ev (fun k => spec_l2Many.f k x.f0 x.f1 x.f2 x.f3 (d : Int)) (manyY x : Int)
theorem many_l0_ev (l : List S37) (hl : l.length ≤ 1048576) (hs : ∀ x ∈ l, ManyOk x) (a b c : Int) (e : Nat) (he : e ≤ 100) : ∀ (d n m : Nat), n + d = l.length → deepsY (l.drop n) ≤ e → m + manysY (l.drop n) ≤ 1048579 → Ev (fun k => spec_l2Many.l0 k (e : Int) (m : Int) (n : Int) a b c l) ((m + manysY (l.drop n) : Nat) : Int) := by
  intro d
  induction d with
  | zero =>
    intro n m hn h1 h3
    rw [List.drop_of_length_le (by omega), manysY_nil]
    refine Ev.last (fun k => by simp only [spec_l2Many.l0]; rw [if_neg (by omega)]; rfl)
  | succ d ih =>
    intro n m hn h1 h3
    have hx : ManyOk l[n] := hs _ (List.getElem_mem _)
    have hd := List.drop_eq_getElem_cons (l := l) (i := n) (by omega)
    rw [hd, manysY_cons] at h3
    rw [hd, deepsY_cons] at h1
    rw [hd, manysY_cons]
    have hp : 1 ≤ deepY l[n] := by rw [deepY_is]; omega
    have e0 : wrap64 ((e : Int) - 1) = ((e - 1 : Nat) : Int) := by rw [w_small (by omega) (by omega)]; omega
    have e1 : wrap64 ((m : Int) + (manyY l[n] : Int)) = ((m + manyY l[n] : Nat) : Int) := by rw [w_small (by omega) (by omega)]; omega
    refine Ev.step (fun k => by simp only [spec_l2Many.l0]; rw [if_pos (by omega), if_pos (by omega), if_pos (by omega), rdI l n (by omega), w_succ (by omega), e0]) ?_
    refine Ev.bind (hx (e - 1) (by omega) (by omega)) ?_
    simp only [e1]
    have h5 : deepsY (l.drop (n + 1)) ≤ e := by omega
    have h6 : m + manyY l[n] + manysY (l.drop (n + 1)) ≤ 1048579 := by rw [Nat.add_assoc]; exact h3
    have h4 := ih (n + 1) (m + manyY l[n]) (by omega) h5 h6
    rw [Nat.add_assoc] at h4
    exact h4
theorem many_ev : ∀ x : S37, allY x ≤ 1048576 → ManyOk x := by
  refine indI (fun x ih g e he hd => ?_)
  have hk : ∀ y ∈ x.f3, ManyOk y := fun y hy => ih y hy (by have := allY_mem hy; omega)
  have hl : x.f3.length ≤ 1048576 := by have := allY_len (x := x); omega
  have hm : manysY x.f3 ≤ 1048577 := by have h1 := manyY_all x; have h2 := manyY_is x; omega
  rw [deepY_is] at hd
  refine Ev.step (fun k => by simp only [spec_l2Many.f]; rfl) ?_
  refine Ev.val (many_l0_ev x.f3 hl hk x.f0 x.f1 x.f2 e he x.f3.length 0 1 (by omega) (by rw [List.drop_zero]; omega) (by rw [List.drop_zero]; omega)) ?_
  rw [List.drop_zero, manyY_is]

theorem l2Kids_ev (a : Int) : Ev (fun k => spec_l2Kids.f k a) (kidsOf a) := by
  unfold spec_l2Kids.f kidsOf
  by_cases h1 : a = 1
  · exact Ev.pos h1 (Ev.val (Ev.now _) (by rw [if_pos h1]))
  refine Ev.neg h1 ?_
  rw [if_neg h1]
  by_cases h7 : a = 7
  · exact Ev.pos h7 (Ev.val (Ev.now _) (by rw [if_pos h7]))
  refine Ev.neg h7 ?_
  rw [if_neg h7]
  have yes : a = 2 ∨ a = 3 ∨ a = 4 → Ev (fun k => spec_l2Kids.j0 k a true) (if a = 2 ∨ a = 3 ∨ a = 4 then 2 else if a = 5 ∨ a = 6 then 3 else -1) := fun h => Ev.last (fun k => by simp only [spec_l2Kids.j0]; rw [if_pos trivial, if_pos h])
  by_cases h2 : a = 2
  · refine Ev.pos h2 ?_
    rw [show (a == 2) = true by simp [h2]]
    exact yes (by omega)
  refine Ev.neg h2 ?_
  by_cases h3 : a = 3
  · refine Ev.pos h3 ?_
    rw [show (a == 3) = true by simp [h3]]
    exact yes (by omega)
  refine Ev.neg h3 ?_
  by_cases h4 : a = 4
  · rw [show (a == 4) = true by simp [h4]]
    exact yes (by omega)
  rw [show (a == 4) = false by simp [h4]]
  rw [if_neg (by omega)]
  by_cases h5 : a = 5
  · exact Ev.last (fun k => by simp only [spec_l2Kids.j0]; rw [if_neg (by decide), if_pos h5, if_pos (by omega)])
  by_cases h6 : a = 6
  · exact Ev.last (fun k => by simp only [spec_l2Kids.j0]; rw [if_neg (by decide), if_neg h5, if_pos h6, if_pos (by omega)])
  · exact Ev.last (fun k => by simp only [spec_l2Kids.j0]; rw [if_neg (by decide), if_neg h5, if_neg h6, if_neg (by omega)])

def FormOk (x : S37) : Prop := ∀ d : Nat, d ≤ 100 → Ev (fun k => spec_l2Form.f k x.f0 x.f1 x.f2 x.f3 (d : Int)) (fmY x && decide (deepY x ≤ d))
theorem form_l0_ev (l : List S37) (hl : l.length ≤ 1048576) (hs : ∀ x ∈ l, FormOk x) (a b c : Int) (e : Nat) (he : e < 100) : ∀ (d n : Nat), n + d = l.length → Ev (fun k => spec_l2Form.l0 k ((e + 1 : Nat) : Int) (n : Int) a b c l) (fmsY (l.drop n) && decide (deepsY (l.drop n) ≤ e)) := by
  intro d
  induction d with
  | zero =>
    intro n hn
    rw [List.drop_of_length_le (by omega), fmsY_nil, deepsY_nil]
    exact Ev.last (fun k => by simp only [spec_l2Form.l0]; rw [if_neg (by omega)]; simp)
  | succ d ih =>
    intro n hn
    have hx : FormOk l[n] := hs _ (List.getElem_mem _)
    have hd := List.drop_eq_getElem_cons (l := l) (i := n) (by omega)
    rw [hd, fmsY_cons, deepsY_cons]
    have e0 : wrap64 (((e + 1 : Nat) : Int) - 1) = (e : Int) := by rw [w_small (by omega) (by omega)]; omega
    refine Ev.step (fun k => by simp only [spec_l2Form.l0]; rw [if_pos (by omega), if_pos (by omega), rdI l n (by omega), w_succ (by omega), e0]) ?_
    refine Ev.bind (hx e (by omega)) ?_
    by_cases h : (fmY l[n] && decide (deepY l[n] ≤ e)) = true
    · refine Ev.pos h (Ev.val (ih (n + 1) (by omega)) ?_)
      simp only [Bool.and_eq_true, decide_eq_true_eq] at h
      rw [h.1, Bool.true_and]
      have : (deepsY (l.drop (n + 1)) ≤ e) ↔ (max (deepY l[n]) (deepsY (l.drop (n + 1))) ≤ e) := by omega
      simp only [this]
    refine Ev.neg h (Ev.val (Ev.now false) ?_)
    by_cases hf : fmY l[n] = true
    · have : ¬ (max (deepY l[n]) (deepsY (l.drop (n + 1))) ≤ e) := by
        simp [hf] at h
        omega
      simp [this]
    · simp [hf]
theorem form_ev : ∀ x : S37, allY x ≤ 1048576 → FormOk x := by
  refine indI (fun x ih g d hd => ?_)
  have hk : ∀ y ∈ x.f3, FormOk y := fun y hy => ih y hy (by have := allY_mem hy; omega)
  have hl : x.f3.length ≤ 1048576 := by have := allY_len (x := x); omega
  rw [fmY_is, deepY_is]
  have bad : ∀ v : Bool, v = false → Ev (fun k => spec_l2Form.j0 k (d : Int) true x.f0 x.f1 x.f2 x.f3) v := fun v hv => Ev.last (fun k => by simp only [spec_l2Form.j0]; rw [if_pos trivial, hv])
  have bad1 : ∀ v : Bool, v = false → Ev (fun k => spec_l2Form.j1 k (d : Int) true x.f0 x.f1 x.f2 x.f3) v := fun v hv => Ev.last (fun k => by simp only [spec_l2Form.j1]; rw [if_pos trivial, hv])
  by_cases hd1 : (d : Int) < 1
  · refine Ev.step (fun k => by simp only [spec_l2Form.f]; rw [if_pos hd1]) (bad _ ?_)
    have : ¬ (1 + deepsY x.f3 ≤ d) := by omega
    simp [this]
  obtain ⟨e, rfl⟩ : ∃ e, d = e + 1 := ⟨d - 1, by omega⟩
  refine Ev.step (fun k => by simp only [spec_l2Form.f]; rw [if_neg hd1]) ?_
  refine Ev.bind (l2Kids_ev x.f0) ?_
  by_cases hn : kidsOf x.f0 = (x.f3.length : Int)
  rotate_left
  · refine Ev.neg hn (bad _ ?_)
    simp [okN, hn]
  refine Ev.pos hn ?_
  have rest : Ev (fun k => spec_l2Form.j0 k ((e + 1 : Nat) : Int) false x.f0 x.f1 x.f2 x.f3) ((if x.f0 = 7 then decide (1 ≤ x.f2 ∧ x.f2 ≤ 20) else decide (x.f2 = 0)) && (fmsY x.f3 && decide (deepsY x.f3 ≤ e))) := by
    have loop : Ev (fun k => spec_l2Form.j1 k ((e + 1 : Nat) : Int) false x.f0 x.f1 x.f2 x.f3) (fmsY x.f3 && decide (deepsY x.f3 ≤ e)) := by
      refine Ev.step (fun k => by simp only [spec_l2Form.j1]; rw [if_neg (by decide)]) ?_
      exact form_l0_ev x.f3 hl hk x.f0 x.f1 x.f2 e (by omega) x.f3.length 0 (by omega)
    by_cases h7 : x.f0 = 7
    · rw [if_pos h7]
      by_cases c1 : x.f2 < 1
      · refine Ev.step (fun k => by simp only [spec_l2Form.j0]; rw [if_neg (by decide), if_pos h7, if_pos c1]) (bad1 _ ?_)
        have : ¬ (1 ≤ x.f2 ∧ x.f2 ≤ 20) := by omega
        simp [this]
      by_cases c2 : x.f2 > 20
      · refine Ev.step (fun k => by simp only [spec_l2Form.j0]; rw [if_neg (by decide), if_pos h7, if_neg c1, if_pos c2]) (bad1 _ ?_)
        have : ¬ (1 ≤ x.f2 ∧ x.f2 ≤ 20) := by omega
        simp [this]
      · refine Ev.step (fun k => by simp only [spec_l2Form.j0]; rw [if_neg (by decide), if_pos h7, if_neg c1, if_neg c2]) (Ev.val loop ?_)
        have : (1 ≤ x.f2 ∧ x.f2 ≤ 20) := by omega
        simp [this]
    · rw [if_neg h7]
      by_cases c0 : x.f2 = 0
      · refine Ev.step (fun k => by simp only [spec_l2Form.j0]; rw [if_neg (by decide), if_neg h7, show (x.f2 != 0) = false by simp [c0]]) (Ev.val loop ?_)
        simp [c0]
      · refine Ev.step (fun k => by simp only [spec_l2Form.j0]; rw [if_neg (by decide), if_neg h7, show (x.f2 != 0) = true by simp [c0]]) (bad1 _ ?_)
        simp [c0]
  have hdd : (1 + deepsY x.f3 ≤ e + 1) ↔ (deepsY x.f3 ≤ e) := by omega
  simp only [hdd, okN, hn, decide_true, Bool.true_and]
  by_cases b0 : x.f1 < 0
  · refine Ev.pos b0 (bad _ ?_)
    have h1 : ¬ (0 ≤ x.f1 ∧ x.f1 ≤ 4) := by omega
    have h2 : ¬ (x.f1 = 0) := by omega
    simp [h1, h2]
  refine Ev.neg b0 ?_
  by_cases b5 : x.f1 ≥ 5
  · refine Ev.pos b5 (bad _ ?_)
    have h1 : ¬ (0 ≤ x.f1 ∧ x.f1 ≤ 4) := by omega
    have h2 : ¬ (x.f1 = 0) := by omega
    simp [h1, h2]
  refine Ev.neg b5 ?_
  by_cases a1 : x.f0 = 1
  · refine Ev.pos a1 (Ev.val rest ?_)
    rw [if_pos a1]
    have h1 : (0 ≤ x.f1 ∧ x.f1 ≤ 4) := by omega
    simp [h1, Bool.and_assoc]
  refine Ev.neg a1 ?_
  rw [if_neg a1]
  by_cases hb : x.f1 = 0
  · rw [show (x.f1 != 0) = false by simp [hb]]
    refine Ev.val rest ?_
    simp [hb, Bool.and_assoc]
  · rw [show (x.f1 != 0) = true by simp [hb]]
    exact bad _ (by simp [hb])

theorem in_is (a b c : Int) : impl_in.f a b c = some (decide (b ≤ a ∧ a ≤ c)) := by
  unfold impl_in.f
  by_cases h : b ≤ a
  · rw [if_pos h]; simp [h]
  · rw [if_neg h]; simp [h]
theorem kids_is (a : Int) (h1 : 1 ≤ a) (h7 : a ≤ 7) : impl_kids.f a = some (kidsOf a) := by
  have : a = 1 ∨ a = 2 ∨ a = 3 ∨ a = 4 ∨ a = 5 ∨ a = 6 ∨ a = 7 := by omega
  rcases this with rfl | rfl | rfl | rfl | rfl | rfl | rfl <;> rfl
theorem kidsOf_out {a : Int} (h : ¬ (1 ≤ a ∧ a ≤ 7)) : kidsOf a = -1 := by
  unfold kidsOf
  rw [if_neg (by omega), if_neg (by omega), if_neg (by omega), if_neg (by omega)]
def FmOk (x : S37) : Prop := Ev (fun k => impl_Ex_formed.f k x.f0 x.f1 x.f2 x.f3) (fmY x)
theorem fm_l0_ev (l : List S37) (hl : l.length ≤ 1048576) (hs : ∀ x ∈ l, FmOk x) : ∀ (d n : Nat), n + d = l.length → ∃ r : Int, Ev (fun k => impl_Ex_159.l0 k l (l.length : Int) (n : Int)) r ∧ (decide (r ≥ 0) = !fmsY (l.drop n)) := by
  intro d
  induction d with
  | zero =>
    intro n hn
    rw [List.drop_of_length_le (by omega), fmsY_nil]
    exact ⟨-1, Ev.last (fun k => by simp only [impl_Ex_159.l0]; rw [if_neg (by omega)]), by decide⟩
  | succ d ih =>
    intro n hn
    have hx : FmOk l[n] := hs _ (List.getElem_mem _)
    have hd := List.drop_eq_getElem_cons (l := l) (i := n) (by omega)
    rw [hd, fmsY_cons]
    have h1 : Ev (fun k => impl_Ex_formed_1.f k l[n].f0 l[n].f1 l[n].f2 l[n].f3) (!fmY l[n]) := Ev.step (fun k => by simp only [impl_Ex_formed_1.f]; rfl) (Ev.bindS hx rfl)
    cases hf : fmY l[n] with
    | true =>
      obtain ⟨r, hr, hv⟩ := ih (n + 1) (by omega)
      refine ⟨r, ?_, by rw [hv, Bool.true_and]⟩
      refine Ev.step (fun k => by simp only [impl_Ex_159.l0]; rw [if_pos (by omega), if_pos (by omega), if_pos (by omega), rdI l n (by omega), w_succ (by omega)]) ?_
      exact Ev.bind h1 (Ev.neg (by rw [hf]; decide) hr)
    | false =>
      refine ⟨(n : Int), ?_, by simp⟩
      refine Ev.step (fun k => by simp only [impl_Ex_159.l0]; rw [if_pos (by omega), if_pos (by omega), if_pos (by omega), rdI l n (by omega), w_succ (by omega)]) ?_
      exact Ev.bind h1 (Ev.pos (by rw [hf]; decide) (Ev.now _))
theorem formed_ev : ∀ x : S37, allY x ≤ 1048576 → FmOk x := by
  refine indI (fun x ih g => ?_)
  have hk : ∀ y ∈ x.f3, FmOk y := fun y hy => ih y hy (by have := allY_mem hy; omega)
  have hl : x.f3.length ≤ 1048576 := by have := allY_len (x := x); omega
  have hc : Ev (fun k => impl_Ex_130.f k x.f3) (!fmsY x.f3) := by
    obtain ⟨r, hr, hv⟩ := fm_l0_ev x.f3 hl hk x.f3.length 0 (by omega)
    rw [List.drop_zero] at hv
    refine Ev.step (fun k => by simp only [impl_Ex_130.f]; rfl) ?_
    refine Ev.bindS (Ev.step (fun k => by simp only [impl_Ex_159.f]; rfl) hr) ?_
    rw [hv]
  have bad : ∀ v : Bool, v = false → Ev (fun k => impl_Ex_formed.j0 k true x.f0 x.f1 x.f2 x.f3) v := fun v hv => Ev.last (fun k => by simp only [impl_Ex_formed.j0]; rw [if_pos trivial, hv])
  have bad1 : ∀ v : Bool, v = false → Ev (fun k => impl_Ex_formed.j1 k true x.f0 x.f1 x.f2 x.f3) v := fun v hv => Ev.last (fun k => by simp only [impl_Ex_formed.j1]; rw [if_pos trivial, hv])
  have last : Ev (fun k => impl_Ex_formed.j1 k false x.f0 x.f1 x.f2 x.f3) ((if x.f0 = 7 then decide (1 ≤ x.f2 ∧ x.f2 ≤ 20) else decide (x.f2 = 0)) && fmsY x.f3) := by
    by_cases h7 : x.f0 = 7
    · rw [if_pos h7]
      refine Ev.step (fun k => by simp only [impl_Ex_formed.j1]; rw [if_neg (by decide), if_pos h7, in_is, Option.bind_some]) ?_
      by_cases hc7 : 1 ≤ x.f2 ∧ x.f2 ≤ 20
      · refine Ev.pos (by simp [hc7]) (Ev.bindS hc ?_)
        simp [hc7]
      · refine Ev.neg (by simp; omega) (Ev.val (Ev.now false) ?_)
        simp [hc7]
    · rw [if_neg h7]
      by_cases hc0 : x.f2 = 0
      · refine Ev.step (fun k => by simp only [impl_Ex_formed.j1]; rw [if_neg (by decide), if_neg h7, if_pos hc0]) (Ev.bindS hc ?_)
        simp [hc0]
      · refine Ev.last (fun k => by simp only [impl_Ex_formed.j1]; rw [if_neg (by decide), if_neg h7, if_neg hc0]; simp [hc0])
  unfold FmOk
  rw [fmY_is]
  refine Ev.step (fun k => by simp only [impl_Ex_formed.f, impl_isKind.f]; rw [in_is, Option.bind_some, Option.bind_some]) ?_
  by_cases hkd : 1 ≤ x.f0 ∧ x.f0 ≤ 7
  rotate_left
  · refine Ev.neg (by simp; omega) (bad _ ?_)
    have hn : ¬ (kidsOf x.f0 = (x.f3.length : Int)) := by rw [kidsOf_out hkd]; omega
    simp [okN, hn]
  refine Ev.pos (by simp [hkd]) ?_
  refine Ev.bind (Ev.one (fun _ => kids_is x.f0 hkd.1 hkd.2)) ?_
  by_cases hn : kidsOf x.f0 = (x.f3.length : Int)
  rotate_left
  · rw [show ((x.f3.length : Int) != kidsOf x.f0) = true by simp; omega]
    exact bad _ (by simp [okN, hn])
  rw [show ((x.f3.length : Int) != kidsOf x.f0) = false by simp [hn]]
  by_cases a1 : x.f0 = 1
  · refine Ev.step (fun k => by simp only [impl_Ex_formed.j0, impl_isSym.f]; rw [if_neg (by decide), if_pos a1, in_is, Option.bind_some, Option.bind_some]) ?_
    by_cases hb : 0 ≤ x.f1 ∧ x.f1 ≤ 4
    · refine Ev.pos (by simp [hb]) (Ev.val last ?_)
      simp only [okN, hn, decide_true, Bool.true_and]
      rw [if_pos a1]
      simp [hb]
    · refine Ev.neg (by simp; omega) (bad1 _ ?_)
      simp only [okN, hn, decide_true, Bool.true_and]
      rw [if_pos a1]
      simp [hb]
  · by_cases hb : x.f1 = 0
    · refine Ev.step (fun k => by simp only [impl_Ex_formed.j0]; rw [if_neg (by decide), if_neg a1, show (x.f1 != 0) = false by simp [hb]]) (Ev.val last ?_)
      simp only [okN, hn, decide_true, Bool.true_and]
      rw [if_neg a1]
      simp [hb]
    · refine Ev.step (fun k => by simp only [impl_Ex_formed.j0]; rw [if_neg (by decide), if_neg a1, show (x.f1 != 0) = true by simp [hb]]) (bad1 _ ?_)
      simp only [okN, hn, decide_true, Bool.true_and]
      rw [if_neg a1]
      simp [hb]
def okX (x : S37) : Bool := fmY x && decide (deepY x ≤ 5) && decide (manyY x ≤ 12)
theorem form5 (x : S37) (h : allY x ≤ 1048576) : Ev (fun k => spec_l2Form.f k x.f0 x.f1 x.f2 x.f3 5) (fmY x && decide (deepY x ≤ 5)) := form_ev x h 5 (by omega)
theorem many5 (x : S37) (h : allY x ≤ 1048576) (hd : deepY x ≤ 5) : Ev (fun k => spec_l2Many.f k x.f0 x.f1 x.f2 x.f3 5) (manyY x : Int) := many_ev x h 5 (by omega) (by omega)
theorem spec_ExOk_ev (x : S37) (h : allY x ≤ 1048576) : Ev (fun k => spec_ExOk.f k x.f0 x.f1 x.f2 x.f3) (okX x) := by
  unfold spec_ExOk.f okX
  refine Ev.bind (form5 x h) ?_
  by_cases hf : (fmY x && decide (deepY x ≤ 5)) = true
  · have hd : deepY x ≤ 5 := by simp at hf; exact hf.2
    refine Ev.pos hf (Ev.bindS (many5 x h hd) ?_)
    rw [hf, Bool.true_and]
    have : ((manyY x : Int) ≤ 12) ↔ (manyY x ≤ 12) := by omega
    simp only [this]
  · refine Ev.neg hf (Ev.val (Ev.now _) ?_)
    simp only [Bool.not_eq_true] at hf
    rw [hf]
    rfl
theorem impl_ExOk_ev (x : S37) (h : allY x ≤ 1048576) : Ev (fun k => impl_ExOk.f k x.f0 x.f1 x.f2 x.f3) (okX x) := by
  unfold impl_ExOk.f okX
  refine Ev.bind (size_ev x h) ?_
  by_cases hm : manyY x ≤ 12
  · refine Ev.pos (show ((manyY x : Nat) : Int) ≤ 12 by omega) ?_
    by_cases hd : deepY x ≤ 5
    · refine Ev.pos (show ((deepY x : Nat) : Int) ≤ 5 by omega) (Ev.bindS (formed_ev x h) ?_)
      simp [hm, hd]
    · refine Ev.neg (show ¬ (((deepY x : Nat) : Int) ≤ 5) by omega) (Ev.val (Ev.now _) ?_)
      simp [hd]
  · refine Ev.neg (show ¬ (((manyY x : Nat) : Int) ≤ 12) by omega) (Ev.val (Ev.now _) ?_)
    simp [hm]
theorem name_l0_ev (s : ByteArray) (hl : s.size ≤ 1048576) : ∀ d n : Nat, n + d = s.size → ∃ v, Ev (fun k => spec_l8Word.l0 k s (n : Int)) v ∧ Ev (fun k => impl_isName.l0 k s (s.size : Int) (n : Int)) v := by
  intro d
  induction d with
  | zero =>
    intro n hn
    refine ⟨decide (1 ≤ (s.size : Int) ∧ (s.size : Int) ≤ 6), Ev.last (fun k => ?_), Ev.last (fun k => ?_)⟩
    · simp only [spec_l8Word.l0]
      rw [if_neg (by omega)]
      by_cases h : (s.size : Int) > 0
      · rw [if_pos h]
        congr 1
        rw [decide_eq_decide]
        omega
      rw [if_neg h]
      congr 1
      symm
      rw [decide_eq_false_iff_not]
      omega
    · simp only [impl_isName.l0]
      rw [if_neg (by omega), in_is, Option.bind_some]
  | succ d ih =>
    intro n hn
    obtain ⟨v, h1, h2⟩ := ih (n + 1) (by omega)
    by_cases c1 : bt s (n : Int) < 97
    · exact ⟨false, Ev.last (fun k => by simp only [spec_l8Word.l0]; rw [if_pos (by omega), if_pos (by omega), if_pos c1]), Ev.last (fun k => by simp only [impl_isName.l0]; rw [if_pos (by omega), if_pos (by omega), if_pos (by omega), if_pos c1])⟩
    · by_cases c2 : bt s (n : Int) > 122
      · exact ⟨false, Ev.last (fun k => by simp only [spec_l8Word.l0]; rw [if_pos (by omega), if_pos (by omega), if_neg c1, if_pos c2]), Ev.last (fun k => by simp only [impl_isName.l0]; rw [if_pos (by omega), if_pos (by omega), if_pos (by omega), if_neg c1, if_pos c2])⟩
      · exact ⟨v, Ev.step (fun k => by simp only [spec_l8Word.l0]; rw [if_pos (by omega), if_pos (by omega), if_neg c1, if_neg c2, w_succ (by omega)]) h1, Ev.step (fun k => by simp only [impl_isName.l0]; rw [if_pos (by omega), if_pos (by omega), if_pos (by omega), if_neg c1, if_neg c2, w_succ (by omega)]) h2⟩
theorem name_ev (s : ByteArray) (hl : s.size ≤ 1048576) : ∃ v, Ev (fun k => spec_l8Word.f k s) v ∧ Ev (fun k => impl_isName.f k s) v := by
  unfold spec_l8Word.f impl_isName.f
  exact name_l0_ev s hl s.size 0 (by omega)
def tailR (low high key add raise : Int) : Bool := decide (0 ≤ low ∧ low ≤ high ∧ high ≤ 100 ∧ 0 ≤ key ∧ key ≤ 3 ∧ -9 ≤ add ∧ add ≤ 9 ∧ -1 ≤ raise ∧ raise ≤ 4)
theorem tail_spec (low high key add raise : Int) : (if low ≥ 0 then (if low ≤ high then (if high ≤ 100 then (if key ≥ 0 then (if key < 4 then (if add ≥ (-9) then (if add ≤ 9 then (if raise ≥ (-1) then (some (decide (raise < 5))) else (some false)) else (some false)) else (some false)) else (some false)) else (some false)) else (some false)) else (some false)) else (some false)) = some (tailR low high key add raise) := by
  unfold tailR
  repeat' split
  all_goals first
    | (congr 1; rw [decide_eq_decide]; omega)
    | (congr 1; symm; rw [decide_eq_false_iff_not]; omega)
theorem tail_impl (low high key add raise : Int) : ((impl_in.f low 0 high).bind fun t106 => (if t106 = true then (if high ≤ 100 then ((impl_in.f key 0 3).bind fun t107 => (if t107 = true then ((impl_in.f add (-9) 9).bind fun t108 => (if t108 = true then ((impl_in.f raise (-1) 4).bind fun t109 => (some t109)) else (some false))) else (some false))) else (some false)) else (some false))) = some (tailR low high key add raise) := by
  unfold tailR
  simp only [in_is, Option.bind_some, decide_eq_true_eq]
  repeat' split
  all_goals first
    | (congr 1; rw [decide_eq_decide]; omega)
    | (congr 1; symm; rw [decide_eq_false_iff_not]; omega)
theorem ruleOk_ev (r : S39) (hs : r.f0.size ≤ 1048576) (hx : allY r.f3 ≤ 1048576) : ∃ v, Ev (fun k => spec_RuleOk.f k r.f0 r.f1 r.f2 r.f3.f0 r.f3.f1 r.f3.f2 r.f3.f3 r.f4 r.f5 r.f6 r.f7 r.f8) v ∧ Ev (fun k => impl_RuleOk.f k r.f0 r.f1 r.f2 r.f3.f0 r.f3.f1 r.f3.f2 r.f3.f3 r.f4 r.f5 r.f6 r.f7 r.f8) v := by
  obtain ⟨v, h1, h2⟩ := name_ev r.f0 hs
  have e1 := spec_ExOk_ev r.f3 hx
  have e2 := impl_ExOk_ev r.f3 hx
  unfold spec_RuleOk.f impl_RuleOk.f spec_l4Mode.f impl_isMode.f
  simp only [tail_spec, tail_impl]
  cases v with
  | false => exact ⟨false, Ev.bind h1 (Ev.neg (by decide) (Ev.now _)), Ev.bind h2 (Ev.neg (by decide) (Ev.now _))⟩
  | true =>
    by_cases c1 : 0 ≤ r.f1 ∧ r.f1 ≤ 9
    rotate_left
    · refine ⟨false, ?_, ?_⟩
      · refine Ev.bind h1 (Ev.pos rfl ?_)
        by_cases c3 : r.f1 ≥ 0
        · exact Ev.pos c3 (Ev.neg (by omega) (Ev.now _))
        · exact Ev.neg c3 (Ev.now _)
      · refine Ev.bind h2 (Ev.pos rfl ?_)
        simp only [in_is, Option.bind_some]
        exact Ev.neg (by simp; omega) (Ev.now _)
    by_cases c2 : 0 ≤ r.f2 ∧ r.f2 ≤ 4
    rotate_left
    · refine ⟨false, ?_, ?_⟩
      · refine Ev.bind h1 (Ev.pos rfl (Ev.pos (by omega) (Ev.pos (by omega) ?_)))
        by_cases c3 : r.f2 ≥ 0
        · rw [if_pos c3]
          refine Ev.bind (Ev.now _) ?_
          exact Ev.neg (by simp; omega) (Ev.now _)
        · rw [if_neg c3]
          refine Ev.bind (Ev.now _) ?_
          exact Ev.neg (by decide) (Ev.now _)
      · refine Ev.bind h2 (Ev.pos rfl ?_)
        simp only [in_is, Option.bind_some]
        exact Ev.pos (by simp; omega) (Ev.neg (by simp; omega) (Ev.now _))
    cases ho : okX r.f3 with
    | true =>
      rw [ho] at e1 e2
      refine ⟨tailR r.f4 r.f5 r.f6 r.f7 r.f8, ?_, ?_⟩
      · refine Ev.bind h1 (Ev.pos rfl (Ev.pos (by omega) (Ev.pos (by omega) ?_)))
        rw [if_pos (by omega)]
        refine Ev.bind (Ev.now _) ?_
        exact Ev.pos (by simp; omega) (Ev.bind e1 (Ev.pos rfl (Ev.now _)))
      · refine Ev.bind h2 (Ev.pos rfl ?_)
        simp only [in_is, Option.bind_some]
        exact Ev.pos (by simp; omega) (Ev.pos (by simp; omega) (Ev.bind e2 (Ev.pos rfl (Ev.now _))))
    | false =>
      rw [ho] at e1 e2
      refine ⟨false, ?_, ?_⟩
      · refine Ev.bind h1 (Ev.pos rfl (Ev.pos (by omega) (Ev.pos (by omega) ?_)))
        rw [if_pos (by omega)]
        refine Ev.bind (Ev.now _) ?_
        exact Ev.pos (by simp; omega) (Ev.bind e1 (Ev.neg (by decide) (Ev.now _)))
      · refine Ev.bind h2 (Ev.pos rfl ?_)
        simp only [in_is, Option.bind_some]
        exact Ev.pos (by simp; omega) (Ev.pos (by simp; omega) (Ev.bind e2 (Ev.neg (by decide) (Ev.now _))))
theorem ev_all {α β : Type} {g : Nat → α → Option β} {f : α → β} : ∀ l : List α, (∀ x ∈ l, Ev (fun k => g k x) (f x)) → ∃ K, ∀ k, K ≤ k → ∀ x ∈ l, g k x = some (f x)
  | [], _ => ⟨0, fun _ _ x hx => by simp at hx⟩
  | y :: ys, h => by
    obtain ⟨K, hK⟩ := h y (by simp)
    obtain ⟨L, hL⟩ := ev_all ys (fun x hx => h x (by simp [hx]))
    refine ⟨max K L, fun k hk x hx => ?_⟩
    rcases List.mem_cons.1 hx with rfl | hx
    · exact hK k (by omega)
    · exact hL k (by omega) x hx
def SpecOne (x : S39) (v : Bool) : Prop := Ev (fun k => spec_RuleOk.f k x.f0 x.f1 x.f2 x.f3.f0 x.f3.f1 x.f3.f2 x.f3.f3 x.f4 x.f5 x.f6 x.f7 x.f8) v
theorem impl_RulesOk_ev (l : List S39) (ok : S39 → Bool) (h : ∀ x ∈ l, Ev (fun k => impl_RulesOk.one k x) (ok x)) : Ev (fun k => impl_RulesOk.f k l) (rulesGo ok l l.length 0) := by
  obtain ⟨K, hK⟩ := ev_all l h
  refine ⟨K, fun k hk => ?_⟩
  have e := hK k hk
  show impl_RulesOk.f k l = _
  unfold impl_RulesOk.f
  rw [if_pos (List.all_eq_true.2 (fun x hx => by rw [e x hx]; rfl))]
  congr 1
  exact rulesGo_congr l (fun x hx => by rw [e x hx]; rfl) _ _ (by omega)
theorem rulesGo_long (ok : S39 → Bool) (l : List S39) (h : ¬ (l.length : Int) ≤ 4) : ∀ d n : Nat, rulesGo ok l d n = false
  | 0, _ => decide_eq_false h
  | d + 1, n => by rw [rulesGo, rulesGo_long ok l h d (n + 1), Bool.and_false, Bool.and_false]
theorem spec_RulesOk_l1_ev (ok : S39 → Bool) (l : List S39) (hl : l.length ≤ 1048576) (n : Nat) (hn : n < l.length) (v : Bool) (next : Ev (fun k => spec_RulesOk.l0 k l ((n + 1 : Nat) : Int)) v) :
    ∀ e j : Nat, j + e = n → Ev (fun k => spec_RulesOk.l1 k l (n : Int) (j : Int)) (!named ((l.take n).drop j) (l.getD n z39) && v) := by
  intro e
  induction e with
  | zero =>
    intro j hj
    rw [List.drop_of_length_le (by rw [List.length_take]; omega)]
    exact Ev.step (fun k => by simp only [spec_RulesOk.l1]; rw [if_neg (by omega), w_succ (by omega)]) (Ev.val next (by simp [named]))
  | succ e ih =>
    intro j hj
    have hd : (l.take n).drop j = l.getD j z39 :: (l.take n).drop (j + 1) := by
      rw [List.drop_eq_getElem_cons (by rw [List.length_take]; omega), List.getElem_take, getD_in (by omega)]
    have r1 : rd_T39 l (j : Int) = l.getD j z39 := rfl
    have r2 : rd_T39 l (n : Int) = l.getD n z39 := rfl
    rw [hd, show named (l.getD j z39 :: (l.take n).drop (j + 1)) (l.getD n z39) = (((l.getD j z39).f0.toList == (l.getD n z39).f0.toList) || named ((l.take n).drop (j + 1)) (l.getD n z39)) from List.any_cons]
    refine Ev.step (fun k => by simp only [spec_RulesOk.l1]; rw [if_pos (by omega), if_pos (by omega), if_pos (by omega), if_pos (by omega), if_pos (by omega), r1, r2, w_succ (by omega)]) ?_
    by_cases h : (l.getD j z39).f0.toList = (l.getD n z39).f0.toList
    · exact Ev.pos h (Ev.val (Ev.now _) (by rw [beq_iff_eq.2 h, Bool.true_or]; rfl))
    · refine Ev.neg h (Ev.val (ih (j + 1) (by omega)) ?_)
      rw [show ((l.getD j z39).f0.toList == (l.getD n z39).f0.toList) = false from beq_eq_false_iff_ne.2 h, Bool.false_or]
theorem spec_RulesOk_l0_ev (ok : S39 → Bool) (l : List S39) (hl : (l.length : Int) ≤ 4) (h : ∀ x ∈ l, SpecOne x (ok x)) : ∀ d n : Nat, n + d = l.length → Ev (fun k => spec_RulesOk.l0 k l (n : Int)) (rulesGo ok l d n) := by
  intro d
  induction d with
  | zero =>
    intro n hn
    rw [rulesGo, decide_eq_true hl]
    exact Ev.last (fun k => by simp only [spec_RulesOk.l0]; rw [if_neg (by omega)])
  | succ d ih =>
    intro n hn
    have r2 : rd_T39 l (n : Int) = l.getD n z39 := rfl
    have hx : SpecOne (l.getD n z39) (ok (l.getD n z39)) := h _ (by rw [getD_in (by omega)]; exact List.getElem_mem _)
    refine Ev.step (fun k => by simp only [spec_RulesOk.l0]; rw [if_pos (by omega), if_pos (by omega), r2]) ?_
    refine Ev.bind hx ?_
    have inner := spec_RulesOk_l1_ev ok l (by omega) n (by omega) _ (ih (n + 1) (by omega)) n 0 (by omega)
    rw [List.drop_zero] at inner
    rw [rulesGo]
    cases ok (l.getD n z39) with
    | true => exact Ev.pos rfl (Ev.val inner (by rw [Bool.true_and]))
    | false => exact Ev.neg (by decide) (Ev.now _)
theorem spec_RulesOk_ev (ok : S39 → Bool) (l : List S39) (h : ∀ x ∈ l, SpecOne x (ok x)) : Ev (fun k => spec_RulesOk.f k l) (rulesGo ok l l.length 0) := by
  unfold spec_RulesOk.f
  by_cases c : (l.length : Int) > 4
  · rw [rulesGo_long ok l (by omega)]
    exact Ev.pos c (Ev.now _)
  · exact Ev.neg c (spec_RulesOk_l0_ev ok l (by omega) h l.length 0 (by omega))
end Go.Proofs.Ytdljhokealbnnaa.M
