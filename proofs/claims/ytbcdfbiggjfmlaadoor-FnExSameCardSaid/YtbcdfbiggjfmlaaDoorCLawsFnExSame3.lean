/- What the claim's law leans on: the program's functions, what they compute, and the law over plain values; no condition is asked. (Part 3 of 4.) -/
import Derived.Test.YtbcdfbiggjfmlaaDoorCLawsFnExSame2
namespace Go.Proofs.YtbcdfbiggjfmlaaDoor.M
open Go.RowKit Go.Proofs.YtbcdfbiggjfmlaaDoorW.PrintWords Go.Proofs.YtbcdfbiggjfmlaaDoorW.PrintLast Go.Proofs.YtbcdfbiggjfmlaaDoorW.PrintMore
attribute [local go_sem] max2_int min2_int max_two min_two max_three min_three max_four min_four
set_option linter.unusedVariables false
set_option linter.unusedSimpArgs false

def spec_l14Open.f (l0 : List Int) : Option (List Int × Int) := if (l0.length : Int) > 2000 then (if 2000 ≤ (l0.length : Int) then (some (l0.take 2000, 0)) else (none)) else (some (l0, 0))
set_option maxHeartbeats 8000000 in
set_option maxRecDepth 100000 in
theorem spec_l14Open.calls (A0 : Option Addr) (c0 : Nat) (l0 : List Int) (r1 : List Int) (r2 : Int) (w0 w : World) (hB : Below w0.heap.size w0 w) (hr0 : Kd.C (Kd.int .u8) w0 A0 l0.length l0) (hc0 : l0.length ≤ c0) (h : spec_l14Open.f l0 = some (r1, r2)) :
  Calls Tryd.prog 33 #[.slice A0 l0.length c0] w fun e w' => ∃ g_ : Nat, e = .returned (.pointer (some ⟨g_, 0, none⟩)) ∧ IsS79 w0 w' g_ r1 r2 ∧ Below w0.heap.size w0 w' ∧ Below w.heap.size w w' := by
 have hu79 := Tryd.underlying79
 have HR0 := m0_ hr0
 have HC0 := m0_ hc0
 clear hr0 hc0
 have HBW := m0_ (Below.refl w.heap.size w)
 have HW0 := m0_ hB.size
 have HB := m0_ hB
 clear hB
 have H : (if (l0.length : Int) > 2000 then (if 2000 ≤ (l0.length : Int) then (some (l0.take 2000, 0)) else (none)) else (some (l0, 0))) = some (r1, r2) := h
 clear h
 by_cases c2 : (l0.length : Int) > 2000
 rotate_left
 ·rw [if_neg c2] at H
  have c2b0 : decide (2000 < (l0.length : Int)) = false := decide_eq_false c2
  have c2b1 : decide (2000 < l0.length) = false := decide_eq_false (by omega)
  clear c2
  simp only [Option.some.injEq, Prod.mk.injEq] at H
  obtain ⟨rfl, rfl⟩ := H
  go_enter Tryd.func33, Tryd.ntmps33
  go_wp2_with (first | ((with_reducible refine gate_dst (N := 10) rfl ?_);refine box_event ?hg (N := 10) ?hd (cs := #[.slice A0 l0.length c0, .int .i64 0]) (t := 79) ?hr ?_;(case hd => rfl);(case hg => rfl);(case hr => first | (go_simp;done) | (go_simp;rfl));intro gb103 hg w6 hbox hb;replace HB := m0_ (below_step (by exact HB.out) hb);have BK103 := m0_ (hbox);have GW103 := m0_ ((by rw [hg];exact (below_size (by repeat (first | (with_reducible first | exact HBW.out | apply below_alloc | apply pw_below_drewN | apply below_drew1) | exact HBW.out))) : w.heap.size ≤ gb103));have GE103 := m0_ ((Nat.le_trans HW0.out (by rw [hg];exact (below_size (by repeat (first | (with_reducible first | exact HBW.out | apply below_alloc | apply pw_below_drewN | apply below_drew1) | exact HBW.out))) : w.heap.size ≤ gb103) : w0.heap.size ≤ gb103));replace HBW := m0_ (below_step HBW.out hb);clear hb hbox hg))
  go_ret
  exact ⟨_, rfl, (show IsS79 w0 _ gb103 l0 0 from ⟨_, _, by (with_reducible repeat (first | refine blk_drewN ?_ _ | refine blk_drew ?_ | refine blk_alloc ?_ _));exact BK103.out, GE103.out, HR0.out⟩), by repeat (first | (with_reducible first | exact HB.out | apply below_alloc | apply pw_below_drewN | apply below_drew1 | refine below_set ?_ GE103.out) | exact HB.out), by repeat (first | (with_reducible first | exact HBW.out | apply below_alloc | apply pw_below_drewN | apply below_drew1 | refine below_set ?_ GW103.out) | exact HBW.out)⟩
 rw [if_pos c2] at H
 have c2b0 : decide (2000 < (l0.length : Int)) = true := decide_eq_true c2
 have c2b1 : decide (2000 < l0.length) = true := decide_eq_true (by omega)
 clear c2
 by_cases c3 : 2000 ≤ (l0.length : Int)
 rotate_left
 ·rw [if_neg c3] at H
  exact absurd H (by simp)
 rw [if_pos c3] at H
 have c3b0 := eq_true c3
 have c3b1 : decide (2000 ≤ (l0.length : Int)) = true := decide_eq_true c3
 clear c3
 simp only [Option.some.injEq, Prod.mk.injEq] at H
 obtain ⟨rfl, rfl⟩ := H
 obtain ⟨i04, hi04, _, hsz4, _⟩ := info_parts info5
 obtain ⟨hcut4, hA4, hC4⟩ := print_take_of (P := Tryd.prog) (Value.int .u8) 0 33 5 .i64 Tryd.underlying33 hi04 hsz4 A0 c0 l0 2000 (by omega) (of_decide_eq_true (by first | (with_reducible assumption) | assumption)) HC0.out
 have HR101 := m0_ (Kd.C_of_reads (h1 := fun _ => rfl) (hA4 _ (Kd.reads_of_C HR0.out)))
 have HC101 := m0_ hC4
 clear hA4 hC4 hi04 hsz4
 go_enter Tryd.func33, Tryd.ntmps33
 go_wp2_with (first | ((with_reducible refine gate_dst (N := 10) rfl ?_);refine box_event ?hg (N := 10) ?hd (cs := #[.slice A0 (l0.take 2000).length c0, .int .i64 0]) (t := 79) ?hr ?_;(case hd => rfl);(case hg => rfl);(case hr => first | (go_simp;done) | (go_simp;rfl));intro gb102 hg w5 hbox hb;replace HB := m0_ (below_step (by exact HB.out) hb);have BK102 := m0_ (hbox);have GW102 := m0_ ((by rw [hg];exact (below_size (by repeat (first | (with_reducible first | exact HBW.out | apply below_alloc | apply pw_below_drewN | apply below_drew1) | exact HBW.out))) : w.heap.size ≤ gb102));have GE102 := m0_ ((Nat.le_trans HW0.out (by rw [hg];exact (below_size (by repeat (first | (with_reducible first | exact HBW.out | apply below_alloc | apply pw_below_drewN | apply below_drew1) | exact HBW.out))) : w.heap.size ≤ gb102) : w0.heap.size ≤ gb102));replace HBW := m0_ (below_step HBW.out hb);clear hb hbox hg))
 go_ret
 exact ⟨_, rfl, (show IsS79 w0 _ gb102 (l0.take 2000) 0 from ⟨_, _, by (with_reducible repeat (first | refine blk_drewN ?_ _ | refine blk_drew ?_ | refine blk_alloc ?_ _));exact BK102.out, GE102.out, HR101.out⟩), by repeat (first | (with_reducible first | exact HB.out | apply below_alloc | apply pw_below_drewN | apply below_drew1 | refine below_set ?_ GE102.out) | exact HB.out), by repeat (first | (with_reducible first | exact HBW.out | apply below_alloc | apply pw_below_drewN | apply below_drew1 | refine below_set ?_ GW102.out) | exact HBW.out)⟩

end Go.Proofs.YtbcdfbiggjfmlaaDoor.M
namespace Go.Proofs.YtbcdfbiggjfmlaaDoor.M
set_option linter.unusedVariables false
set_option linter.unusedSimpArgs false
open Go Go.RowKit Go.Proofs.YtbcdfbiggjfmlaaDoorW.PrintWords Go.Proofs.YtbcdfbiggjfmlaaDoorW.PrintLast Go.Proofs.YtbcdfbiggjfmlaaDoorW.PrintMore

section
variable {P : Program} {ops : Array Oper} {o : Oper} {a : Act} {Q : Exit → Act → World → Prop} {Kc : Act → World → Prop} {W : World}
theorem store_step (hw : Region.wanted o (yielded ops a.tmps) = true) (hN : o.dst = none) {t e : TypeId} {p : Tmp} {v : Operand} (ho : o.op = .store t (.tmp p) v) {w0 : World} {base g off : Nat} {cur cur' : Array Value} {u : Value} {seg : List Value}
    (hp : a.eval (.tmp p) = .pointer (some ⟨g, off, none⟩)) (hx : a.eval v = u) (hg : W.heap[g]? = some (.cells cur e (0, 0))) (hu : u.cells.toList = seg) (ht : (P.info? t).map (·.size) = some seg.length) (h1 : ∀ q ∈ seg, q.oneCell' = true) (hfit : off + seg.length ≤ cur.size) (hcur : (cur.toList.take off ++ seg ++ cur.toList.drop (off + seg.length)).toArray = cur')
    (hB : Below base w0 W) (hbg : base ≤ g) (h : ∀ w', w'.heap[g]? = some (.cells cur' e (0, 0)) → KeepBut W w' g none → Below base w0 w' → Kc a w') :
    if Region.wanted o (yielded ops a.tmps) = true then Oper.wp P o a W Kc Q else Kc (a.put o.dst undef) W := by
  obtain ⟨i, hi, hsz⟩ := Option.map_eq_some_iff.1 ht
  have hc : u.cells.size = i.size := by rw [hsz, ← hu, Array.length_toList]
  have hst := run_storeCells_at P g off e seg 0 cur W hg (by simpa using hfit) h1
  have hrun : (execOp a.eval o).run P W = .ok .skip (W.setRow g (cur.toList.take off ++ seg ++ cur.toList.drop (off + seg.length)).toArray) := by
    rw [Nat.add_zero] at hst
    simp [execOp, ho, hp, hx, Instr.storeAt, Instr.sureAddr, storeVar, sizeOf, typeInfo, hi, hc, hu, hst, Result.andThen]
  have e0 : a.put o.dst undef = a.put none undef := by rw [hN]
  rw [e0]
  refine skip_ hw hN hrun (h _ ?_ (keep_setRow _) (below_setRow hB hbg _))
  rw [setRow_heap W g cur _ e _ hg, hcur]
end
end Go.Proofs.YtbcdfbiggjfmlaaDoor.M
namespace Go.Proofs.YtbcdfbiggjfmlaaDoor.M
open Go.RowKit Go.Proofs.YtbcdfbiggjfmlaaDoorW.PrintWords Go.Proofs.YtbcdfbiggjfmlaaDoorW.PrintLast Go.Proofs.YtbcdfbiggjfmlaaDoorW.PrintMore
attribute [local go_sem] max2_int min2_int max_two min_two max_three min_three max_four min_four
set_option linter.unusedVariables false
set_option linter.unusedSimpArgs false

def spec_DrawExSame.f (k : Nat) (l0 : List Int) : Option (Int × Int × Int × List S29 × Int × Int × Int × List S29) := (spec_l14Open.f l0).bind fun t => (spec_l2Bent.f k t.1 t.2).bind fun a => (spec_l2Bent.f k t.1 t.2).bind fun b => some (a.1, a.2.1, a.2.2.1, a.2.2.2.1, b.1, if 0 < l0.length ∧ Int.tmod (rd l0 0) 2 = 1 then wrap64 (b.2.1 + 1) else b.2.1, b.2.2.1, b.2.2.2.1)
set_option maxHeartbeats 4000000 in
set_option maxRecDepth 100000 in
theorem spec_DrawExSame.calls (k : Nat) (A0 : Option Addr) (c0 : Nat) (l0 : List Int) (r1 r2 r3 : Int) (r4 : List S29) (r5 r6 r7 : Int) (r8 : List S29) (w : World) (hr0 : Kd.C (Kd.int .u8) w A0 l0.length l0) (hc0 : l0.length ≤ c0) (h : spec_DrawExSame.f k l0 = some (r1, r2, r3, r4, r5, r6, r7, r8)) :
  Calls Tryd.prog 13 #[.slice A0 l0.length c0] w fun e w' => ∃ v0_ v1_ : Value, e = .returned (.tuple #[.agg #[.int .i64 r1, .int .i64 r2, .int .i64 r3, v0_], .agg #[.int .i64 r5, .int .i64 r6, .int .i64 r7, v1_]]) ∧ Kd.N k29 29 w' w.heap.size (fun k_ => w.heap.size ≤ k_ ∧ some k_ ≠ (v1_ : Value).ownBlock) v0_ r4 ∧ Kd.N k29 29 w' w.heap.size (fun k_ => w.heap.size ≤ k_ ∧ some k_ ≠ (v0_ : Value).ownBlock) v1_ r8 ∧ Below w.heap.size w w' := by
 unfold spec_DrawExSame.f at h
 obtain ⟨⟨c, p⟩, ho, h_⟩ := Option.bind_eq_some_iff.1 h
 clear h
 obtain ⟨⟨a0, a1, a2, la, pa⟩, ha, h2_⟩ := Option.bind_eq_some_iff.1 h_
 clear h_
 obtain ⟨⟨b0, b1, b2, lb, pb⟩, hb_, h3_⟩ := Option.bind_eq_some_iff.1 h2_
 clear h2_
 have HO := m0_ ho
 have HA := m0_ ha
 have HB_ := m0_ hb_
 have HH := m0_ h3_
 have HR0 := m0_ hr0
 have HC0 := m0_ hc0
 have HB := m0_ (Below.refl w.heap.size w)
 have hu1_ := Tryd.underlying29
 clear ho ha hb_ h3_ hr0 hc0
 go_enter Tryd.func13, Tryd.ntmps13
 go_upto_region 3 with (first | ((with_reducible refine gate_dst (N := 2) rfl ?_);refine box_event ?hg (N := 2) ?hd (cs := #[.int .i64 0, .int .i64 0, .int .i64 0, .slice none 0 0]) (t := 29) ?hr ?_;(case hd => rfl);(case hg => rfl);(case hr => first | (go_simp;done) | (go_simp;rfl));intro gb2 hg wb2 hbox hb;have G2 := m0_ (show w.heap.size ≤ gb2 from by rw [hg];exact Nat.le_refl _);have L2 := m0_ (blk_lt hbox);have Zwb2 := m0_ (show w.heap.size ≤ wb2.heap.size from hb.size);replace HB := m0_ (below_step HB.out hb);have BK2 := m0_ hbox;clear hg hbox hb) | ((with_reducible refine gate_dst (N := 3) rfl ?_);refine box_event ?hg (N := 3) ?hd (cs := #[.int .i64 0, .int .i64 0, .int .i64 0, .slice none 0 0]) (t := 29) ?hr ?_;(case hd => rfl);(case hg => rfl);(case hr => first | (go_simp;done) | (go_simp;rfl));intro gb3 hg wb3 hbox hb;have G3 := m0_ (show wb2.heap.size ≤ gb3 from by rw [hg];exact Nat.le_refl _);have L3 := m0_ (blk_lt hbox);have Zwb3 := m0_ (show wb2.heap.size ≤ wb3.heap.size from hb.size);replace BK2 := m0_ (blk_below BK2.out hb);replace HB := m0_ (below_step HB.out hb);have BK3 := m0_ hbox;clear hg hbox hb) | ((with_reducible refine gate_dst (N := 7) rfl ?_);refine goesL_ (some 7) rfl rfl Tryd.func33 (by kernel_rfl) rfl #[.slice A0 l0.length c0] rfl (by (try simp only [List.map_toArray, List.map_cons, List.map_nil]);first | done | rfl) ?_;refine (spec_l14Open.calls A0 c0 l0 c p wb3 wb3 (Below.refl _ _) (Kd.C_below HR0.out HB.out) HC0.out HO.out).mono ?_;rintro e woA ⟨g1_, rfl, hi, _, hb⟩;refine ⟨_, rfl, ?_⟩;have HI := m0_ hi;have HBr := m0_ hb;clear hi hb) | ((with_reducible refine gate_dst (N := 8) rfl ?_);refine goesL_ (some 8) rfl rfl Tryd.func32 (by kernel_rfl) rfl #[.pointer (some ⟨g1_, 0, none⟩)] rfl (by (try simp only [List.map_toArray, List.map_cons, List.map_nil]);first | done | rfl) ?_;refine (spec_l2Bent.calls k g1_ c p a0 a1 a2 la pa wb3 woA HI.out HBr.out HA.out).mono ?_;rintro e wdA ⟨v_, rfl, hn, _, hb, _⟩;refine ⟨_, rfl, ?_⟩;have hs_ := Kd.N_mono (ok' := fun k_ => wb3.heap.size ≤ k_ ∧ k_ < wdA.heap.size) (Kd.N_lower (Kd.N_bound hn) (Nat.le_trans HB.out.size HBr.out.size)) (fun k_ hk => ⟨Nat.le_trans HBr.out.size hk.1, hk.2⟩);obtain ⟨AA, cA, rfl⟩ := Kd.N_slice hs_;have NA_ := m0_ hs_;clear hs_ hn HI HBr;have ZwdA := m0_ (show wb3.heap.size ≤ wdA.heap.size from hb.size);replace BK2 := m0_ (blk_below BK2.out hb);replace BK3 := m0_ (blk_below BK3.out hb);replace HB := m0_ (below_step HB.out hb);clear hb;have FA := NA_;clear NA_) | ((with_reducible refine gate_dst (N := 4) rfl ?_);refine box_event ?hg (N := 4) ?hd (cs := #[.int .i64 0, .int .i64 0, .int .i64 0, .slice none 0 0]) (t := 29) ?hr ?_;(case hd => rfl);(case hg => rfl);(case hr => first | (go_simp;done) | (go_simp;rfl));intro gb4 hg wb4 hbox hb;have G4 := m0_ (show wdA.heap.size ≤ gb4 from by rw [hg];exact Nat.le_refl _);have L4 := m0_ (blk_lt hbox);have Zwb4 := m0_ (show wdA.heap.size ≤ wb4.heap.size from hb.size);replace FA := m0_ (Kd.N_below FA.out hb);replace BK2 := m0_ (blk_below BK2.out hb);replace BK3 := m0_ (blk_below BK3.out hb);replace HB := m0_ (below_step HB.out hb);have BK4 := m0_ hbox;clear hg hbox hb) | ((with_reducible refine gate_store (t := 29) (p := 4) (v := .tmp 8) rfl ?_);refine store_blk (w0 := w) (base := w.heap.size) (e := 29) (g := gb4) (off := 0) (cur := #[.int .i64 0, .int .i64 0, .int .i64 0, .slice none 0 0]) (cur' := #[.int .i64 a0, .int .i64 a1, .int .i64 a2, .slice AA la.length cA]) (u := .agg #[.int .i64 a0, .int .i64 a1, .int .i64 a2, .slice AA la.length cA]) (seg := [.int .i64 a0, .int .i64 a1, .int .i64 a2, .slice AA la.length cA]) rfl rfl rfl rfl rfl BK4.out rfl ?ht ?h1 (by simp) rfl HB.out (by have z_wb2 := Zwb2.out;have z_wb3 := Zwb3.out;have z_wdA := ZwdA.out;have z_wb4 := Zwb4.out;have g_2 := G2.out;have l_2 := L2.out;have g_3 := G3.out;have l_3 := L3.out;have g_4 := G4.out;have l_4 := L4.out;have b_ := below_size HB.out;omega) ?_;(case ht => kernel_rfl);(case h1 => intro q hq;simp only [List.mem_cons, List.not_mem_nil, or_false] at hq;rcases hq with rfl | rfl | rfl | rfl <;> rfl);intro ws4 hs_ hk_ hB_;replace BK4 := m0_ (hs_);replace HB := m0_ (hB_);replace FA := m0_ (Kd.N_keep FA.out hk_ (fun k_ h1 => by have z_wb2 := Zwb2.out;have z_wb3 := Zwb3.out;have z_wdA := ZwdA.out;have z_wb4 := Zwb4.out;have g_2 := G2.out;have l_2 := L2.out;have g_3 := G3.out;have l_3 := L3.out;have g_4 := G4.out;have l_4 := L4.out;omega));replace BK2 := m0_ (blk_keep BK2.out hk_ (by have z_wb2 := Zwb2.out;have z_wb3 := Zwb3.out;have z_wdA := ZwdA.out;have z_wb4 := Zwb4.out;have g_2 := G2.out;have l_2 := L2.out;have g_3 := G3.out;have l_3 := L3.out;have g_4 := G4.out;have l_4 := L4.out;omega));replace BK3 := m0_ (blk_keep BK3.out hk_ (by have z_wb2 := Zwb2.out;have z_wb3 := Zwb3.out;have z_wdA := ZwdA.out;have z_wb4 := Zwb4.out;have g_2 := G2.out;have l_2 := L2.out;have g_3 := G3.out;have l_3 := L3.out;have g_4 := G4.out;have l_4 := L4.out;omega));have Zws4 := m0_ (hk_.1);clear hs_ hk_ hB_) | ((with_reducible refine gate_dst (N := 10) rfl ?_);refine goesL_ (some 10) rfl rfl Tryd.func33 (by kernel_rfl) rfl #[.slice A0 l0.length c0] rfl (by (try simp only [List.map_toArray, List.map_cons, List.map_nil]);first | done | rfl) ?_;refine (spec_l14Open.calls A0 c0 l0 c p ws4 ws4 (Below.refl _ _) (Kd.C_below HR0.out HB.out) HC0.out HO.out).mono ?_;rintro e woB ⟨g2_, rfl, hi, _, hb⟩;refine ⟨_, rfl, ?_⟩;have HI := m0_ hi;have HBr := m0_ hb;clear hi hb) | ((with_reducible refine gate_dst (N := 11) rfl ?_);refine goesL_ (some 11) rfl rfl Tryd.func32 (by kernel_rfl) rfl #[.pointer (some ⟨g2_, 0, none⟩)] rfl (by (try simp only [List.map_toArray, List.map_cons, List.map_nil]);first | done | rfl) ?_;refine (spec_l2Bent.calls k g2_ c p b0 b1 b2 lb pb ws4 woB HI.out HBr.out HB_.out).mono ?_;rintro e wdB ⟨v_, rfl, hn, _, hb, _⟩;refine ⟨_, rfl, ?_⟩;have hs_ := Kd.N_mono (ok' := fun k_ => ws4.heap.size ≤ k_ ∧ k_ < wdB.heap.size) (Kd.N_lower (Kd.N_bound hn) (Nat.le_trans HB.out.size HBr.out.size)) (fun k_ hk => ⟨Nat.le_trans HBr.out.size hk.1, hk.2⟩);obtain ⟨AB, cB, rfl⟩ := Kd.N_slice hs_;have NB_ := m0_ hs_;clear hs_ hn HI HBr;have ZwdB := m0_ (show ws4.heap.size ≤ wdB.heap.size from hb.size);replace FA := m0_ (Kd.N_below FA.out hb);replace BK2 := m0_ (blk_below BK2.out hb);replace BK3 := m0_ (blk_below BK3.out hb);replace BK4 := m0_ (blk_below BK4.out hb);replace HB := m0_ (below_step HB.out hb);clear hb;have FB := NB_;clear NB_) | ((with_reducible refine gate_dst (N := 5) rfl ?_);refine box_event ?hg (N := 5) ?hd (cs := #[.int .i64 0, .int .i64 0, .int .i64 0, .slice none 0 0]) (t := 29) ?hr ?_;(case hd => rfl);(case hg => rfl);(case hr => first | (go_simp;done) | (go_simp;rfl));intro gb5 hg wb5 hbox hb;have G5 := m0_ (show wdB.heap.size ≤ gb5 from by rw [hg];exact Nat.le_refl _);have L5 := m0_ (blk_lt hbox);have Zwb5 := m0_ (show wdB.heap.size ≤ wb5.heap.size from hb.size);replace FA := m0_ (Kd.N_below FA.out hb);replace FB := m0_ (Kd.N_below FB.out hb);replace BK2 := m0_ (blk_below BK2.out hb);replace BK3 := m0_ (blk_below BK3.out hb);replace BK4 := m0_ (blk_below BK4.out hb);replace HB := m0_ (below_step HB.out hb);have BK5 := m0_ hbox;clear hg hbox hb) | ((with_reducible refine gate_store (t := 29) (p := 5) (v := .tmp 11) rfl ?_);refine store_blk (w0 := w) (base := w.heap.size) (e := 29) (g := gb5) (off := 0) (cur := #[.int .i64 0, .int .i64 0, .int .i64 0, .slice none 0 0]) (cur' := #[.int .i64 b0, .int .i64 b1, .int .i64 b2, .slice AB lb.length cB]) (u := .agg #[.int .i64 b0, .int .i64 b1, .int .i64 b2, .slice AB lb.length cB]) (seg := [.int .i64 b0, .int .i64 b1, .int .i64 b2, .slice AB lb.length cB]) rfl rfl rfl rfl rfl BK5.out rfl ?ht ?h1 (by simp) rfl HB.out (by have z_wb2 := Zwb2.out;have z_wb3 := Zwb3.out;have z_wdA := ZwdA.out;have z_wb4 := Zwb4.out;have z_ws4 := Zws4.out;have z_wdB := ZwdB.out;have z_wb5 := Zwb5.out;have g_2 := G2.out;have l_2 := L2.out;have g_3 := G3.out;have l_3 := L3.out;have g_4 := G4.out;have l_4 := L4.out;have g_5 := G5.out;have l_5 := L5.out;have b_ := below_size HB.out;omega) ?_;(case ht => kernel_rfl);(case h1 => intro q hq;simp only [List.mem_cons, List.not_mem_nil, or_false] at hq;rcases hq with rfl | rfl | rfl | rfl <;> rfl);intro ws5 hs_ hk_ hB_;replace BK5 := m0_ (hs_);replace HB := m0_ (hB_);replace FA := m0_ (Kd.N_keep FA.out hk_ (fun k_ h1 => by have z_wb2 := Zwb2.out;have z_wb3 := Zwb3.out;have z_wdA := ZwdA.out;have z_wb4 := Zwb4.out;have z_ws4 := Zws4.out;have z_wdB := ZwdB.out;have z_wb5 := Zwb5.out;have g_2 := G2.out;have l_2 := L2.out;have g_3 := G3.out;have l_3 := L3.out;have g_4 := G4.out;have l_4 := L4.out;have g_5 := G5.out;have l_5 := L5.out;omega));replace FB := m0_ (Kd.N_keep FB.out hk_ (fun k_ h1 => by have z_wb2 := Zwb2.out;have z_wb3 := Zwb3.out;have z_wdA := ZwdA.out;have z_wb4 := Zwb4.out;have z_ws4 := Zws4.out;have z_wdB := ZwdB.out;have z_wb5 := Zwb5.out;have g_2 := G2.out;have l_2 := L2.out;have g_3 := G3.out;have l_3 := L3.out;have g_4 := G4.out;have l_4 := L4.out;have g_5 := G5.out;have l_5 := L5.out;omega));replace BK2 := m0_ (blk_keep BK2.out hk_ (by have z_wb2 := Zwb2.out;have z_wb3 := Zwb3.out;have z_wdA := ZwdA.out;have z_wb4 := Zwb4.out;have z_ws4 := Zws4.out;have z_wdB := ZwdB.out;have z_wb5 := Zwb5.out;have g_2 := G2.out;have l_2 := L2.out;have g_3 := G3.out;have l_3 := L3.out;have g_4 := G4.out;have l_4 := L4.out;have g_5 := G5.out;have l_5 := L5.out;omega));replace BK3 := m0_ (blk_keep BK3.out hk_ (by have z_wb2 := Zwb2.out;have z_wb3 := Zwb3.out;have z_wdA := ZwdA.out;have z_wb4 := Zwb4.out;have z_ws4 := Zws4.out;have z_wdB := ZwdB.out;have z_wb5 := Zwb5.out;have g_2 := G2.out;have l_2 := L2.out;have g_3 := G3.out;have l_3 := L3.out;have g_4 := G4.out;have l_4 := L4.out;have g_5 := G5.out;have l_5 := L5.out;omega));replace BK4 := m0_ (blk_keep BK4.out hk_ (by have z_wb2 := Zwb2.out;have z_wb3 := Zwb3.out;have z_wdA := ZwdA.out;have z_wb4 := Zwb4.out;have z_ws4 := Zws4.out;have z_wdB := ZwdB.out;have z_wb5 := Zwb5.out;have g_2 := G2.out;have l_2 := L2.out;have g_3 := G3.out;have l_3 := L3.out;have g_4 := G4.out;have l_4 := L4.out;have g_5 := G5.out;have l_5 := L5.out;omega));have Zws5 := m0_ (hk_.1);clear hs_ hk_ hB_))
 by_cases h0 : 0 < l0.length
 rotate_left
 ·have HH2 := m0_ (show some (a0, a1, a2, la, b0, b1, b2, lb) = some (r1, r2, r3, r4, r5, r6, r7, r8) from by have := HH.out;rw [if_neg (fun h => h0 h.1)] at this;exact this)
  have h0' : ¬ ((0 : Int) < (l0.length : Int)) := by omega
  have h0d : decide ((l0.length : Int) > 0) = false := decide_eq_false h0'
  go_upto_region 5 with (fail)
  have h1 := HH2.out
  simp only [Option.some.injEq, Prod.mk.injEq] at h1
  obtain ⟨rfl, rfl, rfl, rfl, rfl, rfl, rfl, rfl⟩ := h1
  replace FA := m0_ (Kd.N_drew FA.out);replace FB := m0_ (Kd.N_drew FB.out);replace BK2 := m0_ (blk_drew BK2.out);replace BK3 := m0_ (blk_drew BK3.out);replace BK4 := m0_ (blk_drew BK4.out);replace BK5 := m0_ (blk_drew BK5.out);replace HB := m0_ (below_drew1 HB.out)
  refine start_ (n := 4) (S := fun w' => w'.cell? ⟨gb4, 0, none⟩ = some (.int .i64 a0) ∧ w'.cell? ⟨gb4, 1, none⟩ = some (.int .i64 a1) ∧ w'.cell? ⟨gb4, 2, none⟩ = some (.int .i64 a2) ∧ w'.cell? ⟨gb4, 3, none⟩ = some (.slice AA la.length cA) ∧ w'.cell? ⟨gb5, 0, none⟩ = some (.int .i64 b0) ∧ w'.cell? ⟨gb5, 1, none⟩ = some (.int .i64 b1) ∧ w'.cell? ⟨gb5, 2, none⟩ = some (.int .i64 b2) ∧ w'.cell? ⟨gb5, 3, none⟩ = some (.slice AB lb.length cB)) (ds := []) #[false, false, false, false] (by kernel_rfl) rfl rfl ⟨(blk_cell BK4.out 0).trans rfl, (blk_cell BK4.out 1).trans rfl, (blk_cell BK4.out 2).trans rfl, (blk_cell BK4.out 3).trans rfl, (blk_cell BK5.out 0).trans rfl, (blk_cell BK5.out 1).trans rfl, (blk_cell BK5.out 2).trans rfl, (blk_cell BK5.out 3).trans rfl⟩ (fun hHeld => ?_)
  refine take_ (i := 0) (N := some 26) (v := ?_) (a' := ?_) #[true, false, false, false] rfl rfl (by kernel_rfl) (fun _ _ _ h => h) (Or.inl ⟨by rfl, ?_⟩) hHeld ?_ ?_
  rotate_left
  ·rintro w' ⟨s0, s1, s2, s3, s4, s5, s6, s7⟩
   go_simp
   with_reducible rfl
  rotate_left
  ·simp only [Act.put, List.setIfInBounds_toArray, List.set_cons_zero, List.set_cons_succ, i64_w, i32_w]
   rfl
  refine take_ (i := 1) (N := some 27) (v := ?_) (a' := ?_) #[true, true, false, false] rfl rfl (by kernel_rfl) (fun _ _ _ h => h) (Or.inl ⟨by rfl, ?_⟩) hHeld ?_ ?_
  rotate_left
  ·rintro w' ⟨s0, s1, s2, s3, s4, s5, s6, s7⟩
   go_simp
   with_reducible rfl
  rotate_left
  ·simp only [Act.put, List.setIfInBounds_toArray, List.set_cons_zero, List.set_cons_succ, i64_w, i32_w]
   rfl
  refine one_ (i := 2) (N := none) #[true, true, true, false] rfl rfl (by kernel_rfl) (by decide) (fun K hK => ?_)
  refine store_step (t := 29) (p := 2) (v := .tmp 26) (w0 := w) (base := w.heap.size) (e := 29) (g := gb2) (off := 0) (cur := #[.int .i64 0, .int .i64 0, .int .i64 0, .slice none 0 0]) (cur' := #[.int .i64 a0, .int .i64 a1, .int .i64 a2, .slice AA la.length cA]) (u := .agg #[.int .i64 a0, .int .i64 a1, .int .i64 a2, .slice AA la.length cA]) (seg := [.int .i64 a0, .int .i64 a1, .int .i64 a2, .slice AA la.length cA]) (by rfl) rfl rfl rfl rfl BK2.out rfl ?ht ?h1 (by simp) rfl HB.out (by have z_wb2 := Zwb2.out;have z_wb3 := Zwb3.out;have z_wdA := ZwdA.out;have z_wb4 := Zwb4.out;have z_ws4 := Zws4.out;have z_wdB := ZwdB.out;have z_wb5 := Zwb5.out;have z_ws5 := Zws5.out;have g_2 := G2.out;have l_2 := L2.out;have g_3 := G3.out;have l_3 := L3.out;have g_4 := G4.out;have l_4 := L4.out;have g_5 := G5.out;have l_5 := L5.out;have b_ := below_size HB.out;omega) ?_
  (case ht => kernel_rfl)
  (case h1 => intro q hq;simp only [List.mem_cons, List.not_mem_nil, or_false] at hq;rcases hq with rfl | rfl | rfl | rfl <;> rfl)
  intro wt2 hs_ hk_ hB_
  have Zwt2 := m0_ hk_.1
  replace BK2 := m0_ (hs_);replace HB := m0_ (hB_);replace FA := m0_ (Kd.N_keep FA.out hk_ (fun k_ h1 => by have z_wb2 := Zwb2.out;have z_wb3 := Zwb3.out;have z_wdA := ZwdA.out;have z_wb4 := Zwb4.out;have z_ws4 := Zws4.out;have z_wdB := ZwdB.out;have z_wb5 := Zwb5.out;have z_ws5 := Zws5.out;have g_2 := G2.out;have l_2 := L2.out;have g_3 := G3.out;have l_3 := L3.out;have g_4 := G4.out;have l_4 := L4.out;have g_5 := G5.out;have l_5 := L5.out;omega));replace FB := m0_ (Kd.N_keep FB.out hk_ (fun k_ h1 => by have z_wb2 := Zwb2.out;have z_wb3 := Zwb3.out;have z_wdA := ZwdA.out;have z_wb4 := Zwb4.out;have z_ws4 := Zws4.out;have z_wdB := ZwdB.out;have z_wb5 := Zwb5.out;have z_ws5 := Zws5.out;have g_2 := G2.out;have l_2 := L2.out;have g_3 := G3.out;have l_3 := L3.out;have g_4 := G4.out;have l_4 := L4.out;have g_5 := G5.out;have l_5 := L5.out;omega));replace BK3 := m0_ (blk_keep BK3.out hk_ (by have z_wb2 := Zwb2.out;have z_wb3 := Zwb3.out;have z_wdA := ZwdA.out;have z_wb4 := Zwb4.out;have z_ws4 := Zws4.out;have z_wdB := ZwdB.out;have z_wb5 := Zwb5.out;have z_ws5 := Zws5.out;have g_2 := G2.out;have l_2 := L2.out;have g_3 := G3.out;have l_3 := L3.out;have g_4 := G4.out;have l_4 := L4.out;have g_5 := G5.out;have l_5 := L5.out;omega));replace BK4 := m0_ (blk_keep BK4.out hk_ (by have z_wb2 := Zwb2.out;have z_wb3 := Zwb3.out;have z_wdA := ZwdA.out;have z_wb4 := Zwb4.out;have z_ws4 := Zws4.out;have z_wdB := ZwdB.out;have z_wb5 := Zwb5.out;have z_ws5 := Zws5.out;have g_2 := G2.out;have l_2 := L2.out;have g_3 := G3.out;have l_3 := L3.out;have g_4 := G4.out;have l_4 := L4.out;have g_5 := G5.out;have l_5 := L5.out;omega));replace BK5 := m0_ (blk_keep BK5.out hk_ (by have z_wb2 := Zwb2.out;have z_wb3 := Zwb3.out;have z_wdA := ZwdA.out;have z_wb4 := Zwb4.out;have z_ws4 := Zws4.out;have z_wdB := ZwdB.out;have z_wb5 := Zwb5.out;have z_ws5 := Zws5.out;have g_2 := G2.out;have l_2 := L2.out;have g_3 := G3.out;have l_3 := L3.out;have g_4 := G4.out;have l_4 := L4.out;have g_5 := G5.out;have l_5 := L5.out;omega))
  clear hs_ hk_ hB_
  refine hK.out _ _ ⟨(blk_cell BK4.out 0).trans rfl, (blk_cell BK4.out 1).trans rfl, (blk_cell BK4.out 2).trans rfl, (blk_cell BK4.out 3).trans rfl, (blk_cell BK5.out 0).trans rfl, (blk_cell BK5.out 1).trans rfl, (blk_cell BK5.out 2).trans rfl, (blk_cell BK5.out 3).trans rfl⟩ (fun hHeld => ?_)
  clear hK K
  refine one_ (i := 3) (N := none) #[true, true, true, true] rfl rfl (by kernel_rfl) (by decide) (fun K hK => ?_)
  refine store_step (t := 29) (p := 3) (v := .tmp 27) (w0 := w) (base := w.heap.size) (e := 29) (g := gb3) (off := 0) (cur := #[.int .i64 0, .int .i64 0, .int .i64 0, .slice none 0 0]) (cur' := #[.int .i64 b0, .int .i64 b1, .int .i64 b2, .slice AB lb.length cB]) (u := .agg #[.int .i64 b0, .int .i64 b1, .int .i64 b2, .slice AB lb.length cB]) (seg := [.int .i64 b0, .int .i64 b1, .int .i64 b2, .slice AB lb.length cB]) (by rfl) rfl rfl rfl rfl BK3.out rfl ?ht ?h1 (by simp) rfl HB.out (by have z_wb2 := Zwb2.out;have z_wb3 := Zwb3.out;have z_wdA := ZwdA.out;have z_wb4 := Zwb4.out;have z_ws4 := Zws4.out;have z_wdB := ZwdB.out;have z_wb5 := Zwb5.out;have z_ws5 := Zws5.out;have z_wt2 := Zwt2.out;have g_2 := G2.out;have l_2 := L2.out;have g_3 := G3.out;have l_3 := L3.out;have g_4 := G4.out;have l_4 := L4.out;have g_5 := G5.out;have l_5 := L5.out;have b_ := below_size HB.out;omega) ?_
  (case ht => kernel_rfl)
  (case h1 => intro q hq;simp only [List.mem_cons, List.not_mem_nil, or_false] at hq;rcases hq with rfl | rfl | rfl | rfl <;> rfl)
  intro wt3 hs_ hk_ hB_
  have Zwt3 := m0_ hk_.1
  replace BK3 := m0_ (hs_);replace HB := m0_ (hB_);replace FA := m0_ (Kd.N_keep FA.out hk_ (fun k_ h1 => by have z_wb2 := Zwb2.out;have z_wb3 := Zwb3.out;have z_wdA := ZwdA.out;have z_wb4 := Zwb4.out;have z_ws4 := Zws4.out;have z_wdB := ZwdB.out;have z_wb5 := Zwb5.out;have z_ws5 := Zws5.out;have z_wt2 := Zwt2.out;have g_2 := G2.out;have l_2 := L2.out;have g_3 := G3.out;have l_3 := L3.out;have g_4 := G4.out;have l_4 := L4.out;have g_5 := G5.out;have l_5 := L5.out;omega));replace FB := m0_ (Kd.N_keep FB.out hk_ (fun k_ h1 => by have z_wb2 := Zwb2.out;have z_wb3 := Zwb3.out;have z_wdA := ZwdA.out;have z_wb4 := Zwb4.out;have z_ws4 := Zws4.out;have z_wdB := ZwdB.out;have z_wb5 := Zwb5.out;have z_ws5 := Zws5.out;have z_wt2 := Zwt2.out;have g_2 := G2.out;have l_2 := L2.out;have g_3 := G3.out;have l_3 := L3.out;have g_4 := G4.out;have l_4 := L4.out;have g_5 := G5.out;have l_5 := L5.out;omega));replace BK2 := m0_ (blk_keep BK2.out hk_ (by have z_wb2 := Zwb2.out;have z_wb3 := Zwb3.out;have z_wdA := ZwdA.out;have z_wb4 := Zwb4.out;have z_ws4 := Zws4.out;have z_wdB := ZwdB.out;have z_wb5 := Zwb5.out;have z_ws5 := Zws5.out;have z_wt2 := Zwt2.out;have g_2 := G2.out;have l_2 := L2.out;have g_3 := G3.out;have l_3 := L3.out;have g_4 := G4.out;have l_4 := L4.out;have g_5 := G5.out;have l_5 := L5.out;omega));replace BK4 := m0_ (blk_keep BK4.out hk_ (by have z_wb2 := Zwb2.out;have z_wb3 := Zwb3.out;have z_wdA := ZwdA.out;have z_wb4 := Zwb4.out;have z_ws4 := Zws4.out;have z_wdB := ZwdB.out;have z_wb5 := Zwb5.out;have z_ws5 := Zws5.out;have z_wt2 := Zwt2.out;have g_2 := G2.out;have l_2 := L2.out;have g_3 := G3.out;have l_3 := L3.out;have g_4 := G4.out;have l_4 := L4.out;have g_5 := G5.out;have l_5 := L5.out;omega));replace BK5 := m0_ (blk_keep BK5.out hk_ (by have z_wb2 := Zwb2.out;have z_wb3 := Zwb3.out;have z_wdA := ZwdA.out;have z_wb4 := Zwb4.out;have z_ws4 := Zws4.out;have z_wdB := ZwdB.out;have z_wb5 := Zwb5.out;have z_ws5 := Zws5.out;have z_wt2 := Zwt2.out;have g_2 := G2.out;have l_2 := L2.out;have g_3 := G3.out;have l_3 := L3.out;have g_4 := G4.out;have l_4 := L4.out;have g_5 := G5.out;have l_5 := L5.out;omega))
  clear hs_ hk_ hB_
  refine hK.out _ _ ⟨(blk_cell BK4.out 0).trans rfl, (blk_cell BK4.out 1).trans rfl, (blk_cell BK4.out 2).trans rfl, (blk_cell BK4.out 3).trans rfl, (blk_cell BK5.out 0).trans rfl, (blk_cell BK5.out 1).trans rfl, (blk_cell BK5.out 2).trans rfl, (blk_cell BK5.out 3).trans rfl⟩ (fun hHeld => ?_)
  clear hK K
  refine done_ (by kernel_rfl) ?_
  go_wp2
  refine bodyPost_ret (results_cc rfl _ _ gb2 gb3 29 29 #[.int .i64 a0, .int .i64 a1, .int .i64 a2, .slice AA la.length cA] #[.int .i64 b0, .int .i64 b1, .int .i64 b2, .slice AB lb.length cB] (0, 0) (0, 0) _ _ rfl BK2.out Tryd.underlying29 rfl (by kernel_rfl) rfl BK3.out Tryd.underlying29 rfl (by kernel_rfl)) rfl ?_
  exact ⟨_, _, rfl, Kd.N_mono FA.out (fun k_ h_ => ⟨show w.heap.size ≤ k_ from by have z_wb2 := Zwb2.out;have z_wb3 := Zwb3.out;have z_wdA := ZwdA.out;have z_wb4 := Zwb4.out;have z_ws4 := Zws4.out;have z_wdB := ZwdB.out;have z_wb5 := Zwb5.out;have z_ws5 := Zws5.out;have z_wt2 := Zwt2.out;have z_wt3 := Zwt3.out;have g_2 := G2.out;have l_2 := L2.out;have g_3 := G3.out;have l_3 := L3.out;have g_4 := G4.out;have l_4 := L4.out;have g_5 := G5.out;have l_5 := L5.out;have b_ := h_.1;have c_ := below_size HB.out;omega, fun e_ => by have z_wb2 := Zwb2.out;have z_wb3 := Zwb3.out;have z_wdA := ZwdA.out;have z_wb4 := Zwb4.out;have z_ws4 := Zws4.out;have z_wdB := ZwdB.out;have z_wb5 := Zwb5.out;have z_ws5 := Zws5.out;have z_wt2 := Zwt2.out;have z_wt3 := Zwt3.out;have g_2 := G2.out;have l_2 := L2.out;have g_3 := G3.out;have l_3 := L3.out;have g_4 := G4.out;have l_4 := L4.out;have g_5 := G5.out;have l_5 := L5.out;have b_ : _ ∧ _ := h_;have c_ : _ ∧ _ := FB.out.1 _ e_.symm;omega⟩), Kd.N_mono FB.out (fun k_ h_ => ⟨show w.heap.size ≤ k_ from by have z_wb2 := Zwb2.out;have z_wb3 := Zwb3.out;have z_wdA := ZwdA.out;have z_wb4 := Zwb4.out;have z_ws4 := Zws4.out;have z_wdB := ZwdB.out;have z_wb5 := Zwb5.out;have z_ws5 := Zws5.out;have z_wt2 := Zwt2.out;have z_wt3 := Zwt3.out;have g_2 := G2.out;have l_2 := L2.out;have g_3 := G3.out;have l_3 := L3.out;have g_4 := G4.out;have l_4 := L4.out;have g_5 := G5.out;have l_5 := L5.out;have b_ := h_.1;have c_ := below_size HB.out;omega, fun e_ => by have z_wb2 := Zwb2.out;have z_wb3 := Zwb3.out;have z_wdA := ZwdA.out;have z_wb4 := Zwb4.out;have z_ws4 := Zws4.out;have z_wdB := ZwdB.out;have z_wb5 := Zwb5.out;have z_ws5 := Zws5.out;have z_wt2 := Zwt2.out;have z_wt3 := Zwt3.out;have g_2 := G2.out;have l_2 := L2.out;have g_3 := G3.out;have l_3 := L3.out;have g_4 := G4.out;have l_4 := L4.out;have g_5 := G5.out;have l_5 := L5.out;have b_ : _ ∧ _ := h_;have c_ : _ ∧ _ := FA.out.1 _ e_.symm;omega⟩), HB.out⟩
 obtain ⟨ad, rfl, hcell⟩ := Kd.at_int (Kd.C_below HR0.out HB.out) 0 (by omega) (by omega)
 have h0' : ((0 : Int) < (l0.length : Int)) := by omega
 have h0d : decide ((l0.length : Int) > 0) = true := decide_eq_true h0'
 have hcap : 0 < l0.length := h0
 have hcell0 : ws5.cell? ad = some (.int .u8 (rd l0 0)) := by simpa [Addr.add] using hcell
 clear hcell
 by_cases hm : Int.tmod (rd l0 0) 2 = 1
 rotate_left
 ·have HH2 := m0_ (show some (a0, a1, a2, la, b0, b1, b2, lb) = some (r1, r2, r3, r4, r5, r6, r7, r8) from by have := HH.out;rw [if_neg (fun h => hm h.2)] at this;exact this)
  have hm' : (Int.tmod (rd l0 0) 2 == 1) = false := beq_eq_false_iff_ne.mpr hm
  go_upto_region 5 with (fail)
  clear hcell0
  have h1 := HH2.out
  simp only [Option.some.injEq, Prod.mk.injEq] at h1
  obtain ⟨rfl, rfl, rfl, rfl, rfl, rfl, rfl, rfl⟩ := h1
  replace FA := m0_ (Kd.N_drew FA.out);replace FB := m0_ (Kd.N_drew FB.out);replace BK2 := m0_ (blk_drew BK2.out);replace BK3 := m0_ (blk_drew BK3.out);replace BK4 := m0_ (blk_drew BK4.out);replace BK5 := m0_ (blk_drew BK5.out);replace HB := m0_ (below_drew1 HB.out)
  refine start_ (n := 4) (S := fun w' => w'.cell? ⟨gb4, 0, none⟩ = some (.int .i64 a0) ∧ w'.cell? ⟨gb4, 1, none⟩ = some (.int .i64 a1) ∧ w'.cell? ⟨gb4, 2, none⟩ = some (.int .i64 a2) ∧ w'.cell? ⟨gb4, 3, none⟩ = some (.slice AA la.length cA) ∧ w'.cell? ⟨gb5, 0, none⟩ = some (.int .i64 b0) ∧ w'.cell? ⟨gb5, 1, none⟩ = some (.int .i64 b1) ∧ w'.cell? ⟨gb5, 2, none⟩ = some (.int .i64 b2) ∧ w'.cell? ⟨gb5, 3, none⟩ = some (.slice AB lb.length cB)) (ds := []) #[false, false, false, false] (by kernel_rfl) rfl rfl ⟨(blk_cell BK4.out 0).trans rfl, (blk_cell BK4.out 1).trans rfl, (blk_cell BK4.out 2).trans rfl, (blk_cell BK4.out 3).trans rfl, (blk_cell BK5.out 0).trans rfl, (blk_cell BK5.out 1).trans rfl, (blk_cell BK5.out 2).trans rfl, (blk_cell BK5.out 3).trans rfl⟩ (fun hHeld => ?_)
  refine take_ (i := 0) (N := some 26) (v := ?_) (a' := ?_) #[true, false, false, false] rfl rfl (by kernel_rfl) (fun _ _ _ h => h) (Or.inl ⟨by rfl, ?_⟩) hHeld ?_ ?_
  rotate_left
  ·rintro w' ⟨s0, s1, s2, s3, s4, s5, s6, s7⟩
   go_simp
   with_reducible rfl
  rotate_left
  ·simp only [Act.put, List.setIfInBounds_toArray, List.set_cons_zero, List.set_cons_succ, i64_w, i32_w]
   rfl
  refine take_ (i := 1) (N := some 27) (v := ?_) (a' := ?_) #[true, true, false, false] rfl rfl (by kernel_rfl) (fun _ _ _ h => h) (Or.inl ⟨by rfl, ?_⟩) hHeld ?_ ?_
  rotate_left
  ·rintro w' ⟨s0, s1, s2, s3, s4, s5, s6, s7⟩
   go_simp
   with_reducible rfl
  rotate_left
  ·simp only [Act.put, List.setIfInBounds_toArray, List.set_cons_zero, List.set_cons_succ, i64_w, i32_w]
   rfl
  refine one_ (i := 2) (N := none) #[true, true, true, false] rfl rfl (by kernel_rfl) (by decide) (fun K hK => ?_)
  refine store_step (t := 29) (p := 2) (v := .tmp 26) (w0 := w) (base := w.heap.size) (e := 29) (g := gb2) (off := 0) (cur := #[.int .i64 0, .int .i64 0, .int .i64 0, .slice none 0 0]) (cur' := #[.int .i64 a0, .int .i64 a1, .int .i64 a2, .slice AA la.length cA]) (u := .agg #[.int .i64 a0, .int .i64 a1, .int .i64 a2, .slice AA la.length cA]) (seg := [.int .i64 a0, .int .i64 a1, .int .i64 a2, .slice AA la.length cA]) (by rfl) rfl rfl rfl rfl BK2.out rfl ?ht ?h1 (by simp) rfl HB.out (by have z_wb2 := Zwb2.out;have z_wb3 := Zwb3.out;have z_wdA := ZwdA.out;have z_wb4 := Zwb4.out;have z_ws4 := Zws4.out;have z_wdB := ZwdB.out;have z_wb5 := Zwb5.out;have z_ws5 := Zws5.out;have g_2 := G2.out;have l_2 := L2.out;have g_3 := G3.out;have l_3 := L3.out;have g_4 := G4.out;have l_4 := L4.out;have g_5 := G5.out;have l_5 := L5.out;have b_ := below_size HB.out;omega) ?_
  (case ht => kernel_rfl)
  (case h1 => intro q hq;simp only [List.mem_cons, List.not_mem_nil, or_false] at hq;rcases hq with rfl | rfl | rfl | rfl <;> rfl)
  intro wt2 hs_ hk_ hB_
  have Zwt2 := m0_ hk_.1
  replace BK2 := m0_ (hs_);replace HB := m0_ (hB_);replace FA := m0_ (Kd.N_keep FA.out hk_ (fun k_ h1 => by have z_wb2 := Zwb2.out;have z_wb3 := Zwb3.out;have z_wdA := ZwdA.out;have z_wb4 := Zwb4.out;have z_ws4 := Zws4.out;have z_wdB := ZwdB.out;have z_wb5 := Zwb5.out;have z_ws5 := Zws5.out;have g_2 := G2.out;have l_2 := L2.out;have g_3 := G3.out;have l_3 := L3.out;have g_4 := G4.out;have l_4 := L4.out;have g_5 := G5.out;have l_5 := L5.out;omega));replace FB := m0_ (Kd.N_keep FB.out hk_ (fun k_ h1 => by have z_wb2 := Zwb2.out;have z_wb3 := Zwb3.out;have z_wdA := ZwdA.out;have z_wb4 := Zwb4.out;have z_ws4 := Zws4.out;have z_wdB := ZwdB.out;have z_wb5 := Zwb5.out;have z_ws5 := Zws5.out;have g_2 := G2.out;have l_2 := L2.out;have g_3 := G3.out;have l_3 := L3.out;have g_4 := G4.out;have l_4 := L4.out;have g_5 := G5.out;have l_5 := L5.out;omega));replace BK3 := m0_ (blk_keep BK3.out hk_ (by have z_wb2 := Zwb2.out;have z_wb3 := Zwb3.out;have z_wdA := ZwdA.out;have z_wb4 := Zwb4.out;have z_ws4 := Zws4.out;have z_wdB := ZwdB.out;have z_wb5 := Zwb5.out;have z_ws5 := Zws5.out;have g_2 := G2.out;have l_2 := L2.out;have g_3 := G3.out;have l_3 := L3.out;have g_4 := G4.out;have l_4 := L4.out;have g_5 := G5.out;have l_5 := L5.out;omega));replace BK4 := m0_ (blk_keep BK4.out hk_ (by have z_wb2 := Zwb2.out;have z_wb3 := Zwb3.out;have z_wdA := ZwdA.out;have z_wb4 := Zwb4.out;have z_ws4 := Zws4.out;have z_wdB := ZwdB.out;have z_wb5 := Zwb5.out;have z_ws5 := Zws5.out;have g_2 := G2.out;have l_2 := L2.out;have g_3 := G3.out;have l_3 := L3.out;have g_4 := G4.out;have l_4 := L4.out;have g_5 := G5.out;have l_5 := L5.out;omega));replace BK5 := m0_ (blk_keep BK5.out hk_ (by have z_wb2 := Zwb2.out;have z_wb3 := Zwb3.out;have z_wdA := ZwdA.out;have z_wb4 := Zwb4.out;have z_ws4 := Zws4.out;have z_wdB := ZwdB.out;have z_wb5 := Zwb5.out;have z_ws5 := Zws5.out;have g_2 := G2.out;have l_2 := L2.out;have g_3 := G3.out;have l_3 := L3.out;have g_4 := G4.out;have l_4 := L4.out;have g_5 := G5.out;have l_5 := L5.out;omega))
  clear hs_ hk_ hB_
  refine hK.out _ _ ⟨(blk_cell BK4.out 0).trans rfl, (blk_cell BK4.out 1).trans rfl, (blk_cell BK4.out 2).trans rfl, (blk_cell BK4.out 3).trans rfl, (blk_cell BK5.out 0).trans rfl, (blk_cell BK5.out 1).trans rfl, (blk_cell BK5.out 2).trans rfl, (blk_cell BK5.out 3).trans rfl⟩ (fun hHeld => ?_)
  clear hK K
  refine one_ (i := 3) (N := none) #[true, true, true, true] rfl rfl (by kernel_rfl) (by decide) (fun K hK => ?_)
  refine store_step (t := 29) (p := 3) (v := .tmp 27) (w0 := w) (base := w.heap.size) (e := 29) (g := gb3) (off := 0) (cur := #[.int .i64 0, .int .i64 0, .int .i64 0, .slice none 0 0]) (cur' := #[.int .i64 b0, .int .i64 b1, .int .i64 b2, .slice AB lb.length cB]) (u := .agg #[.int .i64 b0, .int .i64 b1, .int .i64 b2, .slice AB lb.length cB]) (seg := [.int .i64 b0, .int .i64 b1, .int .i64 b2, .slice AB lb.length cB]) (by rfl) rfl rfl rfl rfl BK3.out rfl ?ht ?h1 (by simp) rfl HB.out (by have z_wb2 := Zwb2.out;have z_wb3 := Zwb3.out;have z_wdA := ZwdA.out;have z_wb4 := Zwb4.out;have z_ws4 := Zws4.out;have z_wdB := ZwdB.out;have z_wb5 := Zwb5.out;have z_ws5 := Zws5.out;have z_wt2 := Zwt2.out;have g_2 := G2.out;have l_2 := L2.out;have g_3 := G3.out;have l_3 := L3.out;have g_4 := G4.out;have l_4 := L4.out;have g_5 := G5.out;have l_5 := L5.out;have b_ := below_size HB.out;omega) ?_
  (case ht => kernel_rfl)
  (case h1 => intro q hq;simp only [List.mem_cons, List.not_mem_nil, or_false] at hq;rcases hq with rfl | rfl | rfl | rfl <;> rfl)
  intro wt3 hs_ hk_ hB_
  have Zwt3 := m0_ hk_.1
  replace BK3 := m0_ (hs_);replace HB := m0_ (hB_);replace FA := m0_ (Kd.N_keep FA.out hk_ (fun k_ h1 => by have z_wb2 := Zwb2.out;have z_wb3 := Zwb3.out;have z_wdA := ZwdA.out;have z_wb4 := Zwb4.out;have z_ws4 := Zws4.out;have z_wdB := ZwdB.out;have z_wb5 := Zwb5.out;have z_ws5 := Zws5.out;have z_wt2 := Zwt2.out;have g_2 := G2.out;have l_2 := L2.out;have g_3 := G3.out;have l_3 := L3.out;have g_4 := G4.out;have l_4 := L4.out;have g_5 := G5.out;have l_5 := L5.out;omega));replace FB := m0_ (Kd.N_keep FB.out hk_ (fun k_ h1 => by have z_wb2 := Zwb2.out;have z_wb3 := Zwb3.out;have z_wdA := ZwdA.out;have z_wb4 := Zwb4.out;have z_ws4 := Zws4.out;have z_wdB := ZwdB.out;have z_wb5 := Zwb5.out;have z_ws5 := Zws5.out;have z_wt2 := Zwt2.out;have g_2 := G2.out;have l_2 := L2.out;have g_3 := G3.out;have l_3 := L3.out;have g_4 := G4.out;have l_4 := L4.out;have g_5 := G5.out;have l_5 := L5.out;omega));replace BK2 := m0_ (blk_keep BK2.out hk_ (by have z_wb2 := Zwb2.out;have z_wb3 := Zwb3.out;have z_wdA := ZwdA.out;have z_wb4 := Zwb4.out;have z_ws4 := Zws4.out;have z_wdB := ZwdB.out;have z_wb5 := Zwb5.out;have z_ws5 := Zws5.out;have z_wt2 := Zwt2.out;have g_2 := G2.out;have l_2 := L2.out;have g_3 := G3.out;have l_3 := L3.out;have g_4 := G4.out;have l_4 := L4.out;have g_5 := G5.out;have l_5 := L5.out;omega));replace BK4 := m0_ (blk_keep BK4.out hk_ (by have z_wb2 := Zwb2.out;have z_wb3 := Zwb3.out;have z_wdA := ZwdA.out;have z_wb4 := Zwb4.out;have z_ws4 := Zws4.out;have z_wdB := ZwdB.out;have z_wb5 := Zwb5.out;have z_ws5 := Zws5.out;have z_wt2 := Zwt2.out;have g_2 := G2.out;have l_2 := L2.out;have g_3 := G3.out;have l_3 := L3.out;have g_4 := G4.out;have l_4 := L4.out;have g_5 := G5.out;have l_5 := L5.out;omega));replace BK5 := m0_ (blk_keep BK5.out hk_ (by have z_wb2 := Zwb2.out;have z_wb3 := Zwb3.out;have z_wdA := ZwdA.out;have z_wb4 := Zwb4.out;have z_ws4 := Zws4.out;have z_wdB := ZwdB.out;have z_wb5 := Zwb5.out;have z_ws5 := Zws5.out;have z_wt2 := Zwt2.out;have g_2 := G2.out;have l_2 := L2.out;have g_3 := G3.out;have l_3 := L3.out;have g_4 := G4.out;have l_4 := L4.out;have g_5 := G5.out;have l_5 := L5.out;omega))
  clear hs_ hk_ hB_
  refine hK.out _ _ ⟨(blk_cell BK4.out 0).trans rfl, (blk_cell BK4.out 1).trans rfl, (blk_cell BK4.out 2).trans rfl, (blk_cell BK4.out 3).trans rfl, (blk_cell BK5.out 0).trans rfl, (blk_cell BK5.out 1).trans rfl, (blk_cell BK5.out 2).trans rfl, (blk_cell BK5.out 3).trans rfl⟩ (fun hHeld => ?_)
  clear hK K
  refine done_ (by kernel_rfl) ?_
  go_wp2
  refine bodyPost_ret (results_cc rfl _ _ gb2 gb3 29 29 #[.int .i64 a0, .int .i64 a1, .int .i64 a2, .slice AA la.length cA] #[.int .i64 b0, .int .i64 b1, .int .i64 b2, .slice AB lb.length cB] (0, 0) (0, 0) _ _ rfl BK2.out Tryd.underlying29 rfl (by kernel_rfl) rfl BK3.out Tryd.underlying29 rfl (by kernel_rfl)) rfl ?_
  exact ⟨_, _, rfl, Kd.N_mono FA.out (fun k_ h_ => ⟨show w.heap.size ≤ k_ from by have z_wb2 := Zwb2.out;have z_wb3 := Zwb3.out;have z_wdA := ZwdA.out;have z_wb4 := Zwb4.out;have z_ws4 := Zws4.out;have z_wdB := ZwdB.out;have z_wb5 := Zwb5.out;have z_ws5 := Zws5.out;have z_wt2 := Zwt2.out;have z_wt3 := Zwt3.out;have g_2 := G2.out;have l_2 := L2.out;have g_3 := G3.out;have l_3 := L3.out;have g_4 := G4.out;have l_4 := L4.out;have g_5 := G5.out;have l_5 := L5.out;have b_ := h_.1;have c_ := below_size HB.out;omega, fun e_ => by have z_wb2 := Zwb2.out;have z_wb3 := Zwb3.out;have z_wdA := ZwdA.out;have z_wb4 := Zwb4.out;have z_ws4 := Zws4.out;have z_wdB := ZwdB.out;have z_wb5 := Zwb5.out;have z_ws5 := Zws5.out;have z_wt2 := Zwt2.out;have z_wt3 := Zwt3.out;have g_2 := G2.out;have l_2 := L2.out;have g_3 := G3.out;have l_3 := L3.out;have g_4 := G4.out;have l_4 := L4.out;have g_5 := G5.out;have l_5 := L5.out;have b_ : _ ∧ _ := h_;have c_ : _ ∧ _ := FB.out.1 _ e_.symm;omega⟩), Kd.N_mono FB.out (fun k_ h_ => ⟨show w.heap.size ≤ k_ from by have z_wb2 := Zwb2.out;have z_wb3 := Zwb3.out;have z_wdA := ZwdA.out;have z_wb4 := Zwb4.out;have z_ws4 := Zws4.out;have z_wdB := ZwdB.out;have z_wb5 := Zwb5.out;have z_ws5 := Zws5.out;have z_wt2 := Zwt2.out;have z_wt3 := Zwt3.out;have g_2 := G2.out;have l_2 := L2.out;have g_3 := G3.out;have l_3 := L3.out;have g_4 := G4.out;have l_4 := L4.out;have g_5 := G5.out;have l_5 := L5.out;have b_ := h_.1;have c_ := below_size HB.out;omega, fun e_ => by have z_wb2 := Zwb2.out;have z_wb3 := Zwb3.out;have z_wdA := ZwdA.out;have z_wb4 := Zwb4.out;have z_ws4 := Zws4.out;have z_wdB := ZwdB.out;have z_wb5 := Zwb5.out;have z_ws5 := Zws5.out;have z_wt2 := Zwt2.out;have z_wt3 := Zwt3.out;have g_2 := G2.out;have l_2 := L2.out;have g_3 := G3.out;have l_3 := L3.out;have g_4 := G4.out;have l_4 := L4.out;have g_5 := G5.out;have l_5 := L5.out;have b_ : _ ∧ _ := h_;have c_ : _ ∧ _ := FA.out.1 _ e_.symm;omega⟩), HB.out⟩
 have HH2 := m0_ (show some (a0, a1, a2, la, b0, wrap64 (b1 + 1), b2, lb) = some (r1, r2, r3, r4, r5, r6, r7, r8) from by have := HH.out;rw [if_pos ⟨h0, hm⟩] at this;exact this)
 have hm' : (Int.tmod (rd l0 0) 2 == 1) = true := beq_iff_eq.mpr hm
 have hz1_ := (blk_cell BK5.out 1).trans (show _ = some (Value.int .i64 b1) from rfl)
 go_upto_region 5 with (first | ((with_reducible refine gate_store (t := 3) (p := 25) (v := .tmp 24) rfl ?_);refine store_blk (w0 := w) (base := w.heap.size) (e := 29) (g := gb5) (off := 1) (cur := #[.int .i64 b0, .int .i64 b1, .int .i64 b2, .slice AB lb.length cB]) (cur' := #[.int .i64 b0, .int .i64 (wrap64 (b1 + 1)), .int .i64 b2, .slice AB lb.length cB]) (u := .int .i64 (wrap64 (b1 + 1))) (seg := [.int .i64 (wrap64 (b1 + 1))]) rfl rfl rfl rfl rfl BK5.out rfl ?ht ?h1 (by simp) rfl HB.out (by have z_wb2 := Zwb2.out;have z_wb3 := Zwb3.out;have z_wdA := ZwdA.out;have z_wb4 := Zwb4.out;have z_ws4 := Zws4.out;have z_wdB := ZwdB.out;have z_wb5 := Zwb5.out;have z_ws5 := Zws5.out;have g_2 := G2.out;have l_2 := L2.out;have g_3 := G3.out;have l_3 := L3.out;have g_4 := G4.out;have l_4 := L4.out;have g_5 := G5.out;have l_5 := L5.out;have b_ := below_size HB.out;omega) ?_;(case ht => kernel_rfl);(case h1 => intro q hq;rw [List.mem_singleton.1 hq];rfl);intro wsR hs_ hk_ hB_;replace BK5 := m0_ (hs_);replace HB := m0_ (hB_);replace FA := m0_ (Kd.N_keep FA.out hk_ (fun k_ h1 => by have z_wb2 := Zwb2.out;have z_wb3 := Zwb3.out;have z_wdA := ZwdA.out;have z_wb4 := Zwb4.out;have z_ws4 := Zws4.out;have z_wdB := ZwdB.out;have z_wb5 := Zwb5.out;have z_ws5 := Zws5.out;have g_2 := G2.out;have l_2 := L2.out;have g_3 := G3.out;have l_3 := L3.out;have g_4 := G4.out;have l_4 := L4.out;have g_5 := G5.out;have l_5 := L5.out;omega));replace FB := m0_ (Kd.N_keep FB.out hk_ (fun k_ h1 => by have z_wb2 := Zwb2.out;have z_wb3 := Zwb3.out;have z_wdA := ZwdA.out;have z_wb4 := Zwb4.out;have z_ws4 := Zws4.out;have z_wdB := ZwdB.out;have z_wb5 := Zwb5.out;have z_ws5 := Zws5.out;have g_2 := G2.out;have l_2 := L2.out;have g_3 := G3.out;have l_3 := L3.out;have g_4 := G4.out;have l_4 := L4.out;have g_5 := G5.out;have l_5 := L5.out;omega));replace BK2 := m0_ (blk_keep BK2.out hk_ (by have z_wb2 := Zwb2.out;have z_wb3 := Zwb3.out;have z_wdA := ZwdA.out;have z_wb4 := Zwb4.out;have z_ws4 := Zws4.out;have z_wdB := ZwdB.out;have z_wb5 := Zwb5.out;have z_ws5 := Zws5.out;have g_2 := G2.out;have l_2 := L2.out;have g_3 := G3.out;have l_3 := L3.out;have g_4 := G4.out;have l_4 := L4.out;have g_5 := G5.out;have l_5 := L5.out;omega));replace BK3 := m0_ (blk_keep BK3.out hk_ (by have z_wb2 := Zwb2.out;have z_wb3 := Zwb3.out;have z_wdA := ZwdA.out;have z_wb4 := Zwb4.out;have z_ws4 := Zws4.out;have z_wdB := ZwdB.out;have z_wb5 := Zwb5.out;have z_ws5 := Zws5.out;have g_2 := G2.out;have l_2 := L2.out;have g_3 := G3.out;have l_3 := L3.out;have g_4 := G4.out;have l_4 := L4.out;have g_5 := G5.out;have l_5 := L5.out;omega));replace BK4 := m0_ (blk_keep BK4.out hk_ (by have z_wb2 := Zwb2.out;have z_wb3 := Zwb3.out;have z_wdA := ZwdA.out;have z_wb4 := Zwb4.out;have z_ws4 := Zws4.out;have z_wdB := ZwdB.out;have z_wb5 := Zwb5.out;have z_ws5 := Zws5.out;have g_2 := G2.out;have l_2 := L2.out;have g_3 := G3.out;have l_3 := L3.out;have g_4 := G4.out;have l_4 := L4.out;have g_5 := G5.out;have l_5 := L5.out;omega));have ZwsR := m0_ (hk_.1);clear hs_ hk_ hB_))
 clear hz1_ hcell0
 have h1 := HH2.out
 simp only [Option.some.injEq, Prod.mk.injEq] at h1
 obtain ⟨rfl, rfl, rfl, rfl, rfl, rfl, rfl, rfl⟩ := h1
 replace FA := m0_ (Kd.N_drew FA.out);replace FB := m0_ (Kd.N_drew FB.out);replace BK2 := m0_ (blk_drew BK2.out);replace BK3 := m0_ (blk_drew BK3.out);replace BK4 := m0_ (blk_drew BK4.out);replace BK5 := m0_ (blk_drew BK5.out);replace HB := m0_ (below_drew1 HB.out)
 refine start_ (n := 4) (S := fun w' => w'.cell? ⟨gb4, 0, none⟩ = some (.int .i64 a0) ∧ w'.cell? ⟨gb4, 1, none⟩ = some (.int .i64 a1) ∧ w'.cell? ⟨gb4, 2, none⟩ = some (.int .i64 a2) ∧ w'.cell? ⟨gb4, 3, none⟩ = some (.slice AA la.length cA) ∧ w'.cell? ⟨gb5, 0, none⟩ = some (.int .i64 b0) ∧ w'.cell? ⟨gb5, 1, none⟩ = some (.int .i64 (wrap64 (b1 + 1))) ∧ w'.cell? ⟨gb5, 2, none⟩ = some (.int .i64 b2) ∧ w'.cell? ⟨gb5, 3, none⟩ = some (.slice AB lb.length cB)) (ds := []) #[false, false, false, false] (by kernel_rfl) rfl rfl ⟨(blk_cell BK4.out 0).trans rfl, (blk_cell BK4.out 1).trans rfl, (blk_cell BK4.out 2).trans rfl, (blk_cell BK4.out 3).trans rfl, (blk_cell BK5.out 0).trans rfl, (blk_cell BK5.out 1).trans rfl, (blk_cell BK5.out 2).trans rfl, (blk_cell BK5.out 3).trans rfl⟩ (fun hHeld => ?_)
 refine take_ (i := 0) (N := some 26) (v := ?_) (a' := ?_) #[true, false, false, false] rfl rfl (by kernel_rfl) (fun _ _ _ h => h) (Or.inl ⟨by rfl, ?_⟩) hHeld ?_ ?_
 rotate_left
 ·rintro w' ⟨s0, s1, s2, s3, s4, s5, s6, s7⟩
  go_simp
  with_reducible rfl
 rotate_left
 ·simp only [Act.put, List.setIfInBounds_toArray, List.set_cons_zero, List.set_cons_succ, i64_w, i32_w]
  rfl
 refine take_ (i := 1) (N := some 27) (v := ?_) (a' := ?_) #[true, true, false, false] rfl rfl (by kernel_rfl) (fun _ _ _ h => h) (Or.inl ⟨by rfl, ?_⟩) hHeld ?_ ?_
 rotate_left
 ·rintro w' ⟨s0, s1, s2, s3, s4, s5, s6, s7⟩
  go_simp
  with_reducible rfl
 rotate_left
 ·simp only [Act.put, List.setIfInBounds_toArray, List.set_cons_zero, List.set_cons_succ, i64_w, i32_w]
  rfl
 refine one_ (i := 2) (N := none) #[true, true, true, false] rfl rfl (by kernel_rfl) (by decide) (fun K hK => ?_)
 refine store_step (t := 29) (p := 2) (v := .tmp 26) (w0 := w) (base := w.heap.size) (e := 29) (g := gb2) (off := 0) (cur := #[.int .i64 0, .int .i64 0, .int .i64 0, .slice none 0 0]) (cur' := #[.int .i64 a0, .int .i64 a1, .int .i64 a2, .slice AA la.length cA]) (u := .agg #[.int .i64 a0, .int .i64 a1, .int .i64 a2, .slice AA la.length cA]) (seg := [.int .i64 a0, .int .i64 a1, .int .i64 a2, .slice AA la.length cA]) (by rfl) rfl rfl rfl rfl BK2.out rfl ?ht ?h1 (by simp) rfl HB.out (by have z_wb2 := Zwb2.out;have z_wb3 := Zwb3.out;have z_wdA := ZwdA.out;have z_wb4 := Zwb4.out;have z_ws4 := Zws4.out;have z_wdB := ZwdB.out;have z_wb5 := Zwb5.out;have z_ws5 := Zws5.out;have z_wsR := ZwsR.out;have g_2 := G2.out;have l_2 := L2.out;have g_3 := G3.out;have l_3 := L3.out;have g_4 := G4.out;have l_4 := L4.out;have g_5 := G5.out;have l_5 := L5.out;have b_ := below_size HB.out;omega) ?_
 (case ht => kernel_rfl)
 (case h1 => intro q hq;simp only [List.mem_cons, List.not_mem_nil, or_false] at hq;rcases hq with rfl | rfl | rfl | rfl <;> rfl)
 intro wt2 hs_ hk_ hB_
 have Zwt2 := m0_ hk_.1
 replace BK2 := m0_ (hs_);replace HB := m0_ (hB_);replace FA := m0_ (Kd.N_keep FA.out hk_ (fun k_ h1 => by have z_wb2 := Zwb2.out;have z_wb3 := Zwb3.out;have z_wdA := ZwdA.out;have z_wb4 := Zwb4.out;have z_ws4 := Zws4.out;have z_wdB := ZwdB.out;have z_wb5 := Zwb5.out;have z_ws5 := Zws5.out;have z_wsR := ZwsR.out;have g_2 := G2.out;have l_2 := L2.out;have g_3 := G3.out;have l_3 := L3.out;have g_4 := G4.out;have l_4 := L4.out;have g_5 := G5.out;have l_5 := L5.out;omega));replace FB := m0_ (Kd.N_keep FB.out hk_ (fun k_ h1 => by have z_wb2 := Zwb2.out;have z_wb3 := Zwb3.out;have z_wdA := ZwdA.out;have z_wb4 := Zwb4.out;have z_ws4 := Zws4.out;have z_wdB := ZwdB.out;have z_wb5 := Zwb5.out;have z_ws5 := Zws5.out;have z_wsR := ZwsR.out;have g_2 := G2.out;have l_2 := L2.out;have g_3 := G3.out;have l_3 := L3.out;have g_4 := G4.out;have l_4 := L4.out;have g_5 := G5.out;have l_5 := L5.out;omega));replace BK3 := m0_ (blk_keep BK3.out hk_ (by have z_wb2 := Zwb2.out;have z_wb3 := Zwb3.out;have z_wdA := ZwdA.out;have z_wb4 := Zwb4.out;have z_ws4 := Zws4.out;have z_wdB := ZwdB.out;have z_wb5 := Zwb5.out;have z_ws5 := Zws5.out;have z_wsR := ZwsR.out;have g_2 := G2.out;have l_2 := L2.out;have g_3 := G3.out;have l_3 := L3.out;have g_4 := G4.out;have l_4 := L4.out;have g_5 := G5.out;have l_5 := L5.out;omega));replace BK4 := m0_ (blk_keep BK4.out hk_ (by have z_wb2 := Zwb2.out;have z_wb3 := Zwb3.out;have z_wdA := ZwdA.out;have z_wb4 := Zwb4.out;have z_ws4 := Zws4.out;have z_wdB := ZwdB.out;have z_wb5 := Zwb5.out;have z_ws5 := Zws5.out;have z_wsR := ZwsR.out;have g_2 := G2.out;have l_2 := L2.out;have g_3 := G3.out;have l_3 := L3.out;have g_4 := G4.out;have l_4 := L4.out;have g_5 := G5.out;have l_5 := L5.out;omega));replace BK5 := m0_ (blk_keep BK5.out hk_ (by have z_wb2 := Zwb2.out;have z_wb3 := Zwb3.out;have z_wdA := ZwdA.out;have z_wb4 := Zwb4.out;have z_ws4 := Zws4.out;have z_wdB := ZwdB.out;have z_wb5 := Zwb5.out;have z_ws5 := Zws5.out;have z_wsR := ZwsR.out;have g_2 := G2.out;have l_2 := L2.out;have g_3 := G3.out;have l_3 := L3.out;have g_4 := G4.out;have l_4 := L4.out;have g_5 := G5.out;have l_5 := L5.out;omega))
 clear hs_ hk_ hB_
 refine hK.out _ _ ⟨(blk_cell BK4.out 0).trans rfl, (blk_cell BK4.out 1).trans rfl, (blk_cell BK4.out 2).trans rfl, (blk_cell BK4.out 3).trans rfl, (blk_cell BK5.out 0).trans rfl, (blk_cell BK5.out 1).trans rfl, (blk_cell BK5.out 2).trans rfl, (blk_cell BK5.out 3).trans rfl⟩ (fun hHeld => ?_)
 clear hK K
 refine one_ (i := 3) (N := none) #[true, true, true, true] rfl rfl (by kernel_rfl) (by decide) (fun K hK => ?_)
 refine store_step (t := 29) (p := 3) (v := .tmp 27) (w0 := w) (base := w.heap.size) (e := 29) (g := gb3) (off := 0) (cur := #[.int .i64 0, .int .i64 0, .int .i64 0, .slice none 0 0]) (cur' := #[.int .i64 b0, .int .i64 (wrap64 (b1 + 1)), .int .i64 b2, .slice AB lb.length cB]) (u := .agg #[.int .i64 b0, .int .i64 (wrap64 (b1 + 1)), .int .i64 b2, .slice AB lb.length cB]) (seg := [.int .i64 b0, .int .i64 (wrap64 (b1 + 1)), .int .i64 b2, .slice AB lb.length cB]) (by rfl) rfl rfl rfl rfl BK3.out rfl ?ht ?h1 (by simp) rfl HB.out (by have z_wb2 := Zwb2.out;have z_wb3 := Zwb3.out;have z_wdA := ZwdA.out;have z_wb4 := Zwb4.out;have z_ws4 := Zws4.out;have z_wdB := ZwdB.out;have z_wb5 := Zwb5.out;have z_ws5 := Zws5.out;have z_wsR := ZwsR.out;have z_wt2 := Zwt2.out;have g_2 := G2.out;have l_2 := L2.out;have g_3 := G3.out;have l_3 := L3.out;have g_4 := G4.out;have l_4 := L4.out;have g_5 := G5.out;have l_5 := L5.out;have b_ := below_size HB.out;omega) ?_
 (case ht => kernel_rfl)
 (case h1 => intro q hq;simp only [List.mem_cons, List.not_mem_nil, or_false] at hq;rcases hq with rfl | rfl | rfl | rfl <;> rfl)
 intro wt3 hs_ hk_ hB_
 have Zwt3 := m0_ hk_.1
 replace BK3 := m0_ (hs_);replace HB := m0_ (hB_);replace FA := m0_ (Kd.N_keep FA.out hk_ (fun k_ h1 => by have z_wb2 := Zwb2.out;have z_wb3 := Zwb3.out;have z_wdA := ZwdA.out;have z_wb4 := Zwb4.out;have z_ws4 := Zws4.out;have z_wdB := ZwdB.out;have z_wb5 := Zwb5.out;have z_ws5 := Zws5.out;have z_wsR := ZwsR.out;have z_wt2 := Zwt2.out;have g_2 := G2.out;have l_2 := L2.out;have g_3 := G3.out;have l_3 := L3.out;have g_4 := G4.out;have l_4 := L4.out;have g_5 := G5.out;have l_5 := L5.out;omega));replace FB := m0_ (Kd.N_keep FB.out hk_ (fun k_ h1 => by have z_wb2 := Zwb2.out;have z_wb3 := Zwb3.out;have z_wdA := ZwdA.out;have z_wb4 := Zwb4.out;have z_ws4 := Zws4.out;have z_wdB := ZwdB.out;have z_wb5 := Zwb5.out;have z_ws5 := Zws5.out;have z_wsR := ZwsR.out;have z_wt2 := Zwt2.out;have g_2 := G2.out;have l_2 := L2.out;have g_3 := G3.out;have l_3 := L3.out;have g_4 := G4.out;have l_4 := L4.out;have g_5 := G5.out;have l_5 := L5.out;omega));replace BK2 := m0_ (blk_keep BK2.out hk_ (by have z_wb2 := Zwb2.out;have z_wb3 := Zwb3.out;have z_wdA := ZwdA.out;have z_wb4 := Zwb4.out;have z_ws4 := Zws4.out;have z_wdB := ZwdB.out;have z_wb5 := Zwb5.out;have z_ws5 := Zws5.out;have z_wsR := ZwsR.out;have z_wt2 := Zwt2.out;have g_2 := G2.out;have l_2 := L2.out;have g_3 := G3.out;have l_3 := L3.out;have g_4 := G4.out;have l_4 := L4.out;have g_5 := G5.out;have l_5 := L5.out;omega));replace BK4 := m0_ (blk_keep BK4.out hk_ (by have z_wb2 := Zwb2.out;have z_wb3 := Zwb3.out;have z_wdA := ZwdA.out;have z_wb4 := Zwb4.out;have z_ws4 := Zws4.out;have z_wdB := ZwdB.out;have z_wb5 := Zwb5.out;have z_ws5 := Zws5.out;have z_wsR := ZwsR.out;have z_wt2 := Zwt2.out;have g_2 := G2.out;have l_2 := L2.out;have g_3 := G3.out;have l_3 := L3.out;have g_4 := G4.out;have l_4 := L4.out;have g_5 := G5.out;have l_5 := L5.out;omega));replace BK5 := m0_ (blk_keep BK5.out hk_ (by have z_wb2 := Zwb2.out;have z_wb3 := Zwb3.out;have z_wdA := ZwdA.out;have z_wb4 := Zwb4.out;have z_ws4 := Zws4.out;have z_wdB := ZwdB.out;have z_wb5 := Zwb5.out;have z_ws5 := Zws5.out;have z_wsR := ZwsR.out;have z_wt2 := Zwt2.out;have g_2 := G2.out;have l_2 := L2.out;have g_3 := G3.out;have l_3 := L3.out;have g_4 := G4.out;have l_4 := L4.out;have g_5 := G5.out;have l_5 := L5.out;omega))
 clear hs_ hk_ hB_
 refine hK.out _ _ ⟨(blk_cell BK4.out 0).trans rfl, (blk_cell BK4.out 1).trans rfl, (blk_cell BK4.out 2).trans rfl, (blk_cell BK4.out 3).trans rfl, (blk_cell BK5.out 0).trans rfl, (blk_cell BK5.out 1).trans rfl, (blk_cell BK5.out 2).trans rfl, (blk_cell BK5.out 3).trans rfl⟩ (fun hHeld => ?_)
 clear hK K
 refine done_ (by kernel_rfl) ?_
 go_wp2
 refine bodyPost_ret (results_cc rfl _ _ gb2 gb3 29 29 #[.int .i64 a0, .int .i64 a1, .int .i64 a2, .slice AA la.length cA] #[.int .i64 b0, .int .i64 (wrap64 (b1 + 1)), .int .i64 b2, .slice AB lb.length cB] (0, 0) (0, 0) _ _ rfl BK2.out Tryd.underlying29 rfl (by kernel_rfl) rfl BK3.out Tryd.underlying29 rfl (by kernel_rfl)) rfl ?_
 exact ⟨_, _, rfl, Kd.N_mono FA.out (fun k_ h_ => ⟨show w.heap.size ≤ k_ from by have z_wb2 := Zwb2.out;have z_wb3 := Zwb3.out;have z_wdA := ZwdA.out;have z_wb4 := Zwb4.out;have z_ws4 := Zws4.out;have z_wdB := ZwdB.out;have z_wb5 := Zwb5.out;have z_ws5 := Zws5.out;have z_wsR := ZwsR.out;have z_wt2 := Zwt2.out;have z_wt3 := Zwt3.out;have g_2 := G2.out;have l_2 := L2.out;have g_3 := G3.out;have l_3 := L3.out;have g_4 := G4.out;have l_4 := L4.out;have g_5 := G5.out;have l_5 := L5.out;have b_ := h_.1;have c_ := below_size HB.out;omega, fun e_ => by have z_wb2 := Zwb2.out;have z_wb3 := Zwb3.out;have z_wdA := ZwdA.out;have z_wb4 := Zwb4.out;have z_ws4 := Zws4.out;have z_wdB := ZwdB.out;have z_wb5 := Zwb5.out;have z_ws5 := Zws5.out;have z_wsR := ZwsR.out;have z_wt2 := Zwt2.out;have z_wt3 := Zwt3.out;have g_2 := G2.out;have l_2 := L2.out;have g_3 := G3.out;have l_3 := L3.out;have g_4 := G4.out;have l_4 := L4.out;have g_5 := G5.out;have l_5 := L5.out;have b_ : _ ∧ _ := h_;have c_ : _ ∧ _ := FB.out.1 _ e_.symm;omega⟩), Kd.N_mono FB.out (fun k_ h_ => ⟨show w.heap.size ≤ k_ from by have z_wb2 := Zwb2.out;have z_wb3 := Zwb3.out;have z_wdA := ZwdA.out;have z_wb4 := Zwb4.out;have z_ws4 := Zws4.out;have z_wdB := ZwdB.out;have z_wb5 := Zwb5.out;have z_ws5 := Zws5.out;have z_wsR := ZwsR.out;have z_wt2 := Zwt2.out;have z_wt3 := Zwt3.out;have g_2 := G2.out;have l_2 := L2.out;have g_3 := G3.out;have l_3 := L3.out;have g_4 := G4.out;have l_4 := L4.out;have g_5 := G5.out;have l_5 := L5.out;have b_ := h_.1;have c_ := below_size HB.out;omega, fun e_ => by have z_wb2 := Zwb2.out;have z_wb3 := Zwb3.out;have z_wdA := ZwdA.out;have z_wb4 := Zwb4.out;have z_ws4 := Zws4.out;have z_wdB := ZwdB.out;have z_wb5 := Zwb5.out;have z_ws5 := Zws5.out;have z_wsR := ZwsR.out;have z_wt2 := Zwt2.out;have z_wt3 := Zwt3.out;have g_2 := G2.out;have l_2 := L2.out;have g_3 := G3.out;have l_3 := L3.out;have g_4 := G4.out;have l_4 := L4.out;have g_5 := G5.out;have l_5 := L5.out;have b_ : _ ∧ _ := h_;have c_ : _ ∧ _ := FA.out.1 _ e_.symm;omega⟩), HB.out⟩

def spec_DrawExMany.f (k : Nat) (l0 : List Int) : Option (Int × Int × Int × (List (S29))) := (spec_l14Open.f l0).bind fun bt102 => ((spec_l2Bent.f k bt102.1 bt102.2).bind fun bt105 => (some (bt105.1, bt105.2.1, bt105.2.2.1, bt105.2.2.2.1)))
set_option maxHeartbeats 8000000 in
set_option maxRecDepth 100000 in
theorem spec_DrawExMany.calls (k : Nat) (A0 : Option Addr) (c0 : Nat) (l0 : List Int) (r1 : Int) (r2 : Int) (r3 : Int) (r4 : List (S29)) (w : World) (hr0 : Kd.C (Kd.int .u8) w A0 l0.length l0) (hc0 : l0.length ≤ c0) (h : spec_DrawExMany.f k l0 = some (r1, r2, r3, r4)) :
  Calls Tryd.prog 14 #[.slice A0 l0.length c0] w fun e w' => ∃ v3_ : Value, e = .returned (.agg #[.int .i64 r1, .int .i64 r2, .int .i64 r3, v3_]) ∧ Kd.N k29 29 w' w.heap.size (fun k_ => (w.heap.size ≤ k_)) v3_ r4 ∧ Below w.heap.size w w' := by
 have hu29 := Tryd.underlying29
 have HR0 := m0_ hr0
 have HC0 := m0_ hc0
 clear hr0 hc0
 have HB := m0_ (Below.refl w.heap.size w)
 have H : ((spec_l14Open.f l0).bind fun bt102 => ((spec_l2Bent.f k bt102.1 bt102.2).bind fun bt105 => (some (bt105.1, bt105.2.1, bt105.2.2.1, bt105.2.2.2.1)))) = some (r1, r2, r3, r4) := h
 clear h
 replace H := Option.bind_eq_some_iff.mp H
 obtain ⟨⟨t102, t103⟩, A20, H⟩ := H
 replace H : ((spec_l2Bent.f k t102 t103).bind fun bt105 => (some (bt105.1, bt105.2.1, bt105.2.2.1, bt105.2.2.2.1))) = some (r1, r2, r3, r4) := H
 have A2 := m0_ A20
 clear A20
 replace H := Option.bind_eq_some_iff.mp H
 obtain ⟨⟨t105, t106, t107, t108, t111⟩, A30, H⟩ := H
 replace H : (some (t105, t106, t107, t108)) = some (r1, r2, r3, r4) := H
 have A3 := m0_ A30
 clear A30
 simp only [Option.some.injEq, Prod.mk.injEq] at H
 obtain ⟨rfl, rfl, rfl, rfl⟩ := H
 go_enter Tryd.func14, Tryd.ntmps14
 go_wp2_with (first | ((with_reducible refine gate_dst (N := 2) rfl ?_);refine box_event ?hg (N := 2) ?hd (cs := #[.int .i64 0, .int .i64 0, .int .i64 0, .slice none 0 0]) (t := 29) ?hr ?_;(case hd => rfl);(case hg => rfl);(case hr => first | (go_simp;done) | (go_simp;rfl));intro gb101 hg w4 hbox hb;have BK101 := m0_ (hbox);have GW101 := m0_ ((by rw [hg];exact (below_size (by exact HB.out)) : w.heap.size ≤ gb101));have GE101 := m0_ ((by rw [hg];exact (below_size (by exact HB.out)) : w.heap.size ≤ gb101));replace HB := m0_ (below_step (by exact HB.out) hb);clear hb hbox hg) | ((with_reducible refine gate_callee (f := 33) rfl ?_);refine goesL_ (some 4) rfl rfl Tryd.func33 (by kernel_rfl) rfl #[.slice A0 l0.length c0] rfl (by (try simp only [List.map_toArray, List.map_cons, List.map_nil]);first | done | rfl | (simp only [List.length_drop, List.length_take];rfl)) ?_;(with_reducible refine (spec_l14Open.calls _ _ l0 t102 t103 w _ ?side1 ?side2 ?side3 A2.out).mono ?_);(case side1 => repeat (first | (with_reducible first | exact HB.out | apply below_alloc | apply pw_below_drewN | apply below_drew1 | refine below_set ?_ GE101.out) | exact HB.out));(case side2 => exact HR0.out);(case side3 => exact HC0.out);rintro e w5 ⟨g104, rfl, hi, hb, hb2⟩;refine ⟨_, rfl, ?_⟩;replace HB := m0_ (hb);have HI104 := m0_ (hi);have NB104_101 := m0_ (IsS79.ne_blk hi (blk_below BK101.out hb2) (by decide));have NB101_104 := m0_ (Ne.symm (IsS79.ne_blk hi (blk_below BK101.out hb2) (by decide)));replace BK101 := m0_ (blk_below BK101.out hb2);(try clear hb);(try clear hb2);(try clear hk);(try clear hi)) | ((with_reducible refine gate_callee (f := 32) rfl ?_);refine goesL_ (some 5) rfl rfl Tryd.func32 (by kernel_rfl) rfl #[.pointer (some ⟨g104, 0, none⟩)] rfl (by (try simp only [List.map_toArray, List.map_cons, List.map_nil]);first | done | rfl | (simp only [List.length_drop, List.length_take];rfl)) ?_;(with_reducible refine (spec_l2Bent.calls k g104 t102 t103 t105 t106 t107 t108 t111 w _ ?side1 ?side2 A3.out).mono ?_);(case side1 => repeat (first | (with_reducible first | exact HI104.out | apply IsS79.alloc | apply IsS79.drewN | apply IsS79.drew | apply IsS79.set_1 | refine IsS79.far ?_ NB104_101.out _) | exact HI104.out));(case side2 => repeat (first | (with_reducible first | exact HB.out | apply below_alloc | apply pw_below_drewN | apply below_drew1 | refine below_set ?_ (IsS79.ge HI104.out) | refine below_set ?_ GE101.out) | exact HB.out));rintro e w6 ⟨v109, rfl, ho0, hi, hb, hk⟩;refine ⟨_, rfl, ?_⟩;have HO110 := m0_ (Kd.N_lower (Kd.N_mono (ok' := fun k_ => (w.heap.size ≤ k_) ∧ k_ ≠ gb101 ∧ k_ ≠ g104) ho0 (fun k_ hk_ => ⟨(Nat.le_trans (below_size (by repeat (first | (with_reducible first | exact HB.out | apply below_alloc | apply pw_below_drewN | apply below_drew1 | refine below_set ?_ (IsS79.ge HI104.out) | refine below_set ?_ GE101.out) | exact HB.out))) hk_), (Kd.freshB BK101.out k_ hk_), (IsS79.fresh (by repeat (first | (with_reducible first | exact HI104.out | apply IsS79.alloc | apply IsS79.drewN | apply IsS79.drew | apply IsS79.set_1 | refine IsS79.far ?_ NB104_101.out _) | exact HI104.out)) k_ hk_)⟩)) (below_size (by repeat (first | (with_reducible first | exact HB.out | apply below_alloc | apply pw_below_drewN | apply below_drew1 | refine below_set ?_ (IsS79.ge HI104.out) | refine below_set ?_ GE101.out) | exact HB.out))));replace BK101 := m0_ (KeepBut.blk hk (g' := gb101) (o := .cells #[.int .i64 0, .int .i64 0, .int .i64 0, .slice none 0 0] 29 (0, 0)) (by (with_reducible repeat (first | refine blk_drewN ?_ _ | refine blk_drew ?_ | refine blk_alloc ?_ _));exact BK101.out) NB101_104.out (by simp));replace HB := m0_ (hb);replace HI104 := m0_ (hi);(try clear hb);(try clear hb2);(try clear hk);(try clear hi);(try clear ho0);have hnb7 := NB101_104.out;have hnc7 := NB104_101.out;obtain ⟨hcz8_0, hcz8_1, hcz8_2, hcz8_3, hfz8_0, hfz8_1, hfz8_2, hfz8_3⟩ := bx4 BK101.out;obtain ⟨Ao9, co9, eo9⟩ := Kd.N_slice HO110.out;subst eo9))
 refine bodyPost_ret (results_cell_row rfl _ _ gb101 29 #[.int .i64 t105, .int .i64 t106, .int .i64 t107, .slice Ao9 t108.length co9] (0, 0) _ rfl (by (with_reducible repeat (first | refine blk_drewN ?_ _ | refine blk_drew ?_ | refine blk_alloc ?_ _));refine blk_put (cs := #[.int .i64 t105, .int .i64 t106, .int .i64 t107, .slice none 0 0]) ?_ 3 _ rfl;(with_reducible repeat (first | refine blk_drewN ?_ _ | refine blk_drew ?_ | refine blk_alloc ?_ _));refine blk_put (cs := #[.int .i64 t105, .int .i64 t106, .int .i64 0, .slice none 0 0]) ?_ 2 _ rfl;(with_reducible repeat (first | refine blk_drewN ?_ _ | refine blk_drew ?_ | refine blk_alloc ?_ _));refine blk_put (cs := #[.int .i64 t105, .int .i64 0, .int .i64 0, .slice none 0 0]) ?_ 1 _ rfl;(with_reducible repeat (first | refine blk_drewN ?_ _ | refine blk_drew ?_ | refine blk_alloc ?_ _));refine blk_put (cs := #[.int .i64 0, .int .i64 0, .int .i64 0, .slice none 0 0]) ?_ 0 _ rfl;(with_reducible repeat (first | refine blk_drewN ?_ _ | refine blk_drew ?_ | refine blk_alloc ?_ _));exact BK101.out) Tryd.underlying29 rfl (by kernel_rfl)) rfl ?_
 exact ⟨_, by first | rfl | (simp [errW_none, errW_some] <;> rfl) | (simp [*, errW_none, errW_some] <;> rfl), by (with_reducible repeat (first | apply Kd.N_alloc | apply Kd.N_drewN | apply Kd.N_drew));exact Kd.N_mono (Kd.N_far (p := ⟨gb101, 3, none⟩) (Kd.N_far (p := ⟨gb101, 2, none⟩) (Kd.N_far (p := ⟨gb101, 1, none⟩) (Kd.N_far (p := ⟨gb101, 0, none⟩) (Kd.N_mono HO110.out (fun k_ hk => (⟨hk, hk.2.1⟩ : _ ∧ k_ ≠ gb101))) (fun _ hk => hk.2) (.int .i64 t105)) (fun _ hk => hk.2) (.int .i64 t106)) (fun _ hk => hk.2) (.int .i64 t107)) (fun _ hk => hk.2) (.slice Ao9 t108.length co9)) (fun _ hk => hk.1.1), by repeat (first | (with_reducible first | exact HB.out | apply below_alloc | apply pw_below_drewN | apply below_drew1 | refine below_set ?_ (IsS79.ge HI104.out) | refine below_set ?_ GE101.out) | exact HB.out)⟩

mutual
def impl_Ex_34.l0 : Nat → List (S29) → List (S29) → Int → Int → Option (Bool)
 | 0, _, _, _, _ => none
 | k + 1, x1, x15, x16, x17 => if x17 < x16 then (if 0 ≤ x17 then (if x17 < (x15.length : Int) then (if x17 < (x1.length : Int) then ((impl_ExSame.f k ((rd_T29 x15 x17).f0) ((rd_T29 x15 x17).f1) ((rd_T29 x15 x17).f2) ((rd_T29 x15 x17).f3) ((rd_T29 x1 x17).f0) ((rd_T29 x1 x17).f1) ((rd_T29 x1 x17).f2) ((rd_T29 x1 x17).f3)).bind fun t105 => (if t105 = true then (impl_Ex_34.l0 k x1 x15 x16 (wrap64 (x17 + 1))) else (some false))) else (none)) else (none)) else (none)) else (some true)
def impl_Ex_34.f : Nat → List (S29) → List (S29) → Option (Bool)
 | 0, _, _ => none
 | k + 1, l0, l1 => if (l0.length : Int) = (l1.length : Int) then (impl_Ex_34.l0 k l1 l0 (l0.length : Int) 0) else (some false)
def impl_ExSame.f : Nat → Int → Int → Int → List (S29) → Int → Int → Int → List (S29) → Option (Bool)
 | 0, _, _, _, _, _, _, _, _ => none
 | k + 1, a0_0, a0_1, a0_2, l0_3, a1_0, a1_1, a1_2, l1_3 => if a0_0 = a1_0 then (if a0_1 = a1_1 then (if a0_2 = a1_2 then ((impl_Ex_34.f k l0_3 l1_3).bind fun t108 => (some t108)) else (some false)) else (some false)) else (some false)
end
set_option maxHeartbeats 8000000 in
set_option maxRecDepth 100000 in
theorem impl_Ex_34.calls_step (k : Nat) (ih_34 : ∀ k_, k_ < k → ∀ (A0 : Option Addr) (c0 : Nat) (l0 : List (S29)) (A1 : Option Addr) (c1 : Nat) (l1 : List (S29))  (r : Bool) (w : World) (hr0 : Kd.C k29 w A0 l0.length l0) (hc0 : l0.length ≤ c0) (hr1 : Kd.C k29 w A1 l1.length l1) (hc1 : l1.length ≤ c1) (h : impl_Ex_34.f k_ l0 l1 = some r),
  Calls Tryd.prog 34 #[.slice A0 l0.length c0, .slice A1 l1.length c1, .func (.func 15) #[] #[]] w fun e w' => e = .returned (.bool r) ∧ Below w.heap.size w w') (ih_15 : ∀ k_, k_ < k → ∀ (a0_0 : Int) (a0_1 : Int) (a0_2 : Int) (A0_3 : Option Addr) (c0_3 : Nat) (l0_3 : List (S29)) (a1_0 : Int) (a1_1 : Int) (a1_2 : Int) (A1_3 : Option Addr) (c1_3 : Nat) (l1_3 : List (S29)) (r : Bool) (w : World) (hr0_3 : Kd.C k29 w A0_3 l0_3.length l0_3) (hc0_3 : l0_3.length ≤ c0_3) (hr1_3 : Kd.C k29 w A1_3 l1_3.length l1_3) (hc1_3 : l1_3.length ≤ c1_3) (h : impl_ExSame.f k_ a0_0 a0_1 a0_2 l0_3 a1_0 a1_1 a1_2 l1_3 = some r),
  Calls Tryd.prog 15 #[.agg #[.int .i64 a0_0, .int .i64 a0_1, .int .i64 a0_2, .slice A0_3 l0_3.length c0_3], .agg #[.int .i64 a1_0, .int .i64 a1_1, .int .i64 a1_2, .slice A1_3 l1_3.length c1_3]] w fun e w' => e = .returned (.bool r) ∧ Below w.heap.size w w') : ∀ (A0 : Option Addr) (c0 : Nat) (l0 : List (S29)) (A1 : Option Addr) (c1 : Nat) (l1 : List (S29))  (r : Bool) (w : World) (hr0 : Kd.C k29 w A0 l0.length l0) (hc0 : l0.length ≤ c0) (hr1 : Kd.C k29 w A1 l1.length l1) (hc1 : l1.length ≤ c1) (h : impl_Ex_34.f k l0 l1 = some r),
  Calls Tryd.prog 34 #[.slice A0 l0.length c0, .slice A1 l1.length c1, .func (.func 15) #[] #[]] w fun e w' => e = .returned (.bool r) ∧ Below w.heap.size w w' := by
 intro A0 c0 l0 A1 c1 l1 r w hr0 hc0 hr1 hc1 h
 cases k with
 | zero => exact absurd h (by simp [impl_Ex_34.f])
 | succ k =>
 simp only [impl_Ex_34.f] at h
 have hu29 := Tryd.underlying29
 have HR0 := m0_ hr0
 have HC0 := m0_ hc0
 clear hr0 hc0
 have HR1 := m0_ hr1
 have HC1 := m0_ hc1
 clear hr1 hc1
 have HB := m0_ (Below.refl w.heap.size w)
 have H : (if (l0.length : Int) = (l1.length : Int) then (impl_Ex_34.l0 k l1 l0 (l0.length : Int) 0) else (some false)) = some r := h
 clear h
 by_cases c4 : (l0.length : Int) = (l1.length : Int)
 rotate_left
 ·rw [if_neg c4] at H
  have c4b0 : ((l0.length : Int) == (l1.length : Int)) = false := beq_eq_false_iff_ne.mpr c4
  have c4b1 : ((l0.length : Int) != (l1.length : Int)) = true := bne_iff_ne.mpr c4
  have c4b2 : (l0.length == l1.length) = false := by first | simpa using c4 | (simp at c4 ⊢;omega)
  obtain rfl := Option.some.inj H
  go_enter Tryd.func34, Tryd.ntmps34
  go_wp2
  go_ret
  exact ⟨by first | rfl | (simp [errW_none, errW_some] <;> rfl) | (simp [*, errW_none, errW_some] <;> rfl), by repeat (first | (with_reducible first | exact HB.out | apply below_alloc | apply pw_below_drewN | apply below_drew1) | exact HB.out)⟩
 rw [if_pos c4] at H
 have c4b0 : ((l0.length : Int) == (l1.length : Int)) = true := beq_iff_eq.mpr c4
 have c4b1 : ((l0.length : Int) != (l1.length : Int)) = false := bne_eq_false_iff_eq.mpr c4
 have c4b2 : (l0.length == l1.length) = true := by first | simpa using c4 | (simp at c4 ⊢;omega)
 clear c4
 have H' := m0_ H
 clear H
 go_enter Tryd.func34, Tryd.ntmps34
 go_wp2
 go_loopg [17] k (fun kq v17 w' => ∃ (x17_1 : Int), v17 = .int .i64 x17_1 ∧ Aside0 (impl_Ex_34.l0 kq l1 l0 (l0.length : Int) x17_1 = some r) ∧ Aside0 (kq ≤ k) ∧ Aside0 (Below w.heap.size w w'))
 case atStart => exact ⟨(0), (by first | rfl | (simp;done) | (simp [*];done)), H', ⟨Nat.le_refl _⟩, ⟨by repeat (first | (with_reducible first | exact HB.out | apply below_alloc | apply pw_below_drewN | apply below_drew1) | exact HB.out)⟩⟩
 case round =>
  clear H'
  try clear c1
  try clear p2
  try clear c3
  try clear c4
  try clear c4b0
  try clear c4b1
  try clear c4b2
  obtain ⟨x17_1, rfl, HA, HK1, HB⟩ := hrel
  cases gk with
  | zero => exact absurd HA.out (by simp [impl_Ex_34.l0])
  | succ k1 =>
   have H := HA.out
   clear HA
   simp only [impl_Ex_34.l0] at H
   by_cases c5 : x17_1 < (l0.length : Int)
   rotate_left
   ·rw [if_neg c5] at H
    have c5b0 : decide (x17_1 < (l0.length : Int)) = false := decide_eq_false c5
    clear c5
    obtain rfl := Option.some.inj H
    go_wp2
    go_ret
    exact ⟨by first | rfl | (simp [errW_none, errW_some] <;> rfl) | (simp [*, errW_none, errW_some] <;> rfl), by repeat (first | (with_reducible first | exact HB.out | apply below_alloc | apply pw_below_drewN | apply below_drew1) | exact HB.out)⟩
   rw [if_pos c5] at H
   have c5b0 : decide (x17_1 < (l0.length : Int)) = true := decide_eq_true c5
   clear c5
   by_cases c6 : 0 ≤ x17_1
   rotate_left
   ·rw [if_neg c6] at H
    exact absurd H (by simp)
   rw [if_pos c6] at H
   have c6b0 : decide (0 ≤ x17_1) = true := decide_eq_true c6
   clear c6
   by_cases c7 : x17_1 < (l0.length : Int)
   rotate_left
   ·rw [if_neg c7] at H
    exact absurd H (by simp)
   rw [if_pos c7] at H
   have c7b0 : decide (x17_1 < (l0.length : Int)) = true := decide_eq_true c7
   clear c7
   by_cases c8 : x17_1 < (l1.length : Int)
   rotate_left
   ·rw [if_neg c8] at H
    exact absurd H (by simp)
   rw [if_pos c8] at H
   have c8b0 : decide (x17_1 < (l1.length : Int)) = true := decide_eq_true c8
   clear c8
   replace H := Option.bind_eq_some_iff.mp H
   obtain ⟨t105, A90, H⟩ := H
   replace H : (if t105 = true then (impl_Ex_34.l0 k1 l1 l0 (l0.length : Int) (wrap64 (x17_1 + 1))) else (some false)) = some r := H
   have A9 := m0_ A90
   clear A90
   by_cases c10 : t105 = true
   rotate_left
   ·replace c10 := Bool.eq_false_iff.mpr c10
    subst c10
    have H1 : (some false) = some r := by rw [if_neg (show ¬ (false = true) by decide)] at H;exact H
    clear H
    have H := H1
    clear H1
    obtain rfl := Option.some.inj H
    have p101 : 0 ≤ (x17_1 : Int) := of_decide_eq_true (by first | (with_reducible assumption) | assumption)
    have q101 : x17_1 < (l0.length : Int) := of_decide_eq_true (by first | (with_reducible assumption) | assumption)
    obtain ⟨ad101, A101_3, c101_3, e101, hx101_0, hx101_1, hx101_2, hx101_3, hl101_3, hi101_3⟩ := at_T29 HR0.out x17_1 p101 q101
    cases e101
    replace hx101_0 := (HB.out.cell (World.block_lt_of_cell? w _ hx101_0)).trans hx101_0
    replace hx101_1 := (HB.out.cell (World.block_lt_of_cell? w _ hx101_1)).trans hx101_1
    replace hx101_2 := (HB.out.cell (World.block_lt_of_cell? w _ hx101_2)).trans hx101_2
    replace hx101_3 := (HB.out.cell (World.block_lt_of_cell? w _ hx101_3)).trans hx101_3
    have HR101_3 := m0_ hi101_3
    have HC101_3 := m0_ hl101_3
    clear hi101_3 hl101_3
    replace p101 := eq_true p101
    replace q101 := eq_true q101
    go_wp2_with (first | ((with_reducible refine gate_dst (N := 8) rfl ?_);refine box_event ?hg (N := 8) ?hd (cs := #[.int .i64 0, .int .i64 0, .int .i64 0, .slice none 0 0]) (t := 29) ?hr ?_;(case hd => rfl);(case hg => rfl);(case hr => first | (go_simp;done) | (go_simp;rfl));intro gb102 hg w18 hbox hb;have BK102 := m0_ (hbox);have GW102 := m0_ ((by rw [hg];exact (below_size (by repeat (first | (with_reducible first | exact HB.out | apply below_alloc | apply pw_below_drewN | apply below_drew1) | exact HB.out))) : w.heap.size ≤ gb102));have GE102 := m0_ ((by rw [hg];exact (below_size (by repeat (first | (with_reducible first | exact HB.out | apply below_alloc | apply pw_below_drewN | apply below_drew1) | exact HB.out))) : w.heap.size ≤ gb102));replace HB := m0_ (below_step (by repeat (first | (with_reducible first | exact HB.out | apply below_alloc | apply pw_below_drewN | apply below_drew1) | exact HB.out)) hb);clear hb hbox hg;obtain ⟨hcz19_0, hcz19_1, hcz19_2, hcz19_3, hfz19_0, hfz19_1, hfz19_2, hfz19_3⟩ := bx4 BK102.out;have p103 : 0 ≤ (x17_1 : Int) := of_decide_eq_true (by first | (with_reducible assumption) | assumption);have q103 : x17_1 < (l1.length : Int) := of_decide_eq_true (by first | (with_reducible assumption) | assumption);obtain ⟨ad103, A103_3, c103_3, e103, hx103_0, hx103_1, hx103_2, hx103_3, hl103_3, hi103_3⟩ := at_T29 HR1.out x17_1 p103 q103;cases e103;have hn103_0 : ad103.block ≠ gb102 := Nat.ne_of_lt (Nat.lt_of_lt_of_le (by have := World.block_lt_of_cell? _ _ hx103_0;first | rwa [add_block] at this | exact this) GW102.out);have hn103_1 : ad103.block ≠ gb102 := Nat.ne_of_lt (Nat.lt_of_lt_of_le (by have := World.block_lt_of_cell? _ _ hx103_0;first | rwa [add_block] at this | exact this) GW102.out);have hn103_2 : ad103.block ≠ gb102 := Nat.ne_of_lt (Nat.lt_of_lt_of_le (by have := World.block_lt_of_cell? _ _ hx103_0;first | rwa [add_block] at this | exact this) GW102.out);have hn103_3 : ad103.block ≠ gb102 := Nat.ne_of_lt (Nat.lt_of_lt_of_le (by have := World.block_lt_of_cell? _ _ hx103_0;first | rwa [add_block] at this | exact this) GW102.out);replace hx103_0 := (HB.out.cell (World.block_lt_of_cell? w _ hx103_0)).trans hx103_0;replace hx103_1 := (HB.out.cell (World.block_lt_of_cell? w _ hx103_1)).trans hx103_1;replace hx103_2 := (HB.out.cell (World.block_lt_of_cell? w _ hx103_2)).trans hx103_2;replace hx103_3 := (HB.out.cell (World.block_lt_of_cell? w _ hx103_3)).trans hx103_3;have HR103_3 := m0_ hi103_3;have HC103_3 := m0_ hl103_3;clear hi103_3 hl103_3;replace hx103_0 := (cell_far (p := ⟨gb102, 0, none⟩) (by first | (rw [add_block];exact hn103_0) | (show (Addr.add _ _).block ≠ _;rw [add_block];exact hn103_0) | exact hn103_0) (.int .i64 ((rd_T29 l0 x17_1).f0))).trans hx103_0;replace hx103_1 := (cell_far (p := ⟨gb102, 0, none⟩) (by first | (rw [add_block];exact hn103_0) | (show (Addr.add _ _).block ≠ _;rw [add_block];exact hn103_0) | exact hn103_0) (.int .i64 ((rd_T29 l0 x17_1).f0))).trans hx103_1;replace hx103_2 := (cell_far (p := ⟨gb102, 0, none⟩) (by first | (rw [add_block];exact hn103_0) | (show (Addr.add _ _).block ≠ _;rw [add_block];exact hn103_0) | exact hn103_0) (.int .i64 ((rd_T29 l0 x17_1).f0))).trans hx103_2;replace hx103_3 := (cell_far (p := ⟨gb102, 0, none⟩) (by first | (rw [add_block];exact hn103_0) | (show (Addr.add _ _).block ≠ _;rw [add_block];exact hn103_0) | exact hn103_0) (.int .i64 ((rd_T29 l0 x17_1).f0))).trans hx103_3;replace hx103_0 := (cell_far (p := ⟨gb102, 1, none⟩) (by first | (rw [add_block];exact hn103_1) | (show (Addr.add _ _).block ≠ _;rw [add_block];exact hn103_1) | exact hn103_1) (.int .i64 ((rd_T29 l0 x17_1).f1))).trans hx103_0;replace hx103_1 := (cell_far (p := ⟨gb102, 1, none⟩) (by first | (rw [add_block];exact hn103_1) | (show (Addr.add _ _).block ≠ _;rw [add_block];exact hn103_1) | exact hn103_1) (.int .i64 ((rd_T29 l0 x17_1).f1))).trans hx103_1;replace hx103_2 := (cell_far (p := ⟨gb102, 1, none⟩) (by first | (rw [add_block];exact hn103_1) | (show (Addr.add _ _).block ≠ _;rw [add_block];exact hn103_1) | exact hn103_1) (.int .i64 ((rd_T29 l0 x17_1).f1))).trans hx103_2;replace hx103_3 := (cell_far (p := ⟨gb102, 1, none⟩) (by first | (rw [add_block];exact hn103_1) | (show (Addr.add _ _).block ≠ _;rw [add_block];exact hn103_1) | exact hn103_1) (.int .i64 ((rd_T29 l0 x17_1).f1))).trans hx103_3;replace hx103_0 := (cell_far (p := ⟨gb102, 2, none⟩) (by first | (rw [add_block];exact hn103_2) | (show (Addr.add _ _).block ≠ _;rw [add_block];exact hn103_2) | exact hn103_2) (.int .i64 ((rd_T29 l0 x17_1).f2))).trans hx103_0;replace hx103_1 := (cell_far (p := ⟨gb102, 2, none⟩) (by first | (rw [add_block];exact hn103_2) | (show (Addr.add _ _).block ≠ _;rw [add_block];exact hn103_2) | exact hn103_2) (.int .i64 ((rd_T29 l0 x17_1).f2))).trans hx103_1;replace hx103_2 := (cell_far (p := ⟨gb102, 2, none⟩) (by first | (rw [add_block];exact hn103_2) | (show (Addr.add _ _).block ≠ _;rw [add_block];exact hn103_2) | exact hn103_2) (.int .i64 ((rd_T29 l0 x17_1).f2))).trans hx103_2;replace hx103_3 := (cell_far (p := ⟨gb102, 2, none⟩) (by first | (rw [add_block];exact hn103_2) | (show (Addr.add _ _).block ≠ _;rw [add_block];exact hn103_2) | exact hn103_2) (.int .i64 ((rd_T29 l0 x17_1).f2))).trans hx103_3;replace hx103_0 := (cell_far (p := ⟨gb102, 3, none⟩) (by first | (rw [add_block];exact hn103_3) | (show (Addr.add _ _).block ≠ _;rw [add_block];exact hn103_3) | exact hn103_3) (.slice A101_3 ((rd_T29 l0 x17_1).f3).length c101_3)).trans hx103_0;replace hx103_1 := (cell_far (p := ⟨gb102, 3, none⟩) (by first | (rw [add_block];exact hn103_3) | (show (Addr.add _ _).block ≠ _;rw [add_block];exact hn103_3) | exact hn103_3) (.slice A101_3 ((rd_T29 l0 x17_1).f3).length c101_3)).trans hx103_1;replace hx103_2 := (cell_far (p := ⟨gb102, 3, none⟩) (by first | (rw [add_block];exact hn103_3) | (show (Addr.add _ _).block ≠ _;rw [add_block];exact hn103_3) | exact hn103_3) (.slice A101_3 ((rd_T29 l0 x17_1).f3).length c101_3)).trans hx103_2;replace hx103_3 := (cell_far (p := ⟨gb102, 3, none⟩) (by first | (rw [add_block];exact hn103_3) | (show (Addr.add _ _).block ≠ _;rw [add_block];exact hn103_3) | exact hn103_3) (.slice A101_3 ((rd_T29 l0 x17_1).f3).length c101_3)).trans hx103_3;clear hn103_0;clear hn103_1;clear hn103_2;clear hn103_3;replace p103 := eq_true p103;replace q103 := eq_true q103) | ((with_reducible refine gate_dst (N := 9) rfl ?_);refine box_event ?hg (N := 9) ?hd (cs := #[.int .i64 0, .int .i64 0, .int .i64 0, .slice none 0 0]) (t := 29) ?hr ?_;(case hd => rfl);(case hg => rfl);(case hr => first | (go_simp;done) | (go_simp;rfl));intro gb104 hg w20 hbox hb;have BK104 := m0_ (hbox);have GW104 := m0_ ((by rw [hg];exact (below_size (by repeat (first | (with_reducible first | exact HB.out | apply below_alloc | apply pw_below_drewN | apply below_drew1 | refine below_set ?_ GE102.out) | exact HB.out))) : w.heap.size ≤ gb104));have GE104 := m0_ ((by rw [hg];exact (below_size (by repeat (first | (with_reducible first | exact HB.out | apply below_alloc | apply pw_below_drewN | apply below_drew1 | refine below_set ?_ GE102.out) | exact HB.out))) : w.heap.size ≤ gb104));replace HB := m0_ (below_step (by repeat (first | (with_reducible first | exact HB.out | apply below_alloc | apply pw_below_drewN | apply below_drew1 | refine below_set ?_ GE102.out) | exact HB.out)) hb);have NB102_104 := m0_ ((by rw [hg];exact Nat.ne_of_lt (blk_lt (g := gb102) (o := .cells #[.int .i64 ((rd_T29 l0 x17_1).f0), .int .i64 ((rd_T29 l0 x17_1).f1), .int .i64 ((rd_T29 l0 x17_1).f2), .slice A101_3 ((rd_T29 l0 x17_1).f3).length c101_3] 29 (0, 0)) (by (with_reducible repeat (first | refine blk_drewN ?_ _ | refine blk_drew ?_ | refine blk_alloc ?_ _));refine blk_put (cs := #[.int .i64 ((rd_T29 l0 x17_1).f0), .int .i64 ((rd_T29 l0 x17_1).f1), .int .i64 ((rd_T29 l0 x17_1).f2), .slice none 0 0]) ?_ 3 _ rfl;(with_reducible repeat (first | refine blk_drewN ?_ _ | refine blk_drew ?_ | refine blk_alloc ?_ _));refine blk_put (cs := #[.int .i64 ((rd_T29 l0 x17_1).f0), .int .i64 ((rd_T29 l0 x17_1).f1), .int .i64 0, .slice none 0 0]) ?_ 2 _ rfl;(with_reducible repeat (first | refine blk_drewN ?_ _ | refine blk_drew ?_ | refine blk_alloc ?_ _));refine blk_put (cs := #[.int .i64 ((rd_T29 l0 x17_1).f0), .int .i64 0, .int .i64 0, .slice none 0 0]) ?_ 1 _ rfl;(with_reducible repeat (first | refine blk_drewN ?_ _ | refine blk_drew ?_ | refine blk_alloc ?_ _));refine blk_put (cs := #[.int .i64 0, .int .i64 0, .int .i64 0, .slice none 0 0]) ?_ 0 _ rfl;(with_reducible repeat (first | refine blk_drewN ?_ _ | refine blk_drew ?_ | refine blk_alloc ?_ _));exact BK102.out)) : gb102 ≠ gb104));have NB104_102 := m0_ ((by rw [hg];exact Nat.ne_of_gt (blk_lt (g := gb102) (o := .cells #[.int .i64 ((rd_T29 l0 x17_1).f0), .int .i64 ((rd_T29 l0 x17_1).f1), .int .i64 ((rd_T29 l0 x17_1).f2), .slice A101_3 ((rd_T29 l0 x17_1).f3).length c101_3] 29 (0, 0)) (by (with_reducible repeat (first | refine blk_drewN ?_ _ | refine blk_drew ?_ | refine blk_alloc ?_ _));refine blk_put (cs := #[.int .i64 ((rd_T29 l0 x17_1).f0), .int .i64 ((rd_T29 l0 x17_1).f1), .int .i64 ((rd_T29 l0 x17_1).f2), .slice none 0 0]) ?_ 3 _ rfl;(with_reducible repeat (first | refine blk_drewN ?_ _ | refine blk_drew ?_ | refine blk_alloc ?_ _));refine blk_put (cs := #[.int .i64 ((rd_T29 l0 x17_1).f0), .int .i64 ((rd_T29 l0 x17_1).f1), .int .i64 0, .slice none 0 0]) ?_ 2 _ rfl;(with_reducible repeat (first | refine blk_drewN ?_ _ | refine blk_drew ?_ | refine blk_alloc ?_ _));refine blk_put (cs := #[.int .i64 ((rd_T29 l0 x17_1).f0), .int .i64 0, .int .i64 0, .slice none 0 0]) ?_ 1 _ rfl;(with_reducible repeat (first | refine blk_drewN ?_ _ | refine blk_drew ?_ | refine blk_alloc ?_ _));refine blk_put (cs := #[.int .i64 0, .int .i64 0, .int .i64 0, .slice none 0 0]) ?_ 0 _ rfl;(with_reducible repeat (first | refine blk_drewN ?_ _ | refine blk_drew ?_ | refine blk_alloc ?_ _));exact BK102.out)) : gb104 ≠ gb102));replace BK102 := m0_ (blk_below (g := gb102) (o := .cells #[.int .i64 ((rd_T29 l0 x17_1).f0), .int .i64 ((rd_T29 l0 x17_1).f1), .int .i64 ((rd_T29 l0 x17_1).f2), .slice A101_3 ((rd_T29 l0 x17_1).f3).length c101_3] 29 (0, 0)) (by (with_reducible repeat (first | refine blk_drewN ?_ _ | refine blk_drew ?_ | refine blk_alloc ?_ _));refine blk_put (cs := #[.int .i64 ((rd_T29 l0 x17_1).f0), .int .i64 ((rd_T29 l0 x17_1).f1), .int .i64 ((rd_T29 l0 x17_1).f2), .slice none 0 0]) ?_ 3 _ rfl;(with_reducible repeat (first | refine blk_drewN ?_ _ | refine blk_drew ?_ | refine blk_alloc ?_ _));refine blk_put (cs := #[.int .i64 ((rd_T29 l0 x17_1).f0), .int .i64 ((rd_T29 l0 x17_1).f1), .int .i64 0, .slice none 0 0]) ?_ 2 _ rfl;(with_reducible repeat (first | refine blk_drewN ?_ _ | refine blk_drew ?_ | refine blk_alloc ?_ _));refine blk_put (cs := #[.int .i64 ((rd_T29 l0 x17_1).f0), .int .i64 0, .int .i64 0, .slice none 0 0]) ?_ 1 _ rfl;(with_reducible repeat (first | refine blk_drewN ?_ _ | refine blk_drew ?_ | refine blk_alloc ?_ _));refine blk_put (cs := #[.int .i64 0, .int .i64 0, .int .i64 0, .slice none 0 0]) ?_ 0 _ rfl;(with_reducible repeat (first | refine blk_drewN ?_ _ | refine blk_drew ?_ | refine blk_alloc ?_ _));exact BK102.out) hb);clear hb hbox hg;have hnb21 := NB104_102.out;have hnc21 := NB102_104.out;obtain ⟨hcz22_0, hcz22_1, hcz22_2, hcz22_3, hfz22_0, hfz22_1, hfz22_2, hfz22_3⟩ := bx4 BK104.out;obtain ⟨hcz23_0, hcz23_1, hcz23_2, hcz23_3, hfz23_0, hfz23_1, hfz23_2, hfz23_3⟩ := bx4 BK102.out) | (go_at_call 15;(with_reducible refine (ih_15 k1 (by have := HK1.out;omega) ((rd_T29 l0 x17_1).f0) ((rd_T29 l0 x17_1).f1) ((rd_T29 l0 x17_1).f2) _ _ ((rd_T29 l0 x17_1).f3) ((rd_T29 l1 x17_1).f0) ((rd_T29 l1 x17_1).f1) ((rd_T29 l1 x17_1).f2) _ _ ((rd_T29 l1 x17_1).f3) false _ ?side1 ?side2 ?side3 ?side4 A9.out).mono ?_);(case side1 => exact Kd.C_below HR101_3.out (by repeat (first | (with_reducible first | exact HB.out | apply below_alloc | apply pw_below_drewN | apply below_drew1 | refine below_set ?_ GE102.out | refine below_set ?_ GE104.out) | exact HB.out)));(case side2 => exact HC101_3.out);(case side3 => exact Kd.C_below HR103_3.out (by repeat (first | (with_reducible first | exact HB.out | apply below_alloc | apply pw_below_drewN | apply below_drew1 | refine below_set ?_ GE102.out | refine below_set ?_ GE104.out) | exact HB.out)));(case side4 => exact HC103_3.out);rintro e w24 ⟨rfl, hb⟩;replace BK102 := m0_ (blk_below (g := gb102) (o := .cells #[.int .i64 ((rd_T29 l0 x17_1).f0), .int .i64 ((rd_T29 l0 x17_1).f1), .int .i64 ((rd_T29 l0 x17_1).f2), .slice A101_3 ((rd_T29 l0 x17_1).f3).length c101_3] 29 (0, 0)) (by (with_reducible repeat (first | refine blk_drewN ?_ _ | refine blk_drew ?_ | refine blk_alloc ?_ _));refine blk_far ?_ NB102_104.out _;(with_reducible repeat (first | refine blk_drewN ?_ _ | refine blk_drew ?_ | refine blk_alloc ?_ _));refine blk_far ?_ NB102_104.out _;(with_reducible repeat (first | refine blk_drewN ?_ _ | refine blk_drew ?_ | refine blk_alloc ?_ _));refine blk_far ?_ NB102_104.out _;(with_reducible repeat (first | refine blk_drewN ?_ _ | refine blk_drew ?_ | refine blk_alloc ?_ _));refine blk_far ?_ NB102_104.out _;(with_reducible repeat (first | refine blk_drewN ?_ _ | refine blk_drew ?_ | refine blk_alloc ?_ _));exact BK102.out) hb);replace BK104 := m0_ (blk_below (g := gb104) (o := .cells #[.int .i64 ((rd_T29 l1 x17_1).f0), .int .i64 ((rd_T29 l1 x17_1).f1), .int .i64 ((rd_T29 l1 x17_1).f2), .slice A103_3 ((rd_T29 l1 x17_1).f3).length c103_3] 29 (0, 0)) (by (with_reducible repeat (first | refine blk_drewN ?_ _ | refine blk_drew ?_ | refine blk_alloc ?_ _));refine blk_put (cs := #[.int .i64 ((rd_T29 l1 x17_1).f0), .int .i64 ((rd_T29 l1 x17_1).f1), .int .i64 ((rd_T29 l1 x17_1).f2), .slice none 0 0]) ?_ 3 _ rfl;(with_reducible repeat (first | refine blk_drewN ?_ _ | refine blk_drew ?_ | refine blk_alloc ?_ _));refine blk_put (cs := #[.int .i64 ((rd_T29 l1 x17_1).f0), .int .i64 ((rd_T29 l1 x17_1).f1), .int .i64 0, .slice none 0 0]) ?_ 2 _ rfl;(with_reducible repeat (first | refine blk_drewN ?_ _ | refine blk_drew ?_ | refine blk_alloc ?_ _));refine blk_put (cs := #[.int .i64 ((rd_T29 l1 x17_1).f0), .int .i64 0, .int .i64 0, .slice none 0 0]) ?_ 1 _ rfl;(with_reducible repeat (first | refine blk_drewN ?_ _ | refine blk_drew ?_ | refine blk_alloc ?_ _));refine blk_put (cs := #[.int .i64 0, .int .i64 0, .int .i64 0, .slice none 0 0]) ?_ 0 _ rfl;(with_reducible repeat (first | refine blk_drewN ?_ _ | refine blk_drew ?_ | refine blk_alloc ?_ _));exact BK104.out) hb);replace HB := m0_ (below_step (by repeat (first | (with_reducible first | exact HB.out | apply below_alloc | apply pw_below_drewN | apply below_drew1 | refine below_set ?_ GE102.out | refine below_set ?_ GE104.out) | exact HB.out)) hb);(try clear hb);(try clear hb2);(try clear hk);(try clear hi)))
    go_ret
    exact ⟨by first | rfl | (simp [errW_none, errW_some] <;> rfl) | (simp [*, errW_none, errW_some] <;> rfl), by repeat (first | (with_reducible first | exact HB.out | apply below_alloc | apply pw_below_drewN | apply below_drew1 | refine below_set ?_ GE102.out | refine below_set ?_ GE104.out) | exact HB.out)⟩
   subst c10
   have H1 : (impl_Ex_34.l0 k1 l1 l0 (l0.length : Int) (wrap64 (x17_1 + 1))) = some r := by rw [if_pos rfl] at H;exact H
   clear H
   have H := H1
   clear H1
   have H' := m0_ H
   clear H
   have p101 : 0 ≤ (x17_1 : Int) := of_decide_eq_true (by first | (with_reducible assumption) | assumption)
   have q101 : x17_1 < (l0.length : Int) := of_decide_eq_true (by first | (with_reducible assumption) | assumption)
   obtain ⟨ad101, A101_3, c101_3, e101, hx101_0, hx101_1, hx101_2, hx101_3, hl101_3, hi101_3⟩ := at_T29 HR0.out x17_1 p101 q101
   cases e101
   replace hx101_0 := (HB.out.cell (World.block_lt_of_cell? w _ hx101_0)).trans hx101_0
   replace hx101_1 := (HB.out.cell (World.block_lt_of_cell? w _ hx101_1)).trans hx101_1
   replace hx101_2 := (HB.out.cell (World.block_lt_of_cell? w _ hx101_2)).trans hx101_2
   replace hx101_3 := (HB.out.cell (World.block_lt_of_cell? w _ hx101_3)).trans hx101_3
   have HR101_3 := m0_ hi101_3
   have HC101_3 := m0_ hl101_3
   clear hi101_3 hl101_3
   replace p101 := eq_true p101
   replace q101 := eq_true q101
   go_wp2_with (first | ((with_reducible refine gate_dst (N := 8) rfl ?_);refine box_event ?hg (N := 8) ?hd (cs := #[.int .i64 0, .int .i64 0, .int .i64 0, .slice none 0 0]) (t := 29) ?hr ?_;(case hd => rfl);(case hg => rfl);(case hr => first | (go_simp;done) | (go_simp;rfl));intro gb102 hg w11 hbox hb;have BK102 := m0_ (hbox);have GW102 := m0_ ((by rw [hg];exact (below_size (by repeat (first | (with_reducible first | exact HB.out | apply below_alloc | apply pw_below_drewN | apply below_drew1) | exact HB.out))) : w.heap.size ≤ gb102));have GE102 := m0_ ((by rw [hg];exact (below_size (by repeat (first | (with_reducible first | exact HB.out | apply below_alloc | apply pw_below_drewN | apply below_drew1) | exact HB.out))) : w.heap.size ≤ gb102));replace HB := m0_ (below_step (by repeat (first | (with_reducible first | exact HB.out | apply below_alloc | apply pw_below_drewN | apply below_drew1) | exact HB.out)) hb);clear hb hbox hg;obtain ⟨hcz12_0, hcz12_1, hcz12_2, hcz12_3, hfz12_0, hfz12_1, hfz12_2, hfz12_3⟩ := bx4 BK102.out;have p103 : 0 ≤ (x17_1 : Int) := of_decide_eq_true (by first | (with_reducible assumption) | assumption);have q103 : x17_1 < (l1.length : Int) := of_decide_eq_true (by first | (with_reducible assumption) | assumption);obtain ⟨ad103, A103_3, c103_3, e103, hx103_0, hx103_1, hx103_2, hx103_3, hl103_3, hi103_3⟩ := at_T29 HR1.out x17_1 p103 q103;cases e103;have hn103_0 : ad103.block ≠ gb102 := Nat.ne_of_lt (Nat.lt_of_lt_of_le (by have := World.block_lt_of_cell? _ _ hx103_0;first | rwa [add_block] at this | exact this) GW102.out);have hn103_1 : ad103.block ≠ gb102 := Nat.ne_of_lt (Nat.lt_of_lt_of_le (by have := World.block_lt_of_cell? _ _ hx103_0;first | rwa [add_block] at this | exact this) GW102.out);have hn103_2 : ad103.block ≠ gb102 := Nat.ne_of_lt (Nat.lt_of_lt_of_le (by have := World.block_lt_of_cell? _ _ hx103_0;first | rwa [add_block] at this | exact this) GW102.out);have hn103_3 : ad103.block ≠ gb102 := Nat.ne_of_lt (Nat.lt_of_lt_of_le (by have := World.block_lt_of_cell? _ _ hx103_0;first | rwa [add_block] at this | exact this) GW102.out);replace hx103_0 := (HB.out.cell (World.block_lt_of_cell? w _ hx103_0)).trans hx103_0;replace hx103_1 := (HB.out.cell (World.block_lt_of_cell? w _ hx103_1)).trans hx103_1;replace hx103_2 := (HB.out.cell (World.block_lt_of_cell? w _ hx103_2)).trans hx103_2;replace hx103_3 := (HB.out.cell (World.block_lt_of_cell? w _ hx103_3)).trans hx103_3;have HR103_3 := m0_ hi103_3;have HC103_3 := m0_ hl103_3;clear hi103_3 hl103_3;replace hx103_0 := (cell_far (p := ⟨gb102, 0, none⟩) (by first | (rw [add_block];exact hn103_0) | (show (Addr.add _ _).block ≠ _;rw [add_block];exact hn103_0) | exact hn103_0) (.int .i64 ((rd_T29 l0 x17_1).f0))).trans hx103_0;replace hx103_1 := (cell_far (p := ⟨gb102, 0, none⟩) (by first | (rw [add_block];exact hn103_0) | (show (Addr.add _ _).block ≠ _;rw [add_block];exact hn103_0) | exact hn103_0) (.int .i64 ((rd_T29 l0 x17_1).f0))).trans hx103_1;replace hx103_2 := (cell_far (p := ⟨gb102, 0, none⟩) (by first | (rw [add_block];exact hn103_0) | (show (Addr.add _ _).block ≠ _;rw [add_block];exact hn103_0) | exact hn103_0) (.int .i64 ((rd_T29 l0 x17_1).f0))).trans hx103_2;replace hx103_3 := (cell_far (p := ⟨gb102, 0, none⟩) (by first | (rw [add_block];exact hn103_0) | (show (Addr.add _ _).block ≠ _;rw [add_block];exact hn103_0) | exact hn103_0) (.int .i64 ((rd_T29 l0 x17_1).f0))).trans hx103_3;replace hx103_0 := (cell_far (p := ⟨gb102, 1, none⟩) (by first | (rw [add_block];exact hn103_1) | (show (Addr.add _ _).block ≠ _;rw [add_block];exact hn103_1) | exact hn103_1) (.int .i64 ((rd_T29 l0 x17_1).f1))).trans hx103_0;replace hx103_1 := (cell_far (p := ⟨gb102, 1, none⟩) (by first | (rw [add_block];exact hn103_1) | (show (Addr.add _ _).block ≠ _;rw [add_block];exact hn103_1) | exact hn103_1) (.int .i64 ((rd_T29 l0 x17_1).f1))).trans hx103_1;replace hx103_2 := (cell_far (p := ⟨gb102, 1, none⟩) (by first | (rw [add_block];exact hn103_1) | (show (Addr.add _ _).block ≠ _;rw [add_block];exact hn103_1) | exact hn103_1) (.int .i64 ((rd_T29 l0 x17_1).f1))).trans hx103_2;replace hx103_3 := (cell_far (p := ⟨gb102, 1, none⟩) (by first | (rw [add_block];exact hn103_1) | (show (Addr.add _ _).block ≠ _;rw [add_block];exact hn103_1) | exact hn103_1) (.int .i64 ((rd_T29 l0 x17_1).f1))).trans hx103_3;replace hx103_0 := (cell_far (p := ⟨gb102, 2, none⟩) (by first | (rw [add_block];exact hn103_2) | (show (Addr.add _ _).block ≠ _;rw [add_block];exact hn103_2) | exact hn103_2) (.int .i64 ((rd_T29 l0 x17_1).f2))).trans hx103_0;replace hx103_1 := (cell_far (p := ⟨gb102, 2, none⟩) (by first | (rw [add_block];exact hn103_2) | (show (Addr.add _ _).block ≠ _;rw [add_block];exact hn103_2) | exact hn103_2) (.int .i64 ((rd_T29 l0 x17_1).f2))).trans hx103_1;replace hx103_2 := (cell_far (p := ⟨gb102, 2, none⟩) (by first | (rw [add_block];exact hn103_2) | (show (Addr.add _ _).block ≠ _;rw [add_block];exact hn103_2) | exact hn103_2) (.int .i64 ((rd_T29 l0 x17_1).f2))).trans hx103_2;replace hx103_3 := (cell_far (p := ⟨gb102, 2, none⟩) (by first | (rw [add_block];exact hn103_2) | (show (Addr.add _ _).block ≠ _;rw [add_block];exact hn103_2) | exact hn103_2) (.int .i64 ((rd_T29 l0 x17_1).f2))).trans hx103_3;replace hx103_0 := (cell_far (p := ⟨gb102, 3, none⟩) (by first | (rw [add_block];exact hn103_3) | (show (Addr.add _ _).block ≠ _;rw [add_block];exact hn103_3) | exact hn103_3) (.slice A101_3 ((rd_T29 l0 x17_1).f3).length c101_3)).trans hx103_0;replace hx103_1 := (cell_far (p := ⟨gb102, 3, none⟩) (by first | (rw [add_block];exact hn103_3) | (show (Addr.add _ _).block ≠ _;rw [add_block];exact hn103_3) | exact hn103_3) (.slice A101_3 ((rd_T29 l0 x17_1).f3).length c101_3)).trans hx103_1;replace hx103_2 := (cell_far (p := ⟨gb102, 3, none⟩) (by first | (rw [add_block];exact hn103_3) | (show (Addr.add _ _).block ≠ _;rw [add_block];exact hn103_3) | exact hn103_3) (.slice A101_3 ((rd_T29 l0 x17_1).f3).length c101_3)).trans hx103_2;replace hx103_3 := (cell_far (p := ⟨gb102, 3, none⟩) (by first | (rw [add_block];exact hn103_3) | (show (Addr.add _ _).block ≠ _;rw [add_block];exact hn103_3) | exact hn103_3) (.slice A101_3 ((rd_T29 l0 x17_1).f3).length c101_3)).trans hx103_3;clear hn103_0;clear hn103_1;clear hn103_2;clear hn103_3;replace p103 := eq_true p103;replace q103 := eq_true q103) | ((with_reducible refine gate_dst (N := 9) rfl ?_);refine box_event ?hg (N := 9) ?hd (cs := #[.int .i64 0, .int .i64 0, .int .i64 0, .slice none 0 0]) (t := 29) ?hr ?_;(case hd => rfl);(case hg => rfl);(case hr => first | (go_simp;done) | (go_simp;rfl));intro gb104 hg w13 hbox hb;have BK104 := m0_ (hbox);have GW104 := m0_ ((by rw [hg];exact (below_size (by repeat (first | (with_reducible first | exact HB.out | apply below_alloc | apply pw_below_drewN | apply below_drew1 | refine below_set ?_ GE102.out) | exact HB.out))) : w.heap.size ≤ gb104));have GE104 := m0_ ((by rw [hg];exact (below_size (by repeat (first | (with_reducible first | exact HB.out | apply below_alloc | apply pw_below_drewN | apply below_drew1 | refine below_set ?_ GE102.out) | exact HB.out))) : w.heap.size ≤ gb104));replace HB := m0_ (below_step (by repeat (first | (with_reducible first | exact HB.out | apply below_alloc | apply pw_below_drewN | apply below_drew1 | refine below_set ?_ GE102.out) | exact HB.out)) hb);have NB102_104 := m0_ ((by rw [hg];exact Nat.ne_of_lt (blk_lt (g := gb102) (o := .cells #[.int .i64 ((rd_T29 l0 x17_1).f0), .int .i64 ((rd_T29 l0 x17_1).f1), .int .i64 ((rd_T29 l0 x17_1).f2), .slice A101_3 ((rd_T29 l0 x17_1).f3).length c101_3] 29 (0, 0)) (by (with_reducible repeat (first | refine blk_drewN ?_ _ | refine blk_drew ?_ | refine blk_alloc ?_ _));refine blk_put (cs := #[.int .i64 ((rd_T29 l0 x17_1).f0), .int .i64 ((rd_T29 l0 x17_1).f1), .int .i64 ((rd_T29 l0 x17_1).f2), .slice none 0 0]) ?_ 3 _ rfl;(with_reducible repeat (first | refine blk_drewN ?_ _ | refine blk_drew ?_ | refine blk_alloc ?_ _));refine blk_put (cs := #[.int .i64 ((rd_T29 l0 x17_1).f0), .int .i64 ((rd_T29 l0 x17_1).f1), .int .i64 0, .slice none 0 0]) ?_ 2 _ rfl;(with_reducible repeat (first | refine blk_drewN ?_ _ | refine blk_drew ?_ | refine blk_alloc ?_ _));refine blk_put (cs := #[.int .i64 ((rd_T29 l0 x17_1).f0), .int .i64 0, .int .i64 0, .slice none 0 0]) ?_ 1 _ rfl;(with_reducible repeat (first | refine blk_drewN ?_ _ | refine blk_drew ?_ | refine blk_alloc ?_ _));refine blk_put (cs := #[.int .i64 0, .int .i64 0, .int .i64 0, .slice none 0 0]) ?_ 0 _ rfl;(with_reducible repeat (first | refine blk_drewN ?_ _ | refine blk_drew ?_ | refine blk_alloc ?_ _));exact BK102.out)) : gb102 ≠ gb104));have NB104_102 := m0_ ((by rw [hg];exact Nat.ne_of_gt (blk_lt (g := gb102) (o := .cells #[.int .i64 ((rd_T29 l0 x17_1).f0), .int .i64 ((rd_T29 l0 x17_1).f1), .int .i64 ((rd_T29 l0 x17_1).f2), .slice A101_3 ((rd_T29 l0 x17_1).f3).length c101_3] 29 (0, 0)) (by (with_reducible repeat (first | refine blk_drewN ?_ _ | refine blk_drew ?_ | refine blk_alloc ?_ _));refine blk_put (cs := #[.int .i64 ((rd_T29 l0 x17_1).f0), .int .i64 ((rd_T29 l0 x17_1).f1), .int .i64 ((rd_T29 l0 x17_1).f2), .slice none 0 0]) ?_ 3 _ rfl;(with_reducible repeat (first | refine blk_drewN ?_ _ | refine blk_drew ?_ | refine blk_alloc ?_ _));refine blk_put (cs := #[.int .i64 ((rd_T29 l0 x17_1).f0), .int .i64 ((rd_T29 l0 x17_1).f1), .int .i64 0, .slice none 0 0]) ?_ 2 _ rfl;(with_reducible repeat (first | refine blk_drewN ?_ _ | refine blk_drew ?_ | refine blk_alloc ?_ _));refine blk_put (cs := #[.int .i64 ((rd_T29 l0 x17_1).f0), .int .i64 0, .int .i64 0, .slice none 0 0]) ?_ 1 _ rfl;(with_reducible repeat (first | refine blk_drewN ?_ _ | refine blk_drew ?_ | refine blk_alloc ?_ _));refine blk_put (cs := #[.int .i64 0, .int .i64 0, .int .i64 0, .slice none 0 0]) ?_ 0 _ rfl;(with_reducible repeat (first | refine blk_drewN ?_ _ | refine blk_drew ?_ | refine blk_alloc ?_ _));exact BK102.out)) : gb104 ≠ gb102));replace BK102 := m0_ (blk_below (g := gb102) (o := .cells #[.int .i64 ((rd_T29 l0 x17_1).f0), .int .i64 ((rd_T29 l0 x17_1).f1), .int .i64 ((rd_T29 l0 x17_1).f2), .slice A101_3 ((rd_T29 l0 x17_1).f3).length c101_3] 29 (0, 0)) (by (with_reducible repeat (first | refine blk_drewN ?_ _ | refine blk_drew ?_ | refine blk_alloc ?_ _));refine blk_put (cs := #[.int .i64 ((rd_T29 l0 x17_1).f0), .int .i64 ((rd_T29 l0 x17_1).f1), .int .i64 ((rd_T29 l0 x17_1).f2), .slice none 0 0]) ?_ 3 _ rfl;(with_reducible repeat (first | refine blk_drewN ?_ _ | refine blk_drew ?_ | refine blk_alloc ?_ _));refine blk_put (cs := #[.int .i64 ((rd_T29 l0 x17_1).f0), .int .i64 ((rd_T29 l0 x17_1).f1), .int .i64 0, .slice none 0 0]) ?_ 2 _ rfl;(with_reducible repeat (first | refine blk_drewN ?_ _ | refine blk_drew ?_ | refine blk_alloc ?_ _));refine blk_put (cs := #[.int .i64 ((rd_T29 l0 x17_1).f0), .int .i64 0, .int .i64 0, .slice none 0 0]) ?_ 1 _ rfl;(with_reducible repeat (first | refine blk_drewN ?_ _ | refine blk_drew ?_ | refine blk_alloc ?_ _));refine blk_put (cs := #[.int .i64 0, .int .i64 0, .int .i64 0, .slice none 0 0]) ?_ 0 _ rfl;(with_reducible repeat (first | refine blk_drewN ?_ _ | refine blk_drew ?_ | refine blk_alloc ?_ _));exact BK102.out) hb);clear hb hbox hg;have hnb14 := NB104_102.out;have hnc14 := NB102_104.out;obtain ⟨hcz15_0, hcz15_1, hcz15_2, hcz15_3, hfz15_0, hfz15_1, hfz15_2, hfz15_3⟩ := bx4 BK104.out;obtain ⟨hcz16_0, hcz16_1, hcz16_2, hcz16_3, hfz16_0, hfz16_1, hfz16_2, hfz16_3⟩ := bx4 BK102.out) | (go_at_call 15;(with_reducible refine (ih_15 k1 (by have := HK1.out;omega) ((rd_T29 l0 x17_1).f0) ((rd_T29 l0 x17_1).f1) ((rd_T29 l0 x17_1).f2) _ _ ((rd_T29 l0 x17_1).f3) ((rd_T29 l1 x17_1).f0) ((rd_T29 l1 x17_1).f1) ((rd_T29 l1 x17_1).f2) _ _ ((rd_T29 l1 x17_1).f3) true _ ?side1 ?side2 ?side3 ?side4 A9.out).mono ?_);(case side1 => exact Kd.C_below HR101_3.out (by repeat (first | (with_reducible first | exact HB.out | apply below_alloc | apply pw_below_drewN | apply below_drew1 | refine below_set ?_ GE102.out | refine below_set ?_ GE104.out) | exact HB.out)));(case side2 => exact HC101_3.out);(case side3 => exact Kd.C_below HR103_3.out (by repeat (first | (with_reducible first | exact HB.out | apply below_alloc | apply pw_below_drewN | apply below_drew1 | refine below_set ?_ GE102.out | refine below_set ?_ GE104.out) | exact HB.out)));(case side4 => exact HC103_3.out);rintro e w17 ⟨rfl, hb⟩;replace BK102 := m0_ (blk_below (g := gb102) (o := .cells #[.int .i64 ((rd_T29 l0 x17_1).f0), .int .i64 ((rd_T29 l0 x17_1).f1), .int .i64 ((rd_T29 l0 x17_1).f2), .slice A101_3 ((rd_T29 l0 x17_1).f3).length c101_3] 29 (0, 0)) (by (with_reducible repeat (first | refine blk_drewN ?_ _ | refine blk_drew ?_ | refine blk_alloc ?_ _));refine blk_far ?_ NB102_104.out _;(with_reducible repeat (first | refine blk_drewN ?_ _ | refine blk_drew ?_ | refine blk_alloc ?_ _));refine blk_far ?_ NB102_104.out _;(with_reducible repeat (first | refine blk_drewN ?_ _ | refine blk_drew ?_ | refine blk_alloc ?_ _));refine blk_far ?_ NB102_104.out _;(with_reducible repeat (first | refine blk_drewN ?_ _ | refine blk_drew ?_ | refine blk_alloc ?_ _));refine blk_far ?_ NB102_104.out _;(with_reducible repeat (first | refine blk_drewN ?_ _ | refine blk_drew ?_ | refine blk_alloc ?_ _));exact BK102.out) hb);replace BK104 := m0_ (blk_below (g := gb104) (o := .cells #[.int .i64 ((rd_T29 l1 x17_1).f0), .int .i64 ((rd_T29 l1 x17_1).f1), .int .i64 ((rd_T29 l1 x17_1).f2), .slice A103_3 ((rd_T29 l1 x17_1).f3).length c103_3] 29 (0, 0)) (by (with_reducible repeat (first | refine blk_drewN ?_ _ | refine blk_drew ?_ | refine blk_alloc ?_ _));refine blk_put (cs := #[.int .i64 ((rd_T29 l1 x17_1).f0), .int .i64 ((rd_T29 l1 x17_1).f1), .int .i64 ((rd_T29 l1 x17_1).f2), .slice none 0 0]) ?_ 3 _ rfl;(with_reducible repeat (first | refine blk_drewN ?_ _ | refine blk_drew ?_ | refine blk_alloc ?_ _));refine blk_put (cs := #[.int .i64 ((rd_T29 l1 x17_1).f0), .int .i64 ((rd_T29 l1 x17_1).f1), .int .i64 0, .slice none 0 0]) ?_ 2 _ rfl;(with_reducible repeat (first | refine blk_drewN ?_ _ | refine blk_drew ?_ | refine blk_alloc ?_ _));refine blk_put (cs := #[.int .i64 ((rd_T29 l1 x17_1).f0), .int .i64 0, .int .i64 0, .slice none 0 0]) ?_ 1 _ rfl;(with_reducible repeat (first | refine blk_drewN ?_ _ | refine blk_drew ?_ | refine blk_alloc ?_ _));refine blk_put (cs := #[.int .i64 0, .int .i64 0, .int .i64 0, .slice none 0 0]) ?_ 0 _ rfl;(with_reducible repeat (first | refine blk_drewN ?_ _ | refine blk_drew ?_ | refine blk_alloc ?_ _));exact BK104.out) hb);replace HB := m0_ (below_step (by repeat (first | (with_reducible first | exact HB.out | apply below_alloc | apply pw_below_drewN | apply below_drew1 | refine below_set ?_ GE102.out | refine below_set ?_ GE104.out) | exact HB.out)) hb);(try clear hb);(try clear hb2);(try clear hk);(try clear hi)))
   go_roundg k1
   case measure => have := HK1.out;omega
   case rel => exact ⟨(wrap64 (x17_1 + 1)), (by first | rfl | (simp;done) | (simp [*];done)), H', ⟨by have := HK1.out;omega⟩, ⟨by repeat (first | (with_reducible first | exact HB.out | apply below_alloc | apply pw_below_drewN | apply below_drew1 | refine below_set ?_ GE102.out | refine below_set ?_ GE104.out) | exact HB.out)⟩⟩


set_option maxHeartbeats 8000000 in
set_option maxRecDepth 100000 in
theorem impl_ExSame.calls_step (k : Nat) (ih_34 : ∀ k_, k_ < k → ∀ (A0 : Option Addr) (c0 : Nat) (l0 : List (S29)) (A1 : Option Addr) (c1 : Nat) (l1 : List (S29))  (r : Bool) (w : World) (hr0 : Kd.C k29 w A0 l0.length l0) (hc0 : l0.length ≤ c0) (hr1 : Kd.C k29 w A1 l1.length l1) (hc1 : l1.length ≤ c1) (h : impl_Ex_34.f k_ l0 l1 = some r),
  Calls Tryd.prog 34 #[.slice A0 l0.length c0, .slice A1 l1.length c1, .func (.func 15) #[] #[]] w fun e w' => e = .returned (.bool r) ∧ Below w.heap.size w w') (ih_15 : ∀ k_, k_ < k → ∀ (a0_0 : Int) (a0_1 : Int) (a0_2 : Int) (A0_3 : Option Addr) (c0_3 : Nat) (l0_3 : List (S29)) (a1_0 : Int) (a1_1 : Int) (a1_2 : Int) (A1_3 : Option Addr) (c1_3 : Nat) (l1_3 : List (S29)) (r : Bool) (w : World) (hr0_3 : Kd.C k29 w A0_3 l0_3.length l0_3) (hc0_3 : l0_3.length ≤ c0_3) (hr1_3 : Kd.C k29 w A1_3 l1_3.length l1_3) (hc1_3 : l1_3.length ≤ c1_3) (h : impl_ExSame.f k_ a0_0 a0_1 a0_2 l0_3 a1_0 a1_1 a1_2 l1_3 = some r),
  Calls Tryd.prog 15 #[.agg #[.int .i64 a0_0, .int .i64 a0_1, .int .i64 a0_2, .slice A0_3 l0_3.length c0_3], .agg #[.int .i64 a1_0, .int .i64 a1_1, .int .i64 a1_2, .slice A1_3 l1_3.length c1_3]] w fun e w' => e = .returned (.bool r) ∧ Below w.heap.size w w') : ∀ (a0_0 : Int) (a0_1 : Int) (a0_2 : Int) (A0_3 : Option Addr) (c0_3 : Nat) (l0_3 : List (S29)) (a1_0 : Int) (a1_1 : Int) (a1_2 : Int) (A1_3 : Option Addr) (c1_3 : Nat) (l1_3 : List (S29)) (r : Bool) (w : World) (hr0_3 : Kd.C k29 w A0_3 l0_3.length l0_3) (hc0_3 : l0_3.length ≤ c0_3) (hr1_3 : Kd.C k29 w A1_3 l1_3.length l1_3) (hc1_3 : l1_3.length ≤ c1_3) (h : impl_ExSame.f k a0_0 a0_1 a0_2 l0_3 a1_0 a1_1 a1_2 l1_3 = some r),
  Calls Tryd.prog 15 #[.agg #[.int .i64 a0_0, .int .i64 a0_1, .int .i64 a0_2, .slice A0_3 l0_3.length c0_3], .agg #[.int .i64 a1_0, .int .i64 a1_1, .int .i64 a1_2, .slice A1_3 l1_3.length c1_3]] w fun e w' => e = .returned (.bool r) ∧ Below w.heap.size w w' := by
 intro a0_0 a0_1 a0_2 A0_3 c0_3 l0_3 a1_0 a1_1 a1_2 A1_3 c1_3 l1_3 r w hr0_3 hc0_3 hr1_3 hc1_3 h
 cases k with
 | zero => exact absurd h (by simp [impl_ExSame.f])
 | succ k =>
 simp only [impl_ExSame.f] at h
 have hu29 := Tryd.underlying29
 have HR0_3 := m0_ hr0_3
 have HC0_3 := m0_ hc0_3
 clear hr0_3 hc0_3
 have HR1_3 := m0_ hr1_3
 have HC1_3 := m0_ hc1_3
 clear hr1_3 hc1_3
 have HB := m0_ (Below.refl w.heap.size w)
 have H : (if a0_0 = a1_0 then (if a0_1 = a1_1 then (if a0_2 = a1_2 then ((impl_Ex_34.f k l0_3 l1_3).bind fun t108 => (some t108)) else (some false)) else (some false)) else (some false)) = some r := h
 clear h
 by_cases c3 : a0_0 = a1_0
 rotate_left
 ·rw [if_neg c3] at H
  have c3b0 : (a0_0 == a1_0) = false := beq_eq_false_iff_ne.mpr c3
  have c3b1 : (a0_0 != a1_0) = true := bne_iff_ne.mpr c3
  obtain rfl := Option.some.inj H
  go_enter Tryd.func15, Tryd.ntmps15
  go_wp2_with (first | ((with_reducible refine gate_dst (N := 2) rfl ?_);refine box_event ?hg (N := 2) ?hd (cs := #[.int .i64 a0_0, .int .i64 a0_1, .int .i64 a0_2, .slice A0_3 l0_3.length c0_3]) (t := 29) ?hr ?_;(case hd => rfl);(case hg => rfl);(case hr => first | (go_simp;done) | (go_simp;rfl));intro gb106 hg w23 hbox hb;have BK106 := m0_ (hbox);have GW106 := m0_ ((by rw [hg];exact (below_size (by repeat (first | (with_reducible first | exact HB.out | apply below_alloc | apply pw_below_drewN | apply below_drew1) | exact HB.out))) : w.heap.size ≤ gb106));have GE106 := m0_ ((by rw [hg];exact (below_size (by repeat (first | (with_reducible first | exact HB.out | apply below_alloc | apply pw_below_drewN | apply below_drew1) | exact HB.out))) : w.heap.size ≤ gb106));replace HB := m0_ (below_step (by repeat (first | (with_reducible first | exact HB.out | apply below_alloc | apply pw_below_drewN | apply below_drew1) | exact HB.out)) hb);clear hb hbox hg) | ((with_reducible refine gate_dst (N := 3) rfl ?_);refine box_event ?hg (N := 3) ?hd (cs := #[.int .i64 a1_0, .int .i64 a1_1, .int .i64 a1_2, .slice A1_3 l1_3.length c1_3]) (t := 29) ?hr ?_;(case hd => rfl);(case hg => rfl);(case hr => first | (go_simp;done) | (go_simp;rfl));intro gb107 hg w24 hbox hb;have BK107 := m0_ (hbox);have GW107 := m0_ ((by rw [hg];exact (below_size (by repeat (first | (with_reducible first | exact HB.out | apply below_alloc | apply pw_below_drewN | apply below_drew1 | refine below_set ?_ GE106.out) | exact HB.out))) : w.heap.size ≤ gb107));have GE107 := m0_ ((by rw [hg];exact (below_size (by repeat (first | (with_reducible first | exact HB.out | apply below_alloc | apply pw_below_drewN | apply below_drew1 | refine below_set ?_ GE106.out) | exact HB.out))) : w.heap.size ≤ gb107));replace HB := m0_ (below_step (by repeat (first | (with_reducible first | exact HB.out | apply below_alloc | apply pw_below_drewN | apply below_drew1 | refine below_set ?_ GE106.out) | exact HB.out)) hb);have NB106_107 := m0_ ((by rw [hg];exact Nat.ne_of_lt (blk_lt BK106.out) : gb106 ≠ gb107));have NB107_106 := m0_ ((by rw [hg];exact Nat.ne_of_gt (blk_lt BK106.out) : gb107 ≠ gb106));replace BK106 := m0_ (blk_below BK106.out hb);clear hb hbox hg;have hnb25 := NB106_107.out;have hnc25 := NB107_106.out;obtain ⟨hcz26_0, hcz26_1, hcz26_2, hcz26_3, hfz26_0, hfz26_1, hfz26_2, hfz26_3⟩ := bx4 BK106.out;obtain ⟨hcz27_0, hcz27_1, hcz27_2, hcz27_3, hfz27_0, hfz27_1, hfz27_2, hfz27_3⟩ := bx4 BK107.out))
  go_ret
  exact ⟨by first | rfl | (simp [errW_none, errW_some] <;> rfl) | (simp [*, errW_none, errW_some] <;> rfl), by repeat (first | (with_reducible first | exact HB.out | apply below_alloc | apply pw_below_drewN | apply below_drew1 | refine below_set ?_ GE106.out | refine below_set ?_ GE107.out) | exact HB.out)⟩
 rw [if_pos c3] at H
 have c3b0 : (a0_0 == a1_0) = true := beq_iff_eq.mpr c3
 have c3b1 : (a0_0 != a1_0) = false := bne_eq_false_iff_eq.mpr c3
 clear c3
 by_cases c4 : a0_1 = a1_1
 rotate_left
 ·rw [if_neg c4] at H
  have c4b0 : (a0_1 == a1_1) = false := beq_eq_false_iff_ne.mpr c4
  have c4b1 : (a0_1 != a1_1) = true := bne_iff_ne.mpr c4
  obtain rfl := Option.some.inj H
  go_enter Tryd.func15, Tryd.ntmps15
  go_wp2_with (first | ((with_reducible refine gate_dst (N := 2) rfl ?_);refine box_event ?hg (N := 2) ?hd (cs := #[.int .i64 a0_0, .int .i64 a0_1, .int .i64 a0_2, .slice A0_3 l0_3.length c0_3]) (t := 29) ?hr ?_;(case hd => rfl);(case hg => rfl);(case hr => first | (go_simp;done) | (go_simp;rfl));intro gb106 hg w18 hbox hb;have BK106 := m0_ (hbox);have GW106 := m0_ ((by rw [hg];exact (below_size (by repeat (first | (with_reducible first | exact HB.out | apply below_alloc | apply pw_below_drewN | apply below_drew1) | exact HB.out))) : w.heap.size ≤ gb106));have GE106 := m0_ ((by rw [hg];exact (below_size (by repeat (first | (with_reducible first | exact HB.out | apply below_alloc | apply pw_below_drewN | apply below_drew1) | exact HB.out))) : w.heap.size ≤ gb106));replace HB := m0_ (below_step (by repeat (first | (with_reducible first | exact HB.out | apply below_alloc | apply pw_below_drewN | apply below_drew1) | exact HB.out)) hb);clear hb hbox hg) | ((with_reducible refine gate_dst (N := 3) rfl ?_);refine box_event ?hg (N := 3) ?hd (cs := #[.int .i64 a1_0, .int .i64 a1_1, .int .i64 a1_2, .slice A1_3 l1_3.length c1_3]) (t := 29) ?hr ?_;(case hd => rfl);(case hg => rfl);(case hr => first | (go_simp;done) | (go_simp;rfl));intro gb107 hg w19 hbox hb;have BK107 := m0_ (hbox);have GW107 := m0_ ((by rw [hg];exact (below_size (by repeat (first | (with_reducible first | exact HB.out | apply below_alloc | apply pw_below_drewN | apply below_drew1 | refine below_set ?_ GE106.out) | exact HB.out))) : w.heap.size ≤ gb107));have GE107 := m0_ ((by rw [hg];exact (below_size (by repeat (first | (with_reducible first | exact HB.out | apply below_alloc | apply pw_below_drewN | apply below_drew1 | refine below_set ?_ GE106.out) | exact HB.out))) : w.heap.size ≤ gb107));replace HB := m0_ (below_step (by repeat (first | (with_reducible first | exact HB.out | apply below_alloc | apply pw_below_drewN | apply below_drew1 | refine below_set ?_ GE106.out) | exact HB.out)) hb);have NB106_107 := m0_ ((by rw [hg];exact Nat.ne_of_lt (blk_lt BK106.out) : gb106 ≠ gb107));have NB107_106 := m0_ ((by rw [hg];exact Nat.ne_of_gt (blk_lt BK106.out) : gb107 ≠ gb106));replace BK106 := m0_ (blk_below BK106.out hb);clear hb hbox hg;have hnb20 := NB106_107.out;have hnc20 := NB107_106.out;obtain ⟨hcz21_0, hcz21_1, hcz21_2, hcz21_3, hfz21_0, hfz21_1, hfz21_2, hfz21_3⟩ := bx4 BK106.out;obtain ⟨hcz22_0, hcz22_1, hcz22_2, hcz22_3, hfz22_0, hfz22_1, hfz22_2, hfz22_3⟩ := bx4 BK107.out))
  go_ret
  exact ⟨by first | rfl | (simp [errW_none, errW_some] <;> rfl) | (simp [*, errW_none, errW_some] <;> rfl), by repeat (first | (with_reducible first | exact HB.out | apply below_alloc | apply pw_below_drewN | apply below_drew1 | refine below_set ?_ GE106.out | refine below_set ?_ GE107.out) | exact HB.out)⟩
 rw [if_pos c4] at H
 have c4b0 : (a0_1 == a1_1) = true := beq_iff_eq.mpr c4
 have c4b1 : (a0_1 != a1_1) = false := bne_eq_false_iff_eq.mpr c4
 clear c4
 by_cases c5 : a0_2 = a1_2
 ·rw [if_pos c5] at H
  have c5b0 : (a0_2 == a1_2) = true := beq_iff_eq.mpr c5
  have c5b1 : (a0_2 != a1_2) = false := bne_eq_false_iff_eq.mpr c5
  clear c5
  replace H := Option.bind_eq_some_iff.mp H
  obtain ⟨t108, A60, H⟩ := H
  replace H : (some t108) = some r := H
  have A6 := m0_ A60
  clear A60
  obtain rfl := Option.some.inj H
  go_enter Tryd.func15, Tryd.ntmps15
  go_wp2_with (first | ((with_reducible refine gate_dst (N := 2) rfl ?_);refine box_event ?hg (N := 2) ?hd (cs := #[.int .i64 a0_0, .int .i64 a0_1, .int .i64 a0_2, .slice A0_3 l0_3.length c0_3]) (t := 29) ?hr ?_;(case hd => rfl);(case hg => rfl);(case hr => first | (go_simp;done) | (go_simp;rfl));intro gb106 hg w7 hbox hb;have BK106 := m0_ (hbox);have GW106 := m0_ ((by rw [hg];exact (below_size (by repeat (first | (with_reducible first | exact HB.out | apply below_alloc | apply pw_below_drewN | apply below_drew1) | exact HB.out))) : w.heap.size ≤ gb106));have GE106 := m0_ ((by rw [hg];exact (below_size (by repeat (first | (with_reducible first | exact HB.out | apply below_alloc | apply pw_below_drewN | apply below_drew1) | exact HB.out))) : w.heap.size ≤ gb106));replace HB := m0_ (below_step (by repeat (first | (with_reducible first | exact HB.out | apply below_alloc | apply pw_below_drewN | apply below_drew1) | exact HB.out)) hb);clear hb hbox hg) | ((with_reducible refine gate_dst (N := 3) rfl ?_);refine box_event ?hg (N := 3) ?hd (cs := #[.int .i64 a1_0, .int .i64 a1_1, .int .i64 a1_2, .slice A1_3 l1_3.length c1_3]) (t := 29) ?hr ?_;(case hd => rfl);(case hg => rfl);(case hr => first | (go_simp;done) | (go_simp;rfl));intro gb107 hg w8 hbox hb;have BK107 := m0_ (hbox);have GW107 := m0_ ((by rw [hg];exact (below_size (by repeat (first | (with_reducible first | exact HB.out | apply below_alloc | apply pw_below_drewN | apply below_drew1 | refine below_set ?_ GE106.out) | exact HB.out))) : w.heap.size ≤ gb107));have GE107 := m0_ ((by rw [hg];exact (below_size (by repeat (first | (with_reducible first | exact HB.out | apply below_alloc | apply pw_below_drewN | apply below_drew1 | refine below_set ?_ GE106.out) | exact HB.out))) : w.heap.size ≤ gb107));replace HB := m0_ (below_step (by repeat (first | (with_reducible first | exact HB.out | apply below_alloc | apply pw_below_drewN | apply below_drew1 | refine below_set ?_ GE106.out) | exact HB.out)) hb);have NB106_107 := m0_ ((by rw [hg];exact Nat.ne_of_lt (blk_lt BK106.out) : gb106 ≠ gb107));have NB107_106 := m0_ ((by rw [hg];exact Nat.ne_of_gt (blk_lt BK106.out) : gb107 ≠ gb106));replace BK106 := m0_ (blk_below BK106.out hb);clear hb hbox hg;have hnb9 := NB106_107.out;have hnc9 := NB107_106.out;obtain ⟨hcz10_0, hcz10_1, hcz10_2, hcz10_3, hfz10_0, hfz10_1, hfz10_2, hfz10_3⟩ := bx4 BK106.out;obtain ⟨hcz11_0, hcz11_1, hcz11_2, hcz11_3, hfz11_0, hfz11_1, hfz11_2, hfz11_3⟩ := bx4 BK107.out) | (go_at_call 34;(with_reducible refine (ih_34 k (by omega) _ _ l0_3 _ _ l1_3  t108 _ ?side1 ?side2 ?side3 ?side4 A6.out).mono ?_);(case side1 => repeat (first | exact (Kd.C_below HR0_3.out HB.out) | (with_reducible refine Kd.C_alloc ?_ _) | (with_reducible refine Kd.C_drewN ?_ _) | (with_reducible refine Kd.C_drew ?_)));(case side2 => exact HC0_3.out);(case side3 => repeat (first | exact (Kd.C_below HR1_3.out HB.out) | (with_reducible refine Kd.C_alloc ?_ _) | (with_reducible refine Kd.C_drewN ?_ _) | (with_reducible refine Kd.C_drew ?_)));(case side4 => exact HC1_3.out);rintro e w12 ⟨rfl, hb⟩;replace BK106 := m0_ (blk_below BK106.out hb);replace BK107 := m0_ (blk_below BK107.out hb);replace HB := m0_ (below_step (by repeat (first | (with_reducible first | exact HB.out | apply below_alloc | apply pw_below_drewN | apply below_drew1 | refine below_set ?_ GE106.out | refine below_set ?_ GE107.out) | exact HB.out)) hb);(try clear hb);(try clear hb2);(try clear hk);(try clear hi)))
  go_ret
  exact ⟨by first | rfl | (simp [errW_none, errW_some] <;> rfl) | (simp [*, errW_none, errW_some] <;> rfl), by repeat (first | (with_reducible first | exact HB.out | apply below_alloc | apply pw_below_drewN | apply below_drew1 | refine below_set ?_ GE106.out | refine below_set ?_ GE107.out) | exact HB.out)⟩
 ·rw [if_neg c5] at H
  have c5b0 : (a0_2 == a1_2) = false := beq_eq_false_iff_ne.mpr c5
  have c5b1 : (a0_2 != a1_2) = true := bne_iff_ne.mpr c5
  obtain rfl := Option.some.inj H
  go_enter Tryd.func15, Tryd.ntmps15
  go_wp2_with (first | ((with_reducible refine gate_dst (N := 2) rfl ?_);refine box_event ?hg (N := 2) ?hd (cs := #[.int .i64 a0_0, .int .i64 a0_1, .int .i64 a0_2, .slice A0_3 l0_3.length c0_3]) (t := 29) ?hr ?_;(case hd => rfl);(case hg => rfl);(case hr => first | (go_simp;done) | (go_simp;rfl));intro gb106 hg w13 hbox hb;have BK106 := m0_ (hbox);have GW106 := m0_ ((by rw [hg];exact (below_size (by repeat (first | (with_reducible first | exact HB.out | apply below_alloc | apply pw_below_drewN | apply below_drew1) | exact HB.out))) : w.heap.size ≤ gb106));have GE106 := m0_ ((by rw [hg];exact (below_size (by repeat (first | (with_reducible first | exact HB.out | apply below_alloc | apply pw_below_drewN | apply below_drew1) | exact HB.out))) : w.heap.size ≤ gb106));replace HB := m0_ (below_step (by repeat (first | (with_reducible first | exact HB.out | apply below_alloc | apply pw_below_drewN | apply below_drew1) | exact HB.out)) hb);clear hb hbox hg) | ((with_reducible refine gate_dst (N := 3) rfl ?_);refine box_event ?hg (N := 3) ?hd (cs := #[.int .i64 a1_0, .int .i64 a1_1, .int .i64 a1_2, .slice A1_3 l1_3.length c1_3]) (t := 29) ?hr ?_;(case hd => rfl);(case hg => rfl);(case hr => first | (go_simp;done) | (go_simp;rfl));intro gb107 hg w14 hbox hb;have BK107 := m0_ (hbox);have GW107 := m0_ ((by rw [hg];exact (below_size (by repeat (first | (with_reducible first | exact HB.out | apply below_alloc | apply pw_below_drewN | apply below_drew1 | refine below_set ?_ GE106.out) | exact HB.out))) : w.heap.size ≤ gb107));have GE107 := m0_ ((by rw [hg];exact (below_size (by repeat (first | (with_reducible first | exact HB.out | apply below_alloc | apply pw_below_drewN | apply below_drew1 | refine below_set ?_ GE106.out) | exact HB.out))) : w.heap.size ≤ gb107));replace HB := m0_ (below_step (by repeat (first | (with_reducible first | exact HB.out | apply below_alloc | apply pw_below_drewN | apply below_drew1 | refine below_set ?_ GE106.out) | exact HB.out)) hb);have NB106_107 := m0_ ((by rw [hg];exact Nat.ne_of_lt (blk_lt BK106.out) : gb106 ≠ gb107));have NB107_106 := m0_ ((by rw [hg];exact Nat.ne_of_gt (blk_lt BK106.out) : gb107 ≠ gb106));replace BK106 := m0_ (blk_below BK106.out hb);clear hb hbox hg;have hnb15 := NB106_107.out;have hnc15 := NB107_106.out;obtain ⟨hcz16_0, hcz16_1, hcz16_2, hcz16_3, hfz16_0, hfz16_1, hfz16_2, hfz16_3⟩ := bx4 BK106.out;obtain ⟨hcz17_0, hcz17_1, hcz17_2, hcz17_3, hfz17_0, hfz17_1, hfz17_2, hfz17_3⟩ := bx4 BK107.out))
  go_ret
  exact ⟨by first | rfl | (simp [errW_none, errW_some] <;> rfl) | (simp [*, errW_none, errW_some] <;> rfl), by repeat (first | (with_reducible first | exact HB.out | apply below_alloc | apply pw_below_drewN | apply below_drew1 | refine below_set ?_ GE106.out | refine below_set ?_ GE107.out) | exact HB.out)⟩

theorem impl_Ex_34.calls_all (k : Nat) : (∀ (A0 : Option Addr) (c0 : Nat) (l0 : List (S29)) (A1 : Option Addr) (c1 : Nat) (l1 : List (S29))  (r : Bool) (w : World) (hr0 : Kd.C k29 w A0 l0.length l0) (hc0 : l0.length ≤ c0) (hr1 : Kd.C k29 w A1 l1.length l1) (hc1 : l1.length ≤ c1) (h : impl_Ex_34.f k l0 l1 = some r),
  Calls Tryd.prog 34 #[.slice A0 l0.length c0, .slice A1 l1.length c1, .func (.func 15) #[] #[]] w fun e w' => e = .returned (.bool r) ∧ Below w.heap.size w w') ∧ (∀ (a0_0 : Int) (a0_1 : Int) (a0_2 : Int) (A0_3 : Option Addr) (c0_3 : Nat) (l0_3 : List (S29)) (a1_0 : Int) (a1_1 : Int) (a1_2 : Int) (A1_3 : Option Addr) (c1_3 : Nat) (l1_3 : List (S29)) (r : Bool) (w : World) (hr0_3 : Kd.C k29 w A0_3 l0_3.length l0_3) (hc0_3 : l0_3.length ≤ c0_3) (hr1_3 : Kd.C k29 w A1_3 l1_3.length l1_3) (hc1_3 : l1_3.length ≤ c1_3) (h : impl_ExSame.f k a0_0 a0_1 a0_2 l0_3 a1_0 a1_1 a1_2 l1_3 = some r),
  Calls Tryd.prog 15 #[.agg #[.int .i64 a0_0, .int .i64 a0_1, .int .i64 a0_2, .slice A0_3 l0_3.length c0_3], .agg #[.int .i64 a1_0, .int .i64 a1_1, .int .i64 a1_2, .slice A1_3 l1_3.length c1_3]] w fun e w' => e = .returned (.bool r) ∧ Below w.heap.size w w') := by
 induction k using Nat.strongRecOn with
 | _ k ih =>
 exact ⟨impl_Ex_34.calls_step k (fun k_ h_ => (ih k_ h_).1) (fun k_ h_ => (ih k_ h_).2), impl_ExSame.calls_step k (fun k_ h_ => (ih k_ h_).1) (fun k_ h_ => (ih k_ h_).2)⟩
theorem impl_ExSame.calls (k : Nat) : ∀ (a0_0 : Int) (a0_1 : Int) (a0_2 : Int) (A0_3 : Option Addr) (c0_3 : Nat) (l0_3 : List (S29)) (a1_0 : Int) (a1_1 : Int) (a1_2 : Int) (A1_3 : Option Addr) (c1_3 : Nat) (l1_3 : List (S29)) (r : Bool) (w : World) (hr0_3 : Kd.C k29 w A0_3 l0_3.length l0_3) (hc0_3 : l0_3.length ≤ c0_3) (hr1_3 : Kd.C k29 w A1_3 l1_3.length l1_3) (hc1_3 : l1_3.length ≤ c1_3) (h : impl_ExSame.f k a0_0 a0_1 a0_2 l0_3 a1_0 a1_1 a1_2 l1_3 = some r),
  Calls Tryd.prog 15 #[.agg #[.int .i64 a0_0, .int .i64 a0_1, .int .i64 a0_2, .slice A0_3 l0_3.length c0_3], .agg #[.int .i64 a1_0, .int .i64 a1_1, .int .i64 a1_2, .slice A1_3 l1_3.length c1_3]] w fun e w' => e = .returned (.bool r) ∧ Below w.heap.size w w' := (impl_Ex_34.calls_all k).2

mutual
def spec_ExSame.j0 : Nat → Bool → Int → Int → Int → List (S29) → Int → Int → Int → List (S29) → Option (Bool)
 | 0, _, _, _, _, _, _, _, _, _ => none
 | k + 1, x33, x102000, x102001, x102002, x102003, x103000, x103001, x103002, x103003 => if x33 = true then (some false) else (spec_ExSame.l0 k 0 x102000 x102001 x102002 x102003 x103000 x103001 x103002 x103003)
def spec_ExSame.l0 : Nat → Int → Int → Int → Int → List (S29) → Int → Int → Int → List (S29) → Option (Bool)
 | 0, _, _, _, _, _, _, _, _, _ => none
 | k + 1, x5, x102000, x102001, x102002, x102003, x103000, x103001, x103002, x103003 => if x5 < (x102003.length : Int) then (if 0 ≤ x5 then (if x5 < (x103003.length : Int) then ((spec_ExSame.f k ((rd_T29 x102003 x5).f0) ((rd_T29 x102003 x5).f1) ((rd_T29 x102003 x5).f2) ((rd_T29 x102003 x5).f3) ((rd_T29 x103003 x5).f0) ((rd_T29 x103003 x5).f1) ((rd_T29 x103003 x5).f2) ((rd_T29 x103003 x5).f3)).bind fun t105 => (if t105 = true then (spec_ExSame.l0 k (wrap64 (x5 + 1)) x102000 x102001 x102002 x102003 x103000 x103001 x103002 x103003) else (some false))) else (none)) else (none)) else (some true)
def spec_ExSame.f : Nat → Int → Int → Int → List (S29) → Int → Int → Int → List (S29) → Option (Bool)
 | 0, _, _, _, _, _, _, _, _ => none
 | k + 1, a0_0, a0_1, a0_2, l0_3, a1_0, a1_1, a1_2, l1_3 => if a0_0 = a1_0 then (if a0_1 = a1_1 then (if a0_2 = a1_2 then (spec_ExSame.j0 k ((l0_3.length : Int) != (l1_3.length : Int)) a0_0 a0_1 a0_2 l0_3 a1_0 a1_1 a1_2 l1_3) else (spec_ExSame.j0 k true a0_0 a0_1 a0_2 l0_3 a1_0 a1_1 a1_2 l1_3)) else (spec_ExSame.j0 k true a0_0 a0_1 a0_2 l0_3 a1_0 a1_1 a1_2 l1_3)) else (spec_ExSame.j0 k true a0_0 a0_1 a0_2 l0_3 a1_0 a1_1 a1_2 l1_3)
end
def spec_ExSame.T6 : Bool × List (List Nat × List Nat) := (true, [([], []), ([0], [0]), ([], []), ([1, 2], [1, 2]), ([3], [3]), ([], []), ([5], [5]), ([], []), ([6, 7], [6, 7]), ([8], [8]), ([4, 9], [4, 9]), ([10], [10])])
def spec_ExSame.B6 : List Nat := [0, 1, 0, 7, 15, 0, 32, 0, 224, 480, 1023, 2047]
theorem spec_ExSame.tab6 : rtab .any (opsOf Tryd.f16 6) = spec_ExSame.T6 := by kernel_rfl
theorem spec_ExSame.bits6 : waitsOk spec_ExSame.T6.2 spec_ExSame.B6 = true := by kernel_rfl
set_option maxHeartbeats 8000000 in
set_option maxRecDepth 100000 in
theorem spec_ExSame.calls (k : Nat) : ∀ (a0_0 : Int) (a0_1 : Int) (a0_2 : Int) (A0_3 : Option Addr) (c0_3 : Nat) (l0_3 : List (S29)) (a1_0 : Int) (a1_1 : Int) (a1_2 : Int) (A1_3 : Option Addr) (c1_3 : Nat) (l1_3 : List (S29)) (r : Bool) (w : World) (hr0_3 : Kd.C k29 w A0_3 l0_3.length l0_3) (hc0_3 : l0_3.length ≤ c0_3) (hr1_3 : Kd.C k29 w A1_3 l1_3.length l1_3) (hc1_3 : l1_3.length ≤ c1_3) (h : spec_ExSame.f k a0_0 a0_1 a0_2 l0_3 a1_0 a1_1 a1_2 l1_3 = some r),
  Calls Tryd.prog 16 #[.agg #[.int .i64 a0_0, .int .i64 a0_1, .int .i64 a0_2, .slice A0_3 l0_3.length c0_3], .agg #[.int .i64 a1_0, .int .i64 a1_1, .int .i64 a1_2, .slice A1_3 l1_3.length c1_3]] w fun e w' => e = .returned (.bool r) ∧ Below w.heap.size w w' := by
 induction k using Nat.strongRecOn with
 | _ k ih =>
 intro a0_0 a0_1 a0_2 A0_3 c0_3 l0_3 a1_0 a1_1 a1_2 A1_3 c1_3 l1_3 r w hr0_3 hc0_3 hr1_3 hc1_3 h
 cases k with
 | zero => exact absurd h (by simp [spec_ExSame.f])
 | succ k =>
 simp only [spec_ExSame.f] at h
 have hu29 := Tryd.underlying29
 have HR0_3 := m0_ hr0_3
 have HC0_3 := m0_ hc0_3
 clear hr0_3 hc0_3
 have HR1_3 := m0_ hr1_3
 have HC1_3 := m0_ hc1_3
 clear hr1_3 hc1_3
 have HB := m0_ (Below.refl w.heap.size w)
 have H : (if a0_0 = a1_0 then (if a0_1 = a1_1 then (if a0_2 = a1_2 then (spec_ExSame.j0 k ((l0_3.length : Int) != (l1_3.length : Int)) a0_0 a0_1 a0_2 l0_3 a1_0 a1_1 a1_2 l1_3) else (spec_ExSame.j0 k true a0_0 a0_1 a0_2 l0_3 a1_0 a1_1 a1_2 l1_3)) else (spec_ExSame.j0 k true a0_0 a0_1 a0_2 l0_3 a1_0 a1_1 a1_2 l1_3)) else (spec_ExSame.j0 k true a0_0 a0_1 a0_2 l0_3 a1_0 a1_1 a1_2 l1_3)) = some r := h
 clear h
 have HC3 := m0_ H
 clear H
 go_enter Tryd.func16, Tryd.ntmps16
 go_upto_region 1 with (first | ((with_reducible refine gate_dst (N := 2) rfl ?_);(try (refine gate_guard (by rfl) ?_;dsimp only));refine box_event ?hg (N := 2) ?hd (cs := #[.int .i64 a0_0, .int .i64 a0_1, .int .i64 a0_2, .slice A0_3 l0_3.length c0_3]) (t := 29) ?hr ?_;(case hd => rfl);(case hg => rfl);(case hr => first | (go_simp;done) | (go_simp;rfl));intro gb101 hg w4 hbox hb;have BK101 := m0_ (hbox);have GW101 := m0_ ((by rw [hg];exact (below_size (by exact HB.out)) : w.heap.size ≤ gb101));have GE101 := m0_ ((by rw [hg];exact (below_size (by exact HB.out)) : w.heap.size ≤ gb101));replace HB := m0_ (below_step (by exact HB.out) hb);clear hb hbox hg) | ((with_reducible refine gate_dst (N := 3) rfl ?_);(try (refine gate_guard (by rfl) ?_;dsimp only));refine box_event ?hg (N := 3) ?hd (cs := #[.int .i64 a1_0, .int .i64 a1_1, .int .i64 a1_2, .slice A1_3 l1_3.length c1_3]) (t := 29) ?hr ?_;(case hd => rfl);(case hg => rfl);(case hr => first | (go_simp;done) | (go_simp;rfl));intro gb102 hg w5 hbox hb;have BK102 := m0_ (hbox);have GW102 := m0_ ((by rw [hg];exact (below_size (by exact HB.out)) : w.heap.size ≤ gb102));have GE102 := m0_ ((by rw [hg];exact (below_size (by exact HB.out)) : w.heap.size ≤ gb102));replace HB := m0_ (below_step (by exact HB.out) hb);have NB101_102 := m0_ ((by rw [hg];exact Nat.ne_of_lt (blk_lt BK101.out) : gb101 ≠ gb102));have NB102_101 := m0_ ((by rw [hg];exact Nat.ne_of_gt (blk_lt BK101.out) : gb102 ≠ gb101));replace BK101 := m0_ (blk_below BK101.out hb);clear hb hbox hg))
 (try simp only [Act.put, List.setIfInBounds_toArray, List.set_cons_zero, List.set_cons_succ])
 go_cut [33] (fun v33 wc => ∃ (kq : Nat) (x33_2 : Bool), v33 = .bool x33_2 ∧ Aside0 (spec_ExSame.j0 kq x33_2 a0_0 a0_1 a0_2 l0_3 a1_0 a1_1 a1_2 l1_3 = some r) ∧ Aside0 (kq ≤ k) ∧ Aside0 (wc.heap[gb101]? = some (.cells #[.int .i64 a0_0, .int .i64 a0_1, .int .i64 a0_2, (.slice A0_3 l0_3.length c0_3)] 29 (0, 0))) ∧ Aside0 (wc.heap[gb102]? = some (.cells #[.int .i64 a1_0, .int .i64 a1_1, .int .i64 a1_2, (.slice A1_3 l1_3.length c1_3)] 29 (0, 0))) ∧ Aside0 (Below w.heap.size w wc))
 case first =>
  have H := HC3.out
  clear HC3
  by_cases c6 : a0_0 = a1_0
  rotate_left
  ·rw [if_neg c6] at H
   have c6b0 : (a0_0 == a1_0) = false := beq_eq_false_iff_ne.mpr c6
   have c6b1 : (a0_0 != a1_0) = true := bne_iff_ne.mpr c6
   (first | rw [c6b0] | (simp only [i64_w, i32_w];rw [c6b0]) | skip)
   have H' := m0_ H
   clear H
   have hnb18 := NB101_102.out
   have hnc18 := NB102_101.out
   obtain ⟨hcz19_0, hcz19_1, hcz19_2, hcz19_3, hfz19_0, hfz19_1, hfz19_2, hfz19_3⟩ := bx4 BK101.out
   obtain ⟨hcz20_0, hcz20_1, hcz20_2, hcz20_3, hfz20_0, hfz20_1, hfz20_2, hfz20_3⟩ := bx4 BK102.out
   go_wp2
   go_meet
   case rel => exact ⟨_, (true), (by first | rfl | (simp;done) | (simp [*];done)), H', ⟨by first | omega | exact Nat.le_refl _⟩, ⟨by (with_reducible repeat (first | refine blk_drewN ?_ _ | refine blk_drew ?_ | refine blk_alloc ?_ _));exact BK101.out⟩, ⟨by (with_reducible repeat (first | refine blk_drewN ?_ _ | refine blk_drew ?_ | refine blk_alloc ?_ _));exact BK102.out⟩, ⟨by repeat (first | (with_reducible first | exact HB.out | apply below_alloc | apply pw_below_drewN | apply below_drew1 | refine below_set ?_ GE101.out | refine below_set ?_ GE102.out) | exact HB.out)⟩⟩
  rw [if_pos c6] at H
  have c6b0 : (a0_0 == a1_0) = true := beq_iff_eq.mpr c6
  have c6b1 : (a0_0 != a1_0) = false := bne_eq_false_iff_eq.mpr c6
  clear c6
  (first | rw [c6b0] | (simp only [i64_w, i32_w];rw [c6b0]) | skip)
  by_cases c7 : a0_1 = a1_1
  rotate_left
  ·rw [if_neg c7] at H
   have c7b0 : (a0_1 == a1_1) = false := beq_eq_false_iff_ne.mpr c7
   have c7b1 : (a0_1 != a1_1) = true := bne_iff_ne.mpr c7
   have H' := m0_ H
   clear H
   have hnb15 := NB101_102.out
   have hnc15 := NB102_101.out
   obtain ⟨hcz16_0, hcz16_1, hcz16_2, hcz16_3, hfz16_0, hfz16_1, hfz16_2, hfz16_3⟩ := bx4 BK101.out
   obtain ⟨hcz17_0, hcz17_1, hcz17_2, hcz17_3, hfz17_0, hfz17_1, hfz17_2, hfz17_3⟩ := bx4 BK102.out
   go_wp2
   go_meet
   case rel => exact ⟨_, (true), (by first | rfl | (simp;done) | (simp [*];done)), H', ⟨by first | omega | exact Nat.le_refl _⟩, ⟨by (with_reducible repeat (first | refine blk_drewN ?_ _ | refine blk_drew ?_ | refine blk_alloc ?_ _));exact BK101.out⟩, ⟨by (with_reducible repeat (first | refine blk_drewN ?_ _ | refine blk_drew ?_ | refine blk_alloc ?_ _));exact BK102.out⟩, ⟨by repeat (first | (with_reducible first | exact HB.out | apply below_alloc | apply pw_below_drewN | apply below_drew1 | refine below_set ?_ GE101.out | refine below_set ?_ GE102.out) | exact HB.out)⟩⟩
  rw [if_pos c7] at H
  have c7b0 : (a0_1 == a1_1) = true := beq_iff_eq.mpr c7
  have c7b1 : (a0_1 != a1_1) = false := bne_eq_false_iff_eq.mpr c7
  clear c7
  by_cases c8 : a0_2 = a1_2
  ·rw [if_pos c8] at H
   have c8b0 : (a0_2 == a1_2) = true := beq_iff_eq.mpr c8
   have c8b1 : (a0_2 != a1_2) = false := bne_eq_false_iff_eq.mpr c8
   clear c8
   have H' := m0_ H
   clear H
   have hnb9 := NB101_102.out
   have hnc9 := NB102_101.out
   obtain ⟨hcz10_0, hcz10_1, hcz10_2, hcz10_3, hfz10_0, hfz10_1, hfz10_2, hfz10_3⟩ := bx4 BK101.out
   obtain ⟨hcz11_0, hcz11_1, hcz11_2, hcz11_3, hfz11_0, hfz11_1, hfz11_2, hfz11_3⟩ := bx4 BK102.out
   go_wp2
   go_meet
   case rel => exact ⟨_, (((l0_3.length : Int) != (l1_3.length : Int))), (by first | rfl | (simp;done) | (simp [*];done)), H', ⟨by first | omega | exact Nat.le_refl _⟩, ⟨by (with_reducible repeat (first | refine blk_drewN ?_ _ | refine blk_drew ?_ | refine blk_alloc ?_ _));exact BK101.out⟩, ⟨by (with_reducible repeat (first | refine blk_drewN ?_ _ | refine blk_drew ?_ | refine blk_alloc ?_ _));exact BK102.out⟩, ⟨by repeat (first | (with_reducible first | exact HB.out | apply below_alloc | apply pw_below_drewN | apply below_drew1 | refine below_set ?_ GE101.out | refine below_set ?_ GE102.out) | exact HB.out)⟩⟩
  ·rw [if_neg c8] at H
   have c8b0 : (a0_2 == a1_2) = false := beq_eq_false_iff_ne.mpr c8
   have c8b1 : (a0_2 != a1_2) = true := bne_iff_ne.mpr c8
   have H' := m0_ H
   clear H
   have hnb12 := NB101_102.out
   have hnc12 := NB102_101.out
   obtain ⟨hcz13_0, hcz13_1, hcz13_2, hcz13_3, hfz13_0, hfz13_1, hfz13_2, hfz13_3⟩ := bx4 BK101.out
   obtain ⟨hcz14_0, hcz14_1, hcz14_2, hcz14_3, hfz14_0, hfz14_1, hfz14_2, hfz14_3⟩ := bx4 BK102.out
   go_wp2
   go_meet
   case rel => exact ⟨_, (true), (by first | rfl | (simp;done) | (simp [*];done)), H', ⟨by first | omega | exact Nat.le_refl _⟩, ⟨by (with_reducible repeat (first | refine blk_drewN ?_ _ | refine blk_drew ?_ | refine blk_alloc ?_ _));exact BK101.out⟩, ⟨by (with_reducible repeat (first | refine blk_drewN ?_ _ | refine blk_drew ?_ | refine blk_alloc ?_ _));exact BK102.out⟩, ⟨by repeat (first | (with_reducible first | exact HB.out | apply below_alloc | apply pw_below_drewN | apply below_drew1 | refine below_set ?_ GE101.out | refine below_set ?_ GE102.out) | exact HB.out)⟩⟩
 case rest =>
  clear HC3
  try clear c1
  try clear p2
  try clear c6
  try clear c6b0
  try clear c6b1
  try clear c7
  try clear c7b0
  try clear c7b1
  try clear c8
  try clear c8b0
  try clear c8b1
  try clear c9
  try clear c12
  try clear c15
  try clear c16
  try clear c18
  try clear hcz10_0
  try clear hcz10_1
  try clear hcz10_2
  try clear hcz10_3
  try clear hcz11_0
  try clear hcz11_1
  try clear hcz11_2
  try clear hcz11_3
  try clear hcz13_0
  try clear hcz13_1
  try clear hcz13_2
  try clear hcz13_3
  try clear hcz14_0
  try clear hcz14_1
  try clear hcz14_2
  try clear hcz14_3
  try clear hcz16_0
  try clear hcz16_1
  try clear hcz16_2
  try clear hcz16_3
  try clear hcz17_0
  try clear hcz17_1
  try clear hcz17_2
  try clear hcz17_3
  try clear hcz19_0
  try clear hcz19_1
  try clear hcz19_2
  try clear hcz19_3
  try clear hcz20_0
  try clear hcz20_1
  try clear hcz20_2
  try clear hcz20_3
  try clear hfz10_0
  try clear hfz10_1
  try clear hfz10_2
  try clear hfz10_3
  try clear hfz11_0
  try clear hfz11_1
  try clear hfz11_2
  try clear hfz11_3
  try clear hfz13_0
  try clear hfz13_1
  try clear hfz13_2
  try clear hfz13_3
  try clear hfz14_0
  try clear hfz14_1
  try clear hfz14_2
  try clear hfz14_3
  try clear hfz16_0
  try clear hfz16_1
  try clear hfz16_2
  try clear hfz16_3
  try clear hfz17_0
  try clear hfz17_1
  try clear hfz17_2
  try clear hfz17_3
  try clear hfz19_0
  try clear hfz19_1
  try clear hfz19_2
  try clear hfz19_3
  try clear hfz20_0
  try clear hfz20_1
  try clear hfz20_2
  try clear hfz20_3
  obtain ⟨kq, x33_2, rfl, HA, HJ2, BK101, BK102, HB⟩ := hcut
  cases kq with
  | zero => exact absurd HA.out (by simp [spec_ExSame.j0])
  | succ kj2 =>
   have H := HA.out
   clear HA
   simp only [spec_ExSame.j0] at H
   by_cases c21 : x33_2 = true
   ·subst c21
    have H1 : (some false) = some r := by rw [if_pos rfl] at H;exact H
    clear H
    have H := H1
    clear H1
    obtain rfl := Option.some.inj H
    go_wp2
    go_ret
    exact ⟨by first | rfl | (simp [errW_none, errW_some] <;> rfl) | (simp [*, errW_none, errW_some] <;> rfl), by repeat (first | (with_reducible first | exact HB.out | apply below_alloc | apply pw_below_drewN | apply below_drew1 | refine below_set ?_ GE101.out | refine below_set ?_ GE102.out) | exact HB.out)⟩
   replace c21 := Bool.eq_false_iff.mpr c21
   subst c21
   have H1 : (spec_ExSame.l0 kj2 0 a0_0 a0_1 a0_2 l0_3 a1_0 a1_1 a1_2 l1_3) = some r := by rw [if_neg (show ¬ (false = true) by decide)] at H;exact H
   clear H
   have H := H1
   clear H1
   have H' := m0_ H
   clear H
   go_wp2
   go_loopg [5] kj2 (fun kq v5 w' => ∃ (x5_2 : Int), v5 = .int .i64 x5_2 ∧ Aside0 (spec_ExSame.l0 kq x5_2 a0_0 a0_1 a0_2 l0_3 a1_0 a1_1 a1_2 l1_3 = some r) ∧ Aside0 (kq ≤ kj2) ∧ Aside0 (w'.heap[gb101]? = some (.cells #[.int .i64 a0_0, .int .i64 a0_1, .int .i64 a0_2, (.slice A0_3 l0_3.length c0_3)] 29 (0, 0))) ∧ Aside0 (w'.heap[gb102]? = some (.cells #[.int .i64 a1_0, .int .i64 a1_1, .int .i64 a1_2, (.slice A1_3 l1_3.length c1_3)] 29 (0, 0))) ∧ Aside0 (Below w.heap.size w w'))
   case atStart => exact ⟨(0), (by first | rfl | (simp;done) | (simp [*];done)), H', ⟨Nat.le_refl _⟩, ⟨by (with_reducible repeat (first | refine blk_drewN ?_ _ | refine blk_drew ?_ | refine blk_alloc ?_ _));exact BK101.out⟩, ⟨by (with_reducible repeat (first | refine blk_drewN ?_ _ | refine blk_drew ?_ | refine blk_alloc ?_ _));exact BK102.out⟩, ⟨by repeat (first | (with_reducible first | exact HB.out | apply below_alloc | apply pw_below_drewN | apply below_drew1 | refine below_set ?_ GE101.out | refine below_set ?_ GE102.out) | exact HB.out)⟩⟩
   case round =>
    clear H'
    try clear c1
    try clear c2
    try clear p2
    try clear c6
    try clear c6b0
    try clear c6b1
    try clear c7
    try clear c7b0
    try clear c7b1
    try clear c8
    try clear c8b0
    try clear c8b1
    try clear c9
    try clear c12
    try clear c15
    try clear c16
    try clear c18
    try clear c21
    try clear hcz10_0
    try clear hcz10_1
    try clear hcz10_2
    try clear hcz10_3
    try clear hcz11_0
    try clear hcz11_1
    try clear hcz11_2
    try clear hcz11_3
    try clear hcz13_0
    try clear hcz13_1
    try clear hcz13_2
    try clear hcz13_3
    try clear hcz14_0
    try clear hcz14_1
    try clear hcz14_2
    try clear hcz14_3
    try clear hcz16_0
    try clear hcz16_1
    try clear hcz16_2
    try clear hcz16_3
    try clear hcz17_0
    try clear hcz17_1
    try clear hcz17_2
    try clear hcz17_3
    try clear hcz19_0
    try clear hcz19_1
    try clear hcz19_2
    try clear hcz19_3
    try clear hcz20_0
    try clear hcz20_1
    try clear hcz20_2
    try clear hcz20_3
    try clear hfz10_0
    try clear hfz10_1
    try clear hfz10_2
    try clear hfz10_3
    try clear hfz11_0
    try clear hfz11_1
    try clear hfz11_2
    try clear hfz11_3
    try clear hfz13_0
    try clear hfz13_1
    try clear hfz13_2
    try clear hfz13_3
    try clear hfz14_0
    try clear hfz14_1
    try clear hfz14_2
    try clear hfz14_3
    try clear hfz16_0
    try clear hfz16_1
    try clear hfz16_2
    try clear hfz16_3
    try clear hfz17_0
    try clear hfz17_1
    try clear hfz17_2
    try clear hfz17_3
    try clear hfz19_0
    try clear hfz19_1
    try clear hfz19_2
    try clear hfz19_3
    try clear hfz20_0
    try clear hfz20_1
    try clear hfz20_2
    try clear hfz20_3
    try clear p2
    obtain ⟨x5_2, rfl, HA, HK2, BK101, BK102, HB⟩ := hrel
    cases gk with
    | zero => exact absurd HA.out (by simp [spec_ExSame.l0])
    | succ k2 =>
     have H := HA.out
     clear HA
     simp only [spec_ExSame.l0] at H
     by_cases c22 : x5_2 < (l0_3.length : Int)
     rotate_left
     ·rw [if_neg c22] at H
      have c22b0 : decide (x5_2 < (l0_3.length : Int)) = false := decide_eq_false c22
      clear c22
      obtain rfl := Option.some.inj H
      have hnb35 := NB101_102.out
      have hnc35 := NB102_101.out
      obtain ⟨hcz36_0, hcz36_1, hcz36_2, hcz36_3, hfz36_0, hfz36_1, hfz36_2, hfz36_3⟩ := bx4 BK101.out
      go_wp2
      go_ret
      exact ⟨by first | rfl | (simp [errW_none, errW_some] <;> rfl) | (simp [*, errW_none, errW_some] <;> rfl), by repeat (first | (with_reducible first | exact HB.out | apply below_alloc | apply pw_below_drewN | apply below_drew1 | refine below_set ?_ GE101.out | refine below_set ?_ GE102.out) | exact HB.out)⟩
     rw [if_pos c22] at H
     have c22b0 : decide (x5_2 < (l0_3.length : Int)) = true := decide_eq_true c22
     clear c22
     by_cases c23 : 0 ≤ x5_2
     rotate_left
     ·rw [if_neg c23] at H
      exact absurd H (by simp)
     rw [if_pos c23] at H
     have c23b0 : decide (0 ≤ x5_2) = true := decide_eq_true c23
     clear c23
     by_cases c24 : x5_2 < (l1_3.length : Int)
     rotate_left
     ·rw [if_neg c24] at H
      exact absurd H (by simp)
     rw [if_pos c24] at H
     have c24b0 : decide (x5_2 < (l1_3.length : Int)) = true := decide_eq_true c24
     clear c24
     replace H := Option.bind_eq_some_iff.mp H
     obtain ⟨t105, A250, H⟩ := H
     replace H : (if t105 = true then (spec_ExSame.l0 k2 (wrap64 (x5_2 + 1)) a0_0 a0_1 a0_2 l0_3 a1_0 a1_1 a1_2 l1_3) else (some false)) = some r := H
     have A25 := m0_ A250
     clear A250
     by_cases c26 : t105 = true
     rotate_left
     ·replace c26 := Bool.eq_false_iff.mpr c26
      subst c26
      have H1 : (some false) = some r := by rw [if_neg (show ¬ (false = true) by decide)] at H;exact H
      clear H
      have H := H1
      clear H1
      obtain rfl := Option.some.inj H
      have hnb31 := NB101_102.out
      have hnc31 := NB102_101.out
      obtain ⟨hcz32_0, hcz32_1, hcz32_2, hcz32_3, hfz32_0, hfz32_1, hfz32_2, hfz32_3⟩ := bx4 BK101.out
      try go_wp2
      replace BK101 := m0_ (blk_drew BK101.out)
      replace BK102 := m0_ (blk_drew BK102.out)
      replace HB := m0_ (below_drew1 HB.out)
      have p103 : 0 ≤ (x5_2 : Int) := of_decide_eq_true (by first | (with_reducible assumption) | assumption)
      have q103 : x5_2 < (l0_3.length : Int) := of_decide_eq_true (by first | (with_reducible assumption) | assumption)
      obtain ⟨ad103, A103_3, c103_3, e103, hx103_0, hx103_1, hx103_2, hx103_3, hl103_3, hi103_3⟩ := at_T29 HR0_3.out x5_2 p103 q103
      have hw103_3 := hx103_3
      have hw103_2 := hx103_2
      have hw103_1 := hx103_1
      have hw103_0 := hx103_0
      cases e103
      replace hx103_0 := (HB.out.cell (World.block_lt_of_cell? w _ hx103_0)).trans hx103_0
      replace hx103_1 := (HB.out.cell (World.block_lt_of_cell? w _ hx103_1)).trans hx103_1
      replace hx103_2 := (HB.out.cell (World.block_lt_of_cell? w _ hx103_2)).trans hx103_2
      replace hx103_3 := (HB.out.cell (World.block_lt_of_cell? w _ hx103_3)).trans hx103_3
      have HR103_3 := m0_ hi103_3
      have HC103_3 := m0_ hl103_3
      clear hi103_3 hl103_3
      replace p103 := eq_true p103
      replace q103 := eq_true q103
      have p104 : 0 ≤ (x5_2 : Int) := of_decide_eq_true (by first | (with_reducible assumption) | assumption)
      have q104 : x5_2 < (l1_3.length : Int) := of_decide_eq_true (by first | (with_reducible assumption) | assumption)
      obtain ⟨ad104, A104_3, c104_3, e104, hx104_0, hx104_1, hx104_2, hx104_3, hl104_3, hi104_3⟩ := at_T29 HR1_3.out x5_2 p104 q104
      have hw104_3 := hx104_3
      have hw104_2 := hx104_2
      have hw104_1 := hx104_1
      have hw104_0 := hx104_0
      cases e104
      replace hx104_0 := (HB.out.cell (World.block_lt_of_cell? w _ hx104_0)).trans hx104_0
      replace hx104_1 := (HB.out.cell (World.block_lt_of_cell? w _ hx104_1)).trans hx104_1
      replace hx104_2 := (HB.out.cell (World.block_lt_of_cell? w _ hx104_2)).trans hx104_2
      replace hx104_3 := (HB.out.cell (World.block_lt_of_cell? w _ hx104_3)).trans hx104_3
      have HR104_3 := m0_ hi104_3
      have HC104_3 := m0_ hl104_3
      clear hi104_3 hl104_3
      replace p104 := eq_true p104
      replace q104 := eq_true q104
      refine start_ (n := 12) (S := fun w' => w'.cell? ⟨gb101, 0, none⟩ = some (.int .i64 a0_0) ∧ w'.cell? ⟨gb101, 1, none⟩ = some (.int .i64 a0_1) ∧ w'.cell? ⟨gb101, 2, none⟩ = some (.int .i64 a0_2) ∧ w'.cell? ⟨gb101, 3, none⟩ = some (.slice (some ad103) l0_3.length c0_3) ∧ w'.cell? ⟨gb102, 0, none⟩ = some (.int .i64 a1_0) ∧ w'.cell? ⟨gb102, 1, none⟩ = some (.int .i64 a1_1) ∧ w'.cell? ⟨gb102, 2, none⟩ = some (.int .i64 a1_2) ∧ w'.cell? ⟨gb102, 3, none⟩ = some (.slice (some ad104) l1_3.length c1_3) ∧ w'.cell? (ad103.add ((x5_2).toNat * 4)) = some (.int .i64 ((rd_T29 l0_3 x5_2).f0)) ∧ w'.cell? ⟨(ad103.add ((x5_2).toNat * 4)).block, (ad103.add ((x5_2).toNat * 4)).off + 1, none⟩ = some (.int .i64 ((rd_T29 l0_3 x5_2).f1)) ∧ w'.cell? ⟨(ad103.add ((x5_2).toNat * 4)).block, (ad103.add ((x5_2).toNat * 4)).off + 2, none⟩ = some (.int .i64 ((rd_T29 l0_3 x5_2).f2)) ∧ w'.cell? ⟨(ad103.add ((x5_2).toNat * 4)).block, (ad103.add ((x5_2).toNat * 4)).off + 3, none⟩ = some (.slice A103_3 ((rd_T29 l0_3 x5_2).f3).length c103_3) ∧ w'.cell? (ad104.add ((x5_2).toNat * 4)) = some (.int .i64 ((rd_T29 l1_3 x5_2).f0)) ∧ w'.cell? ⟨(ad104.add ((x5_2).toNat * 4)).block, (ad104.add ((x5_2).toNat * 4)).off + 1, none⟩ = some (.int .i64 ((rd_T29 l1_3 x5_2).f1)) ∧ w'.cell? ⟨(ad104.add ((x5_2).toNat * 4)).block, (ad104.add ((x5_2).toNat * 4)).off + 2, none⟩ = some (.int .i64 ((rd_T29 l1_3 x5_2).f2)) ∧ w'.cell? ⟨(ad104.add ((x5_2).toNat * 4)).block, (ad104.add ((x5_2).toNat * 4)).off + 3, none⟩ = some (.slice A104_3 ((rd_T29 l1_3 x5_2).f3).length c104_3)) (ds := []) #[false, false, false, false, false, false, false, false, false, false, false, false] (by kernel_rfl) rfl rfl ⟨(blk_cell BK101.out 0).trans rfl, (blk_cell BK101.out 1).trans rfl, (blk_cell BK101.out 2).trans rfl, (blk_cell BK101.out 3).trans rfl, (blk_cell BK102.out 0).trans rfl, (blk_cell BK102.out 1).trans rfl, (blk_cell BK102.out 2).trans rfl, (blk_cell BK102.out 3).trans rfl, ((HB.out.cell (World.block_lt_of_cell? w _ hw103_0)).trans hw103_0), ((HB.out.cell (World.block_lt_of_cell? w _ hw103_1)).trans hw103_1), ((HB.out.cell (World.block_lt_of_cell? w _ hw103_2)).trans hw103_2), ((HB.out.cell (World.block_lt_of_cell? w _ hw103_3)).trans hw103_3), ((HB.out.cell (World.block_lt_of_cell? w _ hw104_0)).trans hw104_0), ((HB.out.cell (World.block_lt_of_cell? w _ hw104_1)).trans hw104_1), ((HB.out.cell (World.block_lt_of_cell? w _ hw104_2)).trans hw104_2), ((HB.out.cell (World.block_lt_of_cell? w _ hw104_3)).trans hw104_3)⟩ (fun hHeld => ?_);refine with_tabW spec_ExSame.tab6 spec_ExSame.bits6 (fun HT_ HW_ => ?_)
      generalize wr.drew = w33 at BK101 BK102 HB HR103_3 HR104_3 hx103_0 hx103_1 hx103_2 hx103_3 hx104_0 hx104_1 hx104_2 hx104_3 hHeld ⊢
      refine pv_ 0 41 #[true, false, false, false, false, false, false, false, false, false, false, false] (any_of HT_.out (by kernel_rfl)) ?_
      refine pv_ 2 43 #[true, false, true, false, false, false, false, false, false, false, false, false] (any_of HT_.out (by kernel_rfl)) ?_
      refine pv_ 5 46 #[true, false, true, false, false, true, false, false, false, false, false, false] (any_of HT_.out (by kernel_rfl)) ?_
      refine pv_ 7 48 #[true, false, true, false, false, true, false, true, false, false, false, false] (any_of HT_.out (by kernel_rfl)) ?_
      refine take_ (i := 1) (N := some 42) (v := ?_) (a' := ?_) #[true, true, true, false, false, true, false, true, false, false, false, false] rfl rfl (take_ofW HT_.out HW_.out (by kernel_rfl)) (fun _ _ _ h => h) (Or.inl ⟨by rfl, ?_⟩) hHeld ?_ ?_
      rotate_left
      ·rintro w' ⟨s0, s1, s2, s3, s4, s5, s6, s7, s8, s9, s10, s11, s12, s13, s14, s15⟩
       go_simp
       with_reducible rfl
      rotate_left
      ·simp only [Act.put, List.setIfInBounds_toArray, List.set_cons_zero, List.set_cons_succ, i64_w, i32_w]
       rfl
      refine pv_ 3 44 #[true, true, true, true, false, true, false, true, false, false, false, false] (any_of HT_.out (by kernel_rfl)) ?_
      refine take_ (i := 4) (N := some 45) (v := ?_) (a' := ?_) #[true, true, true, true, true, true, false, true, false, false, false, false] rfl rfl (take_ofW HT_.out HW_.out (by kernel_rfl)) (fun _ _ _ h => h) (Or.inl ⟨by rfl, ?_⟩) hHeld ?_ ?_
      rotate_left
      ·rintro w' ⟨s0, s1, s2, s3, s4, s5, s6, s7, s8, s9, s10, s11, s12, s13, s14, s15⟩
       go_simp
       with_reducible rfl
      rotate_left
      ·simp only [Act.put, List.setIfInBounds_toArray, List.set_cons_zero, List.set_cons_succ, i64_w, i32_w]
       rfl
      refine take_ (i := 6) (N := some 47) (v := ?_) (a' := ?_) #[true, true, true, true, true, true, true, true, false, false, false, false] rfl rfl (take_ofW HT_.out HW_.out (by kernel_rfl)) (fun _ _ _ h => h) (Or.inl ⟨by rfl, ?_⟩) hHeld ?_ ?_
      rotate_left
      ·rintro w' ⟨s0, s1, s2, s3, s4, s5, s6, s7, s8, s9, s10, s11, s12, s13, s14, s15⟩
       go_simp
       with_reducible rfl
      rotate_left
      ·simp only [Act.put, List.setIfInBounds_toArray, List.set_cons_zero, List.set_cons_succ, i64_w, i32_w]
       rfl
      refine pv_ 8 49 #[true, true, true, true, true, true, true, true, true, false, false, false] (any_of HT_.out (by kernel_rfl)) ?_
      refine take_ (i := 9) (N := some 50) (v := ?_) (a' := ?_) #[true, true, true, true, true, true, true, true, true, true, false, false] rfl rfl (take_ofW HT_.out HW_.out (by kernel_rfl)) (fun _ _ _ h => h) (Or.inl ⟨by rfl, ?_⟩) hHeld ?_ ?_
      rotate_left
      ·rintro w' ⟨s0, s1, s2, s3, s4, s5, s6, s7, s8, s9, s10, s11, s12, s13, s14, s15⟩
       go_simp
       with_reducible rfl
      rotate_left
      ·simp only [Act.put, List.setIfInBounds_toArray, List.set_cons_zero, List.set_cons_succ, i64_w, i32_w]
       rfl
      refine one_ (i := 10) (N := some 51) #[true, true, true, true, true, true, true, true, true, true, true, false] rfl rfl (one_of HT_.out (by kernel_rfl)) (by decide) (fun K hK => ?_)
      refine goes_ Tryd.func16 (by kernel_rfl) rfl #[.agg #[.int .i64 ((rd_T29 l0_3 x5_2).f0), .int .i64 ((rd_T29 l0_3 x5_2).f1), .int .i64 ((rd_T29 l0_3 x5_2).f2), .slice A103_3 ((rd_T29 l0_3 x5_2).f3).length c103_3], .agg #[.int .i64 ((rd_T29 l1_3 x5_2).f0), .int .i64 ((rd_T29 l1_3 x5_2).f1), .int .i64 ((rd_T29 l1_3 x5_2).f2), .slice A104_3 ((rd_T29 l1_3 x5_2).f3).length c104_3]] (by rfl) rfl rfl (by (try simp only [List.map_toArray, List.map_cons, List.map_nil]);first | done | rfl | (simp only [List.length_drop, List.length_take];rfl)) ?_
      with_reducible refine (ih k2 (by have := HJ2.out;have := HK2.out;omega) ((rd_T29 l0_3 x5_2).f0) ((rd_T29 l0_3 x5_2).f1) ((rd_T29 l0_3 x5_2).f2) _ _ ((rd_T29 l0_3 x5_2).f3) ((rd_T29 l1_3 x5_2).f0) ((rd_T29 l1_3 x5_2).f1) ((rd_T29 l1_3 x5_2).f2) _ _ ((rd_T29 l1_3 x5_2).f3) false _ ?side1 ?side2 ?side3 ?side4 A25.out).mono ?_
      (case side1 => repeat (first | exact (Kd.C_below HR103_3.out HB.out) | (with_reducible refine Kd.C_alloc ?_ _) | (with_reducible refine Kd.C_drewN ?_ _) | (with_reducible refine Kd.C_drew ?_)))
      (case side2 => exact HC103_3.out)
      (case side3 => repeat (first | exact (Kd.C_below HR104_3.out HB.out) | (with_reducible refine Kd.C_alloc ?_ _) | (with_reducible refine Kd.C_drewN ?_ _) | (with_reducible refine Kd.C_drew ?_)))
      (case side4 => exact HC104_3.out)
      rintro e w34 ⟨rfl, hb⟩
      refine ⟨_, rfl, ?_⟩
      replace BK101 := m0_ (blk_below BK101.out hb)
      replace BK102 := m0_ (blk_below BK102.out hb)
      replace HB := m0_ (below_step (by exact HB.out) hb)
      (try clear hb)
      (try clear hb2)
      (try clear hk)
      (try clear hi)
      refine hK.out _ _ ⟨(blk_cell BK101.out 0).trans rfl, (blk_cell BK101.out 1).trans rfl, (blk_cell BK101.out 2).trans rfl, (blk_cell BK101.out 3).trans rfl, (blk_cell BK102.out 0).trans rfl, (blk_cell BK102.out 1).trans rfl, (blk_cell BK102.out 2).trans rfl, (blk_cell BK102.out 3).trans rfl, ((HB.out.cell (World.block_lt_of_cell? w _ hw103_0)).trans hw103_0), ((HB.out.cell (World.block_lt_of_cell? w _ hw103_1)).trans hw103_1), ((HB.out.cell (World.block_lt_of_cell? w _ hw103_2)).trans hw103_2), ((HB.out.cell (World.block_lt_of_cell? w _ hw103_3)).trans hw103_3), ((HB.out.cell (World.block_lt_of_cell? w _ hw104_0)).trans hw104_0), ((HB.out.cell (World.block_lt_of_cell? w _ hw104_1)).trans hw104_1), ((HB.out.cell (World.block_lt_of_cell? w _ hw104_2)).trans hw104_2), ((HB.out.cell (World.block_lt_of_cell? w _ hw104_3)).trans hw104_3)⟩ (fun hHeld => ?_)
      clear hK K
      refine norm_ (a' := ?_) ?_ ?_
      rotate_left
      ·show Act.put _ (some 51) _ = _
       simp only [Act.put, List.setIfInBounds_toArray, List.set_cons_zero, List.set_cons_succ, i64_w, i32_w]
       rfl
      refine pv_ 11 52 #[true, true, true, true, true, true, true, true, true, true, true, true] (any_of HT_.out (by kernel_rfl)) ?_
      refine done_ (done_of HT_.out (by kernel_rfl)) ?_
      try go_wp2
      go_ret
      exact ⟨by first | rfl | (simp [errW_none, errW_some] <;> rfl) | (simp [*, errW_none, errW_some] <;> rfl), by repeat (first | (with_reducible first | exact HB.out | apply below_alloc | apply pw_below_drewN | apply below_drew1 | refine below_set ?_ GE101.out | refine below_set ?_ GE102.out) | exact HB.out)⟩
     subst c26
     have H1 : (spec_ExSame.l0 k2 (wrap64 (x5_2 + 1)) a0_0 a0_1 a0_2 l0_3 a1_0 a1_1 a1_2 l1_3) = some r := by rw [if_pos rfl] at H;exact H
     clear H
     have H := H1
     clear H1
     have H' := m0_ H
     clear H
     have hnb27 := NB101_102.out
     have hnc27 := NB102_101.out
     obtain ⟨hcz28_0, hcz28_1, hcz28_2, hcz28_3, hfz28_0, hfz28_1, hfz28_2, hfz28_3⟩ := bx4 BK101.out
     try go_wp2
     replace BK101 := m0_ (blk_drew BK101.out)
     replace BK102 := m0_ (blk_drew BK102.out)
     replace HB := m0_ (below_drew1 HB.out)
     have p103 : 0 ≤ (x5_2 : Int) := of_decide_eq_true (by first | (with_reducible assumption) | assumption)
     have q103 : x5_2 < (l0_3.length : Int) := of_decide_eq_true (by first | (with_reducible assumption) | assumption)
     obtain ⟨ad103, A103_3, c103_3, e103, hx103_0, hx103_1, hx103_2, hx103_3, hl103_3, hi103_3⟩ := at_T29 HR0_3.out x5_2 p103 q103
     have hw103_3 := hx103_3
     have hw103_2 := hx103_2
     have hw103_1 := hx103_1
     have hw103_0 := hx103_0
     cases e103
     replace hx103_0 := (HB.out.cell (World.block_lt_of_cell? w _ hx103_0)).trans hx103_0
     replace hx103_1 := (HB.out.cell (World.block_lt_of_cell? w _ hx103_1)).trans hx103_1
     replace hx103_2 := (HB.out.cell (World.block_lt_of_cell? w _ hx103_2)).trans hx103_2
     replace hx103_3 := (HB.out.cell (World.block_lt_of_cell? w _ hx103_3)).trans hx103_3
     have HR103_3 := m0_ hi103_3
     have HC103_3 := m0_ hl103_3
     clear hi103_3 hl103_3
     replace p103 := eq_true p103
     replace q103 := eq_true q103
     have p104 : 0 ≤ (x5_2 : Int) := of_decide_eq_true (by first | (with_reducible assumption) | assumption)
     have q104 : x5_2 < (l1_3.length : Int) := of_decide_eq_true (by first | (with_reducible assumption) | assumption)
     obtain ⟨ad104, A104_3, c104_3, e104, hx104_0, hx104_1, hx104_2, hx104_3, hl104_3, hi104_3⟩ := at_T29 HR1_3.out x5_2 p104 q104
     have hw104_3 := hx104_3
     have hw104_2 := hx104_2
     have hw104_1 := hx104_1
     have hw104_0 := hx104_0
     cases e104
     replace hx104_0 := (HB.out.cell (World.block_lt_of_cell? w _ hx104_0)).trans hx104_0
     replace hx104_1 := (HB.out.cell (World.block_lt_of_cell? w _ hx104_1)).trans hx104_1
     replace hx104_2 := (HB.out.cell (World.block_lt_of_cell? w _ hx104_2)).trans hx104_2
     replace hx104_3 := (HB.out.cell (World.block_lt_of_cell? w _ hx104_3)).trans hx104_3
     have HR104_3 := m0_ hi104_3
     have HC104_3 := m0_ hl104_3
     clear hi104_3 hl104_3
     replace p104 := eq_true p104
     replace q104 := eq_true q104
     refine start_ (n := 12) (S := fun w' => w'.cell? ⟨gb101, 0, none⟩ = some (.int .i64 a0_0) ∧ w'.cell? ⟨gb101, 1, none⟩ = some (.int .i64 a0_1) ∧ w'.cell? ⟨gb101, 2, none⟩ = some (.int .i64 a0_2) ∧ w'.cell? ⟨gb101, 3, none⟩ = some (.slice (some ad103) l0_3.length c0_3) ∧ w'.cell? ⟨gb102, 0, none⟩ = some (.int .i64 a1_0) ∧ w'.cell? ⟨gb102, 1, none⟩ = some (.int .i64 a1_1) ∧ w'.cell? ⟨gb102, 2, none⟩ = some (.int .i64 a1_2) ∧ w'.cell? ⟨gb102, 3, none⟩ = some (.slice (some ad104) l1_3.length c1_3) ∧ w'.cell? (ad103.add ((x5_2).toNat * 4)) = some (.int .i64 ((rd_T29 l0_3 x5_2).f0)) ∧ w'.cell? ⟨(ad103.add ((x5_2).toNat * 4)).block, (ad103.add ((x5_2).toNat * 4)).off + 1, none⟩ = some (.int .i64 ((rd_T29 l0_3 x5_2).f1)) ∧ w'.cell? ⟨(ad103.add ((x5_2).toNat * 4)).block, (ad103.add ((x5_2).toNat * 4)).off + 2, none⟩ = some (.int .i64 ((rd_T29 l0_3 x5_2).f2)) ∧ w'.cell? ⟨(ad103.add ((x5_2).toNat * 4)).block, (ad103.add ((x5_2).toNat * 4)).off + 3, none⟩ = some (.slice A103_3 ((rd_T29 l0_3 x5_2).f3).length c103_3) ∧ w'.cell? (ad104.add ((x5_2).toNat * 4)) = some (.int .i64 ((rd_T29 l1_3 x5_2).f0)) ∧ w'.cell? ⟨(ad104.add ((x5_2).toNat * 4)).block, (ad104.add ((x5_2).toNat * 4)).off + 1, none⟩ = some (.int .i64 ((rd_T29 l1_3 x5_2).f1)) ∧ w'.cell? ⟨(ad104.add ((x5_2).toNat * 4)).block, (ad104.add ((x5_2).toNat * 4)).off + 2, none⟩ = some (.int .i64 ((rd_T29 l1_3 x5_2).f2)) ∧ w'.cell? ⟨(ad104.add ((x5_2).toNat * 4)).block, (ad104.add ((x5_2).toNat * 4)).off + 3, none⟩ = some (.slice A104_3 ((rd_T29 l1_3 x5_2).f3).length c104_3)) (ds := []) #[false, false, false, false, false, false, false, false, false, false, false, false] (by kernel_rfl) rfl rfl ⟨(blk_cell BK101.out 0).trans rfl, (blk_cell BK101.out 1).trans rfl, (blk_cell BK101.out 2).trans rfl, (blk_cell BK101.out 3).trans rfl, (blk_cell BK102.out 0).trans rfl, (blk_cell BK102.out 1).trans rfl, (blk_cell BK102.out 2).trans rfl, (blk_cell BK102.out 3).trans rfl, ((HB.out.cell (World.block_lt_of_cell? w _ hw103_0)).trans hw103_0), ((HB.out.cell (World.block_lt_of_cell? w _ hw103_1)).trans hw103_1), ((HB.out.cell (World.block_lt_of_cell? w _ hw103_2)).trans hw103_2), ((HB.out.cell (World.block_lt_of_cell? w _ hw103_3)).trans hw103_3), ((HB.out.cell (World.block_lt_of_cell? w _ hw104_0)).trans hw104_0), ((HB.out.cell (World.block_lt_of_cell? w _ hw104_1)).trans hw104_1), ((HB.out.cell (World.block_lt_of_cell? w _ hw104_2)).trans hw104_2), ((HB.out.cell (World.block_lt_of_cell? w _ hw104_3)).trans hw104_3)⟩ (fun hHeld => ?_);refine with_tabW spec_ExSame.tab6 spec_ExSame.bits6 (fun HT_ HW_ => ?_)
     generalize wr.drew = w29 at BK101 BK102 HB HR103_3 HR104_3 hx103_0 hx103_1 hx103_2 hx103_3 hx104_0 hx104_1 hx104_2 hx104_3 hHeld ⊢
     refine pv_ 0 41 #[true, false, false, false, false, false, false, false, false, false, false, false] (any_of HT_.out (by kernel_rfl)) ?_
     refine pv_ 2 43 #[true, false, true, false, false, false, false, false, false, false, false, false] (any_of HT_.out (by kernel_rfl)) ?_
     refine pv_ 5 46 #[true, false, true, false, false, true, false, false, false, false, false, false] (any_of HT_.out (by kernel_rfl)) ?_
     refine pv_ 7 48 #[true, false, true, false, false, true, false, true, false, false, false, false] (any_of HT_.out (by kernel_rfl)) ?_
     refine take_ (i := 1) (N := some 42) (v := ?_) (a' := ?_) #[true, true, true, false, false, true, false, true, false, false, false, false] rfl rfl (take_ofW HT_.out HW_.out (by kernel_rfl)) (fun _ _ _ h => h) (Or.inl ⟨by rfl, ?_⟩) hHeld ?_ ?_
     rotate_left
     ·rintro w' ⟨s0, s1, s2, s3, s4, s5, s6, s7, s8, s9, s10, s11, s12, s13, s14, s15⟩
      go_simp
      with_reducible rfl
     rotate_left
     ·simp only [Act.put, List.setIfInBounds_toArray, List.set_cons_zero, List.set_cons_succ, i64_w, i32_w]
      rfl
     refine pv_ 3 44 #[true, true, true, true, false, true, false, true, false, false, false, false] (any_of HT_.out (by kernel_rfl)) ?_
     refine take_ (i := 4) (N := some 45) (v := ?_) (a' := ?_) #[true, true, true, true, true, true, false, true, false, false, false, false] rfl rfl (take_ofW HT_.out HW_.out (by kernel_rfl)) (fun _ _ _ h => h) (Or.inl ⟨by rfl, ?_⟩) hHeld ?_ ?_
     rotate_left
     ·rintro w' ⟨s0, s1, s2, s3, s4, s5, s6, s7, s8, s9, s10, s11, s12, s13, s14, s15⟩
      go_simp
      with_reducible rfl
     rotate_left
     ·simp only [Act.put, List.setIfInBounds_toArray, List.set_cons_zero, List.set_cons_succ, i64_w, i32_w]
      rfl
     refine take_ (i := 6) (N := some 47) (v := ?_) (a' := ?_) #[true, true, true, true, true, true, true, true, false, false, false, false] rfl rfl (take_ofW HT_.out HW_.out (by kernel_rfl)) (fun _ _ _ h => h) (Or.inl ⟨by rfl, ?_⟩) hHeld ?_ ?_
     rotate_left
     ·rintro w' ⟨s0, s1, s2, s3, s4, s5, s6, s7, s8, s9, s10, s11, s12, s13, s14, s15⟩
      go_simp
      with_reducible rfl
     rotate_left
     ·simp only [Act.put, List.setIfInBounds_toArray, List.set_cons_zero, List.set_cons_succ, i64_w, i32_w]
      rfl
     refine pv_ 8 49 #[true, true, true, true, true, true, true, true, true, false, false, false] (any_of HT_.out (by kernel_rfl)) ?_
     refine take_ (i := 9) (N := some 50) (v := ?_) (a' := ?_) #[true, true, true, true, true, true, true, true, true, true, false, false] rfl rfl (take_ofW HT_.out HW_.out (by kernel_rfl)) (fun _ _ _ h => h) (Or.inl ⟨by rfl, ?_⟩) hHeld ?_ ?_
     rotate_left
     ·rintro w' ⟨s0, s1, s2, s3, s4, s5, s6, s7, s8, s9, s10, s11, s12, s13, s14, s15⟩
      go_simp
      with_reducible rfl
     rotate_left
     ·simp only [Act.put, List.setIfInBounds_toArray, List.set_cons_zero, List.set_cons_succ, i64_w, i32_w]
      rfl
     refine one_ (i := 10) (N := some 51) #[true, true, true, true, true, true, true, true, true, true, true, false] rfl rfl (one_of HT_.out (by kernel_rfl)) (by decide) (fun K hK => ?_)
     refine goes_ Tryd.func16 (by kernel_rfl) rfl #[.agg #[.int .i64 ((rd_T29 l0_3 x5_2).f0), .int .i64 ((rd_T29 l0_3 x5_2).f1), .int .i64 ((rd_T29 l0_3 x5_2).f2), .slice A103_3 ((rd_T29 l0_3 x5_2).f3).length c103_3], .agg #[.int .i64 ((rd_T29 l1_3 x5_2).f0), .int .i64 ((rd_T29 l1_3 x5_2).f1), .int .i64 ((rd_T29 l1_3 x5_2).f2), .slice A104_3 ((rd_T29 l1_3 x5_2).f3).length c104_3]] (by rfl) rfl rfl (by (try simp only [List.map_toArray, List.map_cons, List.map_nil]);first | done | rfl | (simp only [List.length_drop, List.length_take];rfl)) ?_
     with_reducible refine (ih k2 (by have := HJ2.out;have := HK2.out;omega) ((rd_T29 l0_3 x5_2).f0) ((rd_T29 l0_3 x5_2).f1) ((rd_T29 l0_3 x5_2).f2) _ _ ((rd_T29 l0_3 x5_2).f3) ((rd_T29 l1_3 x5_2).f0) ((rd_T29 l1_3 x5_2).f1) ((rd_T29 l1_3 x5_2).f2) _ _ ((rd_T29 l1_3 x5_2).f3) true _ ?side1 ?side2 ?side3 ?side4 A25.out).mono ?_
     (case side1 => repeat (first | exact (Kd.C_below HR103_3.out HB.out) | (with_reducible refine Kd.C_alloc ?_ _) | (with_reducible refine Kd.C_drewN ?_ _) | (with_reducible refine Kd.C_drew ?_)))
     (case side2 => exact HC103_3.out)
     (case side3 => repeat (first | exact (Kd.C_below HR104_3.out HB.out) | (with_reducible refine Kd.C_alloc ?_ _) | (with_reducible refine Kd.C_drewN ?_ _) | (with_reducible refine Kd.C_drew ?_)))
     (case side4 => exact HC104_3.out)
     rintro e w30 ⟨rfl, hb⟩
     refine ⟨_, rfl, ?_⟩
     replace BK101 := m0_ (blk_below BK101.out hb)
     replace BK102 := m0_ (blk_below BK102.out hb)
     replace HB := m0_ (below_step (by exact HB.out) hb)
     (try clear hb)
     (try clear hb2)
     (try clear hk)
     (try clear hi)
     refine hK.out _ _ ⟨(blk_cell BK101.out 0).trans rfl, (blk_cell BK101.out 1).trans rfl, (blk_cell BK101.out 2).trans rfl, (blk_cell BK101.out 3).trans rfl, (blk_cell BK102.out 0).trans rfl, (blk_cell BK102.out 1).trans rfl, (blk_cell BK102.out 2).trans rfl, (blk_cell BK102.out 3).trans rfl, ((HB.out.cell (World.block_lt_of_cell? w _ hw103_0)).trans hw103_0), ((HB.out.cell (World.block_lt_of_cell? w _ hw103_1)).trans hw103_1), ((HB.out.cell (World.block_lt_of_cell? w _ hw103_2)).trans hw103_2), ((HB.out.cell (World.block_lt_of_cell? w _ hw103_3)).trans hw103_3), ((HB.out.cell (World.block_lt_of_cell? w _ hw104_0)).trans hw104_0), ((HB.out.cell (World.block_lt_of_cell? w _ hw104_1)).trans hw104_1), ((HB.out.cell (World.block_lt_of_cell? w _ hw104_2)).trans hw104_2), ((HB.out.cell (World.block_lt_of_cell? w _ hw104_3)).trans hw104_3)⟩ (fun hHeld => ?_)
     clear hK K
     refine norm_ (a' := ?_) ?_ ?_
     rotate_left
     ·show Act.put _ (some 51) _ = _
      simp only [Act.put, List.setIfInBounds_toArray, List.set_cons_zero, List.set_cons_succ, i64_w, i32_w]
      rfl
     refine pv_ 11 52 #[true, true, true, true, true, true, true, true, true, true, true, true] (any_of HT_.out (by kernel_rfl)) ?_
     refine done_ (done_of HT_.out (by kernel_rfl)) ?_
     try go_wp2
     go_roundg k2
     case measure => have := HJ2.out;have := HK2.out;omega
     case rel => exact ⟨(wrap64 (x5_2 + 1)), (by first | rfl | (simp;done) | (simp [*];done)), H', ⟨by have := HJ2.out;have := HK2.out;omega⟩, ⟨by (with_reducible repeat (first | refine blk_drewN ?_ _ | refine blk_drew ?_ | refine blk_alloc ?_ _));exact BK101.out⟩, ⟨by (with_reducible repeat (first | refine blk_drewN ?_ _ | refine blk_drew ?_ | refine blk_alloc ?_ _));exact BK102.out⟩, ⟨by repeat (first | (with_reducible first | exact HB.out | apply below_alloc | apply pw_below_drewN | apply below_drew1 | refine below_set ?_ GE101.out | refine below_set ?_ GE102.out) | exact HB.out)⟩⟩

end Go.Proofs.YtbcdfbiggjfmlaaDoor.M
