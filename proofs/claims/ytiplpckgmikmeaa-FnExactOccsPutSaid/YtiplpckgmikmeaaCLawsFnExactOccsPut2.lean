/- What the claim's law leans on: the program's functions, what they compute, and the law over plain values; no condition is asked. (Part 2 of 3.) -/
import Derived.Test.YtiplpckgmikmeaaCLawsFnExactOccsPut1
import Derived.Test.YtiplpckgmikmeaaVFnExactOccsPutRepsOne
import Derived.Test.YtiplpckgmikmeaaVFnExactOccsPutNEv
import Derived.Laws.CopyOwn
import Derived.Laws.CopyRow
import Derived.Lib.Overlaps
import Derived.Lib.AppendZerosOnto
import Derived.Laws.Externs
import Derived.Laws.NewBlocks
import Derived.Deep.RegionLaw
import Derived.Lib.SliceRun
import Derived.Shelf.RegionOpenPlain
namespace Go.Proofs.Ytiplpckgmikmeaa.M
set_option linter.unusedVariables false
set_option linter.unusedSimpArgs false
open Go.RowKit Go.Proofs.YtiplpckgmikmeaaW.PrintWords Go.Proofs.YtiplpckgmikmeaaW.PrintLast Go.Proofs.YtiplpckgmikmeaaW.PrintMore
@[reducible] def qHPut_0 : Array Bool := #[true, true, true, true, true, true, true, true, true, true, true, true]
@[reducible] def qHPut_1 : Array Bool := #[true, true, true, true, true, true, true, true, true, true, true, false]
@[reducible] def qHPut_2 : Array Bool := #[true, true, true, true, true, true, true, true, true, true, false, false]
@[reducible] def qHPut_3 : Array Bool := #[true, true, true, true, true, true, true, true, true, false, false, false]
@[reducible] def qHPut_4 : Array Bool := #[true, true, true, true, true, true, true, true, false, false, false, false]
@[reducible] def qHPut_5 : Array Bool := #[true, true, true, true, true, true, true, false, false, false, false, false]
@[reducible] def qHPut_6 : Array Bool := #[true, true, true, true, true, true, false, false, false, false, false, false]
@[reducible] def qHPut_7 : Array Bool := #[true, true, true, true, true, false, false, false, false, false, false, false]
@[reducible] def qHPut_8 : Array Bool := #[true, true, true, true, false, false, false, false, false, false, false, false]
@[reducible] def qHPut_9 : Array Bool := #[true, true, true, false, false, false, false, false, false, false, false, false]
@[reducible] def qHPut_10 : Array Bool := #[true, true, false, false, false, false, false, false, false, false, false, false]
@[reducible] def qHPut_11 : Array Bool := #[true, false, false, false, false, false, false, false, false, false, false, false]
@[reducible] def qHPut_12 : Array Bool := #[false, false, false, false, false, false, false, false, false, false, false, false]

def putIn (l : List S27) (i : Nat) (o : S27) : List S27 := l.take i ++ [o] ++ l.drop i
def putAt (p : S27 → Option Bool) (l : List S27) : Nat → Nat → Option Nat
  | 0, i => some i
  | d + 1, i => (p (l.getD i z27)).bind fun t => if t = true then putAt p l d (i + 1) else some i
theorem putAt_range {p : S27 → Option Bool} {l : List S27} {i : Nat} : ∀ {d n : Nat}, putAt p l d n = some i → n ≤ i ∧ i ≤ n + d
  | 0, n, h => by
    unfold putAt at h
    cases h
    omega
  | d + 1, n, h => by
    unfold putAt at h
    obtain ⟨t, _, h⟩ := Option.bind_eq_some_iff.1 h
    by_cases c : t = true
    · rw [if_pos c] at h
      have := putAt_range h
      omega
    · rw [if_neg c] at h
      cases h
      omega
section
variable {α : Type} {d : Kd α} {e : Nat} {w : World} {base : Nat} {ok : Nat → Prop} {v : Value}
theorem S_of_tags {f : Nat → Nat} {zs : List (α × Nat)} (h : (Kd.tag f d).R e w base ok v zs) (hn : (zs.map Prod.snd).Nodup) : Kd.S d e w base ok v (zs.map Prod.fst) := by
  obtain ⟨h0, inner, ho, hr⟩ := h
  refine ⟨fun b => (zs.map Prod.snd).idxOf (f b), h0, inner, by rw [List.length_zipIdx, List.length_map]; exact ho, by rw [List.length_zipIdx, List.length_map]; exact hr.1, fun j p hj => ?_⟩
  rw [List.getElem?_zipIdx, Nat.zero_add, List.getElem?_map] at hj
  obtain ⟨x, hx, rfl⟩ := Option.map_eq_some_iff.1 hj
  obtain ⟨z, hz, rfl⟩ := Option.map_eq_some_iff.1 hx
  refine d.M_mono (fun k hk => ⟨hk.1, ?_⟩) (hr.2 j z hz)
  have h2 : f k = z.2 := hk.2
  show (zs.map Prod.snd).idxOf (f k) = j
  have hl : j < (zs.map Prod.snd).length := by
    rw [List.length_map]
    exact (List.getElem?_eq_some_iff.1 hz).1
  have he : (zs.map Prod.snd)[j] = z.2 := by
    obtain ⟨hj2, he⟩ := List.getElem?_eq_some_iff.1 hz
    rw [List.getElem_map, he]
  rw [h2, ← he]
  exact hn.idxOf_getElem j hl
theorem R_readsM {xs : List α} (h : d.R e w base ok v xs) : ∃ A c, v = .slice A xs.length c ∧ xs.length ≤ c ∧ ReadsRow (d.M w base (fun k => ok k ∧ some k ≠ v.ownBlock)) d.sz w A xs.length xs := OwnRow.reads h.2
end
theorem reads_drop {α : Type} {R : α → List Value → Prop} {size : Nat} {w : World} {A : Option Addr} {xs : List α} {m c : Nat} (h : ReadsRow R size w A xs.length xs) (hm : m ≤ xs.length) (hc : xs.length ≤ c) : ReadsRow R size w (if c = m then A else A.map (·.add (m * size))) (xs.drop m).length (xs.drop m) := by
  have hl : (xs.drop m).length = xs.length - m := List.length_drop
  refine ⟨rfl, by rw [hl]; have := h.2.1; omega, fun hp => ?_⟩
  rw [hl] at hp
  obtain ⟨ad, rfl, hcell⟩ := h.2.2 (by omega)
  rw [if_neg (by omega)]
  refine ⟨ad.add (m * size), rfl, fun j p hj => ?_⟩
  rw [List.getElem?_drop] at hj
  obtain ⟨cs, h1, h2, h3⟩ := hcell (m + j) p hj
  refine ⟨cs, h1, h2, fun i u hu => ?_⟩
  rw [add_add, show m * size + (j * size + i) = (m + j) * size + i by rw [Nat.add_mul]; omega]
  exact h3 i u hu
set_option maxHeartbeats 4000000 in
set_option maxRecDepth 100000 in
theorem l3Put_walk (p : S27 → Option Bool) (P0 : Nat → Prop) (A : Option Addr) (c : Nat) (xs : List S27) (o : S27) (Ao : Option Addr) (co : Nat) (base : Nat) (w0 w : World) (hB : Below base w0 w) (hbs : base ≤ w.heap.size)
    (hS : Kd.S k27 27 w base P0 (.slice A xs.length c) xs) (hro : Kd.C (Kd.int .i64) w Ao o.f2.length o.f2) (hco : o.f2.length ≤ co) (hlen : xs.length < 1099511627776) (hlo : o.f2.length < 1099511627776)
    (i : Nat) (hi : putAt p xs xs.length 0 = some i)
    (hp : ∀ x ∈ xs, ∀ b, p x = some b → ∀ (A2 : Option Addr) (c2 : Nat) (W : World), x.f2.length ≤ c2 → Kd.C (Kd.int .i64) W A2 x.f2.length x.f2 → Kd.C (Kd.int .i64) W Ao o.f2.length o.f2 → Calls Try.prog 46 #[.agg #[.int .i64 x.f0, .int .i64 x.f1, .slice A2 x.f2.length c2], .agg #[.int .i64 o.f0, .int .i64 o.f1, .slice Ao o.f2.length co]] W fun e w' => e = .returned (.bool b) ∧ Below W.heap.size W w')
    (t : Bool) (hs : ∀ x, xs[i]? = some x → ∀ (A2 : Option Addr) (c2 : Nat) (W : World), x.f2.length ≤ c2 → Kd.C (Kd.int .i64) W A2 x.f2.length x.f2 → Kd.C (Kd.int .i64) W Ao o.f2.length o.f2 → Calls Try.prog 68 #[.agg #[.int .i64 x.f0, .int .i64 x.f1, .slice A2 x.f2.length c2], .agg #[.int .i64 o.f0, .int .i64 o.f1, .slice Ao o.f2.length co]] W fun e w' => e = .returned (.bool t) ∧ Below W.heap.size W w')
    (r : List S27) (hr : r = if i < xs.length ∧ t = true then xs else putIn xs i o) :
    Calls Try.prog 82 #[.slice A xs.length c, .agg #[.int .i64 o.f0, .int .i64 o.f1, .slice Ao o.f2.length co]] w fun e w' => ∃ v0 : Value, e = .returned v0 ∧ Kd.S k27 27 w' base (fun k => P0 k ∨ w.heap.size ≤ k) v0 r ∧ Below base w0 w' ∧ Kept w w' P0 := by
  have hu34 := Try.underlying34
  have HS := m0_ hS
  have HRO := m0_ hro
  have HCO := m0_ hco
  have HLEN := m0_ hlen
  have HLO := m0_ hlo
  have HI := m0_ hi
  have HRR := m0_ hr
  have HP := m0_ hp
  have HSM := m0_ hs
  have HB0 := m0_ hB
  have HBW := m0_ hbs
  have HB := m0_ (Below.refl w.heap.size w)
  have HLC := m0_ (Kd.S_reads' hS).2.1
  have HOW := m0_ (Kd.S_lt hS)
  clear hS hro hco hlen hlo hi hp hs hB hr hbs
  go_enter Try.func82, Try.ntmps82
  go_upto_block 0 with (first | ((with_reducible refine gate_dst (N := 3) rfl ?_); refine box_event ?hg (N := 3) ?hd (cs := #[.int .i64 o.f0, .int .i64 o.f1, .slice Ao o.f2.length co]) (t := 27) ?hr ?_; (case hd => rfl); (case hg => rfl); (case hr => first | (go_simp; done) | (go_simp; rfl)); intro gb1 hg wb1 hbox hb; have n0_ := m0_ (below_step HB.out hb); have n1_ := m0_ (hbox); have n2_ := m0_ ((by rw [hg]; exact below_size HB.out : w.heap.size ≤ gb1)); clear HB; have HB := n0_; have BK1 := n1_; have GE1 := n2_; clear n0_ n1_ n2_; have hb1_ := m0_ hb; clear hb hbox hg))
  have n0_ := m0_ (below_then HB0.out HBW.out hb1_.out)
  have n1_ := m0_ (Kd.S_below HS.out hb1_.out)
  clear HB0 HS hb1_
  have HB0 := n0_
  have HS := n1_
  clear n0_ n1_
  go_cut [5] (fun v5 wc => v5 = .int .i64 (i : Int) ∧ Aside0 (Kd.S k27 27 wc base P0 (.slice A xs.length c) xs) ∧ Aside0 (wc.heap[gb1]? = some (.cells #[.int .i64 o.f0, .int .i64 o.f1, .slice Ao o.f2.length co] 27 (0, 0))) ∧ Aside0 (Below w.heap.size w wc) ∧ Aside0 (Below base w0 wc))
  case first =>
    go_wp2
    go_loopw [5] (fun v5 w' => ∃ m d : Nat, m + d = xs.length ∧ v5 = .int .i64 (m : Int) ∧ Aside0 (putAt p xs d m = some i) ∧ Aside0 (Kd.S k27 27 w' base P0 (.slice A xs.length c) xs) ∧ Aside0 (w'.heap[gb1]? = some (.cells #[.int .i64 o.f0, .int .i64 o.f1, .slice Ao o.f2.length co] 27 (0, 0))) ∧ Aside0 (Below w.heap.size w w') ∧ Aside0 (Below base w0 w')) (fun v5 _ => xs.length - (intOf v5).toNat)
    case atStart => exact ⟨0, xs.length, by omega, rfl, HI, HS, BK1, HB, HB0⟩
    case round =>
      rename_i wr
      clear HS BK1 HB HB0
      obtain ⟨n, d, hk, rfl, HE, HS, BK1, HB, HB0⟩ := hrel
      by_cases hlt : n < xs.length
      · have hC := (Kd.S_reads' HS.out).2.2
        obtain ⟨ad, A2, c2, e, h0, h1, h2, hl2, hg2⟩ := at_T27 hC (n : Int) (by omega) (by omega)
        clear hC
        have HRD := m0_ (show rd_T27 xs (n : Int) = xs.getD n z27 from rfl)
        generalize rd_T27 xs (n : Int) = x at *
        simp only [Int.toNat_natCast] at h0 h1 h2
        subst e
        have HM := m0_ (show x ∈ xs by
          rw [HRD.out, List.getD_eq_getElem?_getD, List.getElem?_eq_getElem hlt]
          exact List.getElem_mem hlt)
        obtain ⟨d', rfl⟩ : ∃ d', d = d' + 1 := ⟨d - 1, by omega⟩
        obtain ⟨b, hpx, hrest⟩ := Option.bind_eq_some_iff.1 (show (p x).bind _ = some i from by have := HE.out; rw [putAt, ← HRD.out] at this; exact this)
        have HPX := m0_ hpx
        have HRE := m0_ hrest
        clear hpx hrest HE
        have hb := below_drew (Below.refl wr.heap.size wr)
        have C0 := m0_ h0
        have C1 := m0_ h1
        have C2 := m0_ h2
        have HL2 := m0_ hl2
        have HG2 := m0_ (Kd.C_below hg2 hb)
        clear h0 h1 h2 hl2 hg2
        have n0_ := m0_ ((hb.cell (World.block_lt_of_cell? _ _ C0.out)).trans C0.out)
        have n1_ := m0_ ((hb.cell (World.block_lt_of_cell? _ _ C1.out)).trans C1.out)
        have n2_ := m0_ ((hb.cell (World.block_lt_of_cell? _ _ C2.out)).trans C2.out)
        have n3_ := m0_ (blk_below BK1.out hb)
        have n4_ := m0_ (Kd.S_below HS.out hb)
        have n5_ := m0_ (below_step HB.out hb)
        have n6_ := m0_ (below_then HB0.out (Nat.le_trans HBW.out HB.out.size) hb)
        clear C0
        clear C1
        clear C2
        clear BK1
        clear HS
        clear HB
        clear HB0
        have C0 := n0_
        have C1 := n1_
        have C2 := n2_
        have BK1 := n3_
        have HS := n4_
        have HB := n5_
        have HB0 := n6_
        clear n0_ n1_ n2_ n3_ n4_ n5_ n6_
        clear hb
        have hn0 : (0 : Int) ≤ (n : Int) := by omega
        have hni : (n : Int) < (xs.length : Int) := by omega
        cases b with
        | true =>
          have hw1 : wrap64 ((n : Int) + 1) = ((n + 1 : Nat) : Int) := by have := HLEN.out; unfold wrap64; omega
          go_wp2
          refine start_ (n := 12) (S := fun w' => w'.cell? (ad.add (n * 3)) = some (.int .i64 x.f0) ∧ w'.cell? ⟨(ad.add (n * 3)).block, (ad.add (n * 3)).off + 1, none⟩ = some (.int .i64 x.f1) ∧ w'.cell? ⟨(ad.add (n * 3)).block, (ad.add (n * 3)).off + 2, none⟩ = some (.slice A2 x.f2.length c2) ∧ w'.cell? ⟨gb1, 0, none⟩ = some (.int .i64 o.f0) ∧ w'.cell? ⟨gb1, 1, none⟩ = some (.int .i64 o.f1) ∧ w'.cell? ⟨gb1, 2, none⟩ = some (.slice Ao o.f2.length co)) (ds := []) qHPut_12 (by kernel_rfl) rfl rfl ⟨C0.out, C1.out, C2.out, (blk_cell BK1.out 0).trans rfl, (blk_cell BK1.out 1).trans rfl, (blk_cell BK1.out 2).trans rfl⟩ (fun hHeld => ?_)
          refine pv_ 0 7 qHPut_11 (by kernel_rfl) ?_
          refine pv_ 1 8 qHPut_10 (by kernel_rfl) ?_
          refine pv_ 2 9 qHPut_9 (by kernel_rfl) ?_
          refine pv_ 3 10 qHPut_8 (by kernel_rfl) ?_
          refine pv_ 4 11 qHPut_7 (by kernel_rfl) ?_
          refine pv_ 5 12 qHPut_6 (by kernel_rfl) ?_
          refine pv_ 6 13 qHPut_5 (by kernel_rfl) ?_
          refine pv_ 7 14 qHPut_4 (by kernel_rfl) ?_
          refine take_ (i := 8) (N := some 15) (v := ?_) (a' := ?_) qHPut_3 rfl rfl (by kernel_rfl) (fun _ _ _ h => h) (Or.inl ⟨by rfl, ?_⟩) hHeld ?_ ?_
          rotate_left
          · rintro w' ⟨s0, s1, s2, s3, s4, s5⟩
            go_simp
            with_reducible rfl
          rotate_left
          · simp only [Act.put, List.setIfInBounds_toArray, List.set_cons_zero, List.set_cons_succ, i64_w, i32_w]
            rfl
          refine take_ (i := 9) (N := some 16) (v := ?_) (a' := ?_) qHPut_2 rfl rfl (by kernel_rfl) (fun _ _ _ h => h) (Or.inl ⟨by rfl, ?_⟩) hHeld ?_ ?_
          rotate_left
          · rintro w' ⟨s0, s1, s2, s3, s4, s5⟩
            go_simp
            with_reducible rfl
          rotate_left
          · simp only [Act.put, List.setIfInBounds_toArray, List.set_cons_zero, List.set_cons_succ, i64_w, i32_w]
            rfl
          refine one_ (i := 10) (N := some 17) qHPut_1 rfl rfl (by kernel_rfl) (by decide) (fun K hK => ?_)
          refine goes_ Try.func46 (by kernel_rfl) rfl #[.agg #[.int .i64 x.f0, .int .i64 x.f1, .slice A2 x.f2.length c2], .agg #[.int .i64 o.f0, .int .i64 o.f1, .slice Ao o.f2.length co]] (by rfl) rfl rfl (by simp only [List.map_toArray, List.map_cons, List.map_nil]; rfl) ?_
          with_reducible refine (HP.out x HM.out true HPX.out A2 c2 _ HL2.out HG2.out (Kd.C_below HRO.out HB.out)).mono ?_
          rintro e w' ⟨rfl, hb⟩
          refine ⟨_, rfl, ?_⟩
          have n0_ := m0_ ((hb.cell (World.block_lt_of_cell? _ _ C0.out)).trans C0.out)
          have n1_ := m0_ ((hb.cell (World.block_lt_of_cell? _ _ C1.out)).trans C1.out)
          have n2_ := m0_ ((hb.cell (World.block_lt_of_cell? _ _ C2.out)).trans C2.out)
          have n3_ := m0_ (blk_below BK1.out hb)
          have n4_ := m0_ (Kd.S_below HS.out hb)
          have n5_ := m0_ (below_step HB.out hb)
          have n6_ := m0_ (below_then HB0.out (Nat.le_trans HBW.out HB.out.size) hb)
          clear C0
          clear C1
          clear C2
          clear BK1
          clear HS
          clear HB
          clear HB0
          have C0 := n0_
          have C1 := n1_
          have C2 := n2_
          have BK1 := n3_
          have HS := n4_
          have HB := n5_
          have HB0 := n6_
          clear n0_ n1_ n2_ n3_ n4_ n5_ n6_
          clear hb
          refine hK.out _ _ ⟨C0.out, C1.out, C2.out, (blk_cell BK1.out 0).trans rfl, (blk_cell BK1.out 1).trans rfl, (blk_cell BK1.out 2).trans rfl⟩ (fun hHeld => ?_)
          clear hK K
          refine norm_ (a' := ?_) ?_ ?_
          rotate_left
          · show Act.put _ (some 17) _ = _
            simp only [Act.put, List.setIfInBounds_toArray, List.set_cons_zero, List.set_cons_succ, i64_w, i32_w]
            rfl
          refine pv_ 11 18 qHPut_0 (by kernel_rfl) ?_
          refine done_ (by kernel_rfl) ?_
    
          go_wp2
          go_roundw
          case rel =>
            exact ⟨n + 1, d', by omega, by rw [hw1], ⟨by have := HRE.out; rw [if_pos trivial] at this; exact this⟩, HS, BK1, HB, HB0⟩
          case measure => rw [hw1]; simp [intOf]; omega
        | false =>
          go_wp2
          refine start_ (n := 12) (S := fun w' => w'.cell? (ad.add (n * 3)) = some (.int .i64 x.f0) ∧ w'.cell? ⟨(ad.add (n * 3)).block, (ad.add (n * 3)).off + 1, none⟩ = some (.int .i64 x.f1) ∧ w'.cell? ⟨(ad.add (n * 3)).block, (ad.add (n * 3)).off + 2, none⟩ = some (.slice A2 x.f2.length c2) ∧ w'.cell? ⟨gb1, 0, none⟩ = some (.int .i64 o.f0) ∧ w'.cell? ⟨gb1, 1, none⟩ = some (.int .i64 o.f1) ∧ w'.cell? ⟨gb1, 2, none⟩ = some (.slice Ao o.f2.length co)) (ds := []) qHPut_12 (by kernel_rfl) rfl rfl ⟨C0.out, C1.out, C2.out, (blk_cell BK1.out 0).trans rfl, (blk_cell BK1.out 1).trans rfl, (blk_cell BK1.out 2).trans rfl⟩ (fun hHeld => ?_)
          refine pv_ 0 7 qHPut_11 (by kernel_rfl) ?_
          refine pv_ 1 8 qHPut_10 (by kernel_rfl) ?_
          refine pv_ 2 9 qHPut_9 (by kernel_rfl) ?_
          refine pv_ 3 10 qHPut_8 (by kernel_rfl) ?_
          refine pv_ 4 11 qHPut_7 (by kernel_rfl) ?_
          refine pv_ 5 12 qHPut_6 (by kernel_rfl) ?_
          refine pv_ 6 13 qHPut_5 (by kernel_rfl) ?_
          refine pv_ 7 14 qHPut_4 (by kernel_rfl) ?_
          refine take_ (i := 8) (N := some 15) (v := ?_) (a' := ?_) qHPut_3 rfl rfl (by kernel_rfl) (fun _ _ _ h => h) (Or.inl ⟨by rfl, ?_⟩) hHeld ?_ ?_
          rotate_left
          · rintro w' ⟨s0, s1, s2, s3, s4, s5⟩
            go_simp
            with_reducible rfl
          rotate_left
          · simp only [Act.put, List.setIfInBounds_toArray, List.set_cons_zero, List.set_cons_succ, i64_w, i32_w]
            rfl
          refine take_ (i := 9) (N := some 16) (v := ?_) (a' := ?_) qHPut_2 rfl rfl (by kernel_rfl) (fun _ _ _ h => h) (Or.inl ⟨by rfl, ?_⟩) hHeld ?_ ?_
          rotate_left
          · rintro w' ⟨s0, s1, s2, s3, s4, s5⟩
            go_simp
            with_reducible rfl
          rotate_left
          · simp only [Act.put, List.setIfInBounds_toArray, List.set_cons_zero, List.set_cons_succ, i64_w, i32_w]
            rfl
          refine one_ (i := 10) (N := some 17) qHPut_1 rfl rfl (by kernel_rfl) (by decide) (fun K hK => ?_)
          refine goes_ Try.func46 (by kernel_rfl) rfl #[.agg #[.int .i64 x.f0, .int .i64 x.f1, .slice A2 x.f2.length c2], .agg #[.int .i64 o.f0, .int .i64 o.f1, .slice Ao o.f2.length co]] (by rfl) rfl rfl (by simp only [List.map_toArray, List.map_cons, List.map_nil]; rfl) ?_
          with_reducible refine (HP.out x HM.out false HPX.out A2 c2 _ HL2.out HG2.out (Kd.C_below HRO.out HB.out)).mono ?_
          rintro e w' ⟨rfl, hb⟩
          refine ⟨_, rfl, ?_⟩
          have n0_ := m0_ ((hb.cell (World.block_lt_of_cell? _ _ C0.out)).trans C0.out)
          have n1_ := m0_ ((hb.cell (World.block_lt_of_cell? _ _ C1.out)).trans C1.out)
          have n2_ := m0_ ((hb.cell (World.block_lt_of_cell? _ _ C2.out)).trans C2.out)
          have n3_ := m0_ (blk_below BK1.out hb)
          have n4_ := m0_ (Kd.S_below HS.out hb)
          have n5_ := m0_ (below_step HB.out hb)
          have n6_ := m0_ (below_then HB0.out (Nat.le_trans HBW.out HB.out.size) hb)
          clear C0
          clear C1
          clear C2
          clear BK1
          clear HS
          clear HB
          clear HB0
          have C0 := n0_
          have C1 := n1_
          have C2 := n2_
          have BK1 := n3_
          have HS := n4_
          have HB := n5_
          have HB0 := n6_
          clear n0_ n1_ n2_ n3_ n4_ n5_ n6_
          clear hb
          refine hK.out _ _ ⟨C0.out, C1.out, C2.out, (blk_cell BK1.out 0).trans rfl, (blk_cell BK1.out 1).trans rfl, (blk_cell BK1.out 2).trans rfl⟩ (fun hHeld => ?_)
          clear hK K
          refine norm_ (a' := ?_) ?_ ?_
          rotate_left
          · show Act.put _ (some 17) _ = _
            simp only [Act.put, List.setIfInBounds_toArray, List.set_cons_zero, List.set_cons_succ, i64_w, i32_w]
            rfl
          refine pv_ 11 18 qHPut_0 (by kernel_rfl) ?_
          refine done_ (by kernel_rfl) ?_
    
          go_wp2
          go_meet
          case rel =>
            obtain rfl : n = i := by have := HRE.out; rw [if_neg (by decide)] at this; exact Option.some.inj this
            exact ⟨rfl, HS, BK1, HB, HB0⟩
      · obtain rfl : d = 0 := by omega
        have hb := below_drew (Below.refl wr.heap.size wr)
        have n0_ := m0_ (blk_below BK1.out hb)
        have n1_ := m0_ (Kd.S_below HS.out hb)
        have n2_ := m0_ (below_step HB.out hb)
        have n3_ := m0_ (below_then HB0.out (Nat.le_trans HBW.out HB.out.size) hb)
        clear BK1
        clear HS
        clear HB
        clear HB0
        have BK1 := n0_
        have HS := n1_
        have HB := n2_
        have HB0 := n3_
        clear n0_ n1_ n2_ n3_
        clear hb
        have hni : ¬ ((n : Int) < (xs.length : Int)) := by omega
        go_wp2
        refine start_ (n := 12) (S := fun w' => w'.cell? ⟨gb1, 0, none⟩ = some (.int .i64 o.f0) ∧ w'.cell? ⟨gb1, 1, none⟩ = some (.int .i64 o.f1) ∧ w'.cell? ⟨gb1, 2, none⟩ = some (.slice Ao o.f2.length co)) (ds := []) qHPut_12 (by kernel_rfl) rfl rfl ⟨(blk_cell BK1.out 0).trans rfl, (blk_cell BK1.out 1).trans rfl, (blk_cell BK1.out 2).trans rfl⟩ (fun hHeld => ?_)
        refine pv_ 0 7 qHPut_11 (by kernel_rfl) ?_
        refine pv_ 1 8 qHPut_10 (by kernel_rfl) ?_
        refine pv_ 2 9 qHPut_9 (by kernel_rfl) ?_
        refine pv_ 3 10 qHPut_8 (by kernel_rfl) ?_
        refine pv_ 4 11 qHPut_7 (by kernel_rfl) ?_
        refine pu_ 5 12 qHPut_6 (by kernel_rfl) ?_
        refine pu_ 6 13 qHPut_5 (by kernel_rfl) ?_
        refine pu_ 7 14 qHPut_4 (by kernel_rfl) ?_
        refine pu_ 8 15 qHPut_3 (by kernel_rfl) ?_
        refine pu_ 9 16 qHPut_2 (by kernel_rfl) ?_
        refine pu_ 10 17 qHPut_1 (by kernel_rfl) ?_
        refine pv_ 11 18 qHPut_0 (by kernel_rfl) ?_
        refine done_ (by kernel_rfl) ?_
  
        go_wp2
        go_meet
        case rel =>
          obtain rfl : n = i := by have := HE.out; rw [putAt] at this; exact Option.some.inj this
          exact ⟨rfl, HS, BK1, HB, HB0⟩
  case rest =>
    clear HS BK1 HB HB0
    obtain ⟨rfl, HS, BK1, HB, HB0⟩ := hcut
    go_upto_region 4 with (fail)
    go_cut [5, 32] (fun v5 v32 wd => v5 = .int .i64 (i : Int) ∧ v32 = .bool (decide (i < xs.length) && t) ∧ Aside0 (Kd.S k27 27 wd base P0 (.slice A xs.length c) xs) ∧ Aside0 (wd.heap[gb1]? = some (.cells #[.int .i64 o.f0, .int .i64 o.f1, .slice Ao o.f2.length co] 27 (0, 0))) ∧ Aside0 (Below w.heap.size w wd) ∧ Aside0 (Below base w0 wd))
    case first =>
      by_cases hlt : i < xs.length
      · have hC := (Kd.S_reads' HS.out).2.2
        obtain ⟨ad, A2, c2, e, h0, h1, h2, hl2, hg2⟩ := at_T27 hC (i : Int) (by omega) (by omega)
        clear hC
        have HRD := m0_ (show xs[i]? = some (rd_T27 xs (i : Int)) by
          show xs[i]? = some (xs.getD i z27)
          rw [List.getD_eq_getElem?_getD, List.getElem?_eq_getElem hlt]; rfl)
        generalize rd_T27 xs (i : Int) = x at *
        simp only [Int.toNat_natCast] at h0 h1 h2
        subst e
        have hb := below_drew (Below.refl wc.heap.size wc)
        have C0 := m0_ h0
        have C1 := m0_ h1
        have C2 := m0_ h2
        have HL2 := m0_ hl2
        have HG2 := m0_ (Kd.C_below hg2 hb)
        clear h0 h1 h2 hl2 hg2
        have n0_ := m0_ ((hb.cell (World.block_lt_of_cell? _ _ C0.out)).trans C0.out)
        have n1_ := m0_ ((hb.cell (World.block_lt_of_cell? _ _ C1.out)).trans C1.out)
        have n2_ := m0_ ((hb.cell (World.block_lt_of_cell? _ _ C2.out)).trans C2.out)
        have n3_ := m0_ (blk_below BK1.out hb)
        have n4_ := m0_ (Kd.S_below HS.out hb)
        have n5_ := m0_ (below_step HB.out hb)
        have n6_ := m0_ (below_then HB0.out (Nat.le_trans HBW.out HB.out.size) hb)
        clear C0
        clear C1
        clear C2
        clear BK1
        clear HS
        clear HB
        clear HB0
        have C0 := n0_
        have C1 := n1_
        have C2 := n2_
        have BK1 := n3_
        have HS := n4_
        have HB := n5_
        have HB0 := n6_
        clear n0_ n1_ n2_ n3_ n4_ n5_ n6_
        clear hb
        have hn0 : (0 : Int) ≤ (i : Int) := by omega
        have hni : (i : Int) < (xs.length : Int) := by omega
        have HLT := m0_ hlt
        go_wp2
        cases t with
        | true =>
          refine start_ (n := 12) (S := fun w' => w'.cell? (ad.add (i * 3)) = some (.int .i64 x.f0) ∧ w'.cell? ⟨(ad.add (i * 3)).block, (ad.add (i * 3)).off + 1, none⟩ = some (.int .i64 x.f1) ∧ w'.cell? ⟨(ad.add (i * 3)).block, (ad.add (i * 3)).off + 2, none⟩ = some (.slice A2 x.f2.length c2) ∧ w'.cell? ⟨gb1, 0, none⟩ = some (.int .i64 o.f0) ∧ w'.cell? ⟨gb1, 1, none⟩ = some (.int .i64 o.f1) ∧ w'.cell? ⟨gb1, 2, none⟩ = some (.slice Ao o.f2.length co)) (ds := []) qHPut_12 (by kernel_rfl) rfl rfl ⟨C0.out, C1.out, C2.out, (blk_cell BK1.out 0).trans rfl, (blk_cell BK1.out 1).trans rfl, (blk_cell BK1.out 2).trans rfl⟩ (fun hHeld => ?_)
          refine pv_ 0 21 qHPut_11 (by kernel_rfl) ?_
          refine pv_ 1 22 qHPut_10 (by kernel_rfl) ?_
          refine pv_ 2 23 qHPut_9 (by kernel_rfl) ?_
          refine pv_ 3 24 qHPut_8 (by kernel_rfl) ?_
          refine pv_ 4 25 qHPut_7 (by kernel_rfl) ?_
          refine pv_ 5 26 qHPut_6 (by kernel_rfl) ?_
          refine pv_ 6 27 qHPut_5 (by kernel_rfl) ?_
          refine pv_ 7 28 qHPut_4 (by kernel_rfl) ?_
          refine take_ (i := 8) (N := some 29) (v := ?_) (a' := ?_) qHPut_3 rfl rfl (by kernel_rfl) (fun _ _ _ h => h) (Or.inl ⟨by rfl, ?_⟩) hHeld ?_ ?_
          rotate_left
          · rintro w' ⟨s0, s1, s2, s3, s4, s5⟩
            go_simp
            with_reducible rfl
          rotate_left
          · simp only [Act.put, List.setIfInBounds_toArray, List.set_cons_zero, List.set_cons_succ, i64_w, i32_w]
            rfl
          refine take_ (i := 9) (N := some 30) (v := ?_) (a' := ?_) qHPut_2 rfl rfl (by kernel_rfl) (fun _ _ _ h => h) (Or.inl ⟨by rfl, ?_⟩) hHeld ?_ ?_
          rotate_left
          · rintro w' ⟨s0, s1, s2, s3, s4, s5⟩
            go_simp
            with_reducible rfl
          rotate_left
          · simp only [Act.put, List.setIfInBounds_toArray, List.set_cons_zero, List.set_cons_succ, i64_w, i32_w]
            rfl
          refine one_ (i := 10) (N := some 31) qHPut_1 rfl rfl (by kernel_rfl) (by decide) (fun K hK => ?_)
          refine goes_ Try.func68 (by kernel_rfl) rfl #[.agg #[.int .i64 x.f0, .int .i64 x.f1, .slice A2 x.f2.length c2], .agg #[.int .i64 o.f0, .int .i64 o.f1, .slice Ao o.f2.length co]] (by rfl) rfl rfl (by simp only [List.map_toArray, List.map_cons, List.map_nil]; rfl) ?_
          with_reducible refine (HSM.out x HRD.out A2 c2 _ HL2.out HG2.out (Kd.C_below HRO.out HB.out)).mono ?_
          rintro e w' ⟨rfl, hb⟩
          refine ⟨_, rfl, ?_⟩
          have n0_ := m0_ ((hb.cell (World.block_lt_of_cell? _ _ C0.out)).trans C0.out)
          have n1_ := m0_ ((hb.cell (World.block_lt_of_cell? _ _ C1.out)).trans C1.out)
          have n2_ := m0_ ((hb.cell (World.block_lt_of_cell? _ _ C2.out)).trans C2.out)
          have n3_ := m0_ (blk_below BK1.out hb)
          have n4_ := m0_ (Kd.S_below HS.out hb)
          have n5_ := m0_ (below_step HB.out hb)
          have n6_ := m0_ (below_then HB0.out (Nat.le_trans HBW.out HB.out.size) hb)
          clear C0
          clear C1
          clear C2
          clear BK1
          clear HS
          clear HB
          clear HB0
          have C0 := n0_
          have C1 := n1_
          have C2 := n2_
          have BK1 := n3_
          have HS := n4_
          have HB := n5_
          have HB0 := n6_
          clear n0_ n1_ n2_ n3_ n4_ n5_ n6_
          clear hb
          refine hK.out _ _ ⟨C0.out, C1.out, C2.out, (blk_cell BK1.out 0).trans rfl, (blk_cell BK1.out 1).trans rfl, (blk_cell BK1.out 2).trans rfl⟩ (fun hHeld => ?_)
          clear hK K
          refine norm_ (a' := ?_) ?_ ?_
          rotate_left
          · show Act.put _ (some 31) _ = _
            simp only [Act.put, List.setIfInBounds_toArray, List.set_cons_zero, List.set_cons_succ, i64_w, i32_w]
            rfl
          refine pv_ 11 32 qHPut_0 (by kernel_rfl) ?_
          refine done_ (by kernel_rfl) ?_
    
          go_wp2
          go_meet
          case rel => exact ⟨rfl, by rw [decide_eq_true HLT.out]; rfl, HS, BK1, HB, HB0⟩
        | false =>
          refine start_ (n := 12) (S := fun w' => w'.cell? (ad.add (i * 3)) = some (.int .i64 x.f0) ∧ w'.cell? ⟨(ad.add (i * 3)).block, (ad.add (i * 3)).off + 1, none⟩ = some (.int .i64 x.f1) ∧ w'.cell? ⟨(ad.add (i * 3)).block, (ad.add (i * 3)).off + 2, none⟩ = some (.slice A2 x.f2.length c2) ∧ w'.cell? ⟨gb1, 0, none⟩ = some (.int .i64 o.f0) ∧ w'.cell? ⟨gb1, 1, none⟩ = some (.int .i64 o.f1) ∧ w'.cell? ⟨gb1, 2, none⟩ = some (.slice Ao o.f2.length co)) (ds := []) qHPut_12 (by kernel_rfl) rfl rfl ⟨C0.out, C1.out, C2.out, (blk_cell BK1.out 0).trans rfl, (blk_cell BK1.out 1).trans rfl, (blk_cell BK1.out 2).trans rfl⟩ (fun hHeld => ?_)
          refine pv_ 0 21 qHPut_11 (by kernel_rfl) ?_
          refine pv_ 1 22 qHPut_10 (by kernel_rfl) ?_
          refine pv_ 2 23 qHPut_9 (by kernel_rfl) ?_
          refine pv_ 3 24 qHPut_8 (by kernel_rfl) ?_
          refine pv_ 4 25 qHPut_7 (by kernel_rfl) ?_
          refine pv_ 5 26 qHPut_6 (by kernel_rfl) ?_
          refine pv_ 6 27 qHPut_5 (by kernel_rfl) ?_
          refine pv_ 7 28 qHPut_4 (by kernel_rfl) ?_
          refine take_ (i := 8) (N := some 29) (v := ?_) (a' := ?_) qHPut_3 rfl rfl (by kernel_rfl) (fun _ _ _ h => h) (Or.inl ⟨by rfl, ?_⟩) hHeld ?_ ?_
          rotate_left
          · rintro w' ⟨s0, s1, s2, s3, s4, s5⟩
            go_simp
            with_reducible rfl
          rotate_left
          · simp only [Act.put, List.setIfInBounds_toArray, List.set_cons_zero, List.set_cons_succ, i64_w, i32_w]
            rfl
          refine take_ (i := 9) (N := some 30) (v := ?_) (a' := ?_) qHPut_2 rfl rfl (by kernel_rfl) (fun _ _ _ h => h) (Or.inl ⟨by rfl, ?_⟩) hHeld ?_ ?_
          rotate_left
          · rintro w' ⟨s0, s1, s2, s3, s4, s5⟩
            go_simp
            with_reducible rfl
          rotate_left
          · simp only [Act.put, List.setIfInBounds_toArray, List.set_cons_zero, List.set_cons_succ, i64_w, i32_w]
            rfl
          refine one_ (i := 10) (N := some 31) qHPut_1 rfl rfl (by kernel_rfl) (by decide) (fun K hK => ?_)
          refine goes_ Try.func68 (by kernel_rfl) rfl #[.agg #[.int .i64 x.f0, .int .i64 x.f1, .slice A2 x.f2.length c2], .agg #[.int .i64 o.f0, .int .i64 o.f1, .slice Ao o.f2.length co]] (by rfl) rfl rfl (by simp only [List.map_toArray, List.map_cons, List.map_nil]; rfl) ?_
          with_reducible refine (HSM.out x HRD.out A2 c2 _ HL2.out HG2.out (Kd.C_below HRO.out HB.out)).mono ?_
          rintro e w' ⟨rfl, hb⟩
          refine ⟨_, rfl, ?_⟩
          have n0_ := m0_ ((hb.cell (World.block_lt_of_cell? _ _ C0.out)).trans C0.out)
          have n1_ := m0_ ((hb.cell (World.block_lt_of_cell? _ _ C1.out)).trans C1.out)
          have n2_ := m0_ ((hb.cell (World.block_lt_of_cell? _ _ C2.out)).trans C2.out)
          have n3_ := m0_ (blk_below BK1.out hb)
          have n4_ := m0_ (Kd.S_below HS.out hb)
          have n5_ := m0_ (below_step HB.out hb)
          have n6_ := m0_ (below_then HB0.out (Nat.le_trans HBW.out HB.out.size) hb)
          clear C0
          clear C1
          clear C2
          clear BK1
          clear HS
          clear HB
          clear HB0
          have C0 := n0_
          have C1 := n1_
          have C2 := n2_
          have BK1 := n3_
          have HS := n4_
          have HB := n5_
          have HB0 := n6_
          clear n0_ n1_ n2_ n3_ n4_ n5_ n6_
          clear hb
          refine hK.out _ _ ⟨C0.out, C1.out, C2.out, (blk_cell BK1.out 0).trans rfl, (blk_cell BK1.out 1).trans rfl, (blk_cell BK1.out 2).trans rfl⟩ (fun hHeld => ?_)
          clear hK K
          refine norm_ (a' := ?_) ?_ ?_
          rotate_left
          · show Act.put _ (some 31) _ = _
            simp only [Act.put, List.setIfInBounds_toArray, List.set_cons_zero, List.set_cons_succ, i64_w, i32_w]
            rfl
          refine pv_ 11 32 qHPut_0 (by kernel_rfl) ?_
          refine done_ (by kernel_rfl) ?_
    
          go_wp2
          go_meet
          case rel => exact ⟨rfl, by rw [Bool.and_false], HS, BK1, HB, HB0⟩
      · have hb := below_drew (Below.refl wc.heap.size wc)
        have n0_ := m0_ (blk_below BK1.out hb)
        have n1_ := m0_ (Kd.S_below HS.out hb)
        have n2_ := m0_ (below_step HB.out hb)
        have n3_ := m0_ (below_then HB0.out (Nat.le_trans HBW.out HB.out.size) hb)
        clear BK1
        clear HS
        clear HB
        clear HB0
        have BK1 := n0_
        have HS := n1_
        have HB := n2_
        have HB0 := n3_
        clear n0_ n1_ n2_ n3_
        clear hb
        have hni : ¬ ((i : Int) < (xs.length : Int)) := by omega
        have HLT := m0_ hlt
        go_wp2
        refine start_ (n := 12) (S := fun w' => w'.cell? ⟨gb1, 0, none⟩ = some (.int .i64 o.f0) ∧ w'.cell? ⟨gb1, 1, none⟩ = some (.int .i64 o.f1) ∧ w'.cell? ⟨gb1, 2, none⟩ = some (.slice Ao o.f2.length co)) (ds := []) qHPut_12 (by kernel_rfl) rfl rfl ⟨(blk_cell BK1.out 0).trans rfl, (blk_cell BK1.out 1).trans rfl, (blk_cell BK1.out 2).trans rfl⟩ (fun hHeld => ?_)
        refine pv_ 0 21 qHPut_11 (by kernel_rfl) ?_
        refine pv_ 1 22 qHPut_10 (by kernel_rfl) ?_
        refine pv_ 2 23 qHPut_9 (by kernel_rfl) ?_
        refine pv_ 3 24 qHPut_8 (by kernel_rfl) ?_
        refine pv_ 4 25 qHPut_7 (by kernel_rfl) ?_
        refine pu_ 5 26 qHPut_6 (by kernel_rfl) ?_
        refine pu_ 6 27 qHPut_5 (by kernel_rfl) ?_
        refine pu_ 7 28 qHPut_4 (by kernel_rfl) ?_
        refine pu_ 8 29 qHPut_3 (by kernel_rfl) ?_
        refine pu_ 9 30 qHPut_2 (by kernel_rfl) ?_
        refine pu_ 10 31 qHPut_1 (by kernel_rfl) ?_
        refine pv_ 11 32 qHPut_0 (by kernel_rfl) ?_
        refine done_ (by kernel_rfl) ?_
  
        go_wp2
        go_meet
        case rel => exact ⟨rfl, by rw [decide_eq_false HLT.out]; rfl, HS, BK1, HB, HB0⟩
    case rest =>
      clear HS BK1 HB HB0
      obtain ⟨rfl, rfl, HS, BK1, HB, HB0⟩ := hcut
      cases hv : (decide (i < xs.length) && t) with
      | true =>
        have HV := m0_ hv
        clear hv
        go_wp2
        go_ret
        refine ⟨_, rfl, ?_, HB0.out, Kept.of_below HB.out _⟩
        rw [HRR.out, if_pos (by have := HV.out; simpa using this)]
        exact Kd.S_mono HS.out (fun k hk => .inl hk)
      | false =>
      have HF := m0_ (show ¬ (i < xs.length ∧ t = true) by simpa using hv)
      clear hv
      have HR2 := m0_ (HRR.out.trans (if_neg HF.out))
      obtain ⟨f, hf⟩ := HS.out
      have HIR := m0_ (show i ≤ xs.length by have := (putAt_range HI.out).2; omega)
      have HZ := m0_ (Kd.R_mono (ok' := fun k => P0 k ∧ k < wc.heap.size) (Kd.R_bound hf) (fun k hk => ⟨hk.1, hk.2.2.1⟩))
      clear hf HS
      have HNO := m0_ (show ∀ k, (Value.slice A i c).ownBlock = some k → P0 k ∧ k < wc.heap.size from fun k hk => HZ.out.1 k (by cases A <;> exact hk))
      have HRZ := m0_ (show ReadsRow ((Kd.tag f k27).M wc base (fun k => (P0 k ∧ k < wc.heap.size) ∧ some k ≠ (Value.slice A xs.length c).ownBlock)) 3 wc A xs.zipIdx.length xs.zipIdx by
        obtain ⟨A', c', he, _, hr⟩ := R_readsM HZ.out
        injection he with h1 _ _
        rw [← h1] at hr
        exact hr)
      obtain ⟨i0, hi0, _, hsz, _⟩ := info_parts info27
      have hn0 : (0 : Int) ≤ (i : Int) := by omega
      have hile : (i : Int) ≤ (xs.length : Int) := by have := HIR.out; omega
      have hcut := cut_from (P := Try.prog) 34 27 .i64 Try.underlying34 hi0 3 hsz A xs.length c (i : Int) hn0 hile
      have hcut2 := cut_to (P := Try.prog) 34 27 .i64 Try.underlying34 hi0 A xs.length c (i : Int) hn0 hile HLC.out
      rw [Int.toNat_natCast] at hcut hcut2
      clear hi0 hsz
      obtain ⟨A1, hA1⟩ : ∃ A1, A1 = (if c = i then A else A.map (·.add (i * 3))) := ⟨_, rfl⟩
      obtain ⟨n1, hn1⟩ : ∃ n1, n1 = xs.length - i := ⟨_, rfl⟩
      obtain ⟨c1, hc1⟩ : ∃ c1, c1 = c - i := ⟨_, rfl⟩
      have HRD := m0_ (show ReadsRow ((Kd.tag f k27).M wc base (fun k => (P0 k ∧ k < wc.heap.size) ∧ some k ≠ (Value.slice A xs.length c).ownBlock)) 3 wc A1 n1 (xs.zipIdx.drop i) by
        have := reads_drop (m := i) (c := c) HRZ.out (by rw [List.length_zipIdx]; exact HIR.out) (by rw [List.length_zipIdx]; exact HLC.out)
        rw [List.length_drop, List.length_zipIdx, ← hn1, ← hA1] at this
        exact this)
      rw [← hA1, ← hn1, ← hc1] at hcut
      have HN1 := m0_ hn1
      clear hA1 hn1 hc1 HRZ
      go_upto_region 7 with (first
        | ((with_reducible refine gate_dst (N := 34) rfl ?_); refine Kd.R_lit (Kd.tag f k27) _ 27 ?hg (N := 34) ?hd (xs := ([] : List (S27 × Nat))) (inner := []) (ok := fun k => wc.heap.size ≤ k) (okp := fun _ => False) ?hr ?hp (fun _ hk => hk.elim) (Nat.le_refl _) (Below.refl _ _) (Nat.le_refl _) (by simp) ?_; (case hd => rfl); (case hg => rfl); (case hr => first | (go_simp; done) | (go_simp; rfl)); (case hp => exact (Reps.none _ _)); intro v34 wl hol hb hg_ hnew_; clear hg_; have HL0 := m0_ hol; have HLB := m0_ hb; have HLN := m0_ hnew_; clear hol hb hnew_)
        | ((with_reducible refine gate_builtin (b := .append) (xs := #[.tmp 34, .tmp 37]) rfl ?_); at_builtin; refine Kd.R_append_rows (Kd.tag f k27) (w0 := w0) base rfl (.tmp 34) (.tmp 37) 34 27 (.agg #[(.int .i64 0), (.int .i64 0), (.slice none 0 0)]) 40 rfl Try.underlying34 info27 rfl (Nat.succ_pos 2) (by omega) v34 [] (xs.zipIdx.drop i) A1 n1 c1 (fun k => (P0 k ∨ w.heap.size ≤ k) ∧ some k ≠ (Value.slice A xs.length c).ownBlock) (fun k => (P0 k ∧ k < wc.heap.size) ∧ some k ≠ (Value.slice A xs.length c).ownBlock) rfl rfl ?aO (HRD.out.imp_ HLB.out (fun _ _ h => h)) ?aK ?aP ?aF ?aB ?aS ?aL ?_; (case aO => exact Kd.R_mono (Kd.R_lower HL0.out (Nat.le_trans HBW.out HB.out.size)) (fun k hk => ⟨.inr (Nat.le_trans HB.out.size hk), fun he => by have := (HNO.out k (by cases A <;> exact he.symm)).2; omega⟩)); (case aK => exact fun x cs h => Kd.M_below h HLB.out); (case aP => exact fun k hk => ⟨⟨.inl hk.1.1, hk.2⟩, fun he => by obtain ⟨b, hb, hle⟩ := HLN.out; rw [hb] at he; have := hk.1.2; have := Option.some.inj he; omega⟩); (case aF => exact fun k hk => ⟨.inr (Nat.le_trans HB.out.size (Nat.le_trans HLB.out.size hk)), fun he => by have := (HNO.out k (by cases A <;> exact he.symm)).2; have := HLB.out.size; omega⟩); (case aB => exact below_then HB0.out (Nat.le_trans HBW.out HB.out.size) HLB.out); (case aS => exact Nat.le_trans (Nat.le_trans HBW.out HB.out.size) HLB.out.size); (case aL => have := HN1.out; have := HLEN.out; simp only [List.length_nil]; omega); intro v38 wt hot hb0 hg hat; have hbt : Below wc.heap.size wc wt := HLB.out.grown hg HLB.out.size (fun k hk => by obtain ⟨b, hb, hle⟩ := HLN.out; rw [hb] at hk; cases hk; exact hle); have HT := m0_ hot; have HB0n := m0_ hb0; have HBT := m0_ hbt; clear hot hb0 hg hat hbt))
      have hbt := HBT.out
      have ht0 := HT.out
      rw [List.nil_append] at ht0
      obtain ⟨f', hf'⟩ : ∃ f' : Nat → Nat, f' = fun b => if wt.heap.size ≤ b then xs.length else f b := ⟨_, rfl⟩
      have HFN := m0_ (show ∀ k, wt.heap.size ≤ k → f' k = xs.length from fun k hk => by rw [hf']; exact if_pos hk)
      have n0_ := m0_ (Kd.R_tag (f' := f') (Kd.R_mono (ok' := fun k => ((P0 k ∨ w.heap.size ≤ k) ∧ some k ≠ (Value.slice A xs.length c).ownBlock) ∧ k < wt.heap.size) (Kd.R_bound ht0) (fun k hk => ⟨hk.1, hk.2.2.1⟩)) (fun k hk _ => by rw [hf']; exact if_neg (Nat.not_le.2 hk.2)))
      have n1_ := m0_ (Kd.R_take (m := i) (Kd.R_tag (f' := f') (Kd.R_below HZ.out hbt) (fun k hk _ => by rw [hf']; exact if_neg (Nat.not_le.2 (Nat.lt_of_lt_of_le hk.2 hbt.size)))) (by rw [List.length_zipIdx]; exact HIR.out))
      have n2_ := m0_ (blk_below BK1.out hbt)
      have n3_ := m0_ (below_step HB.out hbt)
      have n4_ := m0_ (blk_lt n2_.out)
      have HNP := m0_ (show ∀ k, (Value.slice A i c).ownBlock = some k → P0 k from fun k hk => (HNO.out k hk).1)
      clear HT HZ BK1 HB HB0 ht0 hbt HBT HL0 HLB HLN HRD HNO HN1 hf'
      have HT := n0_
      have HU := n1_
      have BK1 := n2_
      have HB := n3_
      have HGL := n4_
      have HB0 := HB0n
      clear n0_ n1_ n2_ n3_ n4_ HB0n
      have HWT := m0_ (HB.out.size)
      have HSZ := m0_ (Nat.le_refl wt.heap.size)
      obtain ⟨A5, c5, e5⟩ := Kd.R_slice HT.out
      obtain ⟨n5, hn5⟩ : ∃ n5, n5 = (xs.zipIdx.drop i).length := ⟨_, rfl⟩
      rw [← hn5] at e5
      have HN5 := m0_ hn5
      clear hn5
      subst e5
      have HCP := m0_ (show spec_l3Copy.f o.f0 o.f1 o.f2 = some (o.f0, o.f1, o.f2) by
        unfold spec_l3Copy.f
        simp only [Option.bind_some, List.nil_append, List.length_nil]
        rw [if_pos (by have := HLO.out; omega)])
      go_wp2
      have hb := below_drew (Below.refl wt.heap.size wt)
      have n0_ := m0_ (blk_below BK1.out hb)
      have n1_ := m0_ (Kd.R_below HU.out hb)
      have n2_ := m0_ (Kd.R_below HT.out hb)
      have n3_ := m0_ (below_step HB.out hb)
      have n4_ := m0_ (below_then HB0.out (Nat.le_trans HBW.out HB.out.size) hb)
      have n5_ := m0_ (Nat.le_trans HSZ.out hb.size)
      clear BK1
      clear HU
      clear HT
      clear HB
      clear HB0
      clear HSZ
      have BK1 := n0_
      have HU := n1_
      have HT := n2_
      have HB := n3_
      have HB0 := n4_
      have HSZ := n5_
      clear n0_ n1_ n2_ n3_ n4_ n5_
      clear hb
      refine start_ (n := 10) (S := fun w' => w'.cell? ⟨gb1, 0, none⟩ = some (.int .i64 o.f0) ∧ w'.cell? ⟨gb1, 1, none⟩ = some (.int .i64 o.f1) ∧ w'.cell? ⟨gb1, 2, none⟩ = some (.slice Ao o.f2.length co)) (ds := []) #[false, false, false, false, false, false, false, false, false, false] (by kernel_rfl) rfl rfl ⟨(blk_cell BK1.out 0).trans rfl, (blk_cell BK1.out 1).trans rfl, (blk_cell BK1.out 2).trans rfl⟩ (fun hHeld => ?_)
      refine pv_ 0 39 #[true, false, false, false, false, false, false, false, false, false] (by kernel_rfl) ?_
      refine pv_ 1 40 #[true, true, false, false, false, false, false, false, false, false] (by kernel_rfl) ?_
      refine pv_ 2 41 #[true, true, true, false, false, false, false, false, false, false] (by kernel_rfl) ?_
      refine pv_ 7 46 #[true, true, true, false, false, false, false, true, false, false] (by kernel_rfl) ?_
      refine take_ (i := 3) (N := some 42) (v := ?_) (a' := ?_) #[true, true, true, true, false, false, false, true, false, false] rfl rfl (by kernel_rfl) (fun _ _ _ h => h) (Or.inl ⟨by rfl, ?_⟩) hHeld ?_ ?_
      rotate_left
      · rintro w' ⟨s0, s1, s2⟩
        go_simp
        with_reducible rfl
      rotate_left
      · simp only [Act.put, List.setIfInBounds_toArray, List.set_cons_zero, List.set_cons_succ, i64_w, i32_w]
        rfl
      refine one_ (i := 4) (N := some 43) #[true, true, true, true, true, false, false, true, false, false] rfl rfl (by kernel_rfl) (by decide) (fun K hK => ?_)
      refine goes_ Try.func75 (by kernel_rfl) rfl #[.agg #[.int .i64 o.f0, .int .i64 o.f1, .slice Ao o.f2.length co]] (by rfl) rfl rfl (by simp only [List.map_toArray, List.map_cons, List.map_nil]; rfl) ?_
      with_reducible refine (spec_l3Copy.calls o.f0 o.f1 Ao co o.f2 o.f0 o.f1 o.f2 _ (Kd.C_below HRO.out HB.out) HCO.out HCP.out).mono ?_
      rintro e w' ⟨v43, rfl, hv, hb⟩
      refine ⟨_, rfl, ?_⟩
      have HV := m0_ (Kd.R_mono (ok' := fun k => wt.heap.size ≤ k) (Kd.R_lower (Kd.R_bound hv) (Nat.le_trans HBW.out HB.out.size)) (fun k hk => Nat.le_trans HSZ.out hk.2.1))
      have n0_ := m0_ (blk_below BK1.out hb)
      have n1_ := m0_ (Kd.R_below HU.out hb)
      have n2_ := m0_ (Kd.R_below HT.out hb)
      have n3_ := m0_ (below_step HB.out hb)
      have n4_ := m0_ (below_then HB0.out (Nat.le_trans HBW.out HB.out.size) hb)
      have n5_ := m0_ (Nat.le_trans HSZ.out hb.size)
      clear BK1
      clear HU
      clear HT
      clear HB
      clear HB0
      clear HSZ
      have BK1 := n0_
      have HU := n1_
      have HT := n2_
      have HB := n3_
      have HB0 := n4_
      have HSZ := n5_
      clear n0_ n1_ n2_ n3_ n4_ n5_
      clear hv hb
      obtain ⟨Av, cv, ev⟩ := Kd.R_slice HV.out
      subst ev
      refine hK.out _ _ ⟨(blk_cell BK1.out 0).trans rfl, (blk_cell BK1.out 1).trans rfl, (blk_cell BK1.out 2).trans rfl⟩ (fun hHeld => ?_)
      clear hK K
      refine norm_ (a' := ?_) ?_ ?_
      rotate_left
      · show Act.put _ (some 43) _ = _
        simp only [Act.put, List.setIfInBounds_toArray, List.set_cons_zero, List.set_cons_succ, i64_w, i32_w]
        rfl
      refine one_ (i := 5) (N := some 44) #[true, true, true, true, true, true, false, true, false, false] rfl rfl (by kernel_rfl) (by decide) (fun K hK => ?_)
      refine Kd.R_lit_step (Kd.tag f' k27) (w0 := w0) base 27 ?hg (N := 44) ?hd (xs := [(o, xs.length)]) (inner := [.int .i64 o.f0, .int .i64 o.f1, .slice Av o.f2.length cv]) (ok := fun k => wt.heap.size ≤ k) (okp := fun k => wt.heap.size ≤ k) ?hr ?hp (fun _ hk => hk) HSZ.out HB0.out (Nat.le_trans HBW.out HB.out.size) (by simp) ?_
      (case hd => rfl)
      (case hg => rfl)
      (case hr => first | (go_simp; done) | (go_simp; rfl))
      (case hp => exact Reps.c3 (k27_mkM _ _ _ o (Kd.R_mono HV.out (fun k hk => ⟨hk, HFN.out k hk⟩))) (Reps.none _ _))
      intro v44 wx hol hbx hg hnew
      have hb : Below _ _ wx := (Below.refl _ _).grown hg (Nat.le_refl _) (fun k hk => by cases hk)
      have n0_ := m0_ (blk_below BK1.out hb)
      have n1_ := m0_ (Kd.R_below HU.out hb)
      have n2_ := m0_ (Kd.R_below HT.out hb)
      have n3_ := m0_ (below_step HB.out hb)
      have n4_ := m0_ (below_then HB0.out (Nat.le_trans HBW.out HB.out.size) hb)
      have n5_ := m0_ (Nat.le_trans HSZ.out hb.size)
      clear BK1
      clear HU
      clear HT
      clear HB
      clear HB0
      clear HSZ
      have BK1 := n0_
      have HU := n1_
      have HT := n2_
      have HB := n3_
      have HB0 := n4_
      have HSZ := n5_
      clear n0_ n1_ n2_ n3_ n4_ n5_
      have HLT := m0_ hol
      clear hol hbx hg hnew hb HV
      obtain ⟨A4, c4, e4, _, hr4⟩ := R_readsM HLT.out
      have HL4 := m0_ hr4
      clear hr4
      have e4' : v44 = .slice A4 1 c4 := e4
      clear e4
      subst e4'
      clear HLT
      refine hK.out _ _ ⟨(blk_cell BK1.out 0).trans rfl, (blk_cell BK1.out 1).trans rfl, (blk_cell BK1.out 2).trans rfl⟩ (fun hHeld => ?_)
      clear hK K
      refine norm_ (a' := ?_) ?_ ?_
      rotate_left
      · show Act.put _ (some 44) _ = _
        simp only [Act.put, List.setIfInBounds_toArray, List.set_cons_zero, List.set_cons_succ, i64_w, i32_w]
        rfl
      refine one_ (i := 6) (N := some 45) #[true, true, true, true, true, true, true, true, false, false] rfl rfl (by kernel_rfl) (by decide) (fun K hK => ?_)
      refine Kd.R_append_rows_step (Kd.tag f' k27) (w0 := w0) base (by rfl) (.tmp 41) (.tmp 44) 34 27 (.agg #[(.int .i64 0), (.int .i64 0), (.slice none 0 0)]) 40 rfl Try.underlying34 info27 rfl (Nat.succ_pos 2) (by omega) (.slice A i c) (xs.zipIdx.take i) [(o, xs.length)] A4 1 c4 (fun k => P0 k ∨ w.heap.size ≤ k) (fun k => wt.heap.size ≤ k) rfl rfl ?aO HL4.out ?aK ?aP ?aF HB0.out (Nat.le_trans HBW.out HB.out.size) ?aL ?_
      (case aO => exact Kd.R_mono HU.out (fun k hk => .inl hk.1))
      (case aK => exact fun x cs h => (Kd.tag f' k27).M_mono (fun k hk => hk.1) h)
      (case aP => exact fun k hk => ⟨.inr (Nat.le_trans HWT.out hk), fun he => by have := HOW.out k (by cases A <;> exact he.symm); have := HWT.out; have h3 : wt.heap.size ≤ k := hk; omega⟩)
      (case aF => exact fun k hk => .inr (Nat.le_trans HB.out.size hk))
      (case aL => rw [List.length_take, List.length_zipIdx]; have := HLEN.out; have := HIR.out; omega)
      intro v45 wy hoy hb0 hg hat
      have HY := m0_ hoy
      have KP := m0_ (Kept.of_grown hg (Kept.of_below HB.out P0) (fun k hk => .inl (HNP.out k hk)))
      have HAT := m0_ (show ∀ k, v45.ownBlock = some k → (Value.slice A xs.length c).ownBlock = some k ∨ wt.heap.size ≤ k from fun k hk => hat.elim (fun h => .inl (by rw [hk] at h; cases A <;> exact h.symm)) (fun ⟨b, hb, hle⟩ => .inr (by rw [hk] at hb; cases hb; exact Nat.le_trans HSZ.out hle)))
      have n0_ := m0_ (blk_grown BK1.out hg (fun he => by have := HOW.out gb1 (by cases A <;> exact he.symm); have := GE1.out; omega))
      have n1_ := m0_ (Kd.R_grown HT.out hg (fun k hk he => hk.1.2 (by cases A <;> exact he)))
      have n2_ := m0_ (hb0)
      have n3_ := m0_ (Nat.le_trans HSZ.out hg.size)
      clear BK1
      clear HT
      clear HB0
      clear HSZ
      have BK1 := n0_
      have HT := n1_
      have HB0 := n2_
      have HSZ := n3_
      clear n0_ n1_ n2_ n3_
      clear hoy hb0 hg hat HB HU HL4
      have HR5 := m0_ (show ReadsRow ((Kd.tag f' k27).M wy base (fun k => (((P0 k ∨ w.heap.size ≤ k) ∧ some k ≠ (Value.slice A xs.length c).ownBlock) ∧ k < wt.heap.size) ∧ some k ≠ (Value.slice A5 n5 c5).ownBlock)) 3 wy A5 n5 (xs.zipIdx.drop i) by obtain ⟨A', c', he, _, hr⟩ := R_readsM HT.out; injection he with h1 _ _; rw [← h1, ← HN5.out] at hr; exact hr)
      refine hK.out _ _ ⟨(blk_cell BK1.out 0).trans rfl, (blk_cell BK1.out 1).trans rfl, (blk_cell BK1.out 2).trans rfl⟩ (fun hHeld => ?_)
      clear hK K
      refine norm_ (a' := ?_) ?_ ?_
      rotate_left
      · show Act.put _ (some 45) _ = _
        simp only [Act.put, List.setIfInBounds_toArray, List.set_cons_zero, List.set_cons_succ, i64_w, i32_w]
        rfl
      refine one_ (i := 8) (N := some 47) #[true, true, true, true, true, true, true, true, true, false] rfl rfl (by kernel_rfl) (by decide) (fun K hK => ?_)
      refine Kd.R_append_rows_step (Kd.tag f' k27) (w0 := w0) base (by rfl) (.tmp 45) (.tmp 46) 34 27 (.agg #[(.int .i64 0), (.int .i64 0), (.slice none 0 0)]) 40 rfl Try.underlying34 info27 rfl (Nat.succ_pos 2) (by omega) v45 (xs.zipIdx.take i ++ [(o, xs.length)]) (xs.zipIdx.drop i) A5 n5 c5 (fun k => P0 k ∨ w.heap.size ≤ k) (fun k => ((P0 k ∨ w.heap.size ≤ k) ∧ some k ≠ (Value.slice A xs.length c).ownBlock) ∧ k < wt.heap.size) rfl rfl HY.out HR5.out ?aK ?aP ?aF HB0.out (Nat.le_trans HBW.out (Nat.le_trans HWT.out HSZ.out)) ?aL ?_
      (case aK => exact fun x cs h => (Kd.tag f' k27).M_mono (fun k hk => hk.1) h)
      (case aP => exact fun k hk => ⟨hk.1.1, fun he => (HAT.out k he.symm).elim (fun h => hk.1.2 h.symm) (fun h => by have := hk.2; omega)⟩)
      (case aF => exact fun k hk => .inr (Nat.le_trans HWT.out (Nat.le_trans HSZ.out hk)))
      (case aL => rw [HN5.out, List.length_append, List.length_take, List.length_drop, List.length_zipIdx]; have := HLEN.out; have := HIR.out; simp only [List.length_cons, List.length_nil]; omega)
      intro v47 wz hoz hb0 hg hat
      have HZZ := m0_ hoz
      have n0_ := m0_ (blk_grown BK1.out hg (fun he => (HAT.out gb1 he.symm).elim (fun h => by have := HOW.out gb1 h; have := GE1.out; omega) (fun h => by have := HGL.out; omega)))
      have n1_ := m0_ (hb0)
      have n2_ := m0_ (Kept.of_grown hg KP.out (fun k hk => (HAT.out k hk).elim (fun h => .inl (HNP.out k (by cases A <;> exact h))) (fun h => .inr (Nat.le_trans HWT.out h))))
      clear BK1
      clear HB0
      clear KP
      have BK1 := n0_
      have HB0 := n1_
      have KP := n2_
      clear n0_ n1_ n2_
      clear hoz hb0 hg hat
      refine hK.out _ _ ⟨(blk_cell BK1.out 0).trans rfl, (blk_cell BK1.out 1).trans rfl, (blk_cell BK1.out 2).trans rfl⟩ (fun hHeld => ?_)
      clear hK K
      refine norm_ (a' := ?_) ?_ ?_
      rotate_left
      · show Act.put _ (some 47) _ = _
        simp only [Act.put, List.setIfInBounds_toArray, List.set_cons_zero, List.set_cons_succ, i64_w, i32_w]
        rfl
      refine pv_ 9 4 #[true, true, true, true, true, true, true, true, true, true] (by kernel_rfl) ?_
      refine done_ (by kernel_rfl) ?_

      go_wp2
      go_ret
      refine ⟨_, rfl, ?_, HB0.out, KP.out⟩
      rw [HR2.out, show putIn xs i o = ((xs.zipIdx.take i ++ [(o, xs.length)]) ++ xs.zipIdx.drop i).map Prod.fst by
        rw [List.map_append, List.map_append, List.map_take, List.map_drop, List.zipIdx_map_fst]; rfl]
      refine S_of_tags HZZ.out ?_
      rw [List.map_append, List.map_append, List.map_take, List.map_drop, List.append_assoc, List.map_cons, List.map_nil, List.cons_append, List.nil_append]
      refine (List.perm_middle.nodup_iff).2 ?_
      rw [List.take_append_drop, List.zipIdx_map_snd, List.nodup_cons]
      exact ⟨by simp, List.nodup_range'⟩
end Go.Proofs.Ytiplpckgmikmeaa.M
namespace Go.Proofs.Ytiplpckgmikmeaa.M
open Go.RowKit Go.Proofs.YtiplpckgmikmeaaW.PrintWords Go.Proofs.YtiplpckgmikmeaaW.PrintLast Go.Proofs.YtiplpckgmikmeaaW.PrintMore
attribute [local go_sem] max2_int min2_int max_two min_two max_three min_three max_four min_four
set_option linter.unusedVariables false
set_option linter.unusedSimpArgs false

def spec_l3Put.f (k : Nat) (l0 : List S27) (a1_0 a1_1 : Int) (l1_2 : List Int) : Option (List S27) := if l0.length < 1099511627776 ∧ l1_2.length < 1099511627776 then (putAt (fun x => spec_OccLess.f k x.f0 x.f1 x.f2 a1_0 a1_1 l1_2) l0 l0.length 0).bind fun i => if i < l0.length then (spec_l3Same.f k (l0.getD i z27).f0 (l0.getD i z27).f1 (l0.getD i z27).f2 a1_0 a1_1 l1_2).bind fun t => some (if t = true then l0 else putIn l0 i ⟨a1_0, a1_1, l1_2⟩) else some (putIn l0 i ⟨a1_0, a1_1, l1_2⟩) else none
theorem spec_l3Put.calls_base (k : Nat) (P0_ : Nat → Prop) (u9000_ : Value) (l0 : List (S27)) (a1_0 : Int) (a1_1 : Int) (A1_2 : Option Addr) (c1_2 : Nat) (l1_2 : List Int) (r : List (S27)) (base : Nat) (w0 w : World) (hB : Below base w0 w) (hbs : base ≤ w.heap.size) (ho0 : Kd.S k27 27 w base P0_ u9000_ l0) (hr1_2 : Kd.C (Kd.int .i64) w A1_2 l1_2.length l1_2) (hc1_2 : l1_2.length ≤ c1_2) (h : spec_l3Put.f k l0 a1_0 a1_1 l1_2 = some r) :
  Calls Try.prog 82 #[u9000_, .agg #[.int .i64 a1_0, .int .i64 a1_1, .slice A1_2 l1_2.length c1_2]] w fun e w' => ∃ v0_ : Value, e = .returned (v0_) ∧ Kd.S k27 27 w' base (fun k_ => (P0_ k_ ∨ w.heap.size ≤ k_)) v0_ r ∧ Below base w0 w' ∧ Kept w w' (fun k_ => P0_ k_) := by
 obtain ⟨A, c, rfl, _, _⟩ := Kd.S_reads ho0
 unfold spec_l3Put.f at h
 by_cases hs : l0.length < 1099511627776 ∧ l1_2.length < 1099511627776
 rotate_left
 ·rw [if_neg hs] at h
  cases h
 rw [if_pos hs] at h
 obtain ⟨i, hi, h⟩ := Option.bind_eq_some_iff.1 h
 have less := fun (x : S27) (_ : x ∈ l0) (b : Bool) (hb : spec_OccLess.f k x.f0 x.f1 x.f2 a1_0 a1_1 l1_2 = some b) (A2 : Option Addr) (c2 : Nat) (W : World) (hl2 : x.f2.length ≤ c2) (hC : Kd.C (Kd.int .i64) W A2 x.f2.length x.f2) (hO : Kd.C (Kd.int .i64) W A1_2 l1_2.length l1_2) => spec_OccLess.calls k x.f0 x.f1 A2 c2 x.f2 a1_0 a1_1 A1_2 c1_2 l1_2 b W hC hl2 hO hc1_2 hb
 by_cases hlt : i < l0.length
 ·rw [if_pos hlt] at h
  obtain ⟨t, ht, h⟩ := Option.bind_eq_some_iff.1 h
  refine l3Put_walk (fun x => spec_OccLess.f k x.f0 x.f1 x.f2 a1_0 a1_1 l1_2) P0_ A c l0 ⟨a1_0, a1_1, l1_2⟩ A1_2 c1_2 base w0 w hB hbs ho0 hr1_2 hc1_2 hs.1 hs.2 i hi less t (fun x hx A2 c2 W hl2 hC hO => ?_) r ?_
  ·have e : l0.getD i z27 = x := by rw [List.getD_eq_getElem?_getD, hx];rfl
   rw [e] at ht
   exact spec_l3Same.calls k x.f0 x.f1 A2 c2 x.f2 a1_0 a1_1 A1_2 c1_2 l1_2 t W hC hl2 hO hc1_2 ht
  ·rw [← Option.some.inj h]
   simp [hlt]
 ·rw [if_neg hlt] at h
  refine l3Put_walk (fun x => spec_OccLess.f k x.f0 x.f1 x.f2 a1_0 a1_1 l1_2) P0_ A c l0 ⟨a1_0, a1_1, l1_2⟩ A1_2 c1_2 base w0 w hB hbs ho0 hr1_2 hc1_2 hs.1 hs.2 i hi less false (fun x hx => absurd (List.getElem?_eq_some_iff.1 hx).1 hlt) r ?_
  rw [← Option.some.inj h, if_neg (by simp)]
def spec_l3List.l0 : Nat → List (S27) → List (S27) → Int → Option ((List (S27)))
 | 0, _, _, _ => none
 | k + 1, x0, x3, x4 => if x4 < (x0.length : Int) then (if 0 ≤ x4 then ((spec_l3Copy.f ((rd_T27 x0 x4).f0) ((rd_T27 x0 x4).f1) ((rd_T27 x0 x4).f2)).bind fun bt105 => (if x3.length < 3518437208883 then (spec_l3List.l0 k x0 (x3 ++ [(⟨bt105.1, bt105.2.1, bt105.2.2⟩ : S27)]) (wrap64 (x4 + 1))) else (none))) else (none)) else (some x3)
def spec_l3List.f (k : Nat) (l0 : List (S27)) : Option ((List (S27))) := spec_l3List.l0 k l0 (([] : List (S27))) 0
set_option maxHeartbeats 8000000 in
set_option maxRecDepth 100000 in
theorem spec_l3List.calls (k : Nat) (A0 : Option Addr) (c0 : Nat) (l0 : List (S27)) (r : List (S27)) (w : World) (hr0 : Kd.C k27 w A0 l0.length l0) (hc0 : l0.length ≤ c0) (h : spec_l3List.f k l0 = some r) :
  Calls Try.prog 83 #[.slice A0 l0.length c0] w fun e w' => ∃ v0_ : Value, e = .returned (v0_) ∧ Kd.S k27 27 w' w.heap.size (fun _ => True) v0_ r ∧ Below w.heap.size w w' := by
 have hu27 := Try.underlying27
 have HR0 := m0_ hr0
 have HC0 := m0_ hc0
 clear hr0 hc0
 have HB := m0_ (Below.refl w.heap.size w)
 have H : (spec_l3List.l0 k l0 (([] : List (S27))) 0) = some r := h
 clear h
 obtain ⟨y101, hy101⟩ : ∃ y_ : List (S27), y_ = (([] : List (S27))) := ⟨_, rfl⟩
 replace H : (spec_l3List.l0 k l0 y101 0) = some r := by first | (rw [hy101];with_reducible exact H) | (have H2_ := (Option.bind_some _ _).symm.trans H;rw [hy101];with_reducible exact H2_) | (have H2_ := (Option.bind_some _ _).symm.trans H;with_reducible exact H2_) | with_reducible exact H | (rw [hy101];exact H) | exact H
 have Ny101 := m0_ hy101
 clear hy101
 have H' := m0_ H
 clear H
 go_enter Try.func83, Try.ntmps83
 go_wp2_with (first | ((with_reducible refine gate_dst (N := 5) rfl ?_);refine Kd.S_lit k27 _ 27 ?hg (N := 5) ?hd (xs := ([] : List (S27))) (inner := []) (ok := fun _ => True) (okp := fun _ => True) ?hr ?hp (fun _ hk => hk) trivial (Below.refl _ _) (Nat.le_refl _) (by simp) ?_;(case hd => rfl);(case hg => rfl);(case hr => first | (go_simp;done) | (go_simp;rfl));(case hp => exact (Reps.none _ _));intro v102 w2 ho3 hb hg_ hnew_;clear hg_ hnew_;(first | rw [← Ny101.out] at ho3 | (simp only [Int.reduceToNat] at ho3;rw [← Ny101.out] at ho3));have HO103 := m0_ (Kd.S_lower ho3 (below_size (by exact HB.out)));replace HB := m0_ (below_step (by exact HB.out) hb);clear hb ho3))
 go_loopg [3, 4] k (fun kq v3 v4 w' => ∃ (x3_1 : List (S27)) (x4_1 : Int), v4 = .int .i64 x4_1 ∧ Aside0 (spec_l3List.l0 kq l0 x3_1 x4_1 = some r) ∧ Aside0 (kq ≤ k) ∧ Aside0 (Kd.S k27 27 w' w.heap.size (fun _ => True) v3 x3_1) ∧ Aside0 (Below w.heap.size w w'))
 case atStart => exact ⟨(y101), (0), (by first | rfl | (simp;done) | (simp [*];done)), H', ⟨Nat.le_refl _⟩, ⟨by (with_reducible repeat (first | apply Kd.S_alloc | apply Kd.S_drewN | apply Kd.S_drew));exact HO103.out⟩, ⟨by repeat (first | (with_reducible first | exact HB.out | apply below_alloc | apply pw_below_drewN | apply below_drew1) | exact HB.out)⟩⟩
 case round =>
  clear H'
  try clear p2
  obtain ⟨x3_1, x4_1, rfl, HA, HK1, HO_3, HB⟩ := hrel
  cases gk with
  | zero => exact absurd HA.out (by simp [spec_l3List.l0])
  | succ k1 =>
   have H := HA.out
   clear HA
   simp only [spec_l3List.l0] at H
   by_cases c4 : x4_1 < (l0.length : Int)
   rotate_left
   ·rw [if_neg c4] at H
    have c4b0 : decide (x4_1 < (l0.length : Int)) = false := decide_eq_false c4
    clear c4
    obtain rfl := Option.some.inj H
    go_wp2
    go_ret
    exact ⟨_, by first | rfl | (simp [errW_none, errW_some] <;> rfl) | (simp [*, errW_none, errW_some] <;> rfl), by (with_reducible repeat (first | apply Kd.S_alloc | apply Kd.S_drewN | apply Kd.S_drew));exact HO_3.out, by repeat (first | (with_reducible first | exact HB.out | apply below_alloc | apply pw_below_drewN | apply below_drew1) | exact HB.out)⟩
   rw [if_pos c4] at H
   have c4b0 : decide (x4_1 < (l0.length : Int)) = true := decide_eq_true c4
   clear c4
   by_cases c5 : 0 ≤ x4_1
   rotate_left
   ·rw [if_neg c5] at H
    exact absurd H (by simp)
   rw [if_pos c5] at H
   have c5b0 : decide (0 ≤ x4_1) = true := decide_eq_true c5
   clear c5
   replace H := Option.bind_eq_some_iff.mp H
   obtain ⟨⟨t105, t106, t107⟩, A60, H⟩ := H
   replace H : (if x3_1.length < 3518437208883 then (spec_l3List.l0 k1 l0 (x3_1 ++ [(⟨t105, t106, t107⟩ : S27)]) (wrap64 (x4_1 + 1))) else (none)) = some r := H
   have A6 := m0_ A60
   clear A60
   by_cases c7 : x3_1.length < 3518437208883
   rotate_left
   ·rw [if_neg c7] at H
    exact absurd H (by simp)
   rw [if_pos c7] at H
   have LMc7 := m0_ c7
   clear c7
   obtain ⟨y110, hy110⟩ : ∃ y_ : List (S27), y_ = (x3_1 ++ [(⟨t105, t106, t107⟩ : S27)]) := ⟨_, rfl⟩
   replace H : (spec_l3List.l0 k1 l0 y110 (wrap64 (x4_1 + 1))) = some r := by first | (rw [hy110];with_reducible exact H) | (have H2_ := (Option.bind_some _ _).symm.trans H;rw [hy110];with_reducible exact H2_) | (have H2_ := (Option.bind_some _ _).symm.trans H;with_reducible exact H2_) | with_reducible exact H | (rw [hy110];exact H) | exact H
   have Ny110 := m0_ hy110
   clear hy110
   have H' := m0_ H
   clear H
   have p104 : 0 ≤ (x4_1 : Int) := of_decide_eq_true (by first | (with_reducible assumption) | assumption)
   have q104 : x4_1 < (l0.length : Int) := of_decide_eq_true (by first | (with_reducible assumption) | assumption)
   obtain ⟨ad104, A104_2, c104_2, e104, hx104_0, hx104_1, hx104_2, hl104_2, hi104_2⟩ := at_T27 HR0.out x4_1 p104 q104
   cases e104
   replace hx104_0 := (HB.out.cell (World.block_lt_of_cell? w _ hx104_0)).trans hx104_0
   replace hx104_1 := (HB.out.cell (World.block_lt_of_cell? w _ hx104_1)).trans hx104_1
   replace hx104_2 := (HB.out.cell (World.block_lt_of_cell? w _ hx104_2)).trans hx104_2
   have HR104_2 := m0_ hi104_2
   have HC104_2 := m0_ hl104_2
   clear hi104_2 hl104_2
   replace p104 := eq_true p104
   replace q104 := eq_true q104
   go_wp2_with (first | ((with_reducible refine gate_callee (f := 75) rfl ?_);refine goesL_ (some 17) rfl rfl Try.func75 (by kernel_rfl) rfl #[.agg #[.int .i64 ((rd_T27 l0 x4_1).f0), .int .i64 ((rd_T27 l0 x4_1).f1), .slice A104_2 ((rd_T27 l0 x4_1).f2).length c104_2]] rfl (by (try simp only [List.map_toArray, List.map_cons, List.map_nil]);first | done | rfl | (simp only [List.length_drop, List.length_take];rfl)) ?_;(with_reducible refine (spec_l3Copy.calls ((rd_T27 l0 x4_1).f0) ((rd_T27 l0 x4_1).f1) _ _ ((rd_T27 l0 x4_1).f2) t105 t106 t107 _ ?side1 ?side2 A6.out).mono ?_);(case side1 => repeat (first | exact (Kd.C_below HR104_2.out HB.out) | (with_reducible refine Kd.C_alloc ?_ _) | (with_reducible refine Kd.C_drewN ?_ _) | (with_reducible refine Kd.C_drew ?_)));(case side2 => exact HC104_2.out);rintro e w8 ⟨v108, rfl, ho0, hb⟩;refine ⟨_, rfl, ?_⟩;replace HO_3 := m0_ (Kd.S_elder' (by exact HO_3.out) (Kd.R_base ho0) hb);have HO109 := m0_ (Kd.R_lower ho0 (below_size (by exact HB.out)));replace HB := m0_ (below_step (by exact HB.out) hb);(try clear hb);(try clear hb2);(try clear hk);(try clear hi);(try clear ho0);obtain ⟨Ao10, co10, eo10⟩ := Kd.R_slice HO109.out;subst eo10) | ((with_reducible refine gate_builtin (b := .append) (xs := #[.tmp 12, .tmp 18]) rfl ?_);at_builtin;refine Kd.S_append k27 (w0 := w) w.heap.size rfl (.tmp 12) (.tmp 18) 34 27 (.agg #[(.int .i64 0), (.int .i64 0), (.slice none 0 0)]) 40 rfl Try.underlying34 info27 rfl (by decide) (by omega) u3 x3_1 (⟨t105, t106, t107⟩ : S27) [.int .i64 t105, .int .i64 t106, .slice Ao10 t107.length co10] (fun _ => True) (fun k_ => some k_ = (.slice Ao10 t107.length co10 : Value).ownBlock) rfl rfl ?aP (fun k_ hk_ => ((Kd.R_mono (ok' := fun k_ => ((fun _ => True)) k_ ∧ some k_ ≠ (u3 : Value).ownBlock) (Kd.R_apart' (HO109.out) (Kd.S_typed HO_3.out) (by decide)) (fun k_ hk => ⟨trivial, hk.2⟩))).1 k_ hk_.symm) ?aF ?aO ?aB ?aS ?aL ?_;(case aP => exact k27_mkM _ _ _ (⟨t105, t106, t107⟩ : S27) (Kd.R_mono (Kd.R_tight rfl (Kd.R_mono (ok' := fun k_ => ((fun _ => True)) k_ ∧ some k_ ≠ (u3 : Value).ownBlock) (Kd.R_apart' (HO109.out) (Kd.S_typed HO_3.out) (by decide)) (fun k_ hk => ⟨trivial, hk.2⟩))) (fun _ h_ => h_)));(case aB => exact (by exact HB.out));(case aF => exact (fun _ _ => trivial));(case aO => exact (by (with_reducible repeat (first | apply Kd.S_alloc | apply Kd.S_drewN | apply Kd.S_drew));exact Kd.S_mono HO_3.out (fun k_ hk => ⟨trivial, fun e_ => hk.2 e_⟩)));(case aS => exact (below_size (by exact HB.out)));(case aL => have := LMc7.out;omega);intro v111 w9 ho hb hg hat;rw [← Ny110.out] at ho;have n0_ := m0_ (hb);have n1_ := m0_ (ho);clear HB;clear HO_3;clear HO109;have HB := n0_;have HO112 := n1_;clear n0_ n1_;clear ho hb hg hat))
   go_roundg k1
   case measure => have := HK1.out;omega
   case rel => exact ⟨(y110), (wrap64 (x4_1 + 1)), (by first | rfl | (simp;done) | (simp [*];done)), H', ⟨by have := HK1.out;omega⟩, ⟨by (with_reducible repeat (first | apply Kd.S_alloc | apply Kd.S_drewN | apply Kd.S_drew));exact HO112.out⟩, ⟨by repeat (first | (with_reducible first | exact HB.out | apply below_alloc | apply pw_below_drewN | apply below_drew1) | exact HB.out)⟩⟩

def IsS100 (w0 W : World) (g : Nat) (f0 : List Int) (f1 : Int) : Prop := ∃ A0 c0, W.heap[g]? = some (.cells #[.slice A0 f0.length c0, .int .i64 f1] 100 (0, 0)) ∧ w0.heap.size ≤ g ∧ Kd.C (Kd.int .u8) w0 A0 f0.length f0
theorem IsS100.grown {w0 W : World} {g : Nat} {f0 : List Int} {f1 : Int} {W1 : World} {row : Option Nat} (h : IsS100 w0 W g f0 f1) (hw : W.grownBy W1 row) (hne : some g ≠ row) : IsS100 w0 W1 g f0 f1 := by
 obtain ⟨A0, c0, hb, hg, hr0⟩ := h
 exact ⟨A0, c0, blk_grown hb hw hne, hg, hr0⟩
theorem IsS100.below {w0 W : World} {g : Nat} {f0 : List Int} {f1 : Int} {W1 : World} (h : IsS100 w0 W g f0 f1) (hw : Below W.heap.size W W1) : IsS100 w0 W1 g f0 f1 := h.grown (grown_of_below hw none) (by simp)
theorem IsS100.alloc {w0 W : World} {g : Nat} {f0 : List Int} {f1 : Int} (h : IsS100 w0 W g f0 f1) (o : Obj) : IsS100 w0 (W.alloc o) g f0 f1 := h.below (below_alloc (Below.refl _ _) o)
theorem IsS100.drewN {w0 W : World} {g : Nat} {f0 : List Int} {f1 : Int} (h : IsS100 w0 W g f0 f1) (m : Nat) : IsS100 w0 (W.drewN m) g f0 f1 := h
theorem IsS100.drew {w0 W : World} {g : Nat} {f0 : List Int} {f1 : Int} (h : IsS100 w0 W g f0 f1) : IsS100 w0 W.drew g f0 f1 := h
theorem IsS100.at_ {w0 W : World} {g : Nat} {f0 : List Int} {f1 : Int} {w' : World} {m : Nat} (hq : W.drewN m = w') (h : IsS100 w0 W g f0 f1) : IsS100 w0 w' g f0 f1 := by subst hq;exact IsS100.drewN h m


end Go.Proofs.Ytiplpckgmikmeaa.M
namespace Go.Proofs.Ytiplpckgmikmeaa.M
set_option linter.unusedVariables false
set_option linter.unusedSimpArgs false
end Go.Proofs.Ytiplpckgmikmeaa.M
namespace Go.Proofs.Ytiplpckgmikmeaa.M
open Go.RowKit Go.Proofs.YtiplpckgmikmeaaW.PrintWords Go.Proofs.YtiplpckgmikmeaaW.PrintLast Go.Proofs.YtiplpckgmikmeaaW.PrintMore
attribute [local go_sem] max2_int min2_int max_two min_two max_three min_three max_four min_four
set_option linter.unusedVariables false
set_option linter.unusedSimpArgs false

def spec_OccsPut.f (k : Nat) (l0 : List (S27)) (a1_0 : Int) (a1_1 : Int) (l1_2 : List Int) : Option (List (S27)) := (spec_OccsOk.f k l0).bind fun t => if t = true then (spec_OccOk.f k a1_0 a1_1 l1_2).bind fun u => (if u = true then (spec_l3List.f k l0).bind fun l => spec_l3Put.f k l a1_0 a1_1 l1_2 else some []) else some []
set_option maxHeartbeats 4000000 in
set_option maxRecDepth 100000 in
theorem spec_OccsPut.calls (k : Nat) (A0 : Option Addr) (c0 : Nat) (l0 : List (S27)) (a1_0 : Int) (a1_1 : Int) (A1_2 : Option Addr) (c1_2 : Nat) (l1_2 : List Int) (r : List (S27)) (w : World) (hr0 : Kd.C k27 w A0 l0.length l0) (hc0 : l0.length ≤ c0) (hr1_2 : Kd.C (Kd.int .i64) w A1_2 l1_2.length l1_2) (hc1_2 : l1_2.length ≤ c1_2) (h : spec_OccsPut.f k l0 a1_0 a1_1 l1_2 = some r) :
  Calls Try.prog 53 #[.slice A0 l0.length c0, .agg #[.int .i64 a1_0, .int .i64 a1_1, .slice A1_2 l1_2.length c1_2]] w fun e w' => ∃ v0_ : Value, e = .returned (v0_) ∧ Kd.S k27 27 w' w.heap.size (fun _ => True) v0_ r ∧ Below w.heap.size w w' := by
 unfold spec_OccsPut.f at h
 obtain ⟨t, ht, h⟩ := Option.bind_eq_some_iff.1 h
 have HT := m0_ ht
 have HH := m0_ h
 have HR0 := m0_ hr0
 have HC0 := m0_ hc0
 have HR1 := m0_ hr1_2
 have HC1 := m0_ hc1_2
 have HB := m0_ (Below.refl w.heap.size w)
 clear ht h hr0 hc0 hr1_2 hc1_2
 go_enter Try.func53, Try.ntmps53
 go_wp2_with (first | ((with_reducible refine gate_dst (N := 3) rfl ?_);refine box_event ?hg (N := 3) ?hd (cs := #[.int .i64 a1_0, .int .i64 a1_1, .slice A1_2 l1_2.length c1_2]) (t := 27) ?hr ?_;(case hd => rfl);(case hg => rfl);(case hr => first | (go_simp;done) | (go_simp;rfl));intro gb1 hg wb1 hbox hb;have BK1 := m0_ (hbox);have GE1 := m0_ ((by rw [hg];exact below_size HB.out : w.heap.size ≤ gb1));replace HB := m0_ (below_step HB.out hb);clear hb hbox hg) | (go_at_call 28;fail))
 refine (spec_OccsOk.calls k A0 c0 l0 t _ (Kd.C_below HR0.out HB.out) HC0.out HT.out).mono ?_
 rintro e w' ⟨rfl, hb⟩
 replace BK1 := m0_ (blk_below BK1.out hb)
 replace HB := m0_ (below_step HB.out hb)
 clear hb
 cases t with
 | false =>
  go_wp2_with (first | ((with_reducible refine gate_dst (N := 13) rfl ?_);refine Kd.S_lit k27 _ 27 ?hg (N := 13) ?hd (xs := ([] : List (S27))) (inner := []) (ok := fun _ => True) (okp := fun _ => True) ?hr ?hp (fun _ hk => hk) trivial (Below.refl _ _) (Nat.le_refl _) (by simp) ?_;(case hd => rfl);(case hg => rfl);(case hr => first | (go_simp;done) | (go_simp;rfl));(case hp => exact (Reps.none _ _));intro v13 wl hol hb hg_ hnew_;clear hg_ hnew_;have HS := m0_ (Kd.S_lower hol HB.out.size);have n0_ := m0_ (below_step HB.out hb);clear HB hol hb;have HB := n0_;clear n0_))
  go_ret
  obtain rfl := Option.some.inj HH.out
  exact ⟨_, rfl, HS.out, HB.out⟩
 | true =>
  obtain ⟨u, hu, h⟩ := Option.bind_eq_some_iff.1 (show ((spec_OccOk.f k a1_0 a1_1 l1_2).bind fun u => (if u = true then (spec_l3List.f k l0).bind fun l => spec_l3Put.f k l a1_0 a1_1 l1_2 else some [])) = some r from by have := HH.out;rw [if_pos rfl] at this;exact this)
  have HU := m0_ hu
  clear HH
  have HH := m0_ h
  clear hu h
  have hz0 := (blk_cell BK1.out 0).trans (show _ = some (Value.int .i64 a1_0) from rfl)
  have hz1 := (blk_cell BK1.out 1).trans (show _ = some (Value.int .i64 a1_1) from rfl)
  have hz2 := (blk_cell BK1.out 2).trans (show _ = some (Value.slice A1_2 l1_2.length c1_2) from rfl)
  go_wp2_with (go_at_call 19;fail)
  clear hz0 hz1 hz2
  refine (spec_OccOk.calls k a1_0 a1_1 A1_2 c1_2 l1_2 u _ (Kd.C_below HR1.out HB.out) HC1.out HU.out).mono ?_
  rintro e w' ⟨rfl, hb⟩
  replace BK1 := m0_ (blk_below BK1.out hb)
  replace HB := m0_ (below_step HB.out hb)
  clear hb
  cases u with
  | false =>
   go_wp2_with (first | ((with_reducible refine gate_dst (N := 13) rfl ?_);refine Kd.S_lit k27 _ 27 ?hg (N := 13) ?hd (xs := ([] : List (S27))) (inner := []) (ok := fun _ => True) (okp := fun _ => True) ?hr ?hp (fun _ hk => hk) trivial (Below.refl _ _) (Nat.le_refl _) (by simp) ?_;(case hd => rfl);(case hg => rfl);(case hr => first | (go_simp;done) | (go_simp;rfl));(case hp => exact (Reps.none _ _));intro v13 wl hol hb hg_ hnew_;clear hg_ hnew_;have HS := m0_ (Kd.S_lower hol HB.out.size);have n0_ := m0_ (below_step HB.out hb);clear HB hol hb;have HB := n0_;clear n0_))
   go_ret
   obtain rfl := Option.some.inj HH.out
   exact ⟨_, rfl, HS.out, HB.out⟩
  | true =>
   obtain ⟨l, hl, hp⟩ := Option.bind_eq_some_iff.1 (show ((spec_l3List.f k l0).bind fun l => spec_l3Put.f k l a1_0 a1_1 l1_2) = some r from by have := HH.out;rw [if_pos rfl] at this;exact this)
   have HL := m0_ hl
   have HP := m0_ hp
   clear hl hp
   go_wp2
   have hb := below_drew (Below.refl w'.heap.size w')
   replace BK1 := m0_ (blk_below BK1.out hb)
   replace HB := m0_ (below_step HB.out hb)
   clear hb
   refine start_ (n := 5) (S := fun w' => w'.cell? ⟨gb1, 0, none⟩ = some (.int .i64 a1_0) ∧ w'.cell? ⟨gb1, 1, none⟩ = some (.int .i64 a1_1) ∧ w'.cell? ⟨gb1, 2, none⟩ = some (.slice A1_2 l1_2.length c1_2)) (ds := []) #[false, false, false, false, false] (by kernel_rfl) rfl rfl ⟨(blk_cell BK1.out 0).trans rfl, (blk_cell BK1.out 1).trans rfl, (blk_cell BK1.out 2).trans rfl⟩ (fun hHeld => ?_)
   refine pv_ 0 14 #[true, false, false, false, false] (by kernel_rfl) ?_
   refine take_ (i := 2) (N := some 16) (v := ?_) (a' := ?_) #[true, false, true, false, false] rfl rfl (by kernel_rfl) (fun _ _ _ h => h) (Or.inl ⟨by rfl, ?_⟩) hHeld ?_ ?_
   rotate_left
   ·rintro w' ⟨s0, s1, s2⟩
    go_simp
    with_reducible rfl
   rotate_left
   ·simp only [Act.put, List.setIfInBounds_toArray, List.set_cons_zero, List.set_cons_succ, i64_w, i32_w]
    rfl
   refine one_ (i := 1) (N := some 15) #[true, true, true, false, false] rfl rfl (by kernel_rfl) (by decide) (fun K hK => ?_)
   refine goes_ Try.func83 (by kernel_rfl) rfl #[.slice A0 l0.length c0] (by rfl) rfl rfl (by simp only [List.map_toArray, List.map_cons, List.map_nil];rfl) ?_
   with_reducible refine (spec_l3List.calls k A0 c0 l0 l _ (Kd.C_below HR0.out HB.out) HC0.out HL.out).mono ?_
   rintro e w' ⟨v15, rfl, hs, hb⟩
   refine ⟨_, rfl, ?_⟩
   have HGL := m0_ (blk_lt BK1.out)
   have HS := m0_ (Kd.S_lower (Kd.S_mono (ok' := fun k_ => _ ≤ k_) (Kd.S_bound hs) (fun k_ hk => hk.2.1)) HB.out.size)
   clear hs
   replace BK1 := m0_ (blk_below BK1.out hb)
   replace HB := m0_ (below_step HB.out hb)
   clear hb
   refine hK.out _ _ ⟨(blk_cell BK1.out 0).trans rfl, (blk_cell BK1.out 1).trans rfl, (blk_cell BK1.out 2).trans rfl⟩ (fun hHeld => ?_)
   clear hK K
   refine norm_ (a' := ?_) ?_ ?_
   rotate_left
   ·show Act.put _ (some 15) _ = _
    simp only [Act.put, List.setIfInBounds_toArray, List.set_cons_zero, List.set_cons_succ, i64_w, i32_w]
    rfl
   refine one_ (i := 3) (N := some 17) #[true, true, true, true, false] rfl rfl (by kernel_rfl) (by decide) (fun K hK => ?_)
   refine goes_ Try.func82 (by kernel_rfl) rfl #[v15, .agg #[.int .i64 a1_0, .int .i64 a1_1, .slice A1_2 l1_2.length c1_2]] (by rfl) rfl rfl (by simp only [List.map_toArray, List.map_cons, List.map_nil];rfl) ?_
   with_reducible refine (spec_l3Put.calls_base k _ v15 l a1_0 a1_1 A1_2 c1_2 l1_2 r w.heap.size w _ HB.out HB.out.size HS.out (Kd.C_below HR1.out HB.out) HC1.out HP.out).mono ?_
   rintro e w' ⟨v17, rfl, hs, hb, hk⟩
   refine ⟨_, rfl, ?_⟩
   replace BK1 := m0_ (blk_kept BK1.out hk (fun h_ => by have := HGL.out;omega))
   replace HS := m0_ (Kd.S_mono (ok' := fun _ => True) hs (fun _ _ => trivial))
   replace HB := m0_ (hb)
   clear hs hb hk
   refine hK.out _ _ ⟨(blk_cell BK1.out 0).trans rfl, (blk_cell BK1.out 1).trans rfl, (blk_cell BK1.out 2).trans rfl⟩ (fun hHeld => ?_)
   clear hK K
   refine norm_ (a' := ?_) ?_ ?_
   rotate_left
   ·show Act.put _ (some 17) _ = _
    simp only [Act.put, List.setIfInBounds_toArray, List.set_cons_zero, List.set_cons_succ, i64_w, i32_w]
    rfl
   refine pv_ 4 4 #[true, true, true, true, true] (by kernel_rfl) ?_
   refine done_ (by kernel_rfl) ?_

   go_wp2
   go_ret
   exact ⟨_, rfl, HS.out, HB.out⟩

def impl_in.f (a0 : Int) (a1 : Int) (a2 : Int) : Option (Bool) := if a1 ≤ a0 then (some (decide (a0 ≤ a2))) else (some false)
set_option maxHeartbeats 8000000 in
set_option maxRecDepth 100000 in
theorem impl_in.calls (a0 : Int) (a1 : Int) (a2 : Int) (r : Bool) (w : World) (h : impl_in.f a0 a1 a2 = some r) :
  Calls Try.prog 66 #[.int .i64 a0, .int .i64 a1, .int .i64 a2] w fun e w' => e = .returned (.bool r) ∧ Drawn0 w w' := by
 have H : (if a1 ≤ a0 then (some (decide (a0 ≤ a2))) else (some false)) = some r := h
 clear h
 by_cases c4 : a1 ≤ a0
 ·rw [if_pos c4] at H
  have c4b0 : decide (a1 ≤ a0) = true := decide_eq_true c4
  clear c4
  obtain rfl := Option.some.inj H
  go_enter Try.func66, Try.ntmps66
  go_wp2
  go_ret
  exact ⟨by first | rfl | (simp;done) | (simp [*];done), by repeat (first | exact Drawn0.refl _ | apply Drawn0.step)⟩
 ·rw [if_neg c4] at H
  have c4b0 : decide (a1 ≤ a0) = false := decide_eq_false c4
  clear c4
  obtain rfl := Option.some.inj H
  go_enter Try.func66, Try.ntmps66
  go_wp2
  go_ret
  exact ⟨by first | rfl | (simp;done) | (simp [*];done), by repeat (first | exact Drawn0.refl _ | apply Drawn0.step)⟩

def impl_OccOk.l0 : Nat → Int → List Int → Int → Int → Int → Int → List Int → Option (Bool)
 | 0, _, _, _, _, _, _, _ => none
 | k + 1, x3, x7, x8, x9, x102000, x102001, x102002 => if x9 < x8 then (if 0 ≤ x9 then (if x9 < (x7.length : Int) then ((impl_in.f (rd x7 x9) (wrap64 (x3 + 1)) 23).bind fun t103 => (if t103 = true then (impl_OccOk.l0 k (rd x7 x9) x7 x8 (wrap64 (x9 + 1)) x102000 x102001 x102002) else (some false))) else (none)) else (none)) else (if 1 ≤ x102000 then ((impl_in.f x102001 x102000 2000).bind fun t104 => (if t104 = true then (some (decide ((x102002.length : Int) ≥ 1))) else (some false))) else (some false))
def impl_OccOk.f (k : Nat) (a0_0 : Int) (a0_1 : Int) (l0_2 : List Int) : Option (Bool) := impl_OccOk.l0 k (-1) l0_2 (l0_2.length : Int) 0 a0_0 a0_1 l0_2
set_option maxHeartbeats 8000000 in
set_option maxRecDepth 100000 in
theorem impl_OccOk.calls (k : Nat) (a0_0 : Int) (a0_1 : Int) (A0_2 : Option Addr) (c0_2 : Nat) (l0_2 : List Int) (r : Bool) (w : World) (hr0_2 : Kd.C (Kd.int .i64) w A0_2 l0_2.length l0_2) (hc0_2 : l0_2.length ≤ c0_2) (h : impl_OccOk.f k a0_0 a0_1 l0_2 = some r) :
  Calls Try.prog 21 #[.agg #[.int .i64 a0_0, .int .i64 a0_1, .slice A0_2 l0_2.length c0_2]] w fun e w' => e = .returned (.bool r) ∧ Below w.heap.size w w' := by
 have hu27 := Try.underlying27
 have HR0_2 := m0_ hr0_2
 have HC0_2 := m0_ hc0_2
 clear hr0_2 hc0_2
 have HB := m0_ (Below.refl w.heap.size w)
 have H : (impl_OccOk.l0 k (-1) l0_2 (l0_2.length : Int) 0 a0_0 a0_1 l0_2) = some r := h
 clear h
 have H' := m0_ H
 clear H
 go_enter Try.func21, Try.ntmps21
 go_wp2_with (first | ((with_reducible refine gate_dst (N := 1) rfl ?_);(try (refine gate_guard (by rfl) ?_;dsimp only));refine box_event ?hg (N := 1) ?hd (cs := #[.int .i64 a0_0, .int .i64 a0_1, .slice A0_2 l0_2.length c0_2]) (t := 27) ?hr ?_;(case hd => rfl);(case hg => rfl);(case hr => first | (go_simp;done) | (go_simp;rfl));intro gb101 hg w2 hbox hb;have BK101 := m0_ (hbox);have GW101 := m0_ ((by rw [hg];exact (below_size (by exact HB.out)) : w.heap.size ≤ gb101));have GE101 := m0_ ((by rw [hg];exact (below_size (by exact HB.out)) : w.heap.size ≤ gb101));replace HB := m0_ (below_step (by exact HB.out) hb);clear hb hbox hg;obtain ⟨hcz3_0, hcz3_1, hcz3_2, hfz3_0, hfz3_1, hfz3_2⟩ := bx3 BK101.out))
 go_loopg [3, 9] k (fun kq v3 v9 w' => ∃ (x3_1 : Int) (x9_1 : Int), v3 = .int .i64 x3_1 ∧ v9 = .int .i64 x9_1 ∧ Aside0 (impl_OccOk.l0 kq x3_1 l0_2 (l0_2.length : Int) x9_1 a0_0 a0_1 l0_2 = some r) ∧ Aside0 (kq ≤ k) ∧ Aside0 (w'.heap[gb101]? = some (.cells #[.int .i64 a0_0, .int .i64 a0_1, (.slice A0_2 l0_2.length c0_2)] 27 (0, 0))) ∧ Aside0 (Below w.heap.size w w'))
 case atStart => exact ⟨((-1)), (0), (by first | rfl | (simp;done) | (simp [*];done)), (by first | rfl | (simp;done) | (simp [*];done)), H', ⟨Nat.le_refl _⟩, ⟨by (with_reducible repeat (first | refine blk_drewN ?_ _ | refine blk_drew ?_ | refine blk_alloc ?_ _));exact BK101.out⟩, ⟨by repeat (first | (with_reducible first | exact HB.out | apply below_alloc | apply pw_below_drewN | apply below_drew1 | refine below_set ?_ GE101.out) | exact HB.out)⟩⟩
 case round =>
  clear H'
  try clear c2
  try clear p2
  try clear hcz3_0
  try clear hcz3_1
  try clear hcz3_2
  try clear hfz3_0
  try clear hfz3_1
  try clear hfz3_2
  obtain ⟨x3_1, x9_1, rfl, rfl, HA, HK1, BK101, HB⟩ := hrel
  cases gk with
  | zero => exact absurd HA.out (by simp [impl_OccOk.l0])
  | succ k1 =>
   have H := HA.out
   clear HA
   simp only [impl_OccOk.l0] at H
   by_cases c4 : x9_1 < (l0_2.length : Int)
   rotate_left
   ·rw [if_neg c4] at H
    have c4b0 : decide (x9_1 < (l0_2.length : Int)) = false := decide_eq_false c4
    clear c4
    by_cases c9 : 1 ≤ a0_0
    ·rw [if_pos c9] at H
     have c9b0 : decide (1 ≤ a0_0) = true := decide_eq_true c9
     clear c9
     replace H := Option.bind_eq_some_iff.mp H
     obtain ⟨t104, A100, H⟩ := H
     replace H : (if t104 = true then (some (decide ((l0_2.length : Int) ≥ 1))) else (some false)) = some r := H
     have A10 := m0_ A100
     clear A100
     by_cases c11 : t104 = true
     ·subst c11
      have H1 : (some (decide ((l0_2.length : Int) ≥ 1))) = some r := by rw [if_pos rfl] at H;exact H
      clear H
      have H := H1
      clear H1
      obtain rfl := Option.some.inj H
      obtain ⟨hcz12_0, hcz12_1, hcz12_2, hfz12_0, hfz12_1, hfz12_2⟩ := bx3 BK101.out
      go_wp2_with (first | (go_at_call 66;(with_reducible refine (impl_in.calls a0_1 a0_0 2000 true _ A10.out).mono ?_);rintro e w' ⟨rfl, ⟨nd, rfl⟩⟩))
      go_ret
      exact ⟨by first | rfl | (simp [errW_none, errW_some] <;> rfl) | (simp [*, errW_none, errW_some] <;> rfl), by repeat (first | (with_reducible first | exact HB.out | apply below_alloc | apply pw_below_drewN | apply below_drew1 | refine below_set ?_ GE101.out) | exact HB.out)⟩
     ·replace c11 := Bool.eq_false_iff.mpr c11
      subst c11
      have H1 : (some false) = some r := by rw [if_neg (show ¬ (false = true) by decide)] at H;exact H
      clear H
      have H := H1
      clear H1
      obtain rfl := Option.some.inj H
      obtain ⟨hcz13_0, hcz13_1, hcz13_2, hfz13_0, hfz13_1, hfz13_2⟩ := bx3 BK101.out
      go_wp2_with (first | (go_at_call 66;(with_reducible refine (impl_in.calls a0_1 a0_0 2000 false _ A10.out).mono ?_);rintro e w' ⟨rfl, ⟨nd, rfl⟩⟩))
      go_ret
      exact ⟨by first | rfl | (simp [errW_none, errW_some] <;> rfl) | (simp [*, errW_none, errW_some] <;> rfl), by repeat (first | (with_reducible first | exact HB.out | apply below_alloc | apply pw_below_drewN | apply below_drew1 | refine below_set ?_ GE101.out) | exact HB.out)⟩
    ·rw [if_neg c9] at H
     have c9b0 : decide (1 ≤ a0_0) = false := decide_eq_false c9
     clear c9
     obtain rfl := Option.some.inj H
     obtain ⟨hcz14_0, hcz14_1, hcz14_2, hfz14_0, hfz14_1, hfz14_2⟩ := bx3 BK101.out
     go_wp2
     go_ret
     exact ⟨by first | rfl | (simp [errW_none, errW_some] <;> rfl) | (simp [*, errW_none, errW_some] <;> rfl), by repeat (first | (with_reducible first | exact HB.out | apply below_alloc | apply pw_below_drewN | apply below_drew1 | refine below_set ?_ GE101.out) | exact HB.out)⟩
   rw [if_pos c4] at H
   have c4b0 : decide (x9_1 < (l0_2.length : Int)) = true := decide_eq_true c4
   clear c4
   by_cases c5 : 0 ≤ x9_1
   rotate_left
   ·rw [if_neg c5] at H
    exact absurd H (by simp)
   rw [if_pos c5] at H
   have c5b0 : decide (0 ≤ x9_1) = true := decide_eq_true c5
   clear c5
   by_cases c6 : x9_1 < (l0_2.length : Int)
   rotate_left
   ·rw [if_neg c6] at H
    exact absurd H (by simp)
   rw [if_pos c6] at H
   have c6b0 : decide (x9_1 < (l0_2.length : Int)) = true := decide_eq_true c6
   clear c6
   replace H := Option.bind_eq_some_iff.mp H
   obtain ⟨t103, A70, H⟩ := H
   replace H : (if t103 = true then (impl_OccOk.l0 k1 (rd l0_2 x9_1) l0_2 (l0_2.length : Int) (wrap64 (x9_1 + 1)) a0_0 a0_1 l0_2) else (some false)) = some r := H
   have A7 := m0_ A70
   clear A70
   by_cases c8 : t103 = true
   rotate_left
   ·replace c8 := Bool.eq_false_iff.mpr c8
    subst c8
    have H1 : (some false) = some r := by rw [if_neg (show ¬ (false = true) by decide)] at H;exact H
    clear H
    have H := H1
    clear H1
    obtain rfl := Option.some.inj H
    have p102 : 0 ≤ (x9_1 : Int) := of_decide_eq_true (by first | (with_reducible assumption) | assumption)
    have q102 : x9_1 < (l0_2.length : Int) := of_decide_eq_true (by first | (with_reducible assumption) | assumption)
    obtain ⟨ad102, e102, hx102_0⟩ := Kd.at_int HR0_2.out x9_1 p102 q102
    cases e102
    replace hx102_0 := (HB.out.cell (World.block_lt_of_cell? w _ hx102_0)).trans hx102_0
    replace p102 := eq_true p102
    replace q102 := eq_true q102
    go_wp2_with (first | ((with_reducible refine gate_callee (f := 66) rfl ?_);refine goesL_ (some 16) rfl rfl Try.func66 (by kernel_rfl) rfl #[.int .i64 (rd l0_2 x9_1), .int .i64 (wrap64 (x3_1 + 1)), .int .i64 23] rfl (by (try simp only [List.map_toArray, List.map_cons, List.map_nil]);first | done | rfl | (simp only [List.length_drop, List.length_take];rfl)) ?_;(with_reducible refine (impl_in.calls (rd l0_2 x9_1) (wrap64 (x3_1 + 1)) 23 false _ A7.out).mono ?_);rintro e w' ⟨rfl, ⟨nd, rfl⟩⟩;refine ⟨_, rfl, ?_⟩) | (go_at_call 66;(with_reducible refine (impl_in.calls (rd l0_2 x9_1) (wrap64 (x3_1 + 1)) 23 false _ A7.out).mono ?_);rintro e w' ⟨rfl, ⟨nd, rfl⟩⟩))
    go_ret
    exact ⟨by first | rfl | (simp [errW_none, errW_some] <;> rfl) | (simp [*, errW_none, errW_some] <;> rfl), by repeat (first | (with_reducible first | exact HB.out | apply below_alloc | apply pw_below_drewN | apply below_drew1 | refine below_set ?_ GE101.out) | exact HB.out)⟩
   subst c8
   have H1 : (impl_OccOk.l0 k1 (rd l0_2 x9_1) l0_2 (l0_2.length : Int) (wrap64 (x9_1 + 1)) a0_0 a0_1 l0_2) = some r := by rw [if_pos rfl] at H;exact H
   clear H
   have H := H1
   clear H1
   have H' := m0_ H
   clear H
   have p102 : 0 ≤ (x9_1 : Int) := of_decide_eq_true (by first | (with_reducible assumption) | assumption)
   have q102 : x9_1 < (l0_2.length : Int) := of_decide_eq_true (by first | (with_reducible assumption) | assumption)
   obtain ⟨ad102, e102, hx102_0⟩ := Kd.at_int HR0_2.out x9_1 p102 q102
   cases e102
   replace hx102_0 := (HB.out.cell (World.block_lt_of_cell? w _ hx102_0)).trans hx102_0
   replace p102 := eq_true p102
   replace q102 := eq_true q102
   go_wp2_with (first | ((with_reducible refine gate_callee (f := 66) rfl ?_);refine goesL_ (some 16) rfl rfl Try.func66 (by kernel_rfl) rfl #[.int .i64 (rd l0_2 x9_1), .int .i64 (wrap64 (x3_1 + 1)), .int .i64 23] rfl (by (try simp only [List.map_toArray, List.map_cons, List.map_nil]);first | done | rfl | (simp only [List.length_drop, List.length_take];rfl)) ?_;(with_reducible refine (impl_in.calls (rd l0_2 x9_1) (wrap64 (x3_1 + 1)) 23 true _ A7.out).mono ?_);rintro e w' ⟨rfl, ⟨nd, rfl⟩⟩;refine ⟨_, rfl, ?_⟩) | (go_at_call 66;(with_reducible refine (impl_in.calls (rd l0_2 x9_1) (wrap64 (x3_1 + 1)) 23 true _ A7.out).mono ?_);rintro e w' ⟨rfl, ⟨nd, rfl⟩⟩))
   go_roundg k1
   case measure => have := HK1.out;omega
   case rel => exact ⟨(rd l0_2 x9_1), (wrap64 (x9_1 + 1)), (by first | rfl | (simp;done) | (simp [*];done)), (by first | rfl | (simp;done) | (simp [*];done)), H', ⟨by have := HK1.out;omega⟩, ⟨by (with_reducible repeat (first | refine blk_drewN ?_ _ | refine blk_drew ?_ | refine blk_alloc ?_ _));exact BK101.out⟩, ⟨by repeat (first | (with_reducible first | exact HB.out | apply below_alloc | apply pw_below_drewN | apply below_drew1 | refine below_set ?_ GE101.out) | exact HB.out)⟩⟩

def impl_sign.f (a0 : Bool) : Option (Int) := if a0 = true then (some (-1)) else (some 1)
set_option maxHeartbeats 8000000 in
set_option maxRecDepth 100000 in
theorem impl_sign.calls (a0 : Bool) (r : Int) (w : World) (h : impl_sign.f a0 = some r) :
  Calls Try.prog 94 #[.bool a0] w fun e w' => e = .returned (.int .i64 r) ∧ Drawn0 w w' := by
 have H : (if a0 = true then (some (-1)) else (some 1)) = some r := h
 clear h
 by_cases c2 : a0 = true
 ·subst c2
  have H1 : (some (-1)) = some r := by rw [if_pos rfl] at H;exact H
  clear H
  have H := H1
  clear H1
  obtain rfl := Option.some.inj H
  go_enter Try.func94, Try.ntmps94
  go_wp2
  go_ret
  exact ⟨by first | rfl | (simp;done) | (simp [*];done), by repeat (first | exact Drawn0.refl _ | apply Drawn0.step)⟩
 replace c2 := Bool.eq_false_iff.mpr c2
 subst c2
 have H1 : (some 1) = some r := by rw [if_neg (show ¬ (false = true) by decide)] at H;exact H
 clear H
 have H := H1
 clear H1
 obtain rfl := Option.some.inj H
 go_enter Try.func94, Try.ntmps94
 go_wp2
 go_ret
 exact ⟨by first | rfl | (simp;done) | (simp [*];done), by repeat (first | exact Drawn0.refl _ | apply Drawn0.step)⟩

def cmp_isNaN_int.f (a0 : Int) : Option (Bool) := some (a0 != a0)
set_option maxHeartbeats 8000000 in
set_option maxRecDepth 100000 in
theorem cmp_isNaN_int.calls (a0 : Int) (r : Bool) (w : World) (h : cmp_isNaN_int.f a0 = some r) :
  Calls Try.prog 115 #[.int .i64 a0] w fun e w' => e = .returned (.bool r) ∧ Drawn0 w w' := by
 have H : (some (a0 != a0)) = some r := h
 clear h
 obtain rfl := Option.some.inj H
 go_enter Try.func115, Try.ntmps115
 go_wp2
 go_ret
 exact ⟨by first | rfl | (simp;done) | (simp [*];done), by repeat (first | exact Drawn0.refl _ | apply Drawn0.step)⟩

def cmp_Compare_int.f (a0 : Int) (a1 : Int) : Option (Int) := (cmp_isNaN_int.f a0).bind fun t101 => ((cmp_isNaN_int.f a1).bind fun t102 => (if t101 = true then (if t102 = true then (some 0) else (some (-1))) else (if t102 = true then (some 1) else (if a0 < a1 then (some (-1)) else (if a0 > a1 then (some 1) else (some 0))))))
set_option maxHeartbeats 8000000 in
set_option maxRecDepth 100000 in
theorem cmp_Compare_int.calls (a0 : Int) (a1 : Int) (r : Int) (w : World) (h : cmp_Compare_int.f a0 a1 = some r) :
  Calls Try.prog 109 #[.int .i64 a0, .int .i64 a1] w fun e w' => e = .returned (.int .i64 r) ∧ Drawn0 w w' := by
 have H : ((cmp_isNaN_int.f a0).bind fun t101 => ((cmp_isNaN_int.f a1).bind fun t102 => (if t101 = true then (if t102 = true then (some 0) else (some (-1))) else (if t102 = true then (some 1) else (if a0 < a1 then (some (-1)) else (if a0 > a1 then (some 1) else (some 0))))))) = some r := h
 clear h
 replace H := Option.bind_eq_some_iff.mp H
 obtain ⟨t101, A30, H⟩ := H
 replace H : ((cmp_isNaN_int.f a1).bind fun t102 => (if t101 = true then (if t102 = true then (some 0) else (some (-1))) else (if t102 = true then (some 1) else (if a0 < a1 then (some (-1)) else (if a0 > a1 then (some 1) else (some 0)))))) = some r := H
 have A3 := m0_ A30
 clear A30
 replace H := Option.bind_eq_some_iff.mp H
 obtain ⟨t102, A40, H⟩ := H
 replace H : (if t101 = true then (if t102 = true then (some 0) else (some (-1))) else (if t102 = true then (some 1) else (if a0 < a1 then (some (-1)) else (if a0 > a1 then (some 1) else (some 0))))) = some r := H
 have A4 := m0_ A40
 clear A40
 by_cases c5 : t101 = true
 ·subst c5
  have H1 : (if t102 = true then (some 0) else (some (-1))) = some r := by rw [if_pos rfl] at H;exact H
  clear H
  have H := H1
  clear H1
  by_cases c6 : t102 = true
  ·subst c6
   have H1 : (some 0) = some r := by rw [if_pos rfl] at H;exact H
   clear H
   have H := H1
   clear H1
   obtain rfl := Option.some.inj H
   go_enter Try.func109, Try.ntmps109
   go_wp2_with (first | ((with_reducible refine gate_callee (f := 115) rfl ?_);refine goesL_ (some 8) rfl rfl Try.func115 (by kernel_rfl) rfl #[.int .i64 a0] rfl (by (try simp only [List.map_toArray, List.map_cons, List.map_nil]);first | done | rfl | (simp only [List.length_drop, List.length_take];rfl)) ?_;(with_reducible refine (cmp_isNaN_int.calls a0 true _ A3.out).mono ?_);rintro e w' ⟨rfl, ⟨nd, rfl⟩⟩;refine ⟨_, rfl, ?_⟩) | (go_at_call 115;(with_reducible refine (cmp_isNaN_int.calls a0 true _ A3.out).mono ?_);rintro e w' ⟨rfl, ⟨nd, rfl⟩⟩) | ((with_reducible refine gate_callee (f := 115) rfl ?_);refine goesL_ (some 10) rfl rfl Try.func115 (by kernel_rfl) rfl #[.int .i64 a1] rfl (by (try simp only [List.map_toArray, List.map_cons, List.map_nil]);first | done | rfl | (simp only [List.length_drop, List.length_take];rfl)) ?_;(with_reducible refine (cmp_isNaN_int.calls a1 true _ A4.out).mono ?_);rintro e w' ⟨rfl, ⟨nd, rfl⟩⟩;refine ⟨_, rfl, ?_⟩) | (go_at_call 115;(with_reducible refine (cmp_isNaN_int.calls a1 true _ A4.out).mono ?_);rintro e w' ⟨rfl, ⟨nd, rfl⟩⟩))
   go_ret
   exact ⟨by first | rfl | (simp;done) | (simp [*];done), by repeat (first | exact Drawn0.refl _ | apply Drawn0.step)⟩
  replace c6 := Bool.eq_false_iff.mpr c6
  subst c6
  have H1 : (some (-1)) = some r := by rw [if_neg (show ¬ (false = true) by decide)] at H;exact H
  clear H
  have H := H1
  clear H1
  obtain rfl := Option.some.inj H
  go_enter Try.func109, Try.ntmps109
  go_wp2_with (first | ((with_reducible refine gate_callee (f := 115) rfl ?_);refine goesL_ (some 8) rfl rfl Try.func115 (by kernel_rfl) rfl #[.int .i64 a0] rfl (by (try simp only [List.map_toArray, List.map_cons, List.map_nil]);first | done | rfl | (simp only [List.length_drop, List.length_take];rfl)) ?_;(with_reducible refine (cmp_isNaN_int.calls a0 true _ A3.out).mono ?_);rintro e w' ⟨rfl, ⟨nd, rfl⟩⟩;refine ⟨_, rfl, ?_⟩) | (go_at_call 115;(with_reducible refine (cmp_isNaN_int.calls a0 true _ A3.out).mono ?_);rintro e w' ⟨rfl, ⟨nd, rfl⟩⟩) | ((with_reducible refine gate_callee (f := 115) rfl ?_);refine goesL_ (some 10) rfl rfl Try.func115 (by kernel_rfl) rfl #[.int .i64 a1] rfl (by (try simp only [List.map_toArray, List.map_cons, List.map_nil]);first | done | rfl | (simp only [List.length_drop, List.length_take];rfl)) ?_;(with_reducible refine (cmp_isNaN_int.calls a1 false _ A4.out).mono ?_);rintro e w' ⟨rfl, ⟨nd, rfl⟩⟩;refine ⟨_, rfl, ?_⟩) | (go_at_call 115;(with_reducible refine (cmp_isNaN_int.calls a1 false _ A4.out).mono ?_);rintro e w' ⟨rfl, ⟨nd, rfl⟩⟩))
  go_ret
  exact ⟨by first | rfl | (simp;done) | (simp [*];done), by repeat (first | exact Drawn0.refl _ | apply Drawn0.step)⟩
 replace c5 := Bool.eq_false_iff.mpr c5
 subst c5
 have H1 : (if t102 = true then (some 1) else (if a0 < a1 then (some (-1)) else (if a0 > a1 then (some 1) else (some 0)))) = some r := by rw [if_neg (show ¬ (false = true) by decide)] at H;exact H
 clear H
 have H := H1
 clear H1
 by_cases c7 : t102 = true
 ·subst c7
  have H1 : (some 1) = some r := by rw [if_pos rfl] at H;exact H
  clear H
  have H := H1
  clear H1
  obtain rfl := Option.some.inj H
  go_enter Try.func109, Try.ntmps109
  go_wp2_with (first | ((with_reducible refine gate_callee (f := 115) rfl ?_);refine goesL_ (some 8) rfl rfl Try.func115 (by kernel_rfl) rfl #[.int .i64 a0] rfl (by (try simp only [List.map_toArray, List.map_cons, List.map_nil]);first | done | rfl | (simp only [List.length_drop, List.length_take];rfl)) ?_;(with_reducible refine (cmp_isNaN_int.calls a0 false _ A3.out).mono ?_);rintro e w' ⟨rfl, ⟨nd, rfl⟩⟩;refine ⟨_, rfl, ?_⟩) | (go_at_call 115;(with_reducible refine (cmp_isNaN_int.calls a0 false _ A3.out).mono ?_);rintro e w' ⟨rfl, ⟨nd, rfl⟩⟩) | ((with_reducible refine gate_callee (f := 115) rfl ?_);refine goesL_ (some 10) rfl rfl Try.func115 (by kernel_rfl) rfl #[.int .i64 a1] rfl (by (try simp only [List.map_toArray, List.map_cons, List.map_nil]);first | done | rfl | (simp only [List.length_drop, List.length_take];rfl)) ?_;(with_reducible refine (cmp_isNaN_int.calls a1 true _ A4.out).mono ?_);rintro e w' ⟨rfl, ⟨nd, rfl⟩⟩;refine ⟨_, rfl, ?_⟩) | (go_at_call 115;(with_reducible refine (cmp_isNaN_int.calls a1 true _ A4.out).mono ?_);rintro e w' ⟨rfl, ⟨nd, rfl⟩⟩))
  go_ret
  exact ⟨by first | rfl | (simp;done) | (simp [*];done), by repeat (first | exact Drawn0.refl _ | apply Drawn0.step)⟩
 replace c7 := Bool.eq_false_iff.mpr c7
 subst c7
 have H1 : (if a0 < a1 then (some (-1)) else (if a0 > a1 then (some 1) else (some 0))) = some r := by rw [if_neg (show ¬ (false = true) by decide)] at H;exact H
 clear H
 have H := H1
 clear H1
 by_cases c8 : a0 < a1
 ·rw [if_pos c8] at H
  have c8b0 : decide (a0 < a1) = true := decide_eq_true c8
  clear c8
  obtain rfl := Option.some.inj H
  go_enter Try.func109, Try.ntmps109
  go_wp2_with (first | ((with_reducible refine gate_callee (f := 115) rfl ?_);refine goesL_ (some 8) rfl rfl Try.func115 (by kernel_rfl) rfl #[.int .i64 a0] rfl (by (try simp only [List.map_toArray, List.map_cons, List.map_nil]);first | done | rfl | (simp only [List.length_drop, List.length_take];rfl)) ?_;(with_reducible refine (cmp_isNaN_int.calls a0 false _ A3.out).mono ?_);rintro e w' ⟨rfl, ⟨nd, rfl⟩⟩;refine ⟨_, rfl, ?_⟩) | (go_at_call 115;(with_reducible refine (cmp_isNaN_int.calls a0 false _ A3.out).mono ?_);rintro e w' ⟨rfl, ⟨nd, rfl⟩⟩) | ((with_reducible refine gate_callee (f := 115) rfl ?_);refine goesL_ (some 10) rfl rfl Try.func115 (by kernel_rfl) rfl #[.int .i64 a1] rfl (by (try simp only [List.map_toArray, List.map_cons, List.map_nil]);first | done | rfl | (simp only [List.length_drop, List.length_take];rfl)) ?_;(with_reducible refine (cmp_isNaN_int.calls a1 false _ A4.out).mono ?_);rintro e w' ⟨rfl, ⟨nd, rfl⟩⟩;refine ⟨_, rfl, ?_⟩) | (go_at_call 115;(with_reducible refine (cmp_isNaN_int.calls a1 false _ A4.out).mono ?_);rintro e w' ⟨rfl, ⟨nd, rfl⟩⟩))
  go_ret
  exact ⟨by first | rfl | (simp;done) | (simp [*];done), by repeat (first | exact Drawn0.refl _ | apply Drawn0.step)⟩
 rw [if_neg c8] at H
 have c8b0 : decide (a0 < a1) = false := decide_eq_false c8
 clear c8
 by_cases c9 : a0 > a1
 ·rw [if_pos c9] at H
  have c9b0 : decide (a1 < a0) = true := decide_eq_true c9
  clear c9
  obtain rfl := Option.some.inj H
  go_enter Try.func109, Try.ntmps109
  go_wp2_with (first | ((with_reducible refine gate_callee (f := 115) rfl ?_);refine goesL_ (some 8) rfl rfl Try.func115 (by kernel_rfl) rfl #[.int .i64 a0] rfl (by (try simp only [List.map_toArray, List.map_cons, List.map_nil]);first | done | rfl | (simp only [List.length_drop, List.length_take];rfl)) ?_;(with_reducible refine (cmp_isNaN_int.calls a0 false _ A3.out).mono ?_);rintro e w' ⟨rfl, ⟨nd, rfl⟩⟩;refine ⟨_, rfl, ?_⟩) | (go_at_call 115;(with_reducible refine (cmp_isNaN_int.calls a0 false _ A3.out).mono ?_);rintro e w' ⟨rfl, ⟨nd, rfl⟩⟩) | ((with_reducible refine gate_callee (f := 115) rfl ?_);refine goesL_ (some 10) rfl rfl Try.func115 (by kernel_rfl) rfl #[.int .i64 a1] rfl (by (try simp only [List.map_toArray, List.map_cons, List.map_nil]);first | done | rfl | (simp only [List.length_drop, List.length_take];rfl)) ?_;(with_reducible refine (cmp_isNaN_int.calls a1 false _ A4.out).mono ?_);rintro e w' ⟨rfl, ⟨nd, rfl⟩⟩;refine ⟨_, rfl, ?_⟩) | (go_at_call 115;(with_reducible refine (cmp_isNaN_int.calls a1 false _ A4.out).mono ?_);rintro e w' ⟨rfl, ⟨nd, rfl⟩⟩))
  go_ret
  exact ⟨by first | rfl | (simp;done) | (simp [*];done), by repeat (first | exact Drawn0.refl _ | apply Drawn0.step)⟩
 ·rw [if_neg c9] at H
  have c9b0 : decide (a1 < a0) = false := decide_eq_false c9
  clear c9
  obtain rfl := Option.some.inj H
  go_enter Try.func109, Try.ntmps109
  go_wp2_with (first | ((with_reducible refine gate_callee (f := 115) rfl ?_);refine goesL_ (some 8) rfl rfl Try.func115 (by kernel_rfl) rfl #[.int .i64 a0] rfl (by (try simp only [List.map_toArray, List.map_cons, List.map_nil]);first | done | rfl | (simp only [List.length_drop, List.length_take];rfl)) ?_;(with_reducible refine (cmp_isNaN_int.calls a0 false _ A3.out).mono ?_);rintro e w' ⟨rfl, ⟨nd, rfl⟩⟩;refine ⟨_, rfl, ?_⟩) | (go_at_call 115;(with_reducible refine (cmp_isNaN_int.calls a0 false _ A3.out).mono ?_);rintro e w' ⟨rfl, ⟨nd, rfl⟩⟩) | ((with_reducible refine gate_callee (f := 115) rfl ?_);refine goesL_ (some 10) rfl rfl Try.func115 (by kernel_rfl) rfl #[.int .i64 a1] rfl (by (try simp only [List.map_toArray, List.map_cons, List.map_nil]);first | done | rfl | (simp only [List.length_drop, List.length_take];rfl)) ?_;(with_reducible refine (cmp_isNaN_int.calls a1 false _ A4.out).mono ?_);rintro e w' ⟨rfl, ⟨nd, rfl⟩⟩;refine ⟨_, rfl, ?_⟩) | (go_at_call 115;(with_reducible refine (cmp_isNaN_int.calls a1 false _ A4.out).mono ?_);rintro e w' ⟨rfl, ⟨nd, rfl⟩⟩))
  go_ret
  exact ⟨by first | rfl | (simp;done) | (simp [*];done), by repeat (first | exact Drawn0.refl _ | apply Drawn0.step)⟩

def slices_Compare_int_int.l0 : Nat → List Int → List Int → List Int → Int → Int → Option (Int)
 | 0, _, _, _, _, _ => none
 | k + 1, x0, x1, x9, x10, x11 => if x11 < x10 then (if 0 ≤ x11 then (if x11 < (x9.length : Int) then (if x11 ≥ (x1.length : Int) then (some 1) else (if x11 < (x1.length : Int) then ((cmp_Compare_int.f (rd x9 x11) (rd x1 x11)).bind fun t103 => (if t103 = 0 then (slices_Compare_int_int.l0 k x0 x1 x9 x10 (wrap64 (x11 + 1))) else (some t103))) else (none))) else (none)) else (none)) else (if (x0.length : Int) < (x1.length : Int) then (some (-1)) else (some 0))
def slices_Compare_int_int.f (k : Nat) (l0 : List Int) (l1 : List Int) : Option (Int) := slices_Compare_int_int.l0 k l0 l1 l0 (l0.length : Int) 0
set_option maxHeartbeats 8000000 in
set_option maxRecDepth 100000 in
theorem slices_Compare_int_int.calls (k : Nat) (A0 : Option Addr) (c0 : Nat) (l0 : List Int) (A1 : Option Addr) (c1 : Nat) (l1 : List Int) (r : Int) (w : World) (hr0 : Kd.C (Kd.int .i64) w A0 l0.length l0) (hc0 : l0.length ≤ c0) (hr1 : Kd.C (Kd.int .i64) w A1 l1.length l1) (hc1 : l1.length ≤ c1) (h : slices_Compare_int_int.f k l0 l1 = some r) :
  Calls Try.prog 95 #[.slice A0 l0.length c0, .slice A1 l1.length c1] w fun e w' => e = .returned (.int .i64 r) ∧ Drawn0 w w' := by
 have HR0 := m0_ hr0
 have HC0 := m0_ hc0
 clear hr0 hc0
 have HR1 := m0_ hr1
 have HC1 := m0_ hc1
 clear hr1 hc1
 have H : (slices_Compare_int_int.l0 k l0 l1 l0 (l0.length : Int) 0) = some r := h
 clear h
 have H' := m0_ H
 clear H
 go_enter Try.func95, Try.ntmps95
 go_wp2
 go_loopg [11] k (fun kq v11 w' => ∃ (x11_1 : Int), v11 = .int .i64 x11_1 ∧ Aside0 (slices_Compare_int_int.l0 kq l0 l1 l0 (l0.length : Int) x11_1 = some r) ∧ Aside0 (kq ≤ k) ∧ Drawn0 w w')
 case atStart => exact ⟨(0), (by first | rfl | (simp;done) | (simp [*];done)), H', ⟨Nat.le_refl _⟩, by repeat (first | exact Drawn0.refl _ | apply Drawn0.step)⟩
 case round =>
  clear H'
  try clear c1
  try clear p2
  obtain ⟨x11_1, rfl, HA, HK1, ⟨m1, rfl⟩⟩ := hrel
  cases gk with
  | zero => exact absurd HA.out (by simp [slices_Compare_int_int.l0])
  | succ k1 =>
   have H := HA.out
   clear HA
   simp only [slices_Compare_int_int.l0] at H
   by_cases c3 : x11_1 < (l0.length : Int)
   rotate_left
   ·rw [if_neg c3] at H
    have c3b0 : decide (x11_1 < (l0.length : Int)) = false := decide_eq_false c3
    clear c3
    by_cases c10 : (l0.length : Int) < (l1.length : Int)
    ·rw [if_pos c10] at H
     have c10b0 : decide ((l0.length : Int) < (l1.length : Int)) = true := decide_eq_true c10
     (try (have c10b1 : (l0.length < l1.length) := by omega))
     have c10b2 : decide (l0.length < l1.length) = true := decide_eq_true (Int.ofNat_lt.mp c10)
     clear c10
     obtain rfl := Option.some.inj H
     go_wp2
     go_ret
     exact ⟨by first | rfl | (simp;done) | (simp [*];done), by repeat (first | exact Drawn0.refl _ | apply Drawn0.step)⟩
    ·rw [if_neg c10] at H
     have c10b0 : decide ((l0.length : Int) < (l1.length : Int)) = false := decide_eq_false c10
     (try (have c10b1 : ¬ (l0.length < l1.length) := by omega))
     have c10b2 : decide (l0.length < l1.length) = false := decide_eq_false (fun h => c10 (Int.ofNat_lt.mpr h))
     clear c10
     obtain rfl := Option.some.inj H
     go_wp2
     go_ret
     exact ⟨by first | rfl | (simp;done) | (simp [*];done), by repeat (first | exact Drawn0.refl _ | apply Drawn0.step)⟩
   rw [if_pos c3] at H
   have c3b0 : decide (x11_1 < (l0.length : Int)) = true := decide_eq_true c3
   clear c3
   by_cases c4 : 0 ≤ x11_1
   rotate_left
   ·rw [if_neg c4] at H
    exact absurd H (by simp)
   rw [if_pos c4] at H
   have c4b0 : decide (0 ≤ x11_1) = true := decide_eq_true c4
   clear c4
   by_cases c5 : x11_1 < (l0.length : Int)
   rotate_left
   ·rw [if_neg c5] at H
    exact absurd H (by simp)
   rw [if_pos c5] at H
   have c5b0 : decide (x11_1 < (l0.length : Int)) = true := decide_eq_true c5
   clear c5
   by_cases c6 : x11_1 ≥ (l1.length : Int)
   ·rw [if_pos c6] at H
    have c6b0 : decide ((l1.length : Int) ≤ x11_1) = true := decide_eq_true c6
    clear c6
    obtain rfl := Option.some.inj H
    have p101 : 0 ≤ (x11_1 : Int) := of_decide_eq_true (by first | (with_reducible assumption) | assumption)
    have q101 : x11_1 < (l0.length : Int) := of_decide_eq_true (by first | (with_reducible assumption) | assumption)
    obtain ⟨ad101, e101, hx101_0⟩ := Kd.at_int HR0.out x11_1 p101 q101
    cases e101
    replace p101 := eq_true p101
    replace q101 := eq_true q101
    go_wp2
    go_ret
    exact ⟨by first | rfl | (simp;done) | (simp [*];done), by repeat (first | exact Drawn0.refl _ | apply Drawn0.step)⟩
   rw [if_neg c6] at H
   have c6b0 : decide ((l1.length : Int) ≤ x11_1) = false := decide_eq_false c6
   clear c6
   by_cases c7 : x11_1 < (l1.length : Int)
   rotate_left
   ·rw [if_neg c7] at H
    exact absurd H (by simp)
   rw [if_pos c7] at H
   have c7b0 : decide (x11_1 < (l1.length : Int)) = true := decide_eq_true c7
   clear c7
   replace H := Option.bind_eq_some_iff.mp H
   obtain ⟨t103, A80, H⟩ := H
   replace H : (if t103 = 0 then (slices_Compare_int_int.l0 k1 l0 l1 l0 (l0.length : Int) (wrap64 (x11_1 + 1))) else (some t103)) = some r := H
   have A8 := m0_ A80
   clear A80
   by_cases c9 : t103 = 0
   rotate_left
   ·rw [if_neg c9] at H
    have c9b0 : (t103 == 0) = false := beq_eq_false_iff_ne.mpr c9
    have c9b1 : (t103 != 0) = true := bne_iff_ne.mpr c9
    obtain rfl := Option.some.inj H
    have p101 : 0 ≤ (x11_1 : Int) := of_decide_eq_true (by first | (with_reducible assumption) | assumption)
    have q101 : x11_1 < (l0.length : Int) := of_decide_eq_true (by first | (with_reducible assumption) | assumption)
    obtain ⟨ad101, e101, hx101_0⟩ := Kd.at_int HR0.out x11_1 p101 q101
    cases e101
    replace p101 := eq_true p101
    replace q101 := eq_true q101
    have p102 : 0 ≤ (x11_1 : Int) := of_decide_eq_true (by first | (with_reducible assumption) | assumption)
    have q102 : x11_1 < (l1.length : Int) := of_decide_eq_true (by first | (with_reducible assumption) | assumption)
    obtain ⟨ad102, e102, hx102_0⟩ := Kd.at_int HR1.out x11_1 p102 q102
    cases e102
    replace p102 := eq_true p102
    replace q102 := eq_true q102
    go_wp2_with (first | ((with_reducible refine gate_callee (f := 109) rfl ?_);refine goesL_ (some 26) rfl rfl Try.func109 (by kernel_rfl) rfl #[.int .i64 (rd l0 x11_1), .int .i64 (rd l1 x11_1)] rfl (by (try simp only [List.map_toArray, List.map_cons, List.map_nil]);first | done | rfl | (simp only [List.length_drop, List.length_take];rfl)) ?_;(with_reducible refine (cmp_Compare_int.calls (rd l0 x11_1) (rd l1 x11_1) t103 _ A8.out).mono ?_);rintro e w' ⟨rfl, ⟨nd, rfl⟩⟩;refine ⟨_, rfl, ?_⟩) | (go_at_call 109;(with_reducible refine (cmp_Compare_int.calls (rd l0 x11_1) (rd l1 x11_1) t103 _ A8.out).mono ?_);rintro e w' ⟨rfl, ⟨nd, rfl⟩⟩))
    go_ret
    exact ⟨by first | rfl | (simp;done) | (simp [*];done), by repeat (first | exact Drawn0.refl _ | apply Drawn0.step)⟩
   rw [if_pos c9] at H
   have c9b0 : (t103 == 0) = true := beq_iff_eq.mpr c9
   have c9b1 : (t103 != 0) = false := bne_eq_false_iff_eq.mpr c9
   clear c9
   have H' := m0_ H
   clear H
   have p101 : 0 ≤ (x11_1 : Int) := of_decide_eq_true (by first | (with_reducible assumption) | assumption)
   have q101 : x11_1 < (l0.length : Int) := of_decide_eq_true (by first | (with_reducible assumption) | assumption)
   obtain ⟨ad101, e101, hx101_0⟩ := Kd.at_int HR0.out x11_1 p101 q101
   cases e101
   replace p101 := eq_true p101
   replace q101 := eq_true q101
   have p102 : 0 ≤ (x11_1 : Int) := of_decide_eq_true (by first | (with_reducible assumption) | assumption)
   have q102 : x11_1 < (l1.length : Int) := of_decide_eq_true (by first | (with_reducible assumption) | assumption)
   obtain ⟨ad102, e102, hx102_0⟩ := Kd.at_int HR1.out x11_1 p102 q102
   cases e102
   replace p102 := eq_true p102
   replace q102 := eq_true q102
   go_wp2_with (first | ((with_reducible refine gate_callee (f := 109) rfl ?_);refine goesL_ (some 26) rfl rfl Try.func109 (by kernel_rfl) rfl #[.int .i64 (rd l0 x11_1), .int .i64 (rd l1 x11_1)] rfl (by (try simp only [List.map_toArray, List.map_cons, List.map_nil]);first | done | rfl | (simp only [List.length_drop, List.length_take];rfl)) ?_;(with_reducible refine (cmp_Compare_int.calls (rd l0 x11_1) (rd l1 x11_1) t103 _ A8.out).mono ?_);rintro e w' ⟨rfl, ⟨nd, rfl⟩⟩;refine ⟨_, rfl, ?_⟩) | (go_at_call 109;(with_reducible refine (cmp_Compare_int.calls (rd l0 x11_1) (rd l1 x11_1) t103 _ A8.out).mono ?_);rintro e w' ⟨rfl, ⟨nd, rfl⟩⟩))
   go_roundg k1
   case measure => have := HK1.out;omega
   case rel => exact ⟨(wrap64 (x11_1 + 1)), (by first | rfl | (simp;done) | (simp [*];done)), H', ⟨by have := HK1.out;omega⟩, by repeat (first | exact Drawn0.refl _ | apply Drawn0.step)⟩

def impl_compare.f (k : Nat) (a0_0 : Int) (a0_1 : Int) (l0_2 : List Int) (a1_0 : Int) (a1_1 : Int) (l1_2 : List Int) : Option (Int) := if a0_1 = a1_1 then (if a0_0 = a1_0 then ((slices_Compare_int_int.f k l0_2 l1_2).bind fun t103 => (some t103)) else ((impl_sign.f (decide (a0_0 < a1_0))).bind fun t104 => (some t104))) else ((impl_sign.f (decide (a0_1 < a1_1))).bind fun t105 => (some t105))
set_option maxHeartbeats 8000000 in
set_option maxRecDepth 100000 in
theorem impl_compare.calls (k : Nat) (a0_0 : Int) (a0_1 : Int) (A0_2 : Option Addr) (c0_2 : Nat) (l0_2 : List Int) (a1_0 : Int) (a1_1 : Int) (A1_2 : Option Addr) (c1_2 : Nat) (l1_2 : List Int) (r : Int) (w : World) (hr0_2 : Kd.C (Kd.int .i64) w A0_2 l0_2.length l0_2) (hc0_2 : l0_2.length ≤ c0_2) (hr1_2 : Kd.C (Kd.int .i64) w A1_2 l1_2.length l1_2) (hc1_2 : l1_2.length ≤ c1_2) (h : impl_compare.f k a0_0 a0_1 l0_2 a1_0 a1_1 l1_2 = some r) :
  Calls Try.prog 71 #[.agg #[.int .i64 a0_0, .int .i64 a0_1, .slice A0_2 l0_2.length c0_2], .agg #[.int .i64 a1_0, .int .i64 a1_1, .slice A1_2 l1_2.length c1_2]] w fun e w' => e = .returned (.int .i64 r) ∧ Below w.heap.size w w' := by
 have hu27 := Try.underlying27
 have HR0_2 := m0_ hr0_2
 have HC0_2 := m0_ hc0_2
 clear hr0_2 hc0_2
 have HR1_2 := m0_ hr1_2
 have HC1_2 := m0_ hc1_2
 clear hr1_2 hc1_2
 have HB := m0_ (Below.refl w.heap.size w)
 have H : (if a0_1 = a1_1 then (if a0_0 = a1_0 then ((slices_Compare_int_int.f k l0_2 l1_2).bind fun t103 => (some t103)) else ((impl_sign.f (decide (a0_0 < a1_0))).bind fun t104 => (some t104))) else ((impl_sign.f (decide (a0_1 < a1_1))).bind fun t105 => (some t105))) = some r := h
 clear h
 by_cases c3 : a0_1 = a1_1
 rotate_left
 ·rw [if_neg c3] at H
  have c3b0 : (a0_1 == a1_1) = false := beq_eq_false_iff_ne.mpr c3
  have c3b1 : (a0_1 != a1_1) = true := bne_iff_ne.mpr c3
  replace H := Option.bind_eq_some_iff.mp H
  obtain ⟨t105, A170, H⟩ := H
  replace H : (some t105) = some r := H
  have A17 := m0_ A170
  clear A170
  obtain rfl := Option.some.inj H
  go_enter Try.func71, Try.ntmps71
  go_wp2_with (first | ((with_reducible refine gate_dst (N := 2) rfl ?_);refine box_event ?hg (N := 2) ?hd (cs := #[.int .i64 a0_0, .int .i64 a0_1, .slice A0_2 l0_2.length c0_2]) (t := 27) ?hr ?_;(case hd => rfl);(case hg => rfl);(case hr => first | (go_simp;done) | (go_simp;rfl));intro gb101 hg w18 hbox hb;have BK101 := m0_ (hbox);have GW101 := m0_ ((by rw [hg];exact (below_size (by exact HB.out)) : w.heap.size ≤ gb101));have GE101 := m0_ ((by rw [hg];exact (below_size (by exact HB.out)) : w.heap.size ≤ gb101));replace HB := m0_ (below_step (by exact HB.out) hb);clear hb hbox hg) | ((with_reducible refine gate_dst (N := 3) rfl ?_);refine box_event ?hg (N := 3) ?hd (cs := #[.int .i64 a1_0, .int .i64 a1_1, .slice A1_2 l1_2.length c1_2]) (t := 27) ?hr ?_;(case hd => rfl);(case hg => rfl);(case hr => first | (go_simp;done) | (go_simp;rfl));intro gb102 hg w19 hbox hb;have BK102 := m0_ (hbox);have GW102 := m0_ ((by rw [hg];exact (below_size (by exact HB.out)) : w.heap.size ≤ gb102));have GE102 := m0_ ((by rw [hg];exact (below_size (by exact HB.out)) : w.heap.size ≤ gb102));replace HB := m0_ (below_step (by exact HB.out) hb);have NB101_102 := m0_ ((by rw [hg];exact Nat.ne_of_lt (blk_lt BK101.out) : gb101 ≠ gb102));have NB102_101 := m0_ ((by rw [hg];exact Nat.ne_of_gt (blk_lt BK101.out) : gb102 ≠ gb101));replace BK101 := m0_ (blk_below BK101.out hb);clear hb hbox hg;have hnb20 := NB101_102.out;have hnc20 := NB102_101.out;obtain ⟨hcz21_0, hcz21_1, hcz21_2, hfz21_0, hfz21_1, hfz21_2⟩ := bx3 BK101.out;obtain ⟨hcz22_0, hcz22_1, hcz22_2, hfz22_0, hfz22_1, hfz22_2⟩ := bx3 BK102.out) | ((with_reducible refine gate_callee (f := 94) rfl ?_);refine goesL_ (some 16) rfl rfl Try.func94 (by kernel_rfl) rfl #[.bool (decide (a0_1 < a1_1))] rfl (by (try simp only [List.map_toArray, List.map_cons, List.map_nil]);first | done | rfl | (simp only [List.length_drop, List.length_take];rfl)) ?_;(with_reducible refine (impl_sign.calls (decide (a0_1 < a1_1)) t105 _ A17.out).mono ?_);rintro e w' ⟨rfl, ⟨nd, rfl⟩⟩;refine ⟨_, rfl, ?_⟩) | (go_at_call 94;(with_reducible refine (impl_sign.calls (decide (a0_1 < a1_1)) t105 _ A17.out).mono ?_);rintro e w' ⟨rfl, ⟨nd, rfl⟩⟩))
  go_ret
  exact ⟨by first | rfl | (simp [errW_none, errW_some] <;> rfl) | (simp [*, errW_none, errW_some] <;> rfl), by repeat (first | (with_reducible first | exact HB.out | apply below_alloc | apply pw_below_drewN | apply below_drew1 | refine below_set ?_ GE101.out | refine below_set ?_ GE102.out) | exact HB.out)⟩
 rw [if_pos c3] at H
 have c3b0 : (a0_1 == a1_1) = true := beq_iff_eq.mpr c3
 have c3b1 : (a0_1 != a1_1) = false := bne_eq_false_iff_eq.mpr c3
 clear c3
 by_cases c4 : a0_0 = a1_0
 ·rw [if_pos c4] at H
  have c4b0 : (a0_0 == a1_0) = true := beq_iff_eq.mpr c4
  have c4b1 : (a0_0 != a1_0) = false := bne_eq_false_iff_eq.mpr c4
  clear c4
  replace H := Option.bind_eq_some_iff.mp H
  obtain ⟨t103, A50, H⟩ := H
  replace H : (some t103) = some r := H
  have A5 := m0_ A50
  clear A50
  obtain rfl := Option.some.inj H
  go_enter Try.func71, Try.ntmps71
  go_wp2_with (first | ((with_reducible refine gate_dst (N := 2) rfl ?_);refine box_event ?hg (N := 2) ?hd (cs := #[.int .i64 a0_0, .int .i64 a0_1, .slice A0_2 l0_2.length c0_2]) (t := 27) ?hr ?_;(case hd => rfl);(case hg => rfl);(case hr => first | (go_simp;done) | (go_simp;rfl));intro gb101 hg w6 hbox hb;have BK101 := m0_ (hbox);have GW101 := m0_ ((by rw [hg];exact (below_size (by exact HB.out)) : w.heap.size ≤ gb101));have GE101 := m0_ ((by rw [hg];exact (below_size (by exact HB.out)) : w.heap.size ≤ gb101));replace HB := m0_ (below_step (by exact HB.out) hb);clear hb hbox hg) | ((with_reducible refine gate_dst (N := 3) rfl ?_);refine box_event ?hg (N := 3) ?hd (cs := #[.int .i64 a1_0, .int .i64 a1_1, .slice A1_2 l1_2.length c1_2]) (t := 27) ?hr ?_;(case hd => rfl);(case hg => rfl);(case hr => first | (go_simp;done) | (go_simp;rfl));intro gb102 hg w7 hbox hb;have BK102 := m0_ (hbox);have GW102 := m0_ ((by rw [hg];exact (below_size (by exact HB.out)) : w.heap.size ≤ gb102));have GE102 := m0_ ((by rw [hg];exact (below_size (by exact HB.out)) : w.heap.size ≤ gb102));replace HB := m0_ (below_step (by exact HB.out) hb);have NB101_102 := m0_ ((by rw [hg];exact Nat.ne_of_lt (blk_lt BK101.out) : gb101 ≠ gb102));have NB102_101 := m0_ ((by rw [hg];exact Nat.ne_of_gt (blk_lt BK101.out) : gb102 ≠ gb101));replace BK101 := m0_ (blk_below BK101.out hb);clear hb hbox hg;have hnb8 := NB101_102.out;have hnc8 := NB102_101.out;obtain ⟨hcz9_0, hcz9_1, hcz9_2, hfz9_0, hfz9_1, hfz9_2⟩ := bx3 BK101.out;obtain ⟨hcz10_0, hcz10_1, hcz10_2, hfz10_0, hfz10_1, hfz10_2⟩ := bx3 BK102.out) | ((with_reducible refine gate_callee (f := 95) rfl ?_);refine goesL_ (some 33) rfl rfl Try.func95 (by kernel_rfl) rfl #[.slice A0_2 l0_2.length c0_2, .slice A1_2 l1_2.length c1_2] rfl (by (try simp only [List.map_toArray, List.map_cons, List.map_nil]);first | done | rfl | (simp only [List.length_drop, List.length_take];rfl)) ?_;(with_reducible refine (slices_Compare_int_int.calls k _ _ l0_2 _ _ l1_2 t103 _ ?side1 ?side2 ?side3 ?side4 A5.out).mono ?_);(case side1 => repeat (first | exact (Kd.C_below HR0_2.out HB.out) | (with_reducible refine Kd.C_alloc ?_ _) | (with_reducible refine Kd.C_drewN ?_ _) | (with_reducible refine Kd.C_drew ?_)));(case side2 => exact HC0_2.out);(case side3 => repeat (first | exact (Kd.C_below HR1_2.out HB.out) | (with_reducible refine Kd.C_alloc ?_ _) | (with_reducible refine Kd.C_drewN ?_ _) | (with_reducible refine Kd.C_drew ?_)));(case side4 => exact HC1_2.out);rintro e w' ⟨rfl, ⟨nd, rfl⟩⟩;refine ⟨_, rfl, ?_⟩))
  go_ret
  exact ⟨by first | rfl | (simp [errW_none, errW_some] <;> rfl) | (simp [*, errW_none, errW_some] <;> rfl), by repeat (first | (with_reducible first | exact HB.out | apply below_alloc | apply pw_below_drewN | apply below_drew1 | refine below_set ?_ GE101.out | refine below_set ?_ GE102.out) | exact HB.out)⟩
 ·rw [if_neg c4] at H
  have c4b0 : (a0_0 == a1_0) = false := beq_eq_false_iff_ne.mpr c4
  have c4b1 : (a0_0 != a1_0) = true := bne_iff_ne.mpr c4
  replace H := Option.bind_eq_some_iff.mp H
  obtain ⟨t104, A110, H⟩ := H
  replace H : (some t104) = some r := H
  have A11 := m0_ A110
  clear A110
  obtain rfl := Option.some.inj H
  go_enter Try.func71, Try.ntmps71
  go_wp2_with (first | ((with_reducible refine gate_dst (N := 2) rfl ?_);refine box_event ?hg (N := 2) ?hd (cs := #[.int .i64 a0_0, .int .i64 a0_1, .slice A0_2 l0_2.length c0_2]) (t := 27) ?hr ?_;(case hd => rfl);(case hg => rfl);(case hr => first | (go_simp;done) | (go_simp;rfl));intro gb101 hg w12 hbox hb;have BK101 := m0_ (hbox);have GW101 := m0_ ((by rw [hg];exact (below_size (by exact HB.out)) : w.heap.size ≤ gb101));have GE101 := m0_ ((by rw [hg];exact (below_size (by exact HB.out)) : w.heap.size ≤ gb101));replace HB := m0_ (below_step (by exact HB.out) hb);clear hb hbox hg) | ((with_reducible refine gate_dst (N := 3) rfl ?_);refine box_event ?hg (N := 3) ?hd (cs := #[.int .i64 a1_0, .int .i64 a1_1, .slice A1_2 l1_2.length c1_2]) (t := 27) ?hr ?_;(case hd => rfl);(case hg => rfl);(case hr => first | (go_simp;done) | (go_simp;rfl));intro gb102 hg w13 hbox hb;have BK102 := m0_ (hbox);have GW102 := m0_ ((by rw [hg];exact (below_size (by exact HB.out)) : w.heap.size ≤ gb102));have GE102 := m0_ ((by rw [hg];exact (below_size (by exact HB.out)) : w.heap.size ≤ gb102));replace HB := m0_ (below_step (by exact HB.out) hb);have NB101_102 := m0_ ((by rw [hg];exact Nat.ne_of_lt (blk_lt BK101.out) : gb101 ≠ gb102));have NB102_101 := m0_ ((by rw [hg];exact Nat.ne_of_gt (blk_lt BK101.out) : gb102 ≠ gb101));replace BK101 := m0_ (blk_below BK101.out hb);clear hb hbox hg;have hnb14 := NB101_102.out;have hnc14 := NB102_101.out;obtain ⟨hcz15_0, hcz15_1, hcz15_2, hfz15_0, hfz15_1, hfz15_2⟩ := bx3 BK101.out;obtain ⟨hcz16_0, hcz16_1, hcz16_2, hfz16_0, hfz16_1, hfz16_2⟩ := bx3 BK102.out) | ((with_reducible refine gate_callee (f := 94) rfl ?_);refine goesL_ (some 28) rfl rfl Try.func94 (by kernel_rfl) rfl #[.bool (decide (a0_0 < a1_0))] rfl (by (try simp only [List.map_toArray, List.map_cons, List.map_nil]);first | done | rfl | (simp only [List.length_drop, List.length_take];rfl)) ?_;(with_reducible refine (impl_sign.calls (decide (a0_0 < a1_0)) t104 _ A11.out).mono ?_);rintro e w' ⟨rfl, ⟨nd, rfl⟩⟩;refine ⟨_, rfl, ?_⟩) | (go_at_call 94;(with_reducible refine (impl_sign.calls (decide (a0_0 < a1_0)) t104 _ A11.out).mono ?_);rintro e w' ⟨rfl, ⟨nd, rfl⟩⟩))
  go_ret
  exact ⟨by first | rfl | (simp [errW_none, errW_some] <;> rfl) | (simp [*, errW_none, errW_some] <;> rfl), by repeat (first | (with_reducible first | exact HB.out | apply below_alloc | apply pw_below_drewN | apply below_drew1 | refine below_set ?_ GE101.out | refine below_set ?_ GE102.out) | exact HB.out)⟩

def impl_OccLess.f (k : Nat) (a0_0 : Int) (a0_1 : Int) (l0_2 : List Int) (a1_0 : Int) (a1_1 : Int) (l1_2 : List Int) : Option (Bool) := (impl_compare.f k a0_0 a0_1 l0_2 a1_0 a1_1 l1_2).bind fun t103 => (some (decide (t103 < 0)))
set_option maxHeartbeats 8000000 in
set_option maxRecDepth 100000 in
theorem impl_OccLess.calls (k : Nat) (a0_0 : Int) (a0_1 : Int) (A0_2 : Option Addr) (c0_2 : Nat) (l0_2 : List Int) (a1_0 : Int) (a1_1 : Int) (A1_2 : Option Addr) (c1_2 : Nat) (l1_2 : List Int) (r : Bool) (w : World) (hr0_2 : Kd.C (Kd.int .i64) w A0_2 l0_2.length l0_2) (hc0_2 : l0_2.length ≤ c0_2) (hr1_2 : Kd.C (Kd.int .i64) w A1_2 l1_2.length l1_2) (hc1_2 : l1_2.length ≤ c1_2) (h : impl_OccLess.f k a0_0 a0_1 l0_2 a1_0 a1_1 l1_2 = some r) :
  Calls Try.prog 45 #[.agg #[.int .i64 a0_0, .int .i64 a0_1, .slice A0_2 l0_2.length c0_2], .agg #[.int .i64 a1_0, .int .i64 a1_1, .slice A1_2 l1_2.length c1_2]] w fun e w' => e = .returned (.bool r) ∧ Below w.heap.size w w' := by
 have hu27 := Try.underlying27
 have HR0_2 := m0_ hr0_2
 have HC0_2 := m0_ hc0_2
 clear hr0_2 hc0_2
 have HR1_2 := m0_ hr1_2
 have HC1_2 := m0_ hc1_2
 clear hr1_2 hc1_2
 have HB := m0_ (Below.refl w.heap.size w)
 have H : ((impl_compare.f k a0_0 a0_1 l0_2 a1_0 a1_1 l1_2).bind fun t103 => (some (decide (t103 < 0)))) = some r := h
 clear h
 replace H := Option.bind_eq_some_iff.mp H
 obtain ⟨t103, A30, H⟩ := H
 replace H : (some (decide (t103 < 0))) = some r := H
 have A3 := m0_ A30
 clear A30
 obtain rfl := Option.some.inj H
 go_enter Try.func45, Try.ntmps45
 go_wp2_with (first | ((with_reducible refine gate_dst (N := 2) rfl ?_);refine box_event ?hg (N := 2) ?hd (cs := #[.int .i64 a0_0, .int .i64 a0_1, .slice A0_2 l0_2.length c0_2]) (t := 27) ?hr ?_;(case hd => rfl);(case hg => rfl);(case hr => first | (go_simp;done) | (go_simp;rfl));intro gb101 hg w4 hbox hb;have BK101 := m0_ (hbox);have GW101 := m0_ ((by rw [hg];exact (below_size (by exact HB.out)) : w.heap.size ≤ gb101));have GE101 := m0_ ((by rw [hg];exact (below_size (by exact HB.out)) : w.heap.size ≤ gb101));replace HB := m0_ (below_step (by exact HB.out) hb);clear hb hbox hg) | ((with_reducible refine gate_dst (N := 3) rfl ?_);refine box_event ?hg (N := 3) ?hd (cs := #[.int .i64 a1_0, .int .i64 a1_1, .slice A1_2 l1_2.length c1_2]) (t := 27) ?hr ?_;(case hd => rfl);(case hg => rfl);(case hr => first | (go_simp;done) | (go_simp;rfl));intro gb102 hg w5 hbox hb;have BK102 := m0_ (hbox);have GW102 := m0_ ((by rw [hg];exact (below_size (by exact HB.out)) : w.heap.size ≤ gb102));have GE102 := m0_ ((by rw [hg];exact (below_size (by exact HB.out)) : w.heap.size ≤ gb102));replace HB := m0_ (below_step (by exact HB.out) hb);have NB101_102 := m0_ ((by rw [hg];exact Nat.ne_of_lt (blk_lt BK101.out) : gb101 ≠ gb102));have NB102_101 := m0_ ((by rw [hg];exact Nat.ne_of_gt (blk_lt BK101.out) : gb102 ≠ gb101));replace BK101 := m0_ (blk_below BK101.out hb);clear hb hbox hg;have hnb6 := NB101_102.out;have hnc6 := NB102_101.out;obtain ⟨hcz7_0, hcz7_1, hcz7_2, hfz7_0, hfz7_1, hfz7_2⟩ := bx3 BK101.out;obtain ⟨hcz8_0, hcz8_1, hcz8_2, hfz8_0, hfz8_1, hfz8_2⟩ := bx3 BK102.out) | ((with_reducible refine gate_callee (f := 71) rfl ?_);refine goesL_ (some 7) rfl rfl Try.func71 (by kernel_rfl) rfl #[.agg #[.int .i64 a0_0, .int .i64 a0_1, .slice A0_2 l0_2.length c0_2], .agg #[.int .i64 a1_0, .int .i64 a1_1, .slice A1_2 l1_2.length c1_2]] rfl (by (try simp only [List.map_toArray, List.map_cons, List.map_nil]);first | done | rfl | (simp only [List.length_drop, List.length_take];rfl)) ?_;(with_reducible refine (impl_compare.calls k a0_0 a0_1 _ _ l0_2 a1_0 a1_1 _ _ l1_2 t103 _ ?side1 ?side2 ?side3 ?side4 A3.out).mono ?_);(case side1 => repeat (first | exact (Kd.C_below HR0_2.out HB.out) | (with_reducible refine Kd.C_alloc ?_ _) | (with_reducible refine Kd.C_drewN ?_ _) | (with_reducible refine Kd.C_drew ?_)));(case side2 => exact HC0_2.out);(case side3 => repeat (first | exact (Kd.C_below HR1_2.out HB.out) | (with_reducible refine Kd.C_alloc ?_ _) | (with_reducible refine Kd.C_drewN ?_ _) | (with_reducible refine Kd.C_drew ?_)));(case side4 => exact HC1_2.out);rintro e w9 ⟨rfl, hb⟩;refine ⟨_, rfl, ?_⟩;replace BK101 := m0_ (blk_below BK101.out hb);replace BK102 := m0_ (blk_below BK102.out hb);replace HB := m0_ (below_step (by exact HB.out) hb);(try clear hb);(try clear hb2);(try clear hk);(try clear hi)))
 go_ret
 exact ⟨by first | rfl | (simp [errW_none, errW_some] <;> rfl) | (simp [*, errW_none, errW_some] <;> rfl), by repeat (first | (with_reducible first | exact HB.out | apply below_alloc | apply pw_below_drewN | apply below_drew1 | refine below_set ?_ GE101.out | refine below_set ?_ GE102.out) | exact HB.out)⟩

@[reducible] def q29_0 : Array Bool := #[true, true, true, true, true, true, true, true, true, true, true, true, true, true, true, true, true]
@[reducible] def q29_1 : Array Bool := #[true, true, true, true, true, true, true, true, true, true, true, true, true, true, true, true, false]
@[reducible] def q29_2 : Array Bool := #[true, true, true, true, true, true, true, true, true, true, true, true, true, true, true, false, false]
@[reducible] def q29_3 : Array Bool := #[true, true, true, true, true, true, true, true, true, true, true, true, true, true, false, false, false]
@[reducible] def q29_4 : Array Bool := #[true, true, true, true, true, true, true, true, true, true, true, true, true, false, false, false, false]
@[reducible] def q29_5 : Array Bool := #[true, true, true, true, true, true, true, true, true, true, true, true, false, false, false, false, false]
@[reducible] def q29_6 : Array Bool := #[true, true, true, true, true, true, true, true, true, true, true, false, false, false, false, false, false]
@[reducible] def q29_7 : Array Bool := #[true, true, true, true, true, true, true, true, true, true, false, false, false, false, false, false, false]
@[reducible] def q29_8 : Array Bool := #[true, true, true, true, true, true, true, true, true, false, false, false, false, false, false, false, false]
@[reducible] def q29_9 : Array Bool := #[true, true, true, true, true, true, true, true, false, false, false, false, false, false, false, false, false]
@[reducible] def q29_10 : Array Bool := #[true, true, true, true, true, true, true, false, false, false, false, false, false, false, false, false, false]
@[reducible] def q29_11 : Array Bool := #[true, true, true, true, true, true, false, false, false, false, false, false, false, false, false, false, false]
@[reducible] def q29_12 : Array Bool := #[true, true, true, true, true, false, false, false, false, false, false, false, false, false, false, false, false]
@[reducible] def q29_13 : Array Bool := #[true, true, true, true, false, false, false, false, false, false, false, false, false, false, false, false, false]
@[reducible] def q29_14 : Array Bool := #[true, true, true, false, false, false, false, false, false, false, false, false, false, false, false, false, false]
@[reducible] def q29_15 : Array Bool := #[true, true, false, false, false, false, false, false, false, false, false, false, false, false, false, false, false]
@[reducible] def q29_16 : Array Bool := #[true, false, false, false, false, false, false, false, false, false, false, false, false, false, false, false, false]
@[reducible] def q29_17 : Array Bool := #[false, false, false, false, false, false, false, false, false, false, false, false, false, false, false, false, false]

def impl_OccsOk.l0 : Nat → List (S27) → List (S27) → Int → Int → Option (Bool)
 | 0, _, _, _, _ => none
 | k + 1, x0, x5, x6, x7 => if x7 < x6 then (if 0 ≤ x7 then (if x7 < (x5.length : Int) then ((impl_OccOk.f k ((rd_T27 x5 x7).f0) ((rd_T27 x5 x7).f1) ((rd_T27 x5 x7).f2)).bind fun t103 => (if t103 = true then (if x7 > 0 then (if 0 ≤ (wrap64 (x7 - 1)) then (if (wrap64 (x7 - 1)) < (x0.length : Int) then ((impl_OccLess.f k ((rd_T27 x0 (wrap64 (x7 - 1))).f0) ((rd_T27 x0 (wrap64 (x7 - 1))).f1) ((rd_T27 x0 (wrap64 (x7 - 1))).f2) ((rd_T27 x5 x7).f0) ((rd_T27 x5 x7).f1) ((rd_T27 x5 x7).f2)).bind fun t105 => (if t105 = true then (impl_OccsOk.l0 k x0 x5 x6 (wrap64 (x7 + 1))) else (some false))) else (none)) else (none)) else (impl_OccsOk.l0 k x0 x5 x6 (wrap64 (x7 + 1)))) else (some false))) else (none)) else (none)) else (some (decide ((x0.length : Int) ≤ 40)))
def impl_OccsOk.f (k : Nat) (l0 : List (S27)) : Option (Bool) := impl_OccsOk.l0 k l0 l0 (l0.length : Int) 0
def impl_OccsOk.T4 : Bool × List (List Nat × List Nat) := (true, [([], []), ([0], [0]), ([1], [1]), ([2, 1], [2]), ([3], [3]), ([4, 3], [3, 4]), ([5, 3, 3], [3, 5]), ([6], [6]), ([6], [6]), ([8, 6], [6, 8]), ([7, 9, 6], [6, 7, 9]), ([10, 6], [6, 10]), ([6], [6]), ([11, 12, 6, 6], [6, 11, 12]), ([13, 6], [6, 13]), ([6, 14, 3], [3, 6, 14]), ([3, 15], [3, 15])])
def impl_OccsOk.B4 : List Nat := [0, 1, 3, 7, 15, 31, 63, 127, 127, 383, 1023, 2047, 127, 8191, 16383, 32767, 65535]
theorem impl_OccsOk.tab4 : rtab .any (opsOf Try.f29 4) = impl_OccsOk.T4 := by kernel_rfl
theorem impl_OccsOk.bits4 : waitsOk impl_OccsOk.T4.2 impl_OccsOk.B4 = true := by kernel_rfl
set_option maxHeartbeats 8000000 in
set_option maxRecDepth 100000 in
theorem impl_OccsOk.calls (k : Nat) (A0 : Option Addr) (c0 : Nat) (l0 : List (S27)) (r : Bool) (w : World) (hr0 : Kd.C k27 w A0 l0.length l0) (hc0 : l0.length ≤ c0) (h : impl_OccsOk.f k l0 = some r) :
  Calls Try.prog 29 #[.slice A0 l0.length c0] w fun e w' => e = .returned (.bool r) ∧ Below w.heap.size w w' := by
 have hu27 := Try.underlying27
 have HR0 := m0_ hr0
 have HC0 := m0_ hc0
 clear hr0 hc0
 have HB := m0_ (Below.refl w.heap.size w)
 have H : (impl_OccsOk.l0 k l0 l0 (l0.length : Int) 0) = some r := h
 clear h
 have H' := m0_ H
 clear H
 go_enter Try.func29, Try.ntmps29
 go_wp2
 go_loopg [7] k (fun kq v7 w' => ∃ (x7_1 : Int), v7 = .int .i64 x7_1 ∧ Aside0 (impl_OccsOk.l0 kq l0 l0 (l0.length : Int) x7_1 = some r) ∧ Aside0 (kq ≤ k) ∧ Aside0 (Below w.heap.size w w'))
 case atStart => exact ⟨(0), (by first | rfl | (simp;done) | (simp [*];done)), H', ⟨Nat.le_refl _⟩, ⟨by repeat (first | (with_reducible first | exact HB.out | apply below_alloc | apply pw_below_drewN | apply below_drew1) | exact HB.out)⟩⟩
 case round =>
  clear H'
  obtain ⟨x7_1, rfl, HA, HK1, HB⟩ := hrel
  cases gk with
  | zero => exact absurd HA.out (by simp [impl_OccsOk.l0])
  | succ k1 =>
   have H := HA.out
   clear HA
   simp only [impl_OccsOk.l0] at H
   by_cases c2 : x7_1 < (l0.length : Int)
   rotate_left
   ·rw [if_neg c2] at H
    have c2b0 : decide (x7_1 < (l0.length : Int)) = false := decide_eq_false c2
    clear c2
    obtain rfl := Option.some.inj H
    go_wp2
    go_ret
    exact ⟨by first | rfl | (simp [errW_none, errW_some] <;> rfl) | (simp [*, errW_none, errW_some] <;> rfl), by repeat (first | (with_reducible first | exact HB.out | apply below_alloc | apply pw_below_drewN | apply below_drew1) | exact HB.out)⟩
   rw [if_pos c2] at H
   have c2b0 : decide (x7_1 < (l0.length : Int)) = true := decide_eq_true c2
   clear c2
   by_cases c3 : 0 ≤ x7_1
   rotate_left
   ·rw [if_neg c3] at H
    exact absurd H (by simp)
   rw [if_pos c3] at H
   have c3b0 : decide (0 ≤ x7_1) = true := decide_eq_true c3
   clear c3
   by_cases c4 : x7_1 < (l0.length : Int)
   rotate_left
   ·rw [if_neg c4] at H
    exact absurd H (by simp)
   rw [if_pos c4] at H
   have c4b0 : decide (x7_1 < (l0.length : Int)) = true := decide_eq_true c4
   clear c4
   replace H := Option.bind_eq_some_iff.mp H
   obtain ⟨t103, A50, H⟩ := H
   replace H : (if t103 = true then (if x7_1 > 0 then (if 0 ≤ (wrap64 (x7_1 - 1)) then (if (wrap64 (x7_1 - 1)) < (l0.length : Int) then ((impl_OccLess.f k1 ((rd_T27 l0 (wrap64 (x7_1 - 1))).f0) ((rd_T27 l0 (wrap64 (x7_1 - 1))).f1) ((rd_T27 l0 (wrap64 (x7_1 - 1))).f2) ((rd_T27 l0 x7_1).f0) ((rd_T27 l0 x7_1).f1) ((rd_T27 l0 x7_1).f2)).bind fun t105 => (if t105 = true then (impl_OccsOk.l0 k1 l0 l0 (l0.length : Int) (wrap64 (x7_1 + 1))) else (some false))) else (none)) else (none)) else (impl_OccsOk.l0 k1 l0 l0 (l0.length : Int) (wrap64 (x7_1 + 1)))) else (some false)) = some r := H
   have A5 := m0_ A50
   clear A50
   by_cases c6 : t103 = true
   rotate_left
   ·replace c6 := Bool.eq_false_iff.mpr c6
    subst c6
    have H1 : (some false) = some r := by rw [if_neg (show ¬ (false = true) by decide)] at H;exact H
    clear H
    have H := H1
    clear H1
    obtain rfl := Option.some.inj H
    have p101 : 0 ≤ (x7_1 : Int) := of_decide_eq_true (by first | (with_reducible assumption) | assumption)
    have q101 : x7_1 < (l0.length : Int) := of_decide_eq_true (by first | (with_reducible assumption) | assumption)
    obtain ⟨ad101, A101_2, c101_2, e101, hx101_0, hx101_1, hx101_2, hl101_2, hi101_2⟩ := at_T27 HR0.out x7_1 p101 q101
    cases e101
    replace hx101_0 := (HB.out.cell (World.block_lt_of_cell? w _ hx101_0)).trans hx101_0
    replace hx101_1 := (HB.out.cell (World.block_lt_of_cell? w _ hx101_1)).trans hx101_1
    replace hx101_2 := (HB.out.cell (World.block_lt_of_cell? w _ hx101_2)).trans hx101_2
    have HR101_2 := m0_ hi101_2
    have HC101_2 := m0_ hl101_2
    clear hi101_2 hl101_2
    replace p101 := eq_true p101
    replace q101 := eq_true q101
    try go_wp2_with (first | ((with_reducible refine gate_dst (N := 4) rfl ?_);refine box_event ?hg (N := 4) ?hd (cs := #[.int .i64 0, .int .i64 0, .slice none 0 0]) (t := 27) ?hr ?_;(case hd => rfl);(case hg => rfl);(case hr => first | (go_simp;done) | (go_simp;rfl));intro gb102 hg w30 hbox hb;have BK102 := m0_ (hbox);have GW102 := m0_ ((by rw [hg];exact (below_size (by exact HB.out)) : w.heap.size ≤ gb102));have GE102 := m0_ ((by rw [hg];exact (below_size (by exact HB.out)) : w.heap.size ≤ gb102));replace HB := m0_ (below_step (by exact HB.out) hb);clear hb hbox hg;obtain ⟨hcz31_0, hcz31_1, hcz31_2, hfz31_0, hfz31_1, hfz31_2⟩ := bx3 BK102.out))
    have n0_ : Aside0 ((((w30.setCell ⟨gb102, 0, none⟩ (.int .i64 ((rd_T27 l0 x7_1).f0))).setCell ⟨gb102, 1, none⟩ (.int .i64 ((rd_T27 l0 x7_1).f1))).setCell ⟨gb102, 2, none⟩ (.slice A101_2 ((rd_T27 l0 x7_1).f2).length c101_2)).heap[gb102]? = some (.cells #[.int .i64 ((rd_T27 l0 x7_1).f0), .int .i64 ((rd_T27 l0 x7_1).f1), .slice A101_2 ((rd_T27 l0 x7_1).f2).length c101_2] 27 (0, 0))) := ⟨by (with_reducible repeat (first | refine blk_drewN ?_ _ | refine blk_drew ?_ | refine blk_alloc ?_ _));refine blk_put (cs := #[.int .i64 ((rd_T27 l0 x7_1).f0), .int .i64 ((rd_T27 l0 x7_1).f1), .slice none 0 0]) ?_ 2 _ rfl;(with_reducible repeat (first | refine blk_drewN ?_ _ | refine blk_drew ?_ | refine blk_alloc ?_ _));refine blk_put (cs := #[.int .i64 ((rd_T27 l0 x7_1).f0), .int .i64 0, .slice none 0 0]) ?_ 1 _ rfl;(with_reducible repeat (first | refine blk_drewN ?_ _ | refine blk_drew ?_ | refine blk_alloc ?_ _));refine blk_put (cs := #[.int .i64 0, .int .i64 0, .slice none 0 0]) ?_ 0 _ rfl;(with_reducible repeat (first | refine blk_drewN ?_ _ | refine blk_drew ?_ | refine blk_alloc ?_ _));exact BK102.out⟩
    have n1_ : Aside0 (Below w.heap.size w (((w30.setCell ⟨gb102, 0, none⟩ (.int .i64 ((rd_T27 l0 x7_1).f0))).setCell ⟨gb102, 1, none⟩ (.int .i64 ((rd_T27 l0 x7_1).f1))).setCell ⟨gb102, 2, none⟩ (.slice A101_2 ((rd_T27 l0 x7_1).f2).length c101_2))) := ⟨by repeat (first | (with_reducible first | exact HB.out | apply below_alloc | apply pw_below_drewN | apply below_drew1 | refine below_set ?_ GE102.out) | exact HB.out)⟩
    (try clear BK102)
    (try clear HB)
    generalize (((w30.setCell ⟨gb102, 0, none⟩ (.int .i64 ((rd_T27 l0 x7_1).f0))).setCell ⟨gb102, 1, none⟩ (.int .i64 ((rd_T27 l0 x7_1).f1))).setCell ⟨gb102, 2, none⟩ (.slice A101_2 ((rd_T27 l0 x7_1).f2).length c101_2)) = w32 at n0_ n1_ ⊢
    have BK102 := n0_
    have HB := n1_
    clear n0_ n1_
    replace BK102 := m0_ (blk_drew BK102.out)
    replace HB := m0_ (below_drew1 HB.out)
    refine start_ (n := 17) (S := fun w' => w'.cell? ⟨gb102, 0, none⟩ = some (.int .i64 ((rd_T27 l0 x7_1).f0)) ∧ w'.cell? ⟨gb102, 1, none⟩ = some (.int .i64 ((rd_T27 l0 x7_1).f1)) ∧ w'.cell? ⟨gb102, 2, none⟩ = some (.slice A101_2 ((rd_T27 l0 x7_1).f2).length c101_2)) (ds := []) q29_17 (by kernel_rfl) rfl rfl ⟨(blk_cell BK102.out 0).trans rfl, (blk_cell BK102.out 1).trans rfl, (blk_cell BK102.out 2).trans rfl⟩ (fun hHeld => ?_);refine with_tabW impl_OccsOk.tab4 impl_OccsOk.bits4 (fun HT_ HW_ => ?_)
    generalize w32.drew = w33 at BK102 HB hHeld ⊢
    refine take_ (i := 0) (N := some 12) (v := ?_) (a' := ?_) q29_16 rfl rfl (take_ofW HT_.out HW_.out (by kernel_rfl)) (fun _ _ _ h => h) (Or.inl ⟨by rfl, ?_⟩) hHeld ?_ ?_
    rotate_left
    ·rintro w' ⟨s0, s1, s2⟩
     go_simp
     with_reducible rfl
    rotate_left
    ·simp only [Act.put, List.setIfInBounds_toArray, List.set_cons_zero, List.set_cons_succ, i64_w, i32_w]
     rfl
    refine one_ (i := 1) (N := some 13) q29_15 rfl rfl (one_of HT_.out (by kernel_rfl)) (by decide) (fun K hK => ?_)
    refine goes_ Try.func21 (by kernel_rfl) rfl #[.agg #[.int .i64 ((rd_T27 l0 x7_1).f0), .int .i64 ((rd_T27 l0 x7_1).f1), .slice A101_2 ((rd_T27 l0 x7_1).f2).length c101_2]] (by rfl) rfl rfl (by (try simp only [List.map_toArray, List.map_cons, List.map_nil]);first | done | rfl | (simp only [List.length_drop, List.length_take];rfl)) ?_
    with_reducible refine (impl_OccOk.calls k1 ((rd_T27 l0 x7_1).f0) ((rd_T27 l0 x7_1).f1) _ _ ((rd_T27 l0 x7_1).f2) false _ ?side1 ?side2 A5.out).mono ?_
    (case side1 => repeat (first | exact (Kd.C_below HR101_2.out HB.out) | (with_reducible refine Kd.C_alloc ?_ _) | (with_reducible refine Kd.C_drewN ?_ _) | (with_reducible refine Kd.C_drew ?_)))
    (case side2 => exact HC101_2.out)
    rintro e w34 ⟨rfl, hb⟩
    refine ⟨_, rfl, ?_⟩
    replace BK102 := m0_ (blk_below BK102.out hb)
    replace HB := m0_ (below_step (by exact HB.out) hb)
    (try clear hb)
    (try clear hb2)
    (try clear hk)
    (try clear hi)
    refine hK.out _ _ ⟨(blk_cell BK102.out 0).trans rfl, (blk_cell BK102.out 1).trans rfl, (blk_cell BK102.out 2).trans rfl⟩ (fun hHeld => ?_)
    clear hK K
    refine norm_ (a' := ?_) ?_ ?_
    rotate_left
    ·show Act.put _ (some 13) _ = _
     simp only [Act.put, List.setIfInBounds_toArray, List.set_cons_zero, List.set_cons_succ, i64_w, i32_w]
     rfl
    refine pv_ 2 14 q29_14 (any_of HT_.out (by kernel_rfl)) ?_
    refine pv_ 3 15 q29_13 (any_of HT_.out (by kernel_rfl)) ?_
    refine pu_ 4 16 q29_12 (any_of HT_.out (by kernel_rfl)) ?_
    refine pu_ 5 17 q29_11 (any_of HT_.out (by kernel_rfl)) ?_
    refine pu_ 6 18 q29_10 (any_of HT_.out (by kernel_rfl)) ?_
    refine pu_ 7 19 q29_9 (any_of HT_.out (by kernel_rfl)) ?_
    refine pu_ 8 20 q29_8 (any_of HT_.out (by kernel_rfl)) ?_
    refine pu_ 9 21 q29_7 (any_of HT_.out (by kernel_rfl)) ?_
    refine pu_ 10 22 q29_6 (any_of HT_.out (by kernel_rfl)) ?_
    refine pu_ 11 23 q29_5 (any_of HT_.out (by kernel_rfl)) ?_
    refine pu_ 12 24 q29_4 (any_of HT_.out (by kernel_rfl)) ?_
    refine pu_ 13 25 q29_3 (any_of HT_.out (by kernel_rfl)) ?_
    refine pu_ 14 26 q29_2 (any_of HT_.out (by kernel_rfl)) ?_
    refine pu_ 15 27 q29_1 (any_of HT_.out (by kernel_rfl)) ?_
    refine pv_ 16 28 q29_0 (any_of HT_.out (by kernel_rfl)) ?_
    refine done_ (done_of HT_.out (by kernel_rfl)) ?_
    try go_wp2
    go_ret
    exact ⟨by first | rfl | (simp [errW_none, errW_some] <;> rfl) | (simp [*, errW_none, errW_some] <;> rfl), by repeat (first | (with_reducible first | exact HB.out | apply below_alloc | apply pw_below_drewN | apply below_drew1 | refine below_set ?_ GE102.out) | exact HB.out)⟩
   subst c6
   have H1 : (if x7_1 > 0 then (if 0 ≤ (wrap64 (x7_1 - 1)) then (if (wrap64 (x7_1 - 1)) < (l0.length : Int) then ((impl_OccLess.f k1 ((rd_T27 l0 (wrap64 (x7_1 - 1))).f0) ((rd_T27 l0 (wrap64 (x7_1 - 1))).f1) ((rd_T27 l0 (wrap64 (x7_1 - 1))).f2) ((rd_T27 l0 x7_1).f0) ((rd_T27 l0 x7_1).f1) ((rd_T27 l0 x7_1).f2)).bind fun t105 => (if t105 = true then (impl_OccsOk.l0 k1 l0 l0 (l0.length : Int) (wrap64 (x7_1 + 1))) else (some false))) else (none)) else (none)) else (impl_OccsOk.l0 k1 l0 l0 (l0.length : Int) (wrap64 (x7_1 + 1)))) = some r := by rw [if_pos rfl] at H;exact H
   clear H
   have H := H1
   clear H1
   by_cases c7 : x7_1 > 0
   rotate_left
   ·rw [if_neg c7] at H
    have c7b0 : decide (0 < x7_1) = false := decide_eq_false c7
    clear c7
    have H' := m0_ H
    clear H
    have p101 : 0 ≤ (x7_1 : Int) := of_decide_eq_true (by first | (with_reducible assumption) | assumption)
    have q101 : x7_1 < (l0.length : Int) := of_decide_eq_true (by first | (with_reducible assumption) | assumption)
    obtain ⟨ad101, A101_2, c101_2, e101, hx101_0, hx101_1, hx101_2, hl101_2, hi101_2⟩ := at_T27 HR0.out x7_1 p101 q101
    cases e101
    replace hx101_0 := (HB.out.cell (World.block_lt_of_cell? w _ hx101_0)).trans hx101_0
    replace hx101_1 := (HB.out.cell (World.block_lt_of_cell? w _ hx101_1)).trans hx101_1
    replace hx101_2 := (HB.out.cell (World.block_lt_of_cell? w _ hx101_2)).trans hx101_2
    have HR101_2 := m0_ hi101_2
    have HC101_2 := m0_ hl101_2
    clear hi101_2 hl101_2
    replace p101 := eq_true p101
    replace q101 := eq_true q101
    try go_wp2_with (first | ((with_reducible refine gate_dst (N := 4) rfl ?_);refine box_event ?hg (N := 4) ?hd (cs := #[.int .i64 0, .int .i64 0, .slice none 0 0]) (t := 27) ?hr ?_;(case hd => rfl);(case hg => rfl);(case hr => first | (go_simp;done) | (go_simp;rfl));intro gb102 hg w25 hbox hb;have BK102 := m0_ (hbox);have GW102 := m0_ ((by rw [hg];exact (below_size (by exact HB.out)) : w.heap.size ≤ gb102));have GE102 := m0_ ((by rw [hg];exact (below_size (by exact HB.out)) : w.heap.size ≤ gb102));replace HB := m0_ (below_step (by exact HB.out) hb);clear hb hbox hg;obtain ⟨hcz26_0, hcz26_1, hcz26_2, hfz26_0, hfz26_1, hfz26_2⟩ := bx3 BK102.out))
    have n0_ : Aside0 ((((w25.setCell ⟨gb102, 0, none⟩ (.int .i64 ((rd_T27 l0 x7_1).f0))).setCell ⟨gb102, 1, none⟩ (.int .i64 ((rd_T27 l0 x7_1).f1))).setCell ⟨gb102, 2, none⟩ (.slice A101_2 ((rd_T27 l0 x7_1).f2).length c101_2)).heap[gb102]? = some (.cells #[.int .i64 ((rd_T27 l0 x7_1).f0), .int .i64 ((rd_T27 l0 x7_1).f1), .slice A101_2 ((rd_T27 l0 x7_1).f2).length c101_2] 27 (0, 0))) := ⟨by (with_reducible repeat (first | refine blk_drewN ?_ _ | refine blk_drew ?_ | refine blk_alloc ?_ _));refine blk_put (cs := #[.int .i64 ((rd_T27 l0 x7_1).f0), .int .i64 ((rd_T27 l0 x7_1).f1), .slice none 0 0]) ?_ 2 _ rfl;(with_reducible repeat (first | refine blk_drewN ?_ _ | refine blk_drew ?_ | refine blk_alloc ?_ _));refine blk_put (cs := #[.int .i64 ((rd_T27 l0 x7_1).f0), .int .i64 0, .slice none 0 0]) ?_ 1 _ rfl;(with_reducible repeat (first | refine blk_drewN ?_ _ | refine blk_drew ?_ | refine blk_alloc ?_ _));refine blk_put (cs := #[.int .i64 0, .int .i64 0, .slice none 0 0]) ?_ 0 _ rfl;(with_reducible repeat (first | refine blk_drewN ?_ _ | refine blk_drew ?_ | refine blk_alloc ?_ _));exact BK102.out⟩
    have n1_ : Aside0 (Below w.heap.size w (((w25.setCell ⟨gb102, 0, none⟩ (.int .i64 ((rd_T27 l0 x7_1).f0))).setCell ⟨gb102, 1, none⟩ (.int .i64 ((rd_T27 l0 x7_1).f1))).setCell ⟨gb102, 2, none⟩ (.slice A101_2 ((rd_T27 l0 x7_1).f2).length c101_2))) := ⟨by repeat (first | (with_reducible first | exact HB.out | apply below_alloc | apply pw_below_drewN | apply below_drew1 | refine below_set ?_ GE102.out) | exact HB.out)⟩
    (try clear BK102)
    (try clear HB)
    generalize (((w25.setCell ⟨gb102, 0, none⟩ (.int .i64 ((rd_T27 l0 x7_1).f0))).setCell ⟨gb102, 1, none⟩ (.int .i64 ((rd_T27 l0 x7_1).f1))).setCell ⟨gb102, 2, none⟩ (.slice A101_2 ((rd_T27 l0 x7_1).f2).length c101_2)) = w27 at n0_ n1_ ⊢
    have BK102 := n0_
    have HB := n1_
    clear n0_ n1_
    replace BK102 := m0_ (blk_drew BK102.out)
    replace HB := m0_ (below_drew1 HB.out)
    refine start_ (n := 17) (S := fun w' => w'.cell? ⟨gb102, 0, none⟩ = some (.int .i64 ((rd_T27 l0 x7_1).f0)) ∧ w'.cell? ⟨gb102, 1, none⟩ = some (.int .i64 ((rd_T27 l0 x7_1).f1)) ∧ w'.cell? ⟨gb102, 2, none⟩ = some (.slice A101_2 ((rd_T27 l0 x7_1).f2).length c101_2)) (ds := []) q29_17 (by kernel_rfl) rfl rfl ⟨(blk_cell BK102.out 0).trans rfl, (blk_cell BK102.out 1).trans rfl, (blk_cell BK102.out 2).trans rfl⟩ (fun hHeld => ?_);refine with_tabW impl_OccsOk.tab4 impl_OccsOk.bits4 (fun HT_ HW_ => ?_)
    generalize w27.drew = w28 at BK102 HB hHeld ⊢
    refine take_ (i := 0) (N := some 12) (v := ?_) (a' := ?_) q29_16 rfl rfl (take_ofW HT_.out HW_.out (by kernel_rfl)) (fun _ _ _ h => h) (Or.inl ⟨by rfl, ?_⟩) hHeld ?_ ?_
    rotate_left
    ·rintro w' ⟨s0, s1, s2⟩
     go_simp
     with_reducible rfl
    rotate_left
    ·simp only [Act.put, List.setIfInBounds_toArray, List.set_cons_zero, List.set_cons_succ, i64_w, i32_w]
     rfl
    refine one_ (i := 1) (N := some 13) q29_15 rfl rfl (one_of HT_.out (by kernel_rfl)) (by decide) (fun K hK => ?_)
    refine goes_ Try.func21 (by kernel_rfl) rfl #[.agg #[.int .i64 ((rd_T27 l0 x7_1).f0), .int .i64 ((rd_T27 l0 x7_1).f1), .slice A101_2 ((rd_T27 l0 x7_1).f2).length c101_2]] (by rfl) rfl rfl (by (try simp only [List.map_toArray, List.map_cons, List.map_nil]);first | done | rfl | (simp only [List.length_drop, List.length_take];rfl)) ?_
    with_reducible refine (impl_OccOk.calls k1 ((rd_T27 l0 x7_1).f0) ((rd_T27 l0 x7_1).f1) _ _ ((rd_T27 l0 x7_1).f2) true _ ?side1 ?side2 A5.out).mono ?_
    (case side1 => repeat (first | exact (Kd.C_below HR101_2.out HB.out) | (with_reducible refine Kd.C_alloc ?_ _) | (with_reducible refine Kd.C_drewN ?_ _) | (with_reducible refine Kd.C_drew ?_)))
    (case side2 => exact HC101_2.out)
    rintro e w29 ⟨rfl, hb⟩
    refine ⟨_, rfl, ?_⟩
    replace BK102 := m0_ (blk_below BK102.out hb)
    replace HB := m0_ (below_step (by exact HB.out) hb)
    (try clear hb)
    (try clear hb2)
    (try clear hk)
    (try clear hi)
    refine hK.out _ _ ⟨(blk_cell BK102.out 0).trans rfl, (blk_cell BK102.out 1).trans rfl, (blk_cell BK102.out 2).trans rfl⟩ (fun hHeld => ?_)
    clear hK K
    refine norm_ (a' := ?_) ?_ ?_
    rotate_left
    ·show Act.put _ (some 13) _ = _
     simp only [Act.put, List.setIfInBounds_toArray, List.set_cons_zero, List.set_cons_succ, i64_w, i32_w]
     rfl
    refine pv_ 2 14 q29_14 (any_of HT_.out (by kernel_rfl)) ?_
    refine pv_ 3 15 q29_13 (any_of HT_.out (by kernel_rfl)) ?_
    refine pv_ 4 16 q29_12 (any_of HT_.out (by kernel_rfl)) ?_
    refine pv_ 5 17 q29_11 (any_of HT_.out (by kernel_rfl)) ?_
    refine pv_ 6 18 q29_10 (any_of HT_.out (by kernel_rfl)) ?_
    refine pu_ 7 19 q29_9 (any_of HT_.out (by kernel_rfl)) ?_
    refine pu_ 8 20 q29_8 (any_of HT_.out (by kernel_rfl)) ?_
    refine pu_ 9 21 q29_7 (any_of HT_.out (by kernel_rfl)) ?_
    refine pu_ 10 22 q29_6 (any_of HT_.out (by kernel_rfl)) ?_
    refine pu_ 11 23 q29_5 (any_of HT_.out (by kernel_rfl)) ?_
    refine pu_ 12 24 q29_4 (any_of HT_.out (by kernel_rfl)) ?_
    refine pu_ 13 25 q29_3 (any_of HT_.out (by kernel_rfl)) ?_
    refine pu_ 14 26 q29_2 (any_of HT_.out (by kernel_rfl)) ?_
    refine pv_ 15 27 q29_1 (any_of HT_.out (by kernel_rfl)) ?_
    refine pv_ 16 28 q29_0 (any_of HT_.out (by kernel_rfl)) ?_
    refine done_ (done_of HT_.out (by kernel_rfl)) ?_
    try go_wp2
    go_roundg k1
    case measure => have := HK1.out;omega
    case rel => exact ⟨(wrap64 (x7_1 + 1)), (by first | rfl | (simp;done) | (simp [*];done)), H', ⟨by have := HK1.out;omega⟩, ⟨by repeat (first | (with_reducible first | exact HB.out | apply below_alloc | apply pw_below_drewN | apply below_drew1 | refine below_set ?_ GE102.out) | exact HB.out)⟩⟩
   rw [if_pos c7] at H
   have c7b0 : decide (0 < x7_1) = true := decide_eq_true c7
   clear c7
   obtain ⟨ji8, hji8⟩ : ∃ j_ : Int, (wrap64 (x7_1 - 1)) = j_ := ⟨_, rfl⟩
   replace H : (if 0 ≤ (ji8) then (if (ji8) < (l0.length : Int) then ((impl_OccLess.f k1 ((rd_T27 l0 (ji8)).f0) ((rd_T27 l0 (ji8)).f1) ((rd_T27 l0 (ji8)).f2) ((rd_T27 l0 x7_1).f0) ((rd_T27 l0 x7_1).f1) ((rd_T27 l0 x7_1).f2)).bind fun t105 => (if t105 = true then (impl_OccsOk.l0 k1 l0 l0 (l0.length : Int) (wrap64 (x7_1 + 1))) else (some false))) else (none)) else (none)) = some r := by first | (rw [hji8] at H;exact H) | (simp only [hji8] at H ⊢;exact H)
   (try rw [hji8] at A5)
   have hji8w : (IntKind.i64.wrap (x7_1 - 1)) = ji8 := (i64_w _).trans hji8
   by_cases c9 : 0 ≤ (ji8)
   rotate_left
   ·rw [if_neg c9] at H
    exact absurd H (by simp)
   rw [if_pos c9] at H
   have c9b0 : decide (0 ≤ (ji8)) = true := decide_eq_true c9
   clear c9
   by_cases c10 : (ji8) < (l0.length : Int)
   rotate_left
   ·rw [if_neg c10] at H
    exact absurd H (by simp)
   rw [if_pos c10] at H
   have c10b0 : decide ((ji8) < (l0.length : Int)) = true := decide_eq_true c10
   clear c10
   replace H := Option.bind_eq_some_iff.mp H
   obtain ⟨t105, A110, H⟩ := H
   replace H : (if t105 = true then (impl_OccsOk.l0 k1 l0 l0 (l0.length : Int) (wrap64 (x7_1 + 1))) else (some false)) = some r := H
   have A11 := m0_ A110
   clear A110
   by_cases c12 : t105 = true
   rotate_left
   ·replace c12 := Bool.eq_false_iff.mpr c12
    subst c12
    have H1 : (some false) = some r := by rw [if_neg (show ¬ (false = true) by decide)] at H;exact H
    clear H
    have H := H1
    clear H1
    obtain rfl := Option.some.inj H
    have p101 : 0 ≤ (x7_1 : Int) := of_decide_eq_true (by first | (with_reducible assumption) | assumption)
    have q101 : x7_1 < (l0.length : Int) := of_decide_eq_true (by first | (with_reducible assumption) | assumption)
    obtain ⟨ad101, A101_2, c101_2, e101, hx101_0, hx101_1, hx101_2, hl101_2, hi101_2⟩ := at_T27 HR0.out x7_1 p101 q101
    cases e101
    replace hx101_0 := (HB.out.cell (World.block_lt_of_cell? w _ hx101_0)).trans hx101_0
    replace hx101_1 := (HB.out.cell (World.block_lt_of_cell? w _ hx101_1)).trans hx101_1
    replace hx101_2 := (HB.out.cell (World.block_lt_of_cell? w _ hx101_2)).trans hx101_2
    have HR101_2 := m0_ hi101_2
    have HC101_2 := m0_ hl101_2
    clear hi101_2 hl101_2
    replace p101 := eq_true p101
    replace q101 := eq_true q101
    try go_wp2_with (first | ((with_reducible refine gate_dst (N := 4) rfl ?_);refine box_event ?hg (N := 4) ?hd (cs := #[.int .i64 0, .int .i64 0, .slice none 0 0]) (t := 27) ?hr ?_;(case hd => rfl);(case hg => rfl);(case hr => first | (go_simp;done) | (go_simp;rfl));intro gb102 hg w19 hbox hb;have BK102 := m0_ (hbox);have GW102 := m0_ ((by rw [hg];exact (below_size (by exact HB.out)) : w.heap.size ≤ gb102));have GE102 := m0_ ((by rw [hg];exact (below_size (by exact HB.out)) : w.heap.size ≤ gb102));replace HB := m0_ (below_step (by exact HB.out) hb);clear hb hbox hg;obtain ⟨hcz20_0, hcz20_1, hcz20_2, hfz20_0, hfz20_1, hfz20_2⟩ := bx3 BK102.out))
    have n0_ : Aside0 ((((w19.setCell ⟨gb102, 0, none⟩ (.int .i64 ((rd_T27 l0 x7_1).f0))).setCell ⟨gb102, 1, none⟩ (.int .i64 ((rd_T27 l0 x7_1).f1))).setCell ⟨gb102, 2, none⟩ (.slice A101_2 ((rd_T27 l0 x7_1).f2).length c101_2)).heap[gb102]? = some (.cells #[.int .i64 ((rd_T27 l0 x7_1).f0), .int .i64 ((rd_T27 l0 x7_1).f1), .slice A101_2 ((rd_T27 l0 x7_1).f2).length c101_2] 27 (0, 0))) := ⟨by (with_reducible repeat (first | refine blk_drewN ?_ _ | refine blk_drew ?_ | refine blk_alloc ?_ _));refine blk_put (cs := #[.int .i64 ((rd_T27 l0 x7_1).f0), .int .i64 ((rd_T27 l0 x7_1).f1), .slice none 0 0]) ?_ 2 _ rfl;(with_reducible repeat (first | refine blk_drewN ?_ _ | refine blk_drew ?_ | refine blk_alloc ?_ _));refine blk_put (cs := #[.int .i64 ((rd_T27 l0 x7_1).f0), .int .i64 0, .slice none 0 0]) ?_ 1 _ rfl;(with_reducible repeat (first | refine blk_drewN ?_ _ | refine blk_drew ?_ | refine blk_alloc ?_ _));refine blk_put (cs := #[.int .i64 0, .int .i64 0, .slice none 0 0]) ?_ 0 _ rfl;(with_reducible repeat (first | refine blk_drewN ?_ _ | refine blk_drew ?_ | refine blk_alloc ?_ _));exact BK102.out⟩
    have n1_ : Aside0 (Below w.heap.size w (((w19.setCell ⟨gb102, 0, none⟩ (.int .i64 ((rd_T27 l0 x7_1).f0))).setCell ⟨gb102, 1, none⟩ (.int .i64 ((rd_T27 l0 x7_1).f1))).setCell ⟨gb102, 2, none⟩ (.slice A101_2 ((rd_T27 l0 x7_1).f2).length c101_2))) := ⟨by repeat (first | (with_reducible first | exact HB.out | apply below_alloc | apply pw_below_drewN | apply below_drew1 | refine below_set ?_ GE102.out) | exact HB.out)⟩
    (try clear BK102)
    (try clear HB)
    generalize (((w19.setCell ⟨gb102, 0, none⟩ (.int .i64 ((rd_T27 l0 x7_1).f0))).setCell ⟨gb102, 1, none⟩ (.int .i64 ((rd_T27 l0 x7_1).f1))).setCell ⟨gb102, 2, none⟩ (.slice A101_2 ((rd_T27 l0 x7_1).f2).length c101_2)) = w21 at n0_ n1_ ⊢
    have BK102 := n0_
    have HB := n1_
    clear n0_ n1_
    replace BK102 := m0_ (blk_drew BK102.out)
    replace HB := m0_ (below_drew1 HB.out)
    have p104 : 0 ≤ ((ji8) : Int) := of_decide_eq_true (by first | (with_reducible assumption) | assumption)
    have q104 : (ji8) < (l0.length : Int) := of_decide_eq_true (by first | (with_reducible assumption) | assumption)
    obtain ⟨ad104, A104_2, c104_2, e104, hx104_0, hx104_1, hx104_2, hl104_2, hi104_2⟩ := at_T27 HR0.out (ji8) p104 q104
    have hw104_2 := hx104_2
    have hw104_1 := hx104_1
    have hw104_0 := hx104_0
    obtain rfl : ad101 = ad104 := (by injection e104)
    replace hx104_0 := (HB.out.cell (World.block_lt_of_cell? w _ hx104_0)).trans hx104_0
    replace hx104_1 := (HB.out.cell (World.block_lt_of_cell? w _ hx104_1)).trans hx104_1
    replace hx104_2 := (HB.out.cell (World.block_lt_of_cell? w _ hx104_2)).trans hx104_2
    have HR104_2 := m0_ hi104_2
    have HC104_2 := m0_ hl104_2
    clear hi104_2 hl104_2
    replace p104 := eq_true p104
    replace q104 := eq_true q104
    refine start_ (n := 17) (S := fun w' => w'.cell? ⟨gb102, 0, none⟩ = some (.int .i64 ((rd_T27 l0 x7_1).f0)) ∧ w'.cell? ⟨gb102, 1, none⟩ = some (.int .i64 ((rd_T27 l0 x7_1).f1)) ∧ w'.cell? ⟨gb102, 2, none⟩ = some (.slice A101_2 ((rd_T27 l0 x7_1).f2).length c101_2) ∧ w'.cell? (ad101.add (((ji8)).toNat * 3)) = some (.int .i64 ((rd_T27 l0 (ji8)).f0)) ∧ w'.cell? ⟨(ad101.add (((ji8)).toNat * 3)).block, (ad101.add (((ji8)).toNat * 3)).off + 1, none⟩ = some (.int .i64 ((rd_T27 l0 (ji8)).f1)) ∧ w'.cell? ⟨(ad101.add (((ji8)).toNat * 3)).block, (ad101.add (((ji8)).toNat * 3)).off + 2, none⟩ = some (.slice A104_2 ((rd_T27 l0 (ji8)).f2).length c104_2)) (ds := []) q29_17 (by kernel_rfl) rfl rfl ⟨(blk_cell BK102.out 0).trans rfl, (blk_cell BK102.out 1).trans rfl, (blk_cell BK102.out 2).trans rfl, ((HB.out.cell (World.block_lt_of_cell? w _ hw104_0)).trans hw104_0), ((HB.out.cell (World.block_lt_of_cell? w _ hw104_1)).trans hw104_1), ((HB.out.cell (World.block_lt_of_cell? w _ hw104_2)).trans hw104_2)⟩ (fun hHeld => ?_);refine with_tabW impl_OccsOk.tab4 impl_OccsOk.bits4 (fun HT_ HW_ => ?_)
    generalize w21.drew = w22 at BK102 HB HR104_2 hx104_0 hx104_1 hx104_2 hHeld ⊢
    refine take_ (i := 0) (N := some 12) (v := ?_) (a' := ?_) q29_16 rfl rfl (take_ofW HT_.out HW_.out (by kernel_rfl)) (fun _ _ _ h => h) (Or.inl ⟨by rfl, ?_⟩) hHeld ?_ ?_
    rotate_left
    ·rintro w' ⟨s0, s1, s2, s3, s4, s5⟩
     go_simp
     with_reducible rfl
    rotate_left
    ·simp only [Act.put, List.setIfInBounds_toArray, List.set_cons_zero, List.set_cons_succ, i64_w, i32_w]
     rfl
    refine one_ (i := 1) (N := some 13) q29_15 rfl rfl (one_of HT_.out (by kernel_rfl)) (by decide) (fun K hK => ?_)
    refine goes_ Try.func21 (by kernel_rfl) rfl #[.agg #[.int .i64 ((rd_T27 l0 x7_1).f0), .int .i64 ((rd_T27 l0 x7_1).f1), .slice A101_2 ((rd_T27 l0 x7_1).f2).length c101_2]] (by rfl) rfl rfl (by (try simp only [List.map_toArray, List.map_cons, List.map_nil]);first | done | rfl | (simp only [List.length_drop, List.length_take];rfl)) ?_
    with_reducible refine (impl_OccOk.calls k1 ((rd_T27 l0 x7_1).f0) ((rd_T27 l0 x7_1).f1) _ _ ((rd_T27 l0 x7_1).f2) true _ ?side1 ?side2 A5.out).mono ?_
    (case side1 => repeat (first | exact (Kd.C_below HR101_2.out HB.out) | (with_reducible refine Kd.C_alloc ?_ _) | (with_reducible refine Kd.C_drewN ?_ _) | (with_reducible refine Kd.C_drew ?_)))
    (case side2 => exact HC101_2.out)
    rintro e w23 ⟨rfl, hb⟩
    refine ⟨_, rfl, ?_⟩
    replace BK102 := m0_ (blk_below BK102.out hb)
    replace HB := m0_ (below_step (by exact HB.out) hb)
    (try clear hb)
    (try clear hb2)
    (try clear hk)
    (try clear hi)
    refine hK.out _ _ ⟨(blk_cell BK102.out 0).trans rfl, (blk_cell BK102.out 1).trans rfl, (blk_cell BK102.out 2).trans rfl, ((HB.out.cell (World.block_lt_of_cell? w _ hw104_0)).trans hw104_0), ((HB.out.cell (World.block_lt_of_cell? w _ hw104_1)).trans hw104_1), ((HB.out.cell (World.block_lt_of_cell? w _ hw104_2)).trans hw104_2)⟩ (fun hHeld => ?_)
    clear hK K
    refine norm_ (a' := ?_) ?_ ?_
    rotate_left
    ·show Act.put _ (some 13) _ = _
     simp only [Act.put, List.setIfInBounds_toArray, List.set_cons_zero, List.set_cons_succ, i64_w, i32_w]
     rfl
    refine pv_ 2 14 q29_14 (any_of HT_.out (by kernel_rfl)) ?_
    refine pv_ 3 15 q29_13 (any_of HT_.out (by kernel_rfl)) ?_
    refine pv_ 4 16 q29_12 (any_of HT_.out (by kernel_rfl)) ?_
    refine pv_ 5 17 q29_11 (any_of HT_.out (by kernel_rfl)) ?_
    refine pv_ 6 18 q29_10 (any_of HT_.out (by kernel_rfl)) ?_
    refine pv_ 7 19 q29_9 (any_of HT_.out (by kernel_rfl)) ?_
    refine pv_ 8 20 q29_8 (any_of HT_.out (by kernel_rfl)) ?_
    refine pv_ 9 21 q29_7 (any_of HT_.out (by kernel_rfl)) ?_
    refine pv_ 10 22 q29_6 (any_of HT_.out (by kernel_rfl)) ?_
    refine take_ (i := 11) (N := some 23) (v := ?_) (a' := ?_) q29_5 rfl rfl (take_ofW HT_.out HW_.out (by kernel_rfl)) (fun _ _ _ h => h) (Or.inl ⟨by rfl, ?_⟩) hHeld ?_ ?_
    rotate_left
    ·rintro w' ⟨s0, s1, s2, s3, s4, s5⟩
     go_simp
     with_reducible rfl
    rotate_left
    ·simp only [Act.put, List.setIfInBounds_toArray, List.set_cons_zero, List.set_cons_succ, i64_w, i32_w]
     rfl
    refine take_ (i := 12) (N := some 24) (v := ?_) (a' := ?_) q29_4 rfl rfl (take_ofW HT_.out HW_.out (by kernel_rfl)) (fun _ _ _ h => h) (Or.inl ⟨by rfl, ?_⟩) hHeld ?_ ?_
    rotate_left
    ·rintro w' ⟨s0, s1, s2, s3, s4, s5⟩
     go_simp
     with_reducible rfl
    rotate_left
    ·simp only [Act.put, List.setIfInBounds_toArray, List.set_cons_zero, List.set_cons_succ, i64_w, i32_w]
     rfl
    refine one_ (i := 13) (N := some 25) q29_3 rfl rfl (one_of HT_.out (by kernel_rfl)) (by decide) (fun K hK => ?_)
    refine goes_ Try.func45 (by kernel_rfl) rfl #[.agg #[.int .i64 ((rd_T27 l0 (ji8)).f0), .int .i64 ((rd_T27 l0 (ji8)).f1), .slice A104_2 ((rd_T27 l0 (ji8)).f2).length c104_2], .agg #[.int .i64 ((rd_T27 l0 x7_1).f0), .int .i64 ((rd_T27 l0 x7_1).f1), .slice A101_2 ((rd_T27 l0 x7_1).f2).length c101_2]] (by rfl) rfl rfl (by (try simp only [List.map_toArray, List.map_cons, List.map_nil]);first | done | (simp only [hji8];rfl) | rfl | (simp only [List.length_drop, List.length_take];rfl)) ?_
    with_reducible refine (impl_OccLess.calls k1 ((rd_T27 l0 (ji8)).f0) ((rd_T27 l0 (ji8)).f1) _ _ ((rd_T27 l0 (ji8)).f2) ((rd_T27 l0 x7_1).f0) ((rd_T27 l0 x7_1).f1) _ _ ((rd_T27 l0 x7_1).f2) false _ ?side1 ?side2 ?side3 ?side4 A11.out).mono ?_
    (case side1 => repeat (first | exact (Kd.C_below HR104_2.out HB.out) | (with_reducible refine Kd.C_alloc ?_ _) | (with_reducible refine Kd.C_drewN ?_ _) | (with_reducible refine Kd.C_drew ?_)))
    (case side2 => exact HC104_2.out)
    (case side3 => repeat (first | exact (Kd.C_below HR101_2.out HB.out) | (with_reducible refine Kd.C_alloc ?_ _) | (with_reducible refine Kd.C_drewN ?_ _) | (with_reducible refine Kd.C_drew ?_)))
    (case side4 => exact HC101_2.out)
    rintro e w24 ⟨rfl, hb⟩
    refine ⟨_, rfl, ?_⟩
    replace BK102 := m0_ (blk_below BK102.out hb)
    replace HB := m0_ (below_step (by exact HB.out) hb)
    (try clear hb)
    (try clear hb2)
    (try clear hk)
    (try clear hi)
    refine hK.out _ _ ⟨(blk_cell BK102.out 0).trans rfl, (blk_cell BK102.out 1).trans rfl, (blk_cell BK102.out 2).trans rfl, ((HB.out.cell (World.block_lt_of_cell? w _ hw104_0)).trans hw104_0), ((HB.out.cell (World.block_lt_of_cell? w _ hw104_1)).trans hw104_1), ((HB.out.cell (World.block_lt_of_cell? w _ hw104_2)).trans hw104_2)⟩ (fun hHeld => ?_)
    clear hK K
    refine norm_ (a' := ?_) ?_ ?_
    rotate_left
    ·show Act.put _ (some 25) _ = _
     simp only [Act.put, List.setIfInBounds_toArray, List.set_cons_zero, List.set_cons_succ, i64_w, i32_w]
     rfl
    refine pv_ 14 26 q29_2 (any_of HT_.out (by kernel_rfl)) ?_
    refine pv_ 15 27 q29_1 (any_of HT_.out (by kernel_rfl)) ?_
    refine pv_ 16 28 q29_0 (any_of HT_.out (by kernel_rfl)) ?_
    refine done_ (done_of HT_.out (by kernel_rfl)) ?_
    try go_wp2
    go_ret
    exact ⟨by first | rfl | (simp [errW_none, errW_some] <;> rfl) | (simp only [← hji8];first | rfl | (simp [errW_none, errW_some] <;> rfl)) | (simp [*, errW_none, errW_some] <;> rfl), by repeat (first | (with_reducible first | exact HB.out | apply below_alloc | apply pw_below_drewN | apply below_drew1 | refine below_set ?_ GE102.out) | exact HB.out)⟩
   subst c12
   have H1 : (impl_OccsOk.l0 k1 l0 l0 (l0.length : Int) (wrap64 (x7_1 + 1))) = some r := by rw [if_pos rfl] at H;exact H
   clear H
   have H := H1
   clear H1
   have H' := m0_ H
   clear H
   have p101 : 0 ≤ (x7_1 : Int) := of_decide_eq_true (by first | (with_reducible assumption) | assumption)
   have q101 : x7_1 < (l0.length : Int) := of_decide_eq_true (by first | (with_reducible assumption) | assumption)
   obtain ⟨ad101, A101_2, c101_2, e101, hx101_0, hx101_1, hx101_2, hl101_2, hi101_2⟩ := at_T27 HR0.out x7_1 p101 q101
   cases e101
   replace hx101_0 := (HB.out.cell (World.block_lt_of_cell? w _ hx101_0)).trans hx101_0
   replace hx101_1 := (HB.out.cell (World.block_lt_of_cell? w _ hx101_1)).trans hx101_1
   replace hx101_2 := (HB.out.cell (World.block_lt_of_cell? w _ hx101_2)).trans hx101_2
   have HR101_2 := m0_ hi101_2
   have HC101_2 := m0_ hl101_2
   clear hi101_2 hl101_2
   replace p101 := eq_true p101
   replace q101 := eq_true q101
   try go_wp2_with (first | ((with_reducible refine gate_dst (N := 4) rfl ?_);refine box_event ?hg (N := 4) ?hd (cs := #[.int .i64 0, .int .i64 0, .slice none 0 0]) (t := 27) ?hr ?_;(case hd => rfl);(case hg => rfl);(case hr => first | (go_simp;done) | (go_simp;rfl));intro gb102 hg w13 hbox hb;have BK102 := m0_ (hbox);have GW102 := m0_ ((by rw [hg];exact (below_size (by exact HB.out)) : w.heap.size ≤ gb102));have GE102 := m0_ ((by rw [hg];exact (below_size (by exact HB.out)) : w.heap.size ≤ gb102));replace HB := m0_ (below_step (by exact HB.out) hb);clear hb hbox hg;obtain ⟨hcz14_0, hcz14_1, hcz14_2, hfz14_0, hfz14_1, hfz14_2⟩ := bx3 BK102.out))
   have n0_ : Aside0 ((((w13.setCell ⟨gb102, 0, none⟩ (.int .i64 ((rd_T27 l0 x7_1).f0))).setCell ⟨gb102, 1, none⟩ (.int .i64 ((rd_T27 l0 x7_1).f1))).setCell ⟨gb102, 2, none⟩ (.slice A101_2 ((rd_T27 l0 x7_1).f2).length c101_2)).heap[gb102]? = some (.cells #[.int .i64 ((rd_T27 l0 x7_1).f0), .int .i64 ((rd_T27 l0 x7_1).f1), .slice A101_2 ((rd_T27 l0 x7_1).f2).length c101_2] 27 (0, 0))) := ⟨by (with_reducible repeat (first | refine blk_drewN ?_ _ | refine blk_drew ?_ | refine blk_alloc ?_ _));refine blk_put (cs := #[.int .i64 ((rd_T27 l0 x7_1).f0), .int .i64 ((rd_T27 l0 x7_1).f1), .slice none 0 0]) ?_ 2 _ rfl;(with_reducible repeat (first | refine blk_drewN ?_ _ | refine blk_drew ?_ | refine blk_alloc ?_ _));refine blk_put (cs := #[.int .i64 ((rd_T27 l0 x7_1).f0), .int .i64 0, .slice none 0 0]) ?_ 1 _ rfl;(with_reducible repeat (first | refine blk_drewN ?_ _ | refine blk_drew ?_ | refine blk_alloc ?_ _));refine blk_put (cs := #[.int .i64 0, .int .i64 0, .slice none 0 0]) ?_ 0 _ rfl;(with_reducible repeat (first | refine blk_drewN ?_ _ | refine blk_drew ?_ | refine blk_alloc ?_ _));exact BK102.out⟩
   have n1_ : Aside0 (Below w.heap.size w (((w13.setCell ⟨gb102, 0, none⟩ (.int .i64 ((rd_T27 l0 x7_1).f0))).setCell ⟨gb102, 1, none⟩ (.int .i64 ((rd_T27 l0 x7_1).f1))).setCell ⟨gb102, 2, none⟩ (.slice A101_2 ((rd_T27 l0 x7_1).f2).length c101_2))) := ⟨by repeat (first | (with_reducible first | exact HB.out | apply below_alloc | apply pw_below_drewN | apply below_drew1 | refine below_set ?_ GE102.out) | exact HB.out)⟩
   (try clear BK102)
   (try clear HB)
   generalize (((w13.setCell ⟨gb102, 0, none⟩ (.int .i64 ((rd_T27 l0 x7_1).f0))).setCell ⟨gb102, 1, none⟩ (.int .i64 ((rd_T27 l0 x7_1).f1))).setCell ⟨gb102, 2, none⟩ (.slice A101_2 ((rd_T27 l0 x7_1).f2).length c101_2)) = w15 at n0_ n1_ ⊢
   have BK102 := n0_
   have HB := n1_
   clear n0_ n1_
   replace BK102 := m0_ (blk_drew BK102.out)
   replace HB := m0_ (below_drew1 HB.out)
   have p104 : 0 ≤ ((ji8) : Int) := of_decide_eq_true (by first | (with_reducible assumption) | assumption)
   have q104 : (ji8) < (l0.length : Int) := of_decide_eq_true (by first | (with_reducible assumption) | assumption)
   obtain ⟨ad104, A104_2, c104_2, e104, hx104_0, hx104_1, hx104_2, hl104_2, hi104_2⟩ := at_T27 HR0.out (ji8) p104 q104
   have hw104_2 := hx104_2
   have hw104_1 := hx104_1
   have hw104_0 := hx104_0
   obtain rfl : ad101 = ad104 := (by injection e104)
   replace hx104_0 := (HB.out.cell (World.block_lt_of_cell? w _ hx104_0)).trans hx104_0
   replace hx104_1 := (HB.out.cell (World.block_lt_of_cell? w _ hx104_1)).trans hx104_1
   replace hx104_2 := (HB.out.cell (World.block_lt_of_cell? w _ hx104_2)).trans hx104_2
   have HR104_2 := m0_ hi104_2
   have HC104_2 := m0_ hl104_2
   clear hi104_2 hl104_2
   replace p104 := eq_true p104
   replace q104 := eq_true q104
   refine start_ (n := 17) (S := fun w' => w'.cell? ⟨gb102, 0, none⟩ = some (.int .i64 ((rd_T27 l0 x7_1).f0)) ∧ w'.cell? ⟨gb102, 1, none⟩ = some (.int .i64 ((rd_T27 l0 x7_1).f1)) ∧ w'.cell? ⟨gb102, 2, none⟩ = some (.slice A101_2 ((rd_T27 l0 x7_1).f2).length c101_2) ∧ w'.cell? (ad101.add (((ji8)).toNat * 3)) = some (.int .i64 ((rd_T27 l0 (ji8)).f0)) ∧ w'.cell? ⟨(ad101.add (((ji8)).toNat * 3)).block, (ad101.add (((ji8)).toNat * 3)).off + 1, none⟩ = some (.int .i64 ((rd_T27 l0 (ji8)).f1)) ∧ w'.cell? ⟨(ad101.add (((ji8)).toNat * 3)).block, (ad101.add (((ji8)).toNat * 3)).off + 2, none⟩ = some (.slice A104_2 ((rd_T27 l0 (ji8)).f2).length c104_2)) (ds := []) q29_17 (by kernel_rfl) rfl rfl ⟨(blk_cell BK102.out 0).trans rfl, (blk_cell BK102.out 1).trans rfl, (blk_cell BK102.out 2).trans rfl, ((HB.out.cell (World.block_lt_of_cell? w _ hw104_0)).trans hw104_0), ((HB.out.cell (World.block_lt_of_cell? w _ hw104_1)).trans hw104_1), ((HB.out.cell (World.block_lt_of_cell? w _ hw104_2)).trans hw104_2)⟩ (fun hHeld => ?_);refine with_tabW impl_OccsOk.tab4 impl_OccsOk.bits4 (fun HT_ HW_ => ?_)
   generalize w15.drew = w16 at BK102 HB HR104_2 hx104_0 hx104_1 hx104_2 hHeld ⊢
   refine take_ (i := 0) (N := some 12) (v := ?_) (a' := ?_) q29_16 rfl rfl (take_ofW HT_.out HW_.out (by kernel_rfl)) (fun _ _ _ h => h) (Or.inl ⟨by rfl, ?_⟩) hHeld ?_ ?_
   rotate_left
   ·rintro w' ⟨s0, s1, s2, s3, s4, s5⟩
    go_simp
    with_reducible rfl
   rotate_left
   ·simp only [Act.put, List.setIfInBounds_toArray, List.set_cons_zero, List.set_cons_succ, i64_w, i32_w]
    rfl
   refine one_ (i := 1) (N := some 13) q29_15 rfl rfl (one_of HT_.out (by kernel_rfl)) (by decide) (fun K hK => ?_)
   refine goes_ Try.func21 (by kernel_rfl) rfl #[.agg #[.int .i64 ((rd_T27 l0 x7_1).f0), .int .i64 ((rd_T27 l0 x7_1).f1), .slice A101_2 ((rd_T27 l0 x7_1).f2).length c101_2]] (by rfl) rfl rfl (by (try simp only [List.map_toArray, List.map_cons, List.map_nil]);first | done | rfl | (simp only [List.length_drop, List.length_take];rfl)) ?_
   with_reducible refine (impl_OccOk.calls k1 ((rd_T27 l0 x7_1).f0) ((rd_T27 l0 x7_1).f1) _ _ ((rd_T27 l0 x7_1).f2) true _ ?side1 ?side2 A5.out).mono ?_
   (case side1 => repeat (first | exact (Kd.C_below HR101_2.out HB.out) | (with_reducible refine Kd.C_alloc ?_ _) | (with_reducible refine Kd.C_drewN ?_ _) | (with_reducible refine Kd.C_drew ?_)))
   (case side2 => exact HC101_2.out)
   rintro e w17 ⟨rfl, hb⟩
   refine ⟨_, rfl, ?_⟩
   replace BK102 := m0_ (blk_below BK102.out hb)
   replace HB := m0_ (below_step (by exact HB.out) hb)
   (try clear hb)
   (try clear hb2)
   (try clear hk)
   (try clear hi)
   refine hK.out _ _ ⟨(blk_cell BK102.out 0).trans rfl, (blk_cell BK102.out 1).trans rfl, (blk_cell BK102.out 2).trans rfl, ((HB.out.cell (World.block_lt_of_cell? w _ hw104_0)).trans hw104_0), ((HB.out.cell (World.block_lt_of_cell? w _ hw104_1)).trans hw104_1), ((HB.out.cell (World.block_lt_of_cell? w _ hw104_2)).trans hw104_2)⟩ (fun hHeld => ?_)
   clear hK K
   refine norm_ (a' := ?_) ?_ ?_
   rotate_left
   ·show Act.put _ (some 13) _ = _
    simp only [Act.put, List.setIfInBounds_toArray, List.set_cons_zero, List.set_cons_succ, i64_w, i32_w]
    rfl
   refine pv_ 2 14 q29_14 (any_of HT_.out (by kernel_rfl)) ?_
   refine pv_ 3 15 q29_13 (any_of HT_.out (by kernel_rfl)) ?_
   refine pv_ 4 16 q29_12 (any_of HT_.out (by kernel_rfl)) ?_
   refine pv_ 5 17 q29_11 (any_of HT_.out (by kernel_rfl)) ?_
   refine pv_ 6 18 q29_10 (any_of HT_.out (by kernel_rfl)) ?_
   refine pv_ 7 19 q29_9 (any_of HT_.out (by kernel_rfl)) ?_
   refine pv_ 8 20 q29_8 (any_of HT_.out (by kernel_rfl)) ?_
   refine pv_ 9 21 q29_7 (any_of HT_.out (by kernel_rfl)) ?_
   refine pv_ 10 22 q29_6 (any_of HT_.out (by kernel_rfl)) ?_
   refine take_ (i := 11) (N := some 23) (v := ?_) (a' := ?_) q29_5 rfl rfl (take_ofW HT_.out HW_.out (by kernel_rfl)) (fun _ _ _ h => h) (Or.inl ⟨by rfl, ?_⟩) hHeld ?_ ?_
   rotate_left
   ·rintro w' ⟨s0, s1, s2, s3, s4, s5⟩
    go_simp
    with_reducible rfl
   rotate_left
   ·simp only [Act.put, List.setIfInBounds_toArray, List.set_cons_zero, List.set_cons_succ, i64_w, i32_w]
    rfl
   refine take_ (i := 12) (N := some 24) (v := ?_) (a' := ?_) q29_4 rfl rfl (take_ofW HT_.out HW_.out (by kernel_rfl)) (fun _ _ _ h => h) (Or.inl ⟨by rfl, ?_⟩) hHeld ?_ ?_
   rotate_left
   ·rintro w' ⟨s0, s1, s2, s3, s4, s5⟩
    go_simp
    with_reducible rfl
   rotate_left
   ·simp only [Act.put, List.setIfInBounds_toArray, List.set_cons_zero, List.set_cons_succ, i64_w, i32_w]
    rfl
   refine one_ (i := 13) (N := some 25) q29_3 rfl rfl (one_of HT_.out (by kernel_rfl)) (by decide) (fun K hK => ?_)
   refine goes_ Try.func45 (by kernel_rfl) rfl #[.agg #[.int .i64 ((rd_T27 l0 (ji8)).f0), .int .i64 ((rd_T27 l0 (ji8)).f1), .slice A104_2 ((rd_T27 l0 (ji8)).f2).length c104_2], .agg #[.int .i64 ((rd_T27 l0 x7_1).f0), .int .i64 ((rd_T27 l0 x7_1).f1), .slice A101_2 ((rd_T27 l0 x7_1).f2).length c101_2]] (by rfl) rfl rfl (by (try simp only [List.map_toArray, List.map_cons, List.map_nil]);first | done | (simp only [hji8];rfl) | rfl | (simp only [List.length_drop, List.length_take];rfl)) ?_
   with_reducible refine (impl_OccLess.calls k1 ((rd_T27 l0 (ji8)).f0) ((rd_T27 l0 (ji8)).f1) _ _ ((rd_T27 l0 (ji8)).f2) ((rd_T27 l0 x7_1).f0) ((rd_T27 l0 x7_1).f1) _ _ ((rd_T27 l0 x7_1).f2) true _ ?side1 ?side2 ?side3 ?side4 A11.out).mono ?_
   (case side1 => repeat (first | exact (Kd.C_below HR104_2.out HB.out) | (with_reducible refine Kd.C_alloc ?_ _) | (with_reducible refine Kd.C_drewN ?_ _) | (with_reducible refine Kd.C_drew ?_)))
   (case side2 => exact HC104_2.out)
   (case side3 => repeat (first | exact (Kd.C_below HR101_2.out HB.out) | (with_reducible refine Kd.C_alloc ?_ _) | (with_reducible refine Kd.C_drewN ?_ _) | (with_reducible refine Kd.C_drew ?_)))
   (case side4 => exact HC101_2.out)
   rintro e w18 ⟨rfl, hb⟩
   refine ⟨_, rfl, ?_⟩
   replace BK102 := m0_ (blk_below BK102.out hb)
   replace HB := m0_ (below_step (by exact HB.out) hb)
   (try clear hb)
   (try clear hb2)
   (try clear hk)
   (try clear hi)
   refine hK.out _ _ ⟨(blk_cell BK102.out 0).trans rfl, (blk_cell BK102.out 1).trans rfl, (blk_cell BK102.out 2).trans rfl, ((HB.out.cell (World.block_lt_of_cell? w _ hw104_0)).trans hw104_0), ((HB.out.cell (World.block_lt_of_cell? w _ hw104_1)).trans hw104_1), ((HB.out.cell (World.block_lt_of_cell? w _ hw104_2)).trans hw104_2)⟩ (fun hHeld => ?_)
   clear hK K
   refine norm_ (a' := ?_) ?_ ?_
   rotate_left
   ·show Act.put _ (some 25) _ = _
    simp only [Act.put, List.setIfInBounds_toArray, List.set_cons_zero, List.set_cons_succ, i64_w, i32_w]
    rfl
   refine pv_ 14 26 q29_2 (any_of HT_.out (by kernel_rfl)) ?_
   refine pv_ 15 27 q29_1 (any_of HT_.out (by kernel_rfl)) ?_
   refine pv_ 16 28 q29_0 (any_of HT_.out (by kernel_rfl)) ?_
   refine done_ (done_of HT_.out (by kernel_rfl)) ?_
   try go_wp2
   go_roundg k1
   case measure => have := HK1.out;omega
   case rel => exact ⟨(wrap64 (x7_1 + 1)), (by first | rfl | (simp;done) | (simp [*];done)), H', ⟨by have := HK1.out;omega⟩, ⟨by repeat (first | (with_reducible first | exact HB.out | apply below_alloc | apply pw_below_drewN | apply below_drew1 | refine below_set ?_ GE102.out) | exact HB.out)⟩⟩

def impl_Occ_clone.f (a0_0 : Int) (a0_1 : Int) (l0_2 : List Int) : Option (Int × Int × List Int) := if ([] : List Int).length + l0_2.length < 17592186044416 then (some (a0_0, a0_1, (([] : List Int) ++ l0_2))) else (none)
set_option maxHeartbeats 8000000 in
set_option maxRecDepth 100000 in
theorem impl_Occ_clone.calls (a0_0 : Int) (a0_1 : Int) (A0_2 : Option Addr) (c0_2 : Nat) (l0_2 : List Int) (r1 : Int) (r2 : Int) (r3 : List Int) (w : World) (hr0_2 : Kd.C (Kd.int .i64) w A0_2 l0_2.length l0_2) (hc0_2 : l0_2.length ≤ c0_2) (h : impl_Occ_clone.f a0_0 a0_1 l0_2 = some (r1, r2, r3)) :
  Calls Try.prog 104 #[.agg #[.int .i64 a0_0, .int .i64 a0_1, .slice A0_2 l0_2.length c0_2]] w fun e w' => ∃ v2_ : Value, e = .returned (.agg #[.int .i64 r1, .int .i64 r2, v2_]) ∧ Kd.R (Kd.int .i64) 3 w' w.heap.size (fun _ => True) v2_ r3 ∧ Below w.heap.size w w' := by
 have hu27 := Try.underlying27
 have HR0_2 := m0_ hr0_2
 have HC0_2 := m0_ hc0_2
 clear hr0_2 hc0_2
 have HB := m0_ (Below.refl w.heap.size w)
 have H : (if ([] : List Int).length + l0_2.length < 17592186044416 then (some (a0_0, a0_1, (([] : List Int) ++ l0_2))) else (none)) = some (r1, r2, r3) := h
 clear h
 by_cases c2 : ([] : List Int).length + l0_2.length < 17592186044416
 ·rw [if_pos c2] at H
  have LMc2 := m0_ c2
  clear c2
  obtain ⟨y103, hy103⟩ : ∃ y_ : List Int, y_ = (([] : List Int) ++ l0_2) := ⟨_, rfl⟩
  replace H : (some (a0_0, a0_1, y103)) = some (r1, r2, r3) := by first | (rw [hy103];with_reducible exact H) | (have H2_ := (Option.bind_some _ _).symm.trans H;rw [hy103];with_reducible exact H2_) | (have H2_ := (Option.bind_some _ _).symm.trans H;with_reducible exact H2_) | with_reducible exact H | (rw [hy103];exact H) | exact H
  have Ny103 := m0_ hy103
  clear hy103
  simp only [Option.some.injEq, Prod.mk.injEq] at H
  obtain ⟨rfl, rfl, rfl⟩ := H
  go_enter Try.func104, Try.ntmps104
  go_wp2_with (first | ((with_reducible refine gate_dst (N := 1) rfl ?_);refine box_event ?hg (N := 1) ?hd (cs := #[.int .i64 a0_0, .int .i64 a0_1, .slice A0_2 l0_2.length c0_2]) (t := 27) ?hr ?_;(case hd => rfl);(case hg => rfl);(case hr => first | (go_simp;done) | (go_simp;rfl));intro gb101 hg w3 hbox hb;have BK101 := m0_ (hbox);have GW101 := m0_ ((by rw [hg];exact (below_size (by exact HB.out)) : w.heap.size ≤ gb101));have GE101 := m0_ ((by rw [hg];exact (below_size (by exact HB.out)) : w.heap.size ≤ gb101));replace HB := m0_ (below_step (by exact HB.out) hb);clear hb hbox hg) | ((with_reducible refine gate_dst (N := 2) rfl ?_);refine box_event ?hg (N := 2) ?hd (cs := #[.int .i64 0, .int .i64 0, .slice none 0 0]) (t := 27) ?hr ?_;(case hd => rfl);(case hg => rfl);(case hr => first | (go_simp;done) | (go_simp;rfl));intro gb102 hg w4 hbox hb;have BK102 := m0_ (hbox);have GW102 := m0_ ((by rw [hg];exact (below_size (by exact HB.out)) : w.heap.size ≤ gb102));have GE102 := m0_ ((by rw [hg];exact (below_size (by exact HB.out)) : w.heap.size ≤ gb102));replace HB := m0_ (below_step (by exact HB.out) hb);have NB101_102 := m0_ ((by rw [hg];exact Nat.ne_of_lt (blk_lt BK101.out) : gb101 ≠ gb102));have NB102_101 := m0_ ((by rw [hg];exact Nat.ne_of_gt (blk_lt BK101.out) : gb102 ≠ gb101));replace BK101 := m0_ (blk_below BK101.out hb);clear hb hbox hg;have hnb5 := NB101_102.out;have hnc5 := NB102_101.out;obtain ⟨hcz6_0, hcz6_1, hcz6_2, hfz6_0, hfz6_1, hfz6_2⟩ := bx3 BK101.out) | ((with_reducible refine gate_builtin (b := .append) (xs := #[.const (.slice none 0 0), .tmp 4]) rfl ?_);at_builtin;refine Kd.R_append_rows (Kd.int .i64) (w0 := w) w.heap.size rfl (.const (.slice none 0 0)) (.tmp 4) 22 3 (.int .i64 0) 8 rfl Try.underlying22 info3 rfl (by decide) (by omega) (.slice none 0 0) ([] : List Int) l0_2 _ _ _ (fun _ => True) (fun _ => False) rfl rfl ?aO ?aR (fun _ _ h => h) (fun _ h => h.elim) ?aF ?aB ?aS ?aL ?_;(case aR => repeat (first | exact (Kd.C_below HR0_2.out HB.out) | (with_reducible refine Kd.C_alloc ?_ _) | (with_reducible refine Kd.C_drewN ?_ _) | (with_reducible refine Kd.C_drew ?_)));(case aB => exact (by exact HB.out));(case aF => exact (fun _ _ => trivial));(case aO => exact ((Kd.R_nil _ _ _ _ (fun _ => True))));(case aS => exact (below_size (by exact HB.out)));(case aL => have := LMc2.out;omega);intro v104 w7 ho hb hg hat;rw [← Ny103.out] at ho;replace BK101 := m0_ (blk_grown BK101.out hg (by simp [Value.ownBlock]));replace BK102 := m0_ (blk_grown BK102.out hg (by simp [Value.ownBlock]));replace HB := m0_ (hb);have HO105 := m0_ (ho);clear ho hb hg hat;obtain ⟨Ao8, co8, eo8⟩ := Kd.R_slice HO105.out;subst eo8;obtain ⟨hcz9_0, hcz9_1, hcz9_2, hfz9_0, hfz9_1, hfz9_2⟩ := bx3 BK101.out;obtain ⟨hcz10_0, hcz10_1, hcz10_2, hfz10_0, hfz10_1, hfz10_2⟩ := bx3 BK102.out))
  refine bodyPost_ret (results_cell_row rfl _ _ gb102 27 #[.int .i64 a0_0, .int .i64 a0_1, .slice Ao8 y103.length co8] (0, 0) _ rfl (by (with_reducible repeat (first | refine blk_drewN ?_ _ | refine blk_drew ?_ | refine blk_alloc ?_ _));refine blk_put (cs := #[.int .i64 a0_0, .int .i64 a0_1, .slice none 0 0]) ?_ 2 _ rfl;(with_reducible repeat (first | refine blk_drewN ?_ _ | refine blk_drew ?_ | refine blk_alloc ?_ _));refine blk_put (cs := #[.int .i64 a0_0, .int .i64 0, .slice none 0 0]) ?_ 1 _ rfl;(with_reducible repeat (first | refine blk_drewN ?_ _ | refine blk_drew ?_ | refine blk_alloc ?_ _));refine blk_put (cs := #[.int .i64 0, .int .i64 0, .slice none 0 0]) ?_ 0 _ rfl;(with_reducible repeat (first | refine blk_drewN ?_ _ | refine blk_drew ?_ | refine blk_alloc ?_ _));refine blk_far ?_ NB102_101.out _;(with_reducible repeat (first | refine blk_drewN ?_ _ | refine blk_drew ?_ | refine blk_alloc ?_ _));exact BK102.out) Try.underlying27 rfl (by kernel_rfl)) rfl ?_
  exact ⟨_, by first | rfl | (simp [errW_none, errW_some] <;> rfl) | (simp [*, errW_none, errW_some] <;> rfl), by (with_reducible repeat (first | apply Kd.R_alloc | apply Kd.R_drewN | apply Kd.R_drew));exact Kd.R_mono (Kd.R_far (p := ⟨gb102, 2, none⟩) (Kd.R_far (p := ⟨gb102, 1, none⟩) (Kd.R_far (p := ⟨gb102, 0, none⟩) (Kd.R_far (p := ⟨gb101, 2, none⟩) (Kd.R_types (Kd.R_types HO105.out BK101.out (by decide)) BK102.out (by decide)) (fun _ hk => hk.1.2) (.slice Ao8 y103.length co8)) (fun _ hk => hk.2) (.int .i64 a0_0)) (fun _ hk => hk.2) (.int .i64 a0_1)) (fun _ hk => hk.2) (.slice Ao8 y103.length co8)) (fun _ hk => trivial), by repeat (first | (with_reducible first | exact HB.out | apply below_alloc | apply pw_below_drewN | apply below_drew1 | refine below_set ?_ GE101.out | refine below_set ?_ GE102.out) | exact HB.out)⟩
 ·rw [if_neg c2] at H
  exact absurd H (by simp)

def impl_cloneOccs.l0 : Nat → List (S27) → List (S27) → Int → Int → Option ((List (S27)))
 | 0, _, _, _, _ => none
 | k + 1, x3, x6, x7, x8 => if x8 < x7 then (if 0 ≤ x8 then (if x8 < (x6.length : Int) then ((impl_Occ_clone.f ((rd_T27 x6 x8).f0) ((rd_T27 x6 x8).f1) ((rd_T27 x6 x8).f2)).bind fun bt103 => (if x3.length < 3518437208883 then (impl_cloneOccs.l0 k (x3 ++ [(⟨bt103.1, bt103.2.1, bt103.2.2⟩ : S27)]) x6 x7 (wrap64 (x8 + 1))) else (none))) else (none)) else (none)) else (some x3)
def impl_cloneOccs.f (k : Nat) (l0 : List (S27)) : Option ((List (S27))) := impl_cloneOccs.l0 k ([] : List (S27)) l0 (l0.length : Int) 0
set_option maxHeartbeats 8000000 in
set_option maxRecDepth 100000 in
theorem impl_cloneOccs.calls (k : Nat) (A0 : Option Addr) (c0 : Nat) (l0 : List (S27)) (r : List (S27)) (w : World) (hr0 : Kd.C k27 w A0 l0.length l0) (hc0 : l0.length ≤ c0) (h : impl_cloneOccs.f k l0 = some r) :
  Calls Try.prog 84 #[.slice A0 l0.length c0] w fun e w' => ∃ v0_ : Value, e = .returned (v0_) ∧ Kd.S k27 27 w' w.heap.size (fun _ => True) v0_ r ∧ Below w.heap.size w w' := by
 have hu27 := Try.underlying27
 have HR0 := m0_ hr0
 have HC0 := m0_ hc0
 clear hr0 hc0
 have HB := m0_ (Below.refl w.heap.size w)
 have H : (impl_cloneOccs.l0 k ([] : List (S27)) l0 (l0.length : Int) 0) = some r := h
 clear h
 have H' := m0_ H
 clear H
 go_enter Try.func84, Try.ntmps84
 go_wp2
 go_loopg [3, 8] k (fun kq v3 v8 w' => ∃ (x3_1 : List (S27)) (x8_1 : Int), v8 = .int .i64 x8_1 ∧ Aside0 (impl_cloneOccs.l0 kq x3_1 l0 (l0.length : Int) x8_1 = some r) ∧ Aside0 (kq ≤ k) ∧ Aside0 (Kd.S k27 27 w' w.heap.size (fun _ => True) v3 x3_1) ∧ Aside0 (Below w.heap.size w w'))
 case atStart => exact ⟨(([] : List (S27))), (0), (by first | rfl | (simp;done) | (simp [*];done)), H', ⟨Nat.le_refl _⟩, ⟨by first | exact Kd.S_nil _ _ _ _ _ | exact Kd.N_nil _ _ _ _ _ | exact Kd.V_nil _ _ _ _ _ | exact Kd.Q_nil _ _ _ _ _ | exact Kd.R_nil _ _ _ _ _⟩, ⟨by repeat (first | (with_reducible first | exact HB.out | apply below_alloc | apply pw_below_drewN | apply below_drew1) | exact HB.out)⟩⟩
 case round =>
  clear H'
  obtain ⟨x3_1, x8_1, rfl, HA, HK1, HO_3, HB⟩ := hrel
  cases gk with
  | zero => exact absurd HA.out (by simp [impl_cloneOccs.l0])
  | succ k1 =>
   have H := HA.out
   clear HA
   simp only [impl_cloneOccs.l0] at H
   by_cases c2 : x8_1 < (l0.length : Int)
   rotate_left
   ·rw [if_neg c2] at H
    have c2b0 : decide (x8_1 < (l0.length : Int)) = false := decide_eq_false c2
    clear c2
    obtain rfl := Option.some.inj H
    go_wp2
    go_ret
    exact ⟨_, by first | rfl | (simp [errW_none, errW_some] <;> rfl) | (simp [*, errW_none, errW_some] <;> rfl), by (with_reducible repeat (first | apply Kd.S_alloc | apply Kd.S_drewN | apply Kd.S_drew));exact HO_3.out, by repeat (first | (with_reducible first | exact HB.out | apply below_alloc | apply pw_below_drewN | apply below_drew1) | exact HB.out)⟩
   rw [if_pos c2] at H
   have c2b0 : decide (x8_1 < (l0.length : Int)) = true := decide_eq_true c2
   clear c2
   by_cases c3 : 0 ≤ x8_1
   rotate_left
   ·rw [if_neg c3] at H
    exact absurd H (by simp)
   rw [if_pos c3] at H
   have c3b0 : decide (0 ≤ x8_1) = true := decide_eq_true c3
   clear c3
   by_cases c4 : x8_1 < (l0.length : Int)
   rotate_left
   ·rw [if_neg c4] at H
    exact absurd H (by simp)
   rw [if_pos c4] at H
   have c4b0 : decide (x8_1 < (l0.length : Int)) = true := decide_eq_true c4
   clear c4
   replace H := Option.bind_eq_some_iff.mp H
   obtain ⟨⟨t103, t104, t105⟩, A50, H⟩ := H
   replace H : (if x3_1.length < 3518437208883 then (impl_cloneOccs.l0 k1 (x3_1 ++ [(⟨t103, t104, t105⟩ : S27)]) l0 (l0.length : Int) (wrap64 (x8_1 + 1))) else (none)) = some r := H
   have A5 := m0_ A50
   clear A50
   by_cases c6 : x3_1.length < 3518437208883
   rotate_left
   ·rw [if_neg c6] at H
    exact absurd H (by simp)
   rw [if_pos c6] at H
   have LMc6 := m0_ c6
   clear c6
   obtain ⟨y108, hy108⟩ : ∃ y_ : List (S27), y_ = (x3_1 ++ [(⟨t103, t104, t105⟩ : S27)]) := ⟨_, rfl⟩
   replace H : (impl_cloneOccs.l0 k1 y108 l0 (l0.length : Int) (wrap64 (x8_1 + 1))) = some r := by first | (rw [hy108];with_reducible exact H) | (have H2_ := (Option.bind_some _ _).symm.trans H;rw [hy108];with_reducible exact H2_) | (have H2_ := (Option.bind_some _ _).symm.trans H;with_reducible exact H2_) | with_reducible exact H | (rw [hy108];exact H) | exact H
   have Ny108 := m0_ hy108
   clear hy108
   have H' := m0_ H
   clear H
   have p101 : 0 ≤ (x8_1 : Int) := of_decide_eq_true (by first | (with_reducible assumption) | assumption)
   have q101 : x8_1 < (l0.length : Int) := of_decide_eq_true (by first | (with_reducible assumption) | assumption)
   obtain ⟨ad101, A101_2, c101_2, e101, hx101_0, hx101_1, hx101_2, hl101_2, hi101_2⟩ := at_T27 HR0.out x8_1 p101 q101
   cases e101
   replace hx101_0 := (HB.out.cell (World.block_lt_of_cell? w _ hx101_0)).trans hx101_0
   replace hx101_1 := (HB.out.cell (World.block_lt_of_cell? w _ hx101_1)).trans hx101_1
   replace hx101_2 := (HB.out.cell (World.block_lt_of_cell? w _ hx101_2)).trans hx101_2
   have HR101_2 := m0_ hi101_2
   have HC101_2 := m0_ hl101_2
   clear hi101_2 hl101_2
   replace p101 := eq_true p101
   replace q101 := eq_true q101
   go_wp2_with (first | ((with_reducible refine gate_dst (N := 5) rfl ?_);refine box_event ?hg (N := 5) ?hd (cs := #[.int .i64 0, .int .i64 0, .slice none 0 0]) (t := 27) ?hr ?_;(case hd => rfl);(case hg => rfl);(case hr => first | (go_simp;done) | (go_simp;rfl));intro gb102 hg w7 hbox hb;replace HO_3 := m0_ (Kd.S_below (Kd.S_elderB (by exact HO_3.out) gb102 (Nat.le_of_eq hg.symm)) hb);have BK102 := m0_ (hbox);have GW102 := m0_ ((by rw [hg];exact (below_size (by repeat (first | (with_reducible first | exact HB.out | apply below_alloc | apply pw_below_drewN | apply below_drew1) | exact HB.out))) : w.heap.size ≤ gb102));have GE102 := m0_ ((by rw [hg];exact (below_size (by repeat (first | (with_reducible first | exact HB.out | apply below_alloc | apply pw_below_drewN | apply below_drew1) | exact HB.out))) : w.heap.size ≤ gb102));replace HB := m0_ (below_step (by repeat (first | (with_reducible first | exact HB.out | apply below_alloc | apply pw_below_drewN | apply below_drew1) | exact HB.out)) hb);clear hb hbox hg;obtain ⟨hcz8_0, hcz8_1, hcz8_2, hfz8_0, hfz8_1, hfz8_2⟩ := bx3 BK102.out) | ((with_reducible refine gate_callee (f := 104) rfl ?_);refine goesL_ (some 14) rfl rfl Try.func104 (by kernel_rfl) rfl #[.agg #[.int .i64 ((rd_T27 l0 x8_1).f0), .int .i64 ((rd_T27 l0 x8_1).f1), .slice A101_2 ((rd_T27 l0 x8_1).f2).length c101_2]] rfl (by (try simp only [List.map_toArray, List.map_cons, List.map_nil]);first | done | rfl | (simp only [List.length_drop, List.length_take];rfl)) ?_;(with_reducible refine (impl_Occ_clone.calls ((rd_T27 l0 x8_1).f0) ((rd_T27 l0 x8_1).f1) _ _ ((rd_T27 l0 x8_1).f2) t103 t104 t105 _ ?side1 ?side2 A5.out).mono ?_);(case side1 => exact Kd.C_below HR101_2.out (by repeat (first | (with_reducible first | exact HB.out | apply below_alloc | apply pw_below_drewN | apply below_drew1 | refine below_set ?_ GE102.out) | exact HB.out)));(case side2 => exact HC101_2.out);rintro e w9 ⟨v106, rfl, ho0, hb⟩;refine ⟨_, rfl, ?_⟩;replace HO_3 := m0_ (Kd.S_elder' (by (with_reducible repeat (first | apply Kd.S_alloc | apply Kd.S_drewN | apply Kd.S_drew));exact (Kd.S_mono (Kd.S_far (p := ⟨gb102, 2, none⟩) (Kd.S_far (p := ⟨gb102, 1, none⟩) (Kd.S_far (p := ⟨gb102, 0, none⟩) (Kd.S_mono HO_3.out (fun k_ hk => (⟨hk, hk.2⟩ : _ ∧ k_ ≠ gb102))) (fun _ hk => hk.2) (.int .i64 ((rd_T27 l0 x8_1).f0))) (fun _ hk => hk.2) (.int .i64 ((rd_T27 l0 x8_1).f1))) (fun _ hk => hk.2) (.slice A101_2 ((rd_T27 l0 x8_1).f2).length c101_2)) (fun _ h_ => h_.1))) (Kd.R_base ho0) hb);have HO107 := m0_ (Kd.R_lower ho0 (below_size (by repeat (first | (with_reducible first | exact HB.out | apply below_alloc | apply pw_below_drewN | apply below_drew1 | refine below_set ?_ GE102.out) | exact HB.out))));replace BK102 := m0_ (blk_below (g := gb102) (o := .cells #[.int .i64 ((rd_T27 l0 x8_1).f0), .int .i64 ((rd_T27 l0 x8_1).f1), .slice A101_2 ((rd_T27 l0 x8_1).f2).length c101_2] 27 (0, 0)) (by (with_reducible repeat (first | refine blk_drewN ?_ _ | refine blk_drew ?_ | refine blk_alloc ?_ _));refine blk_put (cs := #[.int .i64 ((rd_T27 l0 x8_1).f0), .int .i64 ((rd_T27 l0 x8_1).f1), .slice none 0 0]) ?_ 2 _ rfl;(with_reducible repeat (first | refine blk_drewN ?_ _ | refine blk_drew ?_ | refine blk_alloc ?_ _));refine blk_put (cs := #[.int .i64 ((rd_T27 l0 x8_1).f0), .int .i64 0, .slice none 0 0]) ?_ 1 _ rfl;(with_reducible repeat (first | refine blk_drewN ?_ _ | refine blk_drew ?_ | refine blk_alloc ?_ _));refine blk_put (cs := #[.int .i64 0, .int .i64 0, .slice none 0 0]) ?_ 0 _ rfl;(with_reducible repeat (first | refine blk_drewN ?_ _ | refine blk_drew ?_ | refine blk_alloc ?_ _));exact BK102.out) hb);replace HB := m0_ (below_step (by repeat (first | (with_reducible first | exact HB.out | apply below_alloc | apply pw_below_drewN | apply below_drew1 | refine below_set ?_ GE102.out) | exact HB.out)) hb);(try clear hb);(try clear hb2);(try clear hk);(try clear hi);(try clear ho0);obtain ⟨Ao11, co11, eo11⟩ := Kd.R_slice HO107.out;subst eo11) | ((with_reducible refine gate_builtin (b := .append) (xs := #[.tmp 12, .tmp 15]) rfl ?_);at_builtin;refine Kd.S_append k27 (w0 := w) w.heap.size rfl (.tmp 12) (.tmp 15) 34 27 (.agg #[(.int .i64 0), (.int .i64 0), (.slice none 0 0)]) 40 rfl Try.underlying34 info27 rfl (by decide) (by omega) u3 x3_1 (⟨t103, t104, t105⟩ : S27) [.int .i64 t103, .int .i64 t104, .slice Ao11 t105.length co11] (fun k_ => k_ ≠ gb102) (fun k_ => some k_ = (.slice Ao11 t105.length co11 : Value).ownBlock) rfl rfl ?aP (fun k_ hk_ => ((Kd.R_mono (ok' := fun k_ => ((fun k_ => k_ ≠ gb102)) k_ ∧ some k_ ≠ (u3 : Value).ownBlock) (Kd.R_types (Kd.R_apart' (HO107.out) (Kd.S_typed HO_3.out) (by decide)) BK102.out (by decide)) (fun k_ hk => ⟨hk.2, hk.1.2⟩))).1 k_ hk_.symm) ?aF ?aO ?aB ?aS ?aL ?_;(case aP => exact k27_mkM _ _ _ (⟨t103, t104, t105⟩ : S27) (Kd.R_mono (Kd.R_tight rfl (Kd.R_mono (ok' := fun k_ => ((fun k_ => k_ ≠ gb102)) k_ ∧ some k_ ≠ (u3 : Value).ownBlock) (Kd.R_types (Kd.R_apart' (HO107.out) (Kd.S_typed HO_3.out) (by decide)) BK102.out (by decide)) (fun k_ hk => ⟨hk.2, hk.1.2⟩))) (fun _ h_ => h_)));(case aB => exact (by repeat (first | (with_reducible first | exact HB.out | apply below_alloc | apply pw_below_drewN | apply below_drew1 | refine below_set ?_ GE102.out) | exact HB.out)));(case aF => exact (fun k_ hk => Kd.freshB BK102.out k_ hk));(case aO => exact (by (with_reducible repeat (first | apply Kd.S_alloc | apply Kd.S_drewN | apply Kd.S_drew));exact Kd.S_mono HO_3.out (fun k_ hk => ⟨hk.1.2, fun e_ => hk.2 e_⟩)));(case aS => exact (below_size (by repeat (first | (with_reducible first | exact HB.out | apply below_alloc | apply pw_below_drewN | apply below_drew1 | refine below_set ?_ GE102.out) | exact HB.out))));(case aL => have := LMc6.out;omega);intro v109 w10 ho hb hg hat;rw [← Ny108.out] at ho;have n0_ := m0_ (blk_grown BK102.out hg (Kd.S_away HO_3.out (fun _ hk => hk.1.2)));have n1_ := m0_ (hb);have n2_ := m0_ (ho);clear BK102;clear HB;clear HO_3;clear HO107;have BK102 := n0_;have HB := n1_;have HO110 := n2_;clear n0_ n1_ n2_;clear ho hb hg hat))
   go_roundg k1
   case measure => have := HK1.out;omega
   case rel => exact ⟨(y108), (wrap64 (x8_1 + 1)), (by first | rfl | (simp;done) | (simp [*];done)), H', ⟨by have := HK1.out;omega⟩, ⟨by (with_reducible repeat (first | apply Kd.S_alloc | apply Kd.S_drewN | apply Kd.S_drew));exact Kd.S_mono HO110.out (fun _ hk => trivial)⟩, ⟨by repeat (first | (with_reducible first | exact HB.out | apply below_alloc | apply pw_below_drewN | apply below_drew1 | refine below_set ?_ GE102.out) | exact HB.out)⟩⟩

end Go.Proofs.Ytiplpckgmikmeaa.M
namespace Go.Proofs.Ytiplpckgmikmeaa.M
set_option linter.unusedVariables false
set_option linter.unusedSimpArgs false
open Go Go.RowKit Go.Proofs.YtiplpckgmikmeaaW.PrintWords Go.Proofs.YtiplpckgmikmeaaW.PrintLast Go.Proofs.YtiplpckgmikmeaaW.PrintMore

theorem run_copy_rows {P : Program} (w : World) (dT sT ty elem : TypeId) (g o dLen dCap : Nat) (a : Addr) (sLen sCap size : Nat) (cur : Array Value) (t : TypeId) (cs : List Value)
    (hu : P.underlying dT = some (.slice elem)) (hs : (P.info? elem).map (·.size) = some size)
    (hg : w.heap[g]? = some (.cells cur t (0, 0))) (hn : cs.length = Nat.min sLen dLen * size)
    (hsrc : ∀ j v, cs[j]? = some v → w.cell? (a.add j) = some v) (hfit : o + cs.length ≤ cur.size) (h1 : ∀ v ∈ cs, v.oneCell' = true) :
    (Builtin.copy_ #[dT, sT] ty #[.slice (some ⟨g, o, none⟩) dLen dCap, .slice (some a) sLen sCap]).run P w =
      .ok (goInt (Nat.min sLen dLen)) (w.setRow g (cur.toList.take o ++ cs ++ cur.toList.drop (o + cs.length)).toArray) := by
  have hl := run_loadCells_list (P := P) w a cs hsrc
  have hst := run_storeCells_at P g o t cs 0 cur w hg (by simpa using hfit) h1
  cases hq : P.info? elem with
  | none => simp [hq] at hs
  | some i =>
    have hi : i.size = size := by simpa [hq] using hs
    have hl' : (loadCells a (Nat.min sLen dLen * size)).run P w = .ok cs.toArray w := by rw [← hn]; exact hl
    have hl'' : (loadCells a (min sLen dLen * size)).run P w = .ok cs.toArray w := hl'
    simp [Builtin.copy_, run_underlying hu, Builtin.lenOf, Builtin.firstCells, sizeOf, typeInfo, hq, hi, hl', hl'', hst]
theorem copy_rows {P : Program} {w : World} {ops : Array Oper} {rest : List Oper} {o : Oper} {a : Act} {Q : Exit → Act → World → Prop} (hgd : o.guard = none) (d s : Operand) (dT sT : TypeId)
    (ho : o.op = .call { callee := .builtin .copy, args := #[d, s], argTypes := #[dT, sT] }) (elem : TypeId) (size : Nat) (hu : P.underlying dT = some (.slice elem)) (hsz : (P.info? elem).map (·.size) = some size)
    (g off dLen dCap : Nat) (ad : Addr) (sLen sCap : Nat) (hd : a.eval d = .slice (some ⟨g, off, none⟩) dLen dCap) (hs : a.eval s = .slice (some ad) sLen sCap)
    (cur : List Value) (t : TypeId) (hg : w.heap[g]? = some (.cells cur.toArray t (0, 0))) (cs : List Value) (hn : cs.length = Nat.min sLen dLen * size)
    (hsrc : ∀ j v, cs[j]? = some v → w.cell? (ad.add j) = some v) (hfit : off + cs.length ≤ cur.length) (h1 : ∀ v ∈ cs, v.oneCell' = true) (B : Nat) (w0 : World) (hb : Below B w0 w) (hBg : B ≤ g)
    (h : ∀ w', w'.heap[g]? = some (.cells (splice cur off cs).toArray t (0, 0)) → (∀ k, k ≠ g → w'.heap[k]? = w.heap[k]?) → Below B w0 w' → wpList P ops Q rest (a.put o.dst (goInt (Nat.min sLen dLen))) w') : wpList P ops Q (o :: rest) a w := by
  refine wpList_plain hgd fun K hK => ?_
  have hrun := run_copy_rows (P := P) w dT sT o.type elem g off dLen dCap ad sLen sCap size cur.toArray t cs hu hsz hg hn hsrc (by simpa using hfit) h1
  unfold Oper.wp
  simp [execOp, ho, resolve, invoke, builtin, hd, hs, hrun, Result.andThen]
  exact hK _ _ (h _ (show _ = _ by simpa [splice] using setRow_heap w g _ _ t _ hg) (fun k hk => setRow_other w g k _ hk) (below_setRow hb hBg _))
theorem step_copy_rows {P : Program} {ops : Array Oper} {o : Oper} {a : Act} {w : World} {K : Act → World → Prop} {Q : Exit → Act → World → Prop} {E : Prop} (hgd : o.guard = none) (d s : Operand) (dT sT : TypeId)
    (ho : o.op = .call { callee := .builtin .copy, args := #[d, s], argTypes := #[dT, sT] }) (elem : TypeId) (size : Nat) (hu : P.underlying dT = some (.slice elem)) (hsz : (P.info? elem).map (·.size) = some size)
    (g off dLen dCap : Nat) (ad : Addr) (sLen sCap : Nat) (hd : a.eval d = .slice (some ⟨g, off, none⟩) dLen dCap) (hs : a.eval s = .slice (some ad) sLen sCap)
    (cur : List Value) (t : TypeId) (hg : w.heap[g]? = some (.cells cur.toArray t (0, 0))) (cs : List Value) (hn : cs.length = Nat.min sLen dLen * size)
    (hsrc : ∀ j v, cs[j]? = some v → w.cell? (ad.add j) = some v) (hfit : off + cs.length ≤ cur.length) (h1 : ∀ v ∈ cs, v.oneCell' = true) (B : Nat) (w0 : World) (hb : Below B w0 w) (hBg : B ≤ g)
    (h : ∀ w', w'.heap[g]? = some (.cells (splice cur off cs).toArray t (0, 0)) → (∀ k, k ≠ g → w'.heap[k]? = w.heap[k]?) → Below B w0 w' → K (a.put o.dst (goInt (Nat.min sLen dLen))) w') :
    if Region.wanted o (yielded ops a.tmps) = true then Oper.wp P o a w K Q else E := by
  rw [if_pos (by simp [Region.wanted, hgd])]
  have hrun := run_copy_rows (P := P) w dT sT o.type elem g off dLen dCap ad sLen sCap size cur.toArray t cs hu hsz hg hn hsrc (by simpa using hfit) h1
  unfold Oper.wp
  simp [execOp, ho, resolve, invoke, builtin, hd, hs, hrun, Result.andThen]
  exact h _ (show _ = _ by simpa [splice] using setRow_heap w g _ _ t _ hg) (fun k hk => setRow_other w g k _ hk) (below_setRow hb hBg _)
theorem cut_room {P : Program} (t e : TypeId) (kh : IntKind) {i : TypeInfo} (ht : P.underlying t = some (.slice e)) (hi : P.info? e = some i) (A : Option Addr) (n c : Nat) (j : Int) (h0 : 0 ≤ j) (hm : j ≤ c) :
    ∀ W : World, (Instr.slice t (.slice A n c) none (some (.int kh j)) none).run P W = .ok (.slice A j.toNat c) W := by
  intro W
  have hel : P.elem t = e := by simp [Program.elem, ht]
  have hu : P.underlying t = some (.slice (P.elem t)) := by rw [hel]; exact ht
  have ha : (A.map fun x => x.add 0) = A := by cases A <;> simp [Addr.add]
  rw [run_slice_h W t A n c hu kh j h0 (by omega), hel]
  simp [sizeOf, typeInfo, hi, sliced, Result.andThen, ha]
theorem cell_of_row {w : World} {g o : Nat} {cur : List Value} {t : TypeId} (hg : w.heap[g]? = some (.cells cur.toArray t (0, 0))) {j : Nat} {v : Value} (h : cur[o + j]? = some v) : w.cell? ((⟨g, o, none⟩ : Addr).add j) = some v := by
  have e : (⟨g, o, none⟩ : Addr).add j = ⟨g, o + j, none⟩ := by simp [Addr.add]
  rw [e]
  simp [World.cell?, hg, h]
set_option maxHeartbeats 4000000 in
set_option maxRecDepth 100000 in
theorem Clone_walk (A : Option Addr) (n c : Nat) (xs : List Value) (w : World) (hl : xs.length = n * 3) (hn : n < 1099511627776) (hc : ∀ ad, A = some ad → ∀ j u, xs[j]? = some u → w.cell? (ad.add j) = some u) (h0 : A = none → n = 0) (h1 : ∀ u ∈ xs, u.oneCell' = true) :
    Calls Try.prog 107 #[.slice A n c] w fun e w' => ∃ v', e = .returned v' ∧ w'.ownsRow w.heap.size 27 3 v' n xs ∧ Below w.heap.size w w' := by
  have hu := Try.underlying34
  obtain ⟨i0, hi0, hz0, hsz, hby⟩ := info_parts info27
  cases A with
  | none =>
    have q22 : ∀ (w : World) (a : Option Addr) (n c n' c' : Nat), (binOp .eql 34 (.slice a n c) (.slice none n' c')).run Try.prog w = .ok (.bool a.isNone) w := fun w a n c n' c' => Lib.run_eql_slice_nil w _ _ a n c n' c' hu
    obtain rfl := h0 rfl
    have hx : xs = [] := List.eq_nil_of_length_eq_zero (by omega)
    subst hx
    clear hc h0 h1 hl
    go_enter Try.func107, Try.ntmps107
    go_wp2
    go_ret
    exact ⟨_, rfl, ⟨rfl, .inl ⟨rfl, rfl⟩⟩, Below.refl _ _⟩
  | some ad =>
    have q22 : ∀ (w : World) (a : Option Addr) (n c n' c' : Nat), (binOp .eql 34 (.slice a n c) (.slice none n' c')).run Try.prog w = .ok (.bool a.isNone) w := fun w a n c n' c' => Lib.run_eql_slice_nil w _ _ a n c n' c' hu
    have HC := m0_ (hc ad rfl)
    have H1 := m0_ h1
    have HL := m0_ hl
    have HN := m0_ hn
    have HI := m0_ hi0
    have HZ := m0_ hz0
    have HSZ := m0_ hsz
    have HBY := m0_ hby
    clear hc h1 hl h0 hi0 hz0 hsz hby hn
    go_enter Try.func107, Try.ntmps107
    go_wp2_with (at_builtin; refine wpList_append_own _ rfl _ _ 34 rfl w.heap.size 27 i0 (.agg #[(.int .i64 0), (.int .i64 0), (.slice none 0 0)]) 3 40 hu HI.out HZ.out HSZ.out HBY.out rfl (by decide) _ _ _ rfl (World.ownsRow_made w #[] 0 (Nat.le_refl _) (Nat.zero_le _) (by simp)) ad n c xs rfl ?qc1 ?qc2 ?qc3 ?qc4 ?qc5 ?qc6 ?_)
    case qc1 => exact HL.out
    case qc2 => exact fun j u hj => Lib.cell?_alloc_some _ (HC.out j u hj)
    case qc3 => exact H1.out
    case qc4 => have := HN.out; unfold maxLen; omega
    case qc5 => have := HN.out; omega
    case qc6 => simp
    intro v' w1 hown hgrow _
    go_wp2
    go_ret
    exact ⟨v', rfl, by simpa using hown, ((Below.refl _ w).alloc (Nat.le_refl _) _).grown hgrow (by simp) (by intro k hk; simp [Value.ownBlock] at hk; omega)⟩
theorem splice_in (cur vs : List Value) (i n : Nat) (hv : vs.length = 3) (hi : i ≤ n) (hl : (n + 1) * 3 ≤ cur.length) :
    (splice (splice cur ((i + 1) * 3) ((cur.take (n * 3)).drop (i * 3))) (i * 3) vs).take ((n + 1) * 3) = (cur.take (n * 3)).take (i * 3) ++ vs ++ (cur.take (n * 3)).drop (i * 3) := by
  have l1 : ((cur.take (n * 3)).drop (i * 3)).length = n * 3 - i * 3 := by rw [List.length_drop, List.length_take]; omega
  apply List.ext_getElem?
  intro j
  unfold splice
  have l2 : (cur.take ((i + 1) * 3)).length = (i + 1) * 3 := by rw [List.length_take]; omega
  have l3 : ((List.take (i * 3) (List.take ((i + 1) * 3) cur ++ (List.drop (i * 3) (List.take (n * 3) cur) ++ List.drop ((i + 1) * 3 + (List.drop (i * 3) (List.take (n * 3) cur)).length) cur)))).length = i * 3 := by
    rw [List.length_take, List.length_append, l2]; omega
  have l4 : (List.take (i * 3) (List.take (n * 3) cur)).length = i * 3 := by rw [List.length_take, List.length_take]; omega
  by_cases hj : j < (n + 1) * 3
  · rw [List.getElem?_take_of_lt hj]
    by_cases h1 : j < i * 3
    · rw [List.getElem?_append_left (by rw [l3]; exact h1), List.getElem?_take_of_lt h1, List.getElem?_append_left (by rw [l2]; omega), List.getElem?_take_of_lt (by omega)]
      rw [List.append_assoc, List.getElem?_append_left (by rw [l4]; exact h1), List.getElem?_take_of_lt h1, List.getElem?_take_of_lt (by omega)]
    rw [List.getElem?_append_right (by rw [l3]; omega), l3, List.append_assoc (List.take (i * 3) (List.take (n * 3) cur)), List.getElem?_append_right (l₁ := List.take (i * 3) (List.take (n * 3) cur)) (by rw [l4]; omega), l4]
    by_cases h2 : j - i * 3 < vs.length
    · rw [List.getElem?_append_left h2, List.getElem?_append_left h2]
    · rw [List.getElem?_append_right (by omega), List.getElem?_append_right (by omega), List.getElem?_drop, List.getElem?_append_right (by rw [l2]; omega), l2, List.getElem?_append_left (by rw [l1]; omega)]
      congr 1
      omega
  · rw [List.getElem?_eq_none (by rw [List.length_take]; omega), List.getElem?_eq_none (by rw [List.length_append, List.length_append, l4, l1]; omega)]
set_option maxHeartbeats 4000000 in
set_option maxRecDepth 100000 in
theorem Insert_room (g n c i vb : Nat) (cur vs : List Value) (base : Nat) (w0 w : World) (hB : Below base w0 w) (hbg : base ≤ g) (hg : w.heap[g]? = some (.cells cur.toArray 27 (0, 0))) (hcl : cur.length = c * 3) (hi : i < n) (hroom : n + 1 ≤ c) (hc : c ≤ maxLen)
    (hv : w.heap[vb]? = some (.cells vs.toArray 27 (0, 0))) (hvl : vs.length = 3) (hne : vb ≠ g) (h1c : ∀ u ∈ cur.take (n * 3), u.oneCell' = true) (h1v : ∀ u ∈ vs, u.oneCell' = true) :
    Calls Try.prog 106 #[.slice (some ⟨g, 0, none⟩) n c, .int .i64 i, .slice (some ⟨vb, 0, none⟩) 1 1] w fun e w' => e = .returned (.slice (some ⟨g, 0, none⟩) (n + 1) c) ∧ w'.heap[g]? = some (.cells (splice (splice cur ((i + 1) * 3) ((cur.take (n * 3)).drop (i * 3))) (i * 3) vs).toArray 27 (0, 0)) ∧ Below base w0 w' := by
  have hu := Try.underlying34
  obtain ⟨i0, hi0, hz0, hsz, hby⟩ := info_parts info27
  have hc' : c ≤ 9223372036854775807 := by unfold maxLen at hc; omega
  have hsz3 : (Try.prog.info? 27).map (·.size) = some 3 := by rw [hi0]; simp [hsz]
  have hsz' : ∀ w, (Go.sizeOf 27).run Try.prog w = .ok 3 w := fun w => by simp [sizeOf, typeInfo, hi0, hsz]
  have hov : ∀ lb cb, (callFunc 113 #[.slice (some ⟨vb, 0, none⟩) 1 1, .slice (some ⟨g, (i + 1) * 3, none⟩) lb cb]).run Try.prog w = .ok (.value (.bool false)) w := fun lb cb => by
    rw [run_callFunc_extern Try.func113 (by kernel_rfl) (by kernel_rfl) (by kernel_rfl) (e := Extern.SlicesOverlaps.overlaps #[34, 34] #[4]) (by kernel_rfl),
      Lib.run_overlaps_apart w 34 4 27 hu 3 hsz' ⟨vb, 0, none⟩ ⟨g, (i + 1) * 3, none⟩ 1 1 lb cb hne 27 27 vs.length cur.length (by simp [World.shape?, hv]) (by simp [World.shape?, hg]) (by omega) (by simp [World.frozen?, hv]) (by simp [World.frozen?, hv])]
    rfl
  have hw1 : IntKind.i64.wrap ((i : Int) + 1) = (i : Int) + 1 := by rw [IntKind.wrap_i64]; omega
  have hw2 : IntKind.i64.wrap ((n : Int) + 1) = (n : Int) + 1 := by rw [IntKind.wrap_i64]; omega
  have hb1 : (0 : Int) ≤ (i : Int) + 1 := by omega
  have htn : ((i : Int) + 1).toNat = i + 1 := by omega
  have HV := m0_ hv
  have HG := m0_ hg
  have HB := m0_ hB
  have HBG := m0_ hbg
  have hcut1 := cut_from (P := Try.prog) 34 27 .i64 hu hi0 3 hsz (some ⟨g, 0, none⟩) n c (i : Int) (by omega) (by omega)
  have hcut2 := cut_room (P := Try.prog) 34 27 .i64 hu hi0 (some ⟨g, 0, none⟩) n c ((n : Int) + 1) (by omega) (by omega)
  have hcut3 := cut_from (P := Try.prog) 34 27 .i64 hu hi0 3 hsz (some ⟨g, 0, none⟩) (n + 1) c ((i : Int) + 1) (by omega) (by omega)
  have hcut4 := cut_from (P := Try.prog) 34 27 .i64 hu hi0 3 hsz (some ⟨g, 0, none⟩) (n + 1) c (i : Int) (by omega) (by omega)
  rw [htn, if_neg (by omega)] at hcut3
  rw [Int.toNat_natCast, if_neg (by omega)] at hcut1 hcut4
  rw [show ((n : Int) + 1).toNat = n + 1 by omega] at hcut2
  simp only [Option.map_some, Addr.add_lit, Nat.zero_add] at hcut1 hcut3 hcut4
  have hz1 : ¬ ((1 : Int) = 0) := by omega
  have hz2 : ¬ ((i : Int) = (n : Int)) := by omega
  have hz3 : ¬ ((c : Int) < (n : Int) + 1) := by omega
  clear hv hg hB hbg
  obtain ⟨o1, ho1⟩ : ∃ o1, o1 = i * 3 := ⟨_, rfl⟩
  obtain ⟨o2, ho2⟩ : ∃ o2, o2 = (i + 1) * 3 := ⟨_, rfl⟩
  rw [← ho1] at hcut1 hcut4 ⊢
  rw [← ho2] at hcut3 hov ⊢
  have HO1 := m0_ ho1
  have HO2 := m0_ ho2
  clear ho1 ho2
  go_enter Try.func106, Try.ntmps106
  go_upto_region 15 with (simp only [hov])
  have hcs : ((cur.take (n * 3)).drop o1).length = (n - i) * 3 := by rw [HO1.out, List.length_drop, List.length_take, hcl, Nat.sub_mul]; omega
  have HCS := m0_ hcs
  have HCL := m0_ hcl
  clear hcs hcl
  have mixed : Try.prog.follows .mixedOrders = true := by kernel_rfl
  go_region_law_o (refine step_copy_rows rfl _ _ 34 34 rfl 27 3 hu hsz3 g o2 (n + 1 - (i + 1)) (c - (i + 1)) ⟨g, o1, none⟩ (n + 1 - i) (c - i) (by simp [Act.eval, Act.put]) (by simp [Act.eval, Act.put]) cur 27 HG.out ((cur.take (n * 3)).drop o1) (by rw [HCS.out]; congr 1; simp only [Nat.min_def]; split <;> omega) (fun j v hj => cell_of_row HG.out (by rw [List.getElem?_drop] at hj; rw [List.getElem?_take] at hj; split at hj; (exact hj); (cases hj))) (by rw [HCS.out, HCL.out, HO2.out]; omega) (fun v hv => h1c v (List.mem_of_mem_drop hv)) base w0 (below_drew HB.out) HBG.out ?_; intro w4 hg4 ho4 hb4)
  have HG4 := m0_ hg4
  have HB4 := m0_ hb4
  have HV4 := m0_ (show w4.heap[vb]? = some (.cells vs.toArray 27 (0, 0)) from (ho4 vb hne).trans HV.out)
  clear hg4 ho4 hb4
  go_wp2_with ((with_reducible refine gate_builtin (b := .copy) (xs := #[.tmp 80, .tmp 81]) rfl ?_); (refine copy_rows rfl (.tmp 80) (.tmp 81) 34 34 rfl 27 3 hu hsz3 g o1 (n + 1 - i) (c - i) ⟨vb, 0, none⟩ 1 1 rfl rfl (splice cur o2 ((cur.take (n * 3)).drop o1)) 27 HG4.out vs (by rw [hvl]; simp only [Nat.min_def]; split <;> omega) (fun j v hj => cell_of_row HV4.out (by rw [Nat.zero_add]; exact hj)) (by rw [length_splice _ _ _ (by rw [HCS.out, HCL.out, HO2.out]; omega), hvl, HCL.out, HO1.out]; omega) h1v base w0 HB4.out HBG.out ?_); intro w5 hg5 _ hb5)
  go_ret
  exact ⟨rfl, hg5, hb5⟩
theorem zeroCells_size (z : Array Value) (n : Nat) : (Builtin.zeroCells z n).size = n * z.size := by simp [Builtin.zeroCells]
theorem append_make {P : Program} {w : World} {ops : Array Oper} {rest : List Oper} {o : Oper} {a : Act} {Q : Exit → Act → World → Prop} (hgd : o.guard = none) (s x : Operand) (t tn e : TypeId) (kn : IntKind)
    (ho : o.op = .call { callee := .builtin .append, args := #[s, x], argTypes := #[t, tn] }) (i : TypeInfo) (z : Value) (size bytes : Nat) (ht : P.underlying t = some (.slice e)) (htn : P.underlying tn = some (.int kn)) (hi : P.info? e = some i) (hz : i.zero = some z) (hsz : i.size = size) (hby : i.bytes = bytes) (hzs : z.cells.size = size) (hs0 : 0 < size)
    (g n c m k : Nat) (cur : List Value) (hs : a.eval s = .slice (some ⟨g, 0, none⟩) m c) (hx : a.eval x = .int .i64 k) (hg : w.heap[g]? = some (.cells cur.toArray e (0, 0))) (hm : m * size ≤ cur.length) (hmk : m + k = n) (h0 : 0 < k) (hc : c < n) (hb : n * bytes ≤ 140737488355328) (hn : n ≤ maxLen)
    (h : ∀ (w' : World) (G : Nat) (row : List Value), w'.heap[w.heap.size]? = some (.cells row.toArray e (0, 0)) → row.take (m * size) = cur.take (m * size) → row.length = G * size → n ≤ G → G ≤ maxLen → Below w.heap.size w w' → wpList P ops Q rest (a.put o.dst (.slice (some ⟨w.heap.size, 0, none⟩) n G)) w') : wpList P ops Q (o :: rest) a w := by
  refine wpList_plain hgd fun K hK => ?_
  have hnm := hn
  unfold maxLen at hnm
  have hkn : k * bytes ≤ n * bytes := Nat.mul_le_mul_right _ (by omega)
  have hold : (Builtin.firstCells i.size m (.slice (some ⟨g, 0, none⟩) m c)).run P w.drew = .ok (cur.take (m * size)).toArray w.drew := by
    rw [hsz]
    exact run_firstCells_some w.drew size m ⟨g, 0, none⟩ m c _ (by rw [List.length_take]; omega) (fun j v hj => cell_of_row (w := w.drew) (cur := cur) hg (by rw [Nat.zero_add]; rw [List.getElem?_take] at hj; split at hj; (exact hj); (cases hj)))
  have hrun := Lib.run_append_grow_zeros w t tn o.type e i z .i64 kn ht htn hi hz (some ⟨g, 0, none⟩) m c (cur.take (m * size)) hold k h0 (by omega) (by omega) (by omega) (by rw [hby]; omega) (by rw [hby, hmk]; exact growslice_fits hc hb)
  rw [hmk] at hrun
  unfold Oper.wp
  simp only [execOp, ho, resolve, invoke, builtin, Sem.run_bind, Sem.run_pure, Result.andThen_ok, List.map_toArray, List.map_cons, List.map_nil, hs, hx, hrun]
  refine hK _ _ (h _ _ ((cur.take (m * size)) ++ (Builtin.zeroCells z.cells k).toList ++ (Builtin.zeroCells z.cells (grownCap w n c e - n)).toList) ?_ ?_ ?_ (grownCap_ge w _ _ _) (grownCap_le_maxLen w _ _ _ hn) ?_)
  · rw [show w.heap.size = w.drew.heap.size from rfl, heap_alloc_new]
    simp
  · rw [List.append_assoc, List.take_left' (by rw [List.length_take]; omega)]
  · have := grownCap_ge w n c e
    simp only [List.length_append, List.length_take, Array.length_toList, zeroCells_size, hzs, Nat.min_eq_left hm]
    rw [← Nat.add_mul, ← Nat.add_mul]
    congr 1
    omega
  · exact below_alloc (below_drew (Below.refl _ _)) _
theorem splice_new (row vs tail cur : List Value) (i n : Nat) (hv : vs.length = 3) (hi : i ≤ n) (hr : row.take (i * 3) = cur.take (i * 3)) (hl : i * 3 ≤ cur.length) (ht : tail.length = (n - i) * 3) (hrl : i * 3 ≤ row.length) :
    (splice (splice row (i * 3) vs) ((i + 1) * 3) tail).take ((n + 1) * 3) = cur.take (i * 3) ++ vs ++ tail := by
  have l1 : (row.take (i * 3) ++ vs).length = (i + 1) * 3 := by rw [List.length_append, List.length_take, hv]; omega
  have e1 : (splice row (i * 3) vs).take ((i + 1) * 3) = row.take (i * 3) ++ vs := by
    unfold splice
    rw [← List.append_assoc, List.take_left' l1]
  have l2 : (row.take (i * 3) ++ vs ++ tail).length = (n + 1) * 3 := by rw [List.length_append, l1, ht, ← Nat.add_mul]; congr 1; omega
  generalize hS : splice row (i * 3) vs = S at e1
  unfold splice
  rw [e1, ← List.append_assoc, List.take_left' l2, hr]
set_option maxHeartbeats 4000000 in
set_option maxRecDepth 100000 in
theorem Insert_full (g n c i vb : Nat) (cur vs : List Value) (base : Nat) (w0 w : World) (hB : Below base w0 w) (hbw : base ≤ w.heap.size) (hg : w.heap[g]? = some (.cells cur.toArray 27 (0, 0))) (hcl : cur.length = c * 3) (hi : i < n) (hnc : n ≤ c) (hroom : c < n + 1) (hn : n < 1099511627776)
    (hv : w.heap[vb]? = some (.cells vs.toArray 27 (0, 0))) (hvl : vs.length = 3) (h1c : ∀ u ∈ cur.take (n * 3), u.oneCell' = true) (h1v : ∀ u ∈ vs, u.oneCell' = true) :
    Calls Try.prog 106 #[.slice (some ⟨g, 0, none⟩) n c, .int .i64 i, .slice (some ⟨vb, 0, none⟩) 1 1] w fun e w' => ∃ (G : Nat) (row : List Value), e = .returned (.slice (some ⟨w.heap.size, 0, none⟩) (n + 1) G) ∧ w'.heap[w.heap.size]? = some (.cells row.toArray 27 (0, 0)) ∧ row.length = G * 3 ∧ n + 1 ≤ G ∧ G ≤ maxLen ∧ row.take ((n + 1) * 3) = cur.take (i * 3) ++ vs ++ (cur.take (n * 3)).drop (i * 3) ∧ Below base w0 w' := by
  have hu := Try.underlying34
  have hui : Try.prog.underlying 3 = some (.int .i64) := by kernel_rfl
  obtain ⟨i0, hi0, hz0, hsz, hby⟩ := info_parts info27
  have hsz3 : (Try.prog.info? 27).map (·.size) = some 3 := by rw [hi0]; simp [hsz]
  have hw1 : IntKind.i64.wrap ((i : Int) + 1) = (i : Int) + 1 := by rw [IntKind.wrap_i64]; omega
  have hw2 : IntKind.i64.wrap ((n : Int) + 1) = (n : Int) + 1 := by rw [IntKind.wrap_i64]; omega
  have hw3 : IntKind.i64.wrap ((n : Int) + 1 - (i : Int)) = (n : Int) + 1 - (i : Int) := by rw [IntKind.wrap_i64]; omega
  have hb1 : (0 : Int) ≤ (i : Int) + 1 := by omega
  have htn : ((i : Int) + 1).toNat = i + 1 := by omega
  have hcut1 := cut_from (P := Try.prog) 34 27 .i64 hu hi0 3 hsz (some ⟨g, 0, none⟩) n c (i : Int) (by omega) (by omega)
  have hcut2 := cut_to (P := Try.prog) 34 27 .i64 hu hi0 (some ⟨g, 0, none⟩) n c (i : Int) (by omega) (by omega) hnc
  rw [Int.toNat_natCast] at hcut2
  rw [Int.toNat_natCast, if_neg (by omega)] at hcut1
  have HCUT := m0_ (fun (h G j : Nat) (hj : j ≤ n + 1) (hG : n + 1 ≤ G) => cut_from (P := Try.prog) 34 27 .i64 hu hi0 3 hsz (some ⟨h, 0, none⟩) (n + 1) G (j : Int) (by omega) (by omega))
  simp only [Option.map_some, Addr.add_lit, Nat.zero_add] at hcut1
  have hz1 : ¬ ((1 : Int) = 0) := by omega
  have hz2 : ¬ ((i : Int) = (n : Int)) := by omega
  have hz3 : (c : Int) < (n : Int) + 1 := by omega
  have mixed : Try.prog.follows .mixedOrders = true := by kernel_rfl
  have HGV := m0_ (World.block_lt_of_cell? w ((⟨g, 0, none⟩ : Addr).add 0) (cell_of_row hg (List.getElem?_eq_getElem (show 0 + 0 < cur.length by omega))))
  have HVV := m0_ (World.block_lt_of_cell? w ((⟨vb, 0, none⟩ : Addr).add 0) (cell_of_row hv (List.getElem?_eq_getElem (show 0 + 0 < vs.length by omega))))
  have HV := m0_ hv
  have HG := m0_ hg
  have HB := m0_ hB
  have HBW := m0_ hbw
  have HCL := m0_ hcl
  have HN := m0_ hn
  have HVL := m0_ hvl
  clear hv hg hB hbw hcl hvl hn
  obtain ⟨o1, ho1⟩ : ∃ o1, o1 = i * 3 := ⟨_, rfl⟩
  rw [← ho1] at hcut1 ⊢
  have HO1 := m0_ ho1
  clear ho1
  have HI := m0_ hi
  go_enter Try.func106, Try.ntmps106
  go_upto_region 10 with ((with_reducible refine gate_builtin (b := .append) (xs := #[.tmp 34, .tmp 39]) rfl ?_); at_builtin; refine append_make rfl (.tmp 34) (.tmp 39) 34 3 27 .i64 rfl i0 (.agg #[(.int .i64 0), (.int .i64 0), (.slice none 0 0)]) 3 40 hu hui hi0 hz0 hsz hby rfl (by omega) g (n + 1) c i (n + 1 - i) cur rfl ?hk HG.out ?hm ?hmk ?h0 ?hc ?hb ?hn ?_; (case hk => show Value.int .i64 _ = _; congr 1; omega); (case hm => rw [HCL.out]; omega); (case hmk => omega); (case h0 => omega); (case hc => omega); (case hb => have := HN.out; omega); (case hn => have := HN.out; unfold maxLen; omega); intro w2 G row hg2 hr2 hl2 hG2 hG3 hb2)
  have hcut3 := HCUT.out w.heap.size G i (by omega) hG2
  have hcut4 := HCUT.out w.heap.size G (i + 1) (by omega) hG2
  clear HCUT
  rw [Int.toNat_natCast, if_neg (by omega)] at hcut3 hcut4
  rw [show ((i + 1 : Nat) : Int) = (i : Int) + 1 by omega] at hcut4
  obtain ⟨o2, ho2⟩ : ∃ o2, o2 = (i + 1) * 3 := ⟨_, rfl⟩
  rw [← ho2] at hcut4
  rw [← HO1.out] at hcut3
  simp only [Option.map_some, Addr.add_lit, Nat.zero_add] at hcut3 hcut4
  have HO2 := m0_ ho2
  have HG2 := m0_ hg2
  have HR2 := m0_ hr2
  have HL2 := m0_ hl2
  have HGE := m0_ hG2
  have HGM := m0_ hG3
  have HB2 := m0_ (below_then HB.out HBW.out hb2)
  have HV2 := m0_ ((hb2.block vb HVV.out).trans HV.out)
  have HG0 := m0_ ((hb2.block g HGV.out).trans HG.out)
  have hG' : G ≤ 9223372036854775807 := by unfold maxLen at hG3; omega
  clear ho2 hg2 hr2 hl2 hG3 hb2
  have hcs : ((cur.take (n * 3)).drop o1).length = (n - i) * 3 := by have := HCL.out; rw [HO1.out, List.length_drop, List.length_take, this, Nat.sub_mul]; omega
  have HCS := m0_ hcs
  clear hcs
  go_upto_region 11 with ((with_reducible refine gate_builtin (b := .copy) (xs := #[.tmp 43, .tmp 44]) rfl ?_); refine copy_rows rfl (.tmp 43) (.tmp 44) 34 34 rfl 27 3 hu hsz3 w.heap.size o1 (n + 1 - i) (G - i) ⟨vb, 0, none⟩ 1 1 rfl rfl row 27 HG2.out vs (by rw [HVL.out]; simp only [Nat.min_def]; split <;> omega) (fun j v hj => cell_of_row HV2.out (by rw [Nat.zero_add]; exact hj)) (by rw [HVL.out, HL2.out, HO1.out]; omega) h1v base w0 HB2.out HBW.out ?_; intro w3 hg3 ho3 hb3)
  have HG3 := m0_ hg3
  have HB3 := m0_ hb3
  have HG03 := m0_ ((ho3 g (Nat.ne_of_lt HGV.out)).trans HG0.out)
  clear hg3 ho3 hb3
  go_region_law_o (refine step_copy_rows rfl _ _ 34 34 rfl 27 3 hu hsz3 w.heap.size o2 (n + 1 - (i + 1)) (G - (i + 1)) ⟨g, o1, none⟩ (n - i) (c - i) (by simp [Act.eval, Act.put]) (by simp [Act.eval, Act.put]) (splice row o1 vs) 27 HG3.out ((cur.take (n * 3)).drop o1) (by rw [HCS.out]; congr 1; simp only [Nat.min_def]; split <;> omega) (fun j v hj => cell_of_row HG03.out (by rw [List.getElem?_drop] at hj; rw [List.getElem?_take] at hj; split at hj; (exact hj); (cases hj))) (by rw [length_splice _ _ _ (by rw [HVL.out, HL2.out, HO1.out]; omega), HCS.out, HL2.out, HO2.out]; omega) (fun v hv => h1c v (List.mem_of_mem_drop hv)) base w0 (below_drew HB3.out) HBW.out ?_; intro w4 hg4 ho4 hb4)
  go_wp2
  go_ret
  refine ⟨G, _, rfl, hg4, ?_, HGE.out, HGM.out, ?_, hb4⟩
  · rw [length_splice _ _ _ (by rw [length_splice _ _ _ (by rw [HVL.out, HL2.out, HO1.out]; omega), HCS.out, HL2.out, HO2.out]; omega), length_splice _ _ _ (by rw [HVL.out, HL2.out, HO1.out]; omega)]
    exact HL2.out
  · rw [HO2.out, HO1.out]
    refine splice_new row vs _ cur i n HVL.out (by omega) HR2.out (by rw [HCL.out]; omega) (by rw [← HO1.out]; exact HCS.out) (by rw [HL2.out]; omega)
set_option maxHeartbeats 4000000 in
set_option maxRecDepth 100000 in
theorem Insert_end (v : Value) (n vb : Nat) (xs vs : List Value) (base : Nat) (w0 w : World) (hB : Below base w0 w) (hbw : base ≤ w.heap.size) (HO : w.ownsRow base 27 3 v n xs) (hn : n < 1099511627776)
    (hv : w.heap[vb]? = some (.cells vs.toArray 27 (0, 0))) (hvl : vs.length = 3) (h1v : ∀ u ∈ vs, u.oneCell' = true) :
    Calls Try.prog 106 #[v, .int .i64 n, .slice (some ⟨vb, 0, none⟩) 1 1] w fun e w' => ∃ v', e = .returned v' ∧ w'.ownsRow base 27 3 v' (n + 1) (xs ++ vs) ∧ Below base w0 w' := by
  have hu := Try.underlying34
  obtain ⟨i0, hi0, hz0, hsz, hby⟩ := info_parts info27
  obtain ⟨A, c, rfl, hc⟩ : ∃ A c, v = .slice A n c ∧ n ≤ c := by
    rcases HO.2 with ⟨h, h'⟩ | ⟨g, cap, cur, h, _, _, h', _⟩
    · exact ⟨none, 0, by rw [h, h'], by omega⟩
    · exact ⟨_, cap, h, h'⟩
  have hcut1 := cut_from (P := Try.prog) 34 27 .i64 hu hi0 3 hsz A n c (n : Int) (by omega) (by omega)
  rw [Int.toNat_natCast] at hcut1
  obtain ⟨A1, hA1⟩ : ∃ A1, A1 = (if c = n then A else A.map (·.add (n * 3))) := ⟨_, rfl⟩
  rw [← hA1] at hcut1
  have hz1 : ¬ ((1 : Int) = 0) := by omega
  have HH := m0_ HO
  have HV := m0_ hv
  have HB := m0_ hB
  have HBW := m0_ hbw
  have HN := m0_ hn
  have HVL := m0_ hvl
  have H1 := m0_ h1v
  have HI := m0_ hi0
  have HZ := m0_ hz0
  have HSZ := m0_ hsz
  have HBY := m0_ hby
  clear hA1 HO hv hB hbw hn hvl h1v hi0 hz0 hsz hby hc
  go_enter Try.func106, Try.ntmps106
  go_wp2_with ((with_reducible refine gate_builtin (b := .append) (xs := #[.tmp 23, .tmp 24]) rfl ?_); at_builtin; refine wpList_append_own _ rfl (.tmp 23) (.tmp 24) 34 rfl base 27 i0 (.agg #[(.int .i64 0), (.int .i64 0), (.slice none 0 0)]) 3 40 hu HI.out HZ.out HSZ.out HBY.out rfl (by decide) _ n xs rfl HH.out ⟨vb, 0, none⟩ 1 1 vs rfl ?qc1 ?qc2 ?qc3 ?qc4 ?qc5 ?qc6 ?_; (case qc1 => exact HVL.out); (case qc2 => exact fun j u hj => cell_of_row HV.out (by rw [Nat.zero_add]; exact hj)); (case qc3 => exact H1.out); (case qc4 => have := HN.out; unfold maxLen; omega); (case qc5 => have := HN.out; omega); (case qc6 => exact HBW.out); intro v' w1 hown hgrow _)
  go_ret
  exact ⟨_, rfl, hown, HB.out.grown hgrow HBW.out (fun k hk => own_base HH.out k hk)⟩
theorem Insert_walk (v : Value) (n i vb : Nat) (xs vs : List Value) (base : Nat) (w0 w : World) (hB : Below base w0 w) (hbw : base ≤ w.heap.size) (HO : w.ownsRow base 27 3 v n xs) (hi : i ≤ n) (hn : n < 1099511627776)
    (hv : w.heap[vb]? = some (.cells vs.toArray 27 (0, 0))) (hvl : vs.length = 3) (hne : some vb ≠ v.ownBlock) (h1v : ∀ u ∈ vs, u.oneCell' = true) (h1c : ∀ u ∈ xs, u.oneCell' = true) :
    Calls Try.prog 106 #[v, .int .i64 i, .slice (some ⟨vb, 0, none⟩) 1 1] w fun e w' => ∃ v', e = .returned v' ∧ w'.ownsRow base 27 3 v' (n + 1) (xs.take (i * 3) ++ vs ++ xs.drop (i * 3)) ∧ Below base w0 w' := by
  rcases Nat.lt_or_ge i n with hlt | hge
  rotate_left
  · obtain rfl : i = n := by omega
    refine (Insert_end v i vb xs vs base w0 w hB hbw HO hn hv hvl h1v).mono ?_
    rintro e w' ⟨v', rfl, ho, hb⟩
    exact ⟨v', rfl, by rw [List.take_of_length_le (by rw [HO.1]; omega), List.drop_of_length_le (by rw [HO.1]; omega), List.append_nil]; exact ho, hb⟩
  rcases HO.2 with ⟨_, h'⟩ | ⟨g, cap, cur, rfl, hbg, hg, hnc, hcm, hcs, hxs⟩
  · omega
  have hne' : vb ≠ g := fun e => hne (by rw [e]; rfl)
  have h1 : ∀ u ∈ cur.toList.take (n * 3), u.oneCell' = true := by rw [hxs]; exact h1c
  have hg' : w.heap[g]? = some (.cells cur.toList.toArray 27 (0, 0)) := by rw [Array.toArray_toList]; exact hg
  have hcl : cur.toList.length = cap * 3 := by rw [Array.length_toList]; exact hcs
  by_cases hr : n + 1 ≤ cap
  · refine (Insert_room g n cap i vb cur.toList vs base w0 w hB hbg hg' hcl hlt hr hcm hv hvl hne' h1 h1v).mono ?_
    rintro e w' ⟨rfl, hg2, hb2⟩
    refine ⟨_, rfl, ⟨?_, .inr ⟨g, cap, _, rfl, hbg, hg2, hr, hcm, ?_, ?_⟩⟩, hb2⟩
    · rw [List.length_append, List.length_append, List.length_take, List.length_drop, hvl, HO.1]; omega
    · have l1 : ((cur.toList.take (n * 3)).drop (i * 3)).length = (n - i) * 3 := by rw [List.length_drop, List.length_take, hcl, Nat.sub_mul]; omega
      rw [List.size_toArray, length_splice _ _ _ (by rw [length_splice _ _ _ (by rw [l1, hcl]; omega), hvl, hcl]; omega), length_splice _ _ _ (by rw [l1, hcl]; omega), hcl]
    · rw [← hxs]; exact splice_in cur.toList vs i n hvl (by omega) (by rw [hcl]; omega)
  · refine (Insert_full g n cap i vb cur.toList vs base w0 w hB hbw hg' hcl hlt hnc (by omega) hn hv hvl h1 h1v).mono ?_
    rintro e w' ⟨G, row, rfl, hg2, hl2, hG2, hGm, ht2, hb2⟩
    refine ⟨_, rfl, ⟨?_, .inr ⟨_, G, _, rfl, hbw, hg2, hG2, hGm, by simpa using hl2, ?_⟩⟩, hb2⟩
    · rw [List.length_append, List.length_append, List.length_take, List.length_drop, hvl, HO.1]; omega
    · rw [← hxs]
      show row.take ((n + 1) * 3) = _
      rw [ht2, List.take_take, Nat.min_eq_left (by omega)]
theorem keep_setRow {w : World} {g : Nat} (cs : Array Value) : KeepBut w (w.setRow g cs) g none := ⟨by simp [World.setRow], fun k _ hk _ => setRow_other w g k cs hk⟩
theorem store_blk {P : Program} {ops : Array Oper} {rest : List Oper} {o : Oper} {a : Act} {Q : Exit → Act → World → Prop} {W w0 : World} {base : Nat} (hgd : o.guard = none) (hN : o.dst = none) {t e : TypeId} {p : Tmp} {v : Operand} (ho : o.op = .store t (.tmp p) v) {g off : Nat} {cur cur' : Array Value} {u : Value} {seg : List Value}
    (hp : a.eval (.tmp p) = .pointer (some ⟨g, off, none⟩)) (hx : a.eval v = u) (hg : W.heap[g]? = some (.cells cur e (0, 0))) (hu : u.cells.toList = seg) (ht : (P.info? t).map (·.size) = some seg.length) (h1 : ∀ q ∈ seg, q.oneCell' = true) (hfit : off + seg.length ≤ cur.size) (hcur : (cur.toList.take off ++ seg ++ cur.toList.drop (off + seg.length)).toArray = cur')
    (hB : Below base w0 W) (hbg : base ≤ g)
    (h : ∀ w', w'.heap[g]? = some (.cells cur' e (0, 0)) → KeepBut W w' g none → Below base w0 w' → wpList P ops Q rest a w') : wpList P ops Q (o :: rest) a W := by
  obtain ⟨i, hi, hsz⟩ := Option.map_eq_some_iff.1 ht
  have hc : u.cells.size = i.size := by rw [hsz, ← hu, Array.length_toList]
  have hst := run_storeCells_at P g off e seg 0 cur W hg (by simpa using hfit) h1
  refine wpList_plain hgd fun K hK => ?_
  have hrun : (execOp a.eval o).run P W = .ok .skip (W.setRow g (cur.toList.take off ++ seg ++ cur.toList.drop (off + seg.length)).toArray) := by
    rw [Nat.add_zero] at hst
    simp [execOp, ho, hp, hx, Instr.storeAt, Instr.sureAddr, storeVar, sizeOf, typeInfo, hi, hc, hu, hst, Result.andThen]
  unfold Oper.wp
  rw [hrun]
  show K (a.put o.dst undef) _
  rw [hN]
  refine hK _ _ (h _ ?_ (keep_setRow _) (below_setRow hB hbg _))
  rw [setRow_heap W g cur _ e _ hg, hcur]
theorem blk_keep {w w1 : World} {g g' : Nat} {o : Obj} (h : w.heap[g']? = some o) (hk : KeepBut w w1 g none) (hne : g' ≠ g) : w1.heap[g']? = some o := (hk.2 g' (blk_lt h) hne (by simp)).trans h
end Go.Proofs.Ytiplpckgmikmeaa.M
namespace Go.Proofs.Ytiplpckgmikmeaa.M
open Go.RowKit Go.Proofs.YtiplpckgmikmeaaW.PrintWords Go.Proofs.YtiplpckgmikmeaaW.PrintLast
theorem goesV_ {P : Program} {ops : Array Oper} {Q : Exit → Act → World → Prop} {oi : Oper} {N : Option Tmp} {a : Act} {w : World} {K : Act → World → Prop} {f : FuncId} {fn : Func} {x : Operand} {xs_ : Array Operand} {ts : Array TypeId} (hf : P.funcs[f]? = some fn) (hname : (fn.name == "runtime.NumGoroutine") = false) (hb : fn.body.isSome = true) (args : Array Value)
    (hw : Region.wanted oi (yielded ops a.tmps) = true) (hN : oi.dst = N) (hop : oi.op = .call { callee := .value x, args := xs_, argTypes := ts }) (hargs : xs_.map a.eval = args)
    (h : Calls P f args w fun e w' => ∃ v, e = .returned v ∧ K (a.put N v) w') (hx : a.eval x = .func (.func f) #[] #[] := by rfl) : if Region.wanted oi (yielded ops a.tmps) = true then Oper.wp P oi a w K Q else K (a.put N undef) w := by
  refine call_ f args hw hN ?_ h
  have he := enters_ hf hname hb args w
  unfold execOp
  simp [hop, resolve, Deferred.ofValue, invoke, hx, hargs, he]
end Go.Proofs.Ytiplpckgmikmeaa.M
namespace Go.Proofs.Ytiplpckgmikmeaa.M
open Go.RowKit Go.Proofs.YtiplpckgmikmeaaW.PrintWords Go.Proofs.YtiplpckgmikmeaaW.PrintLast Go.Proofs.YtiplpckgmikmeaaW.PrintMore
attribute [local go_sem] max2_int min2_int max_two min_two max_three min_three max_four min_four
set_option linter.unusedVariables false
set_option linter.unusedSimpArgs false

def impl_Occ_105.l0 : Nat → List (S27) → Int → Int → Int → Int → Int → List Int → Option (Int × Bool)
  | 0, _, _, _, _, _, _, _ => none
  | k + 1, x0, x8, x9, x10, x102000, x102001, x102002 => if x9 < x10 then (if 0 ≤ (wrap64 ((IntKind.u64.wrap (wrap64 (x9 + x10))) / 2)) then (if (wrap64 ((IntKind.u64.wrap (wrap64 (x9 + x10))) / 2)) < (x0.length : Int) then ((impl_compare.f k ((rd_T27 x0 (wrap64 ((IntKind.u64.wrap (wrap64 (x9 + x10))) / 2))).f0) ((rd_T27 x0 (wrap64 ((IntKind.u64.wrap (wrap64 (x9 + x10))) / 2))).f1) ((rd_T27 x0 (wrap64 ((IntKind.u64.wrap (wrap64 (x9 + x10))) / 2))).f2) x102000 x102001 x102002).bind fun t103 => (if t103 < 0 then (impl_Occ_105.l0 k x0 x8 (wrap64 ((wrap64 ((IntKind.u64.wrap (wrap64 (x9 + x10))) / 2)) + 1)) x10 x102000 x102001 x102002) else (impl_Occ_105.l0 k x0 x8 x9 (wrap64 ((IntKind.u64.wrap (wrap64 (x9 + x10))) / 2)) x102000 x102001 x102002))) else (none)) else (none)) else (if x9 < x8 then (if 0 ≤ x9 then (if x9 < (x0.length : Int) then ((impl_compare.f k ((rd_T27 x0 x9).f0) ((rd_T27 x0 x9).f1) ((rd_T27 x0 x9).f2) x102000 x102001 x102002).bind fun t105 => (some (x9, (t105 == 0)))) else (none)) else (none)) else (some (x9, false)))
def impl_Occ_105.f (k : Nat) (l0 : List (S27)) (a1_0 : Int) (a1_1 : Int) (l1_2 : List Int)  : Option (Int × Bool) := impl_Occ_105.l0 k l0 (l0.length : Int) 0 (l0.length : Int) a1_0 a1_1 l1_2
def impl_Occ_105.T5 : Bool × List (List Nat × List Nat) := (true, [([], []), ([], []), ([], []), ([1, 2], [1, 2]), ([3], [3]), ([], []), ([0, 4, 5], [0, 4, 5]), ([6], [6])])
def impl_Occ_105.B5 : List Nat := [0, 0, 0, 6, 14, 0, 63, 127]
theorem impl_Occ_105.tab5 : rtab .any (opsOf Try.f105 5) = impl_Occ_105.T5 := by kernel_rfl
theorem impl_Occ_105.bits5 : waitsOk impl_Occ_105.T5.2 impl_Occ_105.B5 = true := by kernel_rfl
def impl_Occ_105.T8 : Bool × List (List Nat × List Nat) := (true, [([], []), ([], []), ([], []), ([1, 2], [1, 2]), ([3], [3]), ([4], [4]), ([4], [4]), ([4], [4]), ([6, 7, 4], [4, 6, 7]), ([8, 4], [4, 8]), ([4], [4]), ([5, 9, 10, 4, 4], [4, 5, 9, 10]), ([11, 4], [4, 11]), ([4, 12], [4, 12]), ([0, 11, 0], [0]), ([13, 14, 0, 1, 2, 3, 4, 5, 6, 7, 8, 9, 10, 11, 12, 13, 14], [13])])
def impl_Occ_105.B8 : List Nat := [0, 0, 0, 6, 14, 30, 30, 30, 222, 478, 30, 2046, 4094, 8190, 4095, 32767]
theorem impl_Occ_105.tab8 : rtab .any (opsOf Try.f105 8) = impl_Occ_105.T8 := by kernel_rfl
theorem impl_Occ_105.bits8 : waitsOk impl_Occ_105.T8.2 impl_Occ_105.B8 = true := by kernel_rfl
set_option maxHeartbeats 8000000 in
set_option maxRecDepth 100000 in
theorem impl_Occ_105.calls (k : Nat) (A0 : Option Addr) (c0 : Nat) (l0 : List (S27)) (a1_0 : Int) (a1_1 : Int) (A1_2 : Option Addr) (c1_2 : Nat) (l1_2 : List Int)  (r1 : Int) (r2 : Bool) (w : World) (hr0 : Kd.C k27 w A0 l0.length l0) (hc0 : l0.length ≤ c0) (hr1_2 : Kd.C (Kd.int .i64) w A1_2 l1_2.length l1_2) (hc1_2 : l1_2.length ≤ c1_2) (h : impl_Occ_105.f k l0 a1_0 a1_1 l1_2 = some (r1, r2)) :
    Calls Try.prog 105 #[.slice A0 l0.length c0, .agg #[.int .i64 a1_0, .int .i64 a1_1, .slice A1_2 l1_2.length c1_2], .func (.func 71) #[] #[]] w fun e w' => e = .returned (.tuple #[.int .i64 r1, .bool r2]) ∧ Below w.heap.size w w' := by
  have hu27 := Try.underlying27
  have HR0 := m0_ hr0
  have HC0 := m0_ hc0
  clear hr0 hc0
  have HR1_2 := m0_ hr1_2
  have HC1_2 := m0_ hc1_2
  clear hr1_2 hc1_2
  have HB := m0_ (Below.refl w.heap.size w)
  have H : (impl_Occ_105.l0 k l0 (l0.length : Int) 0 (l0.length : Int) a1_0 a1_1 l1_2) = some (r1, r2) := h
  clear h
  have H' := m0_ H
  clear H
  go_enter Try.func105, Try.ntmps105
  go_wp2_with (first | ((with_reducible refine gate_dst (N := 4) rfl ?_); refine box_event ?hg (N := 4) ?hd (cs := #[.int .i64 a1_0, .int .i64 a1_1, .slice A1_2 l1_2.length c1_2]) (t := 27) ?hr ?_; (case hd => rfl); (case hg => rfl); (case hr => first | (go_simp; done) | (go_simp; rfl)); intro gb101 hg w4 hbox hb; have n0_ := m0_ (below_step (by repeat (first | (with_reducible first | exact HB.out | apply below_alloc | apply pw_below_drewN | apply below_drew1) | exact HB.out)) hb); have n1_ := m0_ (hbox); have n2_ := m0_ ((by rw [hg]; exact (below_size (by repeat (first | (with_reducible first | exact HB.out | apply below_alloc | apply pw_below_drewN | apply below_drew1) | exact HB.out))) : w.heap.size ≤ gb101)); have n3_ := m0_ ((by rw [hg]; exact (below_size (by repeat (first | (with_reducible first | exact HB.out | apply below_alloc | apply pw_below_drewN | apply below_drew1) | exact HB.out))) : w.heap.size ≤ gb101)); clear HB; have HB := n0_; have BK101 := n1_; have GW101 := n2_; have GE101 := n3_; clear n0_ n1_ n2_ n3_; clear hb hbox hg))
  go_loopg [9, 10] k (fun kq v9 v10 w' => ∃ (x9_1 : Int) (x10_1 : Int), v9 = .int .i64 x9_1 ∧ v10 = .int .i64 x10_1 ∧ Aside0 (impl_Occ_105.l0 kq l0 (l0.length : Int) x9_1 x10_1 a1_0 a1_1 l1_2 = some (r1, r2)) ∧ Aside0 (kq ≤ k) ∧ Aside0 (w'.heap[gb101]? = some (.cells #[.int .i64 a1_0, .int .i64 a1_1, (.slice A1_2 l1_2.length c1_2)] 27 (0, 0))) ∧ Aside0 (Below w.heap.size w w'))
  case atStart => exact ⟨(0), ((l0.length : Int)), (by first | rfl | (simp; done) | (simp [*]; done)), (by first | rfl | (simp; done) | (simp [*]; done)), H', ⟨Nat.le_refl _⟩, ⟨by (with_reducible repeat (first | refine blk_drewN ?_ _ | refine blk_drew ?_ | refine blk_alloc ?_ _)); exact BK101.out⟩, ⟨by repeat (first | (with_reducible first | exact HB.out | apply below_alloc | apply pw_below_drewN | apply below_drew1 | refine below_set ?_ GE101.out) | exact HB.out)⟩⟩
  case round =>
    clear H'
    try clear c1
    try clear p2
    obtain ⟨x9_1, x10_1, rfl, rfl, HA, HK1, BK101, HB⟩ := hrel
    cases gk with
    | zero => exact absurd HA.out (by simp [impl_Occ_105.l0])
    | succ k1 =>
      have H := HA.out
      clear HA
      simp only [impl_Occ_105.l0] at H
      by_cases c5 : x9_1 < x10_1
      · rw [if_pos c5] at H
        have c5b0 : decide (x9_1 < x10_1) = true := decide_eq_true c5
        clear c5
        obtain ⟨ji6, hji6⟩ : ∃ j_ : Int, (wrap64 ((IntKind.u64.wrap (wrap64 (x9_1 + x10_1))) / 2)) = j_ := ⟨_, rfl⟩
        replace H : (if 0 ≤ (ji6) then (if (ji6) < (l0.length : Int) then ((impl_compare.f k1 ((rd_T27 l0 (ji6)).f0) ((rd_T27 l0 (ji6)).f1) ((rd_T27 l0 (ji6)).f2) a1_0 a1_1 l1_2).bind fun t103 => (if t103 < 0 then (impl_Occ_105.l0 k1 l0 (l0.length : Int) (wrap64 ((ji6) + 1)) x10_1 a1_0 a1_1 l1_2) else (impl_Occ_105.l0 k1 l0 (l0.length : Int) x9_1 ji6 a1_0 a1_1 l1_2))) else (none)) else (none)) = some (r1, r2) := by first | (rw [hji6] at H; exact H) | (simp only [hji6] at H ⊢; exact H)
        have hji6w : (IntKind.i64.wrap ((IntKind.u64.wrap (wrap64 (x9_1 + x10_1))) / 2)) = ji6 := (i64_w _).trans hji6
        by_cases c7 : 0 ≤ (ji6)
        rotate_left
        · rw [if_neg c7] at H
          exact absurd H (by simp)
        rw [if_pos c7] at H
        have c7b0 : decide (0 ≤ (ji6)) = true := decide_eq_true c7
        clear c7
        by_cases c8 : (ji6) < (l0.length : Int)
        rotate_left
        · rw [if_neg c8] at H
          exact absurd H (by simp)
        rw [if_pos c8] at H
        have c8b0 : decide ((ji6) < (l0.length : Int)) = true := decide_eq_true c8
        clear c8
        replace H := Option.bind_eq_some_iff.mp H
        obtain ⟨t103, A90, H⟩ := H
        replace H : (if t103 < 0 then (impl_Occ_105.l0 k1 l0 (l0.length : Int) (wrap64 ((ji6) + 1)) x10_1 a1_0 a1_1 l1_2) else (impl_Occ_105.l0 k1 l0 (l0.length : Int) x9_1 ji6 a1_0 a1_1 l1_2)) = some (r1, r2) := H
        have A9 := m0_ A90
        clear A90
        by_cases c10 : t103 < 0
        rotate_left
        · rw [if_neg c10] at H
          have c10b0 : decide (t103 < 0) = false := decide_eq_false c10
          clear c10
          have H' := m0_ H
          clear H
          try go_wp2
          have n0_ := m0_ (blk_drew BK101.out)
          have n1_ := m0_ (below_drew1 HB.out)
          clear BK101
          clear HB
          have BK101 := n0_
          have HB := n1_
          clear n0_ n1_
          have p102 : 0 ≤ ((ji6) : Int) := of_decide_eq_true (by first | (with_reducible assumption) | assumption)
          have q102 : (ji6) < (l0.length : Int) := of_decide_eq_true (by first | (with_reducible assumption) | assumption)
          obtain ⟨ad102, A102_2, c102_2, e102, hx102_0, hx102_1, hx102_2, hl102_2, hi102_2⟩ := at_T27 HR0.out (ji6) p102 q102
          have hw102_2 := hx102_2
          have hw102_1 := hx102_1
          have hw102_0 := hx102_0
          cases e102
          replace hx102_0 := (HB.out.cell (World.block_lt_of_cell? w _ hx102_0)).trans hx102_0
          replace hx102_1 := (HB.out.cell (World.block_lt_of_cell? w _ hx102_1)).trans hx102_1
          replace hx102_2 := (HB.out.cell (World.block_lt_of_cell? w _ hx102_2)).trans hx102_2
          have HR102_2 := m0_ hi102_2
          have HC102_2 := m0_ hl102_2
          clear hi102_2 hl102_2
          replace p102 := eq_true p102
          replace q102 := eq_true q102
          refine start_ (n := 8) (S := fun w' => w'.cell? ⟨gb101, 0, none⟩ = some (.int .i64 a1_0) ∧ w'.cell? ⟨gb101, 1, none⟩ = some (.int .i64 a1_1) ∧ w'.cell? ⟨gb101, 2, none⟩ = some (.slice A1_2 l1_2.length c1_2) ∧ w'.cell? (ad102.add (((ji6)).toNat * 3)) = some (.int .i64 ((rd_T27 l0 (ji6)).f0)) ∧ w'.cell? ⟨(ad102.add (((ji6)).toNat * 3)).block, (ad102.add (((ji6)).toNat * 3)).off + 1, none⟩ = some (.int .i64 ((rd_T27 l0 (ji6)).f1)) ∧ w'.cell? ⟨(ad102.add (((ji6)).toNat * 3)).block, (ad102.add (((ji6)).toNat * 3)).off + 2, none⟩ = some (.slice A102_2 ((rd_T27 l0 (ji6)).f2).length c102_2)) (ds := []) #[false, false, false, false, false, false, false, false] (by kernel_rfl) rfl rfl ⟨(blk_cell BK101.out 0).trans rfl, (blk_cell BK101.out 1).trans rfl, (blk_cell BK101.out 2).trans rfl, ((HB.out.cell (World.block_lt_of_cell? w _ hw102_0)).trans hw102_0), ((HB.out.cell (World.block_lt_of_cell? w _ hw102_1)).trans hw102_1), ((HB.out.cell (World.block_lt_of_cell? w _ hw102_2)).trans hw102_2)⟩ (fun hHeld => ?_); refine with_tabW impl_Occ_105.tab5 impl_Occ_105.bits5 (fun HT_ HW_ => ?_)
          generalize wr.drew = w13 at BK101 HB HR102_2 hx102_0 hx102_1 hx102_2 hHeld ⊢
          refine pure_ (i := 0) (N := some 24) (v := ?_) (a' := ?_) #[true, false, false, false, false, false, false, false] rfl rfl (any_of HT_.out (by kernel_rfl)) (fun _ _ _ h => h) (Or.inl ⟨by rfl, ?_⟩) ?_ ?_
          rotate_left
          · intro w'
            go_simp
            with_reducible rfl
          rotate_left
          · simp only [Act.put, List.setIfInBounds_toArray, List.set_cons_zero, List.set_cons_succ, i64_w, i32_w]
            rfl
          refine pure_ (i := 1) (N := some 25) (v := ?_) (a' := ?_) #[true, true, false, false, false, false, false, false] rfl rfl (any_of HT_.out (by kernel_rfl)) (fun _ _ _ h => h) (Or.inl ⟨by rfl, ?_⟩) ?_ ?_
          rotate_left
          · intro w'
            go_simp
            with_reducible rfl
          rotate_left
          · simp only [Act.put, List.setIfInBounds_toArray, List.set_cons_zero, List.set_cons_succ, i64_w, i32_w]
            rfl
          refine pure_ (i := 2) (N := some 26) (v := ?_) (a' := ?_) #[true, true, true, false, false, false, false, false] rfl rfl (any_of HT_.out (by kernel_rfl)) (fun _ _ _ h => h) (Or.inl ⟨by rfl, ?_⟩) ?_ ?_
          rotate_left
          · intro w'
            go_simp
            with_reducible rfl
          rotate_left
          · simp only [Act.put, List.setIfInBounds_toArray, List.set_cons_zero, List.set_cons_succ, i64_w, i32_w]
            rfl
          refine pure_ (i := 3) (N := some 27) (v := ?_) (a' := ?_) #[true, true, true, true, false, false, false, false] rfl rfl (any_of HT_.out (by kernel_rfl)) (fun _ _ _ h => h) (Or.inl ⟨by rfl, ?_⟩) ?_ ?_
          rotate_left
          · intro w'
            go_simp
            with_reducible rfl
          rotate_left
          · simp only [Act.put, List.setIfInBounds_toArray, List.set_cons_zero, List.set_cons_succ, i64_w, i32_w]
            rfl
          refine take_ (i := 4) (N := some 28) (v := ?_) (a' := ?_) #[true, true, true, true, true, false, false, false] rfl rfl (take_ofW HT_.out HW_.out (by kernel_rfl)) (fun _ _ _ h => h) (Or.inl ⟨by rfl, ?_⟩) hHeld ?_ ?_
          rotate_left
          · rintro w' ⟨s0, s1, s2, s3, s4, s5⟩
            go_simp
            with_reducible rfl
          rotate_left
          · simp only [Act.put, List.setIfInBounds_toArray, List.set_cons_zero, List.set_cons_succ, i64_w, i32_w]
            rfl
          refine take_ (i := 5) (N := some 29) (v := ?_) (a' := ?_) #[true, true, true, true, true, true, false, false] rfl rfl (take_ofW HT_.out HW_.out (by kernel_rfl)) (fun _ _ _ h => h) (Or.inl ⟨by rfl, ?_⟩) hHeld ?_ ?_
          rotate_left
          · rintro w' ⟨s0, s1, s2, s3, s4, s5⟩
            go_simp
            with_reducible rfl
          rotate_left
          · simp only [Act.put, List.setIfInBounds_toArray, List.set_cons_zero, List.set_cons_succ, i64_w, i32_w]
            rfl
          refine one_ (i := 6) (N := some 30) #[true, true, true, true, true, true, true, false] rfl rfl (one_of HT_.out (by kernel_rfl)) (by decide) (fun K hK => ?_)
          refine goesV_ Try.func71 (by kernel_rfl) rfl #[.agg #[.int .i64 ((rd_T27 l0 (ji6)).f0), .int .i64 ((rd_T27 l0 (ji6)).f1), .slice A102_2 ((rd_T27 l0 (ji6)).f2).length c102_2], .agg #[.int .i64 a1_0, .int .i64 a1_1, .slice A1_2 l1_2.length c1_2]] (by rfl) rfl rfl (by (try simp only [List.map_toArray, List.map_cons, List.map_nil]); first | done | (simp only [hji6]; rfl) | rfl | (simp only [List.length_drop, List.length_take]; rfl)) ?_
          with_reducible refine (impl_compare.calls k1 ((rd_T27 l0 (ji6)).f0) ((rd_T27 l0 (ji6)).f1) _ _ ((rd_T27 l0 (ji6)).f2) a1_0 a1_1 _ _ l1_2 t103 _ ?side1 ?side2 ?side3 ?side4 A9.out).mono ?_
          (case side1 => repeat (first | exact (Kd.C_below HR102_2.out HB.out) | (with_reducible refine Kd.C_alloc ?_ _) | (with_reducible refine Kd.C_drewN ?_ _) | (with_reducible refine Kd.C_drew ?_)))
          (case side2 => exact HC102_2.out)
          (case side3 => repeat (first | exact (Kd.C_below HR1_2.out HB.out) | (with_reducible refine Kd.C_alloc ?_ _) | (with_reducible refine Kd.C_drewN ?_ _) | (with_reducible refine Kd.C_drew ?_)))
          (case side4 => exact HC1_2.out)
          rintro e w14 ⟨rfl, hb⟩
          refine ⟨_, rfl, ?_⟩
          have n0_ := m0_ (blk_below (g := gb101) (o := .cells #[.int .i64 a1_0, .int .i64 a1_1, .slice A1_2 l1_2.length c1_2] 27 (0, 0)) (by (with_reducible repeat (first | refine blk_drewN ?_ _ | refine blk_drew ?_ | refine blk_alloc ?_ _)); exact BK101.out) hb)
          have n1_ := m0_ (below_step (by repeat (first | (with_reducible first | exact HB.out | apply below_alloc | apply pw_below_drewN | apply below_drew1 | refine below_set ?_ GE101.out) | exact HB.out)) hb)
          clear BK101
          clear HB
          have BK101 := n0_
          have HB := n1_
          clear n0_ n1_
          (try clear hb)
          (try clear hb2)
          (try clear hk)
          (try clear hi)
          refine hK.out _ _ ⟨(blk_cell BK101.out 0).trans rfl, (blk_cell BK101.out 1).trans rfl, (blk_cell BK101.out 2).trans rfl, ((HB.out.cell (World.block_lt_of_cell? w _ hw102_0)).trans hw102_0), ((HB.out.cell (World.block_lt_of_cell? w _ hw102_1)).trans hw102_1), ((HB.out.cell (World.block_lt_of_cell? w _ hw102_2)).trans hw102_2)⟩ (fun hHeld => ?_)
          clear hK K
          refine norm_ (a' := ?_) ?_ ?_
          rotate_left
          · show Act.put _ (some 30) _ = _
            simp only [Act.put, List.setIfInBounds_toArray, List.set_cons_zero, List.set_cons_succ, i64_w, i32_w]
            rfl
          refine pure_ (i := 7) (N := some 31) (v := ?_) (a' := ?_) #[true, true, true, true, true, true, true, true] rfl rfl (any_of HT_.out (by kernel_rfl)) (fun _ _ _ h => h) (Or.inl ⟨by rfl, ?_⟩) ?_ ?_
          rotate_left
          · intro w'
            go_simp
            with_reducible rfl
          rotate_left
          · simp only [Act.put, List.setIfInBounds_toArray, List.set_cons_zero, List.set_cons_succ, i64_w, i32_w]
            rfl
          refine done_ (done_of HT_.out (by kernel_rfl)) ?_
          try go_wp2
          go_roundg k1
          case measure => have := HK1.out; omega
          case rel => exact ⟨(x9_1), (ji6), (by first | rfl | (simp; done) | (simp [*]; done)), (by first | rfl | (simp; done) | (simp only [← hji6] <;> (first | rfl | simp)) | (simp [*]; done)), H', ⟨by have := HK1.out; omega⟩, ⟨by (with_reducible repeat (first | refine blk_drewN ?_ _ | refine blk_drew ?_ | refine blk_alloc ?_ _)); exact BK101.out⟩, ⟨by repeat (first | (with_reducible first | exact HB.out | apply below_alloc | apply pw_below_drewN | apply below_drew1 | refine below_set ?_ GE101.out) | exact HB.out)⟩⟩
        rw [if_pos c10] at H
        have c10b0 : decide (t103 < 0) = true := decide_eq_true c10
        clear c10
        have H' := m0_ H
        clear H
        try go_wp2
        have n0_ := m0_ (blk_drew BK101.out)
        have n1_ := m0_ (below_drew1 HB.out)
        clear BK101
        clear HB
        have BK101 := n0_
        have HB := n1_
        clear n0_ n1_
        have p102 : 0 ≤ ((ji6) : Int) := of_decide_eq_true (by first | (with_reducible assumption) | assumption)
        have q102 : (ji6) < (l0.length : Int) := of_decide_eq_true (by first | (with_reducible assumption) | assumption)
        obtain ⟨ad102, A102_2, c102_2, e102, hx102_0, hx102_1, hx102_2, hl102_2, hi102_2⟩ := at_T27 HR0.out (ji6) p102 q102
        have hw102_2 := hx102_2
        have hw102_1 := hx102_1
        have hw102_0 := hx102_0
        cases e102
        replace hx102_0 := (HB.out.cell (World.block_lt_of_cell? w _ hx102_0)).trans hx102_0
        replace hx102_1 := (HB.out.cell (World.block_lt_of_cell? w _ hx102_1)).trans hx102_1
        replace hx102_2 := (HB.out.cell (World.block_lt_of_cell? w _ hx102_2)).trans hx102_2
        have HR102_2 := m0_ hi102_2
        have HC102_2 := m0_ hl102_2
        clear hi102_2 hl102_2
        replace p102 := eq_true p102
        replace q102 := eq_true q102
        refine start_ (n := 8) (S := fun w' => w'.cell? ⟨gb101, 0, none⟩ = some (.int .i64 a1_0) ∧ w'.cell? ⟨gb101, 1, none⟩ = some (.int .i64 a1_1) ∧ w'.cell? ⟨gb101, 2, none⟩ = some (.slice A1_2 l1_2.length c1_2) ∧ w'.cell? (ad102.add (((ji6)).toNat * 3)) = some (.int .i64 ((rd_T27 l0 (ji6)).f0)) ∧ w'.cell? ⟨(ad102.add (((ji6)).toNat * 3)).block, (ad102.add (((ji6)).toNat * 3)).off + 1, none⟩ = some (.int .i64 ((rd_T27 l0 (ji6)).f1)) ∧ w'.cell? ⟨(ad102.add (((ji6)).toNat * 3)).block, (ad102.add (((ji6)).toNat * 3)).off + 2, none⟩ = some (.slice A102_2 ((rd_T27 l0 (ji6)).f2).length c102_2)) (ds := []) #[false, false, false, false, false, false, false, false] (by kernel_rfl) rfl rfl ⟨(blk_cell BK101.out 0).trans rfl, (blk_cell BK101.out 1).trans rfl, (blk_cell BK101.out 2).trans rfl, ((HB.out.cell (World.block_lt_of_cell? w _ hw102_0)).trans hw102_0), ((HB.out.cell (World.block_lt_of_cell? w _ hw102_1)).trans hw102_1), ((HB.out.cell (World.block_lt_of_cell? w _ hw102_2)).trans hw102_2)⟩ (fun hHeld => ?_); refine with_tabW impl_Occ_105.tab5 impl_Occ_105.bits5 (fun HT_ HW_ => ?_)
        generalize wr.drew = w11 at BK101 HB HR102_2 hx102_0 hx102_1 hx102_2 hHeld ⊢
        refine pure_ (i := 0) (N := some 24) (v := ?_) (a' := ?_) #[true, false, false, false, false, false, false, false] rfl rfl (any_of HT_.out (by kernel_rfl)) (fun _ _ _ h => h) (Or.inl ⟨by rfl, ?_⟩) ?_ ?_
        rotate_left
        · intro w'
          go_simp
          with_reducible rfl
        rotate_left
        · simp only [Act.put, List.setIfInBounds_toArray, List.set_cons_zero, List.set_cons_succ, i64_w, i32_w]
          rfl
        refine pure_ (i := 1) (N := some 25) (v := ?_) (a' := ?_) #[true, true, false, false, false, false, false, false] rfl rfl (any_of HT_.out (by kernel_rfl)) (fun _ _ _ h => h) (Or.inl ⟨by rfl, ?_⟩) ?_ ?_
        rotate_left
        · intro w'
          go_simp
          with_reducible rfl
        rotate_left
        · simp only [Act.put, List.setIfInBounds_toArray, List.set_cons_zero, List.set_cons_succ, i64_w, i32_w]
          rfl
        refine pure_ (i := 2) (N := some 26) (v := ?_) (a' := ?_) #[true, true, true, false, false, false, false, false] rfl rfl (any_of HT_.out (by kernel_rfl)) (fun _ _ _ h => h) (Or.inl ⟨by rfl, ?_⟩) ?_ ?_
        rotate_left
        · intro w'
          go_simp
          with_reducible rfl
        rotate_left
        · simp only [Act.put, List.setIfInBounds_toArray, List.set_cons_zero, List.set_cons_succ, i64_w, i32_w]
          rfl
        refine pure_ (i := 3) (N := some 27) (v := ?_) (a' := ?_) #[true, true, true, true, false, false, false, false] rfl rfl (any_of HT_.out (by kernel_rfl)) (fun _ _ _ h => h) (Or.inl ⟨by rfl, ?_⟩) ?_ ?_
        rotate_left
        · intro w'
          go_simp
          with_reducible rfl
        rotate_left
        · simp only [Act.put, List.setIfInBounds_toArray, List.set_cons_zero, List.set_cons_succ, i64_w, i32_w]
          rfl
        refine take_ (i := 4) (N := some 28) (v := ?_) (a' := ?_) #[true, true, true, true, true, false, false, false] rfl rfl (take_ofW HT_.out HW_.out (by kernel_rfl)) (fun _ _ _ h => h) (Or.inl ⟨by rfl, ?_⟩) hHeld ?_ ?_
        rotate_left
        · rintro w' ⟨s0, s1, s2, s3, s4, s5⟩
          go_simp
          with_reducible rfl
        rotate_left
        · simp only [Act.put, List.setIfInBounds_toArray, List.set_cons_zero, List.set_cons_succ, i64_w, i32_w]
          rfl
        refine take_ (i := 5) (N := some 29) (v := ?_) (a' := ?_) #[true, true, true, true, true, true, false, false] rfl rfl (take_ofW HT_.out HW_.out (by kernel_rfl)) (fun _ _ _ h => h) (Or.inl ⟨by rfl, ?_⟩) hHeld ?_ ?_
        rotate_left
        · rintro w' ⟨s0, s1, s2, s3, s4, s5⟩
          go_simp
          with_reducible rfl
        rotate_left
        · simp only [Act.put, List.setIfInBounds_toArray, List.set_cons_zero, List.set_cons_succ, i64_w, i32_w]
          rfl
        refine one_ (i := 6) (N := some 30) #[true, true, true, true, true, true, true, false] rfl rfl (one_of HT_.out (by kernel_rfl)) (by decide) (fun K hK => ?_)
        refine goesV_ Try.func71 (by kernel_rfl) rfl #[.agg #[.int .i64 ((rd_T27 l0 (ji6)).f0), .int .i64 ((rd_T27 l0 (ji6)).f1), .slice A102_2 ((rd_T27 l0 (ji6)).f2).length c102_2], .agg #[.int .i64 a1_0, .int .i64 a1_1, .slice A1_2 l1_2.length c1_2]] (by rfl) rfl rfl (by (try simp only [List.map_toArray, List.map_cons, List.map_nil]); first | done | (simp only [hji6]; rfl) | rfl | (simp only [List.length_drop, List.length_take]; rfl)) ?_
        with_reducible refine (impl_compare.calls k1 ((rd_T27 l0 (ji6)).f0) ((rd_T27 l0 (ji6)).f1) _ _ ((rd_T27 l0 (ji6)).f2) a1_0 a1_1 _ _ l1_2 t103 _ ?side1 ?side2 ?side3 ?side4 A9.out).mono ?_
        (case side1 => repeat (first | exact (Kd.C_below HR102_2.out HB.out) | (with_reducible refine Kd.C_alloc ?_ _) | (with_reducible refine Kd.C_drewN ?_ _) | (with_reducible refine Kd.C_drew ?_)))
        (case side2 => exact HC102_2.out)
        (case side3 => repeat (first | exact (Kd.C_below HR1_2.out HB.out) | (with_reducible refine Kd.C_alloc ?_ _) | (with_reducible refine Kd.C_drewN ?_ _) | (with_reducible refine Kd.C_drew ?_)))
        (case side4 => exact HC1_2.out)
        rintro e w12 ⟨rfl, hb⟩
        refine ⟨_, rfl, ?_⟩
        have n0_ := m0_ (blk_below (g := gb101) (o := .cells #[.int .i64 a1_0, .int .i64 a1_1, .slice A1_2 l1_2.length c1_2] 27 (0, 0)) (by (with_reducible repeat (first | refine blk_drewN ?_ _ | refine blk_drew ?_ | refine blk_alloc ?_ _)); exact BK101.out) hb)
        have n1_ := m0_ (below_step (by repeat (first | (with_reducible first | exact HB.out | apply below_alloc | apply pw_below_drewN | apply below_drew1 | refine below_set ?_ GE101.out) | exact HB.out)) hb)
        clear BK101
        clear HB
        have BK101 := n0_
        have HB := n1_
        clear n0_ n1_
        (try clear hb)
        (try clear hb2)
        (try clear hk)
        (try clear hi)
        refine hK.out _ _ ⟨(blk_cell BK101.out 0).trans rfl, (blk_cell BK101.out 1).trans rfl, (blk_cell BK101.out 2).trans rfl, ((HB.out.cell (World.block_lt_of_cell? w _ hw102_0)).trans hw102_0), ((HB.out.cell (World.block_lt_of_cell? w _ hw102_1)).trans hw102_1), ((HB.out.cell (World.block_lt_of_cell? w _ hw102_2)).trans hw102_2)⟩ (fun hHeld => ?_)
        clear hK K
        refine norm_ (a' := ?_) ?_ ?_
        rotate_left
        · show Act.put _ (some 30) _ = _
          simp only [Act.put, List.setIfInBounds_toArray, List.set_cons_zero, List.set_cons_succ, i64_w, i32_w]
          rfl
        refine pure_ (i := 7) (N := some 31) (v := ?_) (a' := ?_) #[true, true, true, true, true, true, true, true] rfl rfl (any_of HT_.out (by kernel_rfl)) (fun _ _ _ h => h) (Or.inl ⟨by rfl, ?_⟩) ?_ ?_
        rotate_left
        · intro w'
          go_simp
          with_reducible rfl
        rotate_left
        · simp only [Act.put, List.setIfInBounds_toArray, List.set_cons_zero, List.set_cons_succ, i64_w, i32_w]
          rfl
        refine done_ (done_of HT_.out (by kernel_rfl)) ?_
        try go_wp2
        go_roundg k1
        case measure => have := HK1.out; omega
        case rel => exact ⟨(wrap64 ((ji6) + 1)), (x10_1), (by first | rfl | (simp; done) | (simp only [← hji6] <;> (first | rfl | simp)) | (simp [*]; done)), (by first | rfl | (simp; done) | (simp [*]; done)), H', ⟨by have := HK1.out; omega⟩, ⟨by (with_reducible repeat (first | refine blk_drewN ?_ _ | refine blk_drew ?_ | refine blk_alloc ?_ _)); exact BK101.out⟩, ⟨by repeat (first | (with_reducible first | exact HB.out | apply below_alloc | apply pw_below_drewN | apply below_drew1 | refine below_set ?_ GE101.out) | exact HB.out)⟩⟩
      rw [if_neg c5] at H
      have c5b0 : decide (x9_1 < x10_1) = false := decide_eq_false c5
      clear c5
      by_cases c15 : x9_1 < (l0.length : Int)
      rotate_left
      · rw [if_neg c15] at H
        have c15b0 : decide (x9_1 < (l0.length : Int)) = false := decide_eq_false c15
        clear c15
        simp only [Option.some.injEq, Prod.mk.injEq] at H
        obtain ⟨rfl, rfl⟩ := H
        try go_wp2
        have n0_ := m0_ (blk_drew BK101.out)
        have n1_ := m0_ (below_drew1 HB.out)
        clear BK101
        clear HB
        have BK101 := n0_
        have HB := n1_
        clear n0_ n1_
        refine start_ (n := 16) (S := fun w' => True) (ds := []) #[false, false, false, false, false, false, false, false, false, false, false, false, false, false, false, false] (by kernel_rfl) rfl rfl trivial (fun hHeld => ?_); refine with_tabW impl_Occ_105.tab8 impl_Occ_105.bits8 (fun HT_ HW_ => ?_)
        generalize wr.drew = w21 at BK101 HB hHeld ⊢
        refine pure_ (i := 0) (N := some 35) (v := ?_) (a' := ?_) #[true, false, false, false, false, false, false, false, false, false, false, false, false, false, false, false] rfl rfl (any_of HT_.out (by kernel_rfl)) (fun _ _ _ h => h) (Or.inl ⟨by rfl, ?_⟩) ?_ ?_
        rotate_left
        · intro w'
          go_simp
          with_reducible rfl
        rotate_left
        · simp only [Act.put, List.setIfInBounds_toArray, List.set_cons_zero, List.set_cons_succ, i64_w, i32_w]
          rfl
        refine pure_ (i := 1) (N := some 36) (v := ?_) (a' := ?_) #[true, true, false, false, false, false, false, false, false, false, false, false, false, false, false, false] rfl rfl (any_of HT_.out (by kernel_rfl)) (fun _ _ _ h => h) (Or.inl ⟨by rfl, ?_⟩) ?_ ?_
        rotate_left
        · intro w'
          go_simp
          with_reducible rfl
        rotate_left
        · simp only [Act.put, List.setIfInBounds_toArray, List.set_cons_zero, List.set_cons_succ, i64_w, i32_w]
          rfl
        refine pure_ (i := 2) (N := some 37) (v := ?_) (a' := ?_) #[true, true, true, false, false, false, false, false, false, false, false, false, false, false, false, false] rfl rfl (any_of HT_.out (by kernel_rfl)) (fun _ _ _ h => h) (Or.inl ⟨by rfl, ?_⟩) ?_ ?_
        rotate_left
        · intro w'
          go_simp
          with_reducible rfl
        rotate_left
        · simp only [Act.put, List.setIfInBounds_toArray, List.set_cons_zero, List.set_cons_succ, i64_w, i32_w]
          rfl
        refine pure_ (i := 3) (N := some 38) (v := ?_) (a' := ?_) #[true, true, true, true, false, false, false, false, false, false, false, false, false, false, false, false] rfl rfl (any_of HT_.out (by kernel_rfl)) (fun _ _ _ h => h) (Or.inl ⟨by rfl, ?_⟩) ?_ ?_
        rotate_left
        · intro w'
          go_simp
          with_reducible rfl
        rotate_left
        · simp only [Act.put, List.setIfInBounds_toArray, List.set_cons_zero, List.set_cons_succ, i64_w, i32_w]
          rfl
        refine pure_ (i := 4) (N := some 39) (v := ?_) (a' := ?_) #[true, true, true, true, true, false, false, false, false, false, false, false, false, false, false, false] rfl rfl (any_of HT_.out (by kernel_rfl)) (fun _ _ _ h => h) (Or.inl ⟨by rfl, ?_⟩) ?_ ?_
        rotate_left
        · intro w'
          go_simp
          with_reducible rfl
        rotate_left
        · simp only [Act.put, List.setIfInBounds_toArray, List.set_cons_zero, List.set_cons_succ, i64_w, i32_w]
          rfl
        refine pure_ (i := 5) (N := some 40) (v := undef) (a' := ?_) #[true, true, true, true, true, true, false, false, false, false, false, false, false, false, false, false] rfl rfl (any_of HT_.out (by kernel_rfl)) (fun _ _ _ h => h) (Or.inr ⟨by rfl, rfl⟩) ?_ ?_
        rotate_left
        · simp only [Act.put, List.setIfInBounds_toArray, List.set_cons_zero, List.set_cons_succ, i64_w, i32_w]
          rfl
        refine pure_ (i := 6) (N := some 41) (v := undef) (a' := ?_) #[true, true, true, true, true, true, true, false, false, false, false, false, false, false, false, false] rfl rfl (any_of HT_.out (by kernel_rfl)) (fun _ _ _ h => h) (Or.inr ⟨by rfl, rfl⟩) ?_ ?_
        rotate_left
        · simp only [Act.put, List.setIfInBounds_toArray, List.set_cons_zero, List.set_cons_succ, i64_w, i32_w]
          rfl
        refine pure_ (i := 7) (N := some 42) (v := undef) (a' := ?_) #[true, true, true, true, true, true, true, true, false, false, false, false, false, false, false, false] rfl rfl (any_of HT_.out (by kernel_rfl)) (fun _ _ _ h => h) (Or.inr ⟨by rfl, rfl⟩) ?_ ?_
        rotate_left
        · simp only [Act.put, List.setIfInBounds_toArray, List.set_cons_zero, List.set_cons_succ, i64_w, i32_w]
          rfl
        refine pure_ (i := 8) (N := some 43) (v := undef) (a' := ?_) #[true, true, true, true, true, true, true, true, true, false, false, false, false, false, false, false] rfl rfl (any_of HT_.out (by kernel_rfl)) (fun _ _ _ h => h) (Or.inr ⟨by rfl, rfl⟩) ?_ ?_
        rotate_left
        · simp only [Act.put, List.setIfInBounds_toArray, List.set_cons_zero, List.set_cons_succ, i64_w, i32_w]
          rfl
        refine pure_ (i := 9) (N := some 44) (v := undef) (a' := ?_) #[true, true, true, true, true, true, true, true, true, true, false, false, false, false, false, false] rfl rfl (any_of HT_.out (by kernel_rfl)) (fun _ _ _ h => h) (Or.inr ⟨by rfl, rfl⟩) ?_ ?_
        rotate_left
        · simp only [Act.put, List.setIfInBounds_toArray, List.set_cons_zero, List.set_cons_succ, i64_w, i32_w]
          rfl
        refine pure_ (i := 10) (N := some 45) (v := undef) (a' := ?_) #[true, true, true, true, true, true, true, true, true, true, true, false, false, false, false, false] rfl rfl (any_of HT_.out (by kernel_rfl)) (fun _ _ _ h => h) (Or.inr ⟨by rfl, rfl⟩) ?_ ?_
        rotate_left
        · simp only [Act.put, List.setIfInBounds_toArray, List.set_cons_zero, List.set_cons_succ, i64_w, i32_w]
          rfl
        refine pure_ (i := 11) (N := some 46) (v := undef) (a' := ?_) #[true, true, true, true, true, true, true, true, true, true, true, true, false, false, false, false] rfl rfl (any_of HT_.out (by kernel_rfl)) (fun _ _ _ h => h) (Or.inr ⟨by rfl, rfl⟩) ?_ ?_
        rotate_left
        · simp only [Act.put, List.setIfInBounds_toArray, List.set_cons_zero, List.set_cons_succ, i64_w, i32_w]
          rfl
        refine pure_ (i := 12) (N := some 47) (v := undef) (a' := ?_) #[true, true, true, true, true, true, true, true, true, true, true, true, true, false, false, false] rfl rfl (any_of HT_.out (by kernel_rfl)) (fun _ _ _ h => h) (Or.inr ⟨by rfl, rfl⟩) ?_ ?_
        rotate_left
        · simp only [Act.put, List.setIfInBounds_toArray, List.set_cons_zero, List.set_cons_succ, i64_w, i32_w]
          rfl
        refine pure_ (i := 13) (N := some 48) (v := ?_) (a' := ?_) #[true, true, true, true, true, true, true, true, true, true, true, true, true, true, false, false] rfl rfl (any_of HT_.out (by kernel_rfl)) (fun _ _ _ h => h) (Or.inl ⟨by rfl, ?_⟩) ?_ ?_
        rotate_left
        · intro w'
          go_simp
          with_reducible rfl
        rotate_left
        · simp only [Act.put, List.setIfInBounds_toArray, List.set_cons_zero, List.set_cons_succ, i64_w, i32_w]
          rfl
        refine pure_ (i := 14) (N := some 6) (v := ?_) (a' := ?_) #[true, true, true, true, true, true, true, true, true, true, true, true, true, true, true, false] rfl rfl (any_of HT_.out (by kernel_rfl)) (fun _ _ _ h => h) (Or.inl ⟨by rfl, ?_⟩) ?_ ?_
        rotate_left
        · intro w'
          go_simp
          with_reducible rfl
        rotate_left
        · simp only [Act.put, List.setIfInBounds_toArray, List.set_cons_zero, List.set_cons_succ, i64_w, i32_w]
          rfl
        refine pure_ (i := 15) (N := some 7) (v := ?_) (a' := ?_) #[true, true, true, true, true, true, true, true, true, true, true, true, true, true, true, true] rfl rfl (any_of HT_.out (by kernel_rfl)) (fun _ _ _ h => h) (Or.inl ⟨by rfl, ?_⟩) ?_ ?_
        rotate_left
        · intro w'
          go_simp
          with_reducible rfl
        rotate_left
        · simp only [Act.put, List.setIfInBounds_toArray, List.set_cons_zero, List.set_cons_succ, i64_w, i32_w]
          rfl
        refine done_ (done_of HT_.out (by kernel_rfl)) ?_
        try go_wp2
        go_ret2
        exact ⟨by first | rfl | (simp [errW_none, errW_some] <;> rfl) | (simp [*, errW_none, errW_some] <;> rfl), by repeat (first | (with_reducible first | exact HB.out | apply below_alloc | apply pw_below_drewN | apply below_drew1 | refine below_set ?_ GE101.out) | exact HB.out)⟩
      rw [if_pos c15] at H
      have c15b0 : decide (x9_1 < (l0.length : Int)) = true := decide_eq_true c15
      clear c15
      by_cases c16 : 0 ≤ x9_1
      rotate_left
      · rw [if_neg c16] at H
        exact absurd H (by simp)
      rw [if_pos c16] at H
      have c16b0 : decide (0 ≤ x9_1) = true := decide_eq_true c16
      clear c16
      by_cases c17 : x9_1 < (l0.length : Int)
      rotate_left
      · rw [if_neg c17] at H
        exact absurd H (by simp)
      rw [if_pos c17] at H
      have c17b0 : decide (x9_1 < (l0.length : Int)) = true := decide_eq_true c17
      clear c17
      replace H := Option.bind_eq_some_iff.mp H
      obtain ⟨t105, A180, H⟩ := H
      replace H : (some (x9_1, (t105 == 0))) = some (r1, r2) := H
      have A18 := m0_ A180
      clear A180
      simp only [Option.some.injEq, Prod.mk.injEq] at H
      obtain ⟨rfl, rfl⟩ := H
      try go_wp2
      have n0_ := m0_ (blk_drew BK101.out)
      have n1_ := m0_ (below_drew1 HB.out)
      clear BK101
      clear HB
      have BK101 := n0_
      have HB := n1_
      clear n0_ n1_
      have p104 : 0 ≤ (x9_1 : Int) := of_decide_eq_true (by first | (with_reducible assumption) | assumption)
      have q104 : x9_1 < (l0.length : Int) := of_decide_eq_true (by first | (with_reducible assumption) | assumption)
      obtain ⟨ad104, A104_2, c104_2, e104, hx104_0, hx104_1, hx104_2, hl104_2, hi104_2⟩ := at_T27 HR0.out x9_1 p104 q104
      have hw104_2 := hx104_2
      have hw104_1 := hx104_1
      have hw104_0 := hx104_0
      cases e104
      replace hx104_0 := (HB.out.cell (World.block_lt_of_cell? w _ hx104_0)).trans hx104_0
      replace hx104_1 := (HB.out.cell (World.block_lt_of_cell? w _ hx104_1)).trans hx104_1
      replace hx104_2 := (HB.out.cell (World.block_lt_of_cell? w _ hx104_2)).trans hx104_2
      have HR104_2 := m0_ hi104_2
      have HC104_2 := m0_ hl104_2
      clear hi104_2 hl104_2
      replace p104 := eq_true p104
      replace q104 := eq_true q104
      refine start_ (n := 16) (S := fun w' => w'.cell? ⟨gb101, 0, none⟩ = some (.int .i64 a1_0) ∧ w'.cell? ⟨gb101, 1, none⟩ = some (.int .i64 a1_1) ∧ w'.cell? ⟨gb101, 2, none⟩ = some (.slice A1_2 l1_2.length c1_2) ∧ w'.cell? (ad104.add ((x9_1).toNat * 3)) = some (.int .i64 ((rd_T27 l0 x9_1).f0)) ∧ w'.cell? ⟨(ad104.add ((x9_1).toNat * 3)).block, (ad104.add ((x9_1).toNat * 3)).off + 1, none⟩ = some (.int .i64 ((rd_T27 l0 x9_1).f1)) ∧ w'.cell? ⟨(ad104.add ((x9_1).toNat * 3)).block, (ad104.add ((x9_1).toNat * 3)).off + 2, none⟩ = some (.slice A104_2 ((rd_T27 l0 x9_1).f2).length c104_2)) (ds := []) #[false, false, false, false, false, false, false, false, false, false, false, false, false, false, false, false] (by kernel_rfl) rfl rfl ⟨(blk_cell BK101.out 0).trans rfl, (blk_cell BK101.out 1).trans rfl, (blk_cell BK101.out 2).trans rfl, ((HB.out.cell (World.block_lt_of_cell? w _ hw104_0)).trans hw104_0), ((HB.out.cell (World.block_lt_of_cell? w _ hw104_1)).trans hw104_1), ((HB.out.cell (World.block_lt_of_cell? w _ hw104_2)).trans hw104_2)⟩ (fun hHeld => ?_); refine with_tabW impl_Occ_105.tab8 impl_Occ_105.bits8 (fun HT_ HW_ => ?_)
      generalize wr.drew = w19 at BK101 HB HR104_2 hx104_0 hx104_1 hx104_2 hHeld ⊢
      refine pure_ (i := 0) (N := some 35) (v := ?_) (a' := ?_) #[true, false, false, false, false, false, false, false, false, false, false, false, false, false, false, false] rfl rfl (any_of HT_.out (by kernel_rfl)) (fun _ _ _ h => h) (Or.inl ⟨by rfl, ?_⟩) ?_ ?_
      rotate_left
      · intro w'
        go_simp
        with_reducible rfl
      rotate_left
      · simp only [Act.put, List.setIfInBounds_toArray, List.set_cons_zero, List.set_cons_succ, i64_w, i32_w]
        rfl
      refine pure_ (i := 1) (N := some 36) (v := ?_) (a' := ?_) #[true, true, false, false, false, false, false, false, false, false, false, false, false, false, false, false] rfl rfl (any_of HT_.out (by kernel_rfl)) (fun _ _ _ h => h) (Or.inl ⟨by rfl, ?_⟩) ?_ ?_
      rotate_left
      · intro w'
        go_simp
        with_reducible rfl
      rotate_left
      · simp only [Act.put, List.setIfInBounds_toArray, List.set_cons_zero, List.set_cons_succ, i64_w, i32_w]
        rfl
      refine pure_ (i := 2) (N := some 37) (v := ?_) (a' := ?_) #[true, true, true, false, false, false, false, false, false, false, false, false, false, false, false, false] rfl rfl (any_of HT_.out (by kernel_rfl)) (fun _ _ _ h => h) (Or.inl ⟨by rfl, ?_⟩) ?_ ?_
      rotate_left
      · intro w'
        go_simp
        with_reducible rfl
      rotate_left
      · simp only [Act.put, List.setIfInBounds_toArray, List.set_cons_zero, List.set_cons_succ, i64_w, i32_w]
        rfl
      refine pure_ (i := 3) (N := some 38) (v := ?_) (a' := ?_) #[true, true, true, true, false, false, false, false, false, false, false, false, false, false, false, false] rfl rfl (any_of HT_.out (by kernel_rfl)) (fun _ _ _ h => h) (Or.inl ⟨by rfl, ?_⟩) ?_ ?_
      rotate_left
      · intro w'
        go_simp
        with_reducible rfl
      rotate_left
      · simp only [Act.put, List.setIfInBounds_toArray, List.set_cons_zero, List.set_cons_succ, i64_w, i32_w]
        rfl
      refine pure_ (i := 4) (N := some 39) (v := ?_) (a' := ?_) #[true, true, true, true, true, false, false, false, false, false, false, false, false, false, false, false] rfl rfl (any_of HT_.out (by kernel_rfl)) (fun _ _ _ h => h) (Or.inl ⟨by rfl, ?_⟩) ?_ ?_
      rotate_left
      · intro w'
        go_simp
        with_reducible rfl
      rotate_left
      · simp only [Act.put, List.setIfInBounds_toArray, List.set_cons_zero, List.set_cons_succ, i64_w, i32_w]
        rfl
      refine pure_ (i := 5) (N := some 40) (v := ?_) (a' := ?_) #[true, true, true, true, true, true, false, false, false, false, false, false, false, false, false, false] rfl rfl (any_of HT_.out (by kernel_rfl)) (fun _ _ _ h => h) (Or.inl ⟨by rfl, ?_⟩) ?_ ?_
      rotate_left
      · intro w'
        go_simp
        with_reducible rfl
      rotate_left
      · simp only [Act.put, List.setIfInBounds_toArray, List.set_cons_zero, List.set_cons_succ, i64_w, i32_w]
        rfl
      refine pure_ (i := 6) (N := some 41) (v := ?_) (a' := ?_) #[true, true, true, true, true, true, true, false, false, false, false, false, false, false, false, false] rfl rfl (any_of HT_.out (by kernel_rfl)) (fun _ _ _ h => h) (Or.inl ⟨by rfl, ?_⟩) ?_ ?_
      rotate_left
      · intro w'
        go_simp
        with_reducible rfl
      rotate_left
      · simp only [Act.put, List.setIfInBounds_toArray, List.set_cons_zero, List.set_cons_succ, i64_w, i32_w]
        rfl
      refine pure_ (i := 7) (N := some 42) (v := ?_) (a' := ?_) #[true, true, true, true, true, true, true, true, false, false, false, false, false, false, false, false] rfl rfl (any_of HT_.out (by kernel_rfl)) (fun _ _ _ h => h) (Or.inl ⟨by rfl, ?_⟩) ?_ ?_
      rotate_left
      · intro w'
        go_simp
        with_reducible rfl
      rotate_left
      · simp only [Act.put, List.setIfInBounds_toArray, List.set_cons_zero, List.set_cons_succ, i64_w, i32_w]
        rfl
      refine pure_ (i := 8) (N := some 43) (v := ?_) (a' := ?_) #[true, true, true, true, true, true, true, true, true, false, false, false, false, false, false, false] rfl rfl (any_of HT_.out (by kernel_rfl)) (fun _ _ _ h => h) (Or.inl ⟨by rfl, ?_⟩) ?_ ?_
      rotate_left
      · intro w'
        go_simp
        with_reducible rfl
      rotate_left
      · simp only [Act.put, List.setIfInBounds_toArray, List.set_cons_zero, List.set_cons_succ, i64_w, i32_w]
        rfl
      refine take_ (i := 9) (N := some 44) (v := ?_) (a' := ?_) #[true, true, true, true, true, true, true, true, true, true, false, false, false, false, false, false] rfl rfl (take_ofW HT_.out HW_.out (by kernel_rfl)) (fun _ _ _ h => h) (Or.inl ⟨by rfl, ?_⟩) hHeld ?_ ?_
      rotate_left
      · rintro w' ⟨s0, s1, s2, s3, s4, s5⟩
        go_simp
        with_reducible rfl
      rotate_left
      · simp only [Act.put, List.setIfInBounds_toArray, List.set_cons_zero, List.set_cons_succ, i64_w, i32_w]
        rfl
      refine take_ (i := 10) (N := some 45) (v := ?_) (a' := ?_) #[true, true, true, true, true, true, true, true, true, true, true, false, false, false, false, false] rfl rfl (take_ofW HT_.out HW_.out (by kernel_rfl)) (fun _ _ _ h => h) (Or.inl ⟨by rfl, ?_⟩) hHeld ?_ ?_
      rotate_left
      · rintro w' ⟨s0, s1, s2, s3, s4, s5⟩
        go_simp
        with_reducible rfl
      rotate_left
      · simp only [Act.put, List.setIfInBounds_toArray, List.set_cons_zero, List.set_cons_succ, i64_w, i32_w]
        rfl
      refine one_ (i := 11) (N := some 46) #[true, true, true, true, true, true, true, true, true, true, true, true, false, false, false, false] rfl rfl (one_of HT_.out (by kernel_rfl)) (by decide) (fun K hK => ?_)
      refine goesV_ Try.func71 (by kernel_rfl) rfl #[.agg #[.int .i64 ((rd_T27 l0 x9_1).f0), .int .i64 ((rd_T27 l0 x9_1).f1), .slice A104_2 ((rd_T27 l0 x9_1).f2).length c104_2], .agg #[.int .i64 a1_0, .int .i64 a1_1, .slice A1_2 l1_2.length c1_2]] (by rfl) rfl rfl (by (try simp only [List.map_toArray, List.map_cons, List.map_nil]); first | done | rfl | (simp only [List.length_drop, List.length_take]; rfl)) ?_
      with_reducible refine (impl_compare.calls k1 ((rd_T27 l0 x9_1).f0) ((rd_T27 l0 x9_1).f1) _ _ ((rd_T27 l0 x9_1).f2) a1_0 a1_1 _ _ l1_2 t105 _ ?side1 ?side2 ?side3 ?side4 A18.out).mono ?_
      (case side1 => repeat (first | exact (Kd.C_below HR104_2.out HB.out) | (with_reducible refine Kd.C_alloc ?_ _) | (with_reducible refine Kd.C_drewN ?_ _) | (with_reducible refine Kd.C_drew ?_)))
      (case side2 => exact HC104_2.out)
      (case side3 => repeat (first | exact (Kd.C_below HR1_2.out HB.out) | (with_reducible refine Kd.C_alloc ?_ _) | (with_reducible refine Kd.C_drewN ?_ _) | (with_reducible refine Kd.C_drew ?_)))
      (case side4 => exact HC1_2.out)
      rintro e w20 ⟨rfl, hb⟩
      refine ⟨_, rfl, ?_⟩
      have n0_ := m0_ (blk_below (g := gb101) (o := .cells #[.int .i64 a1_0, .int .i64 a1_1, .slice A1_2 l1_2.length c1_2] 27 (0, 0)) (by (with_reducible repeat (first | refine blk_drewN ?_ _ | refine blk_drew ?_ | refine blk_alloc ?_ _)); exact BK101.out) hb)
      have n1_ := m0_ (below_step (by repeat (first | (with_reducible first | exact HB.out | apply below_alloc | apply pw_below_drewN | apply below_drew1 | refine below_set ?_ GE101.out) | exact HB.out)) hb)
      clear BK101
      clear HB
      have BK101 := n0_
      have HB := n1_
      clear n0_ n1_
      (try clear hb)
      (try clear hb2)
      (try clear hk)
      (try clear hi)
      refine hK.out _ _ ⟨(blk_cell BK101.out 0).trans rfl, (blk_cell BK101.out 1).trans rfl, (blk_cell BK101.out 2).trans rfl, ((HB.out.cell (World.block_lt_of_cell? w _ hw104_0)).trans hw104_0), ((HB.out.cell (World.block_lt_of_cell? w _ hw104_1)).trans hw104_1), ((HB.out.cell (World.block_lt_of_cell? w _ hw104_2)).trans hw104_2)⟩ (fun hHeld => ?_)
      clear hK K
      refine norm_ (a' := ?_) ?_ ?_
      rotate_left
      · show Act.put _ (some 46) _ = _
        simp only [Act.put, List.setIfInBounds_toArray, List.set_cons_zero, List.set_cons_succ, i64_w, i32_w]
        rfl
      refine pure_ (i := 12) (N := some 47) (v := ?_) (a' := ?_) #[true, true, true, true, true, true, true, true, true, true, true, true, true, false, false, false] rfl rfl (any_of HT_.out (by kernel_rfl)) (fun _ _ _ h => h) (Or.inl ⟨by rfl, ?_⟩) ?_ ?_
      rotate_left
      · intro w'
        go_simp
        with_reducible rfl
      rotate_left
      · simp only [Act.put, List.setIfInBounds_toArray, List.set_cons_zero, List.set_cons_succ, i64_w, i32_w]
        rfl
      refine pure_ (i := 13) (N := some 48) (v := ?_) (a' := ?_) #[true, true, true, true, true, true, true, true, true, true, true, true, true, true, false, false] rfl rfl (any_of HT_.out (by kernel_rfl)) (fun _ _ _ h => h) (Or.inl ⟨by rfl, ?_⟩) ?_ ?_
      rotate_left
      · intro w'
        go_simp
        with_reducible rfl
      rotate_left
      · simp only [Act.put, List.setIfInBounds_toArray, List.set_cons_zero, List.set_cons_succ, i64_w, i32_w]
        rfl
      refine pure_ (i := 14) (N := some 6) (v := ?_) (a' := ?_) #[true, true, true, true, true, true, true, true, true, true, true, true, true, true, true, false] rfl rfl (any_of HT_.out (by kernel_rfl)) (fun _ _ _ h => h) (Or.inl ⟨by rfl, ?_⟩) ?_ ?_
      rotate_left
      · intro w'
        go_simp
        with_reducible rfl
      rotate_left
      · simp only [Act.put, List.setIfInBounds_toArray, List.set_cons_zero, List.set_cons_succ, i64_w, i32_w]
        rfl
      refine pure_ (i := 15) (N := some 7) (v := ?_) (a' := ?_) #[true, true, true, true, true, true, true, true, true, true, true, true, true, true, true, true] rfl rfl (any_of HT_.out (by kernel_rfl)) (fun _ _ _ h => h) (Or.inl ⟨by rfl, ?_⟩) ?_ ?_
      rotate_left
      · intro w'
        go_simp
        with_reducible rfl
      rotate_left
      · simp only [Act.put, List.setIfInBounds_toArray, List.set_cons_zero, List.set_cons_succ, i64_w, i32_w]
        rfl
      refine done_ (done_of HT_.out (by kernel_rfl)) ?_
      try go_wp2
      go_ret2
      exact ⟨by first | rfl | (simp [errW_none, errW_some] <;> rfl) | (simp [*, errW_none, errW_some] <;> rfl), by repeat (first | (with_reducible first | exact HB.out | apply below_alloc | apply pw_below_drewN | apply below_drew1 | refine below_set ?_ GE101.out) | exact HB.out)⟩

end Go.Proofs.Ytiplpckgmikmeaa.M
