/- What the claim's law leans on: the program's functions, what they compute, and the law over plain values; no condition is asked. (Part 2 of 5.) -/
import Derived.Test.YtiplpckgmikmeaaCLawsFnPlusOr1
import Derived.Test.YtiplpckgmikmeaaVFnPlusOrWords
import Derived.Test.YtiplpckgmikmeaaVFnPlusOrLast
import Derived.Laws.CopyOwn
import Derived.Laws.CopyRow
import Derived.Lib.Overlaps
import Derived.Lib.AppendZerosOnto
import Derived.Laws.Externs
import Derived.Laws.NewBlocks
import Derived.Deep.RegionLaw
import Derived.Lib.SliceRun
import Derived.Shelf.RegionOpenPlain
import Derived.Test.YtiplpckgmikmeaaVFnPlusOrRepsOne
import Derived.Test.YtiplpckgmikmeaaVFnPlusOrNEv
namespace Go.Proofs.Ytiplpckgmikmeaa.M
open Go.RowKit Go.Proofs.YtiplpckgmikmeaaW.PrintWords Go.Proofs.YtiplpckgmikmeaaW.PrintLast Go.Proofs.YtiplpckgmikmeaaW.PrintMore
attribute [local go_sem] max2_int min2_int max_two min_two max_three min_three max_four min_four
set_option linter.unusedVariables false
set_option linter.unusedSimpArgs false

def impl_few.f (k : Nat) (l0 : List (S27)) : Option ((List (S27)) × Bool) := if (l0.length : Int) > 40 then (some (([] : List (S27)), false)) else ((impl_cloneOccs.f k l0).bind fun t101 => (some (t101, true)))
set_option maxHeartbeats 8000000 in
set_option maxRecDepth 100000 in
theorem impl_few.calls (k : Nat) (A0 : Option Addr) (c0 : Nat) (l0 : List (S27)) (r1 : List (S27)) (r2 : Bool) (w : World) (hr0 : Kd.C k27 w A0 l0.length l0) (hc0 : l0.length ≤ c0) (h : impl_few.f k l0 = some (r1, r2)) :
  Calls Try.prog 88 #[.slice A0 l0.length c0] w fun e w' => ∃ v0_ : Value, e = .returned (.tuple #[v0_, .bool r2]) ∧ Kd.S k27 27 w' w.heap.size (fun _ => True) v0_ r1 ∧ Below w.heap.size w w' := by
 have HR0 := Aside0.mk hr0
 have HC0 := Aside0.mk hc0
 clear hr0 hc0
 have HB := Aside0.mk (Below.refl w.heap.size w)
 have H : (if (l0.length : Int) > 40 then (some (([] : List (S27)), false)) else ((impl_cloneOccs.f k l0).bind fun t101 => (some (t101, true)))) = some (r1, r2) := h
 clear h
 by_cases c2 : (l0.length : Int) > 40
 ·rw [if_pos c2] at H
  have c2b0 : decide (40 < (l0.length : Int)) = true := decide_eq_true c2
  have c2b1 : decide (40 < l0.length) = true := decide_eq_true (by omega)
  clear c2
  simp only [Option.some.injEq, Prod.mk.injEq] at H
  obtain ⟨rfl, rfl⟩ := H
  go_enter Try.func88, Try.ntmps88
  go_wp2
  go_ret2
  exact ⟨_, by first | rfl | (simp [errW_none, errW_some] <;> rfl) | (simp [*, errW_none, errW_some] <;> rfl), by first | exact Kd.S_nil _ _ _ _ _ | exact Kd.N_nil _ _ _ _ _ | exact Kd.V_nil _ _ _ _ _ | exact Kd.Q_nil _ _ _ _ _ | exact Kd.R_nil _ _ _ _ _, by repeat (first | (with_reducible first | exact HB.out | apply below_alloc | apply pw_below_drewN | apply below_drew1) | exact HB.out)⟩
 ·rw [if_neg c2] at H
  have c2b0 : decide (40 < (l0.length : Int)) = false := decide_eq_false c2
  have c2b1 : decide (40 < l0.length) = false := decide_eq_false (by omega)
  clear c2
  replace H := Option.bind_eq_some_iff.mp H
  obtain ⟨t101, A30, H⟩ := H
  replace H : (some (t101, true)) = some (r1, r2) := H
  have A3 := Aside0.mk A30
  clear A30
  simp only [Option.some.injEq, Prod.mk.injEq] at H
  obtain ⟨rfl, rfl⟩ := H
  go_enter Try.func88, Try.ntmps88
  go_wp2_with (first | ((with_reducible refine gate_callee (f := 84) rfl ?_);refine goesL_ (some 8) rfl rfl Try.func84 (by kernel_rfl) rfl #[.slice A0 l0.length c0] rfl (by (try simp only [List.map_toArray, List.map_cons, List.map_nil]);first | done | rfl | (simp only [List.length_drop, List.length_take];rfl)) ?_;(with_reducible refine (impl_cloneOccs.calls k _ _ l0 t101 _ ?side1 ?side2 A3.out).mono ?_);(case side1 => repeat (first | exact HR0.out | (with_reducible refine Kd.C_alloc ?_ _) | (with_reducible refine Kd.C_drewN ?_ _) | (with_reducible refine Kd.C_drew ?_)));(case side2 => exact HC0.out);rintro e w4 ⟨v102, rfl, ho0, hb⟩;refine ⟨_, rfl, ?_⟩;have HO103 := Aside0.mk (Kd.S_lower ho0 (below_size (by exact HB.out)));replace HB := Aside0.mk (below_step (by exact HB.out) hb);(try clear hb);(try clear hb2);(try clear hk);(try clear hi);(try clear ho0)))
  go_ret2
  exact ⟨_, by first | rfl | (simp [errW_none, errW_some] <;> rfl) | (simp [*, errW_none, errW_some] <;> rfl), by (with_reducible repeat (first | apply Kd.S_alloc | apply Kd.S_drewN | apply Kd.S_drew));exact HO103.out, by repeat (first | (with_reducible first | exact HB.out | apply below_alloc | apply pw_below_drewN | apply below_drew1) | exact HB.out)⟩

end Go.Proofs.Ytiplpckgmikmeaa.M
namespace Go.Proofs.Ytiplpckgmikmeaa.M
set_option linter.unusedVariables false
set_option linter.unusedSimpArgs false
open Go.RowKit Go.Proofs.YtiplpckgmikmeaaW.PrintWords Go.Proofs.YtiplpckgmikmeaaW.PrintLast

theorem w_small {i : Int} (h0 : -9223372036854775808 ≤ i) (h1 : i ≤ 9223372036854775807) : wrap64 i = i := by
  unfold wrap64
  omega
theorem w_succ {n : Nat} (h : n < 9223372036854775807) : wrap64 ((n : Int) + 1) = ((n + 1 : Nat) : Int) := by
  unfold wrap64
  omega
theorem drop_at {α : Type} (xs : List α) (z : α) (n : Nat) (h : n < xs.length) : xs.drop n = xs.getD n z :: xs.drop (n + 1) := by
  rw [List.drop_eq_getElem_cons h, List.getD_eq_getElem?_getD, List.getElem?_eq_getElem h]
  rfl
theorem Ev.one {α : Type} {g : Nat → Option α} {r : α} (h : ∀ k, g k = some r) : Ev g r := ⟨0, fun k _ => h k⟩
theorem Ev.last {α : Type} {g : Nat → Option α} {r : α} (h : ∀ k, g (k + 1) = some r) : Ev g r := Ev.step (f := fun _ => some r) h (Ev.now r)
theorem Ev.bindS {α β : Type} {g : Nat → Option α} {f : α → Option β} {a : α} {r : β} (h : Ev g a) (k : f a = some r) : Ev (fun n => (g n).bind f) r := Ev.bind (f := fun _ => f) h (Ev.one (fun _ => k))
theorem Ev.pos {α : Type} {c : Prop} [Decidable c] {g f : Nat → Option α} {r : α} (h : c) (k : Ev g r) : Ev (fun n => if c then g n else f n) r := Ev.congr (fun _ => if_pos h) k
theorem Ev.neg {α : Type} {c : Prop} [Decidable c] {g f : Nat → Option α} {r : α} (h : ¬ c) (k : Ev f r) : Ev (fun n => if c then g n else f n) r := Ev.congr (fun _ => if_neg h) k
theorem Ev.val {α : Type} {g : Nat → Option α} {r r' : α} (h : Ev g r) (e : r = r') : Ev g r' := e ▸ h
theorem filter_snoc {α : Type} (p : α → Bool) (xs : List α) (x : α) : (xs ++ [x]).filter p = xs.filter p ++ if p x then [x] else [] := by
  rw [List.filter_append]
  by_cases h : p x = true
  · simp [h]
  · simp [h]
end Go.Proofs.Ytiplpckgmikmeaa.M
namespace Go.Proofs.Ytiplpckgmikmeaa.M
set_option linter.unusedVariables false
set_option linter.unusedSimpArgs false
open Go Go.RowKit Go.Proofs.YtiplpckgmikmeaaW.PrintWords Go.Proofs.YtiplpckgmikmeaaW.PrintLast Go.Proofs.YtiplpckgmikmeaaW.PrintMore

theorem run_copy_rows {P : Program} (w : World) (dT sT ty elem : TypeId) (g o dLen dCap : Nat) (a : Addr) (sLen sCap size : Nat) (cur : Array Value) (t : TypeId) (cs : List Value)
    (hu : P.underlying dT = some (.slice elem)) (hs : (P.info? elem).map (·.size) = some size)
    (hg : w.heap[g]? = some (.cells cur t (0, 0))) (hn : cs.length = Nat.min sLen dLen * size)
    (hsrc : ∀ j v, cs[j]? = some v → w.cell? (a.add j) = some v) (hfit : o + cs.length ≤ cur.size) (h1 : ∀ v ∈ cs, v.oneCell' = true) :
    (Builtin.copy_ #[dT, sT] ty #[.slice (some ⟨g, o, none⟩) dLen dCap, .slice (some a) sLen sCap]).run P w =
      .ok (goInt (Nat.min sLen dLen)) (w.setRow g (cur.toList.take o ++ cs ++ cur.toList.drop (o + cs.length)).toArray) := by
  have hl := run_loadCells_list (P := P) w a cs hsrc
  have hst := run_storeCells_at P g o t cs 0 cur w hg (by simpa using hfit) h1
  cases hq : P.info? elem with
  | none => simp [hq] at hs
  | some i =>
    have hi : i.size = size := by simpa [hq] using hs
    have hl' : (loadCells a (Nat.min sLen dLen * size)).run P w = .ok cs.toArray w := by rw [← hn]; exact hl
    have hl'' : (loadCells a (min sLen dLen * size)).run P w = .ok cs.toArray w := hl'
    simp [Builtin.copy_, run_underlying hu, Builtin.lenOf, Builtin.firstCells, sizeOf, typeInfo, hq, hi, hl', hl'', hst]
theorem copy_rows {P : Program} {w : World} {ops : Array Oper} {rest : List Oper} {o : Oper} {a : Act} {Q : Exit → Act → World → Prop} (hgd : o.guard = none) (d s : Operand) (dT sT : TypeId)
    (ho : o.op = .call { callee := .builtin .copy, args := #[d, s], argTypes := #[dT, sT] }) (elem : TypeId) (size : Nat) (hu : P.underlying dT = some (.slice elem)) (hsz : (P.info? elem).map (·.size) = some size)
    (g off dLen dCap : Nat) (ad : Addr) (sLen sCap : Nat) (hd : a.eval d = .slice (some ⟨g, off, none⟩) dLen dCap) (hs : a.eval s = .slice (some ad) sLen sCap)
    (cur : List Value) (t : TypeId) (hg : w.heap[g]? = some (.cells cur.toArray t (0, 0))) (cs : List Value) (hn : cs.length = Nat.min sLen dLen * size)
    (hsrc : ∀ j v, cs[j]? = some v → w.cell? (ad.add j) = some v) (hfit : off + cs.length ≤ cur.length) (h1 : ∀ v ∈ cs, v.oneCell' = true) (B : Nat) (w0 : World) (hb : Below B w0 w) (hBg : B ≤ g)
    (h : ∀ w', w'.heap[g]? = some (.cells (splice cur off cs).toArray t (0, 0)) → (∀ k, k ≠ g → w'.heap[k]? = w.heap[k]?) → Below B w0 w' → wpList P ops Q rest (a.put o.dst (goInt (Nat.min sLen dLen))) w') : wpList P ops Q (o :: rest) a w := by
  refine wpList_plain hgd fun K hK => ?_
  have hrun := run_copy_rows (P := P) w dT sT o.type elem g off dLen dCap ad sLen sCap size cur.toArray t cs hu hsz hg hn hsrc (by simpa using hfit) h1
  unfold Oper.wp
  simp [execOp, ho, resolve, invoke, builtin, hd, hs, hrun, Result.andThen]
  exact hK _ _ (h _ (show _ = _ by simpa [splice] using setRow_heap w g _ _ t _ hg) (fun k hk => setRow_other w g k _ hk) (below_setRow hb hBg _))
theorem step_copy_rows {P : Program} {ops : Array Oper} {o : Oper} {a : Act} {w : World} {K : Act → World → Prop} {Q : Exit → Act → World → Prop} {E : Prop} (hgd : o.guard = none) (d s : Operand) (dT sT : TypeId)
    (ho : o.op = .call { callee := .builtin .copy, args := #[d, s], argTypes := #[dT, sT] }) (elem : TypeId) (size : Nat) (hu : P.underlying dT = some (.slice elem)) (hsz : (P.info? elem).map (·.size) = some size)
    (g off dLen dCap : Nat) (ad : Addr) (sLen sCap : Nat) (hd : a.eval d = .slice (some ⟨g, off, none⟩) dLen dCap) (hs : a.eval s = .slice (some ad) sLen sCap)
    (cur : List Value) (t : TypeId) (hg : w.heap[g]? = some (.cells cur.toArray t (0, 0))) (cs : List Value) (hn : cs.length = Nat.min sLen dLen * size)
    (hsrc : ∀ j v, cs[j]? = some v → w.cell? (ad.add j) = some v) (hfit : off + cs.length ≤ cur.length) (h1 : ∀ v ∈ cs, v.oneCell' = true) (B : Nat) (w0 : World) (hb : Below B w0 w) (hBg : B ≤ g)
    (h : ∀ w', w'.heap[g]? = some (.cells (splice cur off cs).toArray t (0, 0)) → (∀ k, k ≠ g → w'.heap[k]? = w.heap[k]?) → Below B w0 w' → K (a.put o.dst (goInt (Nat.min sLen dLen))) w') :
    if Region.wanted o (yielded ops a.tmps) = true then Oper.wp P o a w K Q else E := by
  rw [if_pos (by simp [Region.wanted, hgd])]
  have hrun := run_copy_rows (P := P) w dT sT o.type elem g off dLen dCap ad sLen sCap size cur.toArray t cs hu hsz hg hn hsrc (by simpa using hfit) h1
  unfold Oper.wp
  simp [execOp, ho, resolve, invoke, builtin, hd, hs, hrun, Result.andThen]
  exact h _ (show _ = _ by simpa [splice] using setRow_heap w g _ _ t _ hg) (fun k hk => setRow_other w g k _ hk) (below_setRow hb hBg _)
theorem cut_room {P : Program} (t e : TypeId) (kh : IntKind) {i : TypeInfo} (ht : P.underlying t = some (.slice e)) (hi : P.info? e = some i) (A : Option Addr) (n c : Nat) (j : Int) (h0 : 0 ≤ j) (hm : j ≤ c) :
    ∀ W : World, (Instr.slice t (.slice A n c) none (some (.int kh j)) none).run P W = .ok (.slice A j.toNat c) W := by
  intro W
  have hel : P.elem t = e := by simp [Program.elem, ht]
  have hu : P.underlying t = some (.slice (P.elem t)) := by rw [hel]; exact ht
  have ha : (A.map fun x => x.add 0) = A := by cases A <;> simp [Addr.add]
  rw [run_slice_h W t A n c hu kh j h0 (by omega), hel]
  simp [sizeOf, typeInfo, hi, sliced, Result.andThen, ha]
theorem cell_of_row {w : World} {g o : Nat} {cur : List Value} {t : TypeId} (hg : w.heap[g]? = some (.cells cur.toArray t (0, 0))) {j : Nat} {v : Value} (h : cur[o + j]? = some v) : w.cell? ((⟨g, o, none⟩ : Addr).add j) = some v := by
  have e : (⟨g, o, none⟩ : Addr).add j = ⟨g, o + j, none⟩ := by simp [Addr.add]
  rw [e]
  simp [World.cell?, hg, h]
set_option maxHeartbeats 4000000 in
set_option maxRecDepth 100000 in
theorem Clone_walk (A : Option Addr) (n c : Nat) (xs : List Value) (w : World) (hl : xs.length = n * 3) (hn : n < 1099511627776) (hc : ∀ ad, A = some ad → ∀ j u, xs[j]? = some u → w.cell? (ad.add j) = some u) (h0 : A = none → n = 0) (h1 : ∀ u ∈ xs, u.oneCell' = true) :
    Calls Try.prog 107 #[.slice A n c] w fun e w' => ∃ v', e = .returned v' ∧ w'.ownsRow w.heap.size 27 3 v' n xs ∧ Below w.heap.size w w' := by
  have hu := Try.underlying34
  obtain ⟨i0, hi0, hz0, hsz, hby⟩ := info_parts info27
  cases A with
  | none =>
    have q22 : ∀ (w : World) (a : Option Addr) (n c n' c' : Nat), (binOp .eql 34 (.slice a n c) (.slice none n' c')).run Try.prog w = .ok (.bool a.isNone) w := fun w a n c n' c' => Lib.run_eql_slice_nil w _ _ a n c n' c' hu
    obtain rfl := h0 rfl
    have hx : xs = [] := List.eq_nil_of_length_eq_zero (by omega)
    subst hx
    clear hc h0 h1 hl
    go_enter Try.func107, Try.ntmps107
    go_wp2
    go_ret
    exact ⟨_, rfl, ⟨rfl, .inl ⟨rfl, rfl⟩⟩, Below.refl _ _⟩
  | some ad =>
    have q22 : ∀ (w : World) (a : Option Addr) (n c n' c' : Nat), (binOp .eql 34 (.slice a n c) (.slice none n' c')).run Try.prog w = .ok (.bool a.isNone) w := fun w a n c n' c' => Lib.run_eql_slice_nil w _ _ a n c n' c' hu
    have HC := Aside0.mk (hc ad rfl)
    have H1 := Aside0.mk h1
    have HL := Aside0.mk hl
    have HN := Aside0.mk hn
    have HI := Aside0.mk hi0
    have HZ := Aside0.mk hz0
    have HSZ := Aside0.mk hsz
    have HBY := Aside0.mk hby
    clear hc h1 hl h0 hi0 hz0 hsz hby hn
    go_enter Try.func107, Try.ntmps107
    go_wp2_with (at_builtin; refine wpList_append_own _ rfl _ _ 34 rfl w.heap.size 27 i0 (.agg #[(.int .i64 0), (.int .i64 0), (.slice none 0 0)]) 3 40 hu HI.out HZ.out HSZ.out HBY.out rfl (by decide) _ _ _ rfl (World.ownsRow_made w #[] 0 (Nat.le_refl _) (Nat.zero_le _) (by simp)) ad n c xs rfl ?qc1 ?qc2 ?qc3 ?qc4 ?qc5 ?qc6 ?_)
    case qc1 => exact HL.out
    case qc2 => exact fun j u hj => Lib.cell?_alloc_some _ (HC.out j u hj)
    case qc3 => exact H1.out
    case qc4 => have := HN.out; unfold maxLen; omega
    case qc5 => have := HN.out; omega
    case qc6 => simp
    intro v' w1 hown hgrow _
    go_wp2
    go_ret
    exact ⟨v', rfl, by simpa using hown, ((Below.refl _ w).alloc (Nat.le_refl _) _).grown hgrow (by simp) (by intro k hk; simp [Value.ownBlock] at hk; omega)⟩
theorem splice_in (cur vs : List Value) (i n : Nat) (hv : vs.length = 3) (hi : i ≤ n) (hl : (n + 1) * 3 ≤ cur.length) :
    (splice (splice cur ((i + 1) * 3) ((cur.take (n * 3)).drop (i * 3))) (i * 3) vs).take ((n + 1) * 3) = (cur.take (n * 3)).take (i * 3) ++ vs ++ (cur.take (n * 3)).drop (i * 3) := by
  have l1 : ((cur.take (n * 3)).drop (i * 3)).length = n * 3 - i * 3 := by rw [List.length_drop, List.length_take]; omega
  apply List.ext_getElem?
  intro j
  unfold splice
  have l2 : (cur.take ((i + 1) * 3)).length = (i + 1) * 3 := by rw [List.length_take]; omega
  have l3 : ((List.take (i * 3) (List.take ((i + 1) * 3) cur ++ (List.drop (i * 3) (List.take (n * 3) cur) ++ List.drop ((i + 1) * 3 + (List.drop (i * 3) (List.take (n * 3) cur)).length) cur)))).length = i * 3 := by
    rw [List.length_take, List.length_append, l2]; omega
  have l4 : (List.take (i * 3) (List.take (n * 3) cur)).length = i * 3 := by rw [List.length_take, List.length_take]; omega
  by_cases hj : j < (n + 1) * 3
  · rw [List.getElem?_take_of_lt hj]
    by_cases h1 : j < i * 3
    · rw [List.getElem?_append_left (by rw [l3]; exact h1), List.getElem?_take_of_lt h1, List.getElem?_append_left (by rw [l2]; omega), List.getElem?_take_of_lt (by omega)]
      rw [List.append_assoc, List.getElem?_append_left (by rw [l4]; exact h1), List.getElem?_take_of_lt h1, List.getElem?_take_of_lt (by omega)]
    · rw [List.getElem?_append_right (by rw [l3]; omega), l3, List.append_assoc (List.take (i * 3) (List.take (n * 3) cur)), List.getElem?_append_right (l₁ := List.take (i * 3) (List.take (n * 3) cur)) (by rw [l4]; omega), l4]
      by_cases h2 : j - i * 3 < vs.length
      · rw [List.getElem?_append_left h2, List.getElem?_append_left h2]
      · rw [List.getElem?_append_right (by omega), List.getElem?_append_right (by omega), List.getElem?_drop, List.getElem?_append_right (by rw [l2]; omega), l2, List.getElem?_append_left (by rw [l1]; omega)]
        congr 1
        omega
  · rw [List.getElem?_eq_none (by rw [List.length_take]; omega), List.getElem?_eq_none (by rw [List.length_append, List.length_append, l4, l1]; omega)]
set_option maxHeartbeats 4000000 in
set_option maxRecDepth 100000 in
theorem Insert_room (g n c i vb : Nat) (cur vs : List Value) (base : Nat) (w0 w : World) (hB : Below base w0 w) (hbg : base ≤ g) (hg : w.heap[g]? = some (.cells cur.toArray 27 (0, 0))) (hcl : cur.length = c * 3) (hi : i < n) (hroom : n + 1 ≤ c) (hc : c ≤ maxLen)
    (hv : w.heap[vb]? = some (.cells vs.toArray 27 (0, 0))) (hvl : vs.length = 3) (hne : vb ≠ g) (h1c : ∀ u ∈ cur.take (n * 3), u.oneCell' = true) (h1v : ∀ u ∈ vs, u.oneCell' = true) :
    Calls Try.prog 106 #[.slice (some ⟨g, 0, none⟩) n c, .int .i64 i, .slice (some ⟨vb, 0, none⟩) 1 1] w fun e w' => e = .returned (.slice (some ⟨g, 0, none⟩) (n + 1) c) ∧ w'.heap[g]? = some (.cells (splice (splice cur ((i + 1) * 3) ((cur.take (n * 3)).drop (i * 3))) (i * 3) vs).toArray 27 (0, 0)) ∧ Below base w0 w' := by
  have hu := Try.underlying34
  obtain ⟨i0, hi0, hz0, hsz, hby⟩ := info_parts info27
  have hc' : c ≤ 9223372036854775807 := by unfold maxLen at hc; omega
  have hsz3 : (Try.prog.info? 27).map (·.size) = some 3 := by rw [hi0]; simp [hsz]
  have hsz' : ∀ w, (Go.sizeOf 27).run Try.prog w = .ok 3 w := fun w => by simp [sizeOf, typeInfo, hi0, hsz]
  have hov : ∀ lb cb, (callFunc 113 #[.slice (some ⟨vb, 0, none⟩) 1 1, .slice (some ⟨g, (i + 1) * 3, none⟩) lb cb]).run Try.prog w = .ok (.value (.bool false)) w := fun lb cb => by
    rw [run_callFunc_extern Try.func113 (by kernel_rfl) (by kernel_rfl) (by kernel_rfl) (e := Extern.SlicesOverlaps.overlaps #[34, 34] #[4]) (by kernel_rfl),
      Lib.run_overlaps_apart w 34 4 27 hu 3 hsz' ⟨vb, 0, none⟩ ⟨g, (i + 1) * 3, none⟩ 1 1 lb cb hne 27 27 vs.length cur.length (by simp [World.shape?, hv]) (by simp [World.shape?, hg]) (by omega) (by simp [World.frozen?, hv]) (by simp [World.frozen?, hv])]
    rfl
  have hw1 : IntKind.i64.wrap ((i : Int) + 1) = (i : Int) + 1 := by rw [IntKind.wrap_i64]; omega
  have hw2 : IntKind.i64.wrap ((n : Int) + 1) = (n : Int) + 1 := by rw [IntKind.wrap_i64]; omega
  have hb1 : (0 : Int) ≤ (i : Int) + 1 := by omega
  have htn : ((i : Int) + 1).toNat = i + 1 := by omega
  have HV := Aside0.mk hv
  have HG := Aside0.mk hg
  have HB := Aside0.mk hB
  have HBG := Aside0.mk hbg
  have hcut1 := cut_from (P := Try.prog) 34 27 .i64 hu hi0 3 hsz (some ⟨g, 0, none⟩) n c (i : Int) (by omega) (by omega)
  have hcut2 := cut_room (P := Try.prog) 34 27 .i64 hu hi0 (some ⟨g, 0, none⟩) n c ((n : Int) + 1) (by omega) (by omega)
  have hcut3 := cut_from (P := Try.prog) 34 27 .i64 hu hi0 3 hsz (some ⟨g, 0, none⟩) (n + 1) c ((i : Int) + 1) (by omega) (by omega)
  have hcut4 := cut_from (P := Try.prog) 34 27 .i64 hu hi0 3 hsz (some ⟨g, 0, none⟩) (n + 1) c (i : Int) (by omega) (by omega)
  rw [htn, if_neg (by omega)] at hcut3
  rw [Int.toNat_natCast, if_neg (by omega)] at hcut1 hcut4
  rw [show ((n : Int) + 1).toNat = n + 1 by omega] at hcut2
  simp only [Option.map_some, Addr.add_lit, Nat.zero_add] at hcut1 hcut3 hcut4
  have hz1 : ¬ ((1 : Int) = 0) := by omega
  have hz2 : ¬ ((i : Int) = (n : Int)) := by omega
  have hz3 : ¬ ((c : Int) < (n : Int) + 1) := by omega
  clear hv hg hB hbg
  obtain ⟨o1, ho1⟩ : ∃ o1, o1 = i * 3 := ⟨_, rfl⟩
  obtain ⟨o2, ho2⟩ : ∃ o2, o2 = (i + 1) * 3 := ⟨_, rfl⟩
  rw [← ho1] at hcut1 hcut4 ⊢
  rw [← ho2] at hcut3 hov ⊢
  have HO1 := Aside0.mk ho1
  have HO2 := Aside0.mk ho2
  clear ho1 ho2
  go_enter Try.func106, Try.ntmps106
  go_upto_region 15 with (simp only [hov])
  have hcs : ((cur.take (n * 3)).drop o1).length = (n - i) * 3 := by rw [HO1.out, List.length_drop, List.length_take, hcl, Nat.sub_mul]; omega
  have HCS := Aside0.mk hcs
  have HCL := Aside0.mk hcl
  clear hcs hcl
  have mixed : Try.prog.follows .mixedOrders = true := by kernel_rfl
  go_region_law_o (refine step_copy_rows rfl _ _ 34 34 rfl 27 3 hu hsz3 g o2 (n + 1 - (i + 1)) (c - (i + 1)) ⟨g, o1, none⟩ (n + 1 - i) (c - i) (by simp [Act.eval, Act.put]) (by simp [Act.eval, Act.put]) cur 27 HG.out ((cur.take (n * 3)).drop o1) (by rw [HCS.out]; congr 1; simp only [Nat.min_def]; split <;> omega) (fun j v hj => cell_of_row HG.out (by rw [List.getElem?_drop] at hj; rw [List.getElem?_take] at hj; split at hj; (exact hj); (cases hj))) (by rw [HCS.out, HCL.out, HO2.out]; omega) (fun v hv => h1c v (List.mem_of_mem_drop hv)) base w0 (below_drew HB.out) HBG.out ?_; intro w4 hg4 ho4 hb4)
  have HG4 := Aside0.mk hg4
  have HB4 := Aside0.mk hb4
  have HV4 := Aside0.mk (show w4.heap[vb]? = some (.cells vs.toArray 27 (0, 0)) from (ho4 vb hne).trans HV.out)
  clear hg4 ho4 hb4
  go_wp2_with ((with_reducible refine gate_builtin (b := .copy) (xs := #[.tmp 80, .tmp 81]) rfl ?_); (refine copy_rows rfl (.tmp 80) (.tmp 81) 34 34 rfl 27 3 hu hsz3 g o1 (n + 1 - i) (c - i) ⟨vb, 0, none⟩ 1 1 rfl rfl (splice cur o2 ((cur.take (n * 3)).drop o1)) 27 HG4.out vs (by rw [hvl]; simp only [Nat.min_def]; split <;> omega) (fun j v hj => cell_of_row HV4.out (by rw [Nat.zero_add]; exact hj)) (by rw [length_splice _ _ _ (by rw [HCS.out, HCL.out, HO2.out]; omega), hvl, HCL.out, HO1.out]; omega) h1v base w0 HB4.out HBG.out ?_); intro w5 hg5 _ hb5)
  go_ret
  exact ⟨rfl, hg5, hb5⟩
theorem zeroCells_size (z : Array Value) (n : Nat) : (Builtin.zeroCells z n).size = n * z.size := by simp [Builtin.zeroCells]
theorem append_make {P : Program} {w : World} {ops : Array Oper} {rest : List Oper} {o : Oper} {a : Act} {Q : Exit → Act → World → Prop} (hgd : o.guard = none) (s x : Operand) (t tn e : TypeId) (kn : IntKind)
    (ho : o.op = .call { callee := .builtin .append, args := #[s, x], argTypes := #[t, tn] }) (i : TypeInfo) (z : Value) (size bytes : Nat) (ht : P.underlying t = some (.slice e)) (htn : P.underlying tn = some (.int kn)) (hi : P.info? e = some i) (hz : i.zero = some z) (hsz : i.size = size) (hby : i.bytes = bytes) (hzs : z.cells.size = size) (hs0 : 0 < size)
    (g n c m k : Nat) (cur : List Value) (hs : a.eval s = .slice (some ⟨g, 0, none⟩) m c) (hx : a.eval x = .int .i64 k) (hg : w.heap[g]? = some (.cells cur.toArray e (0, 0))) (hm : m * size ≤ cur.length) (hmk : m + k = n) (h0 : 0 < k) (hc : c < n) (hb : n * bytes ≤ 140737488355328) (hn : n ≤ maxLen)
    (h : ∀ (w' : World) (G : Nat) (row : List Value), w'.heap[w.heap.size]? = some (.cells row.toArray e (0, 0)) → row.take (m * size) = cur.take (m * size) → row.length = G * size → n ≤ G → G ≤ maxLen → Below w.heap.size w w' → wpList P ops Q rest (a.put o.dst (.slice (some ⟨w.heap.size, 0, none⟩) n G)) w') : wpList P ops Q (o :: rest) a w := by
  refine wpList_plain hgd fun K hK => ?_
  have hnm := hn
  unfold maxLen at hnm
  have hkn : k * bytes ≤ n * bytes := Nat.mul_le_mul_right _ (by omega)
  have hold : (Builtin.firstCells i.size m (.slice (some ⟨g, 0, none⟩) m c)).run P w.drew = .ok (cur.take (m * size)).toArray w.drew := by
    rw [hsz]
    exact run_firstCells_some w.drew size m ⟨g, 0, none⟩ m c _ (by rw [List.length_take]; omega) (fun j v hj => cell_of_row (w := w.drew) (cur := cur) hg (by rw [Nat.zero_add]; rw [List.getElem?_take] at hj; split at hj; (exact hj); (cases hj)))
  have hrun := Lib.run_append_grow_zeros w t tn o.type e i z .i64 kn ht htn hi hz (some ⟨g, 0, none⟩) m c (cur.take (m * size)) hold k h0 (by omega) (by omega) (by omega) (by rw [hby]; omega) (by rw [hby, hmk]; exact growslice_fits hc hb)
  rw [hmk] at hrun
  unfold Oper.wp
  simp only [execOp, ho, resolve, invoke, builtin, Sem.run_bind, Sem.run_pure, Result.andThen_ok, List.map_toArray, List.map_cons, List.map_nil, hs, hx, hrun]
  refine hK _ _ (h _ _ ((cur.take (m * size)) ++ (Builtin.zeroCells z.cells k).toList ++ (Builtin.zeroCells z.cells (grownCap w n c e - n)).toList) ?_ ?_ ?_ (grownCap_ge w _ _ _) (grownCap_le_maxLen w _ _ _ hn) ?_)
  · rw [show w.heap.size = w.drew.heap.size from rfl, heap_alloc_new]
    simp
  · rw [List.append_assoc, List.take_left' (by rw [List.length_take]; omega)]
  · have := grownCap_ge w n c e
    simp only [List.length_append, List.length_take, Array.length_toList, zeroCells_size, hzs, Nat.min_eq_left hm]
    rw [← Nat.add_mul, ← Nat.add_mul]
    congr 1
    omega
  · exact below_alloc (below_drew (Below.refl _ _)) _
theorem splice_new (row vs tail cur : List Value) (i n : Nat) (hv : vs.length = 3) (hi : i ≤ n) (hr : row.take (i * 3) = cur.take (i * 3)) (hl : i * 3 ≤ cur.length) (ht : tail.length = (n - i) * 3) (hrl : i * 3 ≤ row.length) :
    (splice (splice row (i * 3) vs) ((i + 1) * 3) tail).take ((n + 1) * 3) = cur.take (i * 3) ++ vs ++ tail := by
  have l1 : (row.take (i * 3) ++ vs).length = (i + 1) * 3 := by rw [List.length_append, List.length_take, hv]; omega
  have e1 : (splice row (i * 3) vs).take ((i + 1) * 3) = row.take (i * 3) ++ vs := by
    unfold splice
    rw [← List.append_assoc, List.take_left' l1]
  have l2 : (row.take (i * 3) ++ vs ++ tail).length = (n + 1) * 3 := by rw [List.length_append, l1, ht, ← Nat.add_mul]; congr 1; omega
  generalize hS : splice row (i * 3) vs = S at e1
  unfold splice
  rw [e1, ← List.append_assoc, List.take_left' l2, hr]
set_option maxHeartbeats 4000000 in
set_option maxRecDepth 100000 in
theorem Insert_full (g n c i vb : Nat) (cur vs : List Value) (base : Nat) (w0 w : World) (hB : Below base w0 w) (hbw : base ≤ w.heap.size) (hg : w.heap[g]? = some (.cells cur.toArray 27 (0, 0))) (hcl : cur.length = c * 3) (hi : i < n) (hnc : n ≤ c) (hroom : c < n + 1) (hn : n < 1099511627776)
    (hv : w.heap[vb]? = some (.cells vs.toArray 27 (0, 0))) (hvl : vs.length = 3) (h1c : ∀ u ∈ cur.take (n * 3), u.oneCell' = true) (h1v : ∀ u ∈ vs, u.oneCell' = true) :
    Calls Try.prog 106 #[.slice (some ⟨g, 0, none⟩) n c, .int .i64 i, .slice (some ⟨vb, 0, none⟩) 1 1] w fun e w' => ∃ (G : Nat) (row : List Value), e = .returned (.slice (some ⟨w.heap.size, 0, none⟩) (n + 1) G) ∧ w'.heap[w.heap.size]? = some (.cells row.toArray 27 (0, 0)) ∧ row.length = G * 3 ∧ n + 1 ≤ G ∧ G ≤ maxLen ∧ row.take ((n + 1) * 3) = cur.take (i * 3) ++ vs ++ (cur.take (n * 3)).drop (i * 3) ∧ Below base w0 w' := by
  have hu := Try.underlying34
  have hui : Try.prog.underlying 3 = some (.int .i64) := by kernel_rfl
  obtain ⟨i0, hi0, hz0, hsz, hby⟩ := info_parts info27
  have hsz3 : (Try.prog.info? 27).map (·.size) = some 3 := by rw [hi0]; simp [hsz]
  have hw1 : IntKind.i64.wrap ((i : Int) + 1) = (i : Int) + 1 := by rw [IntKind.wrap_i64]; omega
  have hw2 : IntKind.i64.wrap ((n : Int) + 1) = (n : Int) + 1 := by rw [IntKind.wrap_i64]; omega
  have hw3 : IntKind.i64.wrap ((n : Int) + 1 - (i : Int)) = (n : Int) + 1 - (i : Int) := by rw [IntKind.wrap_i64]; omega
  have hb1 : (0 : Int) ≤ (i : Int) + 1 := by omega
  have htn : ((i : Int) + 1).toNat = i + 1 := by omega
  have hcut1 := cut_from (P := Try.prog) 34 27 .i64 hu hi0 3 hsz (some ⟨g, 0, none⟩) n c (i : Int) (by omega) (by omega)
  have hcut2 := cut_to (P := Try.prog) 34 27 .i64 hu hi0 (some ⟨g, 0, none⟩) n c (i : Int) (by omega) (by omega) hnc
  rw [Int.toNat_natCast] at hcut2
  rw [Int.toNat_natCast, if_neg (by omega)] at hcut1
  have HCUT := Aside0.mk (fun (h G j : Nat) (hj : j ≤ n + 1) (hG : n + 1 ≤ G) => cut_from (P := Try.prog) 34 27 .i64 hu hi0 3 hsz (some ⟨h, 0, none⟩) (n + 1) G (j : Int) (by omega) (by omega))
  simp only [Option.map_some, Addr.add_lit, Nat.zero_add] at hcut1
  have hz1 : ¬ ((1 : Int) = 0) := by omega
  have hz2 : ¬ ((i : Int) = (n : Int)) := by omega
  have hz3 : (c : Int) < (n : Int) + 1 := by omega
  have mixed : Try.prog.follows .mixedOrders = true := by kernel_rfl
  have HGV := Aside0.mk (World.block_lt_of_cell? w ((⟨g, 0, none⟩ : Addr).add 0) (cell_of_row hg (List.getElem?_eq_getElem (show 0 + 0 < cur.length by omega))))
  have HVV := Aside0.mk (World.block_lt_of_cell? w ((⟨vb, 0, none⟩ : Addr).add 0) (cell_of_row hv (List.getElem?_eq_getElem (show 0 + 0 < vs.length by omega))))
  have HV := Aside0.mk hv
  have HG := Aside0.mk hg
  have HB := Aside0.mk hB
  have HBW := Aside0.mk hbw
  have HCL := Aside0.mk hcl
  have HN := Aside0.mk hn
  have HVL := Aside0.mk hvl
  clear hv hg hB hbw hcl hvl hn
  obtain ⟨o1, ho1⟩ : ∃ o1, o1 = i * 3 := ⟨_, rfl⟩
  rw [← ho1] at hcut1 ⊢
  have HO1 := Aside0.mk ho1
  clear ho1
  have HI := Aside0.mk hi
  go_enter Try.func106, Try.ntmps106
  go_upto_region 10 with ((with_reducible refine gate_builtin (b := .append) (xs := #[.tmp 34, .tmp 39]) rfl ?_); at_builtin; refine append_make rfl (.tmp 34) (.tmp 39) 34 3 27 .i64 rfl i0 (.agg #[(.int .i64 0), (.int .i64 0), (.slice none 0 0)]) 3 40 hu hui hi0 hz0 hsz hby rfl (by omega) g (n + 1) c i (n + 1 - i) cur rfl ?hk HG.out ?hm ?hmk ?h0 ?hc ?hb ?hn ?_; (case hk => show Value.int .i64 _ = _; congr 1; omega); (case hm => rw [HCL.out]; omega); (case hmk => omega); (case h0 => omega); (case hc => omega); (case hb => have := HN.out; omega); (case hn => have := HN.out; unfold maxLen; omega); intro w2 G row hg2 hr2 hl2 hG2 hG3 hb2)
  have hcut3 := HCUT.out w.heap.size G i (by omega) hG2
  have hcut4 := HCUT.out w.heap.size G (i + 1) (by omega) hG2
  clear HCUT
  rw [Int.toNat_natCast, if_neg (by omega)] at hcut3 hcut4
  rw [show ((i + 1 : Nat) : Int) = (i : Int) + 1 by omega] at hcut4
  obtain ⟨o2, ho2⟩ : ∃ o2, o2 = (i + 1) * 3 := ⟨_, rfl⟩
  rw [← ho2] at hcut4
  rw [← HO1.out] at hcut3
  simp only [Option.map_some, Addr.add_lit, Nat.zero_add] at hcut3 hcut4
  have HO2 := Aside0.mk ho2
  have HG2 := Aside0.mk hg2
  have HR2 := Aside0.mk hr2
  have HL2 := Aside0.mk hl2
  have HGE := Aside0.mk hG2
  have HGM := Aside0.mk hG3
  have HB2 := Aside0.mk (below_then HB.out HBW.out hb2)
  have HV2 := Aside0.mk ((hb2.block vb HVV.out).trans HV.out)
  have HG0 := Aside0.mk ((hb2.block g HGV.out).trans HG.out)
  have hG' : G ≤ 9223372036854775807 := by unfold maxLen at hG3; omega
  clear ho2 hg2 hr2 hl2 hG3 hb2
  have hcs : ((cur.take (n * 3)).drop o1).length = (n - i) * 3 := by have := HCL.out; rw [HO1.out, List.length_drop, List.length_take, this, Nat.sub_mul]; omega
  have HCS := Aside0.mk hcs
  clear hcs
  go_upto_region 11 with ((with_reducible refine gate_builtin (b := .copy) (xs := #[.tmp 43, .tmp 44]) rfl ?_); refine copy_rows rfl (.tmp 43) (.tmp 44) 34 34 rfl 27 3 hu hsz3 w.heap.size o1 (n + 1 - i) (G - i) ⟨vb, 0, none⟩ 1 1 rfl rfl row 27 HG2.out vs (by rw [HVL.out]; simp only [Nat.min_def]; split <;> omega) (fun j v hj => cell_of_row HV2.out (by rw [Nat.zero_add]; exact hj)) (by rw [HVL.out, HL2.out, HO1.out]; omega) h1v base w0 HB2.out HBW.out ?_; intro w3 hg3 ho3 hb3)
  have HG3 := Aside0.mk hg3
  have HB3 := Aside0.mk hb3
  have HG03 := Aside0.mk ((ho3 g (Nat.ne_of_lt HGV.out)).trans HG0.out)
  clear hg3 ho3 hb3
  go_region_law_o (refine step_copy_rows rfl _ _ 34 34 rfl 27 3 hu hsz3 w.heap.size o2 (n + 1 - (i + 1)) (G - (i + 1)) ⟨g, o1, none⟩ (n - i) (c - i) (by simp [Act.eval, Act.put]) (by simp [Act.eval, Act.put]) (splice row o1 vs) 27 HG3.out ((cur.take (n * 3)).drop o1) (by rw [HCS.out]; congr 1; simp only [Nat.min_def]; split <;> omega) (fun j v hj => cell_of_row HG03.out (by rw [List.getElem?_drop] at hj; rw [List.getElem?_take] at hj; split at hj; (exact hj); (cases hj))) (by rw [length_splice _ _ _ (by rw [HVL.out, HL2.out, HO1.out]; omega), HCS.out, HL2.out, HO2.out]; omega) (fun v hv => h1c v (List.mem_of_mem_drop hv)) base w0 (below_drew HB3.out) HBW.out ?_; intro w4 hg4 ho4 hb4)
  go_wp2
  go_ret
  refine ⟨G, _, rfl, hg4, ?_, HGE.out, HGM.out, ?_, hb4⟩
  · rw [length_splice _ _ _ (by rw [length_splice _ _ _ (by rw [HVL.out, HL2.out, HO1.out]; omega), HCS.out, HL2.out, HO2.out]; omega), length_splice _ _ _ (by rw [HVL.out, HL2.out, HO1.out]; omega)]
    exact HL2.out
  · rw [HO2.out, HO1.out]
    refine splice_new row vs _ cur i n HVL.out (by omega) HR2.out (by rw [HCL.out]; omega) (by rw [← HO1.out]; exact HCS.out) (by rw [HL2.out]; omega)
set_option maxHeartbeats 4000000 in
set_option maxRecDepth 100000 in
theorem Insert_end (v : Value) (n vb : Nat) (xs vs : List Value) (base : Nat) (w0 w : World) (hB : Below base w0 w) (hbw : base ≤ w.heap.size) (HO : w.ownsRow base 27 3 v n xs) (hn : n < 1099511627776)
    (hv : w.heap[vb]? = some (.cells vs.toArray 27 (0, 0))) (hvl : vs.length = 3) (h1v : ∀ u ∈ vs, u.oneCell' = true) :
    Calls Try.prog 106 #[v, .int .i64 n, .slice (some ⟨vb, 0, none⟩) 1 1] w fun e w' => ∃ v', e = .returned v' ∧ w'.ownsRow base 27 3 v' (n + 1) (xs ++ vs) ∧ Below base w0 w' := by
  have hu := Try.underlying34
  obtain ⟨i0, hi0, hz0, hsz, hby⟩ := info_parts info27
  obtain ⟨A, c, rfl, hc⟩ : ∃ A c, v = .slice A n c ∧ n ≤ c := by
    rcases HO.2 with ⟨h, h'⟩ | ⟨g, cap, cur, h, _, _, h', _⟩
    · exact ⟨none, 0, by rw [h, h'], by omega⟩
    · exact ⟨_, cap, h, h'⟩
  have hcut1 := cut_from (P := Try.prog) 34 27 .i64 hu hi0 3 hsz A n c (n : Int) (by omega) (by omega)
  rw [Int.toNat_natCast] at hcut1
  obtain ⟨A1, hA1⟩ : ∃ A1, A1 = (if c = n then A else A.map (·.add (n * 3))) := ⟨_, rfl⟩
  rw [← hA1] at hcut1
  have hz1 : ¬ ((1 : Int) = 0) := by omega
  have HH := Aside0.mk HO
  have HV := Aside0.mk hv
  have HB := Aside0.mk hB
  have HBW := Aside0.mk hbw
  have HN := Aside0.mk hn
  have HVL := Aside0.mk hvl
  have H1 := Aside0.mk h1v
  have HI := Aside0.mk hi0
  have HZ := Aside0.mk hz0
  have HSZ := Aside0.mk hsz
  have HBY := Aside0.mk hby
  clear hA1 HO hv hB hbw hn hvl h1v hi0 hz0 hsz hby hc
  go_enter Try.func106, Try.ntmps106
  go_wp2_with ((with_reducible refine gate_builtin (b := .append) (xs := #[.tmp 23, .tmp 24]) rfl ?_); at_builtin; refine wpList_append_own _ rfl (.tmp 23) (.tmp 24) 34 rfl base 27 i0 (.agg #[(.int .i64 0), (.int .i64 0), (.slice none 0 0)]) 3 40 hu HI.out HZ.out HSZ.out HBY.out rfl (by decide) _ n xs rfl HH.out ⟨vb, 0, none⟩ 1 1 vs rfl ?qc1 ?qc2 ?qc3 ?qc4 ?qc5 ?qc6 ?_; (case qc1 => exact HVL.out); (case qc2 => exact fun j u hj => cell_of_row HV.out (by rw [Nat.zero_add]; exact hj)); (case qc3 => exact H1.out); (case qc4 => have := HN.out; unfold maxLen; omega); (case qc5 => have := HN.out; omega); (case qc6 => exact HBW.out); intro v' w1 hown hgrow _)
  go_ret
  exact ⟨_, rfl, hown, HB.out.grown hgrow HBW.out (fun k hk => own_base HH.out k hk)⟩
theorem Insert_walk (v : Value) (n i vb : Nat) (xs vs : List Value) (base : Nat) (w0 w : World) (hB : Below base w0 w) (hbw : base ≤ w.heap.size) (HO : w.ownsRow base 27 3 v n xs) (hi : i ≤ n) (hn : n < 1099511627776)
    (hv : w.heap[vb]? = some (.cells vs.toArray 27 (0, 0))) (hvl : vs.length = 3) (hne : some vb ≠ v.ownBlock) (h1v : ∀ u ∈ vs, u.oneCell' = true) (h1c : ∀ u ∈ xs, u.oneCell' = true) :
    Calls Try.prog 106 #[v, .int .i64 i, .slice (some ⟨vb, 0, none⟩) 1 1] w fun e w' => ∃ v', e = .returned v' ∧ w'.ownsRow base 27 3 v' (n + 1) (xs.take (i * 3) ++ vs ++ xs.drop (i * 3)) ∧ Below base w0 w' := by
  rcases Nat.lt_or_ge i n with hlt | hge
  · rcases HO.2 with ⟨_, h'⟩ | ⟨g, cap, cur, rfl, hbg, hg, hnc, hcm, hcs, hxs⟩
    · omega
    · have hne' : vb ≠ g := fun e => hne (by rw [e]; rfl)
      have h1 : ∀ u ∈ cur.toList.take (n * 3), u.oneCell' = true := by rw [hxs]; exact h1c
      have hg' : w.heap[g]? = some (.cells cur.toList.toArray 27 (0, 0)) := by rw [Array.toArray_toList]; exact hg
      have hcl : cur.toList.length = cap * 3 := by rw [Array.length_toList]; exact hcs
      by_cases hr : n + 1 ≤ cap
      · refine (Insert_room g n cap i vb cur.toList vs base w0 w hB hbg hg' hcl hlt hr hcm hv hvl hne' h1 h1v).mono ?_
        rintro e w' ⟨rfl, hg2, hb2⟩
        refine ⟨_, rfl, ⟨?_, .inr ⟨g, cap, _, rfl, hbg, hg2, hr, hcm, ?_, ?_⟩⟩, hb2⟩
        · rw [List.length_append, List.length_append, List.length_take, List.length_drop, hvl, HO.1]; omega
        · have l1 : ((cur.toList.take (n * 3)).drop (i * 3)).length = (n - i) * 3 := by rw [List.length_drop, List.length_take, hcl, Nat.sub_mul]; omega
          rw [List.size_toArray, length_splice _ _ _ (by rw [length_splice _ _ _ (by rw [l1, hcl]; omega), hvl, hcl]; omega), length_splice _ _ _ (by rw [l1, hcl]; omega), hcl]
        · rw [← hxs]; exact splice_in cur.toList vs i n hvl (by omega) (by rw [hcl]; omega)
      · refine (Insert_full g n cap i vb cur.toList vs base w0 w hB hbw hg' hcl hlt hnc (by omega) hn hv hvl h1 h1v).mono ?_
        rintro e w' ⟨G, row, rfl, hg2, hl2, hG2, hGm, ht2, hb2⟩
        refine ⟨_, rfl, ⟨?_, .inr ⟨_, G, _, rfl, hbw, hg2, hG2, hGm, by simpa using hl2, ?_⟩⟩, hb2⟩
        · rw [List.length_append, List.length_append, List.length_take, List.length_drop, hvl, HO.1]; omega
        · rw [← hxs]
          show row.take ((n + 1) * 3) = _
          rw [ht2, List.take_take, Nat.min_eq_left (by omega)]
  · obtain rfl : i = n := by omega
    refine (Insert_end v i vb xs vs base w0 w hB hbw HO hn hv hvl h1v).mono ?_
    rintro e w' ⟨v', rfl, ho, hb⟩
    exact ⟨v', rfl, by rw [List.take_of_length_le (by rw [HO.1]; omega), List.drop_of_length_le (by rw [HO.1]; omega), List.append_nil]; exact ho, hb⟩
end Go.Proofs.Ytiplpckgmikmeaa.M
namespace Go.Proofs.Ytiplpckgmikmeaa.M
open Go.RowKit Go.Proofs.YtiplpckgmikmeaaW.PrintWords Go.Proofs.YtiplpckgmikmeaaW.PrintLast Go.Proofs.YtiplpckgmikmeaaW.PrintMore
attribute [local go_sem] max2_int min2_int max_two min_two max_three min_three max_four min_four
set_option linter.unusedVariables false
set_option linter.unusedSimpArgs false

def spec_l3Same.f (k : Nat) (a0_0 : Int) (a0_1 : Int) (l0_2 : List Int) (a1_0 : Int) (a1_1 : Int) (l1_2 : List Int) : Option (Bool) := if a0_0 = a1_0 then (if a0_1 = a1_1 then (if (l0_2.length : Int) = (l1_2.length : Int) then ((spec_l3Ids.f k l0_2 l1_2).bind fun t103 => (some (t103 == 0))) else (some false)) else (some false)) else (some false)
set_option maxHeartbeats 8000000 in
set_option maxRecDepth 100000 in
theorem spec_l3Same.calls (k : Nat) (a0_0 : Int) (a0_1 : Int) (A0_2 : Option Addr) (c0_2 : Nat) (l0_2 : List Int) (a1_0 : Int) (a1_1 : Int) (A1_2 : Option Addr) (c1_2 : Nat) (l1_2 : List Int) (r : Bool) (w : World) (hr0_2 : Kd.C (Kd.int .i64) w A0_2 l0_2.length l0_2) (hc0_2 : l0_2.length ≤ c0_2) (hr1_2 : Kd.C (Kd.int .i64) w A1_2 l1_2.length l1_2) (hc1_2 : l1_2.length ≤ c1_2) (h : spec_l3Same.f k a0_0 a0_1 l0_2 a1_0 a1_1 l1_2 = some r) :
  Calls Try.prog 68 #[.agg #[.int .i64 a0_0, .int .i64 a0_1, .slice A0_2 l0_2.length c0_2], .agg #[.int .i64 a1_0, .int .i64 a1_1, .slice A1_2 l1_2.length c1_2]] w fun e w' => e = .returned (.bool r) ∧ Below w.heap.size w w' := by
 have hu27 := Try.underlying27
 have HR0_2 := Aside0.mk hr0_2
 have HC0_2 := Aside0.mk hc0_2
 clear hr0_2 hc0_2
 have HR1_2 := Aside0.mk hr1_2
 have HC1_2 := Aside0.mk hc1_2
 clear hr1_2 hc1_2
 have HB := Aside0.mk (Below.refl w.heap.size w)
 have H : (if a0_0 = a1_0 then (if a0_1 = a1_1 then (if (l0_2.length : Int) = (l1_2.length : Int) then ((spec_l3Ids.f k l0_2 l1_2).bind fun t103 => (some (t103 == 0))) else (some false)) else (some false)) else (some false)) = some r := h
 clear h
 by_cases c3 : a0_0 = a1_0
 ·rw [if_pos c3] at H
  have c3b0 : (a0_0 == a1_0) = true := beq_iff_eq.mpr c3
  have c3b1 : (a0_0 != a1_0) = false := bne_eq_false_iff_eq.mpr c3
  clear c3
  by_cases c4 : a0_1 = a1_1
  ·rw [if_pos c4] at H
   have c4b0 : (a0_1 == a1_1) = true := beq_iff_eq.mpr c4
   have c4b1 : (a0_1 != a1_1) = false := bne_eq_false_iff_eq.mpr c4
   clear c4
   by_cases c5 : (l0_2.length : Int) = (l1_2.length : Int)
   ·rw [if_pos c5] at H
    have c5b0 : ((l0_2.length : Int) == (l1_2.length : Int)) = true := beq_iff_eq.mpr c5
    have c5b1 : ((l0_2.length : Int) != (l1_2.length : Int)) = false := bne_eq_false_iff_eq.mpr c5
    have c5b2 : (l0_2.length == l1_2.length) = true := by first | simpa using c5 | (simp at c5 ⊢;omega)
    clear c5
    replace H := Option.bind_eq_some_iff.mp H
    obtain ⟨t103, A60, H⟩ := H
    replace H : (some (t103 == 0)) = some r := H
    have A6 := Aside0.mk A60
    clear A60
    obtain rfl := Option.some.inj H
    go_enter Try.func68, Try.ntmps68
    go_wp2_with (first | ((with_reducible refine gate_dst (N := 2) rfl ?_);(try (refine gate_guard (by rfl) ?_;dsimp only));refine box_event ?hg (N := 2) ?hd (cs := #[.int .i64 a0_0, .int .i64 a0_1, .slice A0_2 l0_2.length c0_2]) (t := 27) ?hr ?_;(case hd => rfl);(case hg => rfl);(case hr => first | (go_simp;done) | (go_simp;rfl));intro gb101 hg w7 hbox hb;have BK101 := Aside0.mk (hbox);have GW101 := Aside0.mk ((by rw [hg];exact (below_size (by exact HB.out)) : w.heap.size ≤ gb101));have GE101 := Aside0.mk ((by rw [hg];exact (below_size (by exact HB.out)) : w.heap.size ≤ gb101));replace HB := Aside0.mk (below_step (by exact HB.out) hb);clear hb hbox hg) | ((with_reducible refine gate_dst (N := 3) rfl ?_);(try (refine gate_guard (by rfl) ?_;dsimp only));refine box_event ?hg (N := 3) ?hd (cs := #[.int .i64 a1_0, .int .i64 a1_1, .slice A1_2 l1_2.length c1_2]) (t := 27) ?hr ?_;(case hd => rfl);(case hg => rfl);(case hr => first | (go_simp;done) | (go_simp;rfl));intro gb102 hg w8 hbox hb;have BK102 := Aside0.mk (hbox);have GW102 := Aside0.mk ((by rw [hg];exact (below_size (by exact HB.out)) : w.heap.size ≤ gb102));have GE102 := Aside0.mk ((by rw [hg];exact (below_size (by exact HB.out)) : w.heap.size ≤ gb102));replace HB := Aside0.mk (below_step (by exact HB.out) hb);have NB101_102 := Aside0.mk ((by rw [hg];exact Nat.ne_of_lt (blk_lt BK101.out) : gb101 ≠ gb102));have NB102_101 := Aside0.mk ((by rw [hg];exact Nat.ne_of_gt (blk_lt BK101.out) : gb102 ≠ gb101));replace BK101 := Aside0.mk (blk_below BK101.out hb);clear hb hbox hg;have hnb9 := NB101_102.out;have hnc9 := NB102_101.out;obtain ⟨hcz10_0, hcz10_1, hcz10_2, hfz10_0, hfz10_1, hfz10_2⟩ := bx3 BK101.out;obtain ⟨hcz11_0, hcz11_1, hcz11_2, hfz11_0, hfz11_1, hfz11_2⟩ := bx3 BK102.out) | (go_at_call 76;(with_reducible refine (spec_l3Ids.calls k _ _ l0_2 _ _ l1_2 t103 _ ?side1 ?side2 ?side3 ?side4 A6.out).mono ?_);(case side1 => repeat (first | exact (Kd.C_below HR0_2.out HB.out) | (with_reducible refine Kd.C_alloc ?_ _) | (with_reducible refine Kd.C_drewN ?_ _) | (with_reducible refine Kd.C_drew ?_)));(case side2 => exact HC0_2.out);(case side3 => repeat (first | exact (Kd.C_below HR1_2.out HB.out) | (with_reducible refine Kd.C_alloc ?_ _) | (with_reducible refine Kd.C_drewN ?_ _) | (with_reducible refine Kd.C_drew ?_)));(case side4 => exact HC1_2.out);rintro e w' ⟨rfl, ⟨nd, rfl⟩⟩))
    go_ret
    exact ⟨by first | rfl | (simp [errW_none, errW_some] <;> rfl) | (simp [*, errW_none, errW_some] <;> rfl), by repeat (first | (with_reducible first | exact HB.out | apply below_alloc | apply pw_below_drewN | apply below_drew1 | refine below_set ?_ GE101.out | refine below_set ?_ GE102.out) | exact HB.out)⟩
   ·rw [if_neg c5] at H
    have c5b0 : ((l0_2.length : Int) == (l1_2.length : Int)) = false := beq_eq_false_iff_ne.mpr c5
    have c5b1 : ((l0_2.length : Int) != (l1_2.length : Int)) = true := bne_iff_ne.mpr c5
    have c5b2 : (l0_2.length == l1_2.length) = false := by first | simpa using c5 | (simp at c5 ⊢;omega)
    obtain rfl := Option.some.inj H
    go_enter Try.func68, Try.ntmps68
    go_wp2_with (first | ((with_reducible refine gate_dst (N := 2) rfl ?_);(try (refine gate_guard (by rfl) ?_;dsimp only));refine box_event ?hg (N := 2) ?hd (cs := #[.int .i64 a0_0, .int .i64 a0_1, .slice A0_2 l0_2.length c0_2]) (t := 27) ?hr ?_;(case hd => rfl);(case hg => rfl);(case hr => first | (go_simp;done) | (go_simp;rfl));intro gb101 hg w12 hbox hb;have BK101 := Aside0.mk (hbox);have GW101 := Aside0.mk ((by rw [hg];exact (below_size (by exact HB.out)) : w.heap.size ≤ gb101));have GE101 := Aside0.mk ((by rw [hg];exact (below_size (by exact HB.out)) : w.heap.size ≤ gb101));replace HB := Aside0.mk (below_step (by exact HB.out) hb);clear hb hbox hg) | ((with_reducible refine gate_dst (N := 3) rfl ?_);(try (refine gate_guard (by rfl) ?_;dsimp only));refine box_event ?hg (N := 3) ?hd (cs := #[.int .i64 a1_0, .int .i64 a1_1, .slice A1_2 l1_2.length c1_2]) (t := 27) ?hr ?_;(case hd => rfl);(case hg => rfl);(case hr => first | (go_simp;done) | (go_simp;rfl));intro gb102 hg w13 hbox hb;have BK102 := Aside0.mk (hbox);have GW102 := Aside0.mk ((by rw [hg];exact (below_size (by exact HB.out)) : w.heap.size ≤ gb102));have GE102 := Aside0.mk ((by rw [hg];exact (below_size (by exact HB.out)) : w.heap.size ≤ gb102));replace HB := Aside0.mk (below_step (by exact HB.out) hb);have NB101_102 := Aside0.mk ((by rw [hg];exact Nat.ne_of_lt (blk_lt BK101.out) : gb101 ≠ gb102));have NB102_101 := Aside0.mk ((by rw [hg];exact Nat.ne_of_gt (blk_lt BK101.out) : gb102 ≠ gb101));replace BK101 := Aside0.mk (blk_below BK101.out hb);clear hb hbox hg;have hnb14 := NB101_102.out;have hnc14 := NB102_101.out;obtain ⟨hcz15_0, hcz15_1, hcz15_2, hfz15_0, hfz15_1, hfz15_2⟩ := bx3 BK101.out;obtain ⟨hcz16_0, hcz16_1, hcz16_2, hfz16_0, hfz16_1, hfz16_2⟩ := bx3 BK102.out))
    go_ret
    exact ⟨by first | rfl | (simp [errW_none, errW_some] <;> rfl) | (simp [*, errW_none, errW_some] <;> rfl), by repeat (first | (with_reducible first | exact HB.out | apply below_alloc | apply pw_below_drewN | apply below_drew1 | refine below_set ?_ GE101.out | refine below_set ?_ GE102.out) | exact HB.out)⟩
  ·rw [if_neg c4] at H
   have c4b0 : (a0_1 == a1_1) = false := beq_eq_false_iff_ne.mpr c4
   have c4b1 : (a0_1 != a1_1) = true := bne_iff_ne.mpr c4
   obtain rfl := Option.some.inj H
   go_enter Try.func68, Try.ntmps68
   go_wp2_with (first | ((with_reducible refine gate_dst (N := 2) rfl ?_);(try (refine gate_guard (by rfl) ?_;dsimp only));refine box_event ?hg (N := 2) ?hd (cs := #[.int .i64 a0_0, .int .i64 a0_1, .slice A0_2 l0_2.length c0_2]) (t := 27) ?hr ?_;(case hd => rfl);(case hg => rfl);(case hr => first | (go_simp;done) | (go_simp;rfl));intro gb101 hg w17 hbox hb;have BK101 := Aside0.mk (hbox);have GW101 := Aside0.mk ((by rw [hg];exact (below_size (by exact HB.out)) : w.heap.size ≤ gb101));have GE101 := Aside0.mk ((by rw [hg];exact (below_size (by exact HB.out)) : w.heap.size ≤ gb101));replace HB := Aside0.mk (below_step (by exact HB.out) hb);clear hb hbox hg) | ((with_reducible refine gate_dst (N := 3) rfl ?_);(try (refine gate_guard (by rfl) ?_;dsimp only));refine box_event ?hg (N := 3) ?hd (cs := #[.int .i64 a1_0, .int .i64 a1_1, .slice A1_2 l1_2.length c1_2]) (t := 27) ?hr ?_;(case hd => rfl);(case hg => rfl);(case hr => first | (go_simp;done) | (go_simp;rfl));intro gb102 hg w18 hbox hb;have BK102 := Aside0.mk (hbox);have GW102 := Aside0.mk ((by rw [hg];exact (below_size (by exact HB.out)) : w.heap.size ≤ gb102));have GE102 := Aside0.mk ((by rw [hg];exact (below_size (by exact HB.out)) : w.heap.size ≤ gb102));replace HB := Aside0.mk (below_step (by exact HB.out) hb);have NB101_102 := Aside0.mk ((by rw [hg];exact Nat.ne_of_lt (blk_lt BK101.out) : gb101 ≠ gb102));have NB102_101 := Aside0.mk ((by rw [hg];exact Nat.ne_of_gt (blk_lt BK101.out) : gb102 ≠ gb101));replace BK101 := Aside0.mk (blk_below BK101.out hb);clear hb hbox hg;have hnb19 := NB101_102.out;have hnc19 := NB102_101.out;obtain ⟨hcz20_0, hcz20_1, hcz20_2, hfz20_0, hfz20_1, hfz20_2⟩ := bx3 BK101.out;obtain ⟨hcz21_0, hcz21_1, hcz21_2, hfz21_0, hfz21_1, hfz21_2⟩ := bx3 BK102.out))
   go_ret
   exact ⟨by first | rfl | (simp [errW_none, errW_some] <;> rfl) | (simp [*, errW_none, errW_some] <;> rfl), by repeat (first | (with_reducible first | exact HB.out | apply below_alloc | apply pw_below_drewN | apply below_drew1 | refine below_set ?_ GE101.out | refine below_set ?_ GE102.out) | exact HB.out)⟩
 ·rw [if_neg c3] at H
  have c3b0 : (a0_0 == a1_0) = false := beq_eq_false_iff_ne.mpr c3
  have c3b1 : (a0_0 != a1_0) = true := bne_iff_ne.mpr c3
  obtain rfl := Option.some.inj H
  go_enter Try.func68, Try.ntmps68
  go_wp2_with (first | ((with_reducible refine gate_dst (N := 2) rfl ?_);(try (refine gate_guard (by rfl) ?_;dsimp only));refine box_event ?hg (N := 2) ?hd (cs := #[.int .i64 a0_0, .int .i64 a0_1, .slice A0_2 l0_2.length c0_2]) (t := 27) ?hr ?_;(case hd => rfl);(case hg => rfl);(case hr => first | (go_simp;done) | (go_simp;rfl));intro gb101 hg w22 hbox hb;have BK101 := Aside0.mk (hbox);have GW101 := Aside0.mk ((by rw [hg];exact (below_size (by exact HB.out)) : w.heap.size ≤ gb101));have GE101 := Aside0.mk ((by rw [hg];exact (below_size (by exact HB.out)) : w.heap.size ≤ gb101));replace HB := Aside0.mk (below_step (by exact HB.out) hb);clear hb hbox hg) | ((with_reducible refine gate_dst (N := 3) rfl ?_);(try (refine gate_guard (by rfl) ?_;dsimp only));refine box_event ?hg (N := 3) ?hd (cs := #[.int .i64 a1_0, .int .i64 a1_1, .slice A1_2 l1_2.length c1_2]) (t := 27) ?hr ?_;(case hd => rfl);(case hg => rfl);(case hr => first | (go_simp;done) | (go_simp;rfl));intro gb102 hg w23 hbox hb;have BK102 := Aside0.mk (hbox);have GW102 := Aside0.mk ((by rw [hg];exact (below_size (by exact HB.out)) : w.heap.size ≤ gb102));have GE102 := Aside0.mk ((by rw [hg];exact (below_size (by exact HB.out)) : w.heap.size ≤ gb102));replace HB := Aside0.mk (below_step (by exact HB.out) hb);have NB101_102 := Aside0.mk ((by rw [hg];exact Nat.ne_of_lt (blk_lt BK101.out) : gb101 ≠ gb102));have NB102_101 := Aside0.mk ((by rw [hg];exact Nat.ne_of_gt (blk_lt BK101.out) : gb102 ≠ gb101));replace BK101 := Aside0.mk (blk_below BK101.out hb);clear hb hbox hg;have hnb24 := NB101_102.out;have hnc24 := NB102_101.out;obtain ⟨hcz25_0, hcz25_1, hcz25_2, hfz25_0, hfz25_1, hfz25_2⟩ := bx3 BK101.out;obtain ⟨hcz26_0, hcz26_1, hcz26_2, hfz26_0, hfz26_1, hfz26_2⟩ := bx3 BK102.out))
  go_ret
  exact ⟨by first | rfl | (simp [errW_none, errW_some] <;> rfl) | (simp [*, errW_none, errW_some] <;> rfl), by repeat (first | (with_reducible first | exact HB.out | apply below_alloc | apply pw_below_drewN | apply below_drew1 | refine below_set ?_ GE101.out | refine below_set ?_ GE102.out) | exact HB.out)⟩

end Go.Proofs.Ytiplpckgmikmeaa.M
namespace Go.Proofs.Ytiplpckgmikmeaa.M
open Go.RowKit Go.Proofs.YtiplpckgmikmeaaW.PrintWords Go.Proofs.YtiplpckgmikmeaaW.PrintLast Go.Proofs.YtiplpckgmikmeaaW.PrintMore
attribute [local go_sem] max2_int min2_int max_two min_two max_three min_three max_four min_four
set_option linter.unusedVariables false
set_option linter.unusedSimpArgs false

def spec_l3Copy.f (a0_0 : Int) (a0_1 : Int) (l0_2 : List Int) : Option (Int × Int × List Int) := (some (([] : List Int) : List Int)).bind fun y103 => (if y103.length + l0_2.length < 17592186044416 then (some (a0_0, a0_1, (y103 ++ l0_2))) else (none))
def spec_l3Copy.T1 : Bool × List (List Nat × List Nat) := (true, [([], []), ([0], [0]), ([], []), ([2], [2]), ([], []), ([], []), ([5], [5]), ([4, 6], [4, 6]), ([1, 3, 7], [1, 3, 7]), ([8, 7, 0, 1, 2, 3, 4, 5, 6, 7, 8], [8])])
def spec_l3Copy.B1 : List Nat := [0, 1, 0, 4, 0, 0, 32, 112, 255, 511]
theorem spec_l3Copy.tab1 : rtab .any (opsOf Try.f75 1) = spec_l3Copy.T1 := by kernel_rfl
theorem spec_l3Copy.bits1 : waitsOk spec_l3Copy.T1.2 spec_l3Copy.B1 = true := by kernel_rfl
set_option maxHeartbeats 8000000 in
set_option maxRecDepth 100000 in
theorem spec_l3Copy.calls (a0_0 : Int) (a0_1 : Int) (A0_2 : Option Addr) (c0_2 : Nat) (l0_2 : List Int) (r1 : Int) (r2 : Int) (r3 : List Int) (w : World) (hr0_2 : Kd.C (Kd.int .i64) w A0_2 l0_2.length l0_2) (hc0_2 : l0_2.length ≤ c0_2) (h : spec_l3Copy.f a0_0 a0_1 l0_2 = some (r1, r2, r3)) :
  Calls Try.prog 75 #[.agg #[.int .i64 a0_0, .int .i64 a0_1, .slice A0_2 l0_2.length c0_2]] w fun e w' => ∃ v2_ : Value, e = .returned (.agg #[.int .i64 r1, .int .i64 r2, v2_]) ∧ Kd.R (Kd.int .i64) 3 w' w.heap.size (fun _ => True) v2_ r3 ∧ Below w.heap.size w w' := by
 have hu27 := Try.underlying27
 have HR0_2 := Aside0.mk hr0_2
 have HC0_2 := Aside0.mk hc0_2
 clear hr0_2 hc0_2
 have HB := Aside0.mk (Below.refl w.heap.size w)
 have H : ((some (([] : List Int) : List Int)).bind fun y103 => (if y103.length + l0_2.length < 17592186044416 then (some (a0_0, a0_1, (y103 ++ l0_2))) else (none))) = some (r1, r2, r3) := h
 clear h
 obtain ⟨y103, hy103⟩ : ∃ y_ : List Int, y_ = (([] : List Int)) := ⟨_, rfl⟩
 replace H : (if y103.length + l0_2.length < 17592186044416 then (some (a0_0, a0_1, (y103 ++ l0_2))) else (none)) = some (r1, r2, r3) := by first | (rw [hy103];with_reducible exact H) | (have H2_ := (Option.bind_some _ _).symm.trans H;rw [hy103];with_reducible exact H2_) | (have H2_ := (Option.bind_some _ _).symm.trans H;with_reducible exact H2_) | with_reducible exact H | (rw [hy103];exact H) | exact H
 have Ny103 := Aside0.mk hy103
 clear hy103
 by_cases c2 : y103.length + l0_2.length < 17592186044416
 ·rw [if_pos c2] at H
  have LMc2 := Aside0.mk c2
  clear c2
  obtain ⟨y106, hy106⟩ : ∃ y_ : List Int, y_ = (y103 ++ l0_2) := ⟨_, rfl⟩
  replace H : (some (a0_0, a0_1, y106)) = some (r1, r2, r3) := by first | (rw [hy106];with_reducible exact H) | (have H2_ := (Option.bind_some _ _).symm.trans H;rw [hy106];with_reducible exact H2_) | (have H2_ := (Option.bind_some _ _).symm.trans H;with_reducible exact H2_) | with_reducible exact H | (rw [hy106];exact H) | exact H
  have Ny106 := Aside0.mk hy106
  clear hy106
  simp only [Option.some.injEq, Prod.mk.injEq] at H
  obtain ⟨rfl, rfl, rfl⟩ := H
  go_enter Try.func75, Try.ntmps75
  try go_wp2_with (first | ((with_reducible refine gate_dst (N := 1) rfl ?_);refine box_event ?hg (N := 1) ?hd (cs := #[.int .i64 a0_0, .int .i64 a0_1, .slice A0_2 l0_2.length c0_2]) (t := 27) ?hr ?_;(case hd => rfl);(case hg => rfl);(case hr => first | (go_simp;done) | (go_simp;rfl));intro gb101 hg w3 hbox hb;have BK101 := Aside0.mk (hbox);have GW101 := Aside0.mk ((by rw [hg];exact (below_size (by exact HB.out)) : w.heap.size ≤ gb101));have GE101 := Aside0.mk ((by rw [hg];exact (below_size (by exact HB.out)) : w.heap.size ≤ gb101));replace HB := Aside0.mk (below_step (by exact HB.out) hb);clear hb hbox hg) | ((with_reducible refine gate_dst (N := 2) rfl ?_);refine box_event ?hg (N := 2) ?hd (cs := #[.int .i64 0, .int .i64 0, .slice none 0 0]) (t := 27) ?hr ?_;(case hd => rfl);(case hg => rfl);(case hr => first | (go_simp;done) | (go_simp;rfl));intro gb102 hg w4 hbox hb;have BK102 := Aside0.mk (hbox);have GW102 := Aside0.mk ((by rw [hg];exact (below_size (by exact HB.out)) : w.heap.size ≤ gb102));have GE102 := Aside0.mk ((by rw [hg];exact (below_size (by exact HB.out)) : w.heap.size ≤ gb102));replace HB := Aside0.mk (below_step (by exact HB.out) hb);have NB101_102 := Aside0.mk ((by rw [hg];exact Nat.ne_of_lt (blk_lt BK101.out) : gb101 ≠ gb102));have NB102_101 := Aside0.mk ((by rw [hg];exact Nat.ne_of_gt (blk_lt BK101.out) : gb102 ≠ gb101));replace BK101 := Aside0.mk (blk_below BK101.out hb);clear hb hbox hg))
  replace BK101 := Aside0.mk (blk_drew BK101.out)
  replace BK102 := Aside0.mk (blk_drew BK102.out)
  replace HB := Aside0.mk (below_drew1 HB.out)
  refine start_ (n := 10) (S := fun w' => w'.cell? ⟨gb101, 0, none⟩ = some (.int .i64 a0_0) ∧ w'.cell? ⟨gb101, 1, none⟩ = some (.int .i64 a0_1) ∧ w'.cell? ⟨gb101, 2, none⟩ = some (.slice A0_2 l0_2.length c0_2)) (ds := []) #[false, false, false, false, false, false, false, false, false, false] (by kernel_rfl) rfl rfl ⟨(blk_cell BK101.out 0).trans rfl, (blk_cell BK101.out 1).trans rfl, (blk_cell BK101.out 2).trans rfl⟩ (fun hHeld => ?_);refine with_tabW spec_l3Copy.tab1 spec_l3Copy.bits1 (fun HT_ HW_ => ?_)
  generalize w4.drew = w5 at BK101 BK102 HB hHeld ⊢
  refine pv_ 0 3 #[true, false, false, false, false, false, false, false, false, false] (any_of HT_.out (by kernel_rfl)) ?_
  refine pv_ 2 5 #[true, false, true, false, false, false, false, false, false, false] (any_of HT_.out (by kernel_rfl)) ?_
  refine pv_ 5 8 #[true, false, true, false, false, true, false, false, false, false] (any_of HT_.out (by kernel_rfl)) ?_
  refine take_ (i := 1) (N := some 4) (v := ?_) (a' := ?_) #[true, true, true, false, false, true, false, false, false, false] rfl rfl (take_ofW HT_.out HW_.out (by kernel_rfl)) (fun _ _ _ h => h) (Or.inl ⟨by rfl, ?_⟩) hHeld ?_ ?_
  rotate_left
  ·rintro w' ⟨s0, s1, s2⟩
   go_simp
   with_reducible rfl
  rotate_left
  ·simp only [Act.put, List.setIfInBounds_toArray, List.set_cons_zero, List.set_cons_succ, i64_w, i32_w]
   rfl
  refine take_ (i := 3) (N := some 6) (v := ?_) (a' := ?_) #[true, true, true, true, false, true, false, false, false, false] rfl rfl (take_ofW HT_.out HW_.out (by kernel_rfl)) (fun _ _ _ h => h) (Or.inl ⟨by rfl, ?_⟩) hHeld ?_ ?_
  rotate_left
  ·rintro w' ⟨s0, s1, s2⟩
   go_simp
   with_reducible rfl
  rotate_left
  ·simp only [Act.put, List.setIfInBounds_toArray, List.set_cons_zero, List.set_cons_succ, i64_w, i32_w]
   rfl
  refine take_ (i := 6) (N := some 9) (v := ?_) (a' := ?_) #[true, true, true, true, false, true, true, false, false, false] rfl rfl (take_ofW HT_.out HW_.out (by kernel_rfl)) (fun _ _ _ h => h) (Or.inl ⟨by rfl, ?_⟩) hHeld ?_ ?_
  rotate_left
  ·rintro w' ⟨s0, s1, s2⟩
   go_simp
   with_reducible rfl
  rotate_left
  ·simp only [Act.put, List.setIfInBounds_toArray, List.set_cons_zero, List.set_cons_succ, i64_w, i32_w]
   rfl
  refine one_ (i := 4) (N := some 7) #[true, true, true, true, true, true, true, false, false, false] rfl rfl (one_of HT_.out (by kernel_rfl)) (by decide) (fun K hK => ?_)
  refine Kd.R_lit_step (Kd.int .i64) _ 3 ?hg (N := 7) ?hd (xs := ([] : List Int)) (inner := []) (ok := fun _ => True) (okp := fun _ => True) ?hr ?hp (fun _ hk => hk) trivial (Below.refl _ _) (Nat.le_refl _) (by simp) ?_;(case hd => rfl);(case hg => rfl);(case hr => first | (go_simp;done) | (go_simp;rfl));(case hp => exact (Reps.none _ _))
  intro v104 w6 ho7 hb hg_ hnew_
  clear hg_ hnew_
  (first | rw [← Ny103.out] at ho7 | (simp only [Int.reduceToNat] at ho7;rw [← Ny103.out] at ho7))
  have HO105 := Aside0.mk (Kd.R_lower ho7 (below_size (by exact HB.out)))
  replace BK101 := Aside0.mk (blk_below BK101.out hb)
  replace BK102 := Aside0.mk (blk_below BK102.out hb)
  replace HB := Aside0.mk (below_step (by exact HB.out) hb)
  clear hb ho7
  refine hK.out _ _ ⟨(blk_cell BK101.out 0).trans rfl, (blk_cell BK101.out 1).trans rfl, (blk_cell BK101.out 2).trans rfl⟩ (fun hHeld => ?_)
  clear hK K
  refine norm_ (a' := ?_) ?_ ?_
  rotate_left
  ·show Act.put _ (some 7) _ = _
   simp only [Act.put, List.setIfInBounds_toArray, List.set_cons_zero, List.set_cons_succ, i64_w, i32_w]
   rfl
  refine one_ (i := 7) (N := some 10) #[true, true, true, true, true, true, true, true, false, false] rfl rfl (one_of HT_.out (by kernel_rfl)) (by decide) (fun K hK => ?_)
  refine Kd.R_append_rows_step (Kd.int .i64) (w0 := w) w.heap.size (by rfl) (.tmp 7) (.tmp 9) 22 3 (.int .i64 0) 8 rfl Try.underlying22 info3 rfl (by decide) (by omega) v104 y103 l0_2 _ _ _ (fun _ => True) (fun _ => False) rfl rfl ?aO ?aR (fun _ _ h => h) (fun _ h => h.elim) ?aF ?aB ?aS ?aL ?_
  (case aR => repeat (first | exact (Kd.C_below HR0_2.out HB.out) | (with_reducible refine Kd.C_alloc ?_ _) | (with_reducible refine Kd.C_drewN ?_ _) | (with_reducible refine Kd.C_drew ?_)))
  (case aB => exact (by exact HB.out))
  (case aF => exact (fun _ _ => trivial))
  (case aO => exact (by exact HO105.out))
  (case aS => exact (below_size (by exact HB.out)))
  (case aL => have := LMc2.out;omega)
  intro v107 w8 ho hb hg hat
  rw [← Ny106.out] at ho
  have n0_ := Aside0.mk (blk_grown BK101.out hg (Kd.R_ne HO105.out BK101.out (by decide)))
  have n1_ := Aside0.mk (blk_grown BK102.out hg (Kd.R_ne HO105.out BK102.out (by decide)))
  have n2_ := Aside0.mk (hb)
  have n3_ := Aside0.mk (ho)
  clear BK101
  clear BK102
  clear HB
  clear HO105
  have BK101 := n0_
  have BK102 := n1_
  have HB := n2_
  have HO108 := n3_
  clear n0_ n1_ n2_ n3_
  clear ho hb hg hat
  obtain ⟨Ao9, co9, eo9⟩ := Kd.R_slice HO108.out
  (first | subst eo9 | (injection eo9 with f1_ f2_ f3_;have f4_ := f1_.symm;have f5_ := f3_.symm;clear f1_ f2_ f3_;subst f4_;subst f5_))
  refine hK.out _ _ ⟨(blk_cell BK101.out 0).trans rfl, (blk_cell BK101.out 1).trans rfl, (blk_cell BK101.out 2).trans rfl⟩ (fun hHeld => ?_)
  clear hK K
  refine norm_ (a' := ?_) ?_ ?_
  rotate_left
  ·show Act.put _ (some 10) _ = _
   simp only [Act.put, List.setIfInBounds_toArray, List.set_cons_zero, List.set_cons_succ, i64_w, i32_w]
   rfl
  refine pv_ 8 11 #[true, true, true, true, true, true, true, true, true, false] (any_of HT_.out (by kernel_rfl)) ?_
  refine one_ (i := 9) (N := none) #[true, true, true, true, true, true, true, true, true, true] rfl rfl (one_of HT_.out (by kernel_rfl)) (by decide) (fun K hK => ?_)
  have hs10 : w8.cell? ⟨gb102, 0, none⟩ = some (.int .i64 0) := (blk_cell BK102.out 0).trans rfl
  have hfs10 := blk_frozen BK102.out 0
  have hns10_0 := NB101_102.out
  have hms10_0 := NB102_101.out
  have hs11 : w8.cell? ⟨gb102, 1, none⟩ = some (.int .i64 0) := (blk_cell BK102.out 1).trans rfl
  have hfs11 := blk_frozen BK102.out 1
  have hns11_0 := NB101_102.out
  have hms11_0 := NB102_101.out
  have hs12 : w8.cell? ⟨gb102, 2, none⟩ = some (.slice none 0 0) := (blk_cell BK102.out 2).trans rfl
  have hfs12 := blk_frozen BK102.out 2
  have hns12_0 := NB101_102.out
  have hms12_0 := NB102_101.out
  refine skip_ (w1 := ?_) (by rfl) rfl ?_ ?_
  rotate_left
  ·go_simp
   rfl
  refine hK.out _ _ ⟨((cell_far (p := ⟨gb102, _, none⟩) NB101_102.out _).trans (((cell_far (p := ⟨gb102, _, none⟩) NB101_102.out _).trans (((cell_far (p := ⟨gb102, _, none⟩) NB101_102.out _).trans (hHeld.1)))))), ((cell_far (p := ⟨gb102, _, none⟩) NB101_102.out _).trans (((cell_far (p := ⟨gb102, _, none⟩) NB101_102.out _).trans (((cell_far (p := ⟨gb102, _, none⟩) NB101_102.out _).trans (hHeld.2.1)))))), ((cell_far (p := ⟨gb102, _, none⟩) NB101_102.out _).trans (((cell_far (p := ⟨gb102, _, none⟩) NB101_102.out _).trans (((cell_far (p := ⟨gb102, _, none⟩) NB101_102.out _).trans (hHeld.2.2))))))⟩ (fun hHeld => ?_)
  clear hK K
  refine done_ (done_of HT_.out (by kernel_rfl)) ?_
  try go_wp2
  refine bodyPost_ret (results_cell_row rfl _ _ gb102 27 #[.int .i64 a0_0, .int .i64 a0_1, .slice Ao9 y106.length co9] (0, 0) _ rfl (by (with_reducible repeat (first | refine blk_drewN ?_ _ | refine blk_drew ?_ | refine blk_alloc ?_ _));refine blk_put (cs := #[.int .i64 a0_0, .int .i64 a0_1, .slice none 0 0]) ?_ 2 _ rfl;(with_reducible repeat (first | refine blk_drewN ?_ _ | refine blk_drew ?_ | refine blk_alloc ?_ _));refine blk_put (cs := #[.int .i64 a0_0, .int .i64 0, .slice none 0 0]) ?_ 1 _ rfl;(with_reducible repeat (first | refine blk_drewN ?_ _ | refine blk_drew ?_ | refine blk_alloc ?_ _));refine blk_put (cs := #[.int .i64 0, .int .i64 0, .slice none 0 0]) ?_ 0 _ rfl;(with_reducible repeat (first | refine blk_drewN ?_ _ | refine blk_drew ?_ | refine blk_alloc ?_ _));exact BK102.out) Try.underlying27 rfl (by kernel_rfl)) rfl ?_
  exact ⟨_, by first | rfl | (simp [errW_none, errW_some] <;> rfl) | (simp [*, errW_none, errW_some] <;> rfl), by (with_reducible repeat (first | apply Kd.R_alloc | apply Kd.R_drewN | apply Kd.R_drew));exact Kd.R_mono (Kd.R_far (p := ⟨gb102, 2, none⟩) (Kd.R_far (p := ⟨gb102, 1, none⟩) (Kd.R_far (p := ⟨gb102, 0, none⟩) (Kd.R_types HO108.out BK102.out (by decide)) (fun _ hk => hk.2) (.int .i64 a0_0)) (fun _ hk => hk.2) (.int .i64 a0_1)) (fun _ hk => hk.2) (.slice Ao9 y106.length co9)) (fun _ hk => trivial), by repeat (first | (with_reducible first | exact HB.out | apply below_alloc | apply pw_below_drewN | apply below_drew1 | refine below_set ?_ GE101.out | refine below_set ?_ GE102.out) | exact HB.out)⟩
 ·rw [if_neg c2] at H
  exact absurd H (by simp)

end Go.Proofs.Ytiplpckgmikmeaa.M
namespace Go.Proofs.Ytiplpckgmikmeaa.M
set_option linter.unusedVariables false
set_option linter.unusedSimpArgs false
open Go.RowKit Go.Proofs.YtiplpckgmikmeaaW.PrintWords Go.Proofs.YtiplpckgmikmeaaW.PrintLast Go.Proofs.YtiplpckgmikmeaaW.PrintMore
@[reducible] def qHPut_0 : Array Bool := #[true, true, true, true, true, true, true, true, true, true, true, true]
@[reducible] def qHPut_1 : Array Bool := #[true, true, true, true, true, true, true, true, true, true, true, false]
@[reducible] def qHPut_2 : Array Bool := #[true, true, true, true, true, true, true, true, true, true, false, false]
@[reducible] def qHPut_3 : Array Bool := #[true, true, true, true, true, true, true, true, true, false, false, false]
@[reducible] def qHPut_4 : Array Bool := #[true, true, true, true, true, true, true, true, false, false, false, false]
@[reducible] def qHPut_5 : Array Bool := #[true, true, true, true, true, true, true, false, false, false, false, false]
@[reducible] def qHPut_6 : Array Bool := #[true, true, true, true, true, true, false, false, false, false, false, false]
@[reducible] def qHPut_7 : Array Bool := #[true, true, true, true, true, false, false, false, false, false, false, false]
@[reducible] def qHPut_8 : Array Bool := #[true, true, true, true, false, false, false, false, false, false, false, false]
@[reducible] def qHPut_9 : Array Bool := #[true, true, true, false, false, false, false, false, false, false, false, false]
@[reducible] def qHPut_10 : Array Bool := #[true, true, false, false, false, false, false, false, false, false, false, false]
@[reducible] def qHPut_11 : Array Bool := #[true, false, false, false, false, false, false, false, false, false, false, false]
@[reducible] def qHPut_12 : Array Bool := #[false, false, false, false, false, false, false, false, false, false, false, false]

def putIn (l : List S27) (i : Nat) (o : S27) : List S27 := l.take i ++ [o] ++ l.drop i
def putAt (p : S27 → Option Bool) (l : List S27) : Nat → Nat → Option Nat
  | 0, i => some i
  | d + 1, i => (p (l.getD i z27)).bind fun t => if t = true then putAt p l d (i + 1) else some i
theorem putAt_range {p : S27 → Option Bool} {l : List S27} {i : Nat} : ∀ {d n : Nat}, putAt p l d n = some i → n ≤ i ∧ i ≤ n + d
  | 0, n, h => by
    unfold putAt at h
    cases h
    omega
  | d + 1, n, h => by
    unfold putAt at h
    obtain ⟨t, _, h⟩ := Option.bind_eq_some_iff.1 h
    by_cases c : t = true
    · rw [if_pos c] at h
      have := putAt_range h
      omega
    · rw [if_neg c] at h
      cases h
      omega
section
variable {α : Type} {d : Kd α} {e : Nat} {w : World} {base : Nat} {ok : Nat → Prop} {v : Value}
theorem S_of_tags {f : Nat → Nat} {zs : List (α × Nat)} (h : (Kd.tag f d).R e w base ok v zs) (hn : (zs.map Prod.snd).Nodup) : Kd.S d e w base ok v (zs.map Prod.fst) := by
  obtain ⟨h0, inner, ho, hr⟩ := h
  refine ⟨fun b => (zs.map Prod.snd).idxOf (f b), h0, inner, by rw [List.length_zipIdx, List.length_map]; exact ho, by rw [List.length_zipIdx, List.length_map]; exact hr.1, fun j p hj => ?_⟩
  rw [List.getElem?_zipIdx, Nat.zero_add, List.getElem?_map] at hj
  obtain ⟨x, hx, rfl⟩ := Option.map_eq_some_iff.1 hj
  obtain ⟨z, hz, rfl⟩ := Option.map_eq_some_iff.1 hx
  refine d.M_mono (fun k hk => ⟨hk.1, ?_⟩) (hr.2 j z hz)
  have h2 : f k = z.2 := hk.2
  show (zs.map Prod.snd).idxOf (f k) = j
  have hl : j < (zs.map Prod.snd).length := by
    rw [List.length_map]
    exact (List.getElem?_eq_some_iff.1 hz).1
  have he : (zs.map Prod.snd)[j] = z.2 := by
    obtain ⟨hj2, he⟩ := List.getElem?_eq_some_iff.1 hz
    rw [List.getElem_map, he]
  rw [h2, ← he]
  exact hn.idxOf_getElem j hl
theorem R_readsM {xs : List α} (h : d.R e w base ok v xs) : ∃ A c, v = .slice A xs.length c ∧ xs.length ≤ c ∧ ReadsRow (d.M w base (fun k => ok k ∧ some k ≠ v.ownBlock)) d.sz w A xs.length xs := OwnRow.reads h.2
end
theorem reads_drop {α : Type} {R : α → List Value → Prop} {size : Nat} {w : World} {A : Option Addr} {xs : List α} {m c : Nat} (h : ReadsRow R size w A xs.length xs) (hm : m ≤ xs.length) (hc : xs.length ≤ c) : ReadsRow R size w (if c = m then A else A.map (·.add (m * size))) (xs.drop m).length (xs.drop m) := by
  have hl : (xs.drop m).length = xs.length - m := List.length_drop
  refine ⟨rfl, by rw [hl]; have := h.2.1; omega, fun hp => ?_⟩
  rw [hl] at hp
  obtain ⟨ad, rfl, hcell⟩ := h.2.2 (by omega)
  rw [if_neg (by omega)]
  refine ⟨ad.add (m * size), rfl, fun j p hj => ?_⟩
  rw [List.getElem?_drop] at hj
  obtain ⟨cs, h1, h2, h3⟩ := hcell (m + j) p hj
  refine ⟨cs, h1, h2, fun i u hu => ?_⟩
  rw [add_add, show m * size + (j * size + i) = (m + j) * size + i by rw [Nat.add_mul]; omega]
  exact h3 i u hu
set_option maxHeartbeats 4000000 in
set_option maxRecDepth 100000 in
theorem l3Put_walk (p : S27 → Option Bool) (P0 : Nat → Prop) (A : Option Addr) (c : Nat) (xs : List S27) (o : S27) (Ao : Option Addr) (co : Nat) (base : Nat) (w0 w : World) (hB : Below base w0 w) (hbs : base ≤ w.heap.size)
    (hS : Kd.S k27 27 w base P0 (.slice A xs.length c) xs) (hro : Kd.C (Kd.int .i64) w Ao o.f2.length o.f2) (hco : o.f2.length ≤ co) (hlen : xs.length < 1099511627776) (hlo : o.f2.length < 1099511627776)
    (i : Nat) (hi : putAt p xs xs.length 0 = some i)
    (hp : ∀ x ∈ xs, ∀ b, p x = some b → ∀ (A2 : Option Addr) (c2 : Nat) (W : World), x.f2.length ≤ c2 → Kd.C (Kd.int .i64) W A2 x.f2.length x.f2 → Kd.C (Kd.int .i64) W Ao o.f2.length o.f2 → Calls Try.prog 46 #[.agg #[.int .i64 x.f0, .int .i64 x.f1, .slice A2 x.f2.length c2], .agg #[.int .i64 o.f0, .int .i64 o.f1, .slice Ao o.f2.length co]] W fun e w' => e = .returned (.bool b) ∧ Below W.heap.size W w')
    (t : Bool) (hs : ∀ x, xs[i]? = some x → ∀ (A2 : Option Addr) (c2 : Nat) (W : World), x.f2.length ≤ c2 → Kd.C (Kd.int .i64) W A2 x.f2.length x.f2 → Kd.C (Kd.int .i64) W Ao o.f2.length o.f2 → Calls Try.prog 68 #[.agg #[.int .i64 x.f0, .int .i64 x.f1, .slice A2 x.f2.length c2], .agg #[.int .i64 o.f0, .int .i64 o.f1, .slice Ao o.f2.length co]] W fun e w' => e = .returned (.bool t) ∧ Below W.heap.size W w')
    (r : List S27) (hr : r = if i < xs.length ∧ t = true then xs else putIn xs i o) :
    Calls Try.prog 82 #[.slice A xs.length c, .agg #[.int .i64 o.f0, .int .i64 o.f1, .slice Ao o.f2.length co]] w fun e w' => ∃ v0 : Value, e = .returned v0 ∧ Kd.S k27 27 w' base (fun k => P0 k ∨ w.heap.size ≤ k) v0 r ∧ Below base w0 w' ∧ Kept w w' P0 := by
  have hu34 := Try.underlying34
  have HS := Aside0.mk hS
  have HRO := Aside0.mk hro
  have HCO := Aside0.mk hco
  have HLEN := Aside0.mk hlen
  have HLO := Aside0.mk hlo
  have HI := Aside0.mk hi
  have HRR := Aside0.mk hr
  have HP := Aside0.mk hp
  have HSM := Aside0.mk hs
  have HB0 := Aside0.mk hB
  have HBW := Aside0.mk hbs
  have HB := Aside0.mk (Below.refl w.heap.size w)
  have HLC := Aside0.mk (Kd.S_reads' hS).2.1
  have HOW := Aside0.mk (Kd.S_lt hS)
  clear hS hro hco hlen hlo hi hp hs hB hr hbs
  go_enter Try.func82, Try.ntmps82
  go_upto_block 0 with (first | ((with_reducible refine gate_dst (N := 3) rfl ?_); refine box_event ?hg (N := 3) ?hd (cs := #[.int .i64 o.f0, .int .i64 o.f1, .slice Ao o.f2.length co]) (t := 27) ?hr ?_; (case hd => rfl); (case hg => rfl); (case hr => first | (go_simp; done) | (go_simp; rfl)); intro gb1 hg wb1 hbox hb; have n0_ := Aside0.mk (below_step HB.out hb); have n1_ := Aside0.mk (hbox); have n2_ := Aside0.mk ((by rw [hg]; exact below_size HB.out : w.heap.size ≤ gb1)); clear HB; have HB := n0_; have BK1 := n1_; have GE1 := n2_; clear n0_ n1_ n2_; have hb1_ := Aside0.mk hb; clear hb hbox hg))
  have n0_ := Aside0.mk (below_then HB0.out HBW.out hb1_.out)
  have n1_ := Aside0.mk (Kd.S_below HS.out hb1_.out)
  clear HB0 HS hb1_
  have HB0 := n0_
  have HS := n1_
  clear n0_ n1_
  go_cut [5] (fun v5 wc => v5 = .int .i64 (i : Int) ∧ Aside0 (Kd.S k27 27 wc base P0 (.slice A xs.length c) xs) ∧ Aside0 (wc.heap[gb1]? = some (.cells #[.int .i64 o.f0, .int .i64 o.f1, .slice Ao o.f2.length co] 27 (0, 0))) ∧ Aside0 (Below w.heap.size w wc) ∧ Aside0 (Below base w0 wc))
  case first =>
    go_wp2
    go_loopw [5] (fun v5 w' => ∃ m d : Nat, m + d = xs.length ∧ v5 = .int .i64 (m : Int) ∧ Aside0 (putAt p xs d m = some i) ∧ Aside0 (Kd.S k27 27 w' base P0 (.slice A xs.length c) xs) ∧ Aside0 (w'.heap[gb1]? = some (.cells #[.int .i64 o.f0, .int .i64 o.f1, .slice Ao o.f2.length co] 27 (0, 0))) ∧ Aside0 (Below w.heap.size w w') ∧ Aside0 (Below base w0 w')) (fun v5 _ => xs.length - (intOf v5).toNat)
    case atStart => exact ⟨0, xs.length, by omega, rfl, HI, HS, BK1, HB, HB0⟩
    case round =>
      rename_i wr
      clear HS BK1 HB HB0
      obtain ⟨n, d, hk, rfl, HE, HS, BK1, HB, HB0⟩ := hrel
      by_cases hlt : n < xs.length
      · have hC := (Kd.S_reads' HS.out).2.2
        obtain ⟨ad, A2, c2, e, h0, h1, h2, hl2, hg2⟩ := at_T27 hC (n : Int) (by omega) (by omega)
        clear hC
        have HRD := Aside0.mk (show rd_T27 xs (n : Int) = xs.getD n z27 from rfl)
        generalize rd_T27 xs (n : Int) = x at *
        simp only [Int.toNat_natCast] at h0 h1 h2
        subst e
        have HM := Aside0.mk (show x ∈ xs by
          rw [HRD.out, List.getD_eq_getElem?_getD, List.getElem?_eq_getElem hlt]
          exact List.getElem_mem hlt)
        obtain ⟨d', rfl⟩ : ∃ d', d = d' + 1 := ⟨d - 1, by omega⟩
        obtain ⟨b, hpx, hrest⟩ := Option.bind_eq_some_iff.1 (show (p x).bind _ = some i from by have := HE.out; rw [putAt, ← HRD.out] at this; exact this)
        have HPX := Aside0.mk hpx
        have HRE := Aside0.mk hrest
        clear hpx hrest HE
        have hb := below_drew (Below.refl wr.heap.size wr)
        have C0 := Aside0.mk h0
        have C1 := Aside0.mk h1
        have C2 := Aside0.mk h2
        have HL2 := Aside0.mk hl2
        have HG2 := Aside0.mk (Kd.C_below hg2 hb)
        clear h0 h1 h2 hl2 hg2
        have n0_ := Aside0.mk ((hb.cell (World.block_lt_of_cell? _ _ C0.out)).trans C0.out)
        have n1_ := Aside0.mk ((hb.cell (World.block_lt_of_cell? _ _ C1.out)).trans C1.out)
        have n2_ := Aside0.mk ((hb.cell (World.block_lt_of_cell? _ _ C2.out)).trans C2.out)
        have n3_ := Aside0.mk (blk_below BK1.out hb)
        have n4_ := Aside0.mk (Kd.S_below HS.out hb)
        have n5_ := Aside0.mk (below_step HB.out hb)
        have n6_ := Aside0.mk (below_then HB0.out (Nat.le_trans HBW.out HB.out.size) hb)
        clear C0
        clear C1
        clear C2
        clear BK1
        clear HS
        clear HB
        clear HB0
        have C0 := n0_
        have C1 := n1_
        have C2 := n2_
        have BK1 := n3_
        have HS := n4_
        have HB := n5_
        have HB0 := n6_
        clear n0_ n1_ n2_ n3_ n4_ n5_ n6_
        clear hb
        have hn0 : (0 : Int) ≤ (n : Int) := by omega
        have hni : (n : Int) < (xs.length : Int) := by omega
        cases b with
        | true =>
          have hw1 : wrap64 ((n : Int) + 1) = ((n + 1 : Nat) : Int) := by have := HLEN.out; unfold wrap64; omega
          go_wp2
          refine start_ (n := 12) (S := fun w' => w'.cell? (ad.add (n * 3)) = some (.int .i64 x.f0) ∧ w'.cell? ⟨(ad.add (n * 3)).block, (ad.add (n * 3)).off + 1, none⟩ = some (.int .i64 x.f1) ∧ w'.cell? ⟨(ad.add (n * 3)).block, (ad.add (n * 3)).off + 2, none⟩ = some (.slice A2 x.f2.length c2) ∧ w'.cell? ⟨gb1, 0, none⟩ = some (.int .i64 o.f0) ∧ w'.cell? ⟨gb1, 1, none⟩ = some (.int .i64 o.f1) ∧ w'.cell? ⟨gb1, 2, none⟩ = some (.slice Ao o.f2.length co)) (ds := []) qHPut_12 (by kernel_rfl) rfl rfl ⟨C0.out, C1.out, C2.out, (blk_cell BK1.out 0).trans rfl, (blk_cell BK1.out 1).trans rfl, (blk_cell BK1.out 2).trans rfl⟩ (fun hHeld => ?_)
          refine pv_ 0 7 qHPut_11 (by kernel_rfl) ?_
          refine pv_ 1 8 qHPut_10 (by kernel_rfl) ?_
          refine pv_ 2 9 qHPut_9 (by kernel_rfl) ?_
          refine pv_ 3 10 qHPut_8 (by kernel_rfl) ?_
          refine pv_ 4 11 qHPut_7 (by kernel_rfl) ?_
          refine pv_ 5 12 qHPut_6 (by kernel_rfl) ?_
          refine pv_ 6 13 qHPut_5 (by kernel_rfl) ?_
          refine pv_ 7 14 qHPut_4 (by kernel_rfl) ?_
          refine take_ (i := 8) (N := some 15) (v := ?_) (a' := ?_) qHPut_3 rfl rfl (by kernel_rfl) (fun _ _ _ h => h) (Or.inl ⟨by rfl, ?_⟩) hHeld ?_ ?_
          rotate_left
          · rintro w' ⟨s0, s1, s2, s3, s4, s5⟩
            go_simp
            with_reducible rfl
          rotate_left
          · simp only [Act.put, List.setIfInBounds_toArray, List.set_cons_zero, List.set_cons_succ, i64_w, i32_w]
            rfl
          refine take_ (i := 9) (N := some 16) (v := ?_) (a' := ?_) qHPut_2 rfl rfl (by kernel_rfl) (fun _ _ _ h => h) (Or.inl ⟨by rfl, ?_⟩) hHeld ?_ ?_
          rotate_left
          · rintro w' ⟨s0, s1, s2, s3, s4, s5⟩
            go_simp
            with_reducible rfl
          rotate_left
          · simp only [Act.put, List.setIfInBounds_toArray, List.set_cons_zero, List.set_cons_succ, i64_w, i32_w]
            rfl
          refine one_ (i := 10) (N := some 17) qHPut_1 rfl rfl (by kernel_rfl) (by decide) (fun K hK => ?_)
          refine goes_ Try.func46 (by kernel_rfl) rfl #[.agg #[.int .i64 x.f0, .int .i64 x.f1, .slice A2 x.f2.length c2], .agg #[.int .i64 o.f0, .int .i64 o.f1, .slice Ao o.f2.length co]] (by rfl) rfl rfl (by simp only [List.map_toArray, List.map_cons, List.map_nil]; rfl) ?_
          with_reducible refine (HP.out x HM.out true HPX.out A2 c2 _ HL2.out HG2.out (Kd.C_below HRO.out HB.out)).mono ?_
          rintro e w' ⟨rfl, hb⟩
          refine ⟨_, rfl, ?_⟩
          have n0_ := Aside0.mk ((hb.cell (World.block_lt_of_cell? _ _ C0.out)).trans C0.out)
          have n1_ := Aside0.mk ((hb.cell (World.block_lt_of_cell? _ _ C1.out)).trans C1.out)
          have n2_ := Aside0.mk ((hb.cell (World.block_lt_of_cell? _ _ C2.out)).trans C2.out)
          have n3_ := Aside0.mk (blk_below BK1.out hb)
          have n4_ := Aside0.mk (Kd.S_below HS.out hb)
          have n5_ := Aside0.mk (below_step HB.out hb)
          have n6_ := Aside0.mk (below_then HB0.out (Nat.le_trans HBW.out HB.out.size) hb)
          clear C0
          clear C1
          clear C2
          clear BK1
          clear HS
          clear HB
          clear HB0
          have C0 := n0_
          have C1 := n1_
          have C2 := n2_
          have BK1 := n3_
          have HS := n4_
          have HB := n5_
          have HB0 := n6_
          clear n0_ n1_ n2_ n3_ n4_ n5_ n6_
          clear hb
          refine hK.out _ _ ⟨C0.out, C1.out, C2.out, (blk_cell BK1.out 0).trans rfl, (blk_cell BK1.out 1).trans rfl, (blk_cell BK1.out 2).trans rfl⟩ (fun hHeld => ?_)
          clear hK K
          refine norm_ (a' := ?_) ?_ ?_
          rotate_left
          · show Act.put _ (some 17) _ = _
            simp only [Act.put, List.setIfInBounds_toArray, List.set_cons_zero, List.set_cons_succ, i64_w, i32_w]
            rfl
          refine pv_ 11 18 qHPut_0 (by kernel_rfl) ?_
          refine done_ (by kernel_rfl) ?_
    
          go_wp2
          go_roundw
          case rel =>
            exact ⟨n + 1, d', by omega, by rw [hw1], ⟨by have := HRE.out; rw [if_pos trivial] at this; exact this⟩, HS, BK1, HB, HB0⟩
          case measure => rw [hw1]; simp [intOf]; omega
        | false =>
          go_wp2
          refine start_ (n := 12) (S := fun w' => w'.cell? (ad.add (n * 3)) = some (.int .i64 x.f0) ∧ w'.cell? ⟨(ad.add (n * 3)).block, (ad.add (n * 3)).off + 1, none⟩ = some (.int .i64 x.f1) ∧ w'.cell? ⟨(ad.add (n * 3)).block, (ad.add (n * 3)).off + 2, none⟩ = some (.slice A2 x.f2.length c2) ∧ w'.cell? ⟨gb1, 0, none⟩ = some (.int .i64 o.f0) ∧ w'.cell? ⟨gb1, 1, none⟩ = some (.int .i64 o.f1) ∧ w'.cell? ⟨gb1, 2, none⟩ = some (.slice Ao o.f2.length co)) (ds := []) qHPut_12 (by kernel_rfl) rfl rfl ⟨C0.out, C1.out, C2.out, (blk_cell BK1.out 0).trans rfl, (blk_cell BK1.out 1).trans rfl, (blk_cell BK1.out 2).trans rfl⟩ (fun hHeld => ?_)
          refine pv_ 0 7 qHPut_11 (by kernel_rfl) ?_
          refine pv_ 1 8 qHPut_10 (by kernel_rfl) ?_
          refine pv_ 2 9 qHPut_9 (by kernel_rfl) ?_
          refine pv_ 3 10 qHPut_8 (by kernel_rfl) ?_
          refine pv_ 4 11 qHPut_7 (by kernel_rfl) ?_
          refine pv_ 5 12 qHPut_6 (by kernel_rfl) ?_
          refine pv_ 6 13 qHPut_5 (by kernel_rfl) ?_
          refine pv_ 7 14 qHPut_4 (by kernel_rfl) ?_
          refine take_ (i := 8) (N := some 15) (v := ?_) (a' := ?_) qHPut_3 rfl rfl (by kernel_rfl) (fun _ _ _ h => h) (Or.inl ⟨by rfl, ?_⟩) hHeld ?_ ?_
          rotate_left
          · rintro w' ⟨s0, s1, s2, s3, s4, s5⟩
            go_simp
            with_reducible rfl
          rotate_left
          · simp only [Act.put, List.setIfInBounds_toArray, List.set_cons_zero, List.set_cons_succ, i64_w, i32_w]
            rfl
          refine take_ (i := 9) (N := some 16) (v := ?_) (a' := ?_) qHPut_2 rfl rfl (by kernel_rfl) (fun _ _ _ h => h) (Or.inl ⟨by rfl, ?_⟩) hHeld ?_ ?_
          rotate_left
          · rintro w' ⟨s0, s1, s2, s3, s4, s5⟩
            go_simp
            with_reducible rfl
          rotate_left
          · simp only [Act.put, List.setIfInBounds_toArray, List.set_cons_zero, List.set_cons_succ, i64_w, i32_w]
            rfl
          refine one_ (i := 10) (N := some 17) qHPut_1 rfl rfl (by kernel_rfl) (by decide) (fun K hK => ?_)
          refine goes_ Try.func46 (by kernel_rfl) rfl #[.agg #[.int .i64 x.f0, .int .i64 x.f1, .slice A2 x.f2.length c2], .agg #[.int .i64 o.f0, .int .i64 o.f1, .slice Ao o.f2.length co]] (by rfl) rfl rfl (by simp only [List.map_toArray, List.map_cons, List.map_nil]; rfl) ?_
          with_reducible refine (HP.out x HM.out false HPX.out A2 c2 _ HL2.out HG2.out (Kd.C_below HRO.out HB.out)).mono ?_
          rintro e w' ⟨rfl, hb⟩
          refine ⟨_, rfl, ?_⟩
          have n0_ := Aside0.mk ((hb.cell (World.block_lt_of_cell? _ _ C0.out)).trans C0.out)
          have n1_ := Aside0.mk ((hb.cell (World.block_lt_of_cell? _ _ C1.out)).trans C1.out)
          have n2_ := Aside0.mk ((hb.cell (World.block_lt_of_cell? _ _ C2.out)).trans C2.out)
          have n3_ := Aside0.mk (blk_below BK1.out hb)
          have n4_ := Aside0.mk (Kd.S_below HS.out hb)
          have n5_ := Aside0.mk (below_step HB.out hb)
          have n6_ := Aside0.mk (below_then HB0.out (Nat.le_trans HBW.out HB.out.size) hb)
          clear C0
          clear C1
          clear C2
          clear BK1
          clear HS
          clear HB
          clear HB0
          have C0 := n0_
          have C1 := n1_
          have C2 := n2_
          have BK1 := n3_
          have HS := n4_
          have HB := n5_
          have HB0 := n6_
          clear n0_ n1_ n2_ n3_ n4_ n5_ n6_
          clear hb
          refine hK.out _ _ ⟨C0.out, C1.out, C2.out, (blk_cell BK1.out 0).trans rfl, (blk_cell BK1.out 1).trans rfl, (blk_cell BK1.out 2).trans rfl⟩ (fun hHeld => ?_)
          clear hK K
          refine norm_ (a' := ?_) ?_ ?_
          rotate_left
          · show Act.put _ (some 17) _ = _
            simp only [Act.put, List.setIfInBounds_toArray, List.set_cons_zero, List.set_cons_succ, i64_w, i32_w]
            rfl
          refine pv_ 11 18 qHPut_0 (by kernel_rfl) ?_
          refine done_ (by kernel_rfl) ?_
    
          go_wp2
          go_meet
          case rel =>
            obtain rfl : n = i := by have := HRE.out; rw [if_neg (by decide)] at this; exact Option.some.inj this
            exact ⟨rfl, HS, BK1, HB, HB0⟩
      · obtain rfl : d = 0 := by omega
        have hb := below_drew (Below.refl wr.heap.size wr)
        have n0_ := Aside0.mk (blk_below BK1.out hb)
        have n1_ := Aside0.mk (Kd.S_below HS.out hb)
        have n2_ := Aside0.mk (below_step HB.out hb)
        have n3_ := Aside0.mk (below_then HB0.out (Nat.le_trans HBW.out HB.out.size) hb)
        clear BK1
        clear HS
        clear HB
        clear HB0
        have BK1 := n0_
        have HS := n1_
        have HB := n2_
        have HB0 := n3_
        clear n0_ n1_ n2_ n3_
        clear hb
        have hni : ¬ ((n : Int) < (xs.length : Int)) := by omega
        go_wp2
        refine start_ (n := 12) (S := fun w' => w'.cell? ⟨gb1, 0, none⟩ = some (.int .i64 o.f0) ∧ w'.cell? ⟨gb1, 1, none⟩ = some (.int .i64 o.f1) ∧ w'.cell? ⟨gb1, 2, none⟩ = some (.slice Ao o.f2.length co)) (ds := []) qHPut_12 (by kernel_rfl) rfl rfl ⟨(blk_cell BK1.out 0).trans rfl, (blk_cell BK1.out 1).trans rfl, (blk_cell BK1.out 2).trans rfl⟩ (fun hHeld => ?_)
        refine pv_ 0 7 qHPut_11 (by kernel_rfl) ?_
        refine pv_ 1 8 qHPut_10 (by kernel_rfl) ?_
        refine pv_ 2 9 qHPut_9 (by kernel_rfl) ?_
        refine pv_ 3 10 qHPut_8 (by kernel_rfl) ?_
        refine pv_ 4 11 qHPut_7 (by kernel_rfl) ?_
        refine pu_ 5 12 qHPut_6 (by kernel_rfl) ?_
        refine pu_ 6 13 qHPut_5 (by kernel_rfl) ?_
        refine pu_ 7 14 qHPut_4 (by kernel_rfl) ?_
        refine pu_ 8 15 qHPut_3 (by kernel_rfl) ?_
        refine pu_ 9 16 qHPut_2 (by kernel_rfl) ?_
        refine pu_ 10 17 qHPut_1 (by kernel_rfl) ?_
        refine pv_ 11 18 qHPut_0 (by kernel_rfl) ?_
        refine done_ (by kernel_rfl) ?_
  
        go_wp2
        go_meet
        case rel =>
          obtain rfl : n = i := by have := HE.out; rw [putAt] at this; exact Option.some.inj this
          exact ⟨rfl, HS, BK1, HB, HB0⟩
  case rest =>
    clear HS BK1 HB HB0
    obtain ⟨rfl, HS, BK1, HB, HB0⟩ := hcut
    go_upto_region 4 with (fail)
    go_cut [5, 32] (fun v5 v32 wd => v5 = .int .i64 (i : Int) ∧ v32 = .bool (decide (i < xs.length) && t) ∧ Aside0 (Kd.S k27 27 wd base P0 (.slice A xs.length c) xs) ∧ Aside0 (wd.heap[gb1]? = some (.cells #[.int .i64 o.f0, .int .i64 o.f1, .slice Ao o.f2.length co] 27 (0, 0))) ∧ Aside0 (Below w.heap.size w wd) ∧ Aside0 (Below base w0 wd))
    case first =>
      by_cases hlt : i < xs.length
      · have hC := (Kd.S_reads' HS.out).2.2
        obtain ⟨ad, A2, c2, e, h0, h1, h2, hl2, hg2⟩ := at_T27 hC (i : Int) (by omega) (by omega)
        clear hC
        have HRD := Aside0.mk (show xs[i]? = some (rd_T27 xs (i : Int)) by
          show xs[i]? = some (xs.getD i z27)
          rw [List.getD_eq_getElem?_getD, List.getElem?_eq_getElem hlt]; rfl)
        generalize rd_T27 xs (i : Int) = x at *
        simp only [Int.toNat_natCast] at h0 h1 h2
        subst e
        have hb := below_drew (Below.refl wc.heap.size wc)
        have C0 := Aside0.mk h0
        have C1 := Aside0.mk h1
        have C2 := Aside0.mk h2
        have HL2 := Aside0.mk hl2
        have HG2 := Aside0.mk (Kd.C_below hg2 hb)
        clear h0 h1 h2 hl2 hg2
        have n0_ := Aside0.mk ((hb.cell (World.block_lt_of_cell? _ _ C0.out)).trans C0.out)
        have n1_ := Aside0.mk ((hb.cell (World.block_lt_of_cell? _ _ C1.out)).trans C1.out)
        have n2_ := Aside0.mk ((hb.cell (World.block_lt_of_cell? _ _ C2.out)).trans C2.out)
        have n3_ := Aside0.mk (blk_below BK1.out hb)
        have n4_ := Aside0.mk (Kd.S_below HS.out hb)
        have n5_ := Aside0.mk (below_step HB.out hb)
        have n6_ := Aside0.mk (below_then HB0.out (Nat.le_trans HBW.out HB.out.size) hb)
        clear C0
        clear C1
        clear C2
        clear BK1
        clear HS
        clear HB
        clear HB0
        have C0 := n0_
        have C1 := n1_
        have C2 := n2_
        have BK1 := n3_
        have HS := n4_
        have HB := n5_
        have HB0 := n6_
        clear n0_ n1_ n2_ n3_ n4_ n5_ n6_
        clear hb
        have hn0 : (0 : Int) ≤ (i : Int) := by omega
        have hni : (i : Int) < (xs.length : Int) := by omega
        have HLT := Aside0.mk hlt
        go_wp2
        cases t with
        | true =>
          refine start_ (n := 12) (S := fun w' => w'.cell? (ad.add (i * 3)) = some (.int .i64 x.f0) ∧ w'.cell? ⟨(ad.add (i * 3)).block, (ad.add (i * 3)).off + 1, none⟩ = some (.int .i64 x.f1) ∧ w'.cell? ⟨(ad.add (i * 3)).block, (ad.add (i * 3)).off + 2, none⟩ = some (.slice A2 x.f2.length c2) ∧ w'.cell? ⟨gb1, 0, none⟩ = some (.int .i64 o.f0) ∧ w'.cell? ⟨gb1, 1, none⟩ = some (.int .i64 o.f1) ∧ w'.cell? ⟨gb1, 2, none⟩ = some (.slice Ao o.f2.length co)) (ds := []) qHPut_12 (by kernel_rfl) rfl rfl ⟨C0.out, C1.out, C2.out, (blk_cell BK1.out 0).trans rfl, (blk_cell BK1.out 1).trans rfl, (blk_cell BK1.out 2).trans rfl⟩ (fun hHeld => ?_)
          refine pv_ 0 21 qHPut_11 (by kernel_rfl) ?_
          refine pv_ 1 22 qHPut_10 (by kernel_rfl) ?_
          refine pv_ 2 23 qHPut_9 (by kernel_rfl) ?_
          refine pv_ 3 24 qHPut_8 (by kernel_rfl) ?_
          refine pv_ 4 25 qHPut_7 (by kernel_rfl) ?_
          refine pv_ 5 26 qHPut_6 (by kernel_rfl) ?_
          refine pv_ 6 27 qHPut_5 (by kernel_rfl) ?_
          refine pv_ 7 28 qHPut_4 (by kernel_rfl) ?_
          refine take_ (i := 8) (N := some 29) (v := ?_) (a' := ?_) qHPut_3 rfl rfl (by kernel_rfl) (fun _ _ _ h => h) (Or.inl ⟨by rfl, ?_⟩) hHeld ?_ ?_
          rotate_left
          · rintro w' ⟨s0, s1, s2, s3, s4, s5⟩
            go_simp
            with_reducible rfl
          rotate_left
          · simp only [Act.put, List.setIfInBounds_toArray, List.set_cons_zero, List.set_cons_succ, i64_w, i32_w]
            rfl
          refine take_ (i := 9) (N := some 30) (v := ?_) (a' := ?_) qHPut_2 rfl rfl (by kernel_rfl) (fun _ _ _ h => h) (Or.inl ⟨by rfl, ?_⟩) hHeld ?_ ?_
          rotate_left
          · rintro w' ⟨s0, s1, s2, s3, s4, s5⟩
            go_simp
            with_reducible rfl
          rotate_left
          · simp only [Act.put, List.setIfInBounds_toArray, List.set_cons_zero, List.set_cons_succ, i64_w, i32_w]
            rfl
          refine one_ (i := 10) (N := some 31) qHPut_1 rfl rfl (by kernel_rfl) (by decide) (fun K hK => ?_)
          refine goes_ Try.func68 (by kernel_rfl) rfl #[.agg #[.int .i64 x.f0, .int .i64 x.f1, .slice A2 x.f2.length c2], .agg #[.int .i64 o.f0, .int .i64 o.f1, .slice Ao o.f2.length co]] (by rfl) rfl rfl (by simp only [List.map_toArray, List.map_cons, List.map_nil]; rfl) ?_
          with_reducible refine (HSM.out x HRD.out A2 c2 _ HL2.out HG2.out (Kd.C_below HRO.out HB.out)).mono ?_
          rintro e w' ⟨rfl, hb⟩
          refine ⟨_, rfl, ?_⟩
          have n0_ := Aside0.mk ((hb.cell (World.block_lt_of_cell? _ _ C0.out)).trans C0.out)
          have n1_ := Aside0.mk ((hb.cell (World.block_lt_of_cell? _ _ C1.out)).trans C1.out)
          have n2_ := Aside0.mk ((hb.cell (World.block_lt_of_cell? _ _ C2.out)).trans C2.out)
          have n3_ := Aside0.mk (blk_below BK1.out hb)
          have n4_ := Aside0.mk (Kd.S_below HS.out hb)
          have n5_ := Aside0.mk (below_step HB.out hb)
          have n6_ := Aside0.mk (below_then HB0.out (Nat.le_trans HBW.out HB.out.size) hb)
          clear C0
          clear C1
          clear C2
          clear BK1
          clear HS
          clear HB
          clear HB0
          have C0 := n0_
          have C1 := n1_
          have C2 := n2_
          have BK1 := n3_
          have HS := n4_
          have HB := n5_
          have HB0 := n6_
          clear n0_ n1_ n2_ n3_ n4_ n5_ n6_
          clear hb
          refine hK.out _ _ ⟨C0.out, C1.out, C2.out, (blk_cell BK1.out 0).trans rfl, (blk_cell BK1.out 1).trans rfl, (blk_cell BK1.out 2).trans rfl⟩ (fun hHeld => ?_)
          clear hK K
          refine norm_ (a' := ?_) ?_ ?_
          rotate_left
          · show Act.put _ (some 31) _ = _
            simp only [Act.put, List.setIfInBounds_toArray, List.set_cons_zero, List.set_cons_succ, i64_w, i32_w]
            rfl
          refine pv_ 11 32 qHPut_0 (by kernel_rfl) ?_
          refine done_ (by kernel_rfl) ?_
    
          go_wp2
          go_meet
          case rel => exact ⟨rfl, by rw [decide_eq_true HLT.out]; rfl, HS, BK1, HB, HB0⟩
        | false =>
          refine start_ (n := 12) (S := fun w' => w'.cell? (ad.add (i * 3)) = some (.int .i64 x.f0) ∧ w'.cell? ⟨(ad.add (i * 3)).block, (ad.add (i * 3)).off + 1, none⟩ = some (.int .i64 x.f1) ∧ w'.cell? ⟨(ad.add (i * 3)).block, (ad.add (i * 3)).off + 2, none⟩ = some (.slice A2 x.f2.length c2) ∧ w'.cell? ⟨gb1, 0, none⟩ = some (.int .i64 o.f0) ∧ w'.cell? ⟨gb1, 1, none⟩ = some (.int .i64 o.f1) ∧ w'.cell? ⟨gb1, 2, none⟩ = some (.slice Ao o.f2.length co)) (ds := []) qHPut_12 (by kernel_rfl) rfl rfl ⟨C0.out, C1.out, C2.out, (blk_cell BK1.out 0).trans rfl, (blk_cell BK1.out 1).trans rfl, (blk_cell BK1.out 2).trans rfl⟩ (fun hHeld => ?_)
          refine pv_ 0 21 qHPut_11 (by kernel_rfl) ?_
          refine pv_ 1 22 qHPut_10 (by kernel_rfl) ?_
          refine pv_ 2 23 qHPut_9 (by kernel_rfl) ?_
          refine pv_ 3 24 qHPut_8 (by kernel_rfl) ?_
          refine pv_ 4 25 qHPut_7 (by kernel_rfl) ?_
          refine pv_ 5 26 qHPut_6 (by kernel_rfl) ?_
          refine pv_ 6 27 qHPut_5 (by kernel_rfl) ?_
          refine pv_ 7 28 qHPut_4 (by kernel_rfl) ?_
          refine take_ (i := 8) (N := some 29) (v := ?_) (a' := ?_) qHPut_3 rfl rfl (by kernel_rfl) (fun _ _ _ h => h) (Or.inl ⟨by rfl, ?_⟩) hHeld ?_ ?_
          rotate_left
          · rintro w' ⟨s0, s1, s2, s3, s4, s5⟩
            go_simp
            with_reducible rfl
          rotate_left
          · simp only [Act.put, List.setIfInBounds_toArray, List.set_cons_zero, List.set_cons_succ, i64_w, i32_w]
            rfl
          refine take_ (i := 9) (N := some 30) (v := ?_) (a' := ?_) qHPut_2 rfl rfl (by kernel_rfl) (fun _ _ _ h => h) (Or.inl ⟨by rfl, ?_⟩) hHeld ?_ ?_
          rotate_left
          · rintro w' ⟨s0, s1, s2, s3, s4, s5⟩
            go_simp
            with_reducible rfl
          rotate_left
          · simp only [Act.put, List.setIfInBounds_toArray, List.set_cons_zero, List.set_cons_succ, i64_w, i32_w]
            rfl
          refine one_ (i := 10) (N := some 31) qHPut_1 rfl rfl (by kernel_rfl) (by decide) (fun K hK => ?_)
          refine goes_ Try.func68 (by kernel_rfl) rfl #[.agg #[.int .i64 x.f0, .int .i64 x.f1, .slice A2 x.f2.length c2], .agg #[.int .i64 o.f0, .int .i64 o.f1, .slice Ao o.f2.length co]] (by rfl) rfl rfl (by simp only [List.map_toArray, List.map_cons, List.map_nil]; rfl) ?_
          with_reducible refine (HSM.out x HRD.out A2 c2 _ HL2.out HG2.out (Kd.C_below HRO.out HB.out)).mono ?_
          rintro e w' ⟨rfl, hb⟩
          refine ⟨_, rfl, ?_⟩
          have n0_ := Aside0.mk ((hb.cell (World.block_lt_of_cell? _ _ C0.out)).trans C0.out)
          have n1_ := Aside0.mk ((hb.cell (World.block_lt_of_cell? _ _ C1.out)).trans C1.out)
          have n2_ := Aside0.mk ((hb.cell (World.block_lt_of_cell? _ _ C2.out)).trans C2.out)
          have n3_ := Aside0.mk (blk_below BK1.out hb)
          have n4_ := Aside0.mk (Kd.S_below HS.out hb)
          have n5_ := Aside0.mk (below_step HB.out hb)
          have n6_ := Aside0.mk (below_then HB0.out (Nat.le_trans HBW.out HB.out.size) hb)
          clear C0
          clear C1
          clear C2
          clear BK1
          clear HS
          clear HB
          clear HB0
          have C0 := n0_
          have C1 := n1_
          have C2 := n2_
          have BK1 := n3_
          have HS := n4_
          have HB := n5_
          have HB0 := n6_
          clear n0_ n1_ n2_ n3_ n4_ n5_ n6_
          clear hb
          refine hK.out _ _ ⟨C0.out, C1.out, C2.out, (blk_cell BK1.out 0).trans rfl, (blk_cell BK1.out 1).trans rfl, (blk_cell BK1.out 2).trans rfl⟩ (fun hHeld => ?_)
          clear hK K
          refine norm_ (a' := ?_) ?_ ?_
          rotate_left
          · show Act.put _ (some 31) _ = _
            simp only [Act.put, List.setIfInBounds_toArray, List.set_cons_zero, List.set_cons_succ, i64_w, i32_w]
            rfl
          refine pv_ 11 32 qHPut_0 (by kernel_rfl) ?_
          refine done_ (by kernel_rfl) ?_
    
          go_wp2
          go_meet
          case rel => exact ⟨rfl, by rw [Bool.and_false], HS, BK1, HB, HB0⟩
      · have hb := below_drew (Below.refl wc.heap.size wc)
        have n0_ := Aside0.mk (blk_below BK1.out hb)
        have n1_ := Aside0.mk (Kd.S_below HS.out hb)
        have n2_ := Aside0.mk (below_step HB.out hb)
        have n3_ := Aside0.mk (below_then HB0.out (Nat.le_trans HBW.out HB.out.size) hb)
        clear BK1
        clear HS
        clear HB
        clear HB0
        have BK1 := n0_
        have HS := n1_
        have HB := n2_
        have HB0 := n3_
        clear n0_ n1_ n2_ n3_
        clear hb
        have hni : ¬ ((i : Int) < (xs.length : Int)) := by omega
        have HLT := Aside0.mk hlt
        go_wp2
        refine start_ (n := 12) (S := fun w' => w'.cell? ⟨gb1, 0, none⟩ = some (.int .i64 o.f0) ∧ w'.cell? ⟨gb1, 1, none⟩ = some (.int .i64 o.f1) ∧ w'.cell? ⟨gb1, 2, none⟩ = some (.slice Ao o.f2.length co)) (ds := []) qHPut_12 (by kernel_rfl) rfl rfl ⟨(blk_cell BK1.out 0).trans rfl, (blk_cell BK1.out 1).trans rfl, (blk_cell BK1.out 2).trans rfl⟩ (fun hHeld => ?_)
        refine pv_ 0 21 qHPut_11 (by kernel_rfl) ?_
        refine pv_ 1 22 qHPut_10 (by kernel_rfl) ?_
        refine pv_ 2 23 qHPut_9 (by kernel_rfl) ?_
        refine pv_ 3 24 qHPut_8 (by kernel_rfl) ?_
        refine pv_ 4 25 qHPut_7 (by kernel_rfl) ?_
        refine pu_ 5 26 qHPut_6 (by kernel_rfl) ?_
        refine pu_ 6 27 qHPut_5 (by kernel_rfl) ?_
        refine pu_ 7 28 qHPut_4 (by kernel_rfl) ?_
        refine pu_ 8 29 qHPut_3 (by kernel_rfl) ?_
        refine pu_ 9 30 qHPut_2 (by kernel_rfl) ?_
        refine pu_ 10 31 qHPut_1 (by kernel_rfl) ?_
        refine pv_ 11 32 qHPut_0 (by kernel_rfl) ?_
        refine done_ (by kernel_rfl) ?_
  
        go_wp2
        go_meet
        case rel => exact ⟨rfl, by rw [decide_eq_false HLT.out]; rfl, HS, BK1, HB, HB0⟩
    case rest =>
      clear HS BK1 HB HB0
      obtain ⟨rfl, rfl, HS, BK1, HB, HB0⟩ := hcut
      cases hv : (decide (i < xs.length) && t) with
      | true =>
        have HV := Aside0.mk hv
        clear hv
        go_wp2
        go_ret
        refine ⟨_, rfl, ?_, HB0.out, Kept.of_below HB.out _⟩
        rw [HRR.out, if_pos (by have := HV.out; simpa using this)]
        exact Kd.S_mono HS.out (fun k hk => .inl hk)
      | false =>
      have HF := Aside0.mk (show ¬ (i < xs.length ∧ t = true) by simpa using hv)
      clear hv
      have HR2 := Aside0.mk (HRR.out.trans (if_neg HF.out))
      obtain ⟨f, hf⟩ := HS.out
      have HIR := Aside0.mk (show i ≤ xs.length by have := (putAt_range HI.out).2; omega)
      have HZ := Aside0.mk (Kd.R_mono (ok' := fun k => P0 k ∧ k < wc.heap.size) (Kd.R_bound hf) (fun k hk => ⟨hk.1, hk.2.2.1⟩))
      clear hf HS
      have HNO := Aside0.mk (show ∀ k, (Value.slice A i c).ownBlock = some k → P0 k ∧ k < wc.heap.size from fun k hk => HZ.out.1 k (by cases A <;> exact hk))
      have HRZ := Aside0.mk (show ReadsRow ((Kd.tag f k27).M wc base (fun k => (P0 k ∧ k < wc.heap.size) ∧ some k ≠ (Value.slice A xs.length c).ownBlock)) 3 wc A xs.zipIdx.length xs.zipIdx by
        obtain ⟨A', c', he, _, hr⟩ := R_readsM HZ.out
        injection he with h1 _ _
        rw [← h1] at hr
        exact hr)
      obtain ⟨i0, hi0, _, hsz, _⟩ := info_parts info27
      have hn0 : (0 : Int) ≤ (i : Int) := by omega
      have hile : (i : Int) ≤ (xs.length : Int) := by have := HIR.out; omega
      have hcut := cut_from (P := Try.prog) 34 27 .i64 Try.underlying34 hi0 3 hsz A xs.length c (i : Int) hn0 hile
      have hcut2 := cut_to (P := Try.prog) 34 27 .i64 Try.underlying34 hi0 A xs.length c (i : Int) hn0 hile HLC.out
      rw [Int.toNat_natCast] at hcut hcut2
      clear hi0 hsz
      obtain ⟨A1, hA1⟩ : ∃ A1, A1 = (if c = i then A else A.map (·.add (i * 3))) := ⟨_, rfl⟩
      obtain ⟨n1, hn1⟩ : ∃ n1, n1 = xs.length - i := ⟨_, rfl⟩
      obtain ⟨c1, hc1⟩ : ∃ c1, c1 = c - i := ⟨_, rfl⟩
      have HRD := Aside0.mk (show ReadsRow ((Kd.tag f k27).M wc base (fun k => (P0 k ∧ k < wc.heap.size) ∧ some k ≠ (Value.slice A xs.length c).ownBlock)) 3 wc A1 n1 (xs.zipIdx.drop i) by
        have := reads_drop (m := i) (c := c) HRZ.out (by rw [List.length_zipIdx]; exact HIR.out) (by rw [List.length_zipIdx]; exact HLC.out)
        rw [List.length_drop, List.length_zipIdx, ← hn1, ← hA1] at this
        exact this)
      rw [← hA1, ← hn1, ← hc1] at hcut
      have HN1 := Aside0.mk hn1
      clear hA1 hn1 hc1 HRZ
      go_upto_region 7 with (first
        | ((with_reducible refine gate_dst (N := 34) rfl ?_); refine Kd.R_lit (Kd.tag f k27) _ 27 ?hg (N := 34) ?hd (xs := ([] : List (S27 × Nat))) (inner := []) (ok := fun k => wc.heap.size ≤ k) (okp := fun _ => False) ?hr ?hp (fun _ hk => hk.elim) (Nat.le_refl _) (Below.refl _ _) (Nat.le_refl _) (by simp) ?_; (case hd => rfl); (case hg => rfl); (case hr => first | (go_simp; done) | (go_simp; rfl)); (case hp => exact (Reps.none _ _)); intro v34 wl hol hb hg_ hnew_; clear hg_; have HL0 := Aside0.mk hol; have HLB := Aside0.mk hb; have HLN := Aside0.mk hnew_; clear hol hb hnew_)
        | ((with_reducible refine gate_builtin (b := .append) (xs := #[.tmp 34, .tmp 37]) rfl ?_); at_builtin; refine Kd.R_append_rows (Kd.tag f k27) (w0 := w0) base rfl (.tmp 34) (.tmp 37) 34 27 (.agg #[(.int .i64 0), (.int .i64 0), (.slice none 0 0)]) 40 rfl Try.underlying34 info27 rfl (Nat.succ_pos 2) (by omega) v34 [] (xs.zipIdx.drop i) A1 n1 c1 (fun k => (P0 k ∨ w.heap.size ≤ k) ∧ some k ≠ (Value.slice A xs.length c).ownBlock) (fun k => (P0 k ∧ k < wc.heap.size) ∧ some k ≠ (Value.slice A xs.length c).ownBlock) rfl rfl ?aO (HRD.out.imp_ HLB.out (fun _ _ h => h)) ?aK ?aP ?aF ?aB ?aS ?aL ?_; (case aO => exact Kd.R_mono (Kd.R_lower HL0.out (Nat.le_trans HBW.out HB.out.size)) (fun k hk => ⟨.inr (Nat.le_trans HB.out.size hk), fun he => by have := (HNO.out k (by cases A <;> exact he.symm)).2; omega⟩)); (case aK => exact fun x cs h => Kd.M_below h HLB.out); (case aP => exact fun k hk => ⟨⟨.inl hk.1.1, hk.2⟩, fun he => by obtain ⟨b, hb, hle⟩ := HLN.out; rw [hb] at he; have := hk.1.2; have := Option.some.inj he; omega⟩); (case aF => exact fun k hk => ⟨.inr (Nat.le_trans HB.out.size (Nat.le_trans HLB.out.size hk)), fun he => by have := (HNO.out k (by cases A <;> exact he.symm)).2; have := HLB.out.size; omega⟩); (case aB => exact below_then HB0.out (Nat.le_trans HBW.out HB.out.size) HLB.out); (case aS => exact Nat.le_trans (Nat.le_trans HBW.out HB.out.size) HLB.out.size); (case aL => have := HN1.out; have := HLEN.out; simp only [List.length_nil]; omega); intro v38 wt hot hb0 hg hat; have hbt : Below wc.heap.size wc wt := HLB.out.grown hg HLB.out.size (fun k hk => by obtain ⟨b, hb, hle⟩ := HLN.out; rw [hb] at hk; cases hk; exact hle); have HT := Aside0.mk hot; have HB0n := Aside0.mk hb0; have HBT := Aside0.mk hbt; clear hot hb0 hg hat hbt))
      have hbt := HBT.out
      have ht0 := HT.out
      rw [List.nil_append] at ht0
      obtain ⟨f', hf'⟩ : ∃ f' : Nat → Nat, f' = fun b => if wt.heap.size ≤ b then xs.length else f b := ⟨_, rfl⟩
      have HFN := Aside0.mk (show ∀ k, wt.heap.size ≤ k → f' k = xs.length from fun k hk => by rw [hf']; exact if_pos hk)
      have n0_ := Aside0.mk (Kd.R_tag (f' := f') (Kd.R_mono (ok' := fun k => ((P0 k ∨ w.heap.size ≤ k) ∧ some k ≠ (Value.slice A xs.length c).ownBlock) ∧ k < wt.heap.size) (Kd.R_bound ht0) (fun k hk => ⟨hk.1, hk.2.2.1⟩)) (fun k hk _ => by rw [hf']; exact if_neg (Nat.not_le.2 hk.2)))
      have n1_ := Aside0.mk (Kd.R_take (m := i) (Kd.R_tag (f' := f') (Kd.R_below HZ.out hbt) (fun k hk _ => by rw [hf']; exact if_neg (Nat.not_le.2 (Nat.lt_of_lt_of_le hk.2 hbt.size)))) (by rw [List.length_zipIdx]; exact HIR.out))
      have n2_ := Aside0.mk (blk_below BK1.out hbt)
      have n3_ := Aside0.mk (below_step HB.out hbt)
      have n4_ := Aside0.mk (blk_lt n2_.out)
      have HNP := Aside0.mk (show ∀ k, (Value.slice A i c).ownBlock = some k → P0 k from fun k hk => (HNO.out k hk).1)
      clear HT HZ BK1 HB HB0 ht0 hbt HBT HL0 HLB HLN HRD HNO HN1 hf'
      have HT := n0_
      have HU := n1_
      have BK1 := n2_
      have HB := n3_
      have HGL := n4_
      have HB0 := HB0n
      clear n0_ n1_ n2_ n3_ n4_ HB0n
      have HWT := Aside0.mk (HB.out.size)
      have HSZ := Aside0.mk (Nat.le_refl wt.heap.size)
      obtain ⟨A5, c5, e5⟩ := Kd.R_slice HT.out
      obtain ⟨n5, hn5⟩ : ∃ n5, n5 = (xs.zipIdx.drop i).length := ⟨_, rfl⟩
      rw [← hn5] at e5
      have HN5 := Aside0.mk hn5
      clear hn5
      subst e5
      have HCP := Aside0.mk (show spec_l3Copy.f o.f0 o.f1 o.f2 = some (o.f0, o.f1, o.f2) by
        unfold spec_l3Copy.f
        simp only [Option.bind_some, List.nil_append, List.length_nil]
        rw [if_pos (by have := HLO.out; omega)])
      go_wp2
      have hb := below_drew (Below.refl wt.heap.size wt)
      have n0_ := Aside0.mk (blk_below BK1.out hb)
      have n1_ := Aside0.mk (Kd.R_below HU.out hb)
      have n2_ := Aside0.mk (Kd.R_below HT.out hb)
      have n3_ := Aside0.mk (below_step HB.out hb)
      have n4_ := Aside0.mk (below_then HB0.out (Nat.le_trans HBW.out HB.out.size) hb)
      have n5_ := Aside0.mk (Nat.le_trans HSZ.out hb.size)
      clear BK1
      clear HU
      clear HT
      clear HB
      clear HB0
      clear HSZ
      have BK1 := n0_
      have HU := n1_
      have HT := n2_
      have HB := n3_
      have HB0 := n4_
      have HSZ := n5_
      clear n0_ n1_ n2_ n3_ n4_ n5_
      clear hb
      refine start_ (n := 10) (S := fun w' => w'.cell? ⟨gb1, 0, none⟩ = some (.int .i64 o.f0) ∧ w'.cell? ⟨gb1, 1, none⟩ = some (.int .i64 o.f1) ∧ w'.cell? ⟨gb1, 2, none⟩ = some (.slice Ao o.f2.length co)) (ds := []) #[false, false, false, false, false, false, false, false, false, false] (by kernel_rfl) rfl rfl ⟨(blk_cell BK1.out 0).trans rfl, (blk_cell BK1.out 1).trans rfl, (blk_cell BK1.out 2).trans rfl⟩ (fun hHeld => ?_)
      refine pv_ 0 39 #[true, false, false, false, false, false, false, false, false, false] (by kernel_rfl) ?_
      refine pv_ 1 40 #[true, true, false, false, false, false, false, false, false, false] (by kernel_rfl) ?_
      refine pv_ 2 41 #[true, true, true, false, false, false, false, false, false, false] (by kernel_rfl) ?_
      refine pv_ 7 46 #[true, true, true, false, false, false, false, true, false, false] (by kernel_rfl) ?_
      refine take_ (i := 3) (N := some 42) (v := ?_) (a' := ?_) #[true, true, true, true, false, false, false, true, false, false] rfl rfl (by kernel_rfl) (fun _ _ _ h => h) (Or.inl ⟨by rfl, ?_⟩) hHeld ?_ ?_
      rotate_left
      · rintro w' ⟨s0, s1, s2⟩
        go_simp
        with_reducible rfl
      rotate_left
      · simp only [Act.put, List.setIfInBounds_toArray, List.set_cons_zero, List.set_cons_succ, i64_w, i32_w]
        rfl
      refine one_ (i := 4) (N := some 43) #[true, true, true, true, true, false, false, true, false, false] rfl rfl (by kernel_rfl) (by decide) (fun K hK => ?_)
      refine goes_ Try.func75 (by kernel_rfl) rfl #[.agg #[.int .i64 o.f0, .int .i64 o.f1, .slice Ao o.f2.length co]] (by rfl) rfl rfl (by simp only [List.map_toArray, List.map_cons, List.map_nil]; rfl) ?_
      with_reducible refine (spec_l3Copy.calls o.f0 o.f1 Ao co o.f2 o.f0 o.f1 o.f2 _ (Kd.C_below HRO.out HB.out) HCO.out HCP.out).mono ?_
      rintro e w' ⟨v43, rfl, hv, hb⟩
      refine ⟨_, rfl, ?_⟩
      have HV := Aside0.mk (Kd.R_mono (ok' := fun k => wt.heap.size ≤ k) (Kd.R_lower (Kd.R_bound hv) (Nat.le_trans HBW.out HB.out.size)) (fun k hk => Nat.le_trans HSZ.out hk.2.1))
      have n0_ := Aside0.mk (blk_below BK1.out hb)
      have n1_ := Aside0.mk (Kd.R_below HU.out hb)
      have n2_ := Aside0.mk (Kd.R_below HT.out hb)
      have n3_ := Aside0.mk (below_step HB.out hb)
      have n4_ := Aside0.mk (below_then HB0.out (Nat.le_trans HBW.out HB.out.size) hb)
      have n5_ := Aside0.mk (Nat.le_trans HSZ.out hb.size)
      clear BK1
      clear HU
      clear HT
      clear HB
      clear HB0
      clear HSZ
      have BK1 := n0_
      have HU := n1_
      have HT := n2_
      have HB := n3_
      have HB0 := n4_
      have HSZ := n5_
      clear n0_ n1_ n2_ n3_ n4_ n5_
      clear hv hb
      obtain ⟨Av, cv, ev⟩ := Kd.R_slice HV.out
      subst ev
      refine hK.out _ _ ⟨(blk_cell BK1.out 0).trans rfl, (blk_cell BK1.out 1).trans rfl, (blk_cell BK1.out 2).trans rfl⟩ (fun hHeld => ?_)
      clear hK K
      refine norm_ (a' := ?_) ?_ ?_
      rotate_left
      · show Act.put _ (some 43) _ = _
        simp only [Act.put, List.setIfInBounds_toArray, List.set_cons_zero, List.set_cons_succ, i64_w, i32_w]
        rfl
      refine one_ (i := 5) (N := some 44) #[true, true, true, true, true, true, false, true, false, false] rfl rfl (by kernel_rfl) (by decide) (fun K hK => ?_)
      refine Kd.R_lit_step (Kd.tag f' k27) (w0 := w0) base 27 ?hg (N := 44) ?hd (xs := [(o, xs.length)]) (inner := [.int .i64 o.f0, .int .i64 o.f1, .slice Av o.f2.length cv]) (ok := fun k => wt.heap.size ≤ k) (okp := fun k => wt.heap.size ≤ k) ?hr ?hp (fun _ hk => hk) HSZ.out HB0.out (Nat.le_trans HBW.out HB.out.size) (by simp) ?_
      (case hd => rfl)
      (case hg => rfl)
      (case hr => first | (go_simp; done) | (go_simp; rfl))
      (case hp => exact Reps.c3 (k27_mkM _ _ _ o (Kd.R_mono HV.out (fun k hk => ⟨hk, HFN.out k hk⟩))) (Reps.none _ _))
      intro v44 wx hol hbx hg hnew
      have hb : Below _ _ wx := (Below.refl _ _).grown hg (Nat.le_refl _) (fun k hk => by cases hk)
      have n0_ := Aside0.mk (blk_below BK1.out hb)
      have n1_ := Aside0.mk (Kd.R_below HU.out hb)
      have n2_ := Aside0.mk (Kd.R_below HT.out hb)
      have n3_ := Aside0.mk (below_step HB.out hb)
      have n4_ := Aside0.mk (below_then HB0.out (Nat.le_trans HBW.out HB.out.size) hb)
      have n5_ := Aside0.mk (Nat.le_trans HSZ.out hb.size)
      clear BK1
      clear HU
      clear HT
      clear HB
      clear HB0
      clear HSZ
      have BK1 := n0_
      have HU := n1_
      have HT := n2_
      have HB := n3_
      have HB0 := n4_
      have HSZ := n5_
      clear n0_ n1_ n2_ n3_ n4_ n5_
      have HLT := Aside0.mk hol
      clear hol hbx hg hnew hb HV
      obtain ⟨A4, c4, e4, _, hr4⟩ := R_readsM HLT.out
      have HL4 := Aside0.mk hr4
      clear hr4
      have e4' : v44 = .slice A4 1 c4 := e4
      clear e4
      subst e4'
      clear HLT
      refine hK.out _ _ ⟨(blk_cell BK1.out 0).trans rfl, (blk_cell BK1.out 1).trans rfl, (blk_cell BK1.out 2).trans rfl⟩ (fun hHeld => ?_)
      clear hK K
      refine norm_ (a' := ?_) ?_ ?_
      rotate_left
      · show Act.put _ (some 44) _ = _
        simp only [Act.put, List.setIfInBounds_toArray, List.set_cons_zero, List.set_cons_succ, i64_w, i32_w]
        rfl
      refine one_ (i := 6) (N := some 45) #[true, true, true, true, true, true, true, true, false, false] rfl rfl (by kernel_rfl) (by decide) (fun K hK => ?_)
      refine Kd.R_append_rows_step (Kd.tag f' k27) (w0 := w0) base (by rfl) (.tmp 41) (.tmp 44) 34 27 (.agg #[(.int .i64 0), (.int .i64 0), (.slice none 0 0)]) 40 rfl Try.underlying34 info27 rfl (Nat.succ_pos 2) (by omega) (.slice A i c) (xs.zipIdx.take i) [(o, xs.length)] A4 1 c4 (fun k => P0 k ∨ w.heap.size ≤ k) (fun k => wt.heap.size ≤ k) rfl rfl ?aO HL4.out ?aK ?aP ?aF HB0.out (Nat.le_trans HBW.out HB.out.size) ?aL ?_
      (case aO => exact Kd.R_mono HU.out (fun k hk => .inl hk.1))
      (case aK => exact fun x cs h => (Kd.tag f' k27).M_mono (fun k hk => hk.1) h)
      (case aP => exact fun k hk => ⟨.inr (Nat.le_trans HWT.out hk), fun he => by have := HOW.out k (by cases A <;> exact he.symm); have := HWT.out; have h3 : wt.heap.size ≤ k := hk; omega⟩)
      (case aF => exact fun k hk => .inr (Nat.le_trans HB.out.size hk))
      (case aL => rw [List.length_take, List.length_zipIdx]; have := HLEN.out; have := HIR.out; omega)
      intro v45 wy hoy hb0 hg hat
      have HY := Aside0.mk hoy
      have KP := Aside0.mk (Kept.of_grown hg (Kept.of_below HB.out P0) (fun k hk => .inl (HNP.out k hk)))
      have HAT := Aside0.mk (show ∀ k, v45.ownBlock = some k → (Value.slice A xs.length c).ownBlock = some k ∨ wt.heap.size ≤ k from fun k hk => hat.elim (fun h => .inl (by rw [hk] at h; cases A <;> exact h.symm)) (fun ⟨b, hb, hle⟩ => .inr (by rw [hk] at hb; cases hb; exact Nat.le_trans HSZ.out hle)))
      have n0_ := Aside0.mk (blk_grown BK1.out hg (fun he => by have := HOW.out gb1 (by cases A <;> exact he.symm); have := GE1.out; omega))
      have n1_ := Aside0.mk (Kd.R_grown HT.out hg (fun k hk he => hk.1.2 (by cases A <;> exact he)))
      have n2_ := Aside0.mk (hb0)
      have n3_ := Aside0.mk (Nat.le_trans HSZ.out hg.size)
      clear BK1
      clear HT
      clear HB0
      clear HSZ
      have BK1 := n0_
      have HT := n1_
      have HB0 := n2_
      have HSZ := n3_
      clear n0_ n1_ n2_ n3_
      clear hoy hb0 hg hat HB HU HL4
      have HR5 := Aside0.mk (show ReadsRow ((Kd.tag f' k27).M wy base (fun k => (((P0 k ∨ w.heap.size ≤ k) ∧ some k ≠ (Value.slice A xs.length c).ownBlock) ∧ k < wt.heap.size) ∧ some k ≠ (Value.slice A5 n5 c5).ownBlock)) 3 wy A5 n5 (xs.zipIdx.drop i) by obtain ⟨A', c', he, _, hr⟩ := R_readsM HT.out; injection he with h1 _ _; rw [← h1, ← HN5.out] at hr; exact hr)
      refine hK.out _ _ ⟨(blk_cell BK1.out 0).trans rfl, (blk_cell BK1.out 1).trans rfl, (blk_cell BK1.out 2).trans rfl⟩ (fun hHeld => ?_)
      clear hK K
      refine norm_ (a' := ?_) ?_ ?_
      rotate_left
      · show Act.put _ (some 45) _ = _
        simp only [Act.put, List.setIfInBounds_toArray, List.set_cons_zero, List.set_cons_succ, i64_w, i32_w]
        rfl
      refine one_ (i := 8) (N := some 47) #[true, true, true, true, true, true, true, true, true, false] rfl rfl (by kernel_rfl) (by decide) (fun K hK => ?_)
      refine Kd.R_append_rows_step (Kd.tag f' k27) (w0 := w0) base (by rfl) (.tmp 45) (.tmp 46) 34 27 (.agg #[(.int .i64 0), (.int .i64 0), (.slice none 0 0)]) 40 rfl Try.underlying34 info27 rfl (Nat.succ_pos 2) (by omega) v45 (xs.zipIdx.take i ++ [(o, xs.length)]) (xs.zipIdx.drop i) A5 n5 c5 (fun k => P0 k ∨ w.heap.size ≤ k) (fun k => ((P0 k ∨ w.heap.size ≤ k) ∧ some k ≠ (Value.slice A xs.length c).ownBlock) ∧ k < wt.heap.size) rfl rfl HY.out HR5.out ?aK ?aP ?aF HB0.out (Nat.le_trans HBW.out (Nat.le_trans HWT.out HSZ.out)) ?aL ?_
      (case aK => exact fun x cs h => (Kd.tag f' k27).M_mono (fun k hk => hk.1) h)
      (case aP => exact fun k hk => ⟨hk.1.1, fun he => (HAT.out k he.symm).elim (fun h => hk.1.2 h.symm) (fun h => by have := hk.2; omega)⟩)
      (case aF => exact fun k hk => .inr (Nat.le_trans HWT.out (Nat.le_trans HSZ.out hk)))
      (case aL => rw [HN5.out, List.length_append, List.length_take, List.length_drop, List.length_zipIdx]; have := HLEN.out; have := HIR.out; simp only [List.length_cons, List.length_nil]; omega)
      intro v47 wz hoz hb0 hg hat
      have HZZ := Aside0.mk hoz
      have n0_ := Aside0.mk (blk_grown BK1.out hg (fun he => (HAT.out gb1 he.symm).elim (fun h => by have := HOW.out gb1 h; have := GE1.out; omega) (fun h => by have := HGL.out; omega)))
      have n1_ := Aside0.mk (hb0)
      have n2_ := Aside0.mk (Kept.of_grown hg KP.out (fun k hk => (HAT.out k hk).elim (fun h => .inl (HNP.out k (by cases A <;> exact h))) (fun h => .inr (Nat.le_trans HWT.out h))))
      clear BK1
      clear HB0
      clear KP
      have BK1 := n0_
      have HB0 := n1_
      have KP := n2_
      clear n0_ n1_ n2_
      clear hoz hb0 hg hat
      refine hK.out _ _ ⟨(blk_cell BK1.out 0).trans rfl, (blk_cell BK1.out 1).trans rfl, (blk_cell BK1.out 2).trans rfl⟩ (fun hHeld => ?_)
      clear hK K
      refine norm_ (a' := ?_) ?_ ?_
      rotate_left
      · show Act.put _ (some 47) _ = _
        simp only [Act.put, List.setIfInBounds_toArray, List.set_cons_zero, List.set_cons_succ, i64_w, i32_w]
        rfl
      refine pv_ 9 4 #[true, true, true, true, true, true, true, true, true, true] (by kernel_rfl) ?_
      refine done_ (by kernel_rfl) ?_

      go_wp2
      go_ret
      refine ⟨_, rfl, ?_, HB0.out, KP.out⟩
      rw [HR2.out, show putIn xs i o = ((xs.zipIdx.take i ++ [(o, xs.length)]) ++ xs.zipIdx.drop i).map Prod.fst by
        rw [List.map_append, List.map_append, List.map_take, List.map_drop, List.zipIdx_map_fst]; rfl]
      refine S_of_tags HZZ.out ?_
      rw [List.map_append, List.map_append, List.map_take, List.map_drop, List.append_assoc, List.map_cons, List.map_nil, List.cons_append, List.nil_append]
      refine (List.perm_middle.nodup_iff).2 ?_
      rw [List.take_append_drop, List.zipIdx_map_snd, List.nodup_cons]
      exact ⟨by simp, List.nodup_range'⟩
end Go.Proofs.Ytiplpckgmikmeaa.M
namespace Go.Proofs.Ytiplpckgmikmeaa.M
set_option linter.unusedVariables false
set_option linter.unusedSimpArgs false
open Go Go.RowKit Go.Proofs.YtiplpckgmikmeaaW.PrintWords Go.Proofs.YtiplpckgmikmeaaW.PrintLast Go.Proofs.YtiplpckgmikmeaaW.PrintMore

theorem keep_setRow {w : World} {g : Nat} (cs : Array Value) : KeepBut w (w.setRow g cs) g none := ⟨by simp [World.setRow], fun k _ hk _ => setRow_other w g k cs hk⟩
theorem store_blk {P : Program} {ops : Array Oper} {rest : List Oper} {o : Oper} {a : Act} {Q : Exit → Act → World → Prop} {W w0 : World} {base : Nat} (hgd : o.guard = none) (hN : o.dst = none) {t e : TypeId} {p : Tmp} {v : Operand} (ho : o.op = .store t (.tmp p) v) {g off : Nat} {cur cur' : Array Value} {u : Value} {seg : List Value}
    (hp : a.eval (.tmp p) = .pointer (some ⟨g, off, none⟩)) (hx : a.eval v = u) (hg : W.heap[g]? = some (.cells cur e (0, 0))) (hu : u.cells.toList = seg) (ht : (P.info? t).map (·.size) = some seg.length) (h1 : ∀ q ∈ seg, q.oneCell' = true) (hfit : off + seg.length ≤ cur.size) (hcur : (cur.toList.take off ++ seg ++ cur.toList.drop (off + seg.length)).toArray = cur')
    (hB : Below base w0 W) (hbg : base ≤ g)
    (h : ∀ w', w'.heap[g]? = some (.cells cur' e (0, 0)) → KeepBut W w' g none → Below base w0 w' → wpList P ops Q rest a w') : wpList P ops Q (o :: rest) a W := by
  obtain ⟨i, hi, hsz⟩ := Option.map_eq_some_iff.1 ht
  have hc : u.cells.size = i.size := by rw [hsz, ← hu, Array.length_toList]
  have hst := run_storeCells_at P g off e seg 0 cur W hg (by simpa using hfit) h1
  refine wpList_plain hgd fun K hK => ?_
  have hrun : (execOp a.eval o).run P W = .ok .skip (W.setRow g (cur.toList.take off ++ seg ++ cur.toList.drop (off + seg.length)).toArray) := by
    rw [Nat.add_zero] at hst
    simp [execOp, ho, hp, hx, Instr.storeAt, Instr.sureAddr, storeVar, sizeOf, typeInfo, hi, hc, hu, hst, Result.andThen]
  unfold Oper.wp
  rw [hrun]
  show K (a.put o.dst undef) _
  rw [hN]
  refine hK _ _ (h _ ?_ (keep_setRow _) (below_setRow hB hbg _))
  rw [setRow_heap W g cur _ e _ hg, hcur]
theorem blk_keep {w w1 : World} {g g' : Nat} {o : Obj} (h : w.heap[g']? = some o) (hk : KeepBut w w1 g none) (hne : g' ≠ g) : w1.heap[g']? = some o := (hk.2 g' (blk_lt h) hne (by simp)).trans h
end Go.Proofs.Ytiplpckgmikmeaa.M
namespace Go.Proofs.Ytiplpckgmikmeaa.M
open Go.RowKit Go.Proofs.YtiplpckgmikmeaaW.PrintWords Go.Proofs.YtiplpckgmikmeaaW.PrintLast
theorem goesV_ {P : Program} {ops : Array Oper} {Q : Exit → Act → World → Prop} {oi : Oper} {N : Option Tmp} {a : Act} {w : World} {K : Act → World → Prop} {f : FuncId} {fn : Func} {x : Operand} {xs_ : Array Operand} {ts : Array TypeId} (hf : P.funcs[f]? = some fn) (hname : (fn.name == "runtime.NumGoroutine") = false) (hb : fn.body.isSome = true) (args : Array Value)
    (hw : Region.wanted oi (yielded ops a.tmps) = true) (hN : oi.dst = N) (hop : oi.op = .call { callee := .value x, args := xs_, argTypes := ts }) (hargs : xs_.map a.eval = args)
    (h : Calls P f args w fun e w' => ∃ v, e = .returned v ∧ K (a.put N v) w') (hx : a.eval x = .func (.func f) #[] #[] := by rfl) : if Region.wanted oi (yielded ops a.tmps) = true then Oper.wp P oi a w K Q else K (a.put N undef) w := by
  refine call_ f args hw hN ?_ h
  have he := enters_ hf hname hb args w
  unfold execOp
  simp [hop, resolve, Deferred.ofValue, invoke, hx, hargs, he]
end Go.Proofs.Ytiplpckgmikmeaa.M
namespace Go.Proofs.Ytiplpckgmikmeaa.M
open Go.RowKit Go.Proofs.YtiplpckgmikmeaaW.PrintWords Go.Proofs.YtiplpckgmikmeaaW.PrintLast Go.Proofs.YtiplpckgmikmeaaW.PrintMore
attribute [local go_sem] max2_int min2_int max_two min_two max_three min_three max_four min_four
set_option linter.unusedVariables false
set_option linter.unusedSimpArgs false

def impl_Occ_105.l0 : Nat → List (S27) → Int → Int → Int → Int → Int → List Int → Option (Int × Bool)
  | 0, _, _, _, _, _, _, _ => none
  | k + 1, x0, x8, x9, x10, x102000, x102001, x102002 => if x9 < x10 then (if 0 ≤ (wrap64 ((IntKind.u64.wrap (wrap64 (x9 + x10))) / 2)) then (if (wrap64 ((IntKind.u64.wrap (wrap64 (x9 + x10))) / 2)) < (x0.length : Int) then ((impl_compare.f k ((rd_T27 x0 (wrap64 ((IntKind.u64.wrap (wrap64 (x9 + x10))) / 2))).f0) ((rd_T27 x0 (wrap64 ((IntKind.u64.wrap (wrap64 (x9 + x10))) / 2))).f1) ((rd_T27 x0 (wrap64 ((IntKind.u64.wrap (wrap64 (x9 + x10))) / 2))).f2) x102000 x102001 x102002).bind fun t103 => (if t103 < 0 then (impl_Occ_105.l0 k x0 x8 (wrap64 ((wrap64 ((IntKind.u64.wrap (wrap64 (x9 + x10))) / 2)) + 1)) x10 x102000 x102001 x102002) else (impl_Occ_105.l0 k x0 x8 x9 (wrap64 ((IntKind.u64.wrap (wrap64 (x9 + x10))) / 2)) x102000 x102001 x102002))) else (none)) else (none)) else (if x9 < x8 then (if 0 ≤ x9 then (if x9 < (x0.length : Int) then ((impl_compare.f k ((rd_T27 x0 x9).f0) ((rd_T27 x0 x9).f1) ((rd_T27 x0 x9).f2) x102000 x102001 x102002).bind fun t105 => (some (x9, (t105 == 0)))) else (none)) else (none)) else (some (x9, false)))
def impl_Occ_105.f (k : Nat) (l0 : List (S27)) (a1_0 : Int) (a1_1 : Int) (l1_2 : List Int)  : Option (Int × Bool) := impl_Occ_105.l0 k l0 (l0.length : Int) 0 (l0.length : Int) a1_0 a1_1 l1_2
def impl_Occ_105.T5 : Bool × List (List Nat × List Nat) := (true, [([], []), ([], []), ([], []), ([1, 2], [1, 2]), ([3], [3]), ([], []), ([0, 4, 5], [0, 4, 5]), ([6], [6])])
def impl_Occ_105.B5 : List Nat := [0, 0, 0, 6, 14, 0, 63, 127]
theorem impl_Occ_105.tab5 : rtab .any (opsOf Try.f105 5) = impl_Occ_105.T5 := by kernel_rfl
theorem impl_Occ_105.bits5 : waitsOk impl_Occ_105.T5.2 impl_Occ_105.B5 = true := by kernel_rfl
def impl_Occ_105.T8 : Bool × List (List Nat × List Nat) := (true, [([], []), ([], []), ([], []), ([1, 2], [1, 2]), ([3], [3]), ([4], [4]), ([4], [4]), ([4], [4]), ([6, 7, 4], [4, 6, 7]), ([8, 4], [4, 8]), ([4], [4]), ([5, 9, 10, 4, 4], [4, 5, 9, 10]), ([11, 4], [4, 11]), ([4, 12], [4, 12]), ([0, 11, 0], [0]), ([13, 14, 0, 1, 2, 3, 4, 5, 6, 7, 8, 9, 10, 11, 12, 13, 14], [13])])
def impl_Occ_105.B8 : List Nat := [0, 0, 0, 6, 14, 30, 30, 30, 222, 478, 30, 2046, 4094, 8190, 4095, 32767]
theorem impl_Occ_105.tab8 : rtab .any (opsOf Try.f105 8) = impl_Occ_105.T8 := by kernel_rfl
theorem impl_Occ_105.bits8 : waitsOk impl_Occ_105.T8.2 impl_Occ_105.B8 = true := by kernel_rfl
set_option maxHeartbeats 8000000 in
set_option maxRecDepth 100000 in
theorem impl_Occ_105.calls (k : Nat) (A0 : Option Addr) (c0 : Nat) (l0 : List (S27)) (a1_0 : Int) (a1_1 : Int) (A1_2 : Option Addr) (c1_2 : Nat) (l1_2 : List Int)  (r1 : Int) (r2 : Bool) (w : World) (hr0 : Kd.C k27 w A0 l0.length l0) (hc0 : l0.length ≤ c0) (hr1_2 : Kd.C (Kd.int .i64) w A1_2 l1_2.length l1_2) (hc1_2 : l1_2.length ≤ c1_2) (h : impl_Occ_105.f k l0 a1_0 a1_1 l1_2 = some (r1, r2)) :
    Calls Try.prog 105 #[.slice A0 l0.length c0, .agg #[.int .i64 a1_0, .int .i64 a1_1, .slice A1_2 l1_2.length c1_2], .func (.func 71) #[] #[]] w fun e w' => e = .returned (.tuple #[.int .i64 r1, .bool r2]) ∧ Below w.heap.size w w' := by
  have hu27 := Try.underlying27
  have HR0 := Aside0.mk hr0
  have HC0 := Aside0.mk hc0
  clear hr0 hc0
  have HR1_2 := Aside0.mk hr1_2
  have HC1_2 := Aside0.mk hc1_2
  clear hr1_2 hc1_2
  have HB := Aside0.mk (Below.refl w.heap.size w)
  have H : (impl_Occ_105.l0 k l0 (l0.length : Int) 0 (l0.length : Int) a1_0 a1_1 l1_2) = some (r1, r2) := h
  clear h
  have H' := Aside0.mk H
  clear H
  go_enter Try.func105, Try.ntmps105
  go_wp2_with (first | ((with_reducible refine gate_dst (N := 4) rfl ?_); refine box_event ?hg (N := 4) ?hd (cs := #[.int .i64 a1_0, .int .i64 a1_1, .slice A1_2 l1_2.length c1_2]) (t := 27) ?hr ?_; (case hd => rfl); (case hg => rfl); (case hr => first | (go_simp; done) | (go_simp; rfl)); intro gb101 hg w4 hbox hb; have n0_ := Aside0.mk (below_step (by repeat (first | (with_reducible first | exact HB.out | apply below_alloc | apply pw_below_drewN | apply below_drew1) | exact HB.out)) hb); have n1_ := Aside0.mk (hbox); have n2_ := Aside0.mk ((by rw [hg]; exact (below_size (by repeat (first | (with_reducible first | exact HB.out | apply below_alloc | apply pw_below_drewN | apply below_drew1) | exact HB.out))) : w.heap.size ≤ gb101)); have n3_ := Aside0.mk ((by rw [hg]; exact (below_size (by repeat (first | (with_reducible first | exact HB.out | apply below_alloc | apply pw_below_drewN | apply below_drew1) | exact HB.out))) : w.heap.size ≤ gb101)); clear HB; have HB := n0_; have BK101 := n1_; have GW101 := n2_; have GE101 := n3_; clear n0_ n1_ n2_ n3_; clear hb hbox hg))
  go_loopg [9, 10] k (fun kq v9 v10 w' => ∃ (x9_1 : Int) (x10_1 : Int), v9 = .int .i64 x9_1 ∧ v10 = .int .i64 x10_1 ∧ Aside0 (impl_Occ_105.l0 kq l0 (l0.length : Int) x9_1 x10_1 a1_0 a1_1 l1_2 = some (r1, r2)) ∧ Aside0 (kq ≤ k) ∧ Aside0 (w'.heap[gb101]? = some (.cells #[.int .i64 a1_0, .int .i64 a1_1, (.slice A1_2 l1_2.length c1_2)] 27 (0, 0))) ∧ Aside0 (Below w.heap.size w w'))
  case atStart => exact ⟨(0), ((l0.length : Int)), (by first | rfl | (simp; done) | (simp [*]; done)), (by first | rfl | (simp; done) | (simp [*]; done)), H', ⟨Nat.le_refl _⟩, ⟨by (with_reducible repeat (first | refine blk_drewN ?_ _ | refine blk_drew ?_ | refine blk_alloc ?_ _)); exact BK101.out⟩, ⟨by repeat (first | (with_reducible first | exact HB.out | apply below_alloc | apply pw_below_drewN | apply below_drew1 | refine below_set ?_ GE101.out) | exact HB.out)⟩⟩
  case round =>
    clear H'
    try clear c1
    try clear p2
    obtain ⟨x9_1, x10_1, rfl, rfl, HA, HK1, BK101, HB⟩ := hrel
    cases gk with
    | zero => exact absurd HA.out (by simp [impl_Occ_105.l0])
    | succ k1 =>
      have H := HA.out
      clear HA
      simp only [impl_Occ_105.l0] at H
      by_cases c5 : x9_1 < x10_1
      · rw [if_pos c5] at H
        have c5b0 : decide (x9_1 < x10_1) = true := decide_eq_true c5
        clear c5
        obtain ⟨ji6, hji6⟩ : ∃ j_ : Int, (wrap64 ((IntKind.u64.wrap (wrap64 (x9_1 + x10_1))) / 2)) = j_ := ⟨_, rfl⟩
        replace H : (if 0 ≤ (ji6) then (if (ji6) < (l0.length : Int) then ((impl_compare.f k1 ((rd_T27 l0 (ji6)).f0) ((rd_T27 l0 (ji6)).f1) ((rd_T27 l0 (ji6)).f2) a1_0 a1_1 l1_2).bind fun t103 => (if t103 < 0 then (impl_Occ_105.l0 k1 l0 (l0.length : Int) (wrap64 ((ji6) + 1)) x10_1 a1_0 a1_1 l1_2) else (impl_Occ_105.l0 k1 l0 (l0.length : Int) x9_1 ji6 a1_0 a1_1 l1_2))) else (none)) else (none)) = some (r1, r2) := by first | (rw [hji6] at H; exact H) | (simp only [hji6] at H ⊢; exact H)
        have hji6w : (IntKind.i64.wrap ((IntKind.u64.wrap (wrap64 (x9_1 + x10_1))) / 2)) = ji6 := (i64_w _).trans hji6
        by_cases c7 : 0 ≤ (ji6)
        · rw [if_pos c7] at H
          have c7b0 : decide (0 ≤ (ji6)) = true := decide_eq_true c7
          clear c7
          by_cases c8 : (ji6) < (l0.length : Int)
          · rw [if_pos c8] at H
            have c8b0 : decide ((ji6) < (l0.length : Int)) = true := decide_eq_true c8
            clear c8
            replace H := Option.bind_eq_some_iff.mp H
            obtain ⟨t103, A90, H⟩ := H
            replace H : (if t103 < 0 then (impl_Occ_105.l0 k1 l0 (l0.length : Int) (wrap64 ((ji6) + 1)) x10_1 a1_0 a1_1 l1_2) else (impl_Occ_105.l0 k1 l0 (l0.length : Int) x9_1 ji6 a1_0 a1_1 l1_2)) = some (r1, r2) := H
            have A9 := Aside0.mk A90
            clear A90
            by_cases c10 : t103 < 0
            · rw [if_pos c10] at H
              have c10b0 : decide (t103 < 0) = true := decide_eq_true c10
              clear c10
              have H' := Aside0.mk H
              clear H
              try go_wp2
              have n0_ := Aside0.mk (blk_drew BK101.out)
              have n1_ := Aside0.mk (below_drew1 HB.out)
              clear BK101
              clear HB
              have BK101 := n0_
              have HB := n1_
              clear n0_ n1_
              have p102 : 0 ≤ ((ji6) : Int) := of_decide_eq_true (by first | (with_reducible assumption) | assumption)
              have q102 : (ji6) < (l0.length : Int) := of_decide_eq_true (by first | (with_reducible assumption) | assumption)
              obtain ⟨ad102, A102_2, c102_2, e102, hx102_0, hx102_1, hx102_2, hl102_2, hi102_2⟩ := at_T27 HR0.out (ji6) p102 q102
              have hw102_2 := hx102_2
              have hw102_1 := hx102_1
              have hw102_0 := hx102_0
              cases e102
              replace hx102_0 := (HB.out.cell (World.block_lt_of_cell? w _ hx102_0)).trans hx102_0
              replace hx102_1 := (HB.out.cell (World.block_lt_of_cell? w _ hx102_1)).trans hx102_1
              replace hx102_2 := (HB.out.cell (World.block_lt_of_cell? w _ hx102_2)).trans hx102_2
              have HR102_2 := Aside0.mk hi102_2
              have HC102_2 := Aside0.mk hl102_2
              clear hi102_2 hl102_2
              replace p102 := eq_true p102
              replace q102 := eq_true q102
              refine start_ (n := 8) (S := fun w' => w'.cell? ⟨gb101, 0, none⟩ = some (.int .i64 a1_0) ∧ w'.cell? ⟨gb101, 1, none⟩ = some (.int .i64 a1_1) ∧ w'.cell? ⟨gb101, 2, none⟩ = some (.slice A1_2 l1_2.length c1_2) ∧ w'.cell? (ad102.add (((ji6)).toNat * 3)) = some (.int .i64 ((rd_T27 l0 (ji6)).f0)) ∧ w'.cell? ⟨(ad102.add (((ji6)).toNat * 3)).block, (ad102.add (((ji6)).toNat * 3)).off + 1, none⟩ = some (.int .i64 ((rd_T27 l0 (ji6)).f1)) ∧ w'.cell? ⟨(ad102.add (((ji6)).toNat * 3)).block, (ad102.add (((ji6)).toNat * 3)).off + 2, none⟩ = some (.slice A102_2 ((rd_T27 l0 (ji6)).f2).length c102_2)) (ds := []) #[false, false, false, false, false, false, false, false] (by kernel_rfl) rfl rfl ⟨(blk_cell BK101.out 0).trans rfl, (blk_cell BK101.out 1).trans rfl, (blk_cell BK101.out 2).trans rfl, ((HB.out.cell (World.block_lt_of_cell? w _ hw102_0)).trans hw102_0), ((HB.out.cell (World.block_lt_of_cell? w _ hw102_1)).trans hw102_1), ((HB.out.cell (World.block_lt_of_cell? w _ hw102_2)).trans hw102_2)⟩ (fun hHeld => ?_); refine with_tabW impl_Occ_105.tab5 impl_Occ_105.bits5 (fun HT_ HW_ => ?_)
              generalize wr.drew = w11 at BK101 HB HR102_2 hx102_0 hx102_1 hx102_2 hHeld ⊢
              refine pure_ (i := 0) (N := some 24) (v := ?_) (a' := ?_) #[true, false, false, false, false, false, false, false] rfl rfl (any_of HT_.out (by kernel_rfl)) (fun _ _ _ h => h) (Or.inl ⟨by rfl, ?_⟩) ?_ ?_
              rotate_left
              · intro w'
                go_simp
                with_reducible rfl
              rotate_left
              · simp only [Act.put, List.setIfInBounds_toArray, List.set_cons_zero, List.set_cons_succ, i64_w, i32_w]
                rfl
              refine pure_ (i := 1) (N := some 25) (v := ?_) (a' := ?_) #[true, true, false, false, false, false, false, false] rfl rfl (any_of HT_.out (by kernel_rfl)) (fun _ _ _ h => h) (Or.inl ⟨by rfl, ?_⟩) ?_ ?_
              rotate_left
              · intro w'
                go_simp
                with_reducible rfl
              rotate_left
              · simp only [Act.put, List.setIfInBounds_toArray, List.set_cons_zero, List.set_cons_succ, i64_w, i32_w]
                rfl
              refine pure_ (i := 2) (N := some 26) (v := ?_) (a' := ?_) #[true, true, true, false, false, false, false, false] rfl rfl (any_of HT_.out (by kernel_rfl)) (fun _ _ _ h => h) (Or.inl ⟨by rfl, ?_⟩) ?_ ?_
              rotate_left
              · intro w'
                go_simp
                with_reducible rfl
              rotate_left
              · simp only [Act.put, List.setIfInBounds_toArray, List.set_cons_zero, List.set_cons_succ, i64_w, i32_w]
                rfl
              refine pure_ (i := 3) (N := some 27) (v := ?_) (a' := ?_) #[true, true, true, true, false, false, false, false] rfl rfl (any_of HT_.out (by kernel_rfl)) (fun _ _ _ h => h) (Or.inl ⟨by rfl, ?_⟩) ?_ ?_
              rotate_left
              · intro w'
                go_simp
                with_reducible rfl
              rotate_left
              · simp only [Act.put, List.setIfInBounds_toArray, List.set_cons_zero, List.set_cons_succ, i64_w, i32_w]
                rfl
              refine take_ (i := 4) (N := some 28) (v := ?_) (a' := ?_) #[true, true, true, true, true, false, false, false] rfl rfl (take_ofW HT_.out HW_.out (by kernel_rfl)) (fun _ _ _ h => h) (Or.inl ⟨by rfl, ?_⟩) hHeld ?_ ?_
              rotate_left
              · rintro w' ⟨s0, s1, s2, s3, s4, s5⟩
                go_simp
                with_reducible rfl
              rotate_left
              · simp only [Act.put, List.setIfInBounds_toArray, List.set_cons_zero, List.set_cons_succ, i64_w, i32_w]
                rfl
              refine take_ (i := 5) (N := some 29) (v := ?_) (a' := ?_) #[true, true, true, true, true, true, false, false] rfl rfl (take_ofW HT_.out HW_.out (by kernel_rfl)) (fun _ _ _ h => h) (Or.inl ⟨by rfl, ?_⟩) hHeld ?_ ?_
              rotate_left
              · rintro w' ⟨s0, s1, s2, s3, s4, s5⟩
                go_simp
                with_reducible rfl
              rotate_left
              · simp only [Act.put, List.setIfInBounds_toArray, List.set_cons_zero, List.set_cons_succ, i64_w, i32_w]
                rfl
              refine one_ (i := 6) (N := some 30) #[true, true, true, true, true, true, true, false] rfl rfl (one_of HT_.out (by kernel_rfl)) (by decide) (fun K hK => ?_)
              refine goesV_ Try.func71 (by kernel_rfl) rfl #[.agg #[.int .i64 ((rd_T27 l0 (ji6)).f0), .int .i64 ((rd_T27 l0 (ji6)).f1), .slice A102_2 ((rd_T27 l0 (ji6)).f2).length c102_2], .agg #[.int .i64 a1_0, .int .i64 a1_1, .slice A1_2 l1_2.length c1_2]] (by rfl) rfl rfl (by (try simp only [List.map_toArray, List.map_cons, List.map_nil]); first | done | (simp only [hji6]; rfl) | rfl | (simp only [List.length_drop, List.length_take]; rfl)) ?_
              with_reducible refine (impl_compare.calls k1 ((rd_T27 l0 (ji6)).f0) ((rd_T27 l0 (ji6)).f1) _ _ ((rd_T27 l0 (ji6)).f2) a1_0 a1_1 _ _ l1_2 t103 _ ?side1 ?side2 ?side3 ?side4 A9.out).mono ?_
              (case side1 => repeat (first | exact (Kd.C_below HR102_2.out HB.out) | (with_reducible refine Kd.C_alloc ?_ _) | (with_reducible refine Kd.C_drewN ?_ _) | (with_reducible refine Kd.C_drew ?_)))
              (case side2 => exact HC102_2.out)
              (case side3 => repeat (first | exact (Kd.C_below HR1_2.out HB.out) | (with_reducible refine Kd.C_alloc ?_ _) | (with_reducible refine Kd.C_drewN ?_ _) | (with_reducible refine Kd.C_drew ?_)))
              (case side4 => exact HC1_2.out)
              rintro e w12 ⟨rfl, hb⟩
              refine ⟨_, rfl, ?_⟩
              have n0_ := Aside0.mk (blk_below (g := gb101) (o := .cells #[.int .i64 a1_0, .int .i64 a1_1, .slice A1_2 l1_2.length c1_2] 27 (0, 0)) (by (with_reducible repeat (first | refine blk_drewN ?_ _ | refine blk_drew ?_ | refine blk_alloc ?_ _)); exact BK101.out) hb)
              have n1_ := Aside0.mk (below_step (by repeat (first | (with_reducible first | exact HB.out | apply below_alloc | apply pw_below_drewN | apply below_drew1 | refine below_set ?_ GE101.out) | exact HB.out)) hb)
              clear BK101
              clear HB
              have BK101 := n0_
              have HB := n1_
              clear n0_ n1_
              (try clear hb)
              (try clear hb2)
              (try clear hk)
              (try clear hi)
              refine hK.out _ _ ⟨(blk_cell BK101.out 0).trans rfl, (blk_cell BK101.out 1).trans rfl, (blk_cell BK101.out 2).trans rfl, ((HB.out.cell (World.block_lt_of_cell? w _ hw102_0)).trans hw102_0), ((HB.out.cell (World.block_lt_of_cell? w _ hw102_1)).trans hw102_1), ((HB.out.cell (World.block_lt_of_cell? w _ hw102_2)).trans hw102_2)⟩ (fun hHeld => ?_)
              clear hK K
              refine norm_ (a' := ?_) ?_ ?_
              rotate_left
              · show Act.put _ (some 30) _ = _
                simp only [Act.put, List.setIfInBounds_toArray, List.set_cons_zero, List.set_cons_succ, i64_w, i32_w]
                rfl
              refine pure_ (i := 7) (N := some 31) (v := ?_) (a' := ?_) #[true, true, true, true, true, true, true, true] rfl rfl (any_of HT_.out (by kernel_rfl)) (fun _ _ _ h => h) (Or.inl ⟨by rfl, ?_⟩) ?_ ?_
              rotate_left
              · intro w'
                go_simp
                with_reducible rfl
              rotate_left
              · simp only [Act.put, List.setIfInBounds_toArray, List.set_cons_zero, List.set_cons_succ, i64_w, i32_w]
                rfl
              refine done_ (done_of HT_.out (by kernel_rfl)) ?_
              try go_wp2
              go_roundg k1
              case measure => have := HK1.out; omega
              case rel => exact ⟨(wrap64 ((ji6) + 1)), (x10_1), (by first | rfl | (simp; done) | (simp only [← hji6] <;> (first | rfl | simp)) | (simp [*]; done)), (by first | rfl | (simp; done) | (simp [*]; done)), H', ⟨by have := HK1.out; omega⟩, ⟨by (with_reducible repeat (first | refine blk_drewN ?_ _ | refine blk_drew ?_ | refine blk_alloc ?_ _)); exact BK101.out⟩, ⟨by repeat (first | (with_reducible first | exact HB.out | apply below_alloc | apply pw_below_drewN | apply below_drew1 | refine below_set ?_ GE101.out) | exact HB.out)⟩⟩
            · rw [if_neg c10] at H
              have c10b0 : decide (t103 < 0) = false := decide_eq_false c10
              clear c10
              have H' := Aside0.mk H
              clear H
              try go_wp2
              have n0_ := Aside0.mk (blk_drew BK101.out)
              have n1_ := Aside0.mk (below_drew1 HB.out)
              clear BK101
              clear HB
              have BK101 := n0_
              have HB := n1_
              clear n0_ n1_
              have p102 : 0 ≤ ((ji6) : Int) := of_decide_eq_true (by first | (with_reducible assumption) | assumption)
              have q102 : (ji6) < (l0.length : Int) := of_decide_eq_true (by first | (with_reducible assumption) | assumption)
              obtain ⟨ad102, A102_2, c102_2, e102, hx102_0, hx102_1, hx102_2, hl102_2, hi102_2⟩ := at_T27 HR0.out (ji6) p102 q102
              have hw102_2 := hx102_2
              have hw102_1 := hx102_1
              have hw102_0 := hx102_0
              cases e102
              replace hx102_0 := (HB.out.cell (World.block_lt_of_cell? w _ hx102_0)).trans hx102_0
              replace hx102_1 := (HB.out.cell (World.block_lt_of_cell? w _ hx102_1)).trans hx102_1
              replace hx102_2 := (HB.out.cell (World.block_lt_of_cell? w _ hx102_2)).trans hx102_2
              have HR102_2 := Aside0.mk hi102_2
              have HC102_2 := Aside0.mk hl102_2
              clear hi102_2 hl102_2
              replace p102 := eq_true p102
              replace q102 := eq_true q102
              refine start_ (n := 8) (S := fun w' => w'.cell? ⟨gb101, 0, none⟩ = some (.int .i64 a1_0) ∧ w'.cell? ⟨gb101, 1, none⟩ = some (.int .i64 a1_1) ∧ w'.cell? ⟨gb101, 2, none⟩ = some (.slice A1_2 l1_2.length c1_2) ∧ w'.cell? (ad102.add (((ji6)).toNat * 3)) = some (.int .i64 ((rd_T27 l0 (ji6)).f0)) ∧ w'.cell? ⟨(ad102.add (((ji6)).toNat * 3)).block, (ad102.add (((ji6)).toNat * 3)).off + 1, none⟩ = some (.int .i64 ((rd_T27 l0 (ji6)).f1)) ∧ w'.cell? ⟨(ad102.add (((ji6)).toNat * 3)).block, (ad102.add (((ji6)).toNat * 3)).off + 2, none⟩ = some (.slice A102_2 ((rd_T27 l0 (ji6)).f2).length c102_2)) (ds := []) #[false, false, false, false, false, false, false, false] (by kernel_rfl) rfl rfl ⟨(blk_cell BK101.out 0).trans rfl, (blk_cell BK101.out 1).trans rfl, (blk_cell BK101.out 2).trans rfl, ((HB.out.cell (World.block_lt_of_cell? w _ hw102_0)).trans hw102_0), ((HB.out.cell (World.block_lt_of_cell? w _ hw102_1)).trans hw102_1), ((HB.out.cell (World.block_lt_of_cell? w _ hw102_2)).trans hw102_2)⟩ (fun hHeld => ?_); refine with_tabW impl_Occ_105.tab5 impl_Occ_105.bits5 (fun HT_ HW_ => ?_)
              generalize wr.drew = w13 at BK101 HB HR102_2 hx102_0 hx102_1 hx102_2 hHeld ⊢
              refine pure_ (i := 0) (N := some 24) (v := ?_) (a' := ?_) #[true, false, false, false, false, false, false, false] rfl rfl (any_of HT_.out (by kernel_rfl)) (fun _ _ _ h => h) (Or.inl ⟨by rfl, ?_⟩) ?_ ?_
              rotate_left
              · intro w'
                go_simp
                with_reducible rfl
              rotate_left
              · simp only [Act.put, List.setIfInBounds_toArray, List.set_cons_zero, List.set_cons_succ, i64_w, i32_w]
                rfl
              refine pure_ (i := 1) (N := some 25) (v := ?_) (a' := ?_) #[true, true, false, false, false, false, false, false] rfl rfl (any_of HT_.out (by kernel_rfl)) (fun _ _ _ h => h) (Or.inl ⟨by rfl, ?_⟩) ?_ ?_
              rotate_left
              · intro w'
                go_simp
                with_reducible rfl
              rotate_left
              · simp only [Act.put, List.setIfInBounds_toArray, List.set_cons_zero, List.set_cons_succ, i64_w, i32_w]
                rfl
              refine pure_ (i := 2) (N := some 26) (v := ?_) (a' := ?_) #[true, true, true, false, false, false, false, false] rfl rfl (any_of HT_.out (by kernel_rfl)) (fun _ _ _ h => h) (Or.inl ⟨by rfl, ?_⟩) ?_ ?_
              rotate_left
              · intro w'
                go_simp
                with_reducible rfl
              rotate_left
              · simp only [Act.put, List.setIfInBounds_toArray, List.set_cons_zero, List.set_cons_succ, i64_w, i32_w]
                rfl
              refine pure_ (i := 3) (N := some 27) (v := ?_) (a' := ?_) #[true, true, true, true, false, false, false, false] rfl rfl (any_of HT_.out (by kernel_rfl)) (fun _ _ _ h => h) (Or.inl ⟨by rfl, ?_⟩) ?_ ?_
              rotate_left
              · intro w'
                go_simp
                with_reducible rfl
              rotate_left
              · simp only [Act.put, List.setIfInBounds_toArray, List.set_cons_zero, List.set_cons_succ, i64_w, i32_w]
                rfl
              refine take_ (i := 4) (N := some 28) (v := ?_) (a' := ?_) #[true, true, true, true, true, false, false, false] rfl rfl (take_ofW HT_.out HW_.out (by kernel_rfl)) (fun _ _ _ h => h) (Or.inl ⟨by rfl, ?_⟩) hHeld ?_ ?_
              rotate_left
              · rintro w' ⟨s0, s1, s2, s3, s4, s5⟩
                go_simp
                with_reducible rfl
              rotate_left
              · simp only [Act.put, List.setIfInBounds_toArray, List.set_cons_zero, List.set_cons_succ, i64_w, i32_w]
                rfl
              refine take_ (i := 5) (N := some 29) (v := ?_) (a' := ?_) #[true, true, true, true, true, true, false, false] rfl rfl (take_ofW HT_.out HW_.out (by kernel_rfl)) (fun _ _ _ h => h) (Or.inl ⟨by rfl, ?_⟩) hHeld ?_ ?_
              rotate_left
              · rintro w' ⟨s0, s1, s2, s3, s4, s5⟩
                go_simp
                with_reducible rfl
              rotate_left
              · simp only [Act.put, List.setIfInBounds_toArray, List.set_cons_zero, List.set_cons_succ, i64_w, i32_w]
                rfl
              refine one_ (i := 6) (N := some 30) #[true, true, true, true, true, true, true, false] rfl rfl (one_of HT_.out (by kernel_rfl)) (by decide) (fun K hK => ?_)
              refine goesV_ Try.func71 (by kernel_rfl) rfl #[.agg #[.int .i64 ((rd_T27 l0 (ji6)).f0), .int .i64 ((rd_T27 l0 (ji6)).f1), .slice A102_2 ((rd_T27 l0 (ji6)).f2).length c102_2], .agg #[.int .i64 a1_0, .int .i64 a1_1, .slice A1_2 l1_2.length c1_2]] (by rfl) rfl rfl (by (try simp only [List.map_toArray, List.map_cons, List.map_nil]); first | done | (simp only [hji6]; rfl) | rfl | (simp only [List.length_drop, List.length_take]; rfl)) ?_
              with_reducible refine (impl_compare.calls k1 ((rd_T27 l0 (ji6)).f0) ((rd_T27 l0 (ji6)).f1) _ _ ((rd_T27 l0 (ji6)).f2) a1_0 a1_1 _ _ l1_2 t103 _ ?side1 ?side2 ?side3 ?side4 A9.out).mono ?_
              (case side1 => repeat (first | exact (Kd.C_below HR102_2.out HB.out) | (with_reducible refine Kd.C_alloc ?_ _) | (with_reducible refine Kd.C_drewN ?_ _) | (with_reducible refine Kd.C_drew ?_)))
              (case side2 => exact HC102_2.out)
              (case side3 => repeat (first | exact (Kd.C_below HR1_2.out HB.out) | (with_reducible refine Kd.C_alloc ?_ _) | (with_reducible refine Kd.C_drewN ?_ _) | (with_reducible refine Kd.C_drew ?_)))
              (case side4 => exact HC1_2.out)
              rintro e w14 ⟨rfl, hb⟩
              refine ⟨_, rfl, ?_⟩
              have n0_ := Aside0.mk (blk_below (g := gb101) (o := .cells #[.int .i64 a1_0, .int .i64 a1_1, .slice A1_2 l1_2.length c1_2] 27 (0, 0)) (by (with_reducible repeat (first | refine blk_drewN ?_ _ | refine blk_drew ?_ | refine blk_alloc ?_ _)); exact BK101.out) hb)
              have n1_ := Aside0.mk (below_step (by repeat (first | (with_reducible first | exact HB.out | apply below_alloc | apply pw_below_drewN | apply below_drew1 | refine below_set ?_ GE101.out) | exact HB.out)) hb)
              clear BK101
              clear HB
              have BK101 := n0_
              have HB := n1_
              clear n0_ n1_
              (try clear hb)
              (try clear hb2)
              (try clear hk)
              (try clear hi)
              refine hK.out _ _ ⟨(blk_cell BK101.out 0).trans rfl, (blk_cell BK101.out 1).trans rfl, (blk_cell BK101.out 2).trans rfl, ((HB.out.cell (World.block_lt_of_cell? w _ hw102_0)).trans hw102_0), ((HB.out.cell (World.block_lt_of_cell? w _ hw102_1)).trans hw102_1), ((HB.out.cell (World.block_lt_of_cell? w _ hw102_2)).trans hw102_2)⟩ (fun hHeld => ?_)
              clear hK K
              refine norm_ (a' := ?_) ?_ ?_
              rotate_left
              · show Act.put _ (some 30) _ = _
                simp only [Act.put, List.setIfInBounds_toArray, List.set_cons_zero, List.set_cons_succ, i64_w, i32_w]
                rfl
              refine pure_ (i := 7) (N := some 31) (v := ?_) (a' := ?_) #[true, true, true, true, true, true, true, true] rfl rfl (any_of HT_.out (by kernel_rfl)) (fun _ _ _ h => h) (Or.inl ⟨by rfl, ?_⟩) ?_ ?_
              rotate_left
              · intro w'
                go_simp
                with_reducible rfl
              rotate_left
              · simp only [Act.put, List.setIfInBounds_toArray, List.set_cons_zero, List.set_cons_succ, i64_w, i32_w]
                rfl
              refine done_ (done_of HT_.out (by kernel_rfl)) ?_
              try go_wp2
              go_roundg k1
              case measure => have := HK1.out; omega
              case rel => exact ⟨(x9_1), (ji6), (by first | rfl | (simp; done) | (simp [*]; done)), (by first | rfl | (simp; done) | (simp only [← hji6] <;> (first | rfl | simp)) | (simp [*]; done)), H', ⟨by have := HK1.out; omega⟩, ⟨by (with_reducible repeat (first | refine blk_drewN ?_ _ | refine blk_drew ?_ | refine blk_alloc ?_ _)); exact BK101.out⟩, ⟨by repeat (first | (with_reducible first | exact HB.out | apply below_alloc | apply pw_below_drewN | apply below_drew1 | refine below_set ?_ GE101.out) | exact HB.out)⟩⟩
          · rw [if_neg c8] at H
            exact absurd H (by simp)
        · rw [if_neg c7] at H
          exact absurd H (by simp)
      · rw [if_neg c5] at H
        have c5b0 : decide (x9_1 < x10_1) = false := decide_eq_false c5
        clear c5
        by_cases c15 : x9_1 < (l0.length : Int)
        · rw [if_pos c15] at H
          have c15b0 : decide (x9_1 < (l0.length : Int)) = true := decide_eq_true c15
          clear c15
          by_cases c16 : 0 ≤ x9_1
          · rw [if_pos c16] at H
            have c16b0 : decide (0 ≤ x9_1) = true := decide_eq_true c16
            clear c16
            by_cases c17 : x9_1 < (l0.length : Int)
            · rw [if_pos c17] at H
              have c17b0 : decide (x9_1 < (l0.length : Int)) = true := decide_eq_true c17
              clear c17
              replace H := Option.bind_eq_some_iff.mp H
              obtain ⟨t105, A180, H⟩ := H
              replace H : (some (x9_1, (t105 == 0))) = some (r1, r2) := H
              have A18 := Aside0.mk A180
              clear A180
              simp only [Option.some.injEq, Prod.mk.injEq] at H
              obtain ⟨rfl, rfl⟩ := H
              try go_wp2
              have n0_ := Aside0.mk (blk_drew BK101.out)
              have n1_ := Aside0.mk (below_drew1 HB.out)
              clear BK101
              clear HB
              have BK101 := n0_
              have HB := n1_
              clear n0_ n1_
              have p104 : 0 ≤ (x9_1 : Int) := of_decide_eq_true (by first | (with_reducible assumption) | assumption)
              have q104 : x9_1 < (l0.length : Int) := of_decide_eq_true (by first | (with_reducible assumption) | assumption)
              obtain ⟨ad104, A104_2, c104_2, e104, hx104_0, hx104_1, hx104_2, hl104_2, hi104_2⟩ := at_T27 HR0.out x9_1 p104 q104
              have hw104_2 := hx104_2
              have hw104_1 := hx104_1
              have hw104_0 := hx104_0
              cases e104
              replace hx104_0 := (HB.out.cell (World.block_lt_of_cell? w _ hx104_0)).trans hx104_0
              replace hx104_1 := (HB.out.cell (World.block_lt_of_cell? w _ hx104_1)).trans hx104_1
              replace hx104_2 := (HB.out.cell (World.block_lt_of_cell? w _ hx104_2)).trans hx104_2
              have HR104_2 := Aside0.mk hi104_2
              have HC104_2 := Aside0.mk hl104_2
              clear hi104_2 hl104_2
              replace p104 := eq_true p104
              replace q104 := eq_true q104
              refine start_ (n := 16) (S := fun w' => w'.cell? ⟨gb101, 0, none⟩ = some (.int .i64 a1_0) ∧ w'.cell? ⟨gb101, 1, none⟩ = some (.int .i64 a1_1) ∧ w'.cell? ⟨gb101, 2, none⟩ = some (.slice A1_2 l1_2.length c1_2) ∧ w'.cell? (ad104.add ((x9_1).toNat * 3)) = some (.int .i64 ((rd_T27 l0 x9_1).f0)) ∧ w'.cell? ⟨(ad104.add ((x9_1).toNat * 3)).block, (ad104.add ((x9_1).toNat * 3)).off + 1, none⟩ = some (.int .i64 ((rd_T27 l0 x9_1).f1)) ∧ w'.cell? ⟨(ad104.add ((x9_1).toNat * 3)).block, (ad104.add ((x9_1).toNat * 3)).off + 2, none⟩ = some (.slice A104_2 ((rd_T27 l0 x9_1).f2).length c104_2)) (ds := []) #[false, false, false, false, false, false, false, false, false, false, false, false, false, false, false, false] (by kernel_rfl) rfl rfl ⟨(blk_cell BK101.out 0).trans rfl, (blk_cell BK101.out 1).trans rfl, (blk_cell BK101.out 2).trans rfl, ((HB.out.cell (World.block_lt_of_cell? w _ hw104_0)).trans hw104_0), ((HB.out.cell (World.block_lt_of_cell? w _ hw104_1)).trans hw104_1), ((HB.out.cell (World.block_lt_of_cell? w _ hw104_2)).trans hw104_2)⟩ (fun hHeld => ?_); refine with_tabW impl_Occ_105.tab8 impl_Occ_105.bits8 (fun HT_ HW_ => ?_)
              generalize wr.drew = w19 at BK101 HB HR104_2 hx104_0 hx104_1 hx104_2 hHeld ⊢
              refine pure_ (i := 0) (N := some 35) (v := ?_) (a' := ?_) #[true, false, false, false, false, false, false, false, false, false, false, false, false, false, false, false] rfl rfl (any_of HT_.out (by kernel_rfl)) (fun _ _ _ h => h) (Or.inl ⟨by rfl, ?_⟩) ?_ ?_
              rotate_left
              · intro w'
                go_simp
                with_reducible rfl
              rotate_left
              · simp only [Act.put, List.setIfInBounds_toArray, List.set_cons_zero, List.set_cons_succ, i64_w, i32_w]
                rfl
              refine pure_ (i := 1) (N := some 36) (v := ?_) (a' := ?_) #[true, true, false, false, false, false, false, false, false, false, false, false, false, false, false, false] rfl rfl (any_of HT_.out (by kernel_rfl)) (fun _ _ _ h => h) (Or.inl ⟨by rfl, ?_⟩) ?_ ?_
              rotate_left
              · intro w'
                go_simp
                with_reducible rfl
              rotate_left
              · simp only [Act.put, List.setIfInBounds_toArray, List.set_cons_zero, List.set_cons_succ, i64_w, i32_w]
                rfl
              refine pure_ (i := 2) (N := some 37) (v := ?_) (a' := ?_) #[true, true, true, false, false, false, false, false, false, false, false, false, false, false, false, false] rfl rfl (any_of HT_.out (by kernel_rfl)) (fun _ _ _ h => h) (Or.inl ⟨by rfl, ?_⟩) ?_ ?_
              rotate_left
              · intro w'
                go_simp
                with_reducible rfl
              rotate_left
              · simp only [Act.put, List.setIfInBounds_toArray, List.set_cons_zero, List.set_cons_succ, i64_w, i32_w]
                rfl
              refine pure_ (i := 3) (N := some 38) (v := ?_) (a' := ?_) #[true, true, true, true, false, false, false, false, false, false, false, false, false, false, false, false] rfl rfl (any_of HT_.out (by kernel_rfl)) (fun _ _ _ h => h) (Or.inl ⟨by rfl, ?_⟩) ?_ ?_
              rotate_left
              · intro w'
                go_simp
                with_reducible rfl
              rotate_left
              · simp only [Act.put, List.setIfInBounds_toArray, List.set_cons_zero, List.set_cons_succ, i64_w, i32_w]
                rfl
              refine pure_ (i := 4) (N := some 39) (v := ?_) (a' := ?_) #[true, true, true, true, true, false, false, false, false, false, false, false, false, false, false, false] rfl rfl (any_of HT_.out (by kernel_rfl)) (fun _ _ _ h => h) (Or.inl ⟨by rfl, ?_⟩) ?_ ?_
              rotate_left
              · intro w'
                go_simp
                with_reducible rfl
              rotate_left
              · simp only [Act.put, List.setIfInBounds_toArray, List.set_cons_zero, List.set_cons_succ, i64_w, i32_w]
                rfl
              refine pure_ (i := 5) (N := some 40) (v := ?_) (a' := ?_) #[true, true, true, true, true, true, false, false, false, false, false, false, false, false, false, false] rfl rfl (any_of HT_.out (by kernel_rfl)) (fun _ _ _ h => h) (Or.inl ⟨by rfl, ?_⟩) ?_ ?_
              rotate_left
              · intro w'
                go_simp
                with_reducible rfl
              rotate_left
              · simp only [Act.put, List.setIfInBounds_toArray, List.set_cons_zero, List.set_cons_succ, i64_w, i32_w]
                rfl
              refine pure_ (i := 6) (N := some 41) (v := ?_) (a' := ?_) #[true, true, true, true, true, true, true, false, false, false, false, false, false, false, false, false] rfl rfl (any_of HT_.out (by kernel_rfl)) (fun _ _ _ h => h) (Or.inl ⟨by rfl, ?_⟩) ?_ ?_
              rotate_left
              · intro w'
                go_simp
                with_reducible rfl
              rotate_left
              · simp only [Act.put, List.setIfInBounds_toArray, List.set_cons_zero, List.set_cons_succ, i64_w, i32_w]
                rfl
              refine pure_ (i := 7) (N := some 42) (v := ?_) (a' := ?_) #[true, true, true, true, true, true, true, true, false, false, false, false, false, false, false, false] rfl rfl (any_of HT_.out (by kernel_rfl)) (fun _ _ _ h => h) (Or.inl ⟨by rfl, ?_⟩) ?_ ?_
              rotate_left
              · intro w'
                go_simp
                with_reducible rfl
              rotate_left
              · simp only [Act.put, List.setIfInBounds_toArray, List.set_cons_zero, List.set_cons_succ, i64_w, i32_w]
                rfl
              refine pure_ (i := 8) (N := some 43) (v := ?_) (a' := ?_) #[true, true, true, true, true, true, true, true, true, false, false, false, false, false, false, false] rfl rfl (any_of HT_.out (by kernel_rfl)) (fun _ _ _ h => h) (Or.inl ⟨by rfl, ?_⟩) ?_ ?_
              rotate_left
              · intro w'
                go_simp
                with_reducible rfl
              rotate_left
              · simp only [Act.put, List.setIfInBounds_toArray, List.set_cons_zero, List.set_cons_succ, i64_w, i32_w]
                rfl
              refine take_ (i := 9) (N := some 44) (v := ?_) (a' := ?_) #[true, true, true, true, true, true, true, true, true, true, false, false, false, false, false, false] rfl rfl (take_ofW HT_.out HW_.out (by kernel_rfl)) (fun _ _ _ h => h) (Or.inl ⟨by rfl, ?_⟩) hHeld ?_ ?_
              rotate_left
              · rintro w' ⟨s0, s1, s2, s3, s4, s5⟩
                go_simp
                with_reducible rfl
              rotate_left
              · simp only [Act.put, List.setIfInBounds_toArray, List.set_cons_zero, List.set_cons_succ, i64_w, i32_w]
                rfl
              refine take_ (i := 10) (N := some 45) (v := ?_) (a' := ?_) #[true, true, true, true, true, true, true, true, true, true, true, false, false, false, false, false] rfl rfl (take_ofW HT_.out HW_.out (by kernel_rfl)) (fun _ _ _ h => h) (Or.inl ⟨by rfl, ?_⟩) hHeld ?_ ?_
              rotate_left
              · rintro w' ⟨s0, s1, s2, s3, s4, s5⟩
                go_simp
                with_reducible rfl
              rotate_left
              · simp only [Act.put, List.setIfInBounds_toArray, List.set_cons_zero, List.set_cons_succ, i64_w, i32_w]
                rfl
              refine one_ (i := 11) (N := some 46) #[true, true, true, true, true, true, true, true, true, true, true, true, false, false, false, false] rfl rfl (one_of HT_.out (by kernel_rfl)) (by decide) (fun K hK => ?_)
              refine goesV_ Try.func71 (by kernel_rfl) rfl #[.agg #[.int .i64 ((rd_T27 l0 x9_1).f0), .int .i64 ((rd_T27 l0 x9_1).f1), .slice A104_2 ((rd_T27 l0 x9_1).f2).length c104_2], .agg #[.int .i64 a1_0, .int .i64 a1_1, .slice A1_2 l1_2.length c1_2]] (by rfl) rfl rfl (by (try simp only [List.map_toArray, List.map_cons, List.map_nil]); first | done | rfl | (simp only [List.length_drop, List.length_take]; rfl)) ?_
              with_reducible refine (impl_compare.calls k1 ((rd_T27 l0 x9_1).f0) ((rd_T27 l0 x9_1).f1) _ _ ((rd_T27 l0 x9_1).f2) a1_0 a1_1 _ _ l1_2 t105 _ ?side1 ?side2 ?side3 ?side4 A18.out).mono ?_
              (case side1 => repeat (first | exact (Kd.C_below HR104_2.out HB.out) | (with_reducible refine Kd.C_alloc ?_ _) | (with_reducible refine Kd.C_drewN ?_ _) | (with_reducible refine Kd.C_drew ?_)))
              (case side2 => exact HC104_2.out)
              (case side3 => repeat (first | exact (Kd.C_below HR1_2.out HB.out) | (with_reducible refine Kd.C_alloc ?_ _) | (with_reducible refine Kd.C_drewN ?_ _) | (with_reducible refine Kd.C_drew ?_)))
              (case side4 => exact HC1_2.out)
              rintro e w20 ⟨rfl, hb⟩
              refine ⟨_, rfl, ?_⟩
              have n0_ := Aside0.mk (blk_below (g := gb101) (o := .cells #[.int .i64 a1_0, .int .i64 a1_1, .slice A1_2 l1_2.length c1_2] 27 (0, 0)) (by (with_reducible repeat (first | refine blk_drewN ?_ _ | refine blk_drew ?_ | refine blk_alloc ?_ _)); exact BK101.out) hb)
              have n1_ := Aside0.mk (below_step (by repeat (first | (with_reducible first | exact HB.out | apply below_alloc | apply pw_below_drewN | apply below_drew1 | refine below_set ?_ GE101.out) | exact HB.out)) hb)
              clear BK101
              clear HB
              have BK101 := n0_
              have HB := n1_
              clear n0_ n1_
              (try clear hb)
              (try clear hb2)
              (try clear hk)
              (try clear hi)
              refine hK.out _ _ ⟨(blk_cell BK101.out 0).trans rfl, (blk_cell BK101.out 1).trans rfl, (blk_cell BK101.out 2).trans rfl, ((HB.out.cell (World.block_lt_of_cell? w _ hw104_0)).trans hw104_0), ((HB.out.cell (World.block_lt_of_cell? w _ hw104_1)).trans hw104_1), ((HB.out.cell (World.block_lt_of_cell? w _ hw104_2)).trans hw104_2)⟩ (fun hHeld => ?_)
              clear hK K
              refine norm_ (a' := ?_) ?_ ?_
              rotate_left
              · show Act.put _ (some 46) _ = _
                simp only [Act.put, List.setIfInBounds_toArray, List.set_cons_zero, List.set_cons_succ, i64_w, i32_w]
                rfl
              refine pure_ (i := 12) (N := some 47) (v := ?_) (a' := ?_) #[true, true, true, true, true, true, true, true, true, true, true, true, true, false, false, false] rfl rfl (any_of HT_.out (by kernel_rfl)) (fun _ _ _ h => h) (Or.inl ⟨by rfl, ?_⟩) ?_ ?_
              rotate_left
              · intro w'
                go_simp
                with_reducible rfl
              rotate_left
              · simp only [Act.put, List.setIfInBounds_toArray, List.set_cons_zero, List.set_cons_succ, i64_w, i32_w]
                rfl
              refine pure_ (i := 13) (N := some 48) (v := ?_) (a' := ?_) #[true, true, true, true, true, true, true, true, true, true, true, true, true, true, false, false] rfl rfl (any_of HT_.out (by kernel_rfl)) (fun _ _ _ h => h) (Or.inl ⟨by rfl, ?_⟩) ?_ ?_
              rotate_left
              · intro w'
                go_simp
                with_reducible rfl
              rotate_left
              · simp only [Act.put, List.setIfInBounds_toArray, List.set_cons_zero, List.set_cons_succ, i64_w, i32_w]
                rfl
              refine pure_ (i := 14) (N := some 6) (v := ?_) (a' := ?_) #[true, true, true, true, true, true, true, true, true, true, true, true, true, true, true, false] rfl rfl (any_of HT_.out (by kernel_rfl)) (fun _ _ _ h => h) (Or.inl ⟨by rfl, ?_⟩) ?_ ?_
              rotate_left
              · intro w'
                go_simp
                with_reducible rfl
              rotate_left
              · simp only [Act.put, List.setIfInBounds_toArray, List.set_cons_zero, List.set_cons_succ, i64_w, i32_w]
                rfl
              refine pure_ (i := 15) (N := some 7) (v := ?_) (a' := ?_) #[true, true, true, true, true, true, true, true, true, true, true, true, true, true, true, true] rfl rfl (any_of HT_.out (by kernel_rfl)) (fun _ _ _ h => h) (Or.inl ⟨by rfl, ?_⟩) ?_ ?_
              rotate_left
              · intro w'
                go_simp
                with_reducible rfl
              rotate_left
              · simp only [Act.put, List.setIfInBounds_toArray, List.set_cons_zero, List.set_cons_succ, i64_w, i32_w]
                rfl
              refine done_ (done_of HT_.out (by kernel_rfl)) ?_
              try go_wp2
              go_ret2
              exact ⟨by first | rfl | (simp [errW_none, errW_some] <;> rfl) | (simp [*, errW_none, errW_some] <;> rfl), by repeat (first | (with_reducible first | exact HB.out | apply below_alloc | apply pw_below_drewN | apply below_drew1 | refine below_set ?_ GE101.out) | exact HB.out)⟩
            · rw [if_neg c17] at H
              exact absurd H (by simp)
          · rw [if_neg c16] at H
            exact absurd H (by simp)
        · rw [if_neg c15] at H
          have c15b0 : decide (x9_1 < (l0.length : Int)) = false := decide_eq_false c15
          clear c15
          simp only [Option.some.injEq, Prod.mk.injEq] at H
          obtain ⟨rfl, rfl⟩ := H
          try go_wp2
          have n0_ := Aside0.mk (blk_drew BK101.out)
          have n1_ := Aside0.mk (below_drew1 HB.out)
          clear BK101
          clear HB
          have BK101 := n0_
          have HB := n1_
          clear n0_ n1_
          refine start_ (n := 16) (S := fun w' => True) (ds := []) #[false, false, false, false, false, false, false, false, false, false, false, false, false, false, false, false] (by kernel_rfl) rfl rfl trivial (fun hHeld => ?_); refine with_tabW impl_Occ_105.tab8 impl_Occ_105.bits8 (fun HT_ HW_ => ?_)
          generalize wr.drew = w21 at BK101 HB hHeld ⊢
          refine pure_ (i := 0) (N := some 35) (v := ?_) (a' := ?_) #[true, false, false, false, false, false, false, false, false, false, false, false, false, false, false, false] rfl rfl (any_of HT_.out (by kernel_rfl)) (fun _ _ _ h => h) (Or.inl ⟨by rfl, ?_⟩) ?_ ?_
          rotate_left
          · intro w'
            go_simp
            with_reducible rfl
          rotate_left
          · simp only [Act.put, List.setIfInBounds_toArray, List.set_cons_zero, List.set_cons_succ, i64_w, i32_w]
            rfl
          refine pure_ (i := 1) (N := some 36) (v := ?_) (a' := ?_) #[true, true, false, false, false, false, false, false, false, false, false, false, false, false, false, false] rfl rfl (any_of HT_.out (by kernel_rfl)) (fun _ _ _ h => h) (Or.inl ⟨by rfl, ?_⟩) ?_ ?_
          rotate_left
          · intro w'
            go_simp
            with_reducible rfl
          rotate_left
          · simp only [Act.put, List.setIfInBounds_toArray, List.set_cons_zero, List.set_cons_succ, i64_w, i32_w]
            rfl
          refine pure_ (i := 2) (N := some 37) (v := ?_) (a' := ?_) #[true, true, true, false, false, false, false, false, false, false, false, false, false, false, false, false] rfl rfl (any_of HT_.out (by kernel_rfl)) (fun _ _ _ h => h) (Or.inl ⟨by rfl, ?_⟩) ?_ ?_
          rotate_left
          · intro w'
            go_simp
            with_reducible rfl
          rotate_left
          · simp only [Act.put, List.setIfInBounds_toArray, List.set_cons_zero, List.set_cons_succ, i64_w, i32_w]
            rfl
          refine pure_ (i := 3) (N := some 38) (v := ?_) (a' := ?_) #[true, true, true, true, false, false, false, false, false, false, false, false, false, false, false, false] rfl rfl (any_of HT_.out (by kernel_rfl)) (fun _ _ _ h => h) (Or.inl ⟨by rfl, ?_⟩) ?_ ?_
          rotate_left
          · intro w'
            go_simp
            with_reducible rfl
          rotate_left
          · simp only [Act.put, List.setIfInBounds_toArray, List.set_cons_zero, List.set_cons_succ, i64_w, i32_w]
            rfl
          refine pure_ (i := 4) (N := some 39) (v := ?_) (a' := ?_) #[true, true, true, true, true, false, false, false, false, false, false, false, false, false, false, false] rfl rfl (any_of HT_.out (by kernel_rfl)) (fun _ _ _ h => h) (Or.inl ⟨by rfl, ?_⟩) ?_ ?_
          rotate_left
          · intro w'
            go_simp
            with_reducible rfl
          rotate_left
          · simp only [Act.put, List.setIfInBounds_toArray, List.set_cons_zero, List.set_cons_succ, i64_w, i32_w]
            rfl
          refine pure_ (i := 5) (N := some 40) (v := undef) (a' := ?_) #[true, true, true, true, true, true, false, false, false, false, false, false, false, false, false, false] rfl rfl (any_of HT_.out (by kernel_rfl)) (fun _ _ _ h => h) (Or.inr ⟨by rfl, rfl⟩) ?_ ?_
          rotate_left
          · simp only [Act.put, List.setIfInBounds_toArray, List.set_cons_zero, List.set_cons_succ, i64_w, i32_w]
            rfl
          refine pure_ (i := 6) (N := some 41) (v := undef) (a' := ?_) #[true, true, true, true, true, true, true, false, false, false, false, false, false, false, false, false] rfl rfl (any_of HT_.out (by kernel_rfl)) (fun _ _ _ h => h) (Or.inr ⟨by rfl, rfl⟩) ?_ ?_
          rotate_left
          · simp only [Act.put, List.setIfInBounds_toArray, List.set_cons_zero, List.set_cons_succ, i64_w, i32_w]
            rfl
          refine pure_ (i := 7) (N := some 42) (v := undef) (a' := ?_) #[true, true, true, true, true, true, true, true, false, false, false, false, false, false, false, false] rfl rfl (any_of HT_.out (by kernel_rfl)) (fun _ _ _ h => h) (Or.inr ⟨by rfl, rfl⟩) ?_ ?_
          rotate_left
          · simp only [Act.put, List.setIfInBounds_toArray, List.set_cons_zero, List.set_cons_succ, i64_w, i32_w]
            rfl
          refine pure_ (i := 8) (N := some 43) (v := undef) (a' := ?_) #[true, true, true, true, true, true, true, true, true, false, false, false, false, false, false, false] rfl rfl (any_of HT_.out (by kernel_rfl)) (fun _ _ _ h => h) (Or.inr ⟨by rfl, rfl⟩) ?_ ?_
          rotate_left
          · simp only [Act.put, List.setIfInBounds_toArray, List.set_cons_zero, List.set_cons_succ, i64_w, i32_w]
            rfl
          refine pure_ (i := 9) (N := some 44) (v := undef) (a' := ?_) #[true, true, true, true, true, true, true, true, true, true, false, false, false, false, false, false] rfl rfl (any_of HT_.out (by kernel_rfl)) (fun _ _ _ h => h) (Or.inr ⟨by rfl, rfl⟩) ?_ ?_
          rotate_left
          · simp only [Act.put, List.setIfInBounds_toArray, List.set_cons_zero, List.set_cons_succ, i64_w, i32_w]
            rfl
          refine pure_ (i := 10) (N := some 45) (v := undef) (a' := ?_) #[true, true, true, true, true, true, true, true, true, true, true, false, false, false, false, false] rfl rfl (any_of HT_.out (by kernel_rfl)) (fun _ _ _ h => h) (Or.inr ⟨by rfl, rfl⟩) ?_ ?_
          rotate_left
          · simp only [Act.put, List.setIfInBounds_toArray, List.set_cons_zero, List.set_cons_succ, i64_w, i32_w]
            rfl
          refine pure_ (i := 11) (N := some 46) (v := undef) (a' := ?_) #[true, true, true, true, true, true, true, true, true, true, true, true, false, false, false, false] rfl rfl (any_of HT_.out (by kernel_rfl)) (fun _ _ _ h => h) (Or.inr ⟨by rfl, rfl⟩) ?_ ?_
          rotate_left
          · simp only [Act.put, List.setIfInBounds_toArray, List.set_cons_zero, List.set_cons_succ, i64_w, i32_w]
            rfl
          refine pure_ (i := 12) (N := some 47) (v := undef) (a' := ?_) #[true, true, true, true, true, true, true, true, true, true, true, true, true, false, false, false] rfl rfl (any_of HT_.out (by kernel_rfl)) (fun _ _ _ h => h) (Or.inr ⟨by rfl, rfl⟩) ?_ ?_
          rotate_left
          · simp only [Act.put, List.setIfInBounds_toArray, List.set_cons_zero, List.set_cons_succ, i64_w, i32_w]
            rfl
          refine pure_ (i := 13) (N := some 48) (v := ?_) (a' := ?_) #[true, true, true, true, true, true, true, true, true, true, true, true, true, true, false, false] rfl rfl (any_of HT_.out (by kernel_rfl)) (fun _ _ _ h => h) (Or.inl ⟨by rfl, ?_⟩) ?_ ?_
          rotate_left
          · intro w'
            go_simp
            with_reducible rfl
          rotate_left
          · simp only [Act.put, List.setIfInBounds_toArray, List.set_cons_zero, List.set_cons_succ, i64_w, i32_w]
            rfl
          refine pure_ (i := 14) (N := some 6) (v := ?_) (a' := ?_) #[true, true, true, true, true, true, true, true, true, true, true, true, true, true, true, false] rfl rfl (any_of HT_.out (by kernel_rfl)) (fun _ _ _ h => h) (Or.inl ⟨by rfl, ?_⟩) ?_ ?_
          rotate_left
          · intro w'
            go_simp
            with_reducible rfl
          rotate_left
          · simp only [Act.put, List.setIfInBounds_toArray, List.set_cons_zero, List.set_cons_succ, i64_w, i32_w]
            rfl
          refine pure_ (i := 15) (N := some 7) (v := ?_) (a' := ?_) #[true, true, true, true, true, true, true, true, true, true, true, true, true, true, true, true] rfl rfl (any_of HT_.out (by kernel_rfl)) (fun _ _ _ h => h) (Or.inl ⟨by rfl, ?_⟩) ?_ ?_
          rotate_left
          · intro w'
            go_simp
            with_reducible rfl
          rotate_left
          · simp only [Act.put, List.setIfInBounds_toArray, List.set_cons_zero, List.set_cons_succ, i64_w, i32_w]
            rfl
          refine done_ (done_of HT_.out (by kernel_rfl)) ?_
          try go_wp2
          go_ret2
          exact ⟨by first | rfl | (simp [errW_none, errW_some] <;> rfl) | (simp [*, errW_none, errW_some] <;> rfl), by repeat (first | (with_reducible first | exact HB.out | apply below_alloc | apply pw_below_drewN | apply below_drew1 | refine below_set ?_ GE101.out) | exact HB.out)⟩

end Go.Proofs.Ytiplpckgmikmeaa.M
namespace Go.Proofs.Ytiplpckgmikmeaa.M
set_option linter.unusedVariables false
set_option linter.unusedSimpArgs false
open Go Go.RowKit Go.Proofs.YtiplpckgmikmeaaW.PrintWords Go.Proofs.YtiplpckgmikmeaaW.PrintLast Go.Proofs.YtiplpckgmikmeaaW.PrintMore

theorem reps_in {α : Type} {R : α → List Value → Prop} {l : List α} {xs vs : List Value} {o : α} {i : Nat} (h : Reps R 3 l xs) (hp : R o vs) (hv : vs.length = 3) (hi : i ≤ l.length) : Reps R 3 (l.take i ++ [o] ++ l.drop i) (xs.take (i * 3) ++ vs ++ xs.drop (i * 3)) := by
  have hl := h.1
  have la : (xs.take (i * 3)).length = i * 3 := by rw [List.length_take]; omega
  have lt : (l.take i).length = i := by rw [List.length_take]; omega
  refine ⟨?_, fun j p hj => ?_⟩
  · simp only [List.length_append, List.length_take, List.length_drop, List.length_singleton, hv]
    omega
  · rw [List.append_assoc] at hj ⊢
    rcases Nat.lt_trichotomy j i with hlt | rfl | hgt
    · rw [List.getElem?_append_left (by omega), List.getElem?_take_of_lt hlt] at hj
      have h2 := h.2 j p hj
      rw [List.drop_append_of_le_length (by omega), List.take_append_of_le_length (by rw [List.length_drop]; omega), List.drop_take, List.take_take, Nat.min_eq_left (by omega)]
      exact h2
    · rw [List.getElem?_append_right (by omega), lt, Nat.sub_self] at hj
      have e : o = p := by simpa using hj
      subst e
      rw [List.drop_append_of_le_length (by omega), List.drop_of_length_le (by omega), List.nil_append, List.take_left' hv]
      exact hp
    · obtain ⟨m, rfl⟩ : ∃ m, j = i + 1 + m := ⟨j - i - 1, by omega⟩
      rw [List.getElem?_append_right (by omega), lt, List.getElem?_append_right (by simp; omega)] at hj
      have e : i + 1 + m - i - [o].length = m := by simp; omega
      rw [e, List.getElem?_drop] at hj
      have h2 := h.2 (i + m) p hj
      have e3 : (i + 1 + m) * 3 = (xs.take (i * 3)).length + (vs.length + m * 3) := by rw [la, hv]; omega
      rw [e3, List.drop_length_add_append, List.drop_length_add_append, List.drop_drop]
      rw [show i * 3 + m * 3 = (i + m) * 3 by omega]
      exact h2
theorem raw_of_C {α : Type} {d : Kd α} {w : World} {A : Option Addr} {l : List α} (h : d.C w A l.length l) : ∃ xs : List Value, xs.length = l.length * d.sz ∧ (∀ ad, A = some ad → ∀ j u, xs[j]? = some u → w.cell? (ad.add j) = some u) ∧ (A = none → l.length = 0) ∧ (∀ u ∈ xs, u.oneCell' = true) ∧ (∀ w1, Below w.heap.size w w1 → Reps (d.K w1) d.sz l xs) := by
  have h0 : A = none → l.length = 0 := fun e => by
    rcases Nat.eq_zero_or_pos l.length with h1 | h1
    · exact h1
    · obtain ⟨ad, h2, _⟩ := h.2.2 h1
      rw [e] at h2; cases h2
  cases A with
  | none =>
    have e := List.eq_nil_of_length_eq_zero (h0 rfl)
    subst e
    exact ⟨[], by simp, (fun ad e => by cases e), h0, (fun u hu => by simp at hu), fun _ _ => Reps.none _ _⟩
  | some ad =>
    obtain ⟨xs, hr, hc⟩ := ReadsRow.inner_ h
    refine ⟨xs, hr.1, fun ad' e => by injection e with e; subst e; exact hc, h0, fun u hu => ?_, fun w1 hb => hr.imp_ (fun _ _ hp => d.K_below hb hp)⟩
    obtain ⟨m, hm, rfl⟩ := List.getElem_of_mem hu
    have hs : 0 < d.sz := by
      rcases Nat.eq_zero_or_pos d.sz with h1 | h1
      · rw [hr.1, h1, Nat.mul_zero] at hm; omega
      · exact h1
    have hj : m / d.sz < l.length := by rw [Nat.div_lt_iff_lt_mul hs, ← hr.1]; exact hm
    have h2 := d.K_one (hr.2 (m / d.sz) _ (List.getElem?_eq_getElem hj))
    refine h2 _ (List.mem_iff_getElem?.2 ⟨m % d.sz, ?_⟩)
    rw [List.getElem?_take_of_lt (Nat.mod_lt _ hs), List.getElem?_drop, show m / d.sz * d.sz + m % d.sz = m by rw [Nat.mul_comm]; exact Nat.div_add_mod m d.sz, List.getElem?_eq_getElem hm]
theorem new_of {w : World} {g : Nat} {o : Obj} (_ : w.heap[g]? = some o) (o' : Obj) : (w.alloc o').heap[w.heap.size]? = some o' := heap_alloc_new w o'
theorem putIn_length (l : List S27) (i : Nat) (o : S27) : (putIn l i o).length = l.length + 1 := by
  unfold putIn
  rw [List.length_append, List.length_append, List.length_take, List.length_drop, List.length_singleton]; omega
def impl_put.f (k : Nat) (l0 : List S27) (a0 a1 : Int) (l2 : List Int) : Option (List S27) := if l0.length < 1099511627776 then (impl_Occ_105.f k l0 a0 a1 l2).bind fun t => if t.2 = true then some l0 else if 0 ≤ t.1 ∧ t.1 ≤ (l0.length : Int) then some (putIn l0 t.1.toNat ⟨a0, a1, l2⟩) else none else none
set_option maxHeartbeats 4000000 in
set_option maxRecDepth 100000 in
theorem impl_put.calls (k : Nat) (A0 : Option Addr) (c0 : Nat) (l0 : List S27) (a0 a1 : Int) (A2 : Option Addr) (c2 : Nat) (l2 : List Int) (r : List S27) (w : World) (hr0 : Kd.C k27 w A0 l0.length l0) (hc0 : l0.length ≤ c0) (hr2 : Kd.C (Kd.int .i64) w A2 l2.length l2) (hc2 : l2.length ≤ c2) (h : impl_put.f k l0 a0 a1 l2 = some r) :
    Calls Try.prog 85 #[.slice A0 l0.length c0, .agg #[.int .i64 a0, .int .i64 a1, .slice A2 l2.length c2]] w fun e w' => ∃ (A : Option Addr) (c : Nat), e = .returned (.slice A r.length c) ∧ r.length ≤ c ∧ Kd.C k27 w' A r.length r ∧ Below w.heap.size w w' := by
  unfold impl_put.f at h
  by_cases hlen : l0.length < 1099511627776
  case neg => rw [if_neg hlen] at h; cases h
  rw [if_pos hlen] at h
  obtain ⟨⟨t1, t2⟩, ht, h⟩ := Option.bind_eq_some_iff.1 h
  have HLEN := Aside0.mk hlen
  have HT := Aside0.mk ht
  have HH := Aside0.mk h
  have HR0 := Aside0.mk hr0
  have HC0 := Aside0.mk hc0
  have HR2 := Aside0.mk hr2
  have HC2 := Aside0.mk hc2
  have HB := Aside0.mk (Below.refl w.heap.size w)
  clear ht h hr0 hc0 hr2 hc2 hlen
  go_enter Try.func85, Try.ntmps85
  go_upto_region 1 with (first | ((with_reducible refine gate_dst (N := 3) rfl ?_); refine box_event ?hg (N := 3) ?hd (cs := #[.int .i64 a0, .int .i64 a1, .slice A2 l2.length c2]) (t := 27) ?hr ?_; (case hd => rfl); (case hg => rfl); (case hr => first | (go_simp; done) | (go_simp; rfl)); intro gb1 hg wb1 hbox hb; have n0_ := Aside0.mk (below_step HB.out hb); have n1_ := Aside0.mk (hbox); have n2_ := Aside0.mk ((by rw [hg]; exact below_size HB.out : w.heap.size ≤ gb1)); clear HB; have HB := n0_; have BK1 := n1_; have GE1 := n2_; clear n0_ n1_ n2_; clear hb hbox hg))
  have hz0 := (blk_cell BK1.out 0).trans (show _ = some (Value.int .i64 a0) from rfl)
  have hz1 := (blk_cell BK1.out 1).trans (show _ = some (Value.int .i64 a1) from rfl)
  have hz2 := (blk_cell BK1.out 2).trans (show _ = some (Value.slice A2 l2.length c2) from rfl)
  go_wp2_with (go_at_call 105; fail)
  clear hz0 hz1 hz2
  refine (impl_Occ_105.calls k A0 c0 l0 a0 a1 A2 c2 l2 t1 t2 _ (Kd.C_below HR0.out HB.out) HC0.out (Kd.C_below HR2.out HB.out) HC2.out HT.out).mono ?_
  rintro e w' ⟨rfl, hb⟩
  have n0_ := Aside0.mk (blk_below BK1.out hb)
  have n1_ := Aside0.mk (below_step HB.out hb)
  clear BK1
  clear HB
  have BK1 := n0_
  have HB := n1_
  clear n0_ n1_
  clear hb
  cases t2 with
  | true =>
    go_wp2
    go_ret
    obtain rfl := Option.some.inj (show some l0 = some r from by have := HH.out; rw [if_pos trivial] at this; exact this)
    exact ⟨_, _, rfl, HC0.out, Kd.C_below HR0.out HB.out, HB.out⟩
  | false =>
    have hh := HH.out
    rw [if_neg (by simp)] at hh
    by_cases hin : 0 ≤ t1 ∧ t1 ≤ (l0.length : Int)
    case neg => rw [if_neg hin] at hh; cases hh
    rw [if_pos hin] at hh
    obtain rfl := Option.some.inj hh
    clear hh HH
    obtain ⟨i, rfl⟩ := Int.eq_ofNat_of_zero_le hin.1
    have HIL := Aside0.mk (show i ≤ l0.length by have := hin.2; omega)
    clear hin
    obtain ⟨xs, hx1, hx2, hx3, hx4, hx5⟩ := raw_of_C HR0.out
    have HX1 := Aside0.mk (show xs.length = l0.length * 3 from hx1)
    have HX2 := Aside0.mk hx2
    have HX3 := Aside0.mk hx3
    have HX4 := Aside0.mk hx4
    have HX5 := Aside0.mk (show ∀ w1, Below w.heap.size w w1 → Reps (k27.K w1) 3 l0 xs from hx5)
    have H1V := Aside0.mk (show ∀ u ∈ [Value.int .i64 a0, Value.int .i64 a1, Value.slice A2 l2.length c2], u.oneCell' = true from by intro q hq; simp only [List.mem_cons, List.not_mem_nil, or_false] at hq; rcases hq with rfl | rfl | rfl <;> rfl)
    clear hx1 hx2 hx3 hx4 hx5
    go_wp2
    have hb := below_drew (Below.refl w'.heap.size w')
    have n0_ := Aside0.mk (blk_below BK1.out hb)
    have n1_ := Aside0.mk (below_step HB.out hb)
    clear BK1
    clear HB
    have BK1 := n0_
    have HB := n1_
    clear n0_ n1_
    clear hb
    refine start_ (n := 7) (S := fun w' => w'.cell? ⟨gb1, 0, none⟩ = some (.int .i64 a0) ∧ w'.cell? ⟨gb1, 1, none⟩ = some (.int .i64 a1) ∧ w'.cell? ⟨gb1, 2, none⟩ = some (.slice A2 l2.length c2)) (ds := [5]) #[false, false, false, false, false, false, false] (by kernel_rfl) rfl rfl ⟨(blk_cell BK1.out 0).trans rfl, (blk_cell BK1.out 1).trans rfl, (blk_cell BK1.out 2).trans rfl⟩ (fun hHeld => ?_)
    refine pv_ 0 15 #[true, false, false, false, false, false, false] (by kernel_rfl) ?_
    refine pv_ 2 17 #[true, false, true, false, false, false, false] (by kernel_rfl) ?_
    refine take_ (i := 3) (N := some 18) (v := ?_) (a' := ?_) #[true, false, true, true, false, false, false] rfl rfl (by kernel_rfl) (fun _ _ _ h => h) (Or.inl ⟨by rfl, ?_⟩) hHeld ?_ ?_
    rotate_left
    · rintro w' ⟨s0, s1, s2⟩
      go_simp
      with_reducible rfl
    rotate_left
    · simp only [Act.put, List.setIfInBounds_toArray, List.set_cons_zero, List.set_cons_succ, i64_w, i32_w]
      rfl
    refine join_ (σ := Value × Nat) 2 #[true, true, true, true, true, false, false] (fun s => [(16, s.1), (19, .slice (some ⟨s.2, 0, none⟩) 1 1)]) (fun s w' => (w'.cell? ⟨gb1, 0, none⟩ = some (.int .i64 a0) ∧ w'.cell? ⟨gb1, 1, none⟩ = some (.int .i64 a1) ∧ w'.cell? ⟨gb1, 2, none⟩ = some (.slice A2 l2.length c2)) ∧ Aside0 (w'.ownsRow w.heap.size 27 3 s.1 l0.length xs) ∧ Aside0 (w'.heap[s.2]? = some (.cells #[.int .i64 a0, .int .i64 a1, .slice A2 l2.length c2] 27 (0, 0))) ∧ Aside0 (some s.2 ≠ s.1.ownBlock) ∧ Aside0 (Below w.heap.size w w')) ?_ ?_
    rotate_left
    · intro hCont
      refine two_ (i := 1) (j := 4) (Ni := some 16) (Nj := some 19) #[true, true, true, true, false, false, false] #[true, false, true, true, true, false, false] rfl rfl rfl rfl (by kernel_rfl) (by decide) (by decide) (fun K hK => ?_) (fun K hK => ?_)
      · skip
        refine goes_ Try.func107 (by kernel_rfl) rfl #[.slice A0 l0.length c0] (by rfl) rfl rfl (by simp only [List.map_toArray, List.map_cons, List.map_nil]; rfl) ?_
        with_reducible refine (Clone_walk A0 l0.length c0 xs _ HX1.out HLEN.out (fun ad e j u h => (HB.out.cell (World.block_lt_of_cell? _ _ (HX2.out ad e j u h))).trans (HX2.out ad e j u h)) HX3.out HX4.out).mono ?_
        rintro e w3 ⟨v16, rfl, ho, hb⟩
        refine ⟨_, rfl, ?_⟩
        have HOW := Aside0.mk (own_weaken ho HB.out.size)
        clear ho
        have n0_ := Aside0.mk (blk_below BK1.out hb)
        have n1_ := Aside0.mk (below_step HB.out hb)
        clear BK1
        clear HB
        have BK1 := n0_
        have HB := n1_
        clear n0_ n1_
        clear hb
        refine hK.out _ _ ⟨(blk_cell BK1.out 0).trans rfl, (blk_cell BK1.out 1).trans rfl, (blk_cell BK1.out 2).trans rfl⟩ (fun hHeld => ?_)
        clear hK K
        refine norm_ (a' := ?_) ?_ ?_
        rotate_left
        · show Act.put _ (some 16) _ = _
          simp only [Act.put, List.setIfInBounds_toArray, List.set_cons_zero, List.set_cons_succ, i64_w, i32_w]
          rfl
        refine one_ (i := 4) (N := some 19) #[true, true, true, true, true, false, false] rfl rfl (by kernel_rfl) (by decide) (fun K hK => ?_)
        refine value_ (w1 := ?_) (v := ?_) (by rfl) rfl ?_ ?_
        rotate_left 2
        · go_simp
          constructor
          · rfl
          · rfl
        have HNE := Aside0.mk (show some w3.heap.size ≠ v16.ownBlock from fun e => Nat.lt_irrefl _ (own_lt HOW.out _ e.symm))
        have n9_ := Aside0.mk (own_move HOW.out (fun k hk => (below_alloc (Below.refl _ _) (.cells #[.int .i64 a0, .int .i64 a1, .slice A2 l2.length c2] 27)).block k (own_lt HOW.out k hk)))
        clear HOW
        have HOW := n9_
        clear n9_
        have HLT := Aside0.mk (show (w3.alloc (.cells #[.int .i64 a0, .int .i64 a1, .slice A2 l2.length c2] 27)).heap[w3.heap.size]? = _ from new_of BK1.out (.cells #[.int .i64 a0, .int .i64 a1, .slice A2 l2.length c2] 27))
        have n0_ := Aside0.mk (show (w3.alloc (.cells #[.int .i64 a0, .int .i64 a1, .slice A2 l2.length c2] 27)).heap[gb1]? = _ from blk_alloc BK1.out (.cells #[.int .i64 a0, .int .i64 a1, .slice A2 l2.length c2] 27))
        have n1_ := Aside0.mk (show Below w.heap.size w (w3.alloc (.cells #[.int .i64 a0, .int .i64 a1, .slice A2 l2.length c2] 27)) from below_alloc HB.out (.cells #[.int .i64 a0, .int .i64 a1, .slice A2 l2.length c2] 27))
        clear BK1 HB
        have BK1 := n0_
        have HB := n1_
        clear n0_ n1_
        refine hK.out _ _ ⟨(blk_cell BK1.out 0).trans rfl, (blk_cell BK1.out 1).trans rfl, (blk_cell BK1.out 2).trans rfl⟩ (fun hHeld => ?_)
        clear hK K
        refine norm_ (a' := ?_) ?_ ?_
        rotate_left
        · show Act.put _ (some 19) _ = _
          simp only [Act.put, List.setIfInBounds_toArray, List.set_cons_zero, List.set_cons_succ, i64_w, i32_w]
          rfl
        exact norm_ (by simp only [putAll, Act.put, List.setIfInBounds_toArray, List.set_cons_zero, List.set_cons_succ]) (hCont (v16, w3.heap.size) _ ⟨⟨(blk_cell BK1.out 0).trans rfl, (blk_cell BK1.out 1).trans rfl, (blk_cell BK1.out 2).trans rfl⟩, HOW, HLT, HNE, HB⟩)
      · skip
        refine value_ (w1 := ?_) (v := ?_) (by rfl) rfl ?_ ?_
        rotate_left 2
        · go_simp
          constructor
          · rfl
          · rfl
        have HLT := Aside0.mk (show ((w'.alloc (.cells #[.int .i64 a0, .int .i64 a1, .slice A2 l2.length c2] 27)).drew).heap[w'.heap.size]? = _ from new_of BK1.out (.cells #[.int .i64 a0, .int .i64 a1, .slice A2 l2.length c2] 27))
        have n0_ := Aside0.mk (show ((w'.alloc (.cells #[.int .i64 a0, .int .i64 a1, .slice A2 l2.length c2] 27)).drew).heap[gb1]? = _ from blk_alloc BK1.out (.cells #[.int .i64 a0, .int .i64 a1, .slice A2 l2.length c2] 27))
        have n1_ := Aside0.mk (show Below w.heap.size w ((w'.alloc (.cells #[.int .i64 a0, .int .i64 a1, .slice A2 l2.length c2] 27)).drew) from below_alloc HB.out (.cells #[.int .i64 a0, .int .i64 a1, .slice A2 l2.length c2] 27))
        clear BK1 HB
        have BK1 := n0_
        have HB := n1_
        clear n0_ n1_
        refine hK.out _ _ ⟨(blk_cell BK1.out 0).trans rfl, (blk_cell BK1.out 1).trans rfl, (blk_cell BK1.out 2).trans rfl⟩ (fun hHeld => ?_)
        clear hK K
        refine norm_ (a' := ?_) ?_ ?_
        rotate_left
        · show Act.put _ (some 19) _ = _
          simp only [Act.put, List.setIfInBounds_toArray, List.set_cons_zero, List.set_cons_succ, i64_w, i32_w]
          rfl
        refine one_ (i := 1) (N := some 16) #[true, true, true, true, true, false, false] rfl rfl (by kernel_rfl) (by decide) (fun K hK => ?_)
        refine goes_ Try.func107 (by kernel_rfl) rfl #[.slice A0 l0.length c0] (by rfl) rfl rfl (by simp only [List.map_toArray, List.map_cons, List.map_nil]; rfl) ?_
        with_reducible refine (Clone_walk A0 l0.length c0 xs _ HX1.out HLEN.out (fun ad e j u h => (HB.out.cell (World.block_lt_of_cell? _ _ (HX2.out ad e j u h))).trans (HX2.out ad e j u h)) HX3.out HX4.out).mono ?_
        rintro e w3 ⟨v16, rfl, ho, hb⟩
        refine ⟨_, rfl, ?_⟩
        have HNE := Aside0.mk (show some w'.heap.size ≠ v16.ownBlock from fun e => by have h1 := own_base ho _ e.symm; have h2 := blk_lt HLT.out; omega)
        have n9_ := Aside0.mk (blk_below HLT.out hb)
        clear HLT
        have HLT := n9_
        clear n9_
        have HOW := Aside0.mk (own_weaken ho HB.out.size)
        clear ho
        have n0_ := Aside0.mk (blk_below BK1.out hb)
        have n1_ := Aside0.mk (below_step HB.out hb)
        clear BK1
        clear HB
        have BK1 := n0_
        have HB := n1_
        clear n0_ n1_
        clear hb
        refine hK.out _ _ ⟨(blk_cell BK1.out 0).trans rfl, (blk_cell BK1.out 1).trans rfl, (blk_cell BK1.out 2).trans rfl⟩ (fun hHeld => ?_)
        clear hK K
        refine norm_ (a' := ?_) ?_ ?_
        rotate_left
        · show Act.put _ (some 16) _ = _
          simp only [Act.put, List.setIfInBounds_toArray, List.set_cons_zero, List.set_cons_succ, i64_w, i32_w]
          rfl
        exact norm_ (by simp only [putAll, Act.put, List.setIfInBounds_toArray, List.set_cons_zero, List.set_cons_succ]) (hCont (v16, w'.heap.size) _ ⟨⟨(blk_cell BK1.out 0).trans rfl, (blk_cell BK1.out 1).trans rfl, (blk_cell BK1.out 2).trans rfl⟩, HOW, HLT, HNE, HB⟩)
    rintro ⟨v16, gl⟩ w4 ⟨hHeld, HOW, HLT, HNE, HB⟩
    clear BK1
    refine norm_ (a' := ?_) ?_ ?_
    rotate_left
    · simp only [putAll, Act.put, List.setIfInBounds_toArray, List.set_cons_zero, List.set_cons_succ]
      rfl
    refine last_ (i := 5) (N := some 20) #[true, true, true, true, true, true, false] rfl rfl (by kernel_rfl) (by decide) (fun K hK => ?_)
    refine goes_ Try.func106 (by kernel_rfl) rfl #[v16, .int .i64 (i : Int), .slice (some ⟨gl, 0, none⟩) 1 1] (by rfl) rfl rfl (by simp only [List.map_toArray, List.map_cons, List.map_nil]; rfl) ?_
    with_reducible refine (Insert_walk v16 l0.length i gl xs [.int .i64 a0, .int .i64 a1, .slice A2 l2.length c2] w.heap.size w _ HB.out HB.out.size HOW.out HIL.out HLEN.out HLT.out rfl HNE.out H1V.out HX4.out).mono ?_
    rintro e w5 ⟨v20, rfl, ho, hb⟩
    refine ⟨_, rfl, ?_⟩
    have HOZ := Aside0.mk ho
    have HBZ := Aside0.mk hb
    clear ho hb
    refine hK.out _ _ ?_
    clear hK K
    refine norm_ (a' := ?_) ?_ ?_
    rotate_left
    · show Act.put _ (some 20) _ = _
      simp only [Act.put, List.setIfInBounds_toArray, List.set_cons_zero, List.set_cons_succ, i64_w, i32_w]
      rfl
    refine pv_ 6 4 #[true, true, true, true, true, true, true] (by kernel_rfl) ?_
    refine done_ (by kernel_rfl) ?_

    go_wp2
    go_ret
    have hz := OwnRow.reads (R := k27.K w5) (e := 27) (size := 3) (w := w5) (base := w.heap.size) (v := v20) (ps := putIn l0 i ⟨a0, a1, l2⟩) ⟨_, (by rw [putIn_length]; exact HOZ.out), reps_in (HX5.out _ (HBZ.out)) (k27_mk w5 ⟨a0, a1, l2⟩ HC2.out (Kd.C_below HR2.out HBZ.out)) rfl HIL.out⟩
    obtain ⟨A, c, e, hl, hr⟩ := hz
    exact ⟨A, c, by rw [e]; rfl, hl, hr, HBZ.out⟩
theorem below_wr_ {B g : Nat} {w0 wr w1 w2 : World} (hb : Below wr.heap.size wr w1) (hg : wr.heap.size ≤ g) (hk : KeepBut w1 w2 g none) (hB : Below B w0 w2) (hB0 : Below B w0 wr) : Below wr.heap.size wr w2 :=
  ⟨hB.os.trans hB0.os.symm, hB.tape.trans hB0.tape.symm, hB.output.trans hB0.output.symm, Nat.le_trans hb.size hk.1, fun k hlt => (hk.2 k (Nat.lt_of_lt_of_le hlt hb.size) (by omega) (by simp)).trans (hb.block k hlt)⟩
def impl_putAll.l0 : Nat → List S27 → List S27 → Int → Option (List S27)
  | 0, _, _, _ => none
  | k + 1, a, b, i => if i < (b.length : Int) then (if 0 ≤ i then (impl_put.f k a (rd_T27 b i).f0 (rd_T27 b i).f1 (rd_T27 b i).f2).bind fun a2 => impl_putAll.l0 k a2 b (wrap64 (i + 1)) else none) else some a
def impl_putAll.f (k : Nat) (l0 l1 : List S27) : Option (List S27) := impl_putAll.l0 k l0 l1 0
set_option maxHeartbeats 4000000 in
set_option maxRecDepth 100000 in
theorem impl_putAll.calls (k : Nat) (A0 : Option Addr) (c0 : Nat) (l0 : List S27) (A1 : Option Addr) (c1 : Nat) (l1 : List S27) (r : List S27) (w : World) (hr0 : Kd.C k27 w A0 l0.length l0) (hc0 : l0.length ≤ c0) (hr1 : Kd.C k27 w A1 l1.length l1) (hc1 : l1.length ≤ c1) (h : impl_putAll.f k l0 l1 = some r) :
    Calls Try.prog 89 #[.slice A0 l0.length c0, .slice A1 l1.length c1] w fun e w' => ∃ (A : Option Addr) (c : Nat), e = .returned (.slice A r.length c) ∧ r.length ≤ c ∧ Kd.C k27 w' A r.length r ∧ Below w.heap.size w w' := by
  have HH := Aside0.mk (show impl_putAll.l0 k l0 l1 0 = some r from h)
  have HR0 := Aside0.mk hr0
  have HC0 := Aside0.mk hc0
  have HR := Aside0.mk hr1
  have HC := Aside0.mk hc1
  have HB := Aside0.mk (Below.refl w.heap.size w)
  clear h hr0 hc0 hr1 hc1
  go_enter Try.func89, Try.ntmps89
  go_wp2
  go_loopg [0, 9] k (fun kq v0 v9 w' => ∃ (a : List S27) (i : Int) (A : Option Addr) (c : Nat), v9 = .int .i64 i ∧ v0 = .slice A a.length c ∧ Aside0 (impl_putAll.l0 kq a l1 i = some r) ∧ Aside0 (kq ≤ k) ∧ Aside0 (Kd.C k27 w' A a.length a) ∧ Aside0 (a.length ≤ c) ∧ Aside0 (Below w.heap.size w w'))
  case atStart => exact ⟨l0, 0, A0, c0, rfl, rfl, HH, ⟨Nat.le_refl _⟩, HR0, HC0, HB⟩
  case round =>
    clear HB HH HR0 HC0
    obtain ⟨a, i, A, c, rfl, rfl, HA, HK1, HS, HL, HB⟩ := hrel
    have HBO := HB
    cases gk with
    | zero => exact absurd HA.out (by simp [impl_putAll.l0])
    | succ k1 =>
      have H := HA.out
      clear HA
      simp only [impl_putAll.l0] at H
      by_cases cc : i < (l1.length : Int)
      · rw [if_pos cc] at H
        by_cases c0 : 0 ≤ i
        · rw [if_pos c0] at H
          obtain ⟨a2, hP, H2⟩ := Option.bind_eq_some_iff.1 H
          clear H
          obtain ⟨ad, A2, c2, e, h0, h1, h2, hl2, hg2⟩ := at_T27 HR.out i c0 cc
          subst e
          generalize rd_T27 l1 i = x at *
          have HP := Aside0.mk hP
          have HH := Aside0.mk H2
          have HL2 := Aside0.mk hl2
          have HG2 := Aside0.mk hg2
          clear hP H2 hl2 hg2
          replace h0 := (HB.out.cell (World.block_lt_of_cell? w _ h0)).trans h0
          replace h1 := (HB.out.cell (World.block_lt_of_cell? w _ h1)).trans h1
          replace h2 := (HB.out.cell (World.block_lt_of_cell? w _ h2)).trans h2
          have p1 : (0 ≤ i) = True := eq_true c0
          have q1 : (i < (l1.length : Int)) = True := eq_true cc
          go_upto_region 4 with (first | ((with_reducible refine gate_dst (N := 6) rfl ?_); refine box_event ?hg (N := 6) ?hd (cs := #[.int .i64 0, .int .i64 0, .slice none 0 0]) (t := 27) ?hr ?_; (case hd => rfl); (case hg => rfl); (case hr => first | (go_simp; done) | (go_simp; rfl)); intro gb6 hg wb6 hbox hb; have GE6 := Aside0.mk (by rw [hg]; exact HB.out.size : w.heap.size ≤ gb6); have GR6 := Aside0.mk (by rw [hg]; exact Nat.le_refl _ : wr.heap.size ≤ gb6); have n0_ := Aside0.mk (hbox); have n1_ := Aside0.mk (below_step HB.out hb); have n2_ := Aside0.mk (hb); clear HB; have BK6 := n0_; have HB := n1_; have HBR := n2_; clear n0_ n1_ n2_; clear hbox hb hg) | ((with_reducible refine gate_store (t := 27) (p := 6) (v := .tmp 12) rfl ?_); refine store_blk (w0 := w) (base := w.heap.size) (e := 27) (g := gb6) (off := 0) (cur := #[.int .i64 0, .int .i64 0, .slice none 0 0]) (cur' := #[.int .i64 x.f0, .int .i64 x.f1, .slice A2 x.f2.length c2]) (u := .agg #[.int .i64 x.f0, .int .i64 x.f1, .slice A2 x.f2.length c2]) (seg := [.int .i64 x.f0, .int .i64 x.f1, .slice A2 x.f2.length c2]) rfl rfl rfl rfl rfl BK6.out rfl ?ht ?h1 (by simp) rfl HB.out GE6.out ?_; (case ht => kernel_rfl); (case h1 => intro q hq; simp only [List.mem_cons, List.not_mem_nil, or_false] at hq; first | (rcases hq with rfl | rfl | rfl <;> rfl) | (rcases hq with rfl | rfl <;> rfl) | (subst hq; rfl)); intro ws_ hs_ hk_ hB_; have n0_ := Aside0.mk (hs_); have n1_ := Aside0.mk (hB_); have n2_ := Aside0.mk (Kd.C_below HS.out (below_wr_ HBR.out GR6.out hk_ hB_ HBO.out)); clear BK6; clear HB; clear HS; have BK6 := n0_; have HB := n1_; have HS := n2_; clear n0_ n1_ n2_; clear hs_ hk_ hB_))
          clear h0 h1 h2
          have hz0 := (blk_cell BK6.out 0).trans (show _ = some (Value.int .i64 x.f0) from rfl)
          have hz1 := (blk_cell BK6.out 1).trans (show _ = some (Value.int .i64 x.f1) from rfl)
          have hz2 := (blk_cell BK6.out 2).trans (show _ = some (Value.slice A2 x.f2.length c2) from rfl)
          go_wp2_with (go_at_call 85; fail)
          clear hz0 hz1 hz2
          refine (impl_put.calls k1 A c a x.f0 x.f1 A2 c2 x.f2 a2 _ HS.out HL.out (Kd.C_below HG2.out HB.out) HL2.out HP.out).mono ?_
          rintro e w4 ⟨A4, c4, rfl, hl4, hr4, hb4⟩
          have n0_ := Aside0.mk hr4
          have n1_ := Aside0.mk hl4
          have n2_ := Aside0.mk (below_step HB.out hb4)
          clear HS HL HB hr4 hl4 hb4 HG2
          have HS := n0_
          have HL := n1_
          have HB := n2_
          clear n0_ n1_ n2_
          go_wp2
          go_roundg k1
          case measure => have := HK1.out; omega
          case rel => exact ⟨a2, wrap64 (i + 1), A4, c4, rfl, rfl, HH, ⟨by have := HK1.out; omega⟩, HS, HL, HB⟩
        · rw [if_neg c0] at H
          cases H
      · rw [if_neg cc] at H
        obtain rfl := Option.some.inj H
        have q1 : (i < (l1.length : Int)) = False := eq_false cc
        go_wp2
        go_ret
        exact ⟨A, c, rfl, HL.out, HS.out, HB.out⟩
end Go.Proofs.Ytiplpckgmikmeaa.M
namespace Go.Proofs.Ytiplpckgmikmeaa.M
open Go.RowKit Go.Proofs.YtiplpckgmikmeaaW.PrintWords Go.Proofs.YtiplpckgmikmeaaW.PrintLast Go.Proofs.YtiplpckgmikmeaaW.PrintMore
attribute [local go_sem] max2_int min2_int max_two min_two max_three min_three max_four min_four
set_option linter.unusedVariables false
set_option linter.unusedSimpArgs false

def impl_OrOf.f (k : Nat) (l0 l1 : List (S27)) : Option (List (S27) × Bool) := (impl_OccsOk.f k l0).bind fun t => if t = true then (impl_OccsOk.f k l1).bind fun u => (if u = true then (impl_putAll.f k l0 l1).bind fun m => impl_few.f k m else some ([], false)) else some ([], false)
set_option maxHeartbeats 4000000 in
set_option maxRecDepth 100000 in
theorem impl_OrOf.calls (k : Nat) (A0 : Option Addr) (c0 : Nat) (l0 : List (S27)) (A1 : Option Addr) (c1 : Nat) (l1 : List (S27)) (r1 : List (S27)) (r2 : Bool) (w : World) (hr0 : Kd.C k27 w A0 l0.length l0) (hc0 : l0.length ≤ c0) (hr1 : Kd.C k27 w A1 l1.length l1) (hc1 : l1.length ≤ c1) (h : impl_OrOf.f k l0 l1 = some (r1, r2)) :
  Calls Try.prog 58 #[.slice A0 l0.length c0, .slice A1 l1.length c1] w fun e w' => ∃ v0_ : Value, e = .returned (.tuple #[v0_, .bool r2]) ∧ Kd.S k27 27 w' w.heap.size (fun _ => True) v0_ r1 ∧ Below w.heap.size w w' := by
 unfold impl_OrOf.f at h
 obtain ⟨t, ht, h⟩ := Option.bind_eq_some_iff.1 h
 have HT := Aside0.mk ht
 have HH := Aside0.mk h
 have HR0 := Aside0.mk hr0
 have HC0 := Aside0.mk hc0
 have HR1 := Aside0.mk hr1
 have HC1 := Aside0.mk hc1
 have HB := Aside0.mk (Below.refl w.heap.size w)
 clear ht h hr0 hc0 hr1 hc1
 go_enter Try.func58, Try.ntmps58
 go_wp2_with (go_at_call 29;fail)
 refine (impl_OccsOk.calls k A0 c0 l0 t _ (Kd.C_below HR0.out HB.out) HC0.out HT.out).mono ?_
 rintro e w' ⟨rfl, hb⟩
 have n0_ := Aside0.mk (below_step HB.out hb)
 clear HB hb
 have HB := n0_
 clear n0_
 cases t with
 | false =>
  go_wp2
  go_ret2
  have h1 : (([] : List S27), false) = (r1, r2) := Option.some.inj HH.out
  simp only [Prod.mk.injEq] at h1
  obtain ⟨rfl, rfl⟩ := h1
  exact ⟨_, rfl, Kd.S_nil _ _ _ _ _, HB.out⟩
 | true =>
  obtain ⟨u, hu, h⟩ := Option.bind_eq_some_iff.1 (show ((impl_OccsOk.f k l1).bind fun u => (if u = true then (impl_putAll.f k l0 l1).bind fun m => impl_few.f k m else some ([], false))) = some (r1, r2) from by have := HH.out;rw [if_pos rfl] at this;exact this)
  have HU := Aside0.mk hu
  clear HH
  have HH := Aside0.mk h
  clear hu h
  go_wp2_with (go_at_call 29;fail)
  refine (impl_OccsOk.calls k A1 c1 l1 u _ (Kd.C_below HR1.out HB.out) HC1.out HU.out).mono ?_
  rintro e w' ⟨rfl, hb⟩
  have n0_ := Aside0.mk (below_step HB.out hb)
  clear HB hb
  have HB := n0_
  clear n0_
  cases u with
  | false =>
   go_wp2
   go_ret2
   have h1 : (([] : List S27), false) = (r1, r2) := Option.some.inj HH.out
   simp only [Prod.mk.injEq] at h1
   obtain ⟨rfl, rfl⟩ := h1
   exact ⟨_, rfl, Kd.S_nil _ _ _ _ _, HB.out⟩
  | true =>
   obtain ⟨m, hm, hp⟩ := Option.bind_eq_some_iff.1 (show ((impl_putAll.f k l0 l1).bind fun m => impl_few.f k m) = some (r1, r2) from by have := HH.out;rw [if_pos rfl] at this;exact this)
   have HM := Aside0.mk hm
   have HP := Aside0.mk hp
   clear hm hp
   go_wp2_with (go_at_call 89;fail)
   refine (impl_putAll.calls k A0 c0 l0 A1 c1 l1 m _ (Kd.C_below HR0.out HB.out) HC0.out (Kd.C_below HR1.out HB.out) HC1.out HM.out).mono ?_
   rintro e w4 ⟨A4, c4, rfl, hl4, hr4, hb⟩
   have HL4 := Aside0.mk hl4
   have HR4 := Aside0.mk hr4
   clear hl4 hr4
   have n0_ := Aside0.mk (below_step HB.out hb)
   clear HB hb
   have HB := n0_
   clear n0_
   go_wp2_with (go_at_call 88;fail)
   refine (impl_few.calls k A4 c4 m r1 r2 _ HR4.out HL4.out HP.out).mono ?_
   rintro e w5 ⟨v5, rfl, hs, hb⟩
   have HS := Aside0.mk (Kd.S_lower hs HB.out.size)
   clear hs
   have n0_ := Aside0.mk (below_step HB.out hb)
   clear HB hb
   have HB := n0_
   clear n0_
   go_wp2
   go_ret2
   exact ⟨_, rfl, HS.out, HB.out⟩

end Go.Proofs.Ytiplpckgmikmeaa.M
namespace Go.Proofs.Ytiplpckgmikmeaa.M
open Go.RowKit Go.Proofs.YtiplpckgmikmeaaW.PrintWords Go.Proofs.YtiplpckgmikmeaaW.PrintLast Go.Proofs.YtiplpckgmikmeaaW.PrintMore
attribute [local go_sem] max2_int min2_int max_two min_two max_three min_three max_four min_four
set_option linter.unusedVariables false
set_option linter.unusedSimpArgs false

def IsS100 (w0 W : World) (g : Nat) (f0 : List Int) (f1 : Int) : Prop := ∃ A0 c0, W.heap[g]? = some (.cells #[.slice A0 f0.length c0, .int .i64 f1] 100 (0, 0)) ∧ w0.heap.size ≤ g ∧ Kd.C (Kd.int .u8) w0 A0 f0.length f0
theorem IsS100.grown {w0 W : World} {g : Nat} {f0 : List Int} {f1 : Int} {W1 : World} {row : Option Nat} (h : IsS100 w0 W g f0 f1) (hw : W.grownBy W1 row) (hne : some g ≠ row) : IsS100 w0 W1 g f0 f1 := by
 obtain ⟨A0, c0, hb, hg, hr0⟩ := h
 exact ⟨A0, c0, blk_grown hb hw hne, hg, hr0⟩
theorem IsS100.own_neN {w0 W : World} {g : Nat} {f0 : List Int} {f1 : Int} {α : Type} {d : Kd α} {e : Nat} {base : Nat} {ok : Nat → Prop} {v : Value} {xs : List α} (h : IsS100 w0 W g f0 f1) (ho : Kd.N d e W base ok v xs) (ht : e ≠ 100) : some g ≠ v.ownBlock := by
 obtain ⟨A0, c0, hb, hg, hr0⟩ := h
 exact Kd.N_ne ho hb ht
theorem IsS100.fresh {w0 W : World} {g : Nat} {f0 : List Int} {f1 : Int} (h : IsS100 w0 W g f0 f1) : ∀ k, W.heap.size ≤ k → k ≠ g := by
 obtain ⟨A0, c0, hb, hg, hr0⟩ := h
 exact Kd.freshB hb
theorem IsS100.kept {w0 W : World} {g : Nat} {f0 : List Int} {f1 : Int} {W1 : World} {S : Nat → Prop} (h : IsS100 w0 W g f0 f1) (hk : Kept W W1 S) (hne : ¬ S g) : IsS100 w0 W1 g f0 f1 := by
 obtain ⟨A0, c0, hb, hg, hr0⟩ := h
 exact ⟨A0, c0, blk_kept hb hk hne, hg, hr0⟩
theorem IsS100.below {w0 W : World} {g : Nat} {f0 : List Int} {f1 : Int} {W1 : World} (h : IsS100 w0 W g f0 f1) (hw : Below W.heap.size W W1) : IsS100 w0 W1 g f0 f1 := h.grown (grown_of_below hw none) (by simp)
theorem IsS100.alloc {w0 W : World} {g : Nat} {f0 : List Int} {f1 : Int} (h : IsS100 w0 W g f0 f1) (o : Obj) : IsS100 w0 (W.alloc o) g f0 f1 := h.below (below_alloc (Below.refl _ _) o)
theorem IsS100.drewN {w0 W : World} {g : Nat} {f0 : List Int} {f1 : Int} (h : IsS100 w0 W g f0 f1) (m : Nat) : IsS100 w0 (W.drewN m) g f0 f1 := h
theorem IsS100.drew {w0 W : World} {g : Nat} {f0 : List Int} {f1 : Int} (h : IsS100 w0 W g f0 f1) : IsS100 w0 W.drew g f0 f1 := h
theorem IsS100.at_ {w0 W : World} {g : Nat} {f0 : List Int} {f1 : Int} {w' : World} {m : Nat} (hq : W.drewN m = w') (h : IsS100 w0 W g f0 f1) : IsS100 w0 w' g f0 f1 := by subst hq;exact IsS100.drewN h m
theorem IsS100.apart {w0 W : World} {g : Nat} {f0 : List Int} {f1 : Int} {α : Type} {d : Kd α} {e : Nat} {base : Nat} {ok : Nat → Prop} {v : Value} {xs : List α} (h : IsS100 w0 W g f0 f1) (ho : d.R e W base ok v xs) (ht : ∀ q, q ∈ e :: d.E → q ≠ 100) : d.R e W base (fun k => ok k ∧ k ≠ g) v xs := by
 obtain ⟨A0, c0, hb, hg, hr0⟩ := h
 exact Kd.R_types ho hb ht
theorem IsS100.own_ne {w0 W : World} {g : Nat} {f0 : List Int} {f1 : Int} {α : Type} {d : Kd α} {e : Nat} {base : Nat} {ok : Nat → Prop} {v : Value} {xs : List α} (h : IsS100 w0 W g f0 f1) (ho : d.R e W base ok v xs) (ht : e ≠ 100) : some g ≠ v.ownBlock := by
 obtain ⟨A0, c0, hb, hg, hr0⟩ := h
 exact Kd.R_ne ho hb ht
theorem IsS100.lt {w0 W : World} {g : Nat} {f0 : List Int} {f1 : Int} (h : IsS100 w0 W g f0 f1) : g < W.heap.size := by
 obtain ⟨A0, c0, hb, hg, hr0⟩ := h
 exact blk_lt hb
theorem IsS100.ge {w0 W : World} {g : Nat} {f0 : List Int} {f1 : Int} (h : IsS100 w0 W g f0 f1) : w0.heap.size ≤ g := by
 obtain ⟨A0, c0, hb, hg, hr0⟩ := h
 exact hg
theorem IsS100.far {w0 W : World} {g : Nat} {f0 : List Int} {f1 : Int} {p : Addr} (h : IsS100 w0 W g f0 f1) (hne : g ≠ p.block) (u : Value) : IsS100 w0 (W.setCell p u) g f0 f1 := by
 obtain ⟨A0, c0, hb, hg, hr0⟩ := h
 exact ⟨A0, c0, blk_far hb hne u, hg, hr0⟩
theorem cellS100_0 {W : World} {g : Nat} {A0 : Option Addr} {c0 : Nat} {f0 : List Int} {f1 : Int} (h : W.heap[g]? = some (.cells #[.slice A0 f0.length c0, .int .i64 f1] 100 (0, 0))) : W.cell? ⟨g, 0, none⟩ = some (.slice A0 f0.length c0) := (blk_cell h 0).trans rfl
theorem cellS100_1 {W : World} {g : Nat} {A0 : Option Addr} {c0 : Nat} {f0 : List Int} {f1 : Int} (h : W.heap[g]? = some (.cells #[.slice A0 f0.length c0, .int .i64 f1] 100 (0, 0))) : W.cell? ⟨g, 1, none⟩ = some (.int .i64 f1) := (blk_cell h 1).trans rfl
theorem IsS100.set_1 {w0 W : World} {g : Nat} {f0 : List Int} {f1 : Int} (h : IsS100 w0 W g f0 f1) (x : Int) : IsS100 w0 (W.setCell ⟨g, 1, none⟩ (.int .i64 x)) g f0 x := by
 obtain ⟨A0, c0, hb, hg, hr0⟩ := h
 exact ⟨A0, c0, by simpa using blk_set hb 1 (.int .i64 x), hg, hr0⟩
def spec_l14Open.f (l0 : List Int) : Option (List Int × Int) := if (l0.length : Int) > 2000 then (if 2000 ≤ (l0.length : Int) then (some (l0.take 2000, 0)) else (none)) else (some (l0, 0))
set_option maxHeartbeats 8000000 in
set_option maxRecDepth 100000 in
theorem spec_l14Open.calls (A0 : Option Addr) (c0 : Nat) (l0 : List Int) (r1 : List Int) (r2 : Int) (w0 w : World) (hB : Below w0.heap.size w0 w) (hr0 : Kd.C (Kd.int .u8) w0 A0 l0.length l0) (hc0 : l0.length ≤ c0) (h : spec_l14Open.f l0 = some (r1, r2)) :
  Calls Try.prog 72 #[.slice A0 l0.length c0] w fun e w' => ∃ g_ : Nat, e = .returned (.pointer (some ⟨g_, 0, none⟩)) ∧ IsS100 w0 w' g_ r1 r2 ∧ Below w0.heap.size w0 w' ∧ Below w.heap.size w w' := by
 have hu100 := Try.underlying100
 have HR0 := Aside0.mk hr0
 have HC0 := Aside0.mk hc0
 clear hr0 hc0
 have HBW := Aside0.mk (Below.refl w.heap.size w)
 have HW0 := Aside0.mk hB.size
 have HB := Aside0.mk hB
 clear hB
 have H : (if (l0.length : Int) > 2000 then (if 2000 ≤ (l0.length : Int) then (some (l0.take 2000, 0)) else (none)) else (some (l0, 0))) = some (r1, r2) := h
 clear h
 by_cases c2 : (l0.length : Int) > 2000
 ·rw [if_pos c2] at H
  have c2b0 : decide (2000 < (l0.length : Int)) = true := decide_eq_true c2
  have c2b1 : decide (2000 < l0.length) = true := decide_eq_true (by omega)
  clear c2
  by_cases c3 : 2000 ≤ (l0.length : Int)
  ·rw [if_pos c3] at H
   have c3b0 := eq_true c3
   have c3b1 : decide (2000 ≤ (l0.length : Int)) = true := decide_eq_true c3
   clear c3
   simp only [Option.some.injEq, Prod.mk.injEq] at H
   obtain ⟨rfl, rfl⟩ := H
   obtain ⟨i04, hi04, _, hsz4, _⟩ := info_parts info5
   obtain ⟨hcut4, hA4, hC4⟩ := print_take_of (P := Try.prog) (Value.int .u8) 0 59 5 .i64 Try.underlying59 hi04 hsz4 A0 c0 l0 2000 (by omega) (of_decide_eq_true (by first | (with_reducible assumption) | assumption)) HC0.out
   have HR101 := Aside0.mk (Kd.C_of_reads (h1 := fun _ => rfl) (hA4 _ (Kd.reads_of_C HR0.out)))
   have HC101 := Aside0.mk hC4
   clear hA4 hC4 hi04 hsz4
   go_enter Try.func72, Try.ntmps72
   go_wp2_with (first | ((with_reducible refine gate_dst (N := 10) rfl ?_);refine box_event ?hg (N := 10) ?hd (cs := #[.slice A0 (l0.take 2000).length c0, .int .i64 0]) (t := 100) ?hr ?_;(case hd => rfl);(case hg => rfl);(case hr => first | (go_simp;done) | (go_simp;rfl));intro gb102 hg w5 hbox hb;replace HB := Aside0.mk (below_step (by exact HB.out) hb);have BK102 := Aside0.mk (hbox);have GW102 := Aside0.mk ((by rw [hg];exact (below_size (by repeat (first | (with_reducible first | exact HBW.out | apply below_alloc | apply pw_below_drewN | apply below_drew1) | exact HBW.out))) : w.heap.size ≤ gb102));have GE102 := Aside0.mk ((Nat.le_trans HW0.out (by rw [hg];exact (below_size (by repeat (first | (with_reducible first | exact HBW.out | apply below_alloc | apply pw_below_drewN | apply below_drew1) | exact HBW.out))) : w.heap.size ≤ gb102) : w0.heap.size ≤ gb102));replace HBW := Aside0.mk (below_step HBW.out hb);clear hb hbox hg))
   go_ret
   exact ⟨_, rfl, (show IsS100 w0 _ gb102 (l0.take 2000) 0 from ⟨_, _, by (with_reducible repeat (first | refine blk_drewN ?_ _ | refine blk_drew ?_ | refine blk_alloc ?_ _));exact BK102.out, GE102.out, HR101.out⟩), by repeat (first | (with_reducible first | exact HB.out | apply below_alloc | apply pw_below_drewN | apply below_drew1 | refine below_set ?_ GE102.out) | exact HB.out), by repeat (first | (with_reducible first | exact HBW.out | apply below_alloc | apply pw_below_drewN | apply below_drew1 | refine below_set ?_ GW102.out) | exact HBW.out)⟩
  ·rw [if_neg c3] at H
   exact absurd H (by simp)
 ·rw [if_neg c2] at H
  have c2b0 : decide (2000 < (l0.length : Int)) = false := decide_eq_false c2
  have c2b1 : decide (2000 < l0.length) = false := decide_eq_false (by omega)
  clear c2
  simp only [Option.some.injEq, Prod.mk.injEq] at H
  obtain ⟨rfl, rfl⟩ := H
  go_enter Try.func72, Try.ntmps72
  go_wp2_with (first | ((with_reducible refine gate_dst (N := 10) rfl ?_);refine box_event ?hg (N := 10) ?hd (cs := #[.slice A0 l0.length c0, .int .i64 0]) (t := 100) ?hr ?_;(case hd => rfl);(case hg => rfl);(case hr => first | (go_simp;done) | (go_simp;rfl));intro gb103 hg w6 hbox hb;replace HB := Aside0.mk (below_step (by exact HB.out) hb);have BK103 := Aside0.mk (hbox);have GW103 := Aside0.mk ((by rw [hg];exact (below_size (by repeat (first | (with_reducible first | exact HBW.out | apply below_alloc | apply pw_below_drewN | apply below_drew1) | exact HBW.out))) : w.heap.size ≤ gb103));have GE103 := Aside0.mk ((Nat.le_trans HW0.out (by rw [hg];exact (below_size (by repeat (first | (with_reducible first | exact HBW.out | apply below_alloc | apply pw_below_drewN | apply below_drew1) | exact HBW.out))) : w.heap.size ≤ gb103) : w0.heap.size ≤ gb103));replace HBW := Aside0.mk (below_step HBW.out hb);clear hb hbox hg))
  go_ret
  exact ⟨_, rfl, (show IsS100 w0 _ gb103 l0 0 from ⟨_, _, by (with_reducible repeat (first | refine blk_drewN ?_ _ | refine blk_drew ?_ | refine blk_alloc ?_ _));exact BK103.out, GE103.out, HR0.out⟩), by repeat (first | (with_reducible first | exact HB.out | apply below_alloc | apply pw_below_drewN | apply below_drew1 | refine below_set ?_ GE103.out) | exact HB.out), by repeat (first | (with_reducible first | exact HBW.out | apply below_alloc | apply pw_below_drewN | apply below_drew1 | refine below_set ?_ GW103.out) | exact HBW.out)⟩

end Go.Proofs.Ytiplpckgmikmeaa.M
namespace Go.Proofs.Ytiplpckgmikmeaa.M
open Go.RowKit Go.Proofs.YtiplpckgmikmeaaW.PrintWords Go.Proofs.YtiplpckgmikmeaaW.PrintLast Go.Proofs.YtiplpckgmikmeaaW.PrintMore
attribute [local go_sem] max2_int min2_int max_two min_two max_three min_three max_four min_four
set_option linter.unusedVariables false
set_option linter.unusedSimpArgs false

def spec_l14Rd_pick.j0 : Nat → Int → Bool → List Int → Int → Option (Int × Int)
 | 0, _, _, _, _ => none
 | k + 1, x1, x24, x1000, x1001 => if x24 = true then (some (0, x1001)) else (if (wrap64 (x1001 - 1)) < (x1000.length : Int) then (if 0 ≤ (wrap64 (x1001 - 1)) then (if x1 = 0 then (none) else (some (Int.tmod (wrap64 (rd x1000 (wrap64 (x1001 - 1)))) x1, x1001))) else (none)) else (if (x1000.length : Int) = 0 then (none) else (if 0 ≤ (Int.tmod (wrap64 (x1001 - 1)) (x1000.length : Int)) then (if (Int.tmod (wrap64 (x1001 - 1)) (x1000.length : Int)) < (x1000.length : Int) then (if 0 ≤ (Int.tmod (wrap64 ((wrap64 ((wrap64 (x1001 - 1)) * 7)) + 3)) (x1000.length : Int)) then (if (Int.tmod (wrap64 ((wrap64 ((wrap64 (x1001 - 1)) * 7)) + 3)) (x1000.length : Int)) < (x1000.length : Int) then (if x1 = 0 then (none) else (some (Int.tmod (Go.bits .xor .i64 (wrap64 ((wrap64 ((wrap64 ((wrap64 ((wrap64 (rd x1000 (Int.tmod (wrap64 (x1001 - 1)) (x1000.length : Int)))) * 131)) + (wrap64 ((wrap64 (rd x1000 (Int.tmod (wrap64 ((wrap64 ((wrap64 (x1001 - 1)) * 7)) + 3)) (x1000.length : Int)))) * 1117)))) + (wrap64 ((wrap64 (x1001 - 1)) * 29)))) + (wrap64 ((wrap64 (Int.tdiv (wrap64 (x1001 - 1)) (x1000.length : Int))) * 53)))) (wrap64 (Int.tdiv (wrap64 ((wrap64 ((wrap64 ((wrap64 ((wrap64 (rd x1000 (Int.tmod (wrap64 (x1001 - 1)) (x1000.length : Int)))) * 131)) + (wrap64 ((wrap64 (rd x1000 (Int.tmod (wrap64 ((wrap64 ((wrap64 (x1001 - 1)) * 7)) + 3)) (x1000.length : Int)))) * 1117)))) + (wrap64 ((wrap64 (x1001 - 1)) * 29)))) + (wrap64 ((wrap64 (Int.tdiv (wrap64 (x1001 - 1)) (x1000.length : Int))) * 53)))) 64))) x1, x1001))) else (none)) else (none)) else (none)) else (none))))
def spec_l14Rd_pick.f (k : Nat) (s0_0 : List Int) (s0_1 : Int) (a1 : Int) : Option (Int × Int) := if a1 < 1 then (spec_l14Rd_pick.j0 k a1 true s0_0 (wrap64 (s0_1 + 1))) else (spec_l14Rd_pick.j0 k a1 ((s0_0.length : Int) == 0) s0_0 (wrap64 (s0_1 + 1)))
set_option maxHeartbeats 8000000 in
set_option maxRecDepth 100000 in
theorem spec_l14Rd_pick.calls (k : Nat) (g : Nat) (s0_0 : List Int) (s0_1 : Int) (a1 : Int) (r1 : Int) (r2 : Int) (w0 w : World) (hI : IsS100 w0 w g s0_0 s0_1) (hB : Below w0.heap.size w0 w) (h : spec_l14Rd_pick.f k s0_0 s0_1 a1 = some (r1, r2)) :
  Calls Try.prog 74 #[.pointer (some ⟨g, 0, none⟩), .int .i64 a1] w fun e w' => e = .returned (.int .i64 r1) ∧ IsS100 w0 w' g s0_0 r2 ∧ Below w0.heap.size w0 w' ∧ KeepBut w w' g none := by
 have HI0 := Aside0.mk hI
 have HK := Aside0.mk (KeepBut.refl w g none)
 have HL := Aside0.mk hB.size
 clear hI
 have HW0 := Aside0.mk hB.size
 have HB := Aside0.mk hB
 clear hB
 have H : (if a1 < 1 then (spec_l14Rd_pick.j0 k a1 true s0_0 (wrap64 (s0_1 + 1))) else (spec_l14Rd_pick.j0 k a1 ((s0_0.length : Int) == 0) s0_0 (wrap64 (s0_1 + 1)))) = some (r1, r2) := h
 clear h
 have HC3 := Aside0.mk H
 clear H
 obtain ⟨ASz4_0, cSz4_0, HGz4, hgz4, HSz4_0⟩ := HI0.out
 have hcz4_0 := cellS100_0 HGz4
 have hcz4_1 := cellS100_1 HGz4
 have hfz4_1 := blk_frozen HGz4 1
 clear HGz4 hgz4
 go_enter Try.func74, Try.ntmps74
 go_upto_region 2 with (fail)
 repeat (go_quiet (fail);go_upto_region 2 with (fail))
 go_cut [24] (fun v24 wc => ∃ (kq : Nat) (x24_2 : Bool), v24 = .bool x24_2 ∧ Aside0 (spec_l14Rd_pick.j0 kq a1 x24_2 s0_0 (wrap64 (s0_1 + 1)) = some (r1, r2)) ∧ Aside0 (kq ≤ k) ∧ Aside0 (IsS100 w0 wc g s0_0 (wrap64 (s0_1 + 1))) ∧ Aside0 (KeepBut w wc g none) ∧ Aside0 (Below w0.heap.size w0 wc))
 case first =>
  have H := HC3.out
  clear HC3
  by_cases c5 : a1 < 1
  ·rw [if_pos c5] at H
   have c5b0 : decide (a1 < 1) = true := decide_eq_true c5
   clear c5
   (first | rw [c5b0] | (simp only [i64_w, i32_w];rw [c5b0]) | skip)
   have H' := Aside0.mk H
   clear H
   go_wp2
   repeat (go_quiet (fail);try go_wp2)
   go_meet
   case rel => exact ⟨_, (true), (by first | rfl | (simp;done) | (simp [*];done)), H', ⟨by first | omega | exact Nat.le_refl _⟩, ⟨by repeat (first | (with_reducible first | exact HI0.out | apply IsS100.alloc | apply IsS100.drewN | apply IsS100.drew | apply IsS100.set_1) | exact HI0.out)⟩, ⟨by repeat (first | (with_reducible first | exact HK.out | apply KeepBut.set_ | apply keep_drewN | apply keep_drew | apply keep_alloc) | exact HK.out)⟩, ⟨by repeat (first | (with_reducible first | exact HB.out | apply below_alloc | apply pw_below_drewN | apply below_drew1 | refine below_set ?_ (IsS100.ge HI0.out)) | exact HB.out)⟩⟩
  ·rw [if_neg c5] at H
   have c5b0 : decide (a1 < 1) = false := decide_eq_false c5
   clear c5
   (first | rw [c5b0] | (simp only [i64_w, i32_w];rw [c5b0]) | skip)
   have H' := Aside0.mk H
   clear H
   obtain ⟨ASz6_0, cSz6_0, HGz6, hgz6, HSz6_0⟩ := HI0.out
   have hcz6_0 := cellS100_0 HGz6
   have hcz6_1 := cellS100_1 HGz6
   have hfz6_1 := blk_frozen HGz6 1
   clear HGz6 hgz6
   go_wp2
   repeat (go_quiet (fail);try go_wp2)
   go_meet
   case rel => exact ⟨_, (((s0_0.length : Int) == 0)), (by first | rfl | (simp;done) | (simp [*];done)), H', ⟨by first | omega | exact Nat.le_refl _⟩, ⟨by repeat (first | (with_reducible first | exact HI0.out | apply IsS100.alloc | apply IsS100.drewN | apply IsS100.drew | apply IsS100.set_1) | exact HI0.out)⟩, ⟨by repeat (first | (with_reducible first | exact HK.out | apply KeepBut.set_ | apply keep_drewN | apply keep_drew | apply keep_alloc) | exact HK.out)⟩, ⟨by repeat (first | (with_reducible first | exact HB.out | apply below_alloc | apply pw_below_drewN | apply below_drew1 | refine below_set ?_ (IsS100.ge HI0.out)) | exact HB.out)⟩⟩
 case rest =>
  clear HC3
  try clear p2
  try clear c5
  try clear c5b0
  try clear p6
  try clear hcz4_0
  try clear hcz4_1
  try clear hcz6_0
  try clear hcz6_1
  try clear hfz4_1
  try clear hfz6_1
  obtain ⟨kq, x24_2, rfl, HA, HJ2, HI0, HK, HB⟩ := hcut
  cases kq with
  | zero => exact absurd HA.out (by simp [spec_l14Rd_pick.j0])
  | succ kj2 =>
   have H := HA.out
   clear HA
   simp only [spec_l14Rd_pick.j0] at H
   by_cases c7 : x24_2 = true
   ·subst c7
    have H1 : (some (0, (wrap64 (s0_1 + 1)))) = some (r1, r2) := by rw [if_pos rfl] at H;exact H
    clear H
    have H := H1
    clear H1
    simp only [Option.some.injEq, Prod.mk.injEq] at H
    obtain ⟨rfl, rfl⟩ := H
    go_wp2
    repeat (go_quiet (fail);try go_wp2)
    go_ret
    exact ⟨by first | rfl | (simp [errW_none, errW_some] <;> rfl) | (simp [*, errW_none, errW_some] <;> rfl), by repeat (first | (with_reducible first | exact HI0.out | apply IsS100.alloc | apply IsS100.drewN | apply IsS100.drew | apply IsS100.set_1) | exact HI0.out), by repeat (first | (with_reducible first | exact HB.out | apply below_alloc | apply pw_below_drewN | apply below_drew1 | refine below_set ?_ (IsS100.ge HI0.out)) | exact HB.out), by repeat (first | (with_reducible first | exact HK.out | apply KeepBut.set_ | apply keep_drewN | apply keep_drew | apply keep_alloc) | exact HK.out)⟩
   ·replace c7 := Bool.eq_false_iff.mpr c7
    subst c7
    have H1 : (if (wrap64 ((wrap64 (s0_1 + 1)) - 1)) < (s0_0.length : Int) then (if 0 ≤ (wrap64 ((wrap64 (s0_1 + 1)) - 1)) then (if a1 = 0 then (none) else (some (Int.tmod (wrap64 (rd s0_0 (wrap64 ((wrap64 (s0_1 + 1)) - 1)))) a1, (wrap64 (s0_1 + 1))))) else (none)) else (if (s0_0.length : Int) = 0 then (none) else (if 0 ≤ (Int.tmod (wrap64 ((wrap64 (s0_1 + 1)) - 1)) (s0_0.length : Int)) then (if (Int.tmod (wrap64 ((wrap64 (s0_1 + 1)) - 1)) (s0_0.length : Int)) < (s0_0.length : Int) then (if 0 ≤ (Int.tmod (wrap64 ((wrap64 ((wrap64 ((wrap64 (s0_1 + 1)) - 1)) * 7)) + 3)) (s0_0.length : Int)) then (if (Int.tmod (wrap64 ((wrap64 ((wrap64 ((wrap64 (s0_1 + 1)) - 1)) * 7)) + 3)) (s0_0.length : Int)) < (s0_0.length : Int) then (if a1 = 0 then (none) else (some (Int.tmod (Go.bits .xor .i64 (wrap64 ((wrap64 ((wrap64 ((wrap64 ((wrap64 (rd s0_0 (Int.tmod (wrap64 ((wrap64 (s0_1 + 1)) - 1)) (s0_0.length : Int)))) * 131)) + (wrap64 ((wrap64 (rd s0_0 (Int.tmod (wrap64 ((wrap64 ((wrap64 ((wrap64 (s0_1 + 1)) - 1)) * 7)) + 3)) (s0_0.length : Int)))) * 1117)))) + (wrap64 ((wrap64 ((wrap64 (s0_1 + 1)) - 1)) * 29)))) + (wrap64 ((wrap64 (Int.tdiv (wrap64 ((wrap64 (s0_1 + 1)) - 1)) (s0_0.length : Int))) * 53)))) (wrap64 (Int.tdiv (wrap64 ((wrap64 ((wrap64 ((wrap64 ((wrap64 (rd s0_0 (Int.tmod (wrap64 ((wrap64 (s0_1 + 1)) - 1)) (s0_0.length : Int)))) * 131)) + (wrap64 ((wrap64 (rd s0_0 (Int.tmod (wrap64 ((wrap64 ((wrap64 ((wrap64 (s0_1 + 1)) - 1)) * 7)) + 3)) (s0_0.length : Int)))) * 1117)))) + (wrap64 ((wrap64 ((wrap64 (s0_1 + 1)) - 1)) * 29)))) + (wrap64 ((wrap64 (Int.tdiv (wrap64 ((wrap64 (s0_1 + 1)) - 1)) (s0_0.length : Int))) * 53)))) 64))) a1, (wrap64 (s0_1 + 1))))) else (none)) else (none)) else (none)) else (none)))) = some (r1, r2) := by rw [if_neg (show ¬ (false = true) by decide)] at H;exact H
    clear H
    have H := H1
    clear H1
    by_cases c8 : (wrap64 ((wrap64 (s0_1 + 1)) - 1)) < (s0_0.length : Int)
    ·rw [if_pos c8] at H
     have c8b0 : decide ((wrap64 ((wrap64 (s0_1 + 1)) - 1)) < (s0_0.length : Int)) = true := decide_eq_true c8
     clear c8
     obtain ⟨ji9, hji9⟩ : ∃ j_ : Int, (wrap64 ((wrap64 (s0_1 + 1)) - 1)) = j_ := ⟨_, rfl⟩
     replace H : (if 0 ≤ (ji9) then (if a1 = 0 then (none) else (some (Int.tmod (wrap64 (rd s0_0 (ji9))) a1, (wrap64 (s0_1 + 1))))) else (none)) = some (r1, r2) := by first | (rw [hji9] at H;exact H) | (simp only [hji9] at H ⊢;exact H)
     (try rw [hji9] at c8b0)
     have hji9w : (IntKind.i64.wrap ((wrap64 (s0_1 + 1)) - 1)) = ji9 := (i64_w _).trans hji9
     by_cases c10 : 0 ≤ (ji9)
     ·rw [if_pos c10] at H
      have c10b0 : decide (0 ≤ (ji9)) = true := decide_eq_true c10
      clear c10
      by_cases c11 : a1 = 0
      ·rw [if_pos c11] at H
       exact absurd H (by simp)
      ·rw [if_neg c11] at H
       have c11b0 : (a1 == 0) = false := beq_eq_false_iff_ne.mpr c11
       have c11b1 : (a1 != 0) = true := bne_iff_ne.mpr c11
       simp only [Option.some.injEq, Prod.mk.injEq] at H
       obtain ⟨rfl, rfl⟩ := H
       obtain ⟨ASz12_0, cSz12_0, HGz12, hgz12, HSz12_0⟩ := HI0.out
       have hcz12_0 := cellS100_0 HGz12
       have hcz12_1 := cellS100_1 HGz12
       have hfz12_1 := blk_frozen HGz12 1
       clear HGz12 hgz12
       have p101 : 0 ≤ ((ji9) : Int) := of_decide_eq_true (by first | (with_reducible assumption) | assumption)
       have q101 : (ji9) < (s0_0.length : Int) := of_decide_eq_true (by first | (with_reducible assumption) | assumption)
       obtain ⟨ad101, e101, hx101_0⟩ := Kd.at_int HSz12_0 (ji9) p101 q101
       cases e101
       replace hx101_0 := pw_cell_below HB.out hx101_0
       replace p101 := eq_true p101
       replace q101 := eq_true q101
       go_wp2
       repeat (go_quiet (fail);try go_wp2)
       go_ret
       exact ⟨by first | rfl | (simp [errW_none, errW_some] <;> rfl) | (simp only [← hji9];first | rfl | (simp [errW_none, errW_some] <;> rfl)) | (simp [*, errW_none, errW_some] <;> rfl), by repeat (first | (with_reducible first | exact HI0.out | apply IsS100.alloc | apply IsS100.drewN | apply IsS100.drew | apply IsS100.set_1) | exact HI0.out), by repeat (first | (with_reducible first | exact HB.out | apply below_alloc | apply pw_below_drewN | apply below_drew1 | refine below_set ?_ (IsS100.ge HI0.out)) | exact HB.out), by repeat (first | (with_reducible first | exact HK.out | apply KeepBut.set_ | apply keep_drewN | apply keep_drew | apply keep_alloc) | exact HK.out)⟩
     ·rw [if_neg c10] at H
      exact absurd H (by simp)
    ·rw [if_neg c8] at H
     have c8b0 : decide ((wrap64 ((wrap64 (s0_1 + 1)) - 1)) < (s0_0.length : Int)) = false := decide_eq_false c8
     clear c8
     by_cases c13 : (s0_0.length : Int) = 0
     ·rw [if_pos c13] at H
      exact absurd H (by simp)
     ·rw [if_neg c13] at H
      have c13b0 : ((s0_0.length : Int) == 0) = false := beq_eq_false_iff_ne.mpr c13
      have c13b1 : ((s0_0.length : Int) != 0) = true := bne_iff_ne.mpr c13
      have c13b2 : ¬ (s0_0 = []) := fun h_ => c13 (by rw [h_];rfl)
      obtain ⟨ji14, hji14⟩ : ∃ j_ : Int, (Int.tmod (wrap64 ((wrap64 (s0_1 + 1)) - 1)) (s0_0.length : Int)) = j_ := ⟨_, rfl⟩
      replace H : (if 0 ≤ (ji14) then (if (ji14) < (s0_0.length : Int) then (if 0 ≤ (Int.tmod (wrap64 ((wrap64 ((wrap64 ((wrap64 (s0_1 + 1)) - 1)) * 7)) + 3)) (s0_0.length : Int)) then (if (Int.tmod (wrap64 ((wrap64 ((wrap64 ((wrap64 (s0_1 + 1)) - 1)) * 7)) + 3)) (s0_0.length : Int)) < (s0_0.length : Int) then (if a1 = 0 then (none) else (some (Int.tmod (Go.bits .xor .i64 (wrap64 ((wrap64 ((wrap64 ((wrap64 ((wrap64 (rd s0_0 (ji14))) * 131)) + (wrap64 ((wrap64 (rd s0_0 (Int.tmod (wrap64 ((wrap64 ((wrap64 ((wrap64 (s0_1 + 1)) - 1)) * 7)) + 3)) (s0_0.length : Int)))) * 1117)))) + (wrap64 ((wrap64 ((wrap64 (s0_1 + 1)) - 1)) * 29)))) + (wrap64 ((wrap64 (Int.tdiv (wrap64 ((wrap64 (s0_1 + 1)) - 1)) (s0_0.length : Int))) * 53)))) (wrap64 (Int.tdiv (wrap64 ((wrap64 ((wrap64 ((wrap64 ((wrap64 (rd s0_0 (ji14))) * 131)) + (wrap64 ((wrap64 (rd s0_0 (Int.tmod (wrap64 ((wrap64 ((wrap64 ((wrap64 (s0_1 + 1)) - 1)) * 7)) + 3)) (s0_0.length : Int)))) * 1117)))) + (wrap64 ((wrap64 ((wrap64 (s0_1 + 1)) - 1)) * 29)))) + (wrap64 ((wrap64 (Int.tdiv (wrap64 ((wrap64 (s0_1 + 1)) - 1)) (s0_0.length : Int))) * 53)))) 64))) a1, (wrap64 (s0_1 + 1))))) else (none)) else (none)) else (none)) else (none)) = some (r1, r2) := by first | (rw [hji14] at H;exact H) | (simp only [hji14] at H ⊢;exact H)
      by_cases c15 : 0 ≤ (ji14)
      ·rw [if_pos c15] at H
       have c15b0 : decide (0 ≤ (ji14)) = true := decide_eq_true c15
       clear c15
       by_cases c16 : (ji14) < (s0_0.length : Int)
       ·rw [if_pos c16] at H
        have c16b0 : decide ((ji14) < (s0_0.length : Int)) = true := decide_eq_true c16
        clear c16
        obtain ⟨ji17, hji17⟩ : ∃ j_ : Int, (Int.tmod (wrap64 ((wrap64 ((wrap64 ((wrap64 (s0_1 + 1)) - 1)) * 7)) + 3)) (s0_0.length : Int)) = j_ := ⟨_, rfl⟩
        replace H : (if 0 ≤ (ji17) then (if (ji17) < (s0_0.length : Int) then (if a1 = 0 then (none) else (some (Int.tmod (Go.bits .xor .i64 (wrap64 ((wrap64 ((wrap64 ((wrap64 ((wrap64 (rd s0_0 (ji14))) * 131)) + (wrap64 ((wrap64 (rd s0_0 (ji17))) * 1117)))) + (wrap64 ((wrap64 ((wrap64 (s0_1 + 1)) - 1)) * 29)))) + (wrap64 ((wrap64 (Int.tdiv (wrap64 ((wrap64 (s0_1 + 1)) - 1)) (s0_0.length : Int))) * 53)))) (wrap64 (Int.tdiv (wrap64 ((wrap64 ((wrap64 ((wrap64 ((wrap64 (rd s0_0 (ji14))) * 131)) + (wrap64 ((wrap64 (rd s0_0 (ji17))) * 1117)))) + (wrap64 ((wrap64 ((wrap64 (s0_1 + 1)) - 1)) * 29)))) + (wrap64 ((wrap64 (Int.tdiv (wrap64 ((wrap64 (s0_1 + 1)) - 1)) (s0_0.length : Int))) * 53)))) 64))) a1, (wrap64 (s0_1 + 1))))) else (none)) else (none)) = some (r1, r2) := by first | (rw [hji17] at H;exact H) | (simp only [hji17] at H ⊢;exact H)
        by_cases c18 : 0 ≤ (ji17)
        ·rw [if_pos c18] at H
         have c18b0 : decide (0 ≤ (ji17)) = true := decide_eq_true c18
         clear c18
         by_cases c19 : (ji17) < (s0_0.length : Int)
         ·rw [if_pos c19] at H
          have c19b0 : decide ((ji17) < (s0_0.length : Int)) = true := decide_eq_true c19
          clear c19
          by_cases c20 : a1 = 0
          ·rw [if_pos c20] at H
           exact absurd H (by simp)
          ·rw [if_neg c20] at H
           have c20b0 : (a1 == 0) = false := beq_eq_false_iff_ne.mpr c20
           have c20b1 : (a1 != 0) = true := bne_iff_ne.mpr c20
           simp only [Option.some.injEq, Prod.mk.injEq] at H
           obtain ⟨rfl, rfl⟩ := H
           obtain ⟨ASz21_0, cSz21_0, HGz21, hgz21, HSz21_0⟩ := HI0.out
           have hcz21_0 := cellS100_0 HGz21
           have hcz21_1 := cellS100_1 HGz21
           have hfz21_1 := blk_frozen HGz21 1
           clear HGz21 hgz21
           have p102 : 0 ≤ ((ji14) : Int) := of_decide_eq_true (by first | (with_reducible assumption) | assumption)
           have q102 : (ji14) < (s0_0.length : Int) := of_decide_eq_true (by first | (with_reducible assumption) | assumption)
           obtain ⟨ad102, e102, hx102_0⟩ := Kd.at_int HSz21_0 (ji14) p102 q102
           cases e102
           replace hx102_0 := pw_cell_below HB.out hx102_0
           replace p102 := eq_true p102
           replace q102 := eq_true q102
           have p103 : 0 ≤ ((ji17) : Int) := of_decide_eq_true (by first | (with_reducible assumption) | assumption)
           have q103 : (ji17) < (s0_0.length : Int) := of_decide_eq_true (by first | (with_reducible assumption) | assumption)
           obtain ⟨ad103, e103, hx103_0⟩ := Kd.at_int HSz21_0 (ji17) p103 q103
           obtain rfl : ad102 = ad103 := (by injection e103)
           replace hx103_0 := pw_cell_below HB.out hx103_0
           replace p103 := eq_true p103
           replace q103 := eq_true q103
           go_wp2
           repeat (go_quiet (fail);try go_wp2)
           go_ret
           exact ⟨by first | rfl | (simp [errW_none, errW_some] <;> rfl) | (simp only [← hji14, ← hji17];first | rfl | (simp [errW_none, errW_some] <;> rfl)) | (simp [*, errW_none, errW_some] <;> rfl), by repeat (first | (with_reducible first | exact HI0.out | apply IsS100.alloc | apply IsS100.drewN | apply IsS100.drew | apply IsS100.set_1) | exact HI0.out), by repeat (first | (with_reducible first | exact HB.out | apply below_alloc | apply pw_below_drewN | apply below_drew1 | refine below_set ?_ (IsS100.ge HI0.out)) | exact HB.out), by repeat (first | (with_reducible first | exact HK.out | apply KeepBut.set_ | apply keep_drewN | apply keep_drew | apply keep_alloc) | exact HK.out)⟩
         ·rw [if_neg c19] at H
          exact absurd H (by simp)
        ·rw [if_neg c18] at H
         exact absurd H (by simp)
       ·rw [if_neg c16] at H
        exact absurd H (by simp)
      ·rw [if_neg c15] at H
       exact absurd H (by simp)

end Go.Proofs.Ytiplpckgmikmeaa.M
namespace Go.Proofs.Ytiplpckgmikmeaa.M
open Go.RowKit Go.Proofs.YtiplpckgmikmeaaW.PrintWords Go.Proofs.YtiplpckgmikmeaaW.PrintLast Go.Proofs.YtiplpckgmikmeaaW.PrintMore
attribute [local go_sem] max2_int min2_int max_two min_two max_three min_three max_four min_four
set_option linter.unusedVariables false
set_option linter.unusedSimpArgs false

def spec_l14Rd_num.f (k : Nat) (s0_0 : List Int) (s0_1 : Int) (l1 : List Int) : Option (Int × Int) := (spec_l14Rd_pick.f k s0_0 s0_1 (l1.length : Int)).bind fun bt101 => (if 0 ≤ bt101.1 then (if bt101.1 < (l1.length : Int) then (some (rd l1 bt101.1, bt101.2)) else (none)) else (none))
set_option maxHeartbeats 8000000 in
set_option maxRecDepth 100000 in
theorem spec_l14Rd_num.calls (k : Nat) (g : Nat) (s0_0 : List Int) (s0_1 : Int) (A1 : Option Addr) (c1 : Nat) (l1 : List Int) (r1 : Int) (r2 : Int) (w0 w : World) (hI : IsS100 w0 w g s0_0 s0_1) (hB : Below w0.heap.size w0 w) (hr1 : Kd.C (Kd.int .i64) w A1 l1.length l1) (hc1 : l1.length ≤ c1) (hf1 : ∀ ad, A1 = some ad → 0 < l1.length → ad.block ≠ g) (h : spec_l14Rd_num.f k s0_0 s0_1 l1 = some (r1, r2)) :
  Calls Try.prog 91 #[.pointer (some ⟨g, 0, none⟩), .slice A1 l1.length c1] w fun e w' => e = .returned (.int .i64 r1) ∧ IsS100 w0 w' g s0_0 r2 ∧ Below w0.heap.size w0 w' ∧ KeepBut w w' g none := by
 have HR1 := Aside0.mk hr1
 have HC1 := Aside0.mk hc1
 clear hr1 hc1
 have HI0 := Aside0.mk hI
 have HK := Aside0.mk (KeepBut.refl w g none)
 have HL := Aside0.mk hB.size
 clear hI
 have HW0 := Aside0.mk hB.size
 have HB := Aside0.mk hB
 clear hB
 have H : ((spec_l14Rd_pick.f k s0_0 s0_1 (l1.length : Int)).bind fun bt101 => (if 0 ≤ bt101.1 then (if bt101.1 < (l1.length : Int) then (some (rd l1 bt101.1, bt101.2)) else (none)) else (none))) = some (r1, r2) := h
 clear h
 replace H := Option.bind_eq_some_iff.mp H
 obtain ⟨⟨t101, t102⟩, A30, H⟩ := H
 replace H : (if 0 ≤ t101 then (if t101 < (l1.length : Int) then (some (rd l1 t101, t102)) else (none)) else (none)) = some (r1, r2) := H
 have A3 := Aside0.mk A30
 clear A30
 by_cases c4 : 0 ≤ t101
 ·rw [if_pos c4] at H
  have c4b0 : decide (0 ≤ t101) = true := decide_eq_true c4
  clear c4
  by_cases c5 : t101 < (l1.length : Int)
  ·rw [if_pos c5] at H
   have c5b0 : decide (t101 < (l1.length : Int)) = true := decide_eq_true c5
   clear c5
   simp only [Option.some.injEq, Prod.mk.injEq] at H
   obtain ⟨rfl, rfl⟩ := H
   go_enter Try.func91, Try.ntmps91
   go_wp2_with (first | ((with_reducible refine gate_callee (f := 74) rfl ?_);refine goesL_ (some 9) rfl rfl Try.func74 (by kernel_rfl) rfl #[.pointer (some ⟨g, 0, none⟩), .int .i64 (l1.length : Int)] rfl (by (try simp only [List.map_toArray, List.map_cons, List.map_nil]);first | done | rfl | (simp only [List.length_drop, List.length_take];rfl)) ?_;(with_reducible refine (spec_l14Rd_pick.calls k g s0_0 s0_1 (l1.length : Int) t101 t102 w0 _ ?side1 ?side2 A3.out).mono ?_);(case side1 => repeat (first | (with_reducible first | exact HI0.out | apply IsS100.alloc | apply IsS100.drewN | apply IsS100.drew | apply IsS100.set_1) | exact HI0.out));(case side2 => repeat (first | (with_reducible first | exact HB.out | apply below_alloc | apply pw_below_drewN | apply below_drew1 | refine below_set ?_ (IsS100.ge HI0.out)) | exact HB.out));rintro e w6 ⟨rfl, hi, hb, hk⟩;refine ⟨_, rfl, ?_⟩;replace HK := Aside0.mk (KeepBut.trans (by repeat (first | (with_reducible first | exact HK.out | apply KeepBut.set_ | apply keep_drewN | apply keep_drew | apply keep_alloc) | exact HK.out)) hk (.inl rfl));replace HB := Aside0.mk (hb);replace HI0 := Aside0.mk (hi);(try clear hb);(try clear hb2);(try clear hk);(try clear hi);have p103 : 0 ≤ (t101 : Int) := of_decide_eq_true (by first | (with_reducible assumption) | assumption);have q103 : t101 < (l1.length : Int) := of_decide_eq_true (by first | (with_reducible assumption) | assumption);obtain ⟨ad103, e103, hx103_0⟩ := Kd.at_int HR1.out t101 p103 q103;cases e103;replace hx103_0 := keep_cell HK.out hx103_0 (by first | (rw [add_block];exact hf1 _ rfl (by omega)) | exact hf1 _ rfl (by omega) | exact hf1 ad103 rfl (by omega));replace p103 := eq_true p103;replace q103 := eq_true q103))
   go_ret
   exact ⟨by first | rfl | (simp [errW_none, errW_some] <;> rfl) | (simp [*, errW_none, errW_some] <;> rfl), by repeat (first | (with_reducible first | exact HI0.out | apply IsS100.alloc | apply IsS100.drewN | apply IsS100.drew | apply IsS100.set_1) | exact HI0.out), by repeat (first | (with_reducible first | exact HB.out | apply below_alloc | apply pw_below_drewN | apply below_drew1 | refine below_set ?_ (IsS100.ge HI0.out)) | exact HB.out), by repeat (first | (with_reducible first | exact HK.out | apply KeepBut.set_ | apply keep_drewN | apply keep_drew | apply keep_alloc) | exact HK.out)⟩
  ·rw [if_neg c5] at H
   exact absurd H (by simp)
 ·rw [if_neg c4] at H
  exact absurd H (by simp)

end Go.Proofs.Ytiplpckgmikmeaa.M
namespace Go.Proofs.Ytiplpckgmikmeaa.M
open Go.RowKit Go.Proofs.YtiplpckgmikmeaaW.PrintWords Go.Proofs.YtiplpckgmikmeaaW.PrintLast Go.Proofs.YtiplpckgmikmeaaW.PrintMore
attribute [local go_sem] max2_int min2_int max_two min_two max_three min_three max_four min_four
set_option linter.unusedVariables false
set_option linter.unusedSimpArgs false

def spec_l3Any.l0 : Nat → Int → Int → List Int → Int → Int → Int → List Int → Option (Int × Int × List Int × Int)
 | 0, _, _, _, _, _, _, _ => none
 | k + 1, x5, x6, x1000, x1001, x110000, x110001, x110002 => if x6 > 0 then (if x110002.length < 17592186044416 then ((spec_l14Rd_pick.f k x1000 x1001 3).bind fun bt117 => (spec_l3Any.l0 k (wrap64 ((wrap64 (x5 + 1)) + bt117.1)) (wrap64 (x6 - 1)) x1000 bt117.2 x110000 x110001 (x110002 ++ [x5]))) else (none)) else (some (x110000, x110001, x110002, x1001))
def spec_l3Any.f (k : Nat) (s0_0 : List Int) (s0_1 : Int) : Option (Int × Int × List Int × Int) := (spec_l14Rd_pick.f k s0_0 s0_1 9).bind fun bt102 => ((spec_l14Rd_num.f k s0_0 bt102.2 (([0, 0, 1, 2, 5] : List Int))).bind fun bt107 => ((spec_l14Rd_pick.f k s0_0 bt107.2 3).bind fun bt110 => ((spec_l14Rd_pick.f k s0_0 bt110.2 3).bind fun bt112 => (spec_l3Any.l0 k bt110.1 (wrap64 (1 + bt112.1)) s0_0 bt112.2 (wrap64 (1 + bt102.1)) (wrap64 ((wrap64 (1 + bt102.1)) + bt107.1)) ([] : List Int)))))
set_option maxHeartbeats 8000000 in
set_option maxRecDepth 100000 in
theorem spec_l3Any.calls (k : Nat) (g : Nat) (s0_0 : List Int) (s0_1 : Int) (r1 : Int) (r2 : Int) (r3 : List Int) (r4 : Int) (w0 w : World) (hI : IsS100 w0 w g s0_0 s0_1) (hB : Below w0.heap.size w0 w) (h : spec_l3Any.f k s0_0 s0_1 = some (r1, r2, r3, r4)) :
  Calls Try.prog 73 #[.pointer (some ⟨g, 0, none⟩)] w fun e w' => ∃ v2_ : Value, e = .returned (.agg #[.int .i64 r1, .int .i64 r2, v2_]) ∧ Kd.R (Kd.int .i64) 3 w' w.heap.size (fun _ => True) v2_ r3 ∧ IsS100 w0 w' g s0_0 r4 ∧ Below w0.heap.size w0 w' ∧ KeepBut w w' g none := by
 have hu27 := Try.underlying27
 have HI0 := Aside0.mk hI
 have HK := Aside0.mk (KeepBut.refl w g none)
 have HL := Aside0.mk hB.size
 clear hI
 have HW0 := Aside0.mk hB.size
 have HB := Aside0.mk hB
 clear hB
 have H : ((spec_l14Rd_pick.f k s0_0 s0_1 9).bind fun bt102 => ((spec_l14Rd_num.f k s0_0 bt102.2 (([0, 0, 1, 2, 5] : List Int))).bind fun bt107 => ((spec_l14Rd_pick.f k s0_0 bt107.2 3).bind fun bt110 => ((spec_l14Rd_pick.f k s0_0 bt110.2 3).bind fun bt112 => (spec_l3Any.l0 k bt110.1 (wrap64 (1 + bt112.1)) s0_0 bt112.2 (wrap64 (1 + bt102.1)) (wrap64 ((wrap64 (1 + bt102.1)) + bt107.1)) ([] : List Int)))))) = some (r1, r2, r3, r4) := h
 clear h
 replace H := Option.bind_eq_some_iff.mp H
 obtain ⟨⟨t102, t103⟩, A20, H⟩ := H
 replace H : ((spec_l14Rd_num.f k s0_0 t103 (([0, 0, 1, 2, 5] : List Int))).bind fun bt107 => ((spec_l14Rd_pick.f k s0_0 bt107.2 3).bind fun bt110 => ((spec_l14Rd_pick.f k s0_0 bt110.2 3).bind fun bt112 => (spec_l3Any.l0 k bt110.1 (wrap64 (1 + bt112.1)) s0_0 bt112.2 (wrap64 (1 + t102)) (wrap64 ((wrap64 (1 + t102)) + bt107.1)) ([] : List Int))))) = some (r1, r2, r3, r4) := H
 have A2 := Aside0.mk A20
 clear A20
 obtain ⟨y104, hy104⟩ : ∃ y_ : List Int, y_ = (([0, 0, 1, 2, 5] : List Int)) := ⟨_, rfl⟩
 replace H : ((spec_l14Rd_num.f k s0_0 t103 y104).bind fun bt107 => ((spec_l14Rd_pick.f k s0_0 bt107.2 3).bind fun bt110 => ((spec_l14Rd_pick.f k s0_0 bt110.2 3).bind fun bt112 => (spec_l3Any.l0 k bt110.1 (wrap64 (1 + bt112.1)) s0_0 bt112.2 (wrap64 (1 + t102)) (wrap64 ((wrap64 (1 + t102)) + bt107.1)) ([] : List Int))))) = some (r1, r2, r3, r4) := by first | (rw [hy104];with_reducible exact H) | (have H2_ := (Option.bind_some _ _).symm.trans H;rw [hy104];with_reducible exact H2_) | (have H2_ := (Option.bind_some _ _).symm.trans H;with_reducible exact H2_) | with_reducible exact H | (rw [hy104];exact H) | exact H
 have Ny104 := Aside0.mk hy104
 clear hy104
 replace H := Option.bind_eq_some_iff.mp H
 obtain ⟨⟨t107, t108⟩, A30, H⟩ := H
 replace H : ((spec_l14Rd_pick.f k s0_0 t108 3).bind fun bt110 => ((spec_l14Rd_pick.f k s0_0 bt110.2 3).bind fun bt112 => (spec_l3Any.l0 k bt110.1 (wrap64 (1 + bt112.1)) s0_0 bt112.2 (wrap64 (1 + t102)) (wrap64 ((wrap64 (1 + t102)) + t107)) ([] : List Int)))) = some (r1, r2, r3, r4) := H
 have A3 := Aside0.mk A30
 clear A30
 replace H := Option.bind_eq_some_iff.mp H
 obtain ⟨⟨t110, t111⟩, A40, H⟩ := H
 replace H : ((spec_l14Rd_pick.f k s0_0 t111 3).bind fun bt112 => (spec_l3Any.l0 k t110 (wrap64 (1 + bt112.1)) s0_0 bt112.2 (wrap64 (1 + t102)) (wrap64 ((wrap64 (1 + t102)) + t107)) ([] : List Int))) = some (r1, r2, r3, r4) := H
 have A4 := Aside0.mk A40
 clear A40
 replace H := Option.bind_eq_some_iff.mp H
 obtain ⟨⟨t112, t113⟩, A50, H⟩ := H
 replace H : (spec_l3Any.l0 k t110 (wrap64 (1 + t112)) s0_0 t113 (wrap64 (1 + t102)) (wrap64 ((wrap64 (1 + t102)) + t107)) ([] : List Int)) = some (r1, r2, r3, r4) := H
 have A5 := Aside0.mk A50
 clear A50
 have H' := Aside0.mk H
 clear H
 go_enter Try.func73, Try.ntmps73
 go_wp2_with (first | ((with_reducible refine gate_dst (N := 2) rfl ?_);refine box_event ?hg (N := 2) ?hd (cs := #[.int .i64 0, .int .i64 0, .slice none 0 0]) (t := 27) ?hr ?_;(case hd => rfl);(case hg => rfl);(case hr => first | (go_simp;done) | (go_simp;rfl));intro gb101 hg w6 hbox hb;replace HB := Aside0.mk (below_step (by repeat (first | (with_reducible first | exact HB.out | apply below_alloc | apply pw_below_drewN | apply below_drew1 | refine below_set ?_ (IsS100.ge HI0.out)) | exact HB.out)) hb);have BK101 := Aside0.mk (hbox);have GW101 := Aside0.mk ((by rw [hg];exact (keep_size (w := w) (g := g) (row := none) (by repeat (first | (with_reducible first | exact HK.out | apply KeepBut.set_ | apply keep_drewN | apply keep_drew | apply keep_alloc) | exact HK.out))) : w.heap.size ≤ gb101));have GE101 := Aside0.mk ((Nat.le_trans HW0.out (by rw [hg];exact (keep_size (w := w) (g := g) (row := none) (by repeat (first | (with_reducible first | exact HK.out | apply KeepBut.set_ | apply keep_drewN | apply keep_drew | apply keep_alloc) | exact HK.out))) : w.heap.size ≤ gb101) : w0.heap.size ≤ gb101));replace HK := Aside0.mk (KeepBut.trans (by repeat (first | (with_reducible first | exact HK.out | apply KeepBut.set_ | apply keep_drewN | apply keep_drew | apply keep_alloc) | exact HK.out)) (KeepBut.of_below hb g none) (.inl rfl));have NB0_101 := Aside0.mk ((by rw [hg];exact Nat.ne_of_lt (IsS100.lt (show IsS100 w0 _ g s0_0 s0_1 from by repeat (first | (with_reducible first | exact HI0.out | apply IsS100.alloc | apply IsS100.drewN | apply IsS100.drew | apply IsS100.set_1) | exact HI0.out))) : g ≠ gb101));have NB101_0 := Aside0.mk ((by rw [hg];exact Nat.ne_of_gt (IsS100.lt (show IsS100 w0 _ g s0_0 s0_1 from by repeat (first | (with_reducible first | exact HI0.out | apply IsS100.alloc | apply IsS100.drewN | apply IsS100.drew | apply IsS100.set_1) | exact HI0.out))) : gb101 ≠ g));replace HI0 := Aside0.mk (IsS100.below (by repeat (first | (with_reducible first | exact HI0.out | apply IsS100.alloc | apply IsS100.drewN | apply IsS100.drew | apply IsS100.set_1) | exact HI0.out)) hb);clear hb hbox hg) | ((with_reducible refine gate_callee (f := 74) rfl ?_);refine goesL_ (some 8) rfl rfl Try.func74 (by kernel_rfl) rfl #[.pointer (some ⟨g, 0, none⟩), .int .i64 9] rfl (by (try simp only [List.map_toArray, List.map_cons, List.map_nil]);first | done | rfl | (simp only [List.length_drop, List.length_take];rfl)) ?_;(with_reducible refine (spec_l14Rd_pick.calls k g s0_0 s0_1 9 t102 t103 w0 _ ?side1 ?side2 A2.out).mono ?_);(case side1 => repeat (first | (with_reducible first | exact HI0.out | apply IsS100.alloc | apply IsS100.drewN | apply IsS100.drew | apply IsS100.set_1 | refine IsS100.far ?_ NB0_101.out _) | exact HI0.out));(case side2 => repeat (first | (with_reducible first | exact HB.out | apply below_alloc | apply pw_below_drewN | apply below_drew1 | refine below_set ?_ (IsS100.ge HI0.out) | refine below_set ?_ GE101.out) | exact HB.out));rintro e w7 ⟨rfl, hi, hb, hk⟩;refine ⟨_, rfl, ?_⟩;replace BK101 := Aside0.mk (KeepBut.blk hk (g' := gb101) (o := .cells #[.int .i64 0, .int .i64 0, .slice none 0 0] 27 (0, 0)) (by (with_reducible repeat (first | refine blk_drewN ?_ _ | refine blk_drew ?_ | refine blk_alloc ?_ _));exact BK101.out) NB101_0.out (by simp));replace HK := Aside0.mk (KeepBut.trans (by repeat (first | (with_reducible first | exact HK.out | apply KeepBut.set_ | apply keep_drewN | apply keep_drew | apply keep_alloc | refine keep_far ?_ GW101.out _) | exact HK.out)) hk (.inl rfl));replace HB := Aside0.mk (hb);replace HI0 := Aside0.mk (hi);(try clear hb);(try clear hb2);(try clear hk);(try clear hi)) | ((with_reducible refine gate_dst (N := 13) rfl ?_);refine Kd.R_lit (Kd.int .i64) _ 3 ?hg (N := 13) ?hd (xs := ([0, 0, 1, 2, 5] : List Int)) (inner := [.int .i64 0, .int .i64 0, .int .i64 1, .int .i64 2, .int .i64 5]) (ok := fun _ => True) (okp := fun _ => True) ?hr ?hp (fun _ hk => hk) trivial (Below.refl _ _) (Nat.le_refl _) (by simp) ?_;(case hd => rfl);(case hg => rfl);(case hr => first | (go_simp;done) | (go_simp;rfl));(case hp => exact (Reps.one (show Kd.M (Kd.int .i64) _ _ _ 0 [.int .i64 0] from rfl) (Reps.one (show Kd.M (Kd.int .i64) _ _ _ 0 [.int .i64 0] from rfl) (Reps.one (show Kd.M (Kd.int .i64) _ _ _ 1 [.int .i64 1] from rfl) (Reps.one (show Kd.M (Kd.int .i64) _ _ _ 2 [.int .i64 2] from rfl) (Reps.one (show Kd.M (Kd.int .i64) _ _ _ 5 [.int .i64 5] from rfl) (Reps.none _ _)))))));intro v105 w8 ho9 hb hg_ hnew_;clear hg_ hnew_;(first | rw [← Ny104.out] at ho9 | (simp only [Int.reduceToNat] at ho9;rw [← Ny104.out] at ho9));have HO106 := Aside0.mk (Kd.R_lower ho9 (keep_size (w := w) (g := g) (row := none) (by repeat (first | (with_reducible first | exact HK.out | apply KeepBut.set_ | apply keep_drewN | apply keep_drew | apply keep_alloc | refine keep_far ?_ GW101.out _) | exact HK.out))));replace BK101 := Aside0.mk (blk_below BK101.out hb);replace HK := Aside0.mk (KeepBut.trans (by repeat (first | (with_reducible first | exact HK.out | apply KeepBut.set_ | apply keep_drewN | apply keep_drew | apply keep_alloc | refine keep_far ?_ GW101.out _) | exact HK.out)) (KeepBut.of_below hb g none) (.inl rfl));replace HB := Aside0.mk (below_step (by repeat (first | (with_reducible first | exact HB.out | apply below_alloc | apply pw_below_drewN | apply below_drew1 | refine below_set ?_ (IsS100.ge HI0.out) | refine below_set ?_ GE101.out) | exact HB.out)) hb);replace HI0 := Aside0.mk (IsS100.below (by repeat (first | (with_reducible first | exact HI0.out | apply IsS100.alloc | apply IsS100.drewN | apply IsS100.drew | apply IsS100.set_1 | refine IsS100.far ?_ NB0_101.out _) | exact HI0.out)) hb);clear hb ho9;obtain ⟨Ao10, co10, eo10⟩ := Kd.R_slice HO106.out;subst eo10) | ((with_reducible refine gate_callee (f := 91) rfl ?_);refine goesL_ (some 14) rfl rfl Try.func91 (by kernel_rfl) rfl #[.pointer (some ⟨g, 0, none⟩), .slice Ao10 y104.length co10] rfl (by (try simp only [List.map_toArray, List.map_cons, List.map_nil]);first | done | rfl | (simp only [List.length_drop, List.length_take];rfl)) ?_;(with_reducible refine (spec_l14Rd_num.calls k g s0_0 t103 _ _ y104 t107 t108 w0 _ ?side1 ?side2 ?side3 ?side4 ?side5 A3.out).mono ?_);(case side1 => repeat (first | (with_reducible first | exact HI0.out | apply IsS100.alloc | apply IsS100.drewN | apply IsS100.drew | apply IsS100.set_1 | refine IsS100.far ?_ NB0_101.out _) | exact HI0.out));(case side2 => repeat (first | (with_reducible first | exact HB.out | apply below_alloc | apply pw_below_drewN | apply below_drew1 | refine below_set ?_ (IsS100.ge HI0.out) | refine below_set ?_ GE101.out) | exact HB.out));(case side3 => repeat (first | exact (Kd.R_reads' HO106.out).2.2 | (with_reducible refine Kd.C_alloc ?_ _) | (with_reducible refine Kd.C_drewN ?_ _) | (with_reducible refine Kd.C_drew ?_)));(case side4 => exact (Kd.R_reads' HO106.out).2.1);(case side5 => exact far_slice (IsS100.own_ne HI0.out HO106.out (by decide)));rintro e w11 ⟨rfl, hi, hb, hk⟩;refine ⟨_, rfl, ?_⟩;replace BK101 := Aside0.mk (KeepBut.blk hk (g' := gb101) (o := .cells #[.int .i64 0, .int .i64 0, .slice none 0 0] 27 (0, 0)) (by (with_reducible repeat (first | refine blk_drewN ?_ _ | refine blk_drew ?_ | refine blk_alloc ?_ _));exact BK101.out) NB101_0.out (by simp));replace HO106 := Aside0.mk (Kd.R_mono (Kd.R_keep (IsS100.apart (show IsS100 w0 _ g s0_0 t103 from by repeat (first | (with_reducible first | exact HI0.out | apply IsS100.alloc | apply IsS100.drewN | apply IsS100.drew | apply IsS100.set_1 | refine IsS100.far ?_ NB0_101.out _) | exact HI0.out)) (by exact HO106.out) (by decide)) hk (fun _ h => h.2)) (fun _ h => h.1));replace HK := Aside0.mk (KeepBut.trans (by repeat (first | (with_reducible first | exact HK.out | apply KeepBut.set_ | apply keep_drewN | apply keep_drew | apply keep_alloc | refine keep_far ?_ GW101.out _) | exact HK.out)) hk (.inl rfl));replace HB := Aside0.mk (hb);replace HI0 := Aside0.mk (hi);(try clear hb);(try clear hb2);(try clear hk);(try clear hi)) | ((with_reducible refine gate_dst (N := 4) rfl ?_);refine box_event ?hg (N := 4) ?hd (cs := #[.int .i64 0, .int .i64 0, .slice none 0 0]) (t := 27) ?hr ?_;(case hd => rfl);(case hg => rfl);(case hr => first | (go_simp;done) | (go_simp;rfl));intro gb109 hg w12 hbox hb;replace HO106 := Aside0.mk (Kd.R_below (by exact HO106.out) hb);replace HB := Aside0.mk (below_step (by repeat (first | (with_reducible first | exact HB.out | apply below_alloc | apply pw_below_drewN | apply below_drew1 | refine below_set ?_ (IsS100.ge HI0.out) | refine below_set ?_ GE101.out) | exact HB.out)) hb);have BK109 := Aside0.mk (hbox);have GW109 := Aside0.mk ((by rw [hg];exact (keep_size (w := w) (g := g) (row := none) (by repeat (first | (with_reducible first | exact HK.out | apply KeepBut.set_ | apply keep_drewN | apply keep_drew | apply keep_alloc | refine keep_far ?_ GW101.out _) | exact HK.out))) : w.heap.size ≤ gb109));have GE109 := Aside0.mk ((Nat.le_trans HW0.out (by rw [hg];exact (keep_size (w := w) (g := g) (row := none) (by repeat (first | (with_reducible first | exact HK.out | apply KeepBut.set_ | apply keep_drewN | apply keep_drew | apply keep_alloc | refine keep_far ?_ GW101.out _) | exact HK.out))) : w.heap.size ≤ gb109) : w0.heap.size ≤ gb109));replace HK := Aside0.mk (KeepBut.trans (by repeat (first | (with_reducible first | exact HK.out | apply KeepBut.set_ | apply keep_drewN | apply keep_drew | apply keep_alloc | refine keep_far ?_ GW101.out _) | exact HK.out)) (KeepBut.of_below hb g none) (.inl rfl));have NB101_109 := Aside0.mk ((by rw [hg];exact Nat.ne_of_lt (blk_lt BK101.out) : gb101 ≠ gb109));have NB109_101 := Aside0.mk ((by rw [hg];exact Nat.ne_of_gt (blk_lt BK101.out) : gb109 ≠ gb101));replace BK101 := Aside0.mk (blk_below BK101.out hb);have NB0_109 := Aside0.mk ((by rw [hg];exact Nat.ne_of_lt (IsS100.lt (show IsS100 w0 _ g s0_0 t108 from by repeat (first | (with_reducible first | exact HI0.out | apply IsS100.alloc | apply IsS100.drewN | apply IsS100.drew | apply IsS100.set_1 | refine IsS100.far ?_ NB0_101.out _) | exact HI0.out))) : g ≠ gb109));have NB109_0 := Aside0.mk ((by rw [hg];exact Nat.ne_of_gt (IsS100.lt (show IsS100 w0 _ g s0_0 t108 from by repeat (first | (with_reducible first | exact HI0.out | apply IsS100.alloc | apply IsS100.drewN | apply IsS100.drew | apply IsS100.set_1 | refine IsS100.far ?_ NB0_101.out _) | exact HI0.out))) : gb109 ≠ g));replace HI0 := Aside0.mk (IsS100.below (by repeat (first | (with_reducible first | exact HI0.out | apply IsS100.alloc | apply IsS100.drewN | apply IsS100.drew | apply IsS100.set_1 | refine IsS100.far ?_ NB0_101.out _) | exact HI0.out)) hb);clear hb hbox hg;have hnb13 := NB109_101.out;have hnc13 := NB101_109.out;have hnb14 := NB109_0.out;have hnc14 := NB0_109.out;obtain ⟨hcz15_0, hcz15_1, hcz15_2, hfz15_0, hfz15_1, hfz15_2⟩ := bx3 BK109.out) | ((with_reducible refine gate_callee (f := 74) rfl ?_);refine goesL_ (some 18) rfl rfl Try.func74 (by kernel_rfl) rfl #[.pointer (some ⟨g, 0, none⟩), .int .i64 3] rfl (by (try simp only [List.map_toArray, List.map_cons, List.map_nil]);first | done | rfl | (simp only [List.length_drop, List.length_take];rfl)) ?_;(with_reducible refine (spec_l14Rd_pick.calls k g s0_0 t108 3 t110 t111 w0 _ ?side1 ?side2 A4.out).mono ?_);(case side1 => repeat (first | (with_reducible first | exact HI0.out | apply IsS100.alloc | apply IsS100.drewN | apply IsS100.drew | apply IsS100.set_1 | refine IsS100.far ?_ NB0_101.out _ | refine IsS100.far ?_ NB0_109.out _) | exact HI0.out));(case side2 => repeat (first | (with_reducible first | exact HB.out | apply below_alloc | apply pw_below_drewN | apply below_drew1 | refine below_set ?_ (IsS100.ge HI0.out) | refine below_set ?_ GE101.out | refine below_set ?_ GE109.out) | exact HB.out));rintro e w16 ⟨rfl, hi, hb, hk⟩;refine ⟨_, rfl, ?_⟩;replace BK101 := Aside0.mk (KeepBut.blk hk (g' := gb101) (o := .cells #[.int .i64 0, .int .i64 0, .slice none 0 0] 27 (0, 0)) (by (with_reducible repeat (first | refine blk_drewN ?_ _ | refine blk_drew ?_ | refine blk_alloc ?_ _));refine blk_far ?_ NB101_109.out _;(with_reducible repeat (first | refine blk_drewN ?_ _ | refine blk_drew ?_ | refine blk_alloc ?_ _));refine blk_far ?_ NB101_109.out _;(with_reducible repeat (first | refine blk_drewN ?_ _ | refine blk_drew ?_ | refine blk_alloc ?_ _));refine blk_far ?_ NB101_109.out _;(with_reducible repeat (first | refine blk_drewN ?_ _ | refine blk_drew ?_ | refine blk_alloc ?_ _));exact BK101.out) NB101_0.out (by simp));replace HO106 := Aside0.mk (Kd.R_mono (Kd.R_keep (IsS100.apart (show IsS100 w0 _ g s0_0 t108 from by repeat (first | (with_reducible first | exact HI0.out | apply IsS100.alloc | apply IsS100.drewN | apply IsS100.drew | apply IsS100.set_1 | refine IsS100.far ?_ NB0_101.out _ | refine IsS100.far ?_ NB0_109.out _) | exact HI0.out)) (by (with_reducible repeat (first | apply Kd.R_alloc | apply Kd.R_drewN | apply Kd.R_drew));exact (Kd.R_mono (Kd.R_far (p := ⟨gb109, 2, none⟩) (Kd.R_far (p := ⟨gb109, 1, none⟩) (Kd.R_far (p := ⟨gb109, 0, none⟩) (Kd.R_types HO106.out BK109.out (by decide)) (fun _ hk => hk.2) (.int .i64 (wrap64 (1 + t102)))) (fun _ hk => hk.2) (.int .i64 (wrap64 ((wrap64 (1 + t102)) + t107)))) (fun _ hk => hk.2) (.slice none 0 0)) (fun _ h_ => h_.1))) (by decide)) hk (fun _ h => h.2)) (fun _ h => h.1));replace BK109 := Aside0.mk (KeepBut.blk hk (g' := gb109) (o := .cells #[.int .i64 (wrap64 (1 + t102)), .int .i64 (wrap64 ((wrap64 (1 + t102)) + t107)), .slice none 0 0] 27 (0, 0)) (by (with_reducible repeat (first | refine blk_drewN ?_ _ | refine blk_drew ?_ | refine blk_alloc ?_ _));refine blk_put (cs := #[.int .i64 (wrap64 (1 + t102)), .int .i64 (wrap64 ((wrap64 (1 + t102)) + t107)), .slice none 0 0]) ?_ 2 _ rfl;(with_reducible repeat (first | refine blk_drewN ?_ _ | refine blk_drew ?_ | refine blk_alloc ?_ _));refine blk_put (cs := #[.int .i64 (wrap64 (1 + t102)), .int .i64 0, .slice none 0 0]) ?_ 1 _ rfl;(with_reducible repeat (first | refine blk_drewN ?_ _ | refine blk_drew ?_ | refine blk_alloc ?_ _));refine blk_put (cs := #[.int .i64 0, .int .i64 0, .slice none 0 0]) ?_ 0 _ rfl;(with_reducible repeat (first | refine blk_drewN ?_ _ | refine blk_drew ?_ | refine blk_alloc ?_ _));exact BK109.out) NB109_0.out (by simp));replace HK := Aside0.mk (KeepBut.trans (by repeat (first | (with_reducible first | exact HK.out | apply KeepBut.set_ | apply keep_drewN | apply keep_drew | apply keep_alloc | refine keep_far ?_ GW101.out _ | refine keep_far ?_ GW109.out _) | exact HK.out)) hk (.inl rfl));replace HB := Aside0.mk (hb);replace HI0 := Aside0.mk (hi);(try clear hb);(try clear hb2);(try clear hk);(try clear hi)) | ((with_reducible refine gate_callee (f := 74) rfl ?_);refine goesL_ (some 20) rfl rfl Try.func74 (by kernel_rfl) rfl #[.pointer (some ⟨g, 0, none⟩), .int .i64 3] rfl (by (try simp only [List.map_toArray, List.map_cons, List.map_nil]);first | done | rfl | (simp only [List.length_drop, List.length_take];rfl)) ?_;(with_reducible refine (spec_l14Rd_pick.calls k g s0_0 t111 3 t112 t113 w0 _ ?side1 ?side2 A5.out).mono ?_);(case side1 => repeat (first | (with_reducible first | exact HI0.out | apply IsS100.alloc | apply IsS100.drewN | apply IsS100.drew | apply IsS100.set_1 | refine IsS100.far ?_ NB0_101.out _ | refine IsS100.far ?_ NB0_109.out _) | exact HI0.out));(case side2 => repeat (first | (with_reducible first | exact HB.out | apply below_alloc | apply pw_below_drewN | apply below_drew1 | refine below_set ?_ (IsS100.ge HI0.out) | refine below_set ?_ GE101.out | refine below_set ?_ GE109.out) | exact HB.out));rintro e w17 ⟨rfl, hi, hb, hk⟩;refine ⟨_, rfl, ?_⟩;replace BK101 := Aside0.mk (KeepBut.blk hk (g' := gb101) (o := .cells #[.int .i64 0, .int .i64 0, .slice none 0 0] 27 (0, 0)) (by (with_reducible repeat (first | refine blk_drewN ?_ _ | refine blk_drew ?_ | refine blk_alloc ?_ _));exact BK101.out) NB101_0.out (by simp));replace HO106 := Aside0.mk (Kd.R_mono (Kd.R_keep (IsS100.apart (show IsS100 w0 _ g s0_0 t111 from by repeat (first | (with_reducible first | exact HI0.out | apply IsS100.alloc | apply IsS100.drewN | apply IsS100.drew | apply IsS100.set_1 | refine IsS100.far ?_ NB0_101.out _ | refine IsS100.far ?_ NB0_109.out _) | exact HI0.out)) (by exact HO106.out) (by decide)) hk (fun _ h => h.2)) (fun _ h => h.1));replace BK109 := Aside0.mk (KeepBut.blk hk (g' := gb109) (o := .cells #[.int .i64 (wrap64 (1 + t102)), .int .i64 (wrap64 ((wrap64 (1 + t102)) + t107)), .slice none 0 0] 27 (0, 0)) (by (with_reducible repeat (first | refine blk_drewN ?_ _ | refine blk_drew ?_ | refine blk_alloc ?_ _));exact BK109.out) NB109_0.out (by simp));replace HK := Aside0.mk (KeepBut.trans (by repeat (first | (with_reducible first | exact HK.out | apply KeepBut.set_ | apply keep_drewN | apply keep_drew | apply keep_alloc | refine keep_far ?_ GW101.out _ | refine keep_far ?_ GW109.out _) | exact HK.out)) hk (.inl rfl));replace HB := Aside0.mk (hb);replace HI0 := Aside0.mk (hi);(try clear hb);(try clear hb2);(try clear hk);(try clear hi)))
 go_loopg [5, 6] k (fun kq v5 v6 w' => ∃ (x5_1 : Int) (x6_1 : Int) (x1001_1 : Int) (x110002_1 : List Int) (u110002 : Value), v5 = .int .i64 x5_1 ∧ v6 = .int .i64 x6_1 ∧ Aside0 (spec_l3Any.l0 kq x5_1 x6_1 s0_0 x1001_1 (wrap64 (1 + t102)) (wrap64 ((wrap64 (1 + t102)) + t107)) x110002_1 = some (r1, r2, r3, r4)) ∧ Aside0 (kq ≤ k) ∧ Aside0 (Kd.R (Kd.int .i64) 3 w' w.heap.size (fun _ => True) u110002 x110002_1) ∧ Aside0 (w'.heap[gb101]? = some (.cells #[.int .i64 0, .int .i64 0, (.slice none 0 0)] 27 (0, 0))) ∧ Aside0 (w'.heap[gb109]? = some (.cells #[.int .i64 (wrap64 (1 + t102)), .int .i64 (wrap64 ((wrap64 (1 + t102)) + t107)), u110002] 27 (0, 0))) ∧ Aside0 (IsS100 w0 w' g s0_0 x1001_1) ∧ Aside0 (KeepBut w w' g none) ∧ Aside0 (Below w0.heap.size w0 w'))
 case atStart => exact ⟨(t110), (wrap64 (1 + t112)), (t113), (([] : List Int)), (.slice none 0 0), (by first | rfl | (simp;done) | (simp [*];done)), (by first | rfl | (simp;done) | (simp [*];done)), H', ⟨Nat.le_refl _⟩, ⟨by first | exact Kd.R_nil _ _ _ _ _ | exact Kd.N_nil _ _ _ _ _ | exact Kd.V_nil _ _ _ _ _ | exact Kd.Q_nil _ _ _ _ _ | exact Kd.S_nil _ _ _ _ _⟩, ⟨by (with_reducible repeat (first | refine blk_drewN ?_ _ | refine blk_drew ?_ | refine blk_alloc ?_ _));exact BK101.out⟩, ⟨by (with_reducible repeat (first | refine blk_drewN ?_ _ | refine blk_drew ?_ | refine blk_alloc ?_ _));exact BK109.out⟩, ⟨by repeat (first | (with_reducible first | exact HI0.out | apply IsS100.alloc | apply IsS100.drewN | apply IsS100.drew | apply IsS100.set_1 | refine IsS100.far ?_ NB0_101.out _ | refine IsS100.far ?_ NB0_109.out _) | exact HI0.out)⟩, ⟨by repeat (first | (with_reducible first | exact HK.out | apply KeepBut.set_ | apply keep_drewN | apply keep_drew | apply keep_alloc | refine keep_far ?_ GW101.out _ | refine keep_far ?_ GW109.out _) | exact HK.out)⟩, ⟨by repeat (first | (with_reducible first | exact HB.out | apply below_alloc | apply pw_below_drewN | apply below_drew1 | refine below_set ?_ (IsS100.ge HI0.out) | refine below_set ?_ GE101.out | refine below_set ?_ GE109.out) | exact HB.out)⟩⟩
 case round =>
  clear H'
  try clear c1
  try clear p2
  try clear p6
  try clear c7
  try clear c9
  try clear c13
  try clear c14
  try clear hcz15_0
  try clear hcz15_1
  try clear hcz15_2
  try clear hfz15_0
  try clear hfz15_1
  try clear hfz15_2
  obtain ⟨x5_1, x6_1, x1001_1, x110002_1, u110002, rfl, rfl, HA, HK1, HO_110002, BK101, BK109, HI0, HK, HB⟩ := hrel
  cases gk with
  | zero => exact absurd HA.out (by simp [spec_l3Any.l0])
  | succ k1 =>
   have H := HA.out
   clear HA
   simp only [spec_l3Any.l0] at H
   by_cases c18 : x6_1 > 0
   ·rw [if_pos c18] at H
    have c18b0 : decide (0 < x6_1) = true := decide_eq_true c18
    clear c18
    by_cases c19 : x110002_1.length < 17592186044416
    ·rw [if_pos c19] at H
     have LMc19 := Aside0.mk c19
     clear c19
     obtain ⟨y114, hy114⟩ : ∃ y_ : List Int, y_ = (x110002_1 ++ [x5_1]) := ⟨_, rfl⟩
     replace H : ((spec_l14Rd_pick.f k1 s0_0 x1001_1 3).bind fun bt117 => (spec_l3Any.l0 k1 (wrap64 ((wrap64 (x5_1 + 1)) + bt117.1)) (wrap64 (x6_1 - 1)) s0_0 bt117.2 (wrap64 (1 + t102)) (wrap64 ((wrap64 (1 + t102)) + t107)) y114)) = some (r1, r2, r3, r4) := by first | (rw [hy114];with_reducible exact H) | (have H2_ := (Option.bind_some _ _).symm.trans H;rw [hy114];with_reducible exact H2_) | (have H2_ := (Option.bind_some _ _).symm.trans H;with_reducible exact H2_) | with_reducible exact H | (rw [hy114];exact H) | exact H
     have Ny114 := Aside0.mk hy114
     clear hy114
     replace H := Option.bind_eq_some_iff.mp H
     obtain ⟨⟨t117, t118⟩, A200, H⟩ := H
     replace H : (spec_l3Any.l0 k1 (wrap64 ((wrap64 (x5_1 + 1)) + t117)) (wrap64 (x6_1 - 1)) s0_0 t118 (wrap64 (1 + t102)) (wrap64 ((wrap64 (1 + t102)) + t107)) y114) = some (r1, r2, r3, r4) := H
     have A20 := Aside0.mk A200
     clear A200
     have H' := Aside0.mk H
     clear H
     have hnb21 := NB109_101.out
     have hnc21 := NB101_109.out
     have hnb22 := NB109_0.out
     have hnc22 := NB0_109.out
     obtain ⟨hcz23_0, hcz23_1, hcz23_2, hfz23_0, hfz23_1, hfz23_2⟩ := bx3 BK109.out
     go_wp2_with (first | ((with_reducible refine gate_builtin (b := .append) (xs := #[.tmp 27, .tmp 29]) rfl ?_);at_builtin;refine Kd.R_append (Kd.int .i64) w.heap.size rfl (.tmp 27) (.tmp 29) 22 3 (.int .i64 0) 8 rfl Try.underlying22 info3 rfl (by decide) (by omega) u110002 x110002_1 x5_1 [.int .i64 x5_1] (fun _ => True) (fun _ => False) rfl rfl ?aP (fun _ hk => hk.elim) ?aF ?aO (Below.refl _ _) ?aS ?aL ?_;(case aP => exact rfl);(case aF => exact (fun _ _ => trivial));(case aO => exact (by exact HO_110002.out));(case aS => exact (keep_size (w := w) (g := g) (row := none) (by repeat (first | (with_reducible first | exact HK.out | apply KeepBut.set_ | apply keep_drewN | apply keep_drew | apply keep_alloc | refine keep_far ?_ GW101.out _ | refine keep_far ?_ GW109.out _) | exact HK.out))));(case aL => have := LMc19.out;omega);intro v115 w24 ho hb hg hat;rw [← Ny114.out] at ho;have n0_ := Aside0.mk (blk_grown BK101.out hg (Kd.R_ne HO_110002.out BK101.out (by decide)));have n1_ := Aside0.mk (blk_grown BK109.out hg (Kd.R_ne HO_110002.out BK109.out (by decide)));have n2_ := Aside0.mk (IsS100.grown (by repeat (first | (with_reducible first | exact HI0.out | apply IsS100.alloc | apply IsS100.drewN | apply IsS100.drew | apply IsS100.set_1 | refine IsS100.far ?_ NB0_101.out _ | refine IsS100.far ?_ NB0_109.out _) | exact HI0.out)) hg (IsS100.own_ne HI0.out HO_110002.out (by decide)));have n3_ := Aside0.mk (below_weaken (by repeat (first | (with_reducible first | exact HB.out | apply below_alloc | apply pw_below_drewN | apply below_drew1 | refine below_set ?_ (IsS100.ge HI0.out) | refine below_set ?_ GE101.out | refine below_set ?_ GE109.out) | exact HB.out)) HL.out hb);have n4_ := Aside0.mk (KeepBut.trans (by repeat (first | (with_reducible first | exact HK.out | apply KeepBut.set_ | apply keep_drewN | apply keep_drew | apply keep_alloc | refine keep_far ?_ GW101.out _ | refine keep_far ?_ GW109.out _) | exact HK.out)) (KeepBut.of_grown hg g) (Kd.R_base2 HO_110002.out));have n5_ := Aside0.mk (ho);clear BK101;clear BK109;clear HI0;clear HB;clear HK;clear HO_110002;have BK101 := n0_;have BK109 := n1_;have HI0 := n2_;have HB := n3_;have HK := n4_;have HO116 := n5_;clear n0_ n1_ n2_ n3_ n4_ n5_;clear ho hb hg hat;obtain ⟨Ao25, co25, eo25⟩ := Kd.R_slice HO116.out;subst eo25;obtain ⟨hcz26_0, hcz26_1, hcz26_2, hfz26_0, hfz26_1, hfz26_2⟩ := bx3 BK109.out) | ((with_reducible refine gate_callee (f := 74) rfl ?_);refine goesL_ (some 35) rfl rfl Try.func74 (by kernel_rfl) rfl #[.pointer (some ⟨g, 0, none⟩), .int .i64 3] rfl (by (try simp only [List.map_toArray, List.map_cons, List.map_nil]);first | done | rfl | (simp only [List.length_drop, List.length_take];rfl)) ?_;(with_reducible refine (spec_l14Rd_pick.calls k1 g s0_0 x1001_1 3 t117 t118 w0 _ ?side1 ?side2 A20.out).mono ?_);(case side1 => repeat (first | (with_reducible first | exact HI0.out | apply IsS100.alloc | apply IsS100.drewN | apply IsS100.drew | apply IsS100.set_1 | refine IsS100.far ?_ NB0_101.out _ | refine IsS100.far ?_ NB0_109.out _) | exact HI0.out));(case side2 => repeat (first | (with_reducible first | exact HB.out | apply below_alloc | apply pw_below_drewN | apply below_drew1 | refine below_set ?_ (IsS100.ge HI0.out) | refine below_set ?_ GE101.out | refine below_set ?_ GE109.out) | exact HB.out));rintro e w27 ⟨rfl, hi, hb, hk⟩;refine ⟨_, rfl, ?_⟩;replace BK101 := Aside0.mk (KeepBut.blk hk (g' := gb101) (o := .cells #[.int .i64 0, .int .i64 0, .slice none 0 0] 27 (0, 0)) (by (with_reducible repeat (first | refine blk_drewN ?_ _ | refine blk_drew ?_ | refine blk_alloc ?_ _));refine blk_far ?_ NB101_109.out _;(with_reducible repeat (first | refine blk_drewN ?_ _ | refine blk_drew ?_ | refine blk_alloc ?_ _));exact BK101.out) NB101_0.out (by simp));replace HO116 := Aside0.mk (Kd.R_mono (Kd.R_keep (IsS100.apart (show IsS100 w0 _ g s0_0 x1001_1 from by repeat (first | (with_reducible first | exact HI0.out | apply IsS100.alloc | apply IsS100.drewN | apply IsS100.drew | apply IsS100.set_1 | refine IsS100.far ?_ NB0_101.out _ | refine IsS100.far ?_ NB0_109.out _) | exact HI0.out)) (by (with_reducible repeat (first | apply Kd.R_alloc | apply Kd.R_drewN | apply Kd.R_drew));exact (Kd.R_mono (Kd.R_far (p := ⟨gb109, 2, none⟩) (Kd.R_types HO116.out BK109.out (by decide)) (fun _ hk => hk.2) (.slice Ao25 y114.length co25)) (fun _ h_ => h_.1))) (by decide)) hk (fun _ h => h.2)) (fun _ h => h.1));replace BK109 := Aside0.mk (KeepBut.blk hk (g' := gb109) (o := .cells #[.int .i64 (wrap64 (1 + t102)), .int .i64 (wrap64 ((wrap64 (1 + t102)) + t107)), .slice Ao25 y114.length co25] 27 (0, 0)) (by (with_reducible repeat (first | refine blk_drewN ?_ _ | refine blk_drew ?_ | refine blk_alloc ?_ _));refine blk_put (cs := #[.int .i64 (wrap64 (1 + t102)), .int .i64 (wrap64 ((wrap64 (1 + t102)) + t107)), u110002]) ?_ 2 _ rfl;(with_reducible repeat (first | refine blk_drewN ?_ _ | refine blk_drew ?_ | refine blk_alloc ?_ _));exact BK109.out) NB109_0.out (by simp));replace HK := Aside0.mk (KeepBut.trans (by repeat (first | (with_reducible first | exact HK.out | apply KeepBut.set_ | apply keep_drewN | apply keep_drew | apply keep_alloc | refine keep_far ?_ GW101.out _ | refine keep_far ?_ GW109.out _) | exact HK.out)) hk (.inl rfl));replace HB := Aside0.mk (hb);replace HI0 := Aside0.mk (hi);(try clear hb);(try clear hb2);(try clear hk);(try clear hi)))
     go_roundg k1
     case measure => have := HK1.out;omega
     case rel => exact ⟨(wrap64 ((wrap64 (x5_1 + 1)) + t117)), (wrap64 (x6_1 - 1)), (t118), (y114), (.slice Ao25 y114.length co25), (by first | rfl | (simp;done) | (simp [*];done)), (by first | rfl | (simp;done) | (simp [*];done)), H', ⟨by have := HK1.out;omega⟩, ⟨by (with_reducible repeat (first | apply Kd.R_alloc | apply Kd.R_drewN | apply Kd.R_drew));exact HO116.out⟩, ⟨by (with_reducible repeat (first | refine blk_drewN ?_ _ | refine blk_drew ?_ | refine blk_alloc ?_ _));exact BK101.out⟩, ⟨by (with_reducible repeat (first | refine blk_drewN ?_ _ | refine blk_drew ?_ | refine blk_alloc ?_ _));exact BK109.out⟩, ⟨by repeat (first | (with_reducible first | exact HI0.out | apply IsS100.alloc | apply IsS100.drewN | apply IsS100.drew | apply IsS100.set_1 | refine IsS100.far ?_ NB0_101.out _ | refine IsS100.far ?_ NB0_109.out _) | exact HI0.out)⟩, ⟨by repeat (first | (with_reducible first | exact HK.out | apply KeepBut.set_ | apply keep_drewN | apply keep_drew | apply keep_alloc | refine keep_far ?_ GW101.out _ | refine keep_far ?_ GW109.out _) | exact HK.out)⟩, ⟨by repeat (first | (with_reducible first | exact HB.out | apply below_alloc | apply pw_below_drewN | apply below_drew1 | refine below_set ?_ (IsS100.ge HI0.out) | refine below_set ?_ GE101.out | refine below_set ?_ GE109.out) | exact HB.out)⟩⟩
    ·rw [if_neg c19] at H
     exact absurd H (by simp)
   ·rw [if_neg c18] at H
    have c18b0 : decide (0 < x6_1) = false := decide_eq_false c18
    clear c18
    simp only [Option.some.injEq, Prod.mk.injEq] at H
    obtain ⟨rfl, rfl, rfl, rfl⟩ := H
    have hnb28 := NB109_101.out
    have hnc28 := NB101_109.out
    have hnb29 := NB109_0.out
    have hnc29 := NB0_109.out
    obtain ⟨hcz30_0, hcz30_1, hcz30_2, hfz30_0, hfz30_1, hfz30_2⟩ := bx3 BK109.out
    have hnb31 := NB101_0.out
    have hnc31 := NB0_101.out
    obtain ⟨hcz32_0, hcz32_1, hcz32_2, hfz32_0, hfz32_1, hfz32_2⟩ := bx3 BK101.out
    obtain ⟨Ao33, co33, eo33⟩ := Kd.R_slice HO_110002.out
    subst eo33
    go_wp2
    refine bodyPost_ret (results_cell_row rfl _ _ gb101 27 #[.int .i64 (wrap64 (1 + t102)), .int .i64 (wrap64 ((wrap64 (1 + t102)) + t107)), .slice Ao33 x110002_1.length co33] (0, 0) _ rfl (by (with_reducible repeat (first | refine blk_drewN ?_ _ | refine blk_drew ?_ | refine blk_alloc ?_ _));refine blk_put (cs := #[.int .i64 (wrap64 (1 + t102)), .int .i64 (wrap64 ((wrap64 (1 + t102)) + t107)), .slice none 0 0]) ?_ 2 _ rfl;(with_reducible repeat (first | refine blk_drewN ?_ _ | refine blk_drew ?_ | refine blk_alloc ?_ _));refine blk_put (cs := #[.int .i64 (wrap64 (1 + t102)), .int .i64 0, .slice none 0 0]) ?_ 1 _ rfl;(with_reducible repeat (first | refine blk_drewN ?_ _ | refine blk_drew ?_ | refine blk_alloc ?_ _));refine blk_put (cs := #[.int .i64 0, .int .i64 0, .slice none 0 0]) ?_ 0 _ rfl;(with_reducible repeat (first | refine blk_drewN ?_ _ | refine blk_drew ?_ | refine blk_alloc ?_ _));exact BK101.out) Try.underlying27 rfl (by kernel_rfl)) rfl ?_
    exact ⟨_, by first | rfl | (simp [errW_none, errW_some] <;> rfl) | (simp [*, errW_none, errW_some] <;> rfl), by (with_reducible repeat (first | apply Kd.R_alloc | apply Kd.R_drewN | apply Kd.R_drew));exact Kd.R_mono (Kd.R_far (p := ⟨gb101, 2, none⟩) (Kd.R_far (p := ⟨gb101, 1, none⟩) (Kd.R_far (p := ⟨gb101, 0, none⟩) (Kd.R_types HO_110002.out BK101.out (by decide)) (fun _ hk => hk.2) (.int .i64 (wrap64 (1 + t102)))) (fun _ hk => hk.2) (.int .i64 (wrap64 ((wrap64 (1 + t102)) + t107)))) (fun _ hk => hk.2) (.slice Ao33 x110002_1.length co33)) (fun _ hk => trivial), by repeat (first | (with_reducible first | exact HI0.out | apply IsS100.alloc | apply IsS100.drewN | apply IsS100.drew | apply IsS100.set_1 | refine IsS100.far ?_ NB0_101.out _ | refine IsS100.far ?_ NB0_109.out _) | exact HI0.out), by repeat (first | (with_reducible first | exact HB.out | apply below_alloc | apply pw_below_drewN | apply below_drew1 | refine below_set ?_ (IsS100.ge HI0.out) | refine below_set ?_ GE101.out | refine below_set ?_ GE109.out) | exact HB.out), by repeat (first | (with_reducible first | exact HK.out | apply KeepBut.set_ | apply keep_drewN | apply keep_drew | apply keep_alloc | refine keep_far ?_ GW101.out _ | refine keep_far ?_ GW109.out _) | exact HK.out)⟩

end Go.Proofs.Ytiplpckgmikmeaa.M
namespace Go.Proofs.Ytiplpckgmikmeaa.M
open Go.RowKit Go.Proofs.YtiplpckgmikmeaaW.PrintWords Go.Proofs.YtiplpckgmikmeaaW.PrintLast Go.Proofs.YtiplpckgmikmeaaW.PrintMore
attribute [local go_sem] max2_int min2_int max_two min_two max_three min_three max_four min_four
set_option linter.unusedVariables false
set_option linter.unusedSimpArgs false

def spec_l3Put.f (k : Nat) (l0 : List S27) (a1_0 a1_1 : Int) (l1_2 : List Int) : Option (List S27) := if l0.length < 1099511627776 ∧ l1_2.length < 1099511627776 then (putAt (fun x => spec_OccLess.f k x.f0 x.f1 x.f2 a1_0 a1_1 l1_2) l0 l0.length 0).bind fun i => if i < l0.length then (spec_l3Same.f k (l0.getD i z27).f0 (l0.getD i z27).f1 (l0.getD i z27).f2 a1_0 a1_1 l1_2).bind fun t => some (if t = true then l0 else putIn l0 i ⟨a1_0, a1_1, l1_2⟩) else some (putIn l0 i ⟨a1_0, a1_1, l1_2⟩) else none
theorem spec_l3Put.calls_base (k : Nat) (P0_ : Nat → Prop) (u9000_ : Value) (l0 : List (S27)) (a1_0 : Int) (a1_1 : Int) (A1_2 : Option Addr) (c1_2 : Nat) (l1_2 : List Int) (r : List (S27)) (base : Nat) (w0 w : World) (hB : Below base w0 w) (hbs : base ≤ w.heap.size) (ho0 : Kd.S k27 27 w base P0_ u9000_ l0) (hr1_2 : Kd.C (Kd.int .i64) w A1_2 l1_2.length l1_2) (hc1_2 : l1_2.length ≤ c1_2) (h : spec_l3Put.f k l0 a1_0 a1_1 l1_2 = some r) :
  Calls Try.prog 82 #[u9000_, .agg #[.int .i64 a1_0, .int .i64 a1_1, .slice A1_2 l1_2.length c1_2]] w fun e w' => ∃ v0_ : Value, e = .returned (v0_) ∧ Kd.S k27 27 w' base (fun k_ => (P0_ k_ ∨ w.heap.size ≤ k_)) v0_ r ∧ Below base w0 w' ∧ Kept w w' (fun k_ => P0_ k_) := by
 obtain ⟨A, c, rfl, _, _⟩ := Kd.S_reads ho0
 unfold spec_l3Put.f at h
 by_cases hs : l0.length < 1099511627776 ∧ l1_2.length < 1099511627776
 ·rw [if_pos hs] at h
  obtain ⟨i, hi, h⟩ := Option.bind_eq_some_iff.1 h
  have less := fun (x : S27) (_ : x ∈ l0) (b : Bool) (hb : spec_OccLess.f k x.f0 x.f1 x.f2 a1_0 a1_1 l1_2 = some b) (A2 : Option Addr) (c2 : Nat) (W : World) (hl2 : x.f2.length ≤ c2) (hC : Kd.C (Kd.int .i64) W A2 x.f2.length x.f2) (hO : Kd.C (Kd.int .i64) W A1_2 l1_2.length l1_2) => spec_OccLess.calls k x.f0 x.f1 A2 c2 x.f2 a1_0 a1_1 A1_2 c1_2 l1_2 b W hC hl2 hO hc1_2 hb
  by_cases hlt : i < l0.length
  ·rw [if_pos hlt] at h
   obtain ⟨t, ht, h⟩ := Option.bind_eq_some_iff.1 h
   refine l3Put_walk (fun x => spec_OccLess.f k x.f0 x.f1 x.f2 a1_0 a1_1 l1_2) P0_ A c l0 ⟨a1_0, a1_1, l1_2⟩ A1_2 c1_2 base w0 w hB hbs ho0 hr1_2 hc1_2 hs.1 hs.2 i hi less t (fun x hx A2 c2 W hl2 hC hO => ?_) r ?_
   ·have e : l0.getD i z27 = x := by rw [List.getD_eq_getElem?_getD, hx];rfl
    rw [e] at ht
    exact spec_l3Same.calls k x.f0 x.f1 A2 c2 x.f2 a1_0 a1_1 A1_2 c1_2 l1_2 t W hC hl2 hO hc1_2 ht
   ·rw [← Option.some.inj h]
    simp [hlt]
  ·rw [if_neg hlt] at h
   refine l3Put_walk (fun x => spec_OccLess.f k x.f0 x.f1 x.f2 a1_0 a1_1 l1_2) P0_ A c l0 ⟨a1_0, a1_1, l1_2⟩ A1_2 c1_2 base w0 w hB hbs ho0 hr1_2 hc1_2 hs.1 hs.2 i hi less false (fun x hx => absurd (List.getElem?_eq_some_iff.1 hx).1 hlt) r ?_
   rw [← Option.some.inj h, if_neg (by simp)]
 ·rw [if_neg hs] at h
  cases h
end Go.Proofs.Ytiplpckgmikmeaa.M
namespace Go.Proofs.Ytiplpckgmikmeaa.M
set_option linter.unusedVariables false
set_option linter.unusedSimpArgs false
end Go.Proofs.Ytiplpckgmikmeaa.M
namespace Go.Proofs.Ytiplpckgmikmeaa.M
open Go.RowKit Go.Proofs.YtiplpckgmikmeaaW.PrintWords Go.Proofs.YtiplpckgmikmeaaW.PrintLast Go.Proofs.YtiplpckgmikmeaaW.PrintMore
attribute [local go_sem] max2_int min2_int max_two min_two max_three min_three max_four min_four
set_option linter.unusedVariables false
set_option linter.unusedSimpArgs false

def spec_l3Some.l0 : Nat → List Int → Int → List S27 → Int → Option (List S27 × Int)
 | 0, _, _, _, _ => none
 | k + 1, s0, i, out, s1 => if i > 0 then (spec_l3Any.f k s0 s1).bind fun t => (spec_l3Put.f k out t.1 t.2.1 t.2.2.1).bind fun out2 => spec_l3Some.l0 k s0 (wrap64 (i - 1)) out2 t.2.2.2 else some (out, s1)
def spec_l3Some.f (k : Nat) (s0_0 : List Int) (s0_1 : Int) (a1 : Int) : Option (List S27 × Int) := (spec_l14Rd_pick.f k s0_0 s0_1 (wrap64 (a1 + 1))).bind fun t => spec_l3Some.l0 k s0_0 t.1 [] t.2
set_option maxHeartbeats 4000000 in
set_option maxRecDepth 100000 in
theorem spec_l3Some.calls (k : Nat) (g : Nat) (s0_0 : List Int) (s0_1 : Int) (a1 : Int) (r1 : List (S27)) (r2 : Int) (w0 w : World) (hI : IsS100 w0 w g s0_0 s0_1) (hB : Below w0.heap.size w0 w) (h : spec_l3Some.f k s0_0 s0_1 a1 = some (r1, r2)) :
  Calls Try.prog 96 #[.pointer (some ⟨g, 0, none⟩), .int .i64 a1] w fun e w' => ∃ v0_ : Value, e = .returned (v0_) ∧ Kd.S k27 27 w' w.heap.size (fun _ => True) v0_ r1 ∧ IsS100 w0 w' g s0_0 r2 ∧ Below w0.heap.size w0 w' ∧ KeepBut w w' g none := by
 unfold spec_l3Some.f at h
 obtain ⟨⟨n, s1⟩, hp, h⟩ := Option.bind_eq_some_iff.1 h
 have HP := Aside0.mk hp
 have HH := Aside0.mk h
 have HGW := Aside0.mk hI.lt
 have HWW := Aside0.mk hB.size
 have HI := Aside0.mk hI
 have HB0 := Aside0.mk hB
 clear hp h hI hB
 go_enter Try.func96, Try.ntmps96
 go_wp2_with (first
  | ((with_reducible refine gate_dst (N := 7) rfl ?_);refine Kd.S_lit k27 _ 27 ?hg (N := 7) ?hd (xs := ([] : List (S27))) (inner := []) (ok := fun k_ => w.heap.size ≤ k_) (okp := fun _ => False) ?hr ?hp (fun _ h => h.elim) (Nat.le_refl _) (Below.refl _ _) (Nat.le_refl _) (by simp) ?_;(case hd => rfl);(case hg => rfl);(case hr => first | (go_simp;done) | (go_simp;rfl));(case hp => exact (Reps.none _ _));intro v7 wl hol hb hg_ hnew_;clear hg_ hnew_)
  | (go_at_call 74;fail))
 have n0_ := Aside0.mk (IsS100.below HI.out hb)
 have n1_ := Aside0.mk (below_step HB0.out hb)
 have HS := Aside0.mk hol
 have HBL := Aside0.mk hb
 clear HI HB0 hol hb
 have HI := n0_
 have HB0 := n1_
 clear n0_ n1_
 refine (spec_l14Rd_pick.calls k g s0_0 s0_1 (wrap64 (a1 + 1)) n s1 w0 wl HI.out HB0.out HP.out).mono ?_
 rintro e w2 ⟨rfl, hi, hb0, hk⟩
 have n0_ := Aside0.mk (Kd.S_keep HS.out hk (fun k_ h_ e_ => by have := HGW.out;have h_' : w.heap.size ≤ k_ := h_;omega))
 have n1_ := Aside0.mk hi
 have n2_ := Aside0.mk hb0
 have n3_ := Aside0.mk (show KeepBut w w2 g none from ⟨Nat.le_trans HBL.out.size hk.1, fun i h1 h2 h3 => (hk.2 i (Nat.lt_of_lt_of_le h1 HBL.out.size) h2 h3).trans (HBL.out.block i h1)⟩)
 clear HI HB0 HS HBL hi hb0 hk HP
 have HS := n0_
 have HI := n1_
 have HB0 := n2_
 have HK := n3_
 clear n0_ n1_ n2_ n3_
 go_wp2
 go_loopg [5, 6] k (fun kq v5 v6 w' => ∃ (out : List S27) (i s1 : Int), v6 = .int .i64 i ∧ Aside0 (spec_l3Some.l0 kq s0_0 i out s1 = some (r1, r2)) ∧ Aside0 (kq ≤ k) ∧ Aside0 (Kd.S k27 27 w' w.heap.size (fun k_ => w.heap.size ≤ k_) v5 out) ∧ Aside0 (IsS100 w0 w' g s0_0 s1) ∧ Aside0 (Below w0.heap.size w0 w') ∧ Aside0 (KeepBut w w' g none))
 case atStart => exact ⟨[], n, s1, rfl, HH, ⟨Nat.le_refl _⟩, HS, HI, HB0, HK⟩
 case round =>
  clear HS HI HB0 HK HH
  obtain ⟨out, i, s2, rfl, HA, HK1, HS, HI, HB0, HK⟩ := hrel
  cases gk with
  | zero => exact absurd HA.out (by simp [spec_l3Some.l0])
  | succ k1 =>
   have H := HA.out
   clear HA
   simp only [spec_l3Some.l0] at H
   by_cases c : i > 0
   ·rw [if_pos c] at H
    obtain ⟨⟨a, b, l, s3⟩, hA, H⟩ := Option.bind_eq_some_iff.1 H
    obtain ⟨out2, hP, H⟩ := Option.bind_eq_some_iff.1 H
    have HA := Aside0.mk hA
    have HP := Aside0.mk hP
    have HH := Aside0.mk H
    clear hA hP H
    go_wp2_with (go_at_call 73;fail)
    refine (spec_l3Any.calls k1 g s0_0 s2 a b l s3 w0 _ HI.out HB0.out HA.out).mono ?_
    rintro e w3 ⟨v2, rfl, hv, hi, hb0, hk⟩
    have n0_ := Aside0.mk (Kd.S_keep HS.out hk (fun k_ h_ e_ => by have := HGW.out;have h_' : w.heap.size ≤ k_ := h_;omega))
    have n1_ := Aside0.mk hi
    have n2_ := Aside0.mk hb0
    have n3_ := Aside0.mk (KeepBut.trans HK.out hk (.inl rfl))
    have HV := Aside0.mk hv
    have HWR := Aside0.mk hk.1
    have HWR0 := Aside0.mk HK.out.1
    clear HI HB0 HS HK hi hb0 hk HA hv
    have HS := n0_
    have HI := n1_
    have HB0 := n2_
    have HK := n3_
    clear n0_ n1_ n2_ n3_
    obtain ⟨Av, cv, ev⟩ := Kd.R_slice HV.out
    subst ev
    go_wp2_with (go_at_call 82;fail)
    refine (spec_l3Put.calls_base k1 (fun k_ => w.heap.size ≤ k_) _ out a b Av cv l out2 w.heap.size w3 w3 (Below.refl _ _) (Nat.le_trans HWR0.out HWR.out) HS.out ?_ ?_ HP.out).mono ?_
    ·exact (Kd.R_reads' HV.out).2.2
    ·have := Kd.R_reads' HV.out
     omega
    rintro e w4 ⟨v4, rfl, hs4, hb4, hk4⟩
    have n0_ := Aside0.mk (Kd.S_mono (ok' := fun k_ => w.heap.size ≤ k_) hs4 (fun k_ h_ => h_.elim (fun h => h) (fun h => Nat.le_trans (Nat.le_trans HWR0.out HWR.out) h)))
    have n1_ := Aside0.mk (IsS100.kept HI.out hk4 (fun h_ => by have := HGW.out;have h_' : w.heap.size ≤ g := h_;omega))
    have n2_ := Aside0.mk (below_weaken HB0.out HWW.out hb4)
    have n3_ := Aside0.mk (Kept.keep HK.out hk4 (fun _ h => h))
    clear HI HB0 HS HK hs4 hb4 hk4 HP HV HWR HWR0
    have HS := n0_
    have HI := n1_
    have HB0 := n2_
    have HK := n3_
    clear n0_ n1_ n2_ n3_
    go_wp2
    go_roundg k1
    case measure => have := HK1.out;omega
    case rel => exact ⟨out2, wrap64 (i - 1), s3, rfl, HH, ⟨by have := HK1.out;omega⟩, HS, HI, HB0, HK⟩
   ·rw [if_neg c] at H
    simp only [Option.some.injEq, Prod.mk.injEq] at H
    obtain ⟨rfl, rfl⟩ := H
    go_wp2
    go_ret
    exact ⟨_, rfl, Kd.S_mono HS.out (fun _ _ => trivial), HI.out, HB0.out, HK.out⟩

end Go.Proofs.Ytiplpckgmikmeaa.M
