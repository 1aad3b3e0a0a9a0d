/-
  No cell of these rows narrows 'for every input' (looked for: loops, veiled, ifaces, maps, wideKeys, modest, calm, conditions, laid).
  DERIVED. THE GIVEN ROWS OF THIS SEAT. 15 by the template 'for every input the law returns true; each argument reads behind the call as it read before'; 0 by the template 'total and deterministic' (their statements: YtiplpckgmikmeaaTotals.lean).
  GIVEN WITH THE SEED: the statements are not yours to turn. If you find one false, say at which input.
  Laid BY PROGRAM, IN A SANDBOX (cutbox-rows.mjs): the forced cells as the released guide's own fill.sh prints them over the translation a0df58cfe42d49d4… (all of the seat's roots in one cut). By AI agents, Wed Nov 11 2026. No macro, syntax, notation, axiom, sorry.
-/
import Derived.Test.YtiplpckgmikmeaaChecked
import GoSem.Claim
import GoSem.ClaimJoined
import GoSem.ClaimMapViews
import Derived.JoinedTies
import Derived.KernelRfl
namespace Go.Proofs.Ytiplpckgmikmeaa
/- THE CELL 'sum', in the pinned program and in every row, IS THE sha256 OF THE DUMP (.gsa) THAT YtiplpckgmikmeaaProg.lean LOADS. Nothing in Lean hashes anything: it is a label: what it is worth is what the hold of that sum in a sandbox is worth. -/
noncomputable def Try.pinned : Pinned := { name := "ytiplpckgmikmeaa", sum := "a0df58cfe42d49d421876385a14bfd16c15c663cd1150750f688d60a1e5614f5", checked := Try.checked }
namespace Rows
def none {H : Type} : Left H := { results := [], args := [] }

/-- 'laws.FnExactOccOk': WHATEVER THE INPUT: true; the input reads as it did. -/
def fnExactOccOkSpec : ChangeSpec := { name := "fnExactOccOk", fn := fun _ => fun
  | [d] => { results := [.lit (.bool true)], args := [d] }
  | _ => none }
def fnExactOccOkRow : OpenClaim := { program := "ytiplpckgmikmeaa", sum := "a0df58cfe42d49d421876385a14bfd16c15c663cd1150750f688d60a1e5614f5", func := "loop.example/bellman/laws.FnExactOccOk", spec := "fnExactOccOk", apart := false }
def FnExactOccOkSaid : Prop := fnExactOccOkRow.holds Try.pinned (OpenSpec.ofChange fnExactOccOkSpec)

/-- ITS FALSE NEIGHBOUR: 'it returns false'. Refute it at one input. -/
def fnExactOccOkWrong : ChangeSpec := { name := "fnExactOccOk", fn := fun _ => fun
  | [d] => { results := [.lit (.bool false)], args := [d] }
  | _ => none }
def FnExactOccOkWrongFalsely : Prop := fnExactOccOkRow.holds Try.pinned (OpenSpec.ofChange fnExactOccOkWrong)

/-- 'laws.FnExactOccsSame': WHATEVER THE INPUT: true; the input reads as it did. -/
def fnExactOccsSameSpec : ChangeSpec := { name := "fnExactOccsSame", fn := fun _ => fun
  | [d1, d2] => { results := [.lit (.bool true)], args := [d1, d2] }
  | _ => none }
def fnExactOccsSameRow : OpenClaim := { program := "ytiplpckgmikmeaa", sum := "a0df58cfe42d49d421876385a14bfd16c15c663cd1150750f688d60a1e5614f5", func := "loop.example/bellman/laws.FnExactOccsSame", spec := "fnExactOccsSame", unfollowed := true, recurses := true, apart := false }
def FnExactOccsSameSaid : Prop := fnExactOccsSameRow.holds Try.pinned (OpenSpec.ofChange fnExactOccsSameSpec)

/-- ITS FALSE NEIGHBOUR: 'it returns false'. Refute it at one input. -/
def fnExactOccsSameWrong : ChangeSpec := { name := "fnExactOccsSame", fn := fun _ => fun
  | [d1, d2] => { results := [.lit (.bool false)], args := [d1, d2] }
  | _ => none }
def FnExactOccsSameWrongFalsely : Prop := fnExactOccsSameRow.holds Try.pinned (OpenSpec.ofChange fnExactOccsSameWrong)

/-- 'laws.FnExactOccsOk': WHATEVER THE INPUT: true; the input reads as it did. -/
def fnExactOccsOkSpec : ChangeSpec := { name := "fnExactOccsOk", fn := fun _ => fun
  | [d] => { results := [.lit (.bool true)], args := [d] }
  | _ => none }
def fnExactOccsOkRow : OpenClaim := { program := "ytiplpckgmikmeaa", sum := "a0df58cfe42d49d421876385a14bfd16c15c663cd1150750f688d60a1e5614f5", func := "loop.example/bellman/laws.FnExactOccsOk", spec := "fnExactOccsOk", apart := false }
def FnExactOccsOkSaid : Prop := fnExactOccsOkRow.holds Try.pinned (OpenSpec.ofChange fnExactOccsOkSpec)

/-- ITS FALSE NEIGHBOUR: 'it returns false'. Refute it at one input. -/
def fnExactOccsOkWrong : ChangeSpec := { name := "fnExactOccsOk", fn := fun _ => fun
  | [d] => { results := [.lit (.bool false)], args := [d] }
  | _ => none }
def FnExactOccsOkWrongFalsely : Prop := fnExactOccsOkRow.holds Try.pinned (OpenSpec.ofChange fnExactOccsOkWrong)

/-- 'laws.FnExactPairSame': WHATEVER THE INPUT: true; the input reads as it did. -/
def fnExactPairSameSpec : ChangeSpec := { name := "fnExactPairSame", fn := fun _ => fun
  | [d1, d2] => { results := [.lit (.bool true)], args := [d1, d2] }
  | _ => none }
def fnExactPairSameRow : OpenClaim := { program := "ytiplpckgmikmeaa", sum := "a0df58cfe42d49d421876385a14bfd16c15c663cd1150750f688d60a1e5614f5", func := "loop.example/bellman/laws.FnExactPairSame", spec := "fnExactPairSame", unfollowed := true, recurses := true, apart := false }
def FnExactPairSameSaid : Prop := fnExactPairSameRow.holds Try.pinned (OpenSpec.ofChange fnExactPairSameSpec)

/-- ITS FALSE NEIGHBOUR: 'it returns false'. Refute it at one input. -/
def fnExactPairSameWrong : ChangeSpec := { name := "fnExactPairSame", fn := fun _ => fun
  | [d1, d2] => { results := [.lit (.bool false)], args := [d1, d2] }
  | _ => none }
def FnExactPairSameWrongFalsely : Prop := fnExactPairSameRow.holds Try.pinned (OpenSpec.ofChange fnExactPairSameWrong)

/-- 'laws.FnExactSpanSame': WHATEVER THE INPUT: true; the input reads as it did. -/
def fnExactSpanSameSpec : ChangeSpec := { name := "fnExactSpanSame", fn := fun _ => fun
  | [d1, d2] => { results := [.lit (.bool true)], args := [d1, d2] }
  | _ => none }
def fnExactSpanSameRow : OpenClaim := { program := "ytiplpckgmikmeaa", sum := "a0df58cfe42d49d421876385a14bfd16c15c663cd1150750f688d60a1e5614f5", func := "loop.example/bellman/laws.FnExactSpanSame", spec := "fnExactSpanSame", unfollowed := true, recurses := true, apart := false }
def FnExactSpanSameSaid : Prop := fnExactSpanSameRow.holds Try.pinned (OpenSpec.ofChange fnExactSpanSameSpec)

/-- ITS FALSE NEIGHBOUR: 'it returns false'. Refute it at one input. -/
def fnExactSpanSameWrong : ChangeSpec := { name := "fnExactSpanSame", fn := fun _ => fun
  | [d1, d2] => { results := [.lit (.bool false)], args := [d1, d2] }
  | _ => none }
def FnExactSpanSameWrongFalsely : Prop := fnExactSpanSameRow.holds Try.pinned (OpenSpec.ofChange fnExactSpanSameWrong)

/-- 'laws.FnExactPairOk': WHATEVER THE INPUT: true; the input reads as it did. -/
def fnExactPairOkSpec : ChangeSpec := { name := "fnExactPairOk", fn := fun _ => fun
  | [d] => { results := [.lit (.bool true)], args := [d] }
  | _ => none }
def fnExactPairOkRow : OpenClaim := { program := "ytiplpckgmikmeaa", sum := "a0df58cfe42d49d421876385a14bfd16c15c663cd1150750f688d60a1e5614f5", func := "loop.example/bellman/laws.FnExactPairOk", spec := "fnExactPairOk", apart := false }
def FnExactPairOkSaid : Prop := fnExactPairOkRow.holds Try.pinned (OpenSpec.ofChange fnExactPairOkSpec)

/-- ITS FALSE NEIGHBOUR: 'it returns false'. Refute it at one input. -/
def fnExactPairOkWrong : ChangeSpec := { name := "fnExactPairOk", fn := fun _ => fun
  | [d] => { results := [.lit (.bool false)], args := [d] }
  | _ => none }
def FnExactPairOkWrongFalsely : Prop := fnExactPairOkRow.holds Try.pinned (OpenSpec.ofChange fnExactPairOkWrong)

/-- 'laws.FnExactSpanOk': WHATEVER THE INPUT: true; the input reads as it did. -/
def fnExactSpanOkSpec : ChangeSpec := { name := "fnExactSpanOk", fn := fun _ => fun
  | [d] => { results := [.lit (.bool true)], args := [d] }
  | _ => none }
def fnExactSpanOkRow : OpenClaim := { program := "ytiplpckgmikmeaa", sum := "a0df58cfe42d49d421876385a14bfd16c15c663cd1150750f688d60a1e5614f5", func := "loop.example/bellman/laws.FnExactSpanOk", spec := "fnExactSpanOk", apart := false }
def FnExactSpanOkSaid : Prop := fnExactSpanOkRow.holds Try.pinned (OpenSpec.ofChange fnExactSpanOkSpec)

/-- ITS FALSE NEIGHBOUR: 'it returns false'. Refute it at one input. -/
def fnExactSpanOkWrong : ChangeSpec := { name := "fnExactSpanOk", fn := fun _ => fun
  | [d] => { results := [.lit (.bool false)], args := [d] }
  | _ => none }
def FnExactSpanOkWrongFalsely : Prop := fnExactSpanOkRow.holds Try.pinned (OpenSpec.ofChange fnExactSpanOkWrong)

/-- 'laws.FnOccOrder': WHATEVER THE INPUT: true; the input reads as it did. -/
def fnOccOrderSpec : ChangeSpec := { name := "fnOccOrder", fn := fun _ => fun
  | [d1, d2] => { results := [.lit (.bool true)], args := [d1, d2] }
  | _ => none }
def fnOccOrderRow : OpenClaim := { program := "ytiplpckgmikmeaa", sum := "a0df58cfe42d49d421876385a14bfd16c15c663cd1150750f688d60a1e5614f5", func := "loop.example/bellman/laws.FnOccOrder", spec := "fnOccOrder", unfollowed := true, recurses := true, apart := false }
def FnOccOrderSaid : Prop := fnOccOrderRow.holds Try.pinned (OpenSpec.ofChange fnOccOrderSpec)

/-- ITS FALSE NEIGHBOUR: 'it returns false'. Refute it at one input. -/
def fnOccOrderWrong : ChangeSpec := { name := "fnOccOrder", fn := fun _ => fun
  | [d1, d2] => { results := [.lit (.bool false)], args := [d1, d2] }
  | _ => none }
def FnOccOrderWrongFalsely : Prop := fnOccOrderRow.holds Try.pinned (OpenSpec.ofChange fnOccOrderWrong)

/-- 'laws.FnExactOccJoin': WHATEVER THE INPUT: true; the input reads as it did. -/
def fnExactOccJoinSpec : ChangeSpec := { name := "fnExactOccJoin", fn := fun _ => fun
  | [d1, d2] => { results := [.lit (.bool true)], args := [d1, d2] }
  | _ => none }
def fnExactOccJoinRow : OpenClaim := { program := "ytiplpckgmikmeaa", sum := "a0df58cfe42d49d421876385a14bfd16c15c663cd1150750f688d60a1e5614f5", func := "loop.example/bellman/laws.FnExactOccJoin", spec := "fnExactOccJoin", recurses := true, apart := false }
def FnExactOccJoinSaid : Prop := fnExactOccJoinRow.holds Try.pinned (OpenSpec.ofChange fnExactOccJoinSpec)

/-- ITS FALSE NEIGHBOUR: 'it returns false'. Refute it at one input. -/
def fnExactOccJoinWrong : ChangeSpec := { name := "fnExactOccJoin", fn := fun _ => fun
  | [d1, d2] => { results := [.lit (.bool false)], args := [d1, d2] }
  | _ => none }
def FnExactOccJoinWrongFalsely : Prop := fnExactOccJoinRow.holds Try.pinned (OpenSpec.ofChange fnExactOccJoinWrong)

/-- 'laws.FnOccJoin': WHATEVER THE INPUT: true; the input reads as it did. -/
def fnOccJoinSpec : ChangeSpec := { name := "fnOccJoin", fn := fun _ => fun
  | [d1, d2] => { results := [.lit (.bool true)], args := [d1, d2] }
  | _ => none }
def fnOccJoinRow : OpenClaim := { program := "ytiplpckgmikmeaa", sum := "a0df58cfe42d49d421876385a14bfd16c15c663cd1150750f688d60a1e5614f5", func := "loop.example/bellman/laws.FnOccJoin", spec := "fnOccJoin", unfollowed := true, recurses := true, apart := false }
def FnOccJoinSaid : Prop := fnOccJoinRow.holds Try.pinned (OpenSpec.ofChange fnOccJoinSpec)

/-- ITS FALSE NEIGHBOUR: 'it returns false'. Refute it at one input. -/
def fnOccJoinWrong : ChangeSpec := { name := "fnOccJoin", fn := fun _ => fun
  | [d1, d2] => { results := [.lit (.bool false)], args := [d1, d2] }
  | _ => none }
def FnOccJoinWrongFalsely : Prop := fnOccJoinRow.holds Try.pinned (OpenSpec.ofChange fnOccJoinWrong)

/-- 'laws.FnExactOccsPut': WHATEVER THE INPUT: true; the input reads as it did. -/
def fnExactOccsPutSpec : ChangeSpec := { name := "fnExactOccsPut", fn := fun _ => fun
  | [d1, d2] => { results := [.lit (.bool true)], args := [d1, d2] }
  | _ => none }
def fnExactOccsPutRow : OpenClaim := { program := "ytiplpckgmikmeaa", sum := "a0df58cfe42d49d421876385a14bfd16c15c663cd1150750f688d60a1e5614f5", func := "loop.example/bellman/laws.FnExactOccsPut", spec := "fnExactOccsPut", inPlace := ["slices.overlaps[loop.example/bellman/impl.Occ]"], unfollowed := true, recurses := true, apart := false }
def FnExactOccsPutSaid : Prop := fnExactOccsPutRow.holds Try.pinned (OpenSpec.ofChange fnExactOccsPutSpec)

/-- ITS FALSE NEIGHBOUR: 'it returns false'. Refute it at one input. -/
def fnExactOccsPutWrong : ChangeSpec := { name := "fnExactOccsPut", fn := fun _ => fun
  | [d1, d2] => { results := [.lit (.bool false)], args := [d1, d2] }
  | _ => none }
def FnExactOccsPutWrongFalsely : Prop := fnExactOccsPutRow.holds Try.pinned (OpenSpec.ofChange fnExactOccsPutWrong)

/-- 'laws.FnExactOrOf': WHATEVER THE INPUT: true; the input reads as it did. -/
def fnExactOrOfSpec : ChangeSpec := { name := "fnExactOrOf", fn := fun _ => fun
  | [d1, d2] => { results := [.lit (.bool true)], args := [d1, d2] }
  | _ => none }
def fnExactOrOfRow : OpenClaim := { program := "ytiplpckgmikmeaa", sum := "a0df58cfe42d49d421876385a14bfd16c15c663cd1150750f688d60a1e5614f5", func := "loop.example/bellman/laws.FnExactOrOf", spec := "fnExactOrOf", inPlace := ["slices.overlaps[loop.example/bellman/impl.Occ]"], unfollowed := true, recurses := true, apart := false }
def FnExactOrOfSaid : Prop := fnExactOrOfRow.holds Try.pinned (OpenSpec.ofChange fnExactOrOfSpec)

/-- ITS FALSE NEIGHBOUR: 'it returns false'. Refute it at one input. -/
def fnExactOrOfWrong : ChangeSpec := { name := "fnExactOrOf", fn := fun _ => fun
  | [d1, d2] => { results := [.lit (.bool false)], args := [d1, d2] }
  | _ => none }
def FnExactOrOfWrongFalsely : Prop := fnExactOrOfRow.holds Try.pinned (OpenSpec.ofChange fnExactOrOfWrong)

/-- 'laws.FnOr': WHATEVER THE INPUT: true; the input reads as it did. -/
def fnOrSpec : ChangeSpec := { name := "fnOr", fn := fun _ => fun
  | [d] => { results := [.lit (.bool true)], args := [d] }
  | _ => none }
def fnOrRow : OpenClaim := { program := "ytiplpckgmikmeaa", sum := "a0df58cfe42d49d421876385a14bfd16c15c663cd1150750f688d60a1e5614f5", func := "loop.example/bellman/laws.FnOr", spec := "fnOr", inPlace := ["slices.overlaps[loop.example/bellman/impl.Occ]"], unfollowed := true, recurses := true, apart := false }
def FnOrSaid : Prop := fnOrRow.holds Try.pinned (OpenSpec.ofChange fnOrSpec)

/-- ITS FALSE NEIGHBOUR: 'it returns false'. Refute it at one input. -/
def fnOrWrong : ChangeSpec := { name := "fnOr", fn := fun _ => fun
  | [d] => { results := [.lit (.bool false)], args := [d] }
  | _ => none }
def FnOrWrongFalsely : Prop := fnOrRow.holds Try.pinned (OpenSpec.ofChange fnOrWrong)

/-- 'laws.FnPlus': WHATEVER THE INPUT: true; the input reads as it did. -/
def fnPlusSpec : ChangeSpec := { name := "fnPlus", fn := fun _ => fun
  | [d] => { results := [.lit (.bool true)], args := [d] }
  | _ => none }
def fnPlusRow : OpenClaim := { program := "ytiplpckgmikmeaa", sum := "a0df58cfe42d49d421876385a14bfd16c15c663cd1150750f688d60a1e5614f5", func := "loop.example/bellman/laws.FnPlus", spec := "fnPlus", inPlace := ["slices.overlaps[loop.example/bellman/impl.Occ]"], unfollowed := true, recurses := true, apart := false }
def FnPlusSaid : Prop := fnPlusRow.holds Try.pinned (OpenSpec.ofChange fnPlusSpec)

/-- ITS FALSE NEIGHBOUR: 'it returns false'. Refute it at one input. -/
def fnPlusWrong : ChangeSpec := { name := "fnPlus", fn := fun _ => fun
  | [d] => { results := [.lit (.bool false)], args := [d] }
  | _ => none }
def FnPlusWrongFalsely : Prop := fnPlusRow.holds Try.pinned (OpenSpec.ofChange fnPlusWrong)

/-- 'laws.FnPlusOr': WHATEVER THE INPUT: true; the input reads as it did. -/
def fnPlusOrSpec : ChangeSpec := { name := "fnPlusOr", fn := fun _ => fun
  | [d1, d2] => { results := [.lit (.bool true)], args := [d1, d2] }
  | _ => none }
def fnPlusOrRow : OpenClaim := { program := "ytiplpckgmikmeaa", sum := "a0df58cfe42d49d421876385a14bfd16c15c663cd1150750f688d60a1e5614f5", func := "loop.example/bellman/laws.FnPlusOr", spec := "fnPlusOr", inPlace := ["slices.overlaps[loop.example/bellman/impl.Occ]"], unfollowed := true, recurses := true, apart := false }
def FnPlusOrSaid : Prop := fnPlusOrRow.holds Try.pinned (OpenSpec.ofChange fnPlusOrSpec)

/-- ITS FALSE NEIGHBOUR: 'it returns false'. Refute it at one input. -/
def fnPlusOrWrong : ChangeSpec := { name := "fnPlusOr", fn := fun _ => fun
  | [d1, d2] => { results := [.lit (.bool false)], args := [d1, d2] }
  | _ => none }
def FnPlusOrWrongFalsely : Prop := fnPlusOrRow.holds Try.pinned (OpenSpec.ofChange fnPlusOrWrong)

/- THE SECOND FORM. 'bulk': how many values and letters a reading holds, each counted each time it is reached (what is shared counts as often as it is met; a slice's spare places count too). A statement '..UptoSaid' is the law's where the arguments, and the package variables that the reading takes, are together of bulk at most 1048576: NARROWER than '..Said'. Prove '..Said' where nothing that the law and all that it calls make is longer than what came in: it says more and counts as full. Else prove '..UptoSaid'. A law counts once. -/
mutual
def uptoBulk {H : Type} : DataW H → Nat
  | .lit (.string bytes) => bytes.length + 1
  | .lit _ => 1
  | .nil => 1
  | .ptr d => uptoBulk d + 1
  | .slice elems spare => uptoBulkAll elems + uptoBulkAll spare + 1
  | .agg parts => uptoBulkAll parts + 1
  | .iface _ d => uptoBulk d + 1
  | .map entries => uptoBulkEntries entries + 1
  | .held _ => 1
def uptoBulkAll {H : Type} : List (DataW H) → Nat
  | [] => 0
  | d :: r => uptoBulk d + uptoBulkAll r
def uptoBulkEntries {H : Type} : List (Lit × DataW H) → Nat
  | [] => 0
  | x :: r => uptoBulkEntry x + uptoBulkEntries r
def uptoBulkEntry {H : Type} : Lit × DataW H → Nat
  | (.string bytes, d) => bytes.length + uptoBulk d + 1
  | (_, d) => uptoBulk d + 1
 end
def uptoSmall : (H : Type) → List (DataW H) → Bool := fun _ ds => decide (uptoBulkAll ds ≤ 1048576)
def OpenSpec.upto (s : _root_.Go.ChangeSpec) : _root_.Go.OpenSpec := { _root_.Go.OpenSpec.ofChange s with cond := some uptoSmall }

/-- 'laws.FnExactOccOk', WHERE WHAT IT READS IS OF BULK AT MOST 1048576: true; the input reads as it did. -/
def fnExactOccOkUptoRow : OpenClaim := { program := "ytiplpckgmikmeaa", sum := "a0df58cfe42d49d421876385a14bfd16c15c663cd1150750f688d60a1e5614f5", func := "loop.example/bellman/laws.FnExactOccOk", spec := "fnExactOccOk", apart := false, narrowed := true }
def FnExactOccOkUptoSaid : Prop := fnExactOccOkUptoRow.holds Try.pinned (OpenSpec.upto fnExactOccOkSpec)

/-- 'laws.FnExactOccsSame', WHERE WHAT IT READS IS OF BULK AT MOST 1048576: true; the input reads as it did. -/
def fnExactOccsSameUptoRow : OpenClaim := { program := "ytiplpckgmikmeaa", sum := "a0df58cfe42d49d421876385a14bfd16c15c663cd1150750f688d60a1e5614f5", func := "loop.example/bellman/laws.FnExactOccsSame", spec := "fnExactOccsSame", unfollowed := true, recurses := true, apart := false, narrowed := true }
def FnExactOccsSameUptoSaid : Prop := fnExactOccsSameUptoRow.holds Try.pinned (OpenSpec.upto fnExactOccsSameSpec)

/-- 'laws.FnExactOccsOk', WHERE WHAT IT READS IS OF BULK AT MOST 1048576: true; the input reads as it did. -/
def fnExactOccsOkUptoRow : OpenClaim := { program := "ytiplpckgmikmeaa", sum := "a0df58cfe42d49d421876385a14bfd16c15c663cd1150750f688d60a1e5614f5", func := "loop.example/bellman/laws.FnExactOccsOk", spec := "fnExactOccsOk", apart := false, narrowed := true }
def FnExactOccsOkUptoSaid : Prop := fnExactOccsOkUptoRow.holds Try.pinned (OpenSpec.upto fnExactOccsOkSpec)

/-- 'laws.FnExactPairSame', WHERE WHAT IT READS IS OF BULK AT MOST 1048576: true; the input reads as it did. -/
def fnExactPairSameUptoRow : OpenClaim := { program := "ytiplpckgmikmeaa", sum := "a0df58cfe42d49d421876385a14bfd16c15c663cd1150750f688d60a1e5614f5", func := "loop.example/bellman/laws.FnExactPairSame", spec := "fnExactPairSame", unfollowed := true, recurses := true, apart := false, narrowed := true }
def FnExactPairSameUptoSaid : Prop := fnExactPairSameUptoRow.holds Try.pinned (OpenSpec.upto fnExactPairSameSpec)

/-- 'laws.FnExactSpanSame', WHERE WHAT IT READS IS OF BULK AT MOST 1048576: true; the input reads as it did. -/
def fnExactSpanSameUptoRow : OpenClaim := { program := "ytiplpckgmikmeaa", sum := "a0df58cfe42d49d421876385a14bfd16c15c663cd1150750f688d60a1e5614f5", func := "loop.example/bellman/laws.FnExactSpanSame", spec := "fnExactSpanSame", unfollowed := true, recurses := true, apart := false, narrowed := true }
def FnExactSpanSameUptoSaid : Prop := fnExactSpanSameUptoRow.holds Try.pinned (OpenSpec.upto fnExactSpanSameSpec)

/-- 'laws.FnExactPairOk', WHERE WHAT IT READS IS OF BULK AT MOST 1048576: true; the input reads as it did. -/
def fnExactPairOkUptoRow : OpenClaim := { program := "ytiplpckgmikmeaa", sum := "a0df58cfe42d49d421876385a14bfd16c15c663cd1150750f688d60a1e5614f5", func := "loop.example/bellman/laws.FnExactPairOk", spec := "fnExactPairOk", apart := false, narrowed := true }
def FnExactPairOkUptoSaid : Prop := fnExactPairOkUptoRow.holds Try.pinned (OpenSpec.upto fnExactPairOkSpec)

/-- 'laws.FnExactSpanOk', WHERE WHAT IT READS IS OF BULK AT MOST 1048576: true; the input reads as it did. -/
def fnExactSpanOkUptoRow : OpenClaim := { program := "ytiplpckgmikmeaa", sum := "a0df58cfe42d49d421876385a14bfd16c15c663cd1150750f688d60a1e5614f5", func := "loop.example/bellman/laws.FnExactSpanOk", spec := "fnExactSpanOk", apart := false, narrowed := true }
def FnExactSpanOkUptoSaid : Prop := fnExactSpanOkUptoRow.holds Try.pinned (OpenSpec.upto fnExactSpanOkSpec)

/-- 'laws.FnOccOrder', WHERE WHAT IT READS IS OF BULK AT MOST 1048576: true; the input reads as it did. -/
def fnOccOrderUptoRow : OpenClaim := { program := "ytiplpckgmikmeaa", sum := "a0df58cfe42d49d421876385a14bfd16c15c663cd1150750f688d60a1e5614f5", func := "loop.example/bellman/laws.FnOccOrder", spec := "fnOccOrder", unfollowed := true, recurses := true, apart := false, narrowed := true }
def FnOccOrderUptoSaid : Prop := fnOccOrderUptoRow.holds Try.pinned (OpenSpec.upto fnOccOrderSpec)

/-- 'laws.FnExactOccJoin', WHERE WHAT IT READS IS OF BULK AT MOST 1048576: true; the input reads as it did. -/
def fnExactOccJoinUptoRow : OpenClaim := { program := "ytiplpckgmikmeaa", sum := "a0df58cfe42d49d421876385a14bfd16c15c663cd1150750f688d60a1e5614f5", func := "loop.example/bellman/laws.FnExactOccJoin", spec := "fnExactOccJoin", recurses := true, apart := false, narrowed := true }
def FnExactOccJoinUptoSaid : Prop := fnExactOccJoinUptoRow.holds Try.pinned (OpenSpec.upto fnExactOccJoinSpec)

/-- 'laws.FnOccJoin', WHERE WHAT IT READS IS OF BULK AT MOST 1048576: true; the input reads as it did. -/
def fnOccJoinUptoRow : OpenClaim := { program := "ytiplpckgmikmeaa", sum := "a0df58cfe42d49d421876385a14bfd16c15c663cd1150750f688d60a1e5614f5", func := "loop.example/bellman/laws.FnOccJoin", spec := "fnOccJoin", unfollowed := true, recurses := true, apart := false, narrowed := true }
def FnOccJoinUptoSaid : Prop := fnOccJoinUptoRow.holds Try.pinned (OpenSpec.upto fnOccJoinSpec)

/-- 'laws.FnExactOccsPut', WHERE WHAT IT READS IS OF BULK AT MOST 1048576: true; the input reads as it did. -/
def fnExactOccsPutUptoRow : OpenClaim := { program := "ytiplpckgmikmeaa", sum := "a0df58cfe42d49d421876385a14bfd16c15c663cd1150750f688d60a1e5614f5", func := "loop.example/bellman/laws.FnExactOccsPut", spec := "fnExactOccsPut", inPlace := ["slices.overlaps[loop.example/bellman/impl.Occ]"], unfollowed := true, recurses := true, apart := false, narrowed := true }
def FnExactOccsPutUptoSaid : Prop := fnExactOccsPutUptoRow.holds Try.pinned (OpenSpec.upto fnExactOccsPutSpec)

/-- 'laws.FnExactOrOf', WHERE WHAT IT READS IS OF BULK AT MOST 1048576: true; the input reads as it did. -/
def fnExactOrOfUptoRow : OpenClaim := { program := "ytiplpckgmikmeaa", sum := "a0df58cfe42d49d421876385a14bfd16c15c663cd1150750f688d60a1e5614f5", func := "loop.example/bellman/laws.FnExactOrOf", spec := "fnExactOrOf", inPlace := ["slices.overlaps[loop.example/bellman/impl.Occ]"], unfollowed := true, recurses := true, apart := false, narrowed := true }
def FnExactOrOfUptoSaid : Prop := fnExactOrOfUptoRow.holds Try.pinned (OpenSpec.upto fnExactOrOfSpec)

/-- 'laws.FnOr', WHERE WHAT IT READS IS OF BULK AT MOST 1048576: true; the input reads as it did. -/
def fnOrUptoRow : OpenClaim := { program := "ytiplpckgmikmeaa", sum := "a0df58cfe42d49d421876385a14bfd16c15c663cd1150750f688d60a1e5614f5", func := "loop.example/bellman/laws.FnOr", spec := "fnOr", inPlace := ["slices.overlaps[loop.example/bellman/impl.Occ]"], unfollowed := true, recurses := true, apart := false, narrowed := true }
def FnOrUptoSaid : Prop := fnOrUptoRow.holds Try.pinned (OpenSpec.upto fnOrSpec)

/-- 'laws.FnPlus', WHERE WHAT IT READS IS OF BULK AT MOST 1048576: true; the input reads as it did. -/
def fnPlusUptoRow : OpenClaim := { program := "ytiplpckgmikmeaa", sum := "a0df58cfe42d49d421876385a14bfd16c15c663cd1150750f688d60a1e5614f5", func := "loop.example/bellman/laws.FnPlus", spec := "fnPlus", inPlace := ["slices.overlaps[loop.example/bellman/impl.Occ]"], unfollowed := true, recurses := true, apart := false, narrowed := true }
def FnPlusUptoSaid : Prop := fnPlusUptoRow.holds Try.pinned (OpenSpec.upto fnPlusSpec)

/-- 'laws.FnPlusOr', WHERE WHAT IT READS IS OF BULK AT MOST 1048576: true; the input reads as it did. -/
def fnPlusOrUptoRow : OpenClaim := { program := "ytiplpckgmikmeaa", sum := "a0df58cfe42d49d421876385a14bfd16c15c663cd1150750f688d60a1e5614f5", func := "loop.example/bellman/laws.FnPlusOr", spec := "fnPlusOr", inPlace := ["slices.overlaps[loop.example/bellman/impl.Occ]"], unfollowed := true, recurses := true, apart := false, narrowed := true }
def FnPlusOrUptoSaid : Prop := fnPlusOrUptoRow.holds Try.pinned (OpenSpec.upto fnPlusOrSpec)

end Rows
end Go.Proofs.Ytiplpckgmikmeaa
