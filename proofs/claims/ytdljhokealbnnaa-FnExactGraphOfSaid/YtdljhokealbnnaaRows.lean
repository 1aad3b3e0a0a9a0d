/-
  NARROWER THAN 'FOR EVERY INPUT', by the rows' own cells (each row's printed sentence says how): FnExactRulesSame: loops · FnExactRuleOk: loops · FnExactRulesOk: loops · FnExactRulesOrder: loops · FnExactGraphMany: loops · FnExactGraphOf: loops.
  DERIVED. THE GIVEN ROWS OF THIS SEAT. 10 by the template 'for every input the law returns true; each argument reads behind the call as it read before'; 0 by the template 'total and deterministic' (their statements: YtdljhokealbnnaaTotals.lean).
  GIVEN WITH THE SEED: the statements are not yours to turn. If you find one false, say at which input.
  Laid BY PROGRAM, IN A SANDBOX (cutbox-rows.mjs): the forced cells as the released guide's own fill.sh prints them over the translation d67052af4c1e8f3f… (all of the seat's roots in one cut). By AI agents, Wed Nov 11 2026. No macro, syntax, notation, axiom, sorry.
-/
import Derived.Test.YtdljhokealbnnaaChecked
import GoSem.Claim
import GoSem.ClaimJoined
import GoSem.ClaimMapViews
import Derived.JoinedTies
import Derived.KernelRfl
namespace Go.Proofs.Ytdljhokealbnnaa
/- THE CELL 'sum', in the pinned program and in every row, IS THE sha256 OF THE DUMP (.gsa) THAT YtdljhokealbnnaaProg.lean LOADS. Nothing in Lean hashes anything: it is a label: what it is worth is what the hold of that sum in a sandbox is worth. -/
noncomputable def Try.pinned : Pinned := { name := "ytdljhokealbnnaa", sum := "d67052af4c1e8f3fbba817f288f3488754c97e64cd2f45465fafcaef7f4cd62b", checked := Try.checked }
namespace Rows
def none {H : Type} : Left H := { results := [], args := [] }

/-- 'laws.FnExactRulesSame': WHATEVER THE INPUT: true; the input reads as it did. -/
def fnExactRulesSameSpec : ChangeSpec := { name := "fnExactRulesSame", fn := fun _ => fun
  | [d1, d2] => { results := [.lit (.bool true)], args := [d1, d2] }
  | _ => none }
def fnExactRulesSameRow : OpenClaim := { program := "ytdljhokealbnnaa", sum := "d67052af4c1e8f3fbba817f288f3488754c97e64cd2f45465fafcaef7f4cd62b", func := "loop.example/bellman/laws.FnExactRulesSame", spec := "fnExactRulesSame", unfollowed := true, recurses := true, loops := true, apart := false }
def FnExactRulesSameSaid : Prop := fnExactRulesSameRow.holds Try.pinned (OpenSpec.ofChange fnExactRulesSameSpec)

/-- ITS FALSE NEIGHBOUR: 'it returns false'. Refute it at one input. -/
def fnExactRulesSameWrong : ChangeSpec := { name := "fnExactRulesSame", fn := fun _ => fun
  | [d1, d2] => { results := [.lit (.bool false)], args := [d1, d2] }
  | _ => none }
def FnExactRulesSameWrongFalsely : Prop := fnExactRulesSameRow.holds Try.pinned (OpenSpec.ofChange fnExactRulesSameWrong)

/-- 'laws.FnExactRuleOk': WHATEVER THE INPUT: true; the input reads as it did. -/
def fnExactRuleOkSpec : ChangeSpec := { name := "fnExactRuleOk", fn := fun _ => fun
  | [d] => { results := [.lit (.bool true)], args := [d] }
  | _ => none }
def fnExactRuleOkRow : OpenClaim := { program := "ytdljhokealbnnaa", sum := "d67052af4c1e8f3fbba817f288f3488754c97e64cd2f45465fafcaef7f4cd62b", func := "loop.example/bellman/laws.FnExactRuleOk", spec := "fnExactRuleOk", unfollowed := true, recurses := true, loops := true, apart := false }
def FnExactRuleOkSaid : Prop := fnExactRuleOkRow.holds Try.pinned (OpenSpec.ofChange fnExactRuleOkSpec)

/-- ITS FALSE NEIGHBOUR: 'it returns false'. Refute it at one input. -/
def fnExactRuleOkWrong : ChangeSpec := { name := "fnExactRuleOk", fn := fun _ => fun
  | [d] => { results := [.lit (.bool false)], args := [d] }
  | _ => none }
def FnExactRuleOkWrongFalsely : Prop := fnExactRuleOkRow.holds Try.pinned (OpenSpec.ofChange fnExactRuleOkWrong)

/-- 'laws.FnExactRulesOk': WHATEVER THE INPUT: true; the input reads as it did. -/
def fnExactRulesOkSpec : ChangeSpec := { name := "fnExactRulesOk", fn := fun _ => fun
  | [d] => { results := [.lit (.bool true)], args := [d] }
  | _ => none }
def fnExactRulesOkRow : OpenClaim := { program := "ytdljhokealbnnaa", sum := "d67052af4c1e8f3fbba817f288f3488754c97e64cd2f45465fafcaef7f4cd62b", func := "loop.example/bellman/laws.FnExactRulesOk", spec := "fnExactRulesOk", unfollowed := true, recurses := true, loops := true, apart := false }
def FnExactRulesOkSaid : Prop := fnExactRulesOkRow.holds Try.pinned (OpenSpec.ofChange fnExactRulesOkSpec)

/-- ITS FALSE NEIGHBOUR: 'it returns false'. Refute it at one input. -/
def fnExactRulesOkWrong : ChangeSpec := { name := "fnExactRulesOk", fn := fun _ => fun
  | [d] => { results := [.lit (.bool false)], args := [d] }
  | _ => none }
def FnExactRulesOkWrongFalsely : Prop := fnExactRulesOkRow.holds Try.pinned (OpenSpec.ofChange fnExactRulesOkWrong)

/-- 'laws.FnExactRulesOrder': WHATEVER THE INPUT: true; the input reads as it did. -/
def fnExactRulesOrderSpec : ChangeSpec := { name := "fnExactRulesOrder", fn := fun _ => fun
  | [d] => { results := [.lit (.bool true)], args := [d] }
  | _ => none }
def fnExactRulesOrderRow : OpenClaim := { program := "ytdljhokealbnnaa", sum := "d67052af4c1e8f3fbba817f288f3488754c97e64cd2f45465fafcaef7f4cd62b", func := "loop.example/bellman/laws.FnExactRulesOrder", spec := "fnExactRulesOrder", unfollowed := true, recurses := true, loops := true, apart := false }
def FnExactRulesOrderSaid : Prop := fnExactRulesOrderRow.holds Try.pinned (OpenSpec.ofChange fnExactRulesOrderSpec)

/-- ITS FALSE NEIGHBOUR: 'it returns false'. Refute it at one input. -/
def fnExactRulesOrderWrong : ChangeSpec := { name := "fnExactRulesOrder", fn := fun _ => fun
  | [d] => { results := [.lit (.bool false)], args := [d] }
  | _ => none }
def FnExactRulesOrderWrongFalsely : Prop := fnExactRulesOrderRow.holds Try.pinned (OpenSpec.ofChange fnExactRulesOrderWrong)

/-- 'laws.FnRules': WHATEVER THE INPUT: true; the input reads as it did. -/
def fnRulesSpec : ChangeSpec := { name := "fnRules", fn := fun _ => fun
  | [d] => { results := [.lit (.bool true)], args := [d] }
  | _ => none }
def fnRulesRow : OpenClaim := { program := "ytdljhokealbnnaa", sum := "d67052af4c1e8f3fbba817f288f3488754c97e64cd2f45465fafcaef7f4cd62b", func := "loop.example/bellman/laws.FnRules", spec := "fnRules", unfollowed := true, recurses := true, apart := false }
def FnRulesSaid : Prop := fnRulesRow.holds Try.pinned (OpenSpec.ofChange fnRulesSpec)

/-- ITS FALSE NEIGHBOUR: 'it returns false'. Refute it at one input. -/
def fnRulesWrong : ChangeSpec := { name := "fnRules", fn := fun _ => fun
  | [d] => { results := [.lit (.bool false)], args := [d] }
  | _ => none }
def FnRulesWrongFalsely : Prop := fnRulesRow.holds Try.pinned (OpenSpec.ofChange fnRulesWrong)

/-- 'laws.FnRulesTurn': WHATEVER THE INPUT: true; the input reads as it did. -/
def fnRulesTurnSpec : ChangeSpec := { name := "fnRulesTurn", fn := fun _ => fun
  | [d] => { results := [.lit (.bool true)], args := [d] }
  | _ => none }
def fnRulesTurnRow : OpenClaim := { program := "ytdljhokealbnnaa", sum := "d67052af4c1e8f3fbba817f288f3488754c97e64cd2f45465fafcaef7f4cd62b", func := "loop.example/bellman/laws.FnRulesTurn", spec := "fnRulesTurn", unfollowed := true, recurses := true, apart := false }
def FnRulesTurnSaid : Prop := fnRulesTurnRow.holds Try.pinned (OpenSpec.ofChange fnRulesTurnSpec)

/-- ITS FALSE NEIGHBOUR: 'it returns false'. Refute it at one input. -/
def fnRulesTurnWrong : ChangeSpec := { name := "fnRulesTurn", fn := fun _ => fun
  | [d] => { results := [.lit (.bool false)], args := [d] }
  | _ => none }
def FnRulesTurnWrongFalsely : Prop := fnRulesTurnRow.holds Try.pinned (OpenSpec.ofChange fnRulesTurnWrong)

/-- 'laws.FnExactGraphMany': WHATEVER THE INPUT: true; the input reads as it did. -/
def fnExactGraphManySpec : ChangeSpec := { name := "fnExactGraphMany", fn := fun _ => fun
  | [d] => { results := [.lit (.bool true)], args := [d] }
  | _ => none }
def fnExactGraphManyRow : OpenClaim := { program := "ytdljhokealbnnaa", sum := "d67052af4c1e8f3fbba817f288f3488754c97e64cd2f45465fafcaef7f4cd62b", func := "loop.example/bellman/laws.FnExactGraphMany", spec := "fnExactGraphMany", unfollowed := true, recurses := true, loops := true, apart := false }
def FnExactGraphManySaid : Prop := fnExactGraphManyRow.holds Try.pinned (OpenSpec.ofChange fnExactGraphManySpec)

/-- ITS FALSE NEIGHBOUR: 'it returns false'. Refute it at one input. -/
def fnExactGraphManyWrong : ChangeSpec := { name := "fnExactGraphMany", fn := fun _ => fun
  | [d] => { results := [.lit (.bool false)], args := [d] }
  | _ => none }
def FnExactGraphManyWrongFalsely : Prop := fnExactGraphManyRow.holds Try.pinned (OpenSpec.ofChange fnExactGraphManyWrong)

/-- 'laws.FnExactGraphOf': WHATEVER THE INPUT: true; the input reads as it did. -/
def fnExactGraphOfSpec : ChangeSpec := { name := "fnExactGraphOf", fn := fun _ => fun
  | [d1, d2] => { results := [.lit (.bool true)], args := [d1, d2] }
  | _ => none }
def fnExactGraphOfRow : OpenClaim := { program := "ytdljhokealbnnaa", sum := "d67052af4c1e8f3fbba817f288f3488754c97e64cd2f45465fafcaef7f4cd62b", func := "loop.example/bellman/laws.FnExactGraphOf", spec := "fnExactGraphOf", unfollowed := true, recurses := true, loops := true, apart := false }
def FnExactGraphOfSaid : Prop := fnExactGraphOfRow.holds Try.pinned (OpenSpec.ofChange fnExactGraphOfSpec)

/-- ITS FALSE NEIGHBOUR: 'it returns false'. Refute it at one input. -/
def fnExactGraphOfWrong : ChangeSpec := { name := "fnExactGraphOf", fn := fun _ => fun
  | [d1, d2] => { results := [.lit (.bool false)], args := [d1, d2] }
  | _ => none }
def FnExactGraphOfWrongFalsely : Prop := fnExactGraphOfRow.holds Try.pinned (OpenSpec.ofChange fnExactGraphOfWrong)

/-- 'laws.FnExactGraphOk': WHATEVER THE INPUT: true; the input reads as it did. -/
def fnExactGraphOkSpec : ChangeSpec := { name := "fnExactGraphOk", fn := fun _ => fun
  | [d] => { results := [.lit (.bool true)], args := [d] }
  | _ => none }
def fnExactGraphOkRow : OpenClaim := { program := "ytdljhokealbnnaa", sum := "d67052af4c1e8f3fbba817f288f3488754c97e64cd2f45465fafcaef7f4cd62b", func := "loop.example/bellman/laws.FnExactGraphOk", spec := "fnExactGraphOk", unfollowed := true, recurses := true, apart := false }
def FnExactGraphOkSaid : Prop := fnExactGraphOkRow.holds Try.pinned (OpenSpec.ofChange fnExactGraphOkSpec)

/-- ITS FALSE NEIGHBOUR: 'it returns false'. Refute it at one input. -/
def fnExactGraphOkWrong : ChangeSpec := { name := "fnExactGraphOk", fn := fun _ => fun
  | [d] => { results := [.lit (.bool false)], args := [d] }
  | _ => none }
def FnExactGraphOkWrongFalsely : Prop := fnExactGraphOkRow.holds Try.pinned (OpenSpec.ofChange fnExactGraphOkWrong)

/-- 'laws.FnExactGraphSame': WHATEVER THE INPUT: true; the input reads as it did. -/
def fnExactGraphSameSpec : ChangeSpec := { name := "fnExactGraphSame", fn := fun _ => fun
  | [d1, d2] => { results := [.lit (.bool true)], args := [d1, d2] }
  | _ => none }
def fnExactGraphSameRow : OpenClaim := { program := "ytdljhokealbnnaa", sum := "d67052af4c1e8f3fbba817f288f3488754c97e64cd2f45465fafcaef7f4cd62b", func := "loop.example/bellman/laws.FnExactGraphSame", spec := "fnExactGraphSame", unfollowed := true, recurses := true, apart := false }
def FnExactGraphSameSaid : Prop := fnExactGraphSameRow.holds Try.pinned (OpenSpec.ofChange fnExactGraphSameSpec)

/-- ITS FALSE NEIGHBOUR: 'it returns false'. Refute it at one input. -/
def fnExactGraphSameWrong : ChangeSpec := { name := "fnExactGraphSame", fn := fun _ => fun
  | [d1, d2] => { results := [.lit (.bool false)], args := [d1, d2] }
  | _ => none }
def FnExactGraphSameWrongFalsely : Prop := fnExactGraphSameRow.holds Try.pinned (OpenSpec.ofChange fnExactGraphSameWrong)

/- THE SECOND FORM. 'bulk': how many values and letters a reading holds, each counted each time it is reached (what is shared counts as often as it is met; a slice's spare places count too). A statement '..UptoSaid' is the law's where the arguments, and the package variables that the reading takes, are together of bulk at most 1048576: NARROWER than '..Said'. Prove '..Said' where nothing that the law and all that it calls make is longer than what came in: it says more and counts as full. Else prove '..UptoSaid'. A law counts once. -/
mutual
def uptoBulk {H : Type} : DataW H → Nat
  | .lit (.string bytes) => bytes.length + 1
  | .lit _ => 1
  | .nil => 1
  | .ptr d => uptoBulk d + 1
  | .slice elems spare => uptoBulkAll elems + uptoBulkAll spare + 1
  | .agg parts => uptoBulkAll parts + 1
  | .iface _ d => uptoBulk d + 1
  | .map entries => uptoBulkEntries entries + 1
  | .held _ => 1
def uptoBulkAll {H : Type} : List (DataW H) → Nat
  | [] => 0
  | d :: r => uptoBulk d + uptoBulkAll r
def uptoBulkEntries {H : Type} : List (Lit × DataW H) → Nat
  | [] => 0
  | x :: r => uptoBulkEntry x + uptoBulkEntries r
def uptoBulkEntry {H : Type} : Lit × DataW H → Nat
  | (.string bytes, d) => bytes.length + uptoBulk d + 1
  | (_, d) => uptoBulk d + 1
 end
def uptoSmall : (H : Type) → List (DataW H) → Bool := fun _ ds => decide (uptoBulkAll ds ≤ 1048576)
def OpenSpec.upto (s : _root_.Go.ChangeSpec) : _root_.Go.OpenSpec := { _root_.Go.OpenSpec.ofChange s with cond := some uptoSmall }

/-- 'laws.FnExactRulesSame', WHERE WHAT IT READS IS OF BULK AT MOST 1048576: true; the input reads as it did. -/
def fnExactRulesSameUptoRow : OpenClaim := { program := "ytdljhokealbnnaa", sum := "d67052af4c1e8f3fbba817f288f3488754c97e64cd2f45465fafcaef7f4cd62b", func := "loop.example/bellman/laws.FnExactRulesSame", spec := "fnExactRulesSame", unfollowed := true, recurses := true, loops := true, apart := false, narrowed := true }
def FnExactRulesSameUptoSaid : Prop := fnExactRulesSameUptoRow.holds Try.pinned (OpenSpec.upto fnExactRulesSameSpec)

/-- 'laws.FnExactRuleOk', WHERE WHAT IT READS IS OF BULK AT MOST 1048576: true; the input reads as it did. -/
def fnExactRuleOkUptoRow : OpenClaim := { program := "ytdljhokealbnnaa", sum := "d67052af4c1e8f3fbba817f288f3488754c97e64cd2f45465fafcaef7f4cd62b", func := "loop.example/bellman/laws.FnExactRuleOk", spec := "fnExactRuleOk", unfollowed := true, recurses := true, loops := true, apart := false, narrowed := true }
def FnExactRuleOkUptoSaid : Prop := fnExactRuleOkUptoRow.holds Try.pinned (OpenSpec.upto fnExactRuleOkSpec)

/-- 'laws.FnExactRulesOk', WHERE WHAT IT READS IS OF BULK AT MOST 1048576: true; the input reads as it did. -/
def fnExactRulesOkUptoRow : OpenClaim := { program := "ytdljhokealbnnaa", sum := "d67052af4c1e8f3fbba817f288f3488754c97e64cd2f45465fafcaef7f4cd62b", func := "loop.example/bellman/laws.FnExactRulesOk", spec := "fnExactRulesOk", unfollowed := true, recurses := true, loops := true, apart := false, narrowed := true }
def FnExactRulesOkUptoSaid : Prop := fnExactRulesOkUptoRow.holds Try.pinned (OpenSpec.upto fnExactRulesOkSpec)

/-- 'laws.FnExactRulesOrder', WHERE WHAT IT READS IS OF BULK AT MOST 1048576: true; the input reads as it did. -/
def fnExactRulesOrderUptoRow : OpenClaim := { program := "ytdljhokealbnnaa", sum := "d67052af4c1e8f3fbba817f288f3488754c97e64cd2f45465fafcaef7f4cd62b", func := "loop.example/bellman/laws.FnExactRulesOrder", spec := "fnExactRulesOrder", unfollowed := true, recurses := true, loops := true, apart := false, narrowed := true }
def FnExactRulesOrderUptoSaid : Prop := fnExactRulesOrderUptoRow.holds Try.pinned (OpenSpec.upto fnExactRulesOrderSpec)

/-- 'laws.FnRules', WHERE WHAT IT READS IS OF BULK AT MOST 1048576: true; the input reads as it did. -/
def fnRulesUptoRow : OpenClaim := { program := "ytdljhokealbnnaa", sum := "d67052af4c1e8f3fbba817f288f3488754c97e64cd2f45465fafcaef7f4cd62b", func := "loop.example/bellman/laws.FnRules", spec := "fnRules", unfollowed := true, recurses := true, apart := false, narrowed := true }
def FnRulesUptoSaid : Prop := fnRulesUptoRow.holds Try.pinned (OpenSpec.upto fnRulesSpec)

/-- 'laws.FnRulesTurn', WHERE WHAT IT READS IS OF BULK AT MOST 1048576: true; the input reads as it did. -/
def fnRulesTurnUptoRow : OpenClaim := { program := "ytdljhokealbnnaa", sum := "d67052af4c1e8f3fbba817f288f3488754c97e64cd2f45465fafcaef7f4cd62b", func := "loop.example/bellman/laws.FnRulesTurn", spec := "fnRulesTurn", unfollowed := true, recurses := true, apart := false, narrowed := true }
def FnRulesTurnUptoSaid : Prop := fnRulesTurnUptoRow.holds Try.pinned (OpenSpec.upto fnRulesTurnSpec)

/-- 'laws.FnExactGraphMany', WHERE WHAT IT READS IS OF BULK AT MOST 1048576: true; the input reads as it did. -/
def fnExactGraphManyUptoRow : OpenClaim := { program := "ytdljhokealbnnaa", sum := "d67052af4c1e8f3fbba817f288f3488754c97e64cd2f45465fafcaef7f4cd62b", func := "loop.example/bellman/laws.FnExactGraphMany", spec := "fnExactGraphMany", unfollowed := true, recurses := true, loops := true, apart := false, narrowed := true }
def FnExactGraphManyUptoSaid : Prop := fnExactGraphManyUptoRow.holds Try.pinned (OpenSpec.upto fnExactGraphManySpec)

/-- 'laws.FnExactGraphOf', WHERE WHAT IT READS IS OF BULK AT MOST 1048576: true; the input reads as it did. -/
def fnExactGraphOfUptoRow : OpenClaim := { program := "ytdljhokealbnnaa", sum := "d67052af4c1e8f3fbba817f288f3488754c97e64cd2f45465fafcaef7f4cd62b", func := "loop.example/bellman/laws.FnExactGraphOf", spec := "fnExactGraphOf", unfollowed := true, recurses := true, loops := true, apart := false, narrowed := true }
def FnExactGraphOfUptoSaid : Prop := fnExactGraphOfUptoRow.holds Try.pinned (OpenSpec.upto fnExactGraphOfSpec)

/-- 'laws.FnExactGraphOk', WHERE WHAT IT READS IS OF BULK AT MOST 1048576: true; the input reads as it did. -/
def fnExactGraphOkUptoRow : OpenClaim := { program := "ytdljhokealbnnaa", sum := "d67052af4c1e8f3fbba817f288f3488754c97e64cd2f45465fafcaef7f4cd62b", func := "loop.example/bellman/laws.FnExactGraphOk", spec := "fnExactGraphOk", unfollowed := true, recurses := true, apart := false, narrowed := true }
def FnExactGraphOkUptoSaid : Prop := fnExactGraphOkUptoRow.holds Try.pinned (OpenSpec.upto fnExactGraphOkSpec)

/-- 'laws.FnExactGraphSame', WHERE WHAT IT READS IS OF BULK AT MOST 1048576: true; the input reads as it did. -/
def fnExactGraphSameUptoRow : OpenClaim := { program := "ytdljhokealbnnaa", sum := "d67052af4c1e8f3fbba817f288f3488754c97e64cd2f45465fafcaef7f4cd62b", func := "loop.example/bellman/laws.FnExactGraphSame", spec := "fnExactGraphSame", unfollowed := true, recurses := true, apart := false, narrowed := true }
def FnExactGraphSameUptoSaid : Prop := fnExactGraphSameUptoRow.holds Try.pinned (OpenSpec.upto fnExactGraphSameSpec)

end Rows
end Go.Proofs.Ytdljhokealbnnaa
