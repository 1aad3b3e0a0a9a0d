/-
  NARROWER THAN 'FOR EVERY INPUT', by the rows' own cells (each row's printed sentence says how): FnExactExSame: loops · FnExactExOk: loops · FnExactExMany: loops · FnExactExSyms: loops.
  DERIVED. THE GIVEN ROWS OF THIS SEAT. 5 by the template 'for every input the law returns true; each argument reads behind the call as it read before'; 0 by the template 'total and deterministic' (their statements: YtbcdfbiggjfmlaaTotals.lean).
  GIVEN WITH THE SEED: the statements are not yours to turn. If you find one false, say at which input.
  Laid BY PROGRAM, IN A SANDBOX (cutbox-rows.mjs): the forced cells as the released guide's own fill.sh prints them over the translation ba015367e1d95ec8… (all of the seat's roots in one cut). By AI agents, Wed Nov 11 2026. No macro, syntax, notation, axiom, sorry.
-/
import Derived.Test.YtbcdfbiggjfmlaaChecked
import GoSem.Claim
import GoSem.ClaimJoined
import GoSem.ClaimMapViews
import Derived.JoinedTies
import Derived.KernelRfl
namespace Go.Proofs.Ytbcdfbiggjfmlaa
/- THE CELL 'sum', in the pinned program and in every row, IS THE sha256 OF THE DUMP (.gsa) THAT YtbcdfbiggjfmlaaProg.lean LOADS. Nothing in Lean hashes anything: it is a label: what it is worth is what the hold of that sum in a sandbox is worth. -/
noncomputable def Try.pinned : Pinned := { name := "ytbcdfbiggjfmlaa", sum := "ba015367e1d95ec82a81beb53f5cf4667fca879053701429fbb1a0f016585d31", checked := Try.checked }
namespace Rows
def none {H : Type} : Left H := { results := [], args := [] }

/-- 'laws.FnExactExSame': WHATEVER THE INPUT: true; the input reads as it did. -/
def fnExactExSameSpec : ChangeSpec := { name := "fnExactExSame", fn := fun _ => fun
  | [d1, d2] => { results := [.lit (.bool true)], args := [d1, d2] }
  | _ => none }
def fnExactExSameRow : OpenClaim := { program := "ytbcdfbiggjfmlaa", sum := "ba015367e1d95ec82a81beb53f5cf4667fca879053701429fbb1a0f016585d31", func := "loop.example/bellman/laws.FnExactExSame", spec := "fnExactExSame", unfollowed := true, recurses := true, loops := true, apart := false }
def FnExactExSameSaid : Prop := fnExactExSameRow.holds Try.pinned (OpenSpec.ofChange fnExactExSameSpec)

/-- ITS FALSE NEIGHBOUR: 'it returns false'. Refute it at one input. -/
def fnExactExSameWrong : ChangeSpec := { name := "fnExactExSame", fn := fun _ => fun
  | [d1, d2] => { results := [.lit (.bool false)], args := [d1, d2] }
  | _ => none }
def FnExactExSameWrongFalsely : Prop := fnExactExSameRow.holds Try.pinned (OpenSpec.ofChange fnExactExSameWrong)

/-- 'laws.FnExactExOk': WHATEVER THE INPUT: true; the input reads as it did. -/
def fnExactExOkSpec : ChangeSpec := { name := "fnExactExOk", fn := fun _ => fun
  | [d] => { results := [.lit (.bool true)], args := [d] }
  | _ => none }
def fnExactExOkRow : OpenClaim := { program := "ytbcdfbiggjfmlaa", sum := "ba015367e1d95ec82a81beb53f5cf4667fca879053701429fbb1a0f016585d31", func := "loop.example/bellman/laws.FnExactExOk", spec := "fnExactExOk", unfollowed := true, recurses := true, loops := true, apart := false }
def FnExactExOkSaid : Prop := fnExactExOkRow.holds Try.pinned (OpenSpec.ofChange fnExactExOkSpec)

/-- ITS FALSE NEIGHBOUR: 'it returns false'. Refute it at one input. -/
def fnExactExOkWrong : ChangeSpec := { name := "fnExactExOk", fn := fun _ => fun
  | [d] => { results := [.lit (.bool false)], args := [d] }
  | _ => none }
def FnExactExOkWrongFalsely : Prop := fnExactExOkRow.holds Try.pinned (OpenSpec.ofChange fnExactExOkWrong)

/-- 'laws.FnExactExMany': WHATEVER THE INPUT: true; the input reads as it did. -/
def fnExactExManySpec : ChangeSpec := { name := "fnExactExMany", fn := fun _ => fun
  | [d] => { results := [.lit (.bool true)], args := [d] }
  | _ => none }
def fnExactExManyRow : OpenClaim := { program := "ytbcdfbiggjfmlaa", sum := "ba015367e1d95ec82a81beb53f5cf4667fca879053701429fbb1a0f016585d31", func := "loop.example/bellman/laws.FnExactExMany", spec := "fnExactExMany", unfollowed := true, recurses := true, loops := true, apart := false }
def FnExactExManySaid : Prop := fnExactExManyRow.holds Try.pinned (OpenSpec.ofChange fnExactExManySpec)

/-- ITS FALSE NEIGHBOUR: 'it returns false'. Refute it at one input. -/
def fnExactExManyWrong : ChangeSpec := { name := "fnExactExMany", fn := fun _ => fun
  | [d] => { results := [.lit (.bool false)], args := [d] }
  | _ => none }
def FnExactExManyWrongFalsely : Prop := fnExactExManyRow.holds Try.pinned (OpenSpec.ofChange fnExactExManyWrong)

/-- 'laws.FnExactExSyms': WHATEVER THE INPUT: true; the input reads as it did. -/
def fnExactExSymsSpec : ChangeSpec := { name := "fnExactExSyms", fn := fun _ => fun
  | [d] => { results := [.lit (.bool true)], args := [d] }
  | _ => none }
def fnExactExSymsRow : OpenClaim := { program := "ytbcdfbiggjfmlaa", sum := "ba015367e1d95ec82a81beb53f5cf4667fca879053701429fbb1a0f016585d31", func := "loop.example/bellman/laws.FnExactExSyms", spec := "fnExactExSyms", unfollowed := true, recurses := true, loops := true, apart := false }
def FnExactExSymsSaid : Prop := fnExactExSymsRow.holds Try.pinned (OpenSpec.ofChange fnExactExSymsSpec)

/-- ITS FALSE NEIGHBOUR: 'it returns false'. Refute it at one input. -/
def fnExactExSymsWrong : ChangeSpec := { name := "fnExactExSyms", fn := fun _ => fun
  | [d] => { results := [.lit (.bool false)], args := [d] }
  | _ => none }
def FnExactExSymsWrongFalsely : Prop := fnExactExSymsRow.holds Try.pinned (OpenSpec.ofChange fnExactExSymsWrong)

/-- 'laws.FnExMany': WHATEVER THE INPUT: true; the input reads as it did. -/
def fnExManySpec : ChangeSpec := { name := "fnExMany", fn := fun _ => fun
  | [d] => { results := [.lit (.bool true)], args := [d] }
  | _ => none }
def fnExManyRow : OpenClaim := { program := "ytbcdfbiggjfmlaa", sum := "ba015367e1d95ec82a81beb53f5cf4667fca879053701429fbb1a0f016585d31", func := "loop.example/bellman/laws.FnExMany", spec := "fnExMany", unfollowed := true, recurses := true, apart := false }
def FnExManySaid : Prop := fnExManyRow.holds Try.pinned (OpenSpec.ofChange fnExManySpec)

/-- ITS FALSE NEIGHBOUR: 'it returns false'. Refute it at one input. -/
def fnExManyWrong : ChangeSpec := { name := "fnExMany", fn := fun _ => fun
  | [d] => { results := [.lit (.bool false)], args := [d] }
  | _ => none }
def FnExManyWrongFalsely : Prop := fnExManyRow.holds Try.pinned (OpenSpec.ofChange fnExManyWrong)

/- THE SECOND FORM. 'bulk': how many values and letters a reading holds, each counted each time it is reached (what is shared counts as often as it is met; a slice's spare places count too). A statement '..UptoSaid' is the law's where the arguments, and the package variables that the reading takes, are together of bulk at most 1048576: NARROWER than '..Said'. Prove '..Said' where nothing that the law and all that it calls make is longer than what came in: it says more and counts as full. Else prove '..UptoSaid'. A law counts once. -/
mutual
def uptoBulk {H : Type} : DataW H → Nat
  | .lit (.string bytes) => bytes.length + 1
  | .lit _ => 1
  | .nil => 1
  | .ptr d => uptoBulk d + 1
  | .slice elems spare => uptoBulkAll elems + uptoBulkAll spare + 1
  | .agg parts => uptoBulkAll parts + 1
  | .iface _ d => uptoBulk d + 1
  | .map entries => uptoBulkEntries entries + 1
  | .held _ => 1
def uptoBulkAll {H : Type} : List (DataW H) → Nat
  | [] => 0
  | d :: r => uptoBulk d + uptoBulkAll r
def uptoBulkEntries {H : Type} : List (Lit × DataW H) → Nat
  | [] => 0
  | x :: r => uptoBulkEntry x + uptoBulkEntries r
def uptoBulkEntry {H : Type} : Lit × DataW H → Nat
  | (.string bytes, d) => bytes.length + uptoBulk d + 1
  | (_, d) => uptoBulk d + 1
 end
def uptoSmall : (H : Type) → List (DataW H) → Bool := fun _ ds => decide (uptoBulkAll ds ≤ 1048576)
def OpenSpec.upto (s : _root_.Go.ChangeSpec) : _root_.Go.OpenSpec := { _root_.Go.OpenSpec.ofChange s with cond := some uptoSmall }

/-- 'laws.FnExactExSame', WHERE WHAT IT READS IS OF BULK AT MOST 1048576: true; the input reads as it did. -/
def fnExactExSameUptoRow : OpenClaim := { program := "ytbcdfbiggjfmlaa", sum := "ba015367e1d95ec82a81beb53f5cf4667fca879053701429fbb1a0f016585d31", func := "loop.example/bellman/laws.FnExactExSame", spec := "fnExactExSame", unfollowed := true, recurses := true, loops := true, apart := false, narrowed := true }
def FnExactExSameUptoSaid : Prop := fnExactExSameUptoRow.holds Try.pinned (OpenSpec.upto fnExactExSameSpec)

/-- 'laws.FnExactExOk', WHERE WHAT IT READS IS OF BULK AT MOST 1048576: true; the input reads as it did. -/
def fnExactExOkUptoRow : OpenClaim := { program := "ytbcdfbiggjfmlaa", sum := "ba015367e1d95ec82a81beb53f5cf4667fca879053701429fbb1a0f016585d31", func := "loop.example/bellman/laws.FnExactExOk", spec := "fnExactExOk", unfollowed := true, recurses := true, loops := true, apart := false, narrowed := true }
def FnExactExOkUptoSaid : Prop := fnExactExOkUptoRow.holds Try.pinned (OpenSpec.upto fnExactExOkSpec)

/-- 'laws.FnExactExMany', WHERE WHAT IT READS IS OF BULK AT MOST 1048576: true; the input reads as it did. -/
def fnExactExManyUptoRow : OpenClaim := { program := "ytbcdfbiggjfmlaa", sum := "ba015367e1d95ec82a81beb53f5cf4667fca879053701429fbb1a0f016585d31", func := "loop.example/bellman/laws.FnExactExMany", spec := "fnExactExMany", unfollowed := true, recurses := true, loops := true, apart := false, narrowed := true }
def FnExactExManyUptoSaid : Prop := fnExactExManyUptoRow.holds Try.pinned (OpenSpec.upto fnExactExManySpec)

/-- 'laws.FnExactExSyms', WHERE WHAT IT READS IS OF BULK AT MOST 1048576: true; the input reads as it did. -/
def fnExactExSymsUptoRow : OpenClaim := { program := "ytbcdfbiggjfmlaa", sum := "ba015367e1d95ec82a81beb53f5cf4667fca879053701429fbb1a0f016585d31", func := "loop.example/bellman/laws.FnExactExSyms", spec := "fnExactExSyms", unfollowed := true, recurses := true, loops := true, apart := false, narrowed := true }
def FnExactExSymsUptoSaid : Prop := fnExactExSymsUptoRow.holds Try.pinned (OpenSpec.upto fnExactExSymsSpec)

/-- 'laws.FnExMany', WHERE WHAT IT READS IS OF BULK AT MOST 1048576: true; the input reads as it did. -/
def fnExManyUptoRow : OpenClaim := { program := "ytbcdfbiggjfmlaa", sum := "ba015367e1d95ec82a81beb53f5cf4667fca879053701429fbb1a0f016585d31", func := "loop.example/bellman/laws.FnExMany", spec := "fnExMany", unfollowed := true, recurses := true, apart := false, narrowed := true }
def FnExManyUptoSaid : Prop := fnExManyUptoRow.holds Try.pinned (OpenSpec.upto fnExManySpec)

end Rows
end Go.Proofs.Ytbcdfbiggjfmlaa
