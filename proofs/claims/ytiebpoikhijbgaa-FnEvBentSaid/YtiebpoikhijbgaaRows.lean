/-
  No cell of these rows narrows 'for every input' (looked for: loops, veiled, ifaces, maps, wideKeys, modest, calm, conditions, laid).
  DERIVED. THE GIVEN ROWS OF THIS SEAT. 7 by the template 'for every input the law returns true; each argument reads behind the call as it read before'; 0 by the template 'total and deterministic' (their statements: YtiebpoikhijbgaaTotals.lean).
  GIVEN WITH THE SEED: the statements are not yours to turn. If you find one false, say at which input.
  Laid BY PROGRAM, IN A SANDBOX (cutbox-rows.mjs): the forced cells as the released guide's own fill.sh prints them over the translation 97bf9fb8cb1b2a8c… (all of the seat's roots in one cut). By AI agents, Wed Nov 11 2026. No macro, syntax, notation, axiom, sorry.
-/
import Derived.Test.YtiebpoikhijbgaaChecked
import GoSem.Claim
import GoSem.ClaimJoined
import GoSem.ClaimMapViews
import Derived.JoinedTies
import Derived.KernelRfl
namespace Go.Proofs.Ytiebpoikhijbgaa
/- THE CELL 'sum', in the pinned program and in every row, IS THE sha256 OF THE DUMP (.gsa) THAT YtiebpoikhijbgaaProg.lean LOADS. Nothing in Lean hashes anything: it is a label: what it is worth is what the hold of that sum in a sandbox is worth. -/
noncomputable def Try.pinned : Pinned := { name := "ytiebpoikhijbgaa", sum := "97bf9fb8cb1b2a8c74d95416e7c2f9c0c6deb86f3d4b15401b2ed4ccdedcc7f6", checked := Try.checked }
namespace Rows
def none {H : Type} : Left H := { results := [], args := [] }

/-- 'laws.FnExactConstants': WHATEVER THE INPUT: true; the input reads as it did. -/
def fnExactConstantsSpec : ChangeSpec := { name := "fnExactConstants", fn := fun _ => fun
  | [] => { results := [.lit (.bool true)], args := [] }
  | _ => none }
def fnExactConstantsRow : OpenClaim := { program := "ytiebpoikhijbgaa", sum := "97bf9fb8cb1b2a8c74d95416e7c2f9c0c6deb86f3d4b15401b2ed4ccdedcc7f6", func := "loop.example/bellman/laws.FnExactConstants", spec := "fnExactConstants", apart := false }
def FnExactConstantsSaid : Prop := fnExactConstantsRow.holds Try.pinned (OpenSpec.ofChange fnExactConstantsSpec)

/-- ITS FALSE NEIGHBOUR: 'it returns false'. Refute it at one input. -/
def fnExactConstantsWrong : ChangeSpec := { name := "fnExactConstants", fn := fun _ => fun
  | [] => { results := [.lit (.bool false)], args := [] }
  | _ => none }
def FnExactConstantsWrongFalsely : Prop := fnExactConstantsRow.holds Try.pinned (OpenSpec.ofChange fnExactConstantsWrong)

/-- 'laws.FnExactEvOk': WHATEVER THE INPUT: true; the input reads as it did. -/
def fnExactEvOkSpec : ChangeSpec := { name := "fnExactEvOk", fn := fun _ => fun
  | [d] => { results := [.lit (.bool true)], args := [d] }
  | _ => none }
def fnExactEvOkRow : OpenClaim := { program := "ytiebpoikhijbgaa", sum := "97bf9fb8cb1b2a8c74d95416e7c2f9c0c6deb86f3d4b15401b2ed4ccdedcc7f6", func := "loop.example/bellman/laws.FnExactEvOk", spec := "fnExactEvOk", apart := false }
def FnExactEvOkSaid : Prop := fnExactEvOkRow.holds Try.pinned (OpenSpec.ofChange fnExactEvOkSpec)

/-- ITS FALSE NEIGHBOUR: 'it returns false'. Refute it at one input. -/
def fnExactEvOkWrong : ChangeSpec := { name := "fnExactEvOk", fn := fun _ => fun
  | [d] => { results := [.lit (.bool false)], args := [d] }
  | _ => none }
def FnExactEvOkWrongFalsely : Prop := fnExactEvOkRow.holds Try.pinned (OpenSpec.ofChange fnExactEvOkWrong)

/-- 'laws.FnExactEvsSame': WHATEVER THE INPUT: true; the input reads as it did. -/
def fnExactEvsSameSpec : ChangeSpec := { name := "fnExactEvsSame", fn := fun _ => fun
  | [d1, d2] => { results := [.lit (.bool true)], args := [d1, d2] }
  | _ => none }
def fnExactEvsSameRow : OpenClaim := { program := "ytiebpoikhijbgaa", sum := "97bf9fb8cb1b2a8c74d95416e7c2f9c0c6deb86f3d4b15401b2ed4ccdedcc7f6", func := "loop.example/bellman/laws.FnExactEvsSame", spec := "fnExactEvsSame", apart := false }
def FnExactEvsSameSaid : Prop := fnExactEvsSameRow.holds Try.pinned (OpenSpec.ofChange fnExactEvsSameSpec)

/-- ITS FALSE NEIGHBOUR: 'it returns false'. Refute it at one input. -/
def fnExactEvsSameWrong : ChangeSpec := { name := "fnExactEvsSame", fn := fun _ => fun
  | [d1, d2] => { results := [.lit (.bool false)], args := [d1, d2] }
  | _ => none }
def FnExactEvsSameWrongFalsely : Prop := fnExactEvsSameRow.holds Try.pinned (OpenSpec.ofChange fnExactEvsSameWrong)

/-- 'laws.FnExactEvsOk': WHATEVER THE INPUT: true; the input reads as it did. -/
def fnExactEvsOkSpec : ChangeSpec := { name := "fnExactEvsOk", fn := fun _ => fun
  | [d] => { results := [.lit (.bool true)], args := [d] }
  | _ => none }
def fnExactEvsOkRow : OpenClaim := { program := "ytiebpoikhijbgaa", sum := "97bf9fb8cb1b2a8c74d95416e7c2f9c0c6deb86f3d4b15401b2ed4ccdedcc7f6", func := "loop.example/bellman/laws.FnExactEvsOk", spec := "fnExactEvsOk", apart := false }
def FnExactEvsOkSaid : Prop := fnExactEvsOkRow.holds Try.pinned (OpenSpec.ofChange fnExactEvsOkSpec)

/-- ITS FALSE NEIGHBOUR: 'it returns false'. Refute it at one input. -/
def fnExactEvsOkWrong : ChangeSpec := { name := "fnExactEvsOk", fn := fun _ => fun
  | [d] => { results := [.lit (.bool false)], args := [d] }
  | _ => none }
def FnExactEvsOkWrongFalsely : Prop := fnExactEvsOkRow.holds Try.pinned (OpenSpec.ofChange fnExactEvsOkWrong)

/-- 'laws.FnExactEvsTill': WHATEVER THE INPUT: true; the input reads as it did. -/
def fnExactEvsTillSpec : ChangeSpec := { name := "fnExactEvsTill", fn := fun _ => fun
  | [d1, d2] => { results := [.lit (.bool true)], args := [d1, d2] }
  | _ => none }
def fnExactEvsTillRow : OpenClaim := { program := "ytiebpoikhijbgaa", sum := "97bf9fb8cb1b2a8c74d95416e7c2f9c0c6deb86f3d4b15401b2ed4ccdedcc7f6", func := "loop.example/bellman/laws.FnExactEvsTill", spec := "fnExactEvsTill", apart := false }
def FnExactEvsTillSaid : Prop := fnExactEvsTillRow.holds Try.pinned (OpenSpec.ofChange fnExactEvsTillSpec)

/-- ITS FALSE NEIGHBOUR: 'it returns false'. Refute it at one input. -/
def fnExactEvsTillWrong : ChangeSpec := { name := "fnExactEvsTill", fn := fun _ => fun
  | [d1, d2] => { results := [.lit (.bool false)], args := [d1, d2] }
  | _ => none }
def FnExactEvsTillWrongFalsely : Prop := fnExactEvsTillRow.holds Try.pinned (OpenSpec.ofChange fnExactEvsTillWrong)

/-- 'laws.FnEvBent': WHATEVER THE INPUT: true; the input reads as it did. -/
def fnEvBentSpec : ChangeSpec := { name := "fnEvBent", fn := fun _ => fun
  | [d] => { results := [.lit (.bool true)], args := [d] }
  | _ => none }
def fnEvBentRow : OpenClaim := { program := "ytiebpoikhijbgaa", sum := "97bf9fb8cb1b2a8c74d95416e7c2f9c0c6deb86f3d4b15401b2ed4ccdedcc7f6", func := "loop.example/bellman/laws.FnEvBent", spec := "fnEvBent", apart := false }
def FnEvBentSaid : Prop := fnEvBentRow.holds Try.pinned (OpenSpec.ofChange fnEvBentSpec)

/-- ITS FALSE NEIGHBOUR: 'it returns false'. Refute it at one input. -/
def fnEvBentWrong : ChangeSpec := { name := "fnEvBent", fn := fun _ => fun
  | [d] => { results := [.lit (.bool false)], args := [d] }
  | _ => none }
def FnEvBentWrongFalsely : Prop := fnEvBentRow.holds Try.pinned (OpenSpec.ofChange fnEvBentWrong)

/-- 'laws.FnEvTill': WHATEVER THE INPUT: true; the input reads as it did. -/
def fnEvTillSpec : ChangeSpec := { name := "fnEvTill", fn := fun _ => fun
  | [d1, d2] => { results := [.lit (.bool true)], args := [d1, d2] }
  | _ => none }
def fnEvTillRow : OpenClaim := { program := "ytiebpoikhijbgaa", sum := "97bf9fb8cb1b2a8c74d95416e7c2f9c0c6deb86f3d4b15401b2ed4ccdedcc7f6", func := "loop.example/bellman/laws.FnEvTill", spec := "fnEvTill", apart := false }
def FnEvTillSaid : Prop := fnEvTillRow.holds Try.pinned (OpenSpec.ofChange fnEvTillSpec)

/-- ITS FALSE NEIGHBOUR: 'it returns false'. Refute it at one input. -/
def fnEvTillWrong : ChangeSpec := { name := "fnEvTill", fn := fun _ => fun
  | [d1, d2] => { results := [.lit (.bool false)], args := [d1, d2] }
  | _ => none }
def FnEvTillWrongFalsely : Prop := fnEvTillRow.holds Try.pinned (OpenSpec.ofChange fnEvTillWrong)

/- THE SECOND FORM. 'bulk': how many values and letters a reading holds, each counted each time it is reached (what is shared counts as often as it is met; a slice's spare places count too). A statement '..UptoSaid' is the law's where the arguments, and the package variables that the reading takes, are together of bulk at most 1048576: NARROWER than '..Said'. Prove '..Said' where nothing that the law and all that it calls make is longer than what came in: it says more and counts as full. Else prove '..UptoSaid'. A law counts once. -/
mutual
def uptoBulk {H : Type} : DataW H → Nat
  | .lit (.string bytes) => bytes.length + 1
  | .lit _ => 1
  | .nil => 1
  | .ptr d => uptoBulk d + 1
  | .slice elems spare => uptoBulkAll elems + uptoBulkAll spare + 1
  | .agg parts => uptoBulkAll parts + 1
  | .iface _ d => uptoBulk d + 1
  | .map entries => uptoBulkEntries entries + 1
  | .held _ => 1
def uptoBulkAll {H : Type} : List (DataW H) → Nat
  | [] => 0
  | d :: r => uptoBulk d + uptoBulkAll r
def uptoBulkEntries {H : Type} : List (Lit × DataW H) → Nat
  | [] => 0
  | x :: r => uptoBulkEntry x + uptoBulkEntries r
def uptoBulkEntry {H : Type} : Lit × DataW H → Nat
  | (.string bytes, d) => bytes.length + uptoBulk d + 1
  | (_, d) => uptoBulk d + 1
 end
def uptoSmall : (H : Type) → List (DataW H) → Bool := fun _ ds => decide (uptoBulkAll ds ≤ 1048576)
def OpenSpec.upto (s : _root_.Go.ChangeSpec) : _root_.Go.OpenSpec := { _root_.Go.OpenSpec.ofChange s with cond := some uptoSmall }

/-- 'laws.FnExactConstants', WHERE WHAT IT READS IS OF BULK AT MOST 1048576: true; the input reads as it did. -/
def fnExactConstantsUptoRow : OpenClaim := { program := "ytiebpoikhijbgaa", sum := "97bf9fb8cb1b2a8c74d95416e7c2f9c0c6deb86f3d4b15401b2ed4ccdedcc7f6", func := "loop.example/bellman/laws.FnExactConstants", spec := "fnExactConstants", apart := false, narrowed := true }
def FnExactConstantsUptoSaid : Prop := fnExactConstantsUptoRow.holds Try.pinned (OpenSpec.upto fnExactConstantsSpec)

/-- 'laws.FnExactEvOk', WHERE WHAT IT READS IS OF BULK AT MOST 1048576: true; the input reads as it did. -/
def fnExactEvOkUptoRow : OpenClaim := { program := "ytiebpoikhijbgaa", sum := "97bf9fb8cb1b2a8c74d95416e7c2f9c0c6deb86f3d4b15401b2ed4ccdedcc7f6", func := "loop.example/bellman/laws.FnExactEvOk", spec := "fnExactEvOk", apart := false, narrowed := true }
def FnExactEvOkUptoSaid : Prop := fnExactEvOkUptoRow.holds Try.pinned (OpenSpec.upto fnExactEvOkSpec)

/-- 'laws.FnExactEvsSame', WHERE WHAT IT READS IS OF BULK AT MOST 1048576: true; the input reads as it did. -/
def fnExactEvsSameUptoRow : OpenClaim := { program := "ytiebpoikhijbgaa", sum := "97bf9fb8cb1b2a8c74d95416e7c2f9c0c6deb86f3d4b15401b2ed4ccdedcc7f6", func := "loop.example/bellman/laws.FnExactEvsSame", spec := "fnExactEvsSame", apart := false, narrowed := true }
def FnExactEvsSameUptoSaid : Prop := fnExactEvsSameUptoRow.holds Try.pinned (OpenSpec.upto fnExactEvsSameSpec)

/-- 'laws.FnExactEvsOk', WHERE WHAT IT READS IS OF BULK AT MOST 1048576: true; the input reads as it did. -/
def fnExactEvsOkUptoRow : OpenClaim := { program := "ytiebpoikhijbgaa", sum := "97bf9fb8cb1b2a8c74d95416e7c2f9c0c6deb86f3d4b15401b2ed4ccdedcc7f6", func := "loop.example/bellman/laws.FnExactEvsOk", spec := "fnExactEvsOk", apart := false, narrowed := true }
def FnExactEvsOkUptoSaid : Prop := fnExactEvsOkUptoRow.holds Try.pinned (OpenSpec.upto fnExactEvsOkSpec)

/-- 'laws.FnExactEvsTill', WHERE WHAT IT READS IS OF BULK AT MOST 1048576: true; the input reads as it did. -/
def fnExactEvsTillUptoRow : OpenClaim := { program := "ytiebpoikhijbgaa", sum := "97bf9fb8cb1b2a8c74d95416e7c2f9c0c6deb86f3d4b15401b2ed4ccdedcc7f6", func := "loop.example/bellman/laws.FnExactEvsTill", spec := "fnExactEvsTill", apart := false, narrowed := true }
def FnExactEvsTillUptoSaid : Prop := fnExactEvsTillUptoRow.holds Try.pinned (OpenSpec.upto fnExactEvsTillSpec)

/-- 'laws.FnEvBent', WHERE WHAT IT READS IS OF BULK AT MOST 1048576: true; the input reads as it did. -/
def fnEvBentUptoRow : OpenClaim := { program := "ytiebpoikhijbgaa", sum := "97bf9fb8cb1b2a8c74d95416e7c2f9c0c6deb86f3d4b15401b2ed4ccdedcc7f6", func := "loop.example/bellman/laws.FnEvBent", spec := "fnEvBent", apart := false, narrowed := true }
def FnEvBentUptoSaid : Prop := fnEvBentUptoRow.holds Try.pinned (OpenSpec.upto fnEvBentSpec)

/-- 'laws.FnEvTill', WHERE WHAT IT READS IS OF BULK AT MOST 1048576: true; the input reads as it did. -/
def fnEvTillUptoRow : OpenClaim := { program := "ytiebpoikhijbgaa", sum := "97bf9fb8cb1b2a8c74d95416e7c2f9c0c6deb86f3d4b15401b2ed4ccdedcc7f6", func := "loop.example/bellman/laws.FnEvTill", spec := "fnEvTill", apart := false, narrowed := true }
def FnEvTillUptoSaid : Prop := fnEvTillUptoRow.holds Try.pinned (OpenSpec.upto fnEvTillSpec)

end Rows
end Go.Proofs.Ytiebpoikhijbgaa
