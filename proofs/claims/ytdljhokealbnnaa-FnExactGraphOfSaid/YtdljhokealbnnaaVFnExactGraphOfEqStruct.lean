/- Of the words that the kit's print.sh lays: those that this claim uses (cut by prunew.py of this session). -/
import Derived.Test.YtdljhokealbnnaaVFnExactGraphOfWords
import Derived.Laws.StructEq
/-! ### 53. '==' of structs as_ one Bool -/
namespace Go.Proofs.YtdljhokealbnnaaW.PrintWords
open Go.RowKit
section
variable {P : Program} {d : Nat} {xs ys : Array Value} {f : Field} {fs : List Field} {a b : Value} {r s : Bool} {w : World}
end
end Go.Proofs.YtdljhokealbnnaaW.PrintWords
