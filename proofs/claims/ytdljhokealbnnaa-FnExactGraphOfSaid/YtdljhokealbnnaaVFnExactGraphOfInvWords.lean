/- Of the words that the kit's print.sh lays: those that this claim uses (cut by prunew.py of this session). -/
import Derived.Test.YtdljhokealbnnaaVFnExactGraphOfInv
import Derived.Test.YtdljhokealbnnaaVFnExactGraphOfFootNe
namespace Go.Proofs.YtdljhokealbnnaaW.PrintWords
open Go.RowKit
end Go.Proofs.YtdljhokealbnnaaW.PrintWords
namespace Go.Proofs.YtdljhokealbnnaaW.PrintLast
section
variable {ops : Array Oper} {a : Act} {o og : Oper} {g : Nat} {t : Tmp} {u : Bool}
end
end Go.Proofs.YtdljhokealbnnaaW.PrintLast
