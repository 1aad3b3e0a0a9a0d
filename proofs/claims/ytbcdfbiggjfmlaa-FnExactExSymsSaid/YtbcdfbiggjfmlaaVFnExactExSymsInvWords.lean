/- Of the words that the kit's print.sh lays: those that this claim uses (cut by prunew.py of this session). -/
import Derived.Test.YtbcdfbiggjfmlaaVFnExactExSymsInv
import Derived.Test.YtbcdfbiggjfmlaaVFnExactExSymsFootNe
namespace Go.Proofs.YtbcdfbiggjfmlaaW.PrintWords
open Go.RowKit
end Go.Proofs.YtbcdfbiggjfmlaaW.PrintWords
namespace Go.Proofs.YtbcdfbiggjfmlaaW.PrintLast
section
variable {ops : Array Oper} {a : Act} {o og : Oper} {g : Nat} {t : Tmp} {u : Bool}
end
end Go.Proofs.YtbcdfbiggjfmlaaW.PrintLast
