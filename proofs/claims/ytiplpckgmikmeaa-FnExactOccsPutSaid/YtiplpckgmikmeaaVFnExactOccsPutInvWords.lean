/- Of the words that the kit's print.sh lays: those that this claim uses (cut by prunew.py of this session). -/
import Derived.Test.YtiplpckgmikmeaaVFnExactOccsPutInv
import Derived.Test.YtiplpckgmikmeaaVFnExactOccsPutFootNe
namespace Go.Proofs.YtiplpckgmikmeaaW.PrintWords
open Go.RowKit
end Go.Proofs.YtiplpckgmikmeaaW.PrintWords
namespace Go.Proofs.YtiplpckgmikmeaaW.PrintLast
section
variable {ops : Array Oper} {a : Act} {o og : Oper} {g : Nat} {t : Tmp} {u : Bool}
end
end Go.Proofs.YtiplpckgmikmeaaW.PrintLast
