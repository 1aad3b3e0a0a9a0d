/- Of the words that the kit's print.sh lays: those that this claim uses (cut by prunew.py of this session). -/
import Derived.Test.YtbcdfbiggjfmlaaDoorVFnExactExReadInv
import Derived.Test.YtbcdfbiggjfmlaaDoorVFnExactExReadFootNe
namespace Go.Proofs.YtbcdfbiggjfmlaaDoorW.PrintWords
open Go.RowKit
end Go.Proofs.YtbcdfbiggjfmlaaDoorW.PrintWords
namespace Go.Proofs.YtbcdfbiggjfmlaaDoorW.PrintLast
section
variable {ops : Array Oper} {a : Act} {o og : Oper} {g : Nat} {t : Tmp} {u : Bool}
end
end Go.Proofs.YtbcdfbiggjfmlaaDoorW.PrintLast
