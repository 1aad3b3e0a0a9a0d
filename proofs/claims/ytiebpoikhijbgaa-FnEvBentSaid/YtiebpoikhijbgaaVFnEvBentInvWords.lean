/- Of the words that the kit's print.sh lays: those that this claim uses (cut by prunew.py of this session). -/
import Derived.Test.YtiebpoikhijbgaaVFnEvBentInv
import Derived.Test.YtiebpoikhijbgaaVFnEvBentFootNe
namespace Go.Proofs.YtiebpoikhijbgaaW.PrintWords
open Go.RowKit
end Go.Proofs.YtiebpoikhijbgaaW.PrintWords
namespace Go.Proofs.YtiebpoikhijbgaaW.PrintLast
section
variable {ops : Array Oper} {a : Act} {o og : Oper} {g : Nat} {t : Tmp} {u : Bool}
end
end Go.Proofs.YtiebpoikhijbgaaW.PrintLast
