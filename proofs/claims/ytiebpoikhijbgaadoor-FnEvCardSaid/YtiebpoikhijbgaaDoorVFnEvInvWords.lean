/- Of the words that the kit's print.sh lays: those that this claim uses (cut by prunew.py of this session). -/
import Derived.Test.YtiebpoikhijbgaaDoorVFnEvInv
import Derived.Test.YtiebpoikhijbgaaDoorVFnEvFootNe
namespace Go.Proofs.YtiebpoikhijbgaaDoorW.PrintWords
open Go.RowKit
end Go.Proofs.YtiebpoikhijbgaaDoorW.PrintWords
namespace Go.Proofs.YtiebpoikhijbgaaDoorW.PrintLast
section
variable {ops : Array Oper} {a : Act} {o og : Oper} {g : Nat} {t : Tmp} {u : Bool}
end
end Go.Proofs.YtiebpoikhijbgaaDoorW.PrintLast
