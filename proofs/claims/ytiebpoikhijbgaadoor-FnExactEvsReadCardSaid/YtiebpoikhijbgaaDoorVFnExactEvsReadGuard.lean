/- Of the words that the kit's print.sh lays: those that this claim uses (cut by prunew.py of this session). -/
import Derived.Test.YtiebpoikhijbgaaDoorVFnExactEvsReadWords
/-! ### 58. A guarded operation whose guard is known to want it: the same goal without the guard -/
namespace Go.Proofs.YtiebpoikhijbgaaDoorW.PrintWords
open Go.RowKit
section
variable {P : Program} {ops : Array Oper} {rest : List Oper} {o : Oper} {a : Act} {Q : Exit → Act → World → Prop} {W : World}
end
end Go.Proofs.YtiebpoikhijbgaaDoorW.PrintWords
