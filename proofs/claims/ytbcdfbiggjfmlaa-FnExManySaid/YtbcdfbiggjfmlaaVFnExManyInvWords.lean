/- Of the words that the kit's print.sh lays: those that this claim uses (cut by prunew.py of this session). -/
import Derived.Test.YtbcdfbiggjfmlaaVFnExManyInv
import Derived.Test.YtbcdfbiggjfmlaaVFnExManyFootNe
namespace Go.Proofs.YtbcdfbiggjfmlaaW.PrintWords
open Go.RowKit
end Go.Proofs.YtbcdfbiggjfmlaaW.PrintWords
namespace Go.Proofs.YtbcdfbiggjfmlaaW.PrintLast
section
variable {ops : Array Oper} {a : Act} {o og : Oper} {g : Nat} {t : Tmp} {u : Bool}
/-- A guarded operation whose guard has yielded what it wants. -/
theorem wanted_on (hg : o.guard = some (g, u)) (ho : ops[g]? = some og) (hd : og.dst = some t) (hv : a.tmps[t]? = some (.bool u)) : Region.wanted o (yielded ops a.tmps) = true := by
  simp [Region.wanted, hg, yielded, ho, hd, hv]
end
end Go.Proofs.YtbcdfbiggjfmlaaW.PrintLast
