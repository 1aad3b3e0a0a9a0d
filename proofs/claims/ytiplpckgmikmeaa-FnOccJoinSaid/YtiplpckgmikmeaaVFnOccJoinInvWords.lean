/- Of the words that the kit's print.sh lays: those that this claim uses (cut by prunew.py of this session). -/
import Derived.Test.YtiplpckgmikmeaaVFnOccJoinInv
import Derived.Test.YtiplpckgmikmeaaVFnOccJoinFootNe
namespace Go.Proofs.YtiplpckgmikmeaaW.PrintWords
open Go.RowKit
end Go.Proofs.YtiplpckgmikmeaaW.PrintWords
namespace Go.Proofs.YtiplpckgmikmeaaW.PrintLast
section
variable {ops : Array Oper} {a : Act} {o og : Oper} {g : Nat} {t : Tmp} {u : Bool}
/-- An operand out of its slot. -/
theorem eval_of {v : Value} (h : a.tmps[t]? = some v) : a.eval (.tmp t) = v := by simp [Act.eval, h]
/-- A guarded operation whose guard has yielded what it wants. -/
theorem wanted_on (hg : o.guard = some (g, u)) (ho : ops[g]? = some og) (hd : og.dst = some t) (hv : a.tmps[t]? = some (.bool u)) : Region.wanted o (yielded ops a.tmps) = true := by
  simp [Region.wanted, hg, yielded, ho, hd, hv]
end
end Go.Proofs.YtiplpckgmikmeaaW.PrintLast
