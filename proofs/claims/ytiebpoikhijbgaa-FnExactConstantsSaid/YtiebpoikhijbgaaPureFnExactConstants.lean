/- Each of the program's constants has the value that the document gives, so that the law FnExactConstants returns true; it takes no input, so no condition is asked. -/
import Derived.Test.YtiebpoikhijbgaaPFnExactConstantsx1
namespace Go.Proofs.Ytiebpoikhijbgaa.Pure
open Go.RowKit Go.Proofs.Ytiebpoikhijbgaa.PFnExactConstants Go.Proofs.YtiebpoikhijbgaaW.PrintWords Go.Proofs.YtiebpoikhijbgaaW.PrintLast

/-- YOURS: laws_FnExactConstants.f  = some true
What it reaches (each with k first where it has rounds; `.mono`: more rounds tell the same; `.l0`, ..: its loops, with `.mono_l`): laws_FnExactConstants.f -/
theorem FnExactConstants : laws_FnExactConstants.Pure := by
  rfl

end Go.Proofs.Ytiebpoikhijbgaa.Pure
