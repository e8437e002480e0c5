/- FnExactConstants: every exported constant of the program is the document's; no condition. -/
import Derived.Test.YtchfdpmkgjblgaaPFnExactConstantsx1
namespace Go.Proofs.Ytchfdpmkgjblgaa.Pure
open Go.RowKit Go.Proofs.Ytchfdpmkgjblgaa.PFnExactConstants Go.Proofs.YtchfdpmkgjblgaaW.PrintWords Go.Proofs.YtchfdpmkgjblgaaW.PrintLast

/-- YOURS: laws_FnExactConstants.f  = some true
What it reaches (each with k first where it has rounds; `.mono`: more rounds tell the same; `.l0`, ..: its loops, with `.mono_l`): laws_FnExactConstants.f -/
theorem FnExactConstants : laws_FnExactConstants.Pure := by
  show laws_FnExactConstants.f = some true
  rfl

end Go.Proofs.Ytchfdpmkgjblgaa.Pure
