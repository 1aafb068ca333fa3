import Derived.Test.YtkelgdejdnkilaaPFnExactConstantsx1
namespace Go.Proofs.Ytkelgdejdnkilaa.Pure
open Go.RowKit Go.Proofs.Ytkelgdejdnkilaa.PFnExactConstants Go.Proofs.YtkelgdejdnkilaaW.PrintWords Go.Proofs.YtkelgdejdnkilaaW.PrintLast

/-- YOURS: laws_FnExactConstants.f  = some true
What it reaches (each with k first where it has rounds; `.mono`: more rounds tell the same; `.l0`, ..: its loops, with `.mono_l`): laws_FnExactConstants.f -/
theorem FnExactConstants : laws_FnExactConstants.Pure := by
  rfl

end Go.Proofs.Ytkelgdejdnkilaa.Pure
