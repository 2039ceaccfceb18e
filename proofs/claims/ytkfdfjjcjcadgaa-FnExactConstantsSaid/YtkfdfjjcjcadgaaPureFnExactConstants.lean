/- The law FnExactConstants answers true. -/
import Derived.Test.YtkfdfjjcjcadgaaPFnExactConstantsx1
namespace Go.Proofs.Ytkfdfjjcjcadgaa.Pure
open Go.RowKit Go.Proofs.Ytkfdfjjcjcadgaa.PFnExactConstants Go.Proofs.YtkfdfjjcjcadgaaW.PrintWords Go.Proofs.YtkfdfjjcjcadgaaW.PrintLast
theorem FnExactConstants : laws_FnExactConstants.Pure := by
  rfl
end Go.Proofs.Ytkfdfjjcjcadgaa.Pure
