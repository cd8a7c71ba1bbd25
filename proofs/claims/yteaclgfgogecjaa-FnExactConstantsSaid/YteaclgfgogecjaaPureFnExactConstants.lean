/- The program's constants are the numbers that the document names: no condition, for the call has no argument. -/
import Derived.Test.YteaclgfgogecjaaPFnExactConstantsx1
import Derived.Test.YteaclgfgogecjaaLib
namespace Go.Proofs.Yteaclgfgogecjaa.Pure
open Go.RowKit Go.Proofs.Yteaclgfgogecjaa.PFnExactConstants Go.Proofs.YteaclgfgogecjaaW.PrintWords Go.Proofs.YteaclgfgogecjaaW.PrintLast Go.Proofs.Yteaclgfgogecjaa.Lib
set_option linter.unusedVariables false
set_option linter.unusedSimpArgs false


theorem FnExactConstants : laws_FnExactConstants.Pure := rfl

end Go.Proofs.Yteaclgfgogecjaa.Pure
