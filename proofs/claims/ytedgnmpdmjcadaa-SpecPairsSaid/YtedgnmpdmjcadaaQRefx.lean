-- Written by a program of this place (gprint.py) for this claim.
import Derived.Test.YtedgnmpdmjcadaaQRefx0
import Derived.Test.YtedgnmpdmjcadaaQRefx1
import Derived.Test.YtedgnmpdmjcadaaQRefx2
namespace Go.Proofs.Ytedgnmpdmjcadaa.QRef
open Go.RowKit Go.Proofs.YtedgnmpdmjcadaaW.PrintWords Go.Proofs.YtedgnmpdmjcadaaW.PrintLast Go.Proofs.YtedgnmpdmjcadaaW.PrintMore
attribute [local go_sem] max2_int min2_int max_two min_two max_three min_three max_four min_four   -- for this text's walks alone
set_option linter.unusedVariables false
set_option linter.unusedSimpArgs false

end Go.Proofs.Ytedgnmpdmjcadaa.QRef
