-- Written by a program of this place (gprint.py) for this claim.
import Derived.Test.YtpelkgoipijiiaaQRefx0
import Derived.Test.YtpelkgoipijiiaaQRefx1
namespace Go.Proofs.Ytpelkgoipijiiaa.QRef
open Go.RowKit Go.Proofs.YtpelkgoipijiiaaW.PrintWords Go.Proofs.YtpelkgoipijiiaaW.PrintLast Go.Proofs.YtpelkgoipijiiaaW.PrintMore
attribute [local go_sem] max2_int min2_int max_two min_two max_three min_three max_four min_four   -- for this text's walks alone
set_option linter.unusedVariables false
set_option linter.unusedSimpArgs false

end Go.Proofs.Ytpelkgoipijiiaa.QRef
