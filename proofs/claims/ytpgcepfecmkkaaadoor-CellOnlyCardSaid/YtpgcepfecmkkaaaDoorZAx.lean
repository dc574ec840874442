-- Laid by a program of this session (a turned copy of the print).
import Derived.Test.YtpgcepfecmkkaaaDoorZAx0
import Derived.Test.YtpgcepfecmkkaaaDoorZAx1
import Derived.Test.YtpgcepfecmkkaaaDoorZAx2
import Derived.Test.YtpgcepfecmkkaaaDoorZAx3
import Derived.Test.YtpgcepfecmkkaaaDoorZAx4
import Derived.Test.YtpgcepfecmkkaaaDoorZAx5
import Derived.Test.YtpgcepfecmkkaaaDoorZAx6
namespace Go.Proofs.YtpgcepfecmkkaaaDoorZ.ZA
open Go.RowKit Go.Proofs.YtpgcepfecmkkaaaDoorW.PrintWords Go.Proofs.YtpgcepfecmkkaaaDoorW.PrintLast Go.Proofs.YtpgcepfecmkkaaaDoorW.PrintMore
attribute [local go_sem] max2_int min2_int max_two min_two max_three min_three max_four min_four   -- for this text's walks alone
set_option linter.unusedVariables false
set_option linter.unusedSimpArgs false

end Go.Proofs.YtpgcepfecmkkaaaDoorZ.ZA
