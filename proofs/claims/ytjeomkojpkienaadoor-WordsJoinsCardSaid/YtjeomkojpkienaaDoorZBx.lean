-- Laid by a program of this session (a turned copy of the print).
import Derived.Test.YtjeomkojpkienaaDoorZBx0
import Derived.Test.YtjeomkojpkienaaDoorZBx1
import Derived.Test.YtjeomkojpkienaaDoorZBx2
import Derived.Test.YtjeomkojpkienaaDoorZBx3
import Derived.Test.YtjeomkojpkienaaDoorZBx4
namespace Go.Proofs.YtjeomkojpkienaaDoorZ.ZB
open Go.RowKit Go.Proofs.YtjeomkojpkienaaDoorW.PrintWords Go.Proofs.YtjeomkojpkienaaDoorW.PrintLast Go.Proofs.YtjeomkojpkienaaDoorW.PrintMore
attribute [local go_sem] max2_int min2_int max_two min_two max_three min_three max_four min_four   -- for this text's walks alone
set_option linter.unusedVariables false
set_option linter.unusedSimpArgs false

end Go.Proofs.YtjeomkojpkienaaDoorZ.ZB
