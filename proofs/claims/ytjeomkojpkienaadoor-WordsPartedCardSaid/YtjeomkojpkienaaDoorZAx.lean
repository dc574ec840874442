-- Laid by a program of this session (a turned copy of the print).
import Derived.Test.YtjeomkojpkienaaDoorZAx0
import Derived.Test.YtjeomkojpkienaaDoorZAx1
import Derived.Test.YtjeomkojpkienaaDoorZAx2
import Derived.Test.YtjeomkojpkienaaDoorZAx3
import Derived.Test.YtjeomkojpkienaaDoorZAx4
import Derived.Test.YtjeomkojpkienaaDoorZAx5
import Derived.Test.YtjeomkojpkienaaDoorZAx6
import Derived.Test.YtjeomkojpkienaaDoorZAx7
import Derived.Test.YtjeomkojpkienaaDoorZAx8
import Derived.Test.YtjeomkojpkienaaDoorZAx9
import Derived.Test.YtjeomkojpkienaaDoorZAx10
import Derived.Test.YtjeomkojpkienaaDoorZAx11
namespace Go.Proofs.YtjeomkojpkienaaDoorZ.ZA
open Go.RowKit Go.Proofs.YtjeomkojpkienaaDoorW.PrintWords Go.Proofs.YtjeomkojpkienaaDoorW.PrintLast Go.Proofs.YtjeomkojpkienaaDoorW.PrintMore
attribute [local go_sem] max2_int min2_int max_two min_two max_three min_three max_four min_four   -- for this text's walks alone
set_option linter.unusedVariables false
set_option linter.unusedSimpArgs false

end Go.Proofs.YtjeomkojpkienaaDoorZ.ZA
