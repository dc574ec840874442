-- Laid by a program of this session (a turned copy of the print).
import Derived.Test.YtoeapiooombomaaDoorZAx0
import Derived.Test.YtoeapiooombomaaDoorZAx1
import Derived.Test.YtoeapiooombomaaDoorZAx2
import Derived.Test.YtoeapiooombomaaDoorZAx3
import Derived.Test.YtoeapiooombomaaDoorZAx4
import Derived.Test.YtoeapiooombomaaDoorZAx5
import Derived.Test.YtoeapiooombomaaDoorZAx6
namespace Go.Proofs.YtoeapiooombomaaDoorZ.ZA
open Go.RowKit Go.Proofs.YtoeapiooombomaaDoorW.PrintWords Go.Proofs.YtoeapiooombomaaDoorW.PrintLast Go.Proofs.YtoeapiooombomaaDoorW.PrintMore
attribute [local go_sem] max2_int min2_int max_two min_two max_three min_three max_four min_four   -- for this text's walks alone
set_option linter.unusedVariables false
set_option linter.unusedSimpArgs false

end Go.Proofs.YtoeapiooombomaaDoorZ.ZA
