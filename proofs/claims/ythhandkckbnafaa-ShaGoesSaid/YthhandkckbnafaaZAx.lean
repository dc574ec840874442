-- Laid by a program of this session (a turned copy of the print).
import Derived.Test.YthhandkckbnafaaZAx0
import Derived.Test.YthhandkckbnafaaZAx1
import Derived.Test.YthhandkckbnafaaZAx2
import Derived.Test.YthhandkckbnafaaZAx3
import Derived.Test.YthhandkckbnafaaZAx4
import Derived.Test.YthhandkckbnafaaZAx5
namespace Go.Proofs.YthhandkckbnafaaZ.ZA
open Go.RowKit Go.Proofs.YthhandkckbnafaaW.PrintWords Go.Proofs.YthhandkckbnafaaW.PrintLast Go.Proofs.YthhandkckbnafaaW.PrintMore
attribute [local go_sem] max2_int min2_int max_two min_two max_three min_three max_four min_four   -- for this text's walks alone
set_option linter.unusedVariables false
set_option linter.unusedSimpArgs false

end Go.Proofs.YthhandkckbnafaaZ.ZA
