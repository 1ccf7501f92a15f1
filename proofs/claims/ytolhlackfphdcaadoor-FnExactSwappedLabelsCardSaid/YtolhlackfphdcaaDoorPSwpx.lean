-- made by a program of this session (wip/pext.py) out of the translation; the parts by hand are wip/ext's
import Derived.Test.YtolhlackfphdcaaDoorPSwpx0
import Derived.Test.YtolhlackfphdcaaDoorPSwpx1
import Derived.Test.YtolhlackfphdcaaDoorPSwpx2
import Derived.Test.YtolhlackfphdcaaDoorPSwpx3
import Derived.Test.YtolhlackfphdcaaDoorPSwpx4
import Derived.Test.YtolhlackfphdcaaDoorPSwpx5
import Derived.Test.YtolhlackfphdcaaDoorPSwpx6
namespace Go.Proofs.YtolhlackfphdcaaDoor.PSwp
open Go.RowKit Go.Proofs.YtolhlackfphdcaaDoorW.PrintWords Go.Proofs.YtolhlackfphdcaaDoorW.PrintLast Go.Proofs.YtolhlackfphdcaaDoorW.PrintMore
attribute [local go_sem] max2_int min2_int max_two min_two max_three min_three max_four min_four   -- for this text's walks alone
set_option linter.unusedVariables false
set_option linter.unusedSimpArgs false

end Go.Proofs.YtolhlackfphdcaaDoor.PSwp
