-- made by a program of this session (wip/pext.py) out of the translation; the parts by hand are wip/ext's
import Derived.Test.YtolhlackfphdcaaDoorPNeax0
import Derived.Test.YtolhlackfphdcaaDoorPNeax1
import Derived.Test.YtolhlackfphdcaaDoorPNeax2
import Derived.Test.YtolhlackfphdcaaDoorPNeax3
import Derived.Test.YtolhlackfphdcaaDoorPNeax4
import Derived.Test.YtolhlackfphdcaaDoorPNeax5
import Derived.Test.YtolhlackfphdcaaDoorPNeax6
namespace Go.Proofs.YtolhlackfphdcaaDoor.PNea
open Go.RowKit Go.Proofs.YtolhlackfphdcaaDoorW.PrintWords Go.Proofs.YtolhlackfphdcaaDoorW.PrintLast Go.Proofs.YtolhlackfphdcaaDoorW.PrintMore
attribute [local go_sem] max2_int min2_int max_two min_two max_three min_three max_four min_four   -- for this text's walks alone
set_option linter.unusedVariables false
set_option linter.unusedSimpArgs false

end Go.Proofs.YtolhlackfphdcaaDoor.PNea
