-- made by a program of this session (wip/pext.py) out of the translation; the parts by hand are wip/ext's
import Derived.Test.YthmciempoodhpaaDoorPChkx0
import Derived.Test.YthmciempoodhpaaDoorPChkx1
import Derived.Test.YthmciempoodhpaaDoorPChkx2
import Derived.Test.YthmciempoodhpaaDoorPChkx3
import Derived.Test.YthmciempoodhpaaDoorPChkx4
namespace Go.Proofs.YthmciempoodhpaaDoor.PChk
open Go.RowKit Go.Proofs.YthmciempoodhpaaDoorW.PrintWords Go.Proofs.YthmciempoodhpaaDoorW.PrintLast Go.Proofs.YthmciempoodhpaaDoorW.PrintMore
attribute [local go_sem] max2_int min2_int max_two min_two max_three min_three max_four min_four   -- for this text's walks alone
set_option linter.unusedVariables false
set_option linter.unusedSimpArgs false

end Go.Proofs.YthmciempoodhpaaDoor.PChk
