-- made by a program of this session (wip/pext.py) out of the translation; the parts by hand are wip/ext's
import Derived.Test.YthmciempoodhpaaDoorPRdlx0
import Derived.Test.YthmciempoodhpaaDoorPRdlx1
import Derived.Test.YthmciempoodhpaaDoorPRdlx2
import Derived.Test.YthmciempoodhpaaDoorPRdlx3
import Derived.Test.YthmciempoodhpaaDoorPRdlx4
import Derived.Test.YthmciempoodhpaaDoorPRdlx5
namespace Go.Proofs.YthmciempoodhpaaDoor.PRdl
open Go.RowKit Go.Proofs.YthmciempoodhpaaDoorW.PrintWords Go.Proofs.YthmciempoodhpaaDoorW.PrintLast Go.Proofs.YthmciempoodhpaaDoorW.PrintMore
attribute [local go_sem] max2_int min2_int max_two min_two max_three min_three max_four min_four   -- for this text's walks alone
set_option linter.unusedVariables false
set_option linter.unusedSimpArgs false

end Go.Proofs.YthmciempoodhpaaDoor.PRdl
