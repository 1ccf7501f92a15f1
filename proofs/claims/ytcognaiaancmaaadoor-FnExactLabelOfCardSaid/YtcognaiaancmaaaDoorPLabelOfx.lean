-- made by a program of this session (wip/pext.py) out of the translation; the parts by hand are wip/ext's
import Derived.Test.YtcognaiaancmaaaDoorPLabelOfx0
import Derived.Test.YtcognaiaancmaaaDoorPLabelOfx1
import Derived.Test.YtcognaiaancmaaaDoorPLabelOfx2
import Derived.Test.YtcognaiaancmaaaDoorPLabelOfx3
namespace Go.Proofs.YtcognaiaancmaaaDoor.PLabelOf
open Go.RowKit Go.Proofs.YtcognaiaancmaaaDoorW.PrintWords Go.Proofs.YtcognaiaancmaaaDoorW.PrintLast Go.Proofs.YtcognaiaancmaaaDoorW.PrintMore
attribute [local go_sem] max2_int min2_int max_two min_two max_three min_three max_four min_four   -- for this text's walks alone
set_option linter.unusedVariables false
set_option linter.unusedSimpArgs false

end Go.Proofs.YtcognaiaancmaaaDoor.PLabelOf
