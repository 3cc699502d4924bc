-- Written by a program of this session over the translation. Not trusted: Lean checks it.
import Derived.Test.YtjgbjahpncfhhaaPS1x0
import Derived.Test.YtjgbjahpncfhhaaPS1x1
import Derived.Test.YtjgbjahpncfhhaaPS1x2
import Derived.Test.YtjgbjahpncfhhaaPS1x3
import Derived.Test.YtjgbjahpncfhhaaPS1x4
import Derived.Test.YtjgbjahpncfhhaaPS1x5
import Derived.Test.YtjgbjahpncfhhaaPS1x6
namespace Go.Proofs.Ytjgbjahpncfhhaa.PS1
open Go.RowKit Go.Proofs.YtjgbjahpncfhhaaW.PrintWords Go.Proofs.YtjgbjahpncfhhaaW.PrintLast Go.Proofs.YtjgbjahpncfhhaaW.PrintMore
attribute [local go_sem] max2_int min2_int max_two min_two max_three min_three max_four min_four   -- for this text's walks alone
set_option linter.unusedVariables false
set_option linter.unusedSimpArgs false

end Go.Proofs.Ytjgbjahpncfhhaa.PS1
