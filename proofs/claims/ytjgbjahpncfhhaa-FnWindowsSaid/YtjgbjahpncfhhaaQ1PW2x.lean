-- SHRUNK: rows drawn in by a program of this session
import Derived.Test.YtjgbjahpncfhhaaQ1PW2x0
import Derived.Test.YtjgbjahpncfhhaaQ1PW2x1
import Derived.Test.YtjgbjahpncfhhaaQ1PW2x2
import Derived.Test.YtjgbjahpncfhhaaQ1PW2x3
import Derived.Test.YtjgbjahpncfhhaaQ1PW2x4
import Derived.Test.YtjgbjahpncfhhaaQ1PW2x5
import Derived.Test.YtjgbjahpncfhhaaQ1PW2x6
import Derived.Test.YtjgbjahpncfhhaaQ1PW2x7
namespace Go.Proofs.Ytjgbjahpncfhhaa.PW2
open Go.RowKit Go.Proofs.YtjgbjahpncfhhaaW.PrintWords Go.Proofs.YtjgbjahpncfhhaaW.PrintLast Go.Proofs.YtjgbjahpncfhhaaW.PrintMore
attribute [local go_sem] max2_int min2_int max_two min_two max_three min_three max_four min_four   -- for this text's walks alone
set_option linter.unusedVariables false
set_option linter.unusedSimpArgs false
end Go.Proofs.Ytjgbjahpncfhhaa.PW2
