/- The functions that the statement SumsBurst reaches, each told as a plain Lean function, and that the program computes it: the kit's print, with places written anew (see mkq08.py). -/
import Derived.Test.YtfmjcogcoclhpaaFSumsBurstx0
import Derived.Test.YtfmjcogcoclhpaaFSumsBurstx1
import Derived.Test.YtfmjcogcoclhpaaFSumsBurstx2
namespace Go.Proofs.Ytfmjcogcoclhpaa.PSumsBurst
open Go.RowKit Go.Proofs.YtfmjcogcoclhpaaW.PrintWords Go.Proofs.YtfmjcogcoclhpaaW.PrintLast Go.Proofs.YtfmjcogcoclhpaaW.PrintMore
attribute [local go_sem] max2_int min2_int max_two min_two max_three min_three max_four min_four   -- for this text's walks alone
set_option linter.unusedVariables false
set_option linter.unusedSimpArgs false

end Go.Proofs.Ytfmjcogcoclhpaa.PSumsBurst
