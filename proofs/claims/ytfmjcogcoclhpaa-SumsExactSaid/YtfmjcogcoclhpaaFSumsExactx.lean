/- The functions that the statement SumsExact reaches, each told as a plain Lean function, and that the program computes it: the kit's print, with places written anew (see mkq08.py). -/
import Derived.Test.YtfmjcogcoclhpaaFSumsExactx0
import Derived.Test.YtfmjcogcoclhpaaFSumsExactx1
import Derived.Test.YtfmjcogcoclhpaaFSumsExactx2
namespace Go.Proofs.Ytfmjcogcoclhpaa.PSumsExact
open Go.RowKit Go.Proofs.YtfmjcogcoclhpaaW.PrintWords Go.Proofs.YtfmjcogcoclhpaaW.PrintLast Go.Proofs.YtfmjcogcoclhpaaW.PrintMore
attribute [local go_sem] max2_int min2_int max_two min_two max_three min_three max_four min_four   -- for this text's walks alone
set_option linter.unusedVariables false
set_option linter.unusedSimpArgs false

end Go.Proofs.Ytfmjcogcoclhpaa.PSumsExact
