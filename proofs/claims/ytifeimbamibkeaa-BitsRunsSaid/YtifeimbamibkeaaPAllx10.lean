-- Written for this claim by a program of this session's own: each Go function that the law uses, as a plain Lean function, with the proof that the machine's call comes to it.
import Derived.Test.YtifeimbamibkeaaPAllx0
namespace Go.Proofs.Ytifeimbamibkeaa.PAll
open Go.RowKit Go.Proofs.YtifeimbamibkeaaW.PrintWords Go.Proofs.YtifeimbamibkeaaW.PrintLast Go.Proofs.YtifeimbamibkeaaW.PrintMore
attribute [local go_sem] max2_int min2_int max_two min_two max_three min_three max_four min_four   -- for this text's walks alone
set_option linter.unusedVariables false
set_option linter.unusedSimpArgs false

attribute [local go_sem] setCell_drewN_
-- NOT PRINTED: function 7 (atticlaw02_BitsRuns)

end Go.Proofs.Ytifeimbamibkeaa.PAll
