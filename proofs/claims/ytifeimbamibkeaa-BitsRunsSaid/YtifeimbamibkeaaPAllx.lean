-- Written for this claim by a program of this session's own: each Go function that the law uses, as a plain Lean function, with the proof that the machine's call comes to it.
import Derived.Test.YtifeimbamibkeaaPAllx0
import Derived.Test.YtifeimbamibkeaaPAllx1
import Derived.Test.YtifeimbamibkeaaPAllx2
import Derived.Test.YtifeimbamibkeaaPAllx3
import Derived.Test.YtifeimbamibkeaaPAllx4
import Derived.Test.YtifeimbamibkeaaPAllx5
import Derived.Test.YtifeimbamibkeaaPAllx6
import Derived.Test.YtifeimbamibkeaaPAllx7
import Derived.Test.YtifeimbamibkeaaPAllx8
import Derived.Test.YtifeimbamibkeaaPAllx9
import Derived.Test.YtifeimbamibkeaaPAllx10
import Derived.Test.YtifeimbamibkeaaPAllx11
import Derived.Test.YtifeimbamibkeaaPAllx12
import Derived.Test.YtifeimbamibkeaaPAllx13
import Derived.Test.YtifeimbamibkeaaPAllx14
namespace Go.Proofs.Ytifeimbamibkeaa.PAll
open Go.RowKit Go.Proofs.YtifeimbamibkeaaW.PrintWords Go.Proofs.YtifeimbamibkeaaW.PrintLast Go.Proofs.YtifeimbamibkeaaW.PrintMore
attribute [local go_sem] max2_int min2_int max_two min_two max_three min_three max_four min_four   -- for this text's walks alone
set_option linter.unusedVariables false
set_option linter.unusedSimpArgs false

end Go.Proofs.Ytifeimbamibkeaa.PAll
