-- written by a program of this session (myprint) out of the translation
import Derived.Test.YthggjlfiliggjaaQFrx0
import Derived.Test.YthggjlfiliggjaaQFrx1
import Derived.Test.YthggjlfiliggjaaQFrx2
import Derived.Test.YthggjlfiliggjaaQFrx3
import Derived.Test.YthggjlfiliggjaaQFrx4
import Derived.Test.YthggjlfiliggjaaQFrx5
import Derived.Test.YthggjlfiliggjaaQFrx6
import Derived.Test.YthggjlfiliggjaaQFrx7
namespace Go.Proofs.Ythggjlfiliggjaa.QFr
open Go.RowKit Go.Proofs.YthggjlfiliggjaaW.PrintWords Go.Proofs.YthggjlfiliggjaaW.PrintLast Go.Proofs.YthggjlfiliggjaaW.PrintMore
attribute [local go_sem] max2_int min2_int max_two min_two max_three min_three max_four min_four   -- for this text's walks alone
open Go.Proofs.YthggjlfiliggjaaX
attribute [local go_sem] unary_xor_u32 unary_xor_u64 max_u32
set_option linter.unusedVariables false
set_option linter.unusedSimpArgs false

end Go.Proofs.Ythggjlfiliggjaa.QFr
