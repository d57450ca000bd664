-- written by a program of this session (myprint) out of the translation
import Derived.Test.YthggjlfiliggjaaProg
import Derived.Below
import Derived.Deep.Draws
import Derived.Deep.AppendLies
import Derived.Maps.AppendAt
import Derived.OwnWalk
import Derived.Laws.BytesArg
import Derived.Laws.MakeOwn
import Derived.Laws.OwnMore
import Derived.Deep.OwnRows
import Derived.Tactics
import Derived.Lib.ConvBytes
import Derived.Laws.Slices
import Derived.WalkKit
import Derived.KernelRfl
import Derived.RowKit3
import Derived.Deep.LoopGhost
import Derived.Deep.QuietTactic
import Derived.BigQuiet
import Derived.WideLaws
import Derived.Deep.DeepCutAuto
import Derived.Deep.CutBlock
import Derived.Deep.RegionHeld3
import Derived.Laws.Rows
import Derived.Lib.AppendStr
import Derived.ArgAppend
import Derived.Laws.IdiomCopy
import Derived.OrdersHeld
import Derived.Laws.BitsLemmas
import Derived.RowKit
import Derived.Test.YthggjlfiliggjaaX
import Derived.Laws.CopyOwn
import Derived.StillTailTactics
import Derived.WalkSpells
import Derived.Test.YthggjlfiliggjaaWWords
import Derived.Test.YthggjlfiliggjaaWLast
import Derived.Test.YthggjlfiliggjaaWTab
import Derived.Test.YthggjlfiliggjaaWFour
import Derived.Test.YthggjlfiliggjaaWQPut
import Derived.Test.YthggjlfiliggjaaWApart
import Derived.Test.YthggjlfiliggjaaWArr
import Derived.Test.YthggjlfiliggjaaWZeros
import Derived.Test.YthggjlfiliggjaaWFoot
import Derived.Test.YthggjlfiliggjaaWKept
import Derived.Test.YthggjlfiliggjaaWShare
import Derived.Test.YthggjlfiliggjaaWN
import Derived.Test.YthggjlfiliggjaaWFootNe
import Derived.Test.YthggjlfiliggjaaWAt
import Derived.Test.YthggjlfiliggjaaWEqStruct
import Derived.Test.YthggjlfiliggjaaWRepsOne
import Derived.Test.YthggjlfiliggjaaWInv
import Derived.Test.YthggjlfiliggjaaWInvWords
import Derived.Test.YthggjlfiliggjaaWGuard
import Derived.Test.YthggjlfiliggjaaWNEv
import Derived.Test.YthggjlfiliggjaaWMore
namespace Go.Proofs.Ythggjlfiliggjaa.QFr
open Go.RowKit Go.Proofs.YthggjlfiliggjaaW.PrintWords Go.Proofs.YthggjlfiliggjaaW.PrintLast Go.Proofs.YthggjlfiliggjaaW.PrintMore
attribute [local go_sem] max2_int min2_int max_two min_two max_three min_three max_four min_four   -- for this text's walks alone
open Go.Proofs.YthggjlfiliggjaaX
attribute [local go_sem] unary_xor_u32 unary_xor_u64 max_u32
set_option linter.unusedVariables false
set_option linter.unusedSimpArgs false



def errW : Option Int → Value
  | none => .nilIface
  | some c => .iface 0 (.int .i64 c)
theorem errW_none : errW none = .nilIface := rfl
theorem errW_some (c : Int) : errW (some c) = .iface 0 (.int .i64 c) := rfl

theorem info5 : (Try.prog.info? 5).map (fun i => (i.zero, i.size, i.bytes)) = some (some (.int .u8 0), 1, 1) := by kernel_rfl
-- the values' own types

end Go.Proofs.Ythggjlfiliggjaa.QFr
