-- Printed by pp.py of this session (the kit's print, with contracts of our own beside it) out of the translation. Not trusted: Lean checks it.
import Derived.Test.YtoglookcmfcohaaDoorProg
import Derived.Below
import Derived.Deep.Draws
import Derived.Deep.AppendLies
import Derived.Maps.AppendAt
import Derived.OwnWalk
import Derived.Laws.BytesArg
import Derived.Laws.MakeOwn
import Derived.Laws.OwnMore
import Derived.Deep.OwnRows
import Derived.Tactics
import Derived.Lib.ConvBytes
import Derived.Laws.Slices
import Derived.WalkKit
import Derived.KernelRfl
import Derived.RowKit3
import Derived.Deep.LoopGhost
import Derived.Deep.QuietTactic
import Derived.BigQuiet
import Derived.WideLaws
import Derived.Deep.DeepCutAuto
import Derived.Deep.CutBlock
import Derived.Deep.RegionHeld3
import Derived.Laws.Rows
import Derived.Lib.AppendStr
import Derived.ArgAppend
import Derived.Laws.IdiomCopy
import Derived.OrdersHeld
import Derived.Laws.BitsLemmas
import Derived.RowKit
import Derived.Test.YtoglookcmfcohaaDoorShelf
import Derived.Test.YtoglookcmfcohaaDoorWWords
import Derived.Test.YtoglookcmfcohaaDoorWLast
import Derived.Test.YtoglookcmfcohaaDoorWTab
import Derived.Test.YtoglookcmfcohaaDoorWFour
import Derived.Test.YtoglookcmfcohaaDoorWQPut
import Derived.Test.YtoglookcmfcohaaDoorWApart
import Derived.Test.YtoglookcmfcohaaDoorWArr
import Derived.Test.YtoglookcmfcohaaDoorWZeros
import Derived.Test.YtoglookcmfcohaaDoorWFoot
import Derived.Test.YtoglookcmfcohaaDoorWKept
import Derived.Test.YtoglookcmfcohaaDoorWShare
import Derived.Test.YtoglookcmfcohaaDoorWN
import Derived.Test.YtoglookcmfcohaaDoorWFootNe
import Derived.Test.YtoglookcmfcohaaDoorWAt
import Derived.Test.YtoglookcmfcohaaDoorWEqStruct
import Derived.Test.YtoglookcmfcohaaDoorWRepsOne
import Derived.Test.YtoglookcmfcohaaDoorWInv
import Derived.Test.YtoglookcmfcohaaDoorWInvWords
import Derived.Test.YtoglookcmfcohaaDoorWGuard
import Derived.Test.YtoglookcmfcohaaDoorWNEv
import Derived.Test.YtoglookcmfcohaaDoorWMore
namespace Go.Proofs.YtoglookcmfcohaaDoor.P
open Go.RowKit Go.Proofs.YtoglookcmfcohaaDoorW.PrintWords Go.Proofs.YtoglookcmfcohaaDoorW.PrintLast Go.Proofs.YtoglookcmfcohaaDoorW.PrintMore
attribute [local go_sem] max2_int min2_int max_two min_two max_three min_three max_four min_four   -- for this text's walks alone
set_option linter.unusedVariables false
set_option linter.unusedSimpArgs false



def errW : Option Int → Value
  | none => .nilIface
  | some c => .iface 0 (.int .i64 c)
theorem errW_none : errW none = .nilIface := rfl
theorem errW_some (c : Int) : errW (some c) = .iface 0 (.int .i64 c) := rfl

theorem info3 : (Tryd.prog.info? 3).map (fun i => (i.zero, i.size, i.bytes)) = some (some (.int .i64 0), 1, 8) := by kernel_rfl
theorem info5 : (Tryd.prog.info? 5).map (fun i => (i.zero, i.size, i.bytes)) = some (some (.int .u8 0), 1, 1) := by kernel_rfl
-- the values' own types

end Go.Proofs.YtoglookcmfcohaaDoor.P
