/- Part 12 of the proof's texts: what the theorem needs of them. -/
import Derived.Test.YtbdcnfbidbffcaaDoorProg
import Derived.Below
import Derived.Deep.Draws
import Derived.Deep.AppendLies
import Derived.Maps.AppendAt
import Derived.OwnWalk
import Derived.Laws.BytesArg
import Derived.Laws.MakeOwn
import Derived.Laws.OwnMore
import Derived.Deep.OwnRows
import Derived.Tactics
import Derived.Lib.ConvBytes
import Derived.Laws.Slices
import Derived.WalkKit
import Derived.KernelRfl
import Derived.RowKit3
import Derived.Deep.LoopGhost
import Derived.Deep.QuietTactic
import Derived.BigQuiet
import Derived.WideLaws
import Derived.Deep.DeepCutAuto
import Derived.Deep.CutBlock
import Derived.Deep.RegionHeld3
import Derived.Laws.Rows
import Derived.Lib.AppendStr
import Derived.ArgAppend
import Derived.Laws.IdiomCopy
import Derived.OrdersHeld
import Derived.Laws.BitsLemmas
import Derived.RowKit
import Derived.Test.YtbdcnfbidbffcaaDoorSNG1
import Derived.Test.YtbdcnfbidbffcaaDoorSNG2
import Derived.Test.YtbdcnfbidbffcaaDoorSNG3
import Derived.Test.YtbdcnfbidbffcaaDoorSNG4
import Derived.Test.YtbdcnfbidbffcaaDoorSNG5
import Derived.Test.YtbdcnfbidbffcaaDoorSNG6
import Derived.Test.YtbdcnfbidbffcaaDoorSNG7
import Derived.Test.YtbdcnfbidbffcaaDoorSNG8
import Derived.Laws.StructEq
import Derived.Test.YtbdcnfbidbffcaaDoorSNG9
import Derived.Test.YtbdcnfbidbffcaaDoorSNG10
import Derived.Test.YtbdcnfbidbffcaaDoorSNG11

-- printed for this claim by print.py
namespace Go.Proofs.YtbdcnfbidbffcaaDoor.PL
open Go.RowKit Go.Proofs.YtbdcnfbidbffcaaDoorW.PrintWords Go.Proofs.YtbdcnfbidbffcaaDoorW.PrintLast Go.Proofs.YtbdcnfbidbffcaaDoorW.PrintMore
attribute [local go_sem] max2_int min2_int max_two min_two max_three min_three max_four min_four   -- for this text's walks alone
set_option linter.unusedVariables false
set_option linter.unusedSimpArgs false

def errW : Option Int → Value
  | none => .nilIface
  | some c => .iface 0 (.int .i64 c)
theorem errW_none : errW none = .nilIface := rfl
theorem errW_some (c : Int) : errW (some c) = .iface 0 (.int .i64 c) := rfl

theorem info3 : (Tryd.prog.info? 3).map (fun i => (i.zero, i.size, i.bytes)) = some (some (.int .i64 0), 1, 8) := by kernel_rfl
-- the values' own types
/-! #### struct type 96 -/
/-! #### struct type 99 -/
end Go.Proofs.YtbdcnfbidbffcaaDoor.PL
