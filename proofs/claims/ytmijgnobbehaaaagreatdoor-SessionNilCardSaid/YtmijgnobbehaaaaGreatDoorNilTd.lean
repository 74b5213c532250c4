/- Part of the proof that SessionNil answers true for every input. -/
import Derived.Test.YtmijgnobbehaaaaGreatDoorNilDc
import Derived.Test.YtmijgnobbehaaaaGreatDoorNilS
set_option linter.all false
set_option linter.unusedVariables false
set_option linter.unusedSimpArgs false
section
set_option maxRecDepth 100000
namespace Go.Ev.Nil
open Go.Proofs
theorem c13 : comesTo Tryz.prog s13 6000 29 [(.ptr 2615 0), (.agg [(.int .i64 (1)), (.int .i64 (0)), (.slice 2633 0 1 0 (some 0)), (.int .i64 (2)), (.slice 2635 0 4 1 none)])] h13 (.int .i64 (0)) k13 = true := by kernel_rfl
end Go.Ev.Nil
end
section
set_option maxRecDepth 100000
namespace Go.Ev.Nil
open Go.Proofs
theorem c14 : comesTo Tryz.prog s14 6000 89 [(.ptr 1559 0)] h14 (.ptr 2615 0) k14 = true := by kernel_rfl
end Go.Ev.Nil
end
section
set_option maxRecDepth 100000
namespace Go.Ev.Nil
open Go.Proofs
theorem c15 : comesTo Tryz.prog s15 6000 59 [(.slice 1897 0 2 2 none), (.agg [(.slice 1021 0 1 3 none), (.int .i64 (1)), (.slice 1457 0 4 3 none)])] h15 (.tuple [(.slice 3280 0 2 1 none), (.int .i64 (0))]) k15 = true := by kernel_rfl
end Go.Ev.Nil
end
section
set_option maxRecDepth 100000
namespace Go.Ev.Nil
open Go.Proofs
theorem c16 : comesTo Tryz.prog s16 6000 36 [(.ptr 1559 0), (.agg [(.slice 1021 0 1 3 none), (.int .i64 (1)), (.slice 1457 0 4 3 none)]), (.int .i64 (4))] h16 (.tuple [(.ptr 2963 0), (.int .i64 (0))]) k16 = true := by kernel_rfl
end Go.Ev.Nil
end
section
set_option maxRecDepth 100000
namespace Go.Ev.Nil
open Go.Proofs
theorem c17 : comesTo Tryz.prog s17 6000 11 [(.ptr 1 0), (.str [110]), (.int .i64 (4))] h17 (.int .i64 (0)) k17 = true := by kernel_rfl
end Go.Ev.Nil
end
