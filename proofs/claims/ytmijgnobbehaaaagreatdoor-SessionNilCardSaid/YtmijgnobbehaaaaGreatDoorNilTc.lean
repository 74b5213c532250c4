/- Part of the proof that SessionNil answers true for every input. -/
import Derived.Test.YtmijgnobbehaaaaGreatDoorNilDc
import Derived.Test.YtmijgnobbehaaaaGreatDoorNilS
set_option linter.all false
set_option linter.unusedVariables false
set_option linter.unusedSimpArgs false
section
set_option maxRecDepth 100000
namespace Go.Ev.Nil
open Go.Proofs
theorem c11 : comesTo Tryz.prog s11 6000 29 [(.ptr 1559 0), (.agg [(.int .i64 (1)), (.int .i64 (0)), (.slice 784 0 1 0 (some 0)), (.int .i64 (2)), (.slice 786 0 4 1 none)])] h11 (.int .i64 (0)) k11 = true := by kernel_rfl
end Go.Ev.Nil
end
section
set_option maxRecDepth 100000
namespace Go.Ev.Nil
open Go.Proofs
theorem c12 : comesTo Tryz.prog s12 6000 88 [(.slice 1897 0 2 2 none), (.agg [(.slice 1021 0 1 3 none), (.int .i64 (1)), (.slice 1457 0 4 3 none)]), (.int .i64 (4))] h12 (.tuple [(.ptr 2350 0), (.int .i64 (0))]) k12 = true := by kernel_rfl
end Go.Ev.Nil
end
