/- Part of the proof that SessionNil answers true for every input. -/
import Derived.Test.YtmijgnobbehaaaaGreatDoorNilDc
import Derived.Test.YtmijgnobbehaaaaGreatDoorNilS
set_option linter.all false
set_option linter.unusedVariables false
set_option linter.unusedSimpArgs false
section
set_option maxRecDepth 100000
namespace Go.Ev.Nil
open Go.Proofs
theorem c6 : comesTo Tryz.prog s6 6000 117 [(.slice 789 0 1 32 (some 32))] h6 (.tuple [(.slice 861 0 3 20 none), (.int .i64 (0)), (.int .i64 (0))]) k6 = true := by kernel_rfl
end Go.Ev.Nil
end
section
set_option maxRecDepth 100000
namespace Go.Ev.Nil
open Go.Proofs
theorem c7 : comesTo Tryz.prog s7 6000 122 [(.ptr 1038 0), (.slice 1036 0 3 6 none)] h7 (.slice 1457 0 4 3 none) k7 = true := by kernel_rfl
end Go.Ev.Nil
end
section
set_option maxRecDepth 100000
namespace Go.Ev.Nil
open Go.Proofs
theorem c8 : comesTo Tryz.prog s8 6000 75 [(.slice 16 0 2 2 none), (.slice 865 0 3 1 (some 1)), (.slice 912 0 7 3 none), (.int .i64 (64))] h8 (.agg [(.slice 1021 0 1 3 none), (.int .i64 (1)), (.slice 1457 0 4 3 none)]) k8 = true := by kernel_rfl
end Go.Ev.Nil
end
section
set_option maxRecDepth 100000
namespace Go.Ev.Nil
open Go.Proofs
theorem c9 : comesTo Tryz.prog s9 6000 32 [(.slice 16 0 2 2 none), (.slice 789 0 1 32 (some 32))] h9 (.tuple [(.agg [(.slice 1021 0 1 3 none), (.int .i64 (1)), (.slice 1457 0 4 3 none)]), (.int .i64 (0)), (.int .i64 (0))]) k9 = true := by kernel_rfl
end Go.Ev.Nil
end
section
set_option maxRecDepth 100000
namespace Go.Ev.Nil
open Go.Proofs
theorem c10 : comesTo Tryz.prog s10 6000 10 [(.ptr 1 0), (.str [110]), (.slice 789 0 1 32 (some 32))] h10 (.tuple [(.int .i64 (0)), (.int .i64 (0))]) k10 = true := by kernel_rfl
end Go.Ev.Nil
end
