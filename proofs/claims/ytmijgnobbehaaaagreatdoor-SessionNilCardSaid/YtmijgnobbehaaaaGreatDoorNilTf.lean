/- Part of the proof that SessionNil answers true for every input. -/
import Derived.Test.YtmijgnobbehaaaaGreatDoorNilDc
import Derived.Test.YtmijgnobbehaaaaGreatDoorNilS
set_option linter.all false
set_option linter.unusedVariables false
set_option linter.unusedSimpArgs false
section
set_option maxRecDepth 100000
namespace Go.Ev.Nil
open Go.Proofs
theorem c19 : comesTo Tryz.prog s19 6000 43 [(.slice 16 0 2 2 none), (.agg [(.slice 5239 0 1 1 none), (.int .i64 (1)), (.slice 5354 0 4 1 none)])] h19 (.tuple [(.str [60, 119, 48, 62, 32, 119, 48, 32, 61, 32, 90, 59]), (.int .i64 (0))]) k19 = true := by kernel_rfl
end Go.Ev.Nil
end
section
set_option maxRecDepth 100000
namespace Go.Ev.Nil
open Go.Proofs
theorem c20 : comesTo Tryz.prog s20 6000 13 [(.ptr 1 0), (.str [110])] h20 (.tuple [(.str [60, 119, 48, 62, 32, 119, 48, 32, 61, 32, 90, 59]), (.int .i64 (0))]) k20 = true := by kernel_rfl
end Go.Ev.Nil
end
section
set_option maxRecDepth 100000
namespace Go.Ev.Nil
open Go.Proofs
theorem c21 : comesTo Tryz.prog s21 6000 5 [] h21 (.bool true) k21 = true := by kernel_rfl
end Go.Ev.Nil
end
