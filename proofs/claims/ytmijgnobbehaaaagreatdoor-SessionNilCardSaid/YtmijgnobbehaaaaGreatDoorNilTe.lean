/- Part of the proof that SessionNil answers true for every input. -/
import Derived.Test.YtmijgnobbehaaaaGreatDoorNilDc
import Derived.Test.YtmijgnobbehaaaaGreatDoorNilS
set_option linter.all false
set_option linter.unusedVariables false
set_option linter.unusedSimpArgs false
set_option maxRecDepth 100000
namespace Go.Ev.Nil
open Go.Proofs
theorem c18 : comesTo Tryz.prog s18 6000 12 [(.ptr 1 0), (.str [110]), (.int .i64 (9))] h18 (.tuple [(.int .i64 (1)), (.int .i64 (0))]) k18 = true := by kernel_rfl
end Go.Ev.Nil
