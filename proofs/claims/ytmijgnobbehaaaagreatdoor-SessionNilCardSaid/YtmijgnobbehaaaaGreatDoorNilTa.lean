/- Part of the proof that SessionNil answers true for every input. -/
import Derived.Test.YtmijgnobbehaaaaGreatDoorNilDc
import Derived.Test.YtmijgnobbehaaaaGreatDoorNilS
set_option linter.all false
set_option linter.unusedVariables false
set_option linter.unusedSimpArgs false
section
set_option maxRecDepth 100000
namespace Go.Ev.Nil
open Go.Proofs
theorem c0 : comesTo Tryz.prog s0 6000 117 [(.slice 36 0 1 24 (some 24))] h0 (.tuple [(.slice 90 0 3 13 none), (.int .i64 (0)), (.int .i64 (0))]) k0 = true := by kernel_rfl
end Go.Ev.Nil
end
section
set_option maxRecDepth 100000
namespace Go.Ev.Nil
open Go.Proofs
theorem c1 : comesTo Tryz.prog s1 6000 122 [(.ptr 178 0), (.slice 101 0 3 2 (some 2))] h1 (.slice 405 0 4 1 none) k1 = true := by kernel_rfl
end Go.Ev.Nil
end
section
set_option maxRecDepth 100000
namespace Go.Ev.Nil
open Go.Proofs
theorem c2 : comesTo Tryz.prog s2 6000 75 [(.slice 16 0 2 2 none), (.slice 101 0 3 2 (some 2)), (.slice 121 0 7 1 none), (.int .i64 (64))] h2 (.agg [.nilS, (.int .i64 (2)), (.slice 405 0 4 1 none)]) k2 = true := by kernel_rfl
end Go.Ev.Nil
end
section
set_option maxRecDepth 100000
namespace Go.Ev.Nil
open Go.Proofs
theorem c3 : comesTo Tryz.prog s3 6000 27 [(.slice 16 0 2 2 none), (.slice 36 0 1 24 (some 24))] h3 (.tuple [(.agg [(.int .i64 (1)), (.int .i64 (0)), .nilS, (.int .i64 (2)), (.slice 405 0 4 1 none)]), (.int .i64 (0)), (.int .i64 (0))]) k3 = true := by kernel_rfl
end Go.Ev.Nil
end
section
set_option maxRecDepth 100000
namespace Go.Ev.Nil
open Go.Proofs
theorem c4 : comesTo Tryz.prog s4 6000 29 [(.ptr 445 0), (.agg [(.int .i64 (1)), (.int .i64 (0)), .nilS, (.int .i64 (2)), (.slice 405 0 4 1 none)])] h4 (.int .i64 (0)) k4 = true := by kernel_rfl
end Go.Ev.Nil
end
section
set_option maxRecDepth 100000
namespace Go.Ev.Nil
open Go.Proofs
theorem c5 : comesTo Tryz.prog s5 6000 9 [(.ptr 1 0), (.slice 36 0 1 24 (some 24))] h5 (.tuple [(.int .i64 (0)), (.int .i64 (0))]) k5 = true := by kernel_rfl
end Go.Ev.Nil
end
