/- A function that was walked by hand: with more rounds it tells the same. -/
import Derived.Test.YtpbclogjoangfaaFnBestSo2
namespace Go.Proofs.Ytpbclogjoangfaa.So
open Go.RowKit Go.Proofs.YtpbclogjoangfaaW.PrintWords Go.Proofs.YtpbclogjoangfaaW.PrintLast Go.Proofs.YtpbclogjoangfaaW.PrintMore Go.Proofs.Ytpbclogjoangfaa.Q Go.Proofs.Ytpbclogjoangfaa.Pu
end Go.Proofs.Ytpbclogjoangfaa.So
namespace Go.Proofs.Ytpbclogjoangfaa.So
open Go.RowKit
set_option maxRecDepth 100000 in
theorem field41 (a b c : Value) (w : World) : (Instr.field 41 (.agg #[a, b, c]) 1).run Try.prog w = .ok b w := by kernel_rfl
theorem field41_0 (a b c : Value) (w : World) : (Instr.field 41 (.agg #[a, b, c]) 0).run Try.prog w = .ok a w := by kernel_rfl
theorem field41_2 (a b c : Value) (w : World) : (Instr.field 41 (.agg #[a, b, c]) 2).run Try.prog w = .ok c w := by kernel_rfl
end Go.Proofs.Ytpbclogjoangfaa.So
