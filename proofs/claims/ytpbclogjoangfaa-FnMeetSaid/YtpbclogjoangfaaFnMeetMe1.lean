/- Two that go against one another: what has to be reckoned, once for all numbers of sections. No program in sight. -/
import Derived.Test.YtpbclogjoangfaaFnMeetMe0
import Derived.Test.YtpbclogjoangfaaFnMeetPuStep
import Derived.KernelRfl
import Derived.Test.YtpbclogjoangfaaFnMeetQ6
import Derived.Test.YtpbclogjoangfaaFnMeetQ7
namespace Go.Proofs.Ytpbclogjoangfaa.Me
open Go.RowKit Go.Proofs.YtpbclogjoangfaaW.PrintWords Go.Proofs.YtpbclogjoangfaaW.PrintLast Go.Proofs.Ytpbclogjoangfaa.Q Go.Proofs.Ytpbclogjoangfaa.Pu Go.Proofs.Ytpbclogjoangfaa.Sr Go.Proofs.Ytpbclogjoangfaa.Sp Go.Proofs.Ytpbclogjoangfaa.Al Go.Proofs.Ytpbclogjoangfaa.So
set_option linter.unusedVariables false
set_option linter.unusedSimpArgs false
abbrev St3 := List Int × List S35 × List Int
def mmv (n k : Nat) (a : Bool) : St3 := (spec_MadeMeet.f 30 (n : Int) (k : Int) a).getD ([], [], [])
def stj (n k : Nat) : Nat → St3
 | 0 => mmv n k true
 | j + 1 => stD (stj n k j).1 (stj n k j).2.1 (stj n k j).2.2 2
def wit (n k j : Nat) : List Nat := List.replicate k 0 ++ List.replicate (n - j) 1 ++ List.replicate (n - k) 0
def smB (s : St3) : Bool := decide (s.1.length ≤ 100) && decide (s.2.1.length ≤ 100) && decide (s.2.2.length ≤ 100)
def okB (s : St3) : Bool := decide (okS s.1 s.2.1 s.2.2 = 0)
def chk (n k j : Nat) : Bool := smB (stj n k j) && okB (stj n k j) && wok (stj n k j).1 (stj n k j).2.1 zv (wit n k j)
def bad (n : Nat) : Bool := smB (mmv n 0 false) && okB (mmv n 0 false) && decide (V (mmv n 0 false).1 (mmv n 0 false).2.1 zv = -1)
def all : Bool := (List.range 7).all (fun a => (spec_MadeMeet.f 30 ((a + 2 : Nat) : Int) ((0 : Nat) : Int) false).isSome && bad (a + 2) && (List.range a).all (fun b => (spec_MadeMeet.f 30 ((a + 2 : Nat) : Int) ((b + 1 : Nat) : Int) true).isSome && (List.range (a - b)).all (fun j => chk (a + 2) (b + 1) j)))
set_option maxRecDepth 1000000 in
theorem all_ok : all = true := by kernel_rfl
end Go.Proofs.Ytpbclogjoangfaa.Me
