/- The law FnMeet answers true at all bytes. No program in sight. -/
import Derived.Test.YtpbclogjoangfaaFnMeetMe2
namespace Go.Proofs.Ytpbclogjoangfaa.Me
open Go.RowKit Go.Proofs.YtpbclogjoangfaaW.PrintWords Go.Proofs.YtpbclogjoangfaaW.PrintLast Go.Proofs.Ytpbclogjoangfaa.Q Go.Proofs.Ytpbclogjoangfaa.Pu
theorem FnMeet_pure : laws_FnMeet.Pure := by
 intro l h1 h2 h3
 refine (FnMeet_ev l fun x hx => ?_).rounds
 have h := h3 x hx
 have h4 : IntKind.u8.min = 0 := rfl
 have h5 : IntKind.u8.max = 255 := rfl
 simp only [Lit.wf, Bool.and_eq_true, decide_eq_true_eq, h4, h5] at h
 omega
end Go.Proofs.Ytpbclogjoangfaa.Me
