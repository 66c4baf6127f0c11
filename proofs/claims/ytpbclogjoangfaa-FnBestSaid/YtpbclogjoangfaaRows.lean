/-
  No cell of these rows narrows 'for every input' (looked for: loops, veiled, ifaces, maps, wideKeys, modest, calm, conditions, laid).
  DERIVED. THE GIVEN ROWS OF THIS SEAT. 11 by the template 'for every input the law returns true; each argument reads behind the call as it read before'; 0 by the template 'total and deterministic' (their statements: YtpbclogjoangfaaTotals.lean).
  GIVEN WITH THE SEED: the statements are not yours to turn. If you find one false, say at which input.
  Laid BY PROGRAM, IN A SANDBOX (cutbox-rows.mjs): the forced cells as the released guide's own fill.sh prints them over the translation e660c095119f06e8… (all of the seat's roots in one cut). By AI agents, Wed Nov 11 2026. No macro, syntax, notation, axiom, sorry.
-/
import Derived.Test.YtpbclogjoangfaaChecked
import GoSem.Claim
import GoSem.ClaimJoined
import GoSem.ClaimMapViews
import Derived.JoinedTies
import Derived.KernelRfl
namespace Go.Proofs.Ytpbclogjoangfaa
/- THE CELL 'sum', in the pinned program and in every row, IS THE sha256 OF THE DUMP (.gsa) THAT YtpbclogjoangfaaProg.lean LOADS. Nothing in Lean hashes anything: it is a label: what it is worth is what the hold of that sum in a sandbox is worth. -/
noncomputable def Try.pinned : Pinned := { name := "ytpbclogjoangfaa", sum := "e660c095119f06e81c905a21bd9d440afb720f797018a20e8e314fe7ffef080b", checked := Try.checked }
namespace Rows
def none {H : Type} : Left H := { results := [], args := [] }

/-- 'laws.FnTop': WHATEVER THE INPUT: true; the input reads as it did. -/
def fnTopSpec : ChangeSpec := { name := "fnTop", fn := fun _ => fun
  | [d1, d2] => { results := [.lit (.bool true)], args := [d1, d2] }
  | _ => none }
def fnTopRow : OpenClaim := { program := "ytpbclogjoangfaa", sum := "e660c095119f06e81c905a21bd9d440afb720f797018a20e8e314fe7ffef080b", func := "loop.example/regulator/laws.FnTop", spec := "fnTop", recurses := true, plainKeys := false, apart := false }
def FnTopSaid : Prop := fnTopRow.holds Try.pinned (OpenSpec.ofChange fnTopSpec)

/-- ITS FALSE NEIGHBOUR: 'it returns false'. Refute it at one input. -/
def fnTopWrong : ChangeSpec := { name := "fnTop", fn := fun _ => fun
  | [d1, d2] => { results := [.lit (.bool false)], args := [d1, d2] }
  | _ => none }
def FnTopWrongFalsely : Prop := fnTopRow.holds Try.pinned (OpenSpec.ofChange fnTopWrong)

/-- 'laws.FnJust': WHATEVER THE INPUT: true; the input reads as it did. -/
def fnJustSpec : ChangeSpec := { name := "fnJust", fn := fun _ => fun
  | [d1, d2] => { results := [.lit (.bool true)], args := [d1, d2] }
  | _ => none }
def fnJustRow : OpenClaim := { program := "ytpbclogjoangfaa", sum := "e660c095119f06e81c905a21bd9d440afb720f797018a20e8e314fe7ffef080b", func := "loop.example/regulator/laws.FnJust", spec := "fnJust", recurses := true, plainKeys := false, apart := false }
def FnJustSaid : Prop := fnJustRow.holds Try.pinned (OpenSpec.ofChange fnJustSpec)

/-- ITS FALSE NEIGHBOUR: 'it returns false'. Refute it at one input. -/
def fnJustWrong : ChangeSpec := { name := "fnJust", fn := fun _ => fun
  | [d1, d2] => { results := [.lit (.bool false)], args := [d1, d2] }
  | _ => none }
def FnJustWrongFalsely : Prop := fnJustRow.holds Try.pinned (OpenSpec.ofChange fnJustWrong)

/-- 'laws.FnEasier': WHATEVER THE INPUT: true; the input reads as it did. -/
def fnEasierSpec : ChangeSpec := { name := "fnEasier", fn := fun _ => fun
  | [d1, d2] => { results := [.lit (.bool true)], args := [d1, d2] }
  | _ => none }
def fnEasierRow : OpenClaim := { program := "ytpbclogjoangfaa", sum := "e660c095119f06e81c905a21bd9d440afb720f797018a20e8e314fe7ffef080b", func := "loop.example/regulator/laws.FnEasier", spec := "fnEasier", recurses := true, plainKeys := false, apart := false }
def FnEasierSaid : Prop := fnEasierRow.holds Try.pinned (OpenSpec.ofChange fnEasierSpec)

/-- ITS FALSE NEIGHBOUR: 'it returns false'. Refute it at one input. -/
def fnEasierWrong : ChangeSpec := { name := "fnEasier", fn := fun _ => fun
  | [d1, d2] => { results := [.lit (.bool false)], args := [d1, d2] }
  | _ => none }
def FnEasierWrongFalsely : Prop := fnEasierRow.holds Try.pinned (OpenSpec.ofChange fnEasierWrong)

/-- 'laws.FnExactSafe': WHATEVER THE INPUT: true; the input reads as it did. -/
def fnExactSafeSpec : ChangeSpec := { name := "fnExactSafe", fn := fun _ => fun
  | [d] => { results := [.lit (.bool true)], args := [d] }
  | _ => none }
def fnExactSafeRow : OpenClaim := { program := "ytpbclogjoangfaa", sum := "e660c095119f06e81c905a21bd9d440afb720f797018a20e8e314fe7ffef080b", func := "loop.example/regulator/laws.FnExactSafe", spec := "fnExactSafe", recurses := true, plainKeys := false, apart := false }
def FnExactSafeSaid : Prop := fnExactSafeRow.holds Try.pinned (OpenSpec.ofChange fnExactSafeSpec)

/-- ITS FALSE NEIGHBOUR: 'it returns false'. Refute it at one input. -/
def fnExactSafeWrong : ChangeSpec := { name := "fnExactSafe", fn := fun _ => fun
  | [d] => { results := [.lit (.bool false)], args := [d] }
  | _ => none }
def FnExactSafeWrongFalsely : Prop := fnExactSafeRow.holds Try.pinned (OpenSpec.ofChange fnExactSafeWrong)

/-- 'laws.FnMeet': WHATEVER THE INPUT: true; the input reads as it did. -/
def fnMeetSpec : ChangeSpec := { name := "fnMeet", fn := fun _ => fun
  | [d] => { results := [.lit (.bool true)], args := [d] }
  | _ => none }
def fnMeetRow : OpenClaim := { program := "ytpbclogjoangfaa", sum := "e660c095119f06e81c905a21bd9d440afb720f797018a20e8e314fe7ffef080b", func := "loop.example/regulator/laws.FnMeet", spec := "fnMeet", recurses := true, plainKeys := false, apart := false }
def FnMeetSaid : Prop := fnMeetRow.holds Try.pinned (OpenSpec.ofChange fnMeetSpec)

/-- ITS FALSE NEIGHBOUR: 'it returns false'. Refute it at one input. -/
def fnMeetWrong : ChangeSpec := { name := "fnMeet", fn := fun _ => fun
  | [d] => { results := [.lit (.bool false)], args := [d] }
  | _ => none }
def FnMeetWrongFalsely : Prop := fnMeetRow.holds Try.pinned (OpenSpec.ofChange fnMeetWrong)

/-- 'laws.FnExactAllowed': WHATEVER THE INPUT: true; the input reads as it did. -/
def fnExactAllowedSpec : ChangeSpec := { name := "fnExactAllowed", fn := fun _ => fun
  | [d] => { results := [.lit (.bool true)], args := [d] }
  | _ => none }
def fnExactAllowedRow : OpenClaim := { program := "ytpbclogjoangfaa", sum := "e660c095119f06e81c905a21bd9d440afb720f797018a20e8e314fe7ffef080b", func := "loop.example/regulator/laws.FnExactAllowed", spec := "fnExactAllowed", recurses := true, plainKeys := false, apart := false }
def FnExactAllowedSaid : Prop := fnExactAllowedRow.holds Try.pinned (OpenSpec.ofChange fnExactAllowedSpec)

/-- ITS FALSE NEIGHBOUR: 'it returns false'. Refute it at one input. -/
def fnExactAllowedWrong : ChangeSpec := { name := "fnExactAllowed", fn := fun _ => fun
  | [d] => { results := [.lit (.bool false)], args := [d] }
  | _ => none }
def FnExactAllowedWrongFalsely : Prop := fnExactAllowedRow.holds Try.pinned (OpenSpec.ofChange fnExactAllowedWrong)

/-- 'laws.FnNever': WHATEVER THE INPUT: true; the input reads as it did. -/
def fnNeverSpec : ChangeSpec := { name := "fnNever", fn := fun _ => fun
  | [d1, d2] => { results := [.lit (.bool true)], args := [d1, d2] }
  | _ => none }
def fnNeverRow : OpenClaim := { program := "ytpbclogjoangfaa", sum := "e660c095119f06e81c905a21bd9d440afb720f797018a20e8e314fe7ffef080b", func := "loop.example/regulator/laws.FnNever", spec := "fnNever", recurses := true, plainKeys := false, apart := false }
def FnNeverSaid : Prop := fnNeverRow.holds Try.pinned (OpenSpec.ofChange fnNeverSpec)

/-- ITS FALSE NEIGHBOUR: 'it returns false'. Refute it at one input. -/
def fnNeverWrong : ChangeSpec := { name := "fnNever", fn := fun _ => fun
  | [d1, d2] => { results := [.lit (.bool false)], args := [d1, d2] }
  | _ => none }
def FnNeverWrongFalsely : Prop := fnNeverRow.holds Try.pinned (OpenSpec.ofChange fnNeverWrong)

/-- 'laws.FnExactSolve': WHATEVER THE INPUT: true; the input reads as it did. -/
def fnExactSolveSpec : ChangeSpec := { name := "fnExactSolve", fn := fun _ => fun
  | [d] => { results := [.lit (.bool true)], args := [d] }
  | _ => none }
def fnExactSolveRow : OpenClaim := { program := "ytpbclogjoangfaa", sum := "e660c095119f06e81c905a21bd9d440afb720f797018a20e8e314fe7ffef080b", func := "loop.example/regulator/laws.FnExactSolve", spec := "fnExactSolve", recurses := true, plainKeys := false, apart := false }
def FnExactSolveSaid : Prop := fnExactSolveRow.holds Try.pinned (OpenSpec.ofChange fnExactSolveSpec)

/-- ITS FALSE NEIGHBOUR: 'it returns false'. Refute it at one input. -/
def fnExactSolveWrong : ChangeSpec := { name := "fnExactSolve", fn := fun _ => fun
  | [d] => { results := [.lit (.bool false)], args := [d] }
  | _ => none }
def FnExactSolveWrongFalsely : Prop := fnExactSolveRow.holds Try.pinned (OpenSpec.ofChange fnExactSolveWrong)

/-- 'laws.FnBest': WHATEVER THE INPUT: true; the input reads as it did. -/
def fnBestSpec : ChangeSpec := { name := "fnBest", fn := fun _ => fun
  | [d1, d2] => { results := [.lit (.bool true)], args := [d1, d2] }
  | _ => none }
def fnBestRow : OpenClaim := { program := "ytpbclogjoangfaa", sum := "e660c095119f06e81c905a21bd9d440afb720f797018a20e8e314fe7ffef080b", func := "loop.example/regulator/laws.FnBest", spec := "fnBest", recurses := true, plainKeys := false, apart := false }
def FnBestSaid : Prop := fnBestRow.holds Try.pinned (OpenSpec.ofChange fnBestSpec)

/-- ITS FALSE NEIGHBOUR: 'it returns false'. Refute it at one input. -/
def fnBestWrong : ChangeSpec := { name := "fnBest", fn := fun _ => fun
  | [d1, d2] => { results := [.lit (.bool false)], args := [d1, d2] }
  | _ => none }
def FnBestWrongFalsely : Prop := fnBestRow.holds Try.pinned (OpenSpec.ofChange fnBestWrong)

/-- 'laws.FnRing': WHATEVER THE INPUT: true; the input reads as it did. -/
def fnRingSpec : ChangeSpec := { name := "fnRing", fn := fun _ => fun
  | [d] => { results := [.lit (.bool true)], args := [d] }
  | _ => none }
def fnRingRow : OpenClaim := { program := "ytpbclogjoangfaa", sum := "e660c095119f06e81c905a21bd9d440afb720f797018a20e8e314fe7ffef080b", func := "loop.example/regulator/laws.FnRing", spec := "fnRing", recurses := true, plainKeys := false, apart := false }
def FnRingSaid : Prop := fnRingRow.holds Try.pinned (OpenSpec.ofChange fnRingSpec)

/-- ITS FALSE NEIGHBOUR: 'it returns false'. Refute it at one input. -/
def fnRingWrong : ChangeSpec := { name := "fnRing", fn := fun _ => fun
  | [d] => { results := [.lit (.bool false)], args := [d] }
  | _ => none }
def FnRingWrongFalsely : Prop := fnRingRow.holds Try.pinned (OpenSpec.ofChange fnRingWrong)

/-- 'laws.FnExactGuard': WHATEVER THE INPUT: true; the input reads as it did. -/
def fnExactGuardSpec : ChangeSpec := { name := "fnExactGuard", fn := fun _ => fun
  | [d1, d2] => { results := [.lit (.bool true)], args := [d1, d2] }
  | _ => none }
def fnExactGuardRow : OpenClaim := { program := "ytpbclogjoangfaa", sum := "e660c095119f06e81c905a21bd9d440afb720f797018a20e8e314fe7ffef080b", func := "loop.example/regulator/laws.FnExactGuard", spec := "fnExactGuard", recurses := true, plainKeys := false, apart := false }
def FnExactGuardSaid : Prop := fnExactGuardRow.holds Try.pinned (OpenSpec.ofChange fnExactGuardSpec)

/-- ITS FALSE NEIGHBOUR: 'it returns false'. Refute it at one input. -/
def fnExactGuardWrong : ChangeSpec := { name := "fnExactGuard", fn := fun _ => fun
  | [d1, d2] => { results := [.lit (.bool false)], args := [d1, d2] }
  | _ => none }
def FnExactGuardWrongFalsely : Prop := fnExactGuardRow.holds Try.pinned (OpenSpec.ofChange fnExactGuardWrong)

/- THE SECOND FORM. 'bulk': how many values and letters a reading holds, each counted each time it is reached (what is shared counts as often as it is met; a slice's spare places count too). A statement '..UptoSaid' is the law's where the arguments, and the package variables that the reading takes, are together of bulk at most 1048576: NARROWER than '..Said'. Prove '..Said' where nothing that the law and all that it calls make is longer than what came in: it says more and counts as full. Else prove '..UptoSaid'. A law counts once. -/
mutual
def uptoBulk {H : Type} : DataW H → Nat
  | .lit (.string bytes) => bytes.length + 1
  | .lit _ => 1
  | .nil => 1
  | .ptr d => uptoBulk d + 1
  | .slice elems spare => uptoBulkAll elems + uptoBulkAll spare + 1
  | .agg parts => uptoBulkAll parts + 1
  | .iface _ d => uptoBulk d + 1
  | .map entries => uptoBulkEntries entries + 1
  | .held _ => 1
def uptoBulkAll {H : Type} : List (DataW H) → Nat
  | [] => 0
  | d :: r => uptoBulk d + uptoBulkAll r
def uptoBulkEntries {H : Type} : List (Lit × DataW H) → Nat
  | [] => 0
  | x :: r => uptoBulkEntry x + uptoBulkEntries r
def uptoBulkEntry {H : Type} : Lit × DataW H → Nat
  | (.string bytes, d) => bytes.length + uptoBulk d + 1
  | (_, d) => uptoBulk d + 1
 end
def uptoSmall : (H : Type) → List (DataW H) → Bool := fun _ ds => decide (uptoBulkAll ds ≤ 1048576)
def OpenSpec.upto (s : _root_.Go.ChangeSpec) : _root_.Go.OpenSpec := { _root_.Go.OpenSpec.ofChange s with cond := some uptoSmall }

/-- 'laws.FnTop', WHERE WHAT IT READS IS OF BULK AT MOST 1048576: true; the input reads as it did. -/
def fnTopUptoRow : OpenClaim := { program := "ytpbclogjoangfaa", sum := "e660c095119f06e81c905a21bd9d440afb720f797018a20e8e314fe7ffef080b", func := "loop.example/regulator/laws.FnTop", spec := "fnTop", recurses := true, plainKeys := false, apart := false, narrowed := true }
def FnTopUptoSaid : Prop := fnTopUptoRow.holds Try.pinned (OpenSpec.upto fnTopSpec)

/-- 'laws.FnJust', WHERE WHAT IT READS IS OF BULK AT MOST 1048576: true; the input reads as it did. -/
def fnJustUptoRow : OpenClaim := { program := "ytpbclogjoangfaa", sum := "e660c095119f06e81c905a21bd9d440afb720f797018a20e8e314fe7ffef080b", func := "loop.example/regulator/laws.FnJust", spec := "fnJust", recurses := true, plainKeys := false, apart := false, narrowed := true }
def FnJustUptoSaid : Prop := fnJustUptoRow.holds Try.pinned (OpenSpec.upto fnJustSpec)

/-- 'laws.FnEasier', WHERE WHAT IT READS IS OF BULK AT MOST 1048576: true; the input reads as it did. -/
def fnEasierUptoRow : OpenClaim := { program := "ytpbclogjoangfaa", sum := "e660c095119f06e81c905a21bd9d440afb720f797018a20e8e314fe7ffef080b", func := "loop.example/regulator/laws.FnEasier", spec := "fnEasier", recurses := true, plainKeys := false, apart := false, narrowed := true }
def FnEasierUptoSaid : Prop := fnEasierUptoRow.holds Try.pinned (OpenSpec.upto fnEasierSpec)

/-- 'laws.FnExactSafe', WHERE WHAT IT READS IS OF BULK AT MOST 1048576: true; the input reads as it did. -/
def fnExactSafeUptoRow : OpenClaim := { program := "ytpbclogjoangfaa", sum := "e660c095119f06e81c905a21bd9d440afb720f797018a20e8e314fe7ffef080b", func := "loop.example/regulator/laws.FnExactSafe", spec := "fnExactSafe", recurses := true, plainKeys := false, apart := false, narrowed := true }
def FnExactSafeUptoSaid : Prop := fnExactSafeUptoRow.holds Try.pinned (OpenSpec.upto fnExactSafeSpec)

/-- 'laws.FnMeet', WHERE WHAT IT READS IS OF BULK AT MOST 1048576: true; the input reads as it did. -/
def fnMeetUptoRow : OpenClaim := { program := "ytpbclogjoangfaa", sum := "e660c095119f06e81c905a21bd9d440afb720f797018a20e8e314fe7ffef080b", func := "loop.example/regulator/laws.FnMeet", spec := "fnMeet", recurses := true, plainKeys := false, apart := false, narrowed := true }
def FnMeetUptoSaid : Prop := fnMeetUptoRow.holds Try.pinned (OpenSpec.upto fnMeetSpec)

/-- 'laws.FnExactAllowed', WHERE WHAT IT READS IS OF BULK AT MOST 1048576: true; the input reads as it did. -/
def fnExactAllowedUptoRow : OpenClaim := { program := "ytpbclogjoangfaa", sum := "e660c095119f06e81c905a21bd9d440afb720f797018a20e8e314fe7ffef080b", func := "loop.example/regulator/laws.FnExactAllowed", spec := "fnExactAllowed", recurses := true, plainKeys := false, apart := false, narrowed := true }
def FnExactAllowedUptoSaid : Prop := fnExactAllowedUptoRow.holds Try.pinned (OpenSpec.upto fnExactAllowedSpec)

/-- 'laws.FnNever', WHERE WHAT IT READS IS OF BULK AT MOST 1048576: true; the input reads as it did. -/
def fnNeverUptoRow : OpenClaim := { program := "ytpbclogjoangfaa", sum := "e660c095119f06e81c905a21bd9d440afb720f797018a20e8e314fe7ffef080b", func := "loop.example/regulator/laws.FnNever", spec := "fnNever", recurses := true, plainKeys := false, apart := false, narrowed := true }
def FnNeverUptoSaid : Prop := fnNeverUptoRow.holds Try.pinned (OpenSpec.upto fnNeverSpec)

/-- 'laws.FnExactSolve', WHERE WHAT IT READS IS OF BULK AT MOST 1048576: true; the input reads as it did. -/
def fnExactSolveUptoRow : OpenClaim := { program := "ytpbclogjoangfaa", sum := "e660c095119f06e81c905a21bd9d440afb720f797018a20e8e314fe7ffef080b", func := "loop.example/regulator/laws.FnExactSolve", spec := "fnExactSolve", recurses := true, plainKeys := false, apart := false, narrowed := true }
def FnExactSolveUptoSaid : Prop := fnExactSolveUptoRow.holds Try.pinned (OpenSpec.upto fnExactSolveSpec)

/-- 'laws.FnBest', WHERE WHAT IT READS IS OF BULK AT MOST 1048576: true; the input reads as it did. -/
def fnBestUptoRow : OpenClaim := { program := "ytpbclogjoangfaa", sum := "e660c095119f06e81c905a21bd9d440afb720f797018a20e8e314fe7ffef080b", func := "loop.example/regulator/laws.FnBest", spec := "fnBest", recurses := true, plainKeys := false, apart := false, narrowed := true }
def FnBestUptoSaid : Prop := fnBestUptoRow.holds Try.pinned (OpenSpec.upto fnBestSpec)

/-- 'laws.FnRing', WHERE WHAT IT READS IS OF BULK AT MOST 1048576: true; the input reads as it did. -/
def fnRingUptoRow : OpenClaim := { program := "ytpbclogjoangfaa", sum := "e660c095119f06e81c905a21bd9d440afb720f797018a20e8e314fe7ffef080b", func := "loop.example/regulator/laws.FnRing", spec := "fnRing", recurses := true, plainKeys := false, apart := false, narrowed := true }
def FnRingUptoSaid : Prop := fnRingUptoRow.holds Try.pinned (OpenSpec.upto fnRingSpec)

/-- 'laws.FnExactGuard', WHERE WHAT IT READS IS OF BULK AT MOST 1048576: true; the input reads as it did. -/
def fnExactGuardUptoRow : OpenClaim := { program := "ytpbclogjoangfaa", sum := "e660c095119f06e81c905a21bd9d440afb720f797018a20e8e314fe7ffef080b", func := "loop.example/regulator/laws.FnExactGuard", spec := "fnExactGuard", recurses := true, plainKeys := false, apart := false, narrowed := true }
def FnExactGuardUptoSaid : Prop := fnExactGuardUptoRow.holds Try.pinned (OpenSpec.upto fnExactGuardSpec)

end Rows
end Go.Proofs.Ytpbclogjoangfaa
