/-
  No cell of these rows narrows 'for every input' (looked for: loops, veiled, ifaces, maps, wideKeys, modest, calm, conditions, laid).
  DERIVED. THE GIVEN ROWS OF THIS SEAT. 5 by the template 'for every input the law returns true; each argument reads behind the call as it read before'; 0 by the template 'total and deterministic' (their statements: YtaflceohlijekaaGreatTotals.lean).
  GIVEN WITH THE SEED: the statements are not yours to turn. If you find one false, say at which input.
  Laid BY PROGRAM, IN A SANDBOX (cutbox-rows.mjs): the forced cells as the released guide's own fill.sh prints them over the translation 9e75cb146a6a099c… (all of the seat's roots in one cut). By AI agents, Wed Nov 11 2026. No macro, syntax, notation, axiom, sorry.
-/
import Derived.Test.YtaflceohlijekaaGreatChecked
import GoSem.Claim
import GoSem.ClaimJoined
import GoSem.ClaimMapViews
import Derived.JoinedTies
import Derived.KernelRfl
namespace Go.Proofs.YtaflceohlijekaaGreat
/- THE CELL 'sum', in the pinned program and in every row, IS THE sha256 OF THE DUMP (.gsa) THAT YtaflceohlijekaaGreatProg.lean LOADS. Nothing in Lean hashes anything: it is a label: what it is worth is what the hold of that sum in a sandbox is worth. -/
noncomputable def Tryz.pinned : Pinned := { name := "ytaflceohlijekaagreat", sum := "9e75cb146a6a099c9e7da68a25c3053b91bb8f8027c91ee8a868a0aa2a59eafd", checked := Tryz.checked }
namespace Rows
def none {H : Type} : Left H := { results := [], args := [] }

/-- 'laws.FnExactNewMatch': WHATEVER THE INPUT: true; the input reads as it did. -/
def fnExactNewMatchSpec : ChangeSpec := { name := "fnExactNewMatch", fn := fun _ => fun
  | [d1, d2, d3, d4, d5, d6, d7] => { results := [.lit (.bool true)], args := [d1, d2, d3, d4, d5, d6, d7] }
  | _ => none }
def fnExactNewMatchRow : OpenClaim := { program := "ytaflceohlijekaagreat", sum := "9e75cb146a6a099c9e7da68a25c3053b91bb8f8027c91ee8a868a0aa2a59eafd", func := "loop.example/g03315/laws.FnExactNewMatch", spec := "fnExactNewMatch", apart := false }
def FnExactNewMatchSaid : Prop := fnExactNewMatchRow.holds Tryz.pinned (OpenSpec.ofChange fnExactNewMatchSpec)

/-- ITS FALSE NEIGHBOUR: 'it returns false'. Refute it at one input. -/
def fnExactNewMatchWrong : ChangeSpec := { name := "fnExactNewMatch", fn := fun _ => fun
  | [d1, d2, d3, d4, d5, d6, d7] => { results := [.lit (.bool false)], args := [d1, d2, d3, d4, d5, d6, d7] }
  | _ => none }
def FnExactNewMatchWrongFalsely : Prop := fnExactNewMatchRow.holds Tryz.pinned (OpenSpec.ofChange fnExactNewMatchWrong)

/-- 'laws.FnExactJudgePeer': WHATEVER THE INPUT: true; the input reads as it did. -/
def fnExactJudgePeerSpec : ChangeSpec := { name := "fnExactJudgePeer", fn := fun _ => fun
  | [d1, d2] => { results := [.lit (.bool true)], args := [d1, d2] }
  | _ => none }
def fnExactJudgePeerRow : OpenClaim := { program := "ytaflceohlijekaagreat", sum := "9e75cb146a6a099c9e7da68a25c3053b91bb8f8027c91ee8a868a0aa2a59eafd", func := "loop.example/g03315/laws.FnExactJudgePeer", spec := "fnExactJudgePeer", apart := false }
def FnExactJudgePeerSaid : Prop := fnExactJudgePeerRow.holds Tryz.pinned (OpenSpec.ofChange fnExactJudgePeerSpec)

/-- ITS FALSE NEIGHBOUR: 'it returns false'. Refute it at one input. -/
def fnExactJudgePeerWrong : ChangeSpec := { name := "fnExactJudgePeer", fn := fun _ => fun
  | [d1, d2] => { results := [.lit (.bool false)], args := [d1, d2] }
  | _ => none }
def FnExactJudgePeerWrongFalsely : Prop := fnExactJudgePeerRow.holds Tryz.pinned (OpenSpec.ofChange fnExactJudgePeerWrong)

/-- 'laws.FnExactJudgeWatcher': WHATEVER THE INPUT: true; the input reads as it did. -/
def fnExactJudgeWatcherSpec : ChangeSpec := { name := "fnExactJudgeWatcher", fn := fun _ => fun
  | [d1, d2] => { results := [.lit (.bool true)], args := [d1, d2] }
  | _ => none }
def fnExactJudgeWatcherRow : OpenClaim := { program := "ytaflceohlijekaagreat", sum := "9e75cb146a6a099c9e7da68a25c3053b91bb8f8027c91ee8a868a0aa2a59eafd", func := "loop.example/g03315/laws.FnExactJudgeWatcher", spec := "fnExactJudgeWatcher", apart := false }
def FnExactJudgeWatcherSaid : Prop := fnExactJudgeWatcherRow.holds Tryz.pinned (OpenSpec.ofChange fnExactJudgeWatcherSpec)

/-- ITS FALSE NEIGHBOUR: 'it returns false'. Refute it at one input. -/
def fnExactJudgeWatcherWrong : ChangeSpec := { name := "fnExactJudgeWatcher", fn := fun _ => fun
  | [d1, d2] => { results := [.lit (.bool false)], args := [d1, d2] }
  | _ => none }
def FnExactJudgeWatcherWrongFalsely : Prop := fnExactJudgeWatcherRow.holds Tryz.pinned (OpenSpec.ofChange fnExactJudgeWatcherWrong)

/-- 'laws.FnExactJudgeMatch': WHATEVER THE INPUT: true; the input reads as it did. -/
def fnExactJudgeMatchSpec : ChangeSpec := { name := "fnExactJudgeMatch", fn := fun _ => fun
  | [d] => { results := [.lit (.bool true)], args := [d] }
  | _ => none }
def fnExactJudgeMatchRow : OpenClaim := { program := "ytaflceohlijekaagreat", sum := "9e75cb146a6a099c9e7da68a25c3053b91bb8f8027c91ee8a868a0aa2a59eafd", func := "loop.example/g03315/laws.FnExactJudgeMatch", spec := "fnExactJudgeMatch", apart := false }
def FnExactJudgeMatchSaid : Prop := fnExactJudgeMatchRow.holds Tryz.pinned (OpenSpec.ofChange fnExactJudgeMatchSpec)

/-- ITS FALSE NEIGHBOUR: 'it returns false'. Refute it at one input. -/
def fnExactJudgeMatchWrong : ChangeSpec := { name := "fnExactJudgeMatch", fn := fun _ => fun
  | [d] => { results := [.lit (.bool false)], args := [d] }
  | _ => none }
def FnExactJudgeMatchWrongFalsely : Prop := fnExactJudgeMatchRow.holds Tryz.pinned (OpenSpec.ofChange fnExactJudgeMatchWrong)

/-- 'laws.FnExactLockstepAt': WHATEVER THE INPUT: true; the input reads as it did. -/
def fnExactLockstepAtSpec : ChangeSpec := { name := "fnExactLockstepAt", fn := fun _ => fun
  | [d1, d2, d3] => { results := [.lit (.bool true)], args := [d1, d2, d3] }
  | _ => none }
def fnExactLockstepAtRow : OpenClaim := { program := "ytaflceohlijekaagreat", sum := "9e75cb146a6a099c9e7da68a25c3053b91bb8f8027c91ee8a868a0aa2a59eafd", func := "loop.example/g03315/laws.FnExactLockstepAt", spec := "fnExactLockstepAt", apart := false }
def FnExactLockstepAtSaid : Prop := fnExactLockstepAtRow.holds Tryz.pinned (OpenSpec.ofChange fnExactLockstepAtSpec)

/-- ITS FALSE NEIGHBOUR: 'it returns false'. Refute it at one input. -/
def fnExactLockstepAtWrong : ChangeSpec := { name := "fnExactLockstepAt", fn := fun _ => fun
  | [d1, d2, d3] => { results := [.lit (.bool false)], args := [d1, d2, d3] }
  | _ => none }
def FnExactLockstepAtWrongFalsely : Prop := fnExactLockstepAtRow.holds Tryz.pinned (OpenSpec.ofChange fnExactLockstepAtWrong)

/- THE SECOND FORM. 'bulk': how many values and letters a reading holds, each counted each time it is reached (what is shared counts as often as it is met; a slice's spare places count too). A statement '..UptoSaid' is the law's where the arguments, and the package variables that the reading takes, are together of bulk at most 1048576: NARROWER than '..Said'. Prove '..Said' where nothing that the law and all that it calls make is longer than what came in: it says more and counts as full. Else prove '..UptoSaid'. A law counts once. -/
mutual
def uptoBulk {H : Type} : DataW H → Nat
  | .lit (.string bytes) => bytes.length + 1
  | .lit _ => 1
  | .nil => 1
  | .ptr d => uptoBulk d + 1
  | .slice elems spare => uptoBulkAll elems + uptoBulkAll spare + 1
  | .agg parts => uptoBulkAll parts + 1
  | .iface _ d => uptoBulk d + 1
  | .map entries => uptoBulkEntries entries + 1
  | .held _ => 1
def uptoBulkAll {H : Type} : List (DataW H) → Nat
  | [] => 0
  | d :: r => uptoBulk d + uptoBulkAll r
def uptoBulkEntries {H : Type} : List (Lit × DataW H) → Nat
  | [] => 0
  | x :: r => uptoBulkEntry x + uptoBulkEntries r
def uptoBulkEntry {H : Type} : Lit × DataW H → Nat
  | (.string bytes, d) => bytes.length + uptoBulk d + 1
  | (_, d) => uptoBulk d + 1
 end
def uptoSmall : (H : Type) → List (DataW H) → Bool := fun _ ds => decide (uptoBulkAll ds ≤ 1048576)
def OpenSpec.upto (s : _root_.Go.ChangeSpec) : _root_.Go.OpenSpec := { _root_.Go.OpenSpec.ofChange s with cond := some uptoSmall }

/-- 'laws.FnExactNewMatch', WHERE WHAT IT READS IS OF BULK AT MOST 1048576: true; the input reads as it did. -/
def fnExactNewMatchUptoRow : OpenClaim := { program := "ytaflceohlijekaagreat", sum := "9e75cb146a6a099c9e7da68a25c3053b91bb8f8027c91ee8a868a0aa2a59eafd", func := "loop.example/g03315/laws.FnExactNewMatch", spec := "fnExactNewMatch", apart := false, narrowed := true }
def FnExactNewMatchUptoSaid : Prop := fnExactNewMatchUptoRow.holds Tryz.pinned (OpenSpec.upto fnExactNewMatchSpec)

/-- 'laws.FnExactJudgePeer', WHERE WHAT IT READS IS OF BULK AT MOST 1048576: true; the input reads as it did. -/
def fnExactJudgePeerUptoRow : OpenClaim := { program := "ytaflceohlijekaagreat", sum := "9e75cb146a6a099c9e7da68a25c3053b91bb8f8027c91ee8a868a0aa2a59eafd", func := "loop.example/g03315/laws.FnExactJudgePeer", spec := "fnExactJudgePeer", apart := false, narrowed := true }
def FnExactJudgePeerUptoSaid : Prop := fnExactJudgePeerUptoRow.holds Tryz.pinned (OpenSpec.upto fnExactJudgePeerSpec)

/-- 'laws.FnExactJudgeWatcher', WHERE WHAT IT READS IS OF BULK AT MOST 1048576: true; the input reads as it did. -/
def fnExactJudgeWatcherUptoRow : OpenClaim := { program := "ytaflceohlijekaagreat", sum := "9e75cb146a6a099c9e7da68a25c3053b91bb8f8027c91ee8a868a0aa2a59eafd", func := "loop.example/g03315/laws.FnExactJudgeWatcher", spec := "fnExactJudgeWatcher", apart := false, narrowed := true }
def FnExactJudgeWatcherUptoSaid : Prop := fnExactJudgeWatcherUptoRow.holds Tryz.pinned (OpenSpec.upto fnExactJudgeWatcherSpec)

/-- 'laws.FnExactJudgeMatch', WHERE WHAT IT READS IS OF BULK AT MOST 1048576: true; the input reads as it did. -/
def fnExactJudgeMatchUptoRow : OpenClaim := { program := "ytaflceohlijekaagreat", sum := "9e75cb146a6a099c9e7da68a25c3053b91bb8f8027c91ee8a868a0aa2a59eafd", func := "loop.example/g03315/laws.FnExactJudgeMatch", spec := "fnExactJudgeMatch", apart := false, narrowed := true }
def FnExactJudgeMatchUptoSaid : Prop := fnExactJudgeMatchUptoRow.holds Tryz.pinned (OpenSpec.upto fnExactJudgeMatchSpec)

/-- 'laws.FnExactLockstepAt', WHERE WHAT IT READS IS OF BULK AT MOST 1048576: true; the input reads as it did. -/
def fnExactLockstepAtUptoRow : OpenClaim := { program := "ytaflceohlijekaagreat", sum := "9e75cb146a6a099c9e7da68a25c3053b91bb8f8027c91ee8a868a0aa2a59eafd", func := "loop.example/g03315/laws.FnExactLockstepAt", spec := "fnExactLockstepAt", apart := false, narrowed := true }
def FnExactLockstepAtUptoSaid : Prop := fnExactLockstepAtUptoRow.holds Tryz.pinned (OpenSpec.upto fnExactLockstepAtSpec)

end Rows
end Go.Proofs.YtaflceohlijekaaGreat
