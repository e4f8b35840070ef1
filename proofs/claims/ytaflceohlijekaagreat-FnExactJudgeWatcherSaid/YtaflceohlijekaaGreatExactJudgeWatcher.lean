/- For every match and every number, the program's JudgeWatcher answers as the specification's JudgeWatcher does, and leaves its arguments as they were; there is no condition. -/
import Derived.Test.YtaflceohlijekaaGreatEvJ
import Derived.Test.YtaflceohlijekaaGreatRows
import Derived.WalkKit
import Derived.ProofKit
import Derived.OpenShut
import Derived.ShutString
import Derived.ChangeOld
import Derived.Below
import Derived.SizedLaws
import Derived.Carry
set_option linter.unusedVariables false
set_option maxRecDepth 100000
set_option linter.unusedSimpArgs false
namespace Go.Proofs.YtaflceohlijekaaGreat.Ev
open Go.ChangeShapes Go.WideShapes Go.ChangeAt Go.RowKit
def tkA : List Nat := [3, 9, 22, 24, 25, 27, 29, 63, 64, 65, 66, 67, 68, 70, 78, 79, 146, 170, 171, 173, 174, 176, 178, 181, 183, 218, 234, 237, 249]
def Pure_FnExactJudgeWatcher : Prop := ∀ (y0 : TMatch) (y1 : Int), wfT SMatch y0 -> wfT i64 y1 -> ∃ k, c_laws_FnExactJudgeWatcher (C k) (y0, y1) = some true
theorem own : ownKnob Tryz.prog.godebug = none := by kernel_rfl
theorem laidOut : laidOutB Tryz.prog = true := by kernel_rfl
theorem closedAll : tkA.all (fun t => tyCheck Tryz.prog E t && tyClosed E (fun i => tkA.any (Nat.beq i)) t) = true := by kernel_rfl
theorem htkA (t : Nat) (h : tkA.any (Nat.beq t) = true) : TyOk Tryz.prog E t /\ tyClosed E (fun i => tkA.any (Nat.beq i)) t = true := by
  have := closedAll
  rw [List.all_eq_true] at this
  rw [List.any_eq_true] at h
  obtain ⟨u, hu, he⟩ := h
  have h2 := this u hu
  rw [Bool.and_eq_true] at h2
  rw [Nat.eq_of_beq_eq_true he]
  exact ⟨tyCheck_ok h2.1, h2.2⟩
set_option maxRecDepth 100000 in
theorem lifted_FnExactJudgeWatcher (hpure : Pure_FnExactJudgeWatcher) (os : Os) (started : os.Started) (H : Type) (enc : TypeId × Value -> H) :
    ReturnsInHanded {} Tryz.checked os 5 .any (Go.Proofs.YtaflceohlijekaaGreat.Rows.fnExactJudgeWatcherSpec.pre6 enc Tryz.prog Tryz.f5 Go.Proofs.YtaflceohlijekaaGreat.Rows.fnExactJudgeWatcherRow.domain false) (Go.Proofs.YtaflceohlijekaaGreat.Rows.fnExactJudgeWatcherSpec.post enc Tryz.prog Tryz.f5 false true false false) := by
  refine returnsInHanded_of_change_sized (C := Tryz.checked) own started (by kernel_rfl) Tryz.func5
    (ChangeSpec.witness6 (enc := enc) (C := Tryz.checked) false ⟨#[], #[.agg #[.slice none 0 0, .int .i64 0, .int .i64 0, .slice none 0 0, .slice none 0 0, .slice none 0 0, .slice none 0 0, .slice none 0 0, .int .i64 0, .slice none 0 0, .slice none 0 0, .slice none 0 0, .int .i64 0], .int .i64 0], []⟩ 8 (by kernel_rfl) (by kernel_rfl) (by kernel_rfl) (by kernel_rfl)) ?_
  intro W base args ds gs before hval0 hW hcnd hsz0 _
  have hval : ∀ (j : Nat) t v, Tryz.f5.params[j]? = some t -> args[j]? = some v -> Value.okWide Tryz.prog W .any base t v := hval0
  have hW' := hW
  obtain ⟨p, q, hA0, hV, rfl, hfz, hnd⟩ := hW
  have hA : DataW.TrodAll enc Tryz.prog W 0 (fun _ => true) true Tryz.f5.params.toList args.toList ds p := hA0
  rw [Tryz.params5] at hA hval
  obtain ⟨v0, vs0, d0, ds0, p0, q0, hargs, rfl, rfl, h0, r0⟩ := trodAll_cons hA
  obtain ⟨v1, vs1, d1, ds1, p1, q1, rfl, rfl, rfl, h1, r1⟩ := trodAll_cons r0
  obtain ⟨rfl, rfl, rfl⟩ := trodAll_nil r1
  obtain rfl : args = #[v0, v1] := by cases args; simp_all
  obtain ⟨rfl, rfl⟩ := trodVars_none hV
  obtain ⟨y0, a0, w0⟩ := open_arg htkA (t := 70) (by kernel_rfl) (hval 0 70 v0 rfl rfl) h0
  have lt0 : ∀ x ∈ p0, x.block < W.heap.size := by obtain ⟨m, hm⟩ := h0; exact DataW.trod_lt m _ _ _ hm
  obtain ⟨y1, a1, w1⟩ := open_arg htkA (t := 3) (by kernel_rfl) (hval 1 3 v1 rfl rfl) h1
  have lt1 : ∀ x ∈ p1, x.block < W.heap.size := by obtain ⟨m, hm⟩ := h1; exact DataW.trod_lt m _ _ _ hm
  obtain ⟨k, hk⟩ := hpure y0 y1 w0 w1
  have hargs : ArgsRel (cx0 W) (E.sig 5).ps (y0, y1) [v0, v1] := ⟨v0, [v1], rfl, a0, ⟨v1, rfl, a1⟩⟩
  refine (sound k 5 (y0, y1) true hk (cx0 W) _ hargs).mono fun e W' hpost => ?_
  obtain ⟨he, bel⟩ := law_post (f := 5) rfl (by kernel_rfl) rfl hpost
  subst he
  exact ⟨_, rfl, _, _, _, [], _, [], hW', trodAll_mk1 (shut_bool Tryz.underlying4 _), (trodAll_cons_mk (Below.trod laidOut (by kernel_rfl) (of_decide_eq_true (by kernel_rfl)) h0 bel lt0) (trodAll_cons_mk (Below.trod laidOut (by kernel_rfl) (of_decide_eq_true (by kernel_rfl)) h1 bel lt1) trodAll_mk0)), rfl, bel.frame _, fun h => by cases h⟩
theorem over_FnExactJudgeWatcher (hpure : Pure_FnExactJudgeWatcher) : Go.Proofs.YtaflceohlijekaaGreat.Rows.FnExactJudgeWatcherSaid :=
  OpenClaim.holds_of_wide 5 Tryz.f5 rfl rfl rfl rfl rfl rfl rfl ⟨rfl, rfl, rfl, rfl, rfl⟩ rfl rfl rfl rfl rfl (by kernel_rfl) Tryz.func5 (by kernel_rfl)
    (of_decide_eq_true (by kernel_rfl)) (by unfold Func.isWrapper; first | (rw [if_pos (by decide +kernel)]; kernel_rfl) | (rw [if_neg (by decide +kernel)]; exact ⟨rfl, rfl⟩))
    (fun os started H enc _ => lifted_FnExactJudgeWatcher hpure os started H enc)
end Go.Proofs.YtaflceohlijekaaGreat.Ev
namespace Go.Proofs.YtaflceohlijekaaGreat
theorem judgeWatcher_holds : Rows.FnExactJudgeWatcherSaid := Ev.over_FnExactJudgeWatcher Ev.law_JudgeWatcher
end Go.Proofs.YtaflceohlijekaaGreat
#print axioms Go.Proofs.YtaflceohlijekaaGreat.judgeWatcher_holds
