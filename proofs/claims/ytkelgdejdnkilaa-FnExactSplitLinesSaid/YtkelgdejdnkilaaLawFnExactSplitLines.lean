import Derived.Test.YtkelgdejdnkilaaRows
import Derived.Test.YtkelgdejdnkilaaChecked
import Derived.Test.YtkelgdejdnkilaaWalk1
import Derived.WalkKit
import Derived.ProofKit
import Derived.OpenShut
import Derived.ShutString
import Derived.ChangeOld
import Derived.Below
import Derived.SizedLaws
/- The law FnExactSplitLines returns true at all arguments: the functions that it reaches are walked, and what they compute is held against each other. No condition is added. -/
set_option linter.unusedVariables false
set_option linter.unusedSimpArgs false
namespace Go.Proofs.Ytkelgdejdnkilaa.fnExactSplitLines
open Go.ChangeShapes Go.WideShapes Go.ChangeAt Go.RowKit Go.E
theorem contract (us : List E.V) (h : E.ArgsT Go.T.Ev 6 [9] us) : E.Spec Try.prog 8 us fun r _ => r = .val (.bool true) := by
  obtain ⟨u0, us, rfl, g0, h⟩ := argsT_cons h
  obtain rfl := argsT_nil h
  obtain ⟨l0, q0, b0⟩ := typed_string (argT_one g0 rfl rfl) rfl rfl
  simp only [List.cons.injEq, and_true] at q0
  subst q0
  simp only [maxLen] at *
  exact Go.T.s_laws_FnExactSplitLines 
theorem own : ownKnob Try.prog.godebug = none := by kernel_rfl
theorem laidOut : laidOutB Try.prog = true := by kernel_rfl
theorem lifted (os : Os) (started : os.Started) (H : Type) (enc : TypeId × Value → H) :
    ReturnsInHanded {} Try.checked os 8 .any (Rows.fnExactSplitLinesSpec.pre6 enc Try.prog Try.f8 Rows.fnExactSplitLinesRow.domain false) (Rows.fnExactSplitLinesSpec.post enc Try.prog Try.f8 false true false false) := by
  refine returnsInHanded_of_change_sized (C := Try.checked) own started (by kernel_rfl) Try.func8
    (ChangeSpec.witness6 (enc := enc) (C := Try.checked) false ⟨#[], #[.string ByteArray.empty], []⟩ 8 (by kernel_rfl) (by kernel_rfl) (by kernel_rfl) (by kernel_rfl)) ?_
  intro W base args ds gs before hval0 hW hcnd hsz0 _
  have hval : ∀ (j : Nat) t v, Try.f8.params[j]? = some t → args[j]? = some v → Value.okWide Try.prog W .any base t v := hval0
  have hW' := hW
  obtain ⟨p, q, hA0, hV, rfl, hfz, hnd⟩ := hW
  have hA : DataW.TrodAll enc Try.prog W 0 (fun _ => true) true Try.f8.params.toList args.toList ds p := hA0
  rw [Try.params8] at hA hval
  have main := E.law_calls (E := Go.T.Ev) (F := 6) (base := base) (f := 8) Go.T.evOk (ts := [9]) (by simp; rfl) (fun j t v h1 h2 => hval j t v (by simpa using h1) (by simpa using h2)) hA contract
  obtain ⟨v0, vs0, d0, ds0, p0, q0, hargs, rfl, rfl, h0, r0⟩ := trodAll_cons hA
  obtain ⟨rfl, rfl, rfl⟩ := trodAll_nil r0
  obtain rfl : args = #[v0] := by cases args; simp_all
  obtain ⟨rfl, rfl⟩ := trodVars_none hV
  have k0 := h0
  have lt0 : ∀ x ∈ p0, x.block < W.heap.size := by obtain ⟨m, hm⟩ := k0; exact DataW.trod_lt m _ _ _ hm
  clear hA0 hval0 hsz0
  refine main.mono fun e W' ⟨he, bel⟩ => ?_
  subst he
  exact ⟨_, rfl, _, _, _, [], _, [], hW', trodAll_mk1 (shut_bool Try.underlying4 _), (trodAll_cons_mk (Below.trod laidOut (by kernel_rfl) (of_decide_eq_true (by kernel_rfl)) k0 bel lt0) trodAll_mk0), rfl, bel.frame _, fun h => by cases h⟩
theorem over : Rows.fnExactSplitLinesRow.holds Try.pinned (OpenSpec.ofChange Rows.fnExactSplitLinesSpec) :=
  OpenClaim.holds_of_wide 8 Try.f8 rfl rfl rfl rfl rfl rfl rfl ⟨rfl, rfl, rfl, rfl, rfl⟩ rfl rfl rfl rfl rfl (by kernel_rfl) Try.func8 (by kernel_rfl)
    (of_decide_eq_true (by kernel_rfl)) (by unfold Func.isWrapper; first | (rw [if_pos (by decide +kernel)]; kernel_rfl) | (rw [if_neg (by decide +kernel)]; exact ⟨rfl, rfl⟩))
    (fun os started H enc _ => lifted os started H enc)
theorem proved : Rows.FnExactSplitLinesSaid := over
end Go.Proofs.Ytkelgdejdnkilaa.fnExactSplitLines
namespace Go.Proofs.Ytkelgdejdnkilaa
/-- The row, under a short name, for the claim. -/
theorem fnExactSplitLines_holds : Rows.FnExactSplitLinesSaid := fnExactSplitLines.proved
end Go.Proofs.Ytkelgdejdnkilaa
