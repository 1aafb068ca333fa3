import Derived.Test.YtnebclliacjjkabRows
import Derived.Test.YtnebclliacjjkabChecked
import Derived.Test.YtnebclliacjjkabWalk2
import Derived.WalkKit
import Derived.ProofKit
import Derived.OpenShut
import Derived.ShutString
import Derived.ChangeOld
import Derived.Below
import Derived.SizedLaws
/- The law FnExactDepthOf returns true at all arguments: the functions that it reaches are walked, and what they compute is held against each other. No condition is added. -/
set_option linter.unusedVariables false
set_option linter.unusedSimpArgs false
namespace Go.Proofs.Ytnebclliacjjkab.fnExactDepthOf
open Go.ChangeShapes Go.WideShapes Go.ChangeAt Go.RowKit Go.E Go.T
theorem contract (us : List E.V) (h : E.ArgsT Go.T.Ev 6 [36] us) : E.Spec Try.prog 6 us fun r _ => r = .val (.bool true) := by
  obtain ⟨u0, us, rfl, g0, h⟩ := argsT_cons h
  obtain rfl := argsT_nil h
  obtain ⟨l0, q0, b0⟩ := typed_list (c := cN) (argT_one g0 rfl rfl) rfl rfl rfl (fun _ k => (by obtain ⟨_, _, _, _, rfl, k0, k1, k2, k3⟩ := typed_strct4 k rfl rfl; obtain ⟨n0, rfl, _⟩ := typed_int k0 rfl rfl; obtain ⟨n1, rfl, _⟩ := typed_int k1 rfl rfl; obtain ⟨n2, rfl, _⟩ := typed_int k2 rfl rfl; obtain ⟨n3, rfl, _⟩ := typed_int k3 rfl rfl; exact ⟨⟨n0, n1, n2, n3⟩, rfl⟩))
  simp only [cL, List.cons.injEq, and_true] at q0
  subst q0
  simp only [maxLen] at *
  exact Go.T.s_laws_FnExactDepthOf  (by (try dsimp only); first | omega | assumption)
theorem own : ownKnob Try.prog.godebug = none := by kernel_rfl
theorem laidOut : laidOutB Try.prog = true := by kernel_rfl
set_option maxRecDepth 100000 in
theorem lifted (os : Os) (started : os.Started) (H : Type) (enc : TypeId × Value → H) :
    ReturnsInHanded {} Try.checked os 6 .any (Rows.fnExactDepthOfSpec.pre6 enc Try.prog Try.f6 Rows.fnExactDepthOfRow.domain false) (Rows.fnExactDepthOfSpec.post enc Try.prog Try.f6 false true false false) := by
  refine returnsInHanded_of_change_sized (C := Try.checked) own started (by kernel_rfl) Try.func6
    (ChangeSpec.witness6 (enc := enc) (C := Try.checked) false ⟨#[], #[.slice none 0 0], []⟩ 8 (by kernel_rfl) (by kernel_rfl) (by kernel_rfl) (by kernel_rfl)) ?_
  intro W base args ds gs before hval0 hW hcnd hsz0 _
  have hval : ∀ (j : Nat) t v, Try.f6.params[j]? = some t → args[j]? = some v → Value.okWide Try.prog W .any base t v := hval0
  have hW' := hW
  obtain ⟨p, q, hA0, hV, rfl, hfz, hnd⟩ := hW
  have hA : DataW.TrodAll enc Try.prog W 0 (fun _ => true) true Try.f6.params.toList args.toList ds p := hA0
  rw [Try.params6] at hA hval
  have main := E.law_calls (E := Go.T.Ev) (F := 6) (base := base) (f := 6) Go.T.evOk (ts := [36]) (by intro t ht; simp only [List.mem_cons, List.not_mem_nil, or_false] at ht; rcases ht with rfl <;> rfl) (fun j t v h1 h2 => hval j t v (by simpa using h1) (by simpa using h2)) hA contract
  obtain ⟨v0, vs0, d0, ds0, p0, q0, hargs, rfl, rfl, h0, r0⟩ := trodAll_cons hA
  obtain ⟨rfl, rfl, rfl⟩ := trodAll_nil r0
  obtain rfl : args = #[v0] := by cases args; simp_all
  obtain ⟨rfl, rfl⟩ := trodVars_none hV
  have k0 := h0
  have lt0 : ∀ x ∈ p0, x.block < W.heap.size := by obtain ⟨m, hm⟩ := k0; exact DataW.trod_lt m _ _ _ hm
  clear hA0 hval0 hsz0
  refine main.mono fun e W' ⟨he, bel⟩ => ?_
  subst he
  exact ⟨_, rfl, _, _, _, [], _, [], hW', trodAll_mk1 (shut_bool Try.underlying4 _), (trodAll_cons_mk (Below.trod laidOut (by kernel_rfl) (of_decide_eq_true (by kernel_rfl)) k0 bel lt0) trodAll_mk0), rfl, bel.frame _, fun h => by cases h⟩
set_option maxRecDepth 100000 in
theorem over : Rows.fnExactDepthOfRow.holds Try.pinned (OpenSpec.ofChange Rows.fnExactDepthOfSpec) :=
  OpenClaim.holds_of_wide 6 Try.f6 rfl rfl rfl rfl rfl rfl rfl ⟨rfl, rfl, rfl, rfl, rfl⟩ rfl rfl rfl rfl rfl (by kernel_rfl) Try.func6 (by kernel_rfl)
    (of_decide_eq_true (by kernel_rfl)) (by unfold Func.isWrapper; first | (rw [if_pos (by decide +kernel)]; kernel_rfl) | (rw [if_neg (by decide +kernel)]; exact ⟨rfl, rfl⟩))
    (fun os started H enc _ => lifted os started H enc)
theorem proved : Rows.FnExactDepthOfSaid := over
end Go.Proofs.Ytnebclliacjjkab.fnExactDepthOf
namespace Go.Proofs.Ytnebclliacjjkab
/-- The row, under a short name, for the claim. -/
theorem fnExactDepthOf_holds : Rows.FnExactDepthOfSaid := fnExactDepthOf.proved
end Go.Proofs.Ytnebclliacjjkab
