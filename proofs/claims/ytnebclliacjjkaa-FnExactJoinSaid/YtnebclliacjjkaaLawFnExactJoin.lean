import Derived.Test.YtnebclliacjjkaaRows
import Derived.Test.YtnebclliacjjkaaChecked
import Derived.Test.YtnebclliacjjkaaWalk1
import Derived.WalkKit
import Derived.ProofKit
import Derived.OpenShut
import Derived.ShutString
import Derived.ChangeOld
import Derived.Below
import Derived.SizedLaws
/- The law FnExactJoin returns true at all arguments: the functions that it reaches are walked, and what they compute is held against each other. No condition is added. -/
set_option linter.unusedVariables false
set_option linter.unusedSimpArgs false
namespace Go.Proofs.Ytnebclliacjjkaa.fnExactJoin
open Go.ChangeShapes Go.WideShapes Go.ChangeAt Go.RowKit Go.E Go.T
theorem contract (us : List E.V) (h : E.ArgsT Go.T.Ev 6 [31, 9] us) : E.Spec Try.prog 4 us fun r _ => r = .val (.bool true) := by
  obtain ⟨u0, us, rfl, g0, h⟩ := argsT_cons h
  obtain ⟨u1, us, rfl, g1, h⟩ := argsT_cons h
  obtain rfl := argsT_nil h
  obtain ⟨l0, q0, b0, bc0⟩ := typed_listP (c := cS) (P := fun s => s.size ≤ maxLen) (argT_one g0 rfl rfl) rfl rfl rfl (fun _ k => (by obtain ⟨s, e, hs⟩ := typed_string k rfl rfl; exact ⟨s, e, hs⟩))
  simp only [cL, List.cons.injEq, and_true] at q0
  subst q0
  obtain ⟨l1, q1, b1⟩ := typed_string (argT_one g1 rfl rfl) rfl rfl
  simp only [List.cons.injEq, and_true] at q1
  subst q1
  simp only [maxLen] at *
  exact Go.T.s_laws_FnExactJoin  (by (try dsimp only); first | omega | assumption) (by (try dsimp only); first | omega | assumption)
theorem own : ownKnob Try.prog.godebug = none := by kernel_rfl
theorem laidOut : laidOutB Try.prog = true := by kernel_rfl
set_option maxRecDepth 100000 in
theorem lifted (os : Os) (started : os.Started) (H : Type) (enc : TypeId × Value → H) :
    ReturnsInHanded {} Try.checked os 4 .any (Rows.fnExactJoinSpec.pre6 enc Try.prog Try.f4 Rows.fnExactJoinRow.domain false) (Rows.fnExactJoinSpec.post enc Try.prog Try.f4 false true false false) := by
  refine returnsInHanded_of_change_sized (C := Try.checked) own started (by kernel_rfl) Try.func4
    (ChangeSpec.witness6 (enc := enc) (C := Try.checked) false ⟨#[], #[.slice none 0 0, .string ByteArray.empty], []⟩ 8 (by kernel_rfl) (by kernel_rfl) (by kernel_rfl) (by kernel_rfl)) ?_
  intro W base args ds gs before hval0 hW hcnd hsz0 _
  have hval : ∀ (j : Nat) t v, Try.f4.params[j]? = some t → args[j]? = some v → Value.okWide Try.prog W .any base t v := hval0
  have hW' := hW
  obtain ⟨p, q, hA0, hV, rfl, hfz, hnd⟩ := hW
  have hA : DataW.TrodAll enc Try.prog W 0 (fun _ => true) true Try.f4.params.toList args.toList ds p := hA0
  rw [Try.params4] at hA hval
  have main := E.law_calls (E := Go.T.Ev) (F := 6) (base := base) (f := 4) Go.T.evOk (ts := [31, 9]) (by intro t ht; simp only [List.mem_cons, List.not_mem_nil, or_false] at ht; rcases ht with rfl | rfl <;> rfl) (fun j t v h1 h2 => hval j t v (by simpa using h1) (by simpa using h2)) hA contract
  obtain ⟨v0, vs0, d0, ds0, p0, q0, hargs, rfl, rfl, h0, r0⟩ := trodAll_cons hA
  obtain ⟨v1, vs1, d1, ds1, p1, q1, rfl, rfl, rfl, h1, r1⟩ := trodAll_cons r0
  obtain ⟨rfl, rfl, rfl⟩ := trodAll_nil r1
  obtain rfl : args = #[v0, v1] := by cases args; simp_all
  obtain ⟨rfl, rfl⟩ := trodVars_none hV
  have k0 := h0
  have lt0 : ∀ x ∈ p0, x.block < W.heap.size := by obtain ⟨m, hm⟩ := k0; exact DataW.trod_lt m _ _ _ hm
  have k1 := h1
  have lt1 : ∀ x ∈ p1, x.block < W.heap.size := by obtain ⟨m, hm⟩ := k1; exact DataW.trod_lt m _ _ _ hm
  clear hA0 hval0 hsz0
  refine main.mono fun e W' ⟨he, bel⟩ => ?_
  subst he
  exact ⟨_, rfl, _, _, _, [], _, [], hW', trodAll_mk1 (shut_bool Try.underlying4 _), (trodAll_cons_mk (Below.trod laidOut (by kernel_rfl) (of_decide_eq_true (by kernel_rfl)) k0 bel lt0) (trodAll_cons_mk (Below.trod laidOut (by kernel_rfl) (of_decide_eq_true (by kernel_rfl)) k1 bel lt1) trodAll_mk0)), rfl, bel.frame _, fun h => by cases h⟩
set_option maxRecDepth 100000 in
theorem over : Rows.fnExactJoinRow.holds Try.pinned (OpenSpec.ofChange Rows.fnExactJoinSpec) :=
  OpenClaim.holds_of_wide 4 Try.f4 rfl rfl rfl rfl rfl rfl rfl ⟨rfl, rfl, rfl, rfl, rfl⟩ rfl rfl rfl rfl rfl (by kernel_rfl) Try.func4 (by kernel_rfl)
    (of_decide_eq_true (by kernel_rfl)) (by unfold Func.isWrapper; first | (rw [if_pos (by decide +kernel)]; kernel_rfl) | (rw [if_neg (by decide +kernel)]; exact ⟨rfl, rfl⟩))
    (fun os started H enc _ => lifted os started H enc)
theorem proved : Rows.FnExactJoinSaid := over
end Go.Proofs.Ytnebclliacjjkaa.fnExactJoin
namespace Go.Proofs.Ytnebclliacjjkaa
/-- The row, under a short name, for the claim. -/
theorem fnExactJoin_holds : Rows.FnExactJoinSaid := fnExactJoin.proved
end Go.Proofs.Ytnebclliacjjkaa
