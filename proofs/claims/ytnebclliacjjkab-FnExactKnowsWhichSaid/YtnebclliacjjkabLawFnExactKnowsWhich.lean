import Derived.Test.YtnebclliacjjkabRows
import Derived.Test.YtnebclliacjjkabChecked
import Derived.Test.YtnebclliacjjkabWalk1
import Derived.WalkKit
import Derived.ProofKit
import Derived.OpenShut
import Derived.ShutString
import Derived.ChangeOld
import Derived.Below
import Derived.SizedLaws
/- The law FnExactKnowsWhich returns true at all arguments: the functions that it reaches are walked, and what they compute is held against each other. No condition is added. -/
set_option linter.unusedVariables false
set_option linter.unusedSimpArgs false
namespace Go.Proofs.Ytnebclliacjjkab.fnExactKnowsWhich
open Go.ChangeShapes Go.WideShapes Go.ChangeAt Go.RowKit Go.E Go.T
theorem contract (us : List E.V) (h : E.ArgsT Go.T.Ev 6 [27, 3] us) : E.Spec Try.prog 5 us fun r _ => r = .val (.bool true) := by
  obtain ⟨u0, us, rfl, g0, h⟩ := argsT_cons h
  obtain ⟨u1, us, rfl, g1, h⟩ := argsT_cons h
  obtain rfl := argsT_nil h
  obtain ⟨w0, rfl, gg0⟩ := argT_agg g0 rfl rfl
  obtain ⟨_, _, _, rfl, k0, k1, k2⟩ := typed_strct3 gg0 rfl rfl
  obtain ⟨lf0, rfl, bf0⟩ := typed_list (c := cI) k0 rfl rfl rfl (fun _ k => (by obtain ⟨n, k, _⟩ := typed_int k rfl rfl; exact ⟨n, k⟩))
  obtain ⟨lb0, rfl, bb0, bc0⟩ := typed_listP (c := cL false 1 cI) (P := fun b => b.length ≤ maxLen) k1 rfl rfl rfl (fun _ k => (by obtain ⟨l, e, hl⟩ := typed_list (c := cI) k rfl rfl rfl (fun _ k => (by obtain ⟨n, k, _⟩ := typed_int k rfl rfl; exact ⟨n, k⟩)); exact ⟨l, e, hl⟩))
  obtain ⟨la0, rfl, ba0⟩ := typed_int k2 rfl rfl
  have ba0 := i64_of ba0
  obtain ⟨l1, q1, b1⟩ := typed_int (argT_one g1 rfl rfl) rfl rfl
  simp only [List.cons.injEq, and_true] at q1
  subst q1
  have b1 := i64_of b1
  simp only [maxLen] at *
  have hM0 : (eL false 1 cI lf0 :: (eL false 1 (cL false 1 cI) lb0 :: [V.val (.int .i64 la0)])) = cM false ⟨lf0, lb0, la0⟩ := rfl
  exact Go.T.s_laws_FnExactKnowsWhich (m := ⟨lf0, lb0, la0⟩) (by (try dsimp only); first | omega | assumption) (by (try dsimp only); first | omega | assumption) (by (try dsimp only); first | omega | assumption)
theorem own : ownKnob Try.prog.godebug = none := by kernel_rfl
theorem laidOut : laidOutB Try.prog = true := by kernel_rfl
set_option maxRecDepth 100000 in
theorem lifted (os : Os) (started : os.Started) (H : Type) (enc : TypeId × Value → H) :
    ReturnsInHanded {} Try.checked os 5 .any (Rows.fnExactKnowsWhichSpec.pre6 enc Try.prog Try.f5 Rows.fnExactKnowsWhichRow.domain false) (Rows.fnExactKnowsWhichSpec.post enc Try.prog Try.f5 false true false false) := by
  refine returnsInHanded_of_change_sized (C := Try.checked) own started (by kernel_rfl) Try.func5
    (ChangeSpec.witness6 (enc := enc) (C := Try.checked) false ⟨#[], #[.agg #[.slice none 0 0, .slice none 0 0, .int .i64 0], .int .i64 0], []⟩ 8 (by kernel_rfl) (by kernel_rfl) (by kernel_rfl) (by kernel_rfl)) ?_
  intro W base args ds gs before hval0 hW hcnd hsz0 _
  have hval : ∀ (j : Nat) t v, Try.f5.params[j]? = some t → args[j]? = some v → Value.okWide Try.prog W .any base t v := hval0
  have hW' := hW
  obtain ⟨p, q, hA0, hV, rfl, hfz, hnd⟩ := hW
  have hA : DataW.TrodAll enc Try.prog W 0 (fun _ => true) true Try.f5.params.toList args.toList ds p := hA0
  rw [Try.params5] at hA hval
  have main := E.law_calls (E := Go.T.Ev) (F := 6) (base := base) (f := 5) Go.T.evOk (ts := [27, 3]) (by intro t ht; simp only [List.mem_cons, List.not_mem_nil, or_false] at ht; rcases ht with rfl | rfl <;> rfl) (fun j t v h1 h2 => hval j t v (by simpa using h1) (by simpa using h2)) hA contract
  obtain ⟨v0, vs0, d0, ds0, p0, q0, hargs, rfl, rfl, h0, r0⟩ := trodAll_cons hA
  obtain ⟨v1, vs1, d1, ds1, p1, q1, rfl, rfl, rfl, h1, r1⟩ := trodAll_cons r0
  obtain ⟨rfl, rfl, rfl⟩ := trodAll_nil r1
  obtain rfl : args = #[v0, v1] := by cases args; simp_all
  obtain ⟨rfl, rfl⟩ := trodVars_none hV
  have k0 := h0
  have lt0 : ∀ x ∈ p0, x.block < W.heap.size := by obtain ⟨m, hm⟩ := k0; exact DataW.trod_lt m _ _ _ hm
  have k1 := h1
  have lt1 : ∀ x ∈ p1, x.block < W.heap.size := by obtain ⟨m, hm⟩ := k1; exact DataW.trod_lt m _ _ _ hm
  clear hA0 hval0 hsz0
  refine main.mono fun e W' ⟨he, bel⟩ => ?_
  subst he
  exact ⟨_, rfl, _, _, _, [], _, [], hW', trodAll_mk1 (shut_bool Try.underlying4 _), (trodAll_cons_mk (Below.trod laidOut (by kernel_rfl) (of_decide_eq_true (by kernel_rfl)) k0 bel lt0) (trodAll_cons_mk (Below.trod laidOut (by kernel_rfl) (of_decide_eq_true (by kernel_rfl)) k1 bel lt1) trodAll_mk0)), rfl, bel.frame _, fun h => by cases h⟩
set_option maxRecDepth 100000 in
theorem over : Rows.fnExactKnowsWhichRow.holds Try.pinned (OpenSpec.ofChange Rows.fnExactKnowsWhichSpec) :=
  OpenClaim.holds_of_wide 5 Try.f5 rfl rfl rfl rfl rfl rfl rfl ⟨rfl, rfl, rfl, rfl, rfl⟩ rfl rfl rfl rfl rfl (by kernel_rfl) Try.func5 (by kernel_rfl)
    (of_decide_eq_true (by kernel_rfl)) (by unfold Func.isWrapper; first | (rw [if_pos (by decide +kernel)]; kernel_rfl) | (rw [if_neg (by decide +kernel)]; exact ⟨rfl, rfl⟩))
    (fun os started H enc _ => lifted os started H enc)
theorem proved : Rows.FnExactKnowsWhichSaid := over
end Go.Proofs.Ytnebclliacjjkab.fnExactKnowsWhich
namespace Go.Proofs.Ytnebclliacjjkab
/-- The row, under a short name, for the claim. -/
theorem fnExactKnowsWhich_holds : Rows.FnExactKnowsWhichSaid := fnExactKnowsWhich.proved
end Go.Proofs.Ytnebclliacjjkab
