import Derived.Test.YtnebclliacjjkabChecked
import Derived.Test.YtnebclliacjjkabWalk1
/- What the functions that the law reaches compute. -/
set_option linter.unusedVariables false
set_option linter.unusedSimpArgs false
namespace Go.T
open Go Go.E Go.Proofs
set_option maxHeartbeats 8000000 in
theorem s_impl_FormulaOk {l : List Nd} (hl : l.length ≤ 1073741824) : Go.E.Spec Try.prog 40 [eL false 4 cN l] (fun r _ => r = .val (.bool (decide (fOk l)))) := by
  refine spec_of_awp (E := Ev) evOk Try.func40 (c := _) rfl (by decide) (by simp [Try.ntmps40]) ?_
  rw [Try.ntmps40, entry_mk]
  change awp Ev 1 109 _ _ (mkSt [(0, .v (eL false 4 cN l))] [(0, eL false 4 cN l)])
  refine a_seq fun K1 hK1 => ?_
  refine a_region rfl fun K2 hK2 => ?_
  refine x_assign ?_
  refine r_nil hK2 ?_
  refine hK1 _ _ (Ghost.refl _) ?_
  refine a_seq fun K3 hK3 => ?_
  refine a_seq fun K4 hK4 => ?_
  refine a_region rfl fun K5 hK5 => ?_
  refine x_move ?_
  refine x_len ?_
  refine x_call (s_impl_within) ?_ (hl := by first | rfl | (repeat (first | exact lendL_nil | refine lendL_cons (by first | rfl | exact lend_ref rfl (ro_eL (by intro _; first | rfl | exact roL_cL (by intro _; rfl))) | exact lend_refp rfl (ro_eL (by intro _; first | rfl | exact roL_cL (by intro _; rfl))) | exact lend_agg (by repeat (first | exact lendL_nil | refine lendL_cons (by first | rfl | exact lend_ref rfl (ro_eL (by intro _; first | rfl | exact roL_cL (by intro _; rfl))) | exact lend_refp rfl (ro_eL (by intro _; first | rfl | exact roL_cL (by intro _; rfl)))) ?_))) ?_)))
  rintro _ _ rfl
  refine x_un ?_
  refine r_nil hK5 ?_
  refine hK4 _ _ (Ghost.refl _) ?_
  refine a_condS 14 rfl (by first | exact .beq | exact .bne | exact .dec | exact .not .beq | exact .not .bne | exact .not .dec | exact .not .id | exact .id) (fun h6 => ?_) (fun h6 => ?_)
  · skip
    refine a_seq fun K7 hK7 => ?_
    refine a_region rfl fun K8 hK8 => ?_
    refine x_assign ?_
    refine r_nil hK8 ?_
    refine hK7 _ _ (Ghost.refl _) ?_
    refine a_ret ?_
    refine then_ret ?_
    refine leave_val (.inr rfl) rfl rfl rfl (congrArg (fun z => V.val (.bool z)) ?_)
    first
      | (symm; rw [decide_eq_false_iff_not]; intro hh;  have h1 := hh.1; have h2 := hh.2.1; omega)
      | (symm; rw [decide_eq_false_iff_not]; intro hh;  have h3 := hh.2.2.1 i.toNat (by omega); unfold nodeOk at h3; omega)
      | (symm; rw [decide_eq_false_iff_not]; intro hh;  have h3 := hh.2.2.2 i2.toNat (by omega); have h4 := hcl i2.toNat (by omega); exact h (by rw [h4]; exact h3))
      | (symm; rw [decide_eq_false_iff_not]; intro hh;  have h3 := hh.2.2.1 i.toNat (by omega); unfold nodeOk at h3; rcases (show k = 0 ∨ k = 1 by omega) with rfl | rfl <;> omega)
      | (have hn' : ∀ j : Nat, j < l.length → nodeOk j l[j]! := fun j hj => hn j (by omega)
         have hz := fOk_last hn' (by omega)
         have hz2 := hcl ((l.length : Int) - 1).toNat (by omega)
         rw [show ((((l.length : Int) - 1).toNat : Nat) : Int) = (l.length : Int) - 1 by omega, hz] at hz2
         rw [hz2]; symm; rw [show ((0 : Int) == 0) = true from rfl, decide_eq_true_iff]; exact ⟨by omega, by omega, hn', fun j hj => hk j (by omega) hj⟩)
      | (symm; rw [decide_eq_true_iff]; exact ⟨by omega, by omega, fun j hj => hn j (by omega), fun j hj => hk j (by omega) hj⟩)
  · skip
    refine a_skip ?_
    refine hK3 _ _ (Ghost.refl _) ?_
    refine a_seq fun K9 hK9 => ?_
    refine a_region rfl fun K10 hK10 => ?_
    refine x_move ?_
    refine x_len ?_
    refine x_mk (c := cI) (z := 0) (sz := 1) ?_ ?_ rfl
    ·
      omega
    refine x_assign ?_
    refine r_nil hK10 ?_
    refine hK9 _ _ (ghost_has (ks := [(0, .v _), (3, .ref 17 [])]) (km := [(0, _), (17, _)]) ⟨rfl, rfl, trivial⟩ ⟨rfl, rfl, trivial⟩ rfl) ?_
    refine a_seq fun K11 hK11 => ?_
    refine a_seq fun K12 hK12 => ?_
    refine a_region rfl fun K13 hK13 => ?_
    refine x_move ?_
    refine x_len ?_
    refine x_move ?_
    refine r_nil hK13 ?_
    refine hK12 _ _ (Ghost.refl _) ?_
    refine a_block fun K14 hK14 => ?_
    refine a_loopM (X := Int × (List Int)) (fun (i, o) => ([(20, .v (.val (.int .i64 i)))] : List (Nat × S))) (fun (i, o) => ([(17, eL true 1 cI o)] : List (Nat × V))) (fun (i, o) => (0 ≤ i ∧ i ≤ l.length) ∧ (o.length = l.length) ∧ (∀ j : Nat, j < l.length → o[j]! = usedBy (takeI l i) j) ∧ (∀ j : Nat, j < i.toNat → nodeOk j l[j]!)) (fun (i, o) => (l.length - i).toNat) [(0, .v _), (3, .ref 17 []), (18, .v _), (19, .v _)] [(0, _)] (_, _) (Ghost.refl _) ⟨rfl, rfl, rfl, rfl, rfl, trivial⟩ ⟨rfl, rfl, trivial⟩ (fun ⟨_, _⟩ => rfl) ?_ ?_
    ·
      try dsimp only
      refine ⟨?_, ?_, ?_, ?_⟩
      ·
        first | omega | rfl | assumption | (simp; done) | (simp_all; done)
      ·
        simp
      ·
        intro j _; rw [rep_get, takeI_zero]; rfl
      ·
        intro j hj; simp at hj
    ·
      rintro ⟨i, o⟩ hI15 K15 hK15
      dsimp only [List.cons_append, List.nil_append] at hI15 ⊢
      obtain ⟨hi, ho, hc, hn⟩ := hI15
      refine a_seq fun K16 hK16 => ?_
      refine a_region rfl fun K17 hK17 => ?_
      refine x_bin ?_
      refine r_nil hK17 ?_
      refine hK16 _ _ (Ghost.refl _) ?_
      refine a_seq fun K18 hK18 => ?_
      refine a_condS 21 rfl (by first | exact .beq | exact .bne | exact .dec | exact .not .beq | exact .not .bne | exact .not .dec | exact .not .id | exact .id) (fun h19 => ?_) (fun h19 => ?_)
      · skip
        refine a_skip ?_
        refine hK18 _ _ (Ghost.refl _) ?_
        refine a_seq fun K20 hK20 => ?_
        refine a_block fun K21 hK21 => ?_
        refine a_seq fun K22 hK22 => ?_
        refine a_region rfl fun K23 hK23 => ?_
        refine x_move ?_
        refine x_indexAddr ?_ ?_
        ·
          exact ⟨by omega, by omega⟩
        first | refine x_ldE ?_ ?_ | refine x_ldN ?_ ?_ | refine x_ldO ?_ ?_ | refine x_ldON ?_ ?_ (hf := fun x => (rfl : cN x = List.map V.val [_, _, _, _]))
        ·
          omega
        refine x_alloc ?_
        refine x_assign ?_
        first | refine x_put0 ?_ | refine x_put1 ?_ | refine x_put2 ?_ | refine x_put3 ?_ | refine x_putAll ?_ | refine x_put0R ?_ | refine x_put1R ?_ | refine x_put2R ?_ | refine x_put3R ?_ | refine x_putM ?_ | refine x_put0T ?_ | refine x_put1T ?_ | refine x_putAllT ?_
        refine r_nil hK23 ?_
        refine hK22 _ _ (Ghost.refl _) ?_
        refine a_seq fun K24 hK24 => ?_
        refine a_region rfl fun K25 hK25 => ?_
        refine x_fieldAddr ?_
        refine x_load ?_
        refine x_call (s_impl_uses) ?_ (hl := by first | rfl | (repeat (first | exact lendL_nil | refine lendL_cons (by first | rfl | exact lend_ref rfl (ro_eL (by intro _; first | rfl | exact roL_cL (by intro _; rfl))) | exact lend_refp rfl (ro_eL (by intro _; first | rfl | exact roL_cL (by intro _; rfl))) | exact lend_agg (by repeat (first | exact lendL_nil | refine lendL_cons (by first | rfl | exact lend_ref rfl (ro_eL (by intro _; first | rfl | exact roL_cL (by intro _; rfl))) | exact lend_refp rfl (ro_eL (by intro _; first | rfl | exact roL_cL (by intro _; rfl)))) ?_))) ?_)))
        rintro _ _ rfl
        refine x_assign ?_
        refine r_nil hK25 ?_
        refine hK24 _ _ (ghost_has (ks := [(0, .v _), (3, .ref 17 []), (4, .v _), (5, .ref 5 []), (6, .v _), (18, .v _), (19, .v _), (20, .v _)]) (km := [(0, _), (5, _), (17, _), (27, _)]) ⟨rfl, rfl, rfl, rfl, rfl, rfl, rfl, rfl, trivial⟩ ⟨rfl, rfl, rfl, rfl, trivial⟩ rfl) ?_
        refine a_joinK (X := Unit) (fun _u => ([] : List (Nat × S))) (fun _u => ([] : List (Nat × V))) (fun _u => (0 ≤ usesOf (l[i.toNat]!).op ∧ (0 ≤ (l[i.toNat]!).n ∧ (l[i.toNat]!).n ≤ mostOf (l[i.toNat]!).op) ∧ (usesOf (l[i.toNat]!).op < 1 → (l[i.toNat]!).a = 0) ∧ (usesOf (l[i.toNat]!).op < 2 → (l[i.toNat]!).b = 0))) [(0, .v _), (3, .ref 17 []), (4, .v _), (5, .ref 5 []), (6, .v _), (18, .v _), (19, .v _), (20, .v _)] [(0, _), (5, _), (17, _), (27, _)] ⟨rfl, rfl, rfl, rfl, rfl, rfl, rfl, rfl, trivial⟩ ⟨rfl, rfl, rfl, rfl, trivial⟩ (fun _u => rfl) ?_ ?_
        · intro K26 hK26
          refine a_seq fun K27 hK27 => ?_
          refine a_drawAllG (n := 30) (ms := [536870911, 268435455, 134217727, 67108863, 33554431, 16777215, 8388607, 4194303, 2097151, 1048575, 524287, 262143, 131071, 65535, 32767, 16383, 8191, 4095, 2047, 1023, 511, 231, 103, 39, 7, 15, 7, 3, 1, 0]) rfl (by decide +kernel) (by decide +kernel) (by decide +kernel) fun K28 hK28 => ?_
          refine w_allG (l := [0]) (by decide +kernel) ⟨?_, trivial⟩
          refine x_move ?_
          refine w_end ?_
          refine w_allG (l := [1]) (by decide +kernel) ⟨?_, trivial⟩
          refine x_bin ?_
          refine w_end ?_
          refine w_allG (l := [2]) (by decide +kernel) ⟨?_, trivial⟩
          refine x_move ?_
          refine w_end ?_
          refine w_allG (l := [3, 5]) (by decide +kernel) ⟨?_, ?_, trivial⟩
          · skip
            refine x_split 30 rfl (by first | exact .beq | exact .bne | exact .dec | exact .not .beq | exact .not .bne | exact .not .dec | exact .not .id | exact .id) (fun h29 => ?_) (fun h29 => ?_)
            · skip
              refine x_shut ?_
              refine w_end ?_
              refine w_allG (l := [4, 5]) (by decide +kernel) ⟨?_, ?_, trivial⟩
              · skip
                refine x_shut ?_
                refine w_end ?_
                refine w_allG (l := [5]) (by decide +kernel) ⟨?_, trivial⟩
                refine x_shut ?_
                refine w_end ?_
                refine w_allG (l := [6]) (by decide +kernel) ⟨?_, trivial⟩
                refine x_shut ?_
                refine w_end ?_
                refine w_allG (l := [7]) (by decide +kernel) ⟨?_, trivial⟩
                refine x_shut ?_
                refine w_end ?_
                refine w_allG (l := [8]) (by decide +kernel) ⟨?_, trivial⟩
                refine x_shut ?_
                refine w_end ?_
                refine w_allG (l := [9]) (by decide +kernel) ⟨?_, trivial⟩
                refine x_shut ?_
                refine w_end ?_
                refine w_allG (l := [10]) (by decide +kernel) ⟨?_, trivial⟩
                refine x_shut ?_
                refine w_end ?_
                refine w_allG (l := [11]) (by decide +kernel) ⟨?_, trivial⟩
                refine x_pickT ?_
                refine w_end ?_
                refine w_allG (l := [12]) (by decide +kernel) ⟨?_, trivial⟩
                refine x_move ?_
                refine w_end ?_
                refine w_allG (l := [13]) (by decide +kernel) ⟨?_, trivial⟩
                refine x_shut ?_
                refine w_end ?_
                refine w_allG (l := [14]) (by decide +kernel) ⟨?_, trivial⟩
                refine x_shut ?_
                refine w_end ?_
                refine w_allG (l := [15]) (by decide +kernel) ⟨?_, trivial⟩
                refine x_shut ?_
                refine w_end ?_
                refine w_allG (l := [16]) (by decide +kernel) ⟨?_, trivial⟩
                refine x_shut' ?_
                refine w_end ?_
                refine w_allG (l := [17]) (by decide +kernel) ⟨?_, trivial⟩
                refine x_shut' ?_
                refine w_end ?_
                refine w_allG (l := [18]) (by decide +kernel) ⟨?_, trivial⟩
                refine x_shut' ?_
                refine w_end ?_
                refine w_allG (l := [19]) (by decide +kernel) ⟨?_, trivial⟩
                refine x_shut ?_
                refine w_end ?_
                refine w_allG (l := [20]) (by decide +kernel) ⟨?_, trivial⟩
                refine x_pickT ?_
                refine w_end ?_
                refine w_allG (l := [21]) (by decide +kernel) ⟨?_, trivial⟩
                refine x_move ?_
                refine w_end ?_
                refine w_allG (l := [22]) (by decide +kernel) ⟨?_, trivial⟩
                refine x_shut ?_
                refine w_end ?_
                refine w_allG (l := [23]) (by decide +kernel) ⟨?_, trivial⟩
                refine x_shut ?_
                refine w_end ?_
                refine w_allG (l := [24]) (by decide +kernel) ⟨?_, trivial⟩
                refine x_shut ?_
                refine w_end ?_
                refine w_allG (l := [25]) (by decide +kernel) ⟨?_, trivial⟩
                refine x_shut' ?_
                refine w_end ?_
                refine w_allG (l := [26]) (by decide +kernel) ⟨?_, trivial⟩
                refine x_shut' ?_
                refine w_end ?_
                refine w_allG (l := [27]) (by decide +kernel) ⟨?_, trivial⟩
                refine x_shut' ?_
                refine w_end ?_
                refine w_allG (l := [28]) (by decide +kernel) ⟨?_, trivial⟩
                refine x_shut ?_
                refine w_end ?_
                refine w_allG (l := [29]) (by decide +kernel) ⟨?_, trivial⟩
                refine x_pickT ?_
                refine w_end ?_
                refine w_doneG hK28 ?_
                refine hK27 _ _ (Ghost.refl _) ?_
                refine a_condT rfl ?_
                refine a_seq fun K30 hK30 => ?_
                refine a_region rfl fun K31 hK31 => ?_
                refine x_assign ?_
                refine r_nil hK31 ?_
                refine hK30 _ _ (Ghost.refl _) ?_
                refine a_ret ?_
                refine then_ret ?_
                refine hK21 .ret _ (in_ret ?_)
                refine then_ret ?_
                refine then_ret ?_
                refine hK14 .ret _ (in_ret ?_)
                refine then_ret ?_
                refine leave_val (.inr rfl) rfl rfl rfl (congrArg (fun z => V.val (.bool z)) ?_)
                first
                  | (symm; rw [decide_eq_false_iff_not]; intro hh;  have h1 := hh.1; have h2 := hh.2.1; omega)
                  | (symm; rw [decide_eq_false_iff_not]; intro hh;  have h3 := hh.2.2.1 i.toNat (by omega); unfold nodeOk at h3; omega)
                  | (symm; rw [decide_eq_false_iff_not]; intro hh;  have h3 := hh.2.2.2 i2.toNat (by omega); have h4 := hcl i2.toNat (by omega); exact h19 (by rw [h4]; exact h3))
                  | (symm; rw [decide_eq_false_iff_not]; intro hh;  have h3 := hh.2.2.1 i.toNat (by omega); unfold nodeOk at h3; rcases (show k = 0 ∨ k = 1 by omega) with rfl | rfl <;> omega)
                  | (have hn' : ∀ j : Nat, j < l.length → nodeOk j l[j]! := fun j hj => hn j (by omega)
                     have hz := fOk_last hn' (by omega)
                     have hz2 := hcl ((l.length : Int) - 1).toNat (by omega)
                     rw [show ((((l.length : Int) - 1).toNat : Nat) : Int) = (l.length : Int) - 1 by omega, hz] at hz2
                     rw [hz2]; symm; rw [show ((0 : Int) == 0) = true from rfl, decide_eq_true_iff]; exact ⟨by omega, by omega, hn', fun j hj => hk j (by omega) hj⟩)
                  | (symm; rw [decide_eq_true_iff]; exact ⟨by omega, by omega, fun j hj => hn j (by omega), fun j hj => hk j (by omega) hj⟩)
              · skip
                refine x_shut ?_
                refine w_end ?_
                refine w_allG (l := [6]) (by decide +kernel) ⟨?_, trivial⟩
                refine x_shut ?_
                refine w_end ?_
                refine w_allG (l := [7]) (by decide +kernel) ⟨?_, trivial⟩
                refine x_shut ?_
                refine w_end ?_
                refine w_allG (l := [4, 8]) (by decide +kernel) ⟨?_, ?_, trivial⟩
                · skip
                  refine x_shut ?_
                  refine w_end ?_
                  refine w_allG (l := [8]) (by decide +kernel) ⟨?_, trivial⟩
                  refine x_shut ?_
                  refine w_end ?_
                  refine w_allG (l := [9]) (by decide +kernel) ⟨?_, trivial⟩
                  refine x_shut ?_
                  refine w_end ?_
                  refine w_allG (l := [10]) (by decide +kernel) ⟨?_, trivial⟩
                  refine x_shut ?_
                  refine w_end ?_
                  refine w_allG (l := [11]) (by decide +kernel) ⟨?_, trivial⟩
                  refine x_pickT ?_
                  refine w_end ?_
                  refine w_allG (l := [12]) (by decide +kernel) ⟨?_, trivial⟩
                  refine x_move ?_
                  refine w_end ?_
                  refine w_allG (l := [13]) (by decide +kernel) ⟨?_, trivial⟩
                  refine x_shut ?_
                  refine w_end ?_
                  refine w_allG (l := [14]) (by decide +kernel) ⟨?_, trivial⟩
                  refine x_shut ?_
                  refine w_end ?_
                  refine w_allG (l := [15]) (by decide +kernel) ⟨?_, trivial⟩
                  refine x_shut ?_
                  refine w_end ?_
                  refine w_allG (l := [16]) (by decide +kernel) ⟨?_, trivial⟩
                  refine x_shut' ?_
                  refine w_end ?_
                  refine w_allG (l := [17]) (by decide +kernel) ⟨?_, trivial⟩
                  refine x_shut' ?_
                  refine w_end ?_
                  refine w_allG (l := [18]) (by decide +kernel) ⟨?_, trivial⟩
                  refine x_shut' ?_
                  refine w_end ?_
                  refine w_allG (l := [19]) (by decide +kernel) ⟨?_, trivial⟩
                  refine x_shut ?_
                  refine w_end ?_
                  refine w_allG (l := [20]) (by decide +kernel) ⟨?_, trivial⟩
                  refine x_pickT ?_
                  refine w_end ?_
                  refine w_allG (l := [21]) (by decide +kernel) ⟨?_, trivial⟩
                  refine x_move ?_
                  refine w_end ?_
                  refine w_allG (l := [22]) (by decide +kernel) ⟨?_, trivial⟩
                  refine x_shut ?_
                  refine w_end ?_
                  refine w_allG (l := [23]) (by decide +kernel) ⟨?_, trivial⟩
                  refine x_shut ?_
                  refine w_end ?_
                  refine w_allG (l := [24]) (by decide +kernel) ⟨?_, trivial⟩
                  refine x_shut ?_
                  refine w_end ?_
                  refine w_allG (l := [25]) (by decide +kernel) ⟨?_, trivial⟩
                  refine x_shut' ?_
                  refine w_end ?_
                  refine w_allG (l := [26]) (by decide +kernel) ⟨?_, trivial⟩
                  refine x_shut' ?_
                  refine w_end ?_
                  refine w_allG (l := [27]) (by decide +kernel) ⟨?_, trivial⟩
                  refine x_shut' ?_
                  refine w_end ?_
                  refine w_allG (l := [28]) (by decide +kernel) ⟨?_, trivial⟩
                  refine x_shut ?_
                  refine w_end ?_
                  refine w_allG (l := [29]) (by decide +kernel) ⟨?_, trivial⟩
                  refine x_pickT ?_
                  refine w_end ?_
                  refine w_doneG hK28 ?_
                  refine hK27 _ _ (Ghost.refl _) ?_
                  refine a_condT rfl ?_
                  refine a_seq fun K32 hK32 => ?_
                  refine a_region rfl fun K33 hK33 => ?_
                  refine x_assign ?_
                  refine r_nil hK33 ?_
                  refine hK32 _ _ (Ghost.refl _) ?_
                  refine a_ret ?_
                  refine then_ret ?_
                  refine hK21 .ret _ (in_ret ?_)
                  refine then_ret ?_
                  refine then_ret ?_
                  refine hK14 .ret _ (in_ret ?_)
                  refine then_ret ?_
                  refine leave_val (.inr rfl) rfl rfl rfl (congrArg (fun z => V.val (.bool z)) ?_)
                  first
                    | (symm; rw [decide_eq_false_iff_not]; intro hh;  have h1 := hh.1; have h2 := hh.2.1; omega)
                    | (symm; rw [decide_eq_false_iff_not]; intro hh;  have h3 := hh.2.2.1 i.toNat (by omega); unfold nodeOk at h3; omega)
                    | (symm; rw [decide_eq_false_iff_not]; intro hh;  have h3 := hh.2.2.2 i2.toNat (by omega); have h4 := hcl i2.toNat (by omega); exact h19 (by rw [h4]; exact h3))
                    | (symm; rw [decide_eq_false_iff_not]; intro hh;  have h3 := hh.2.2.1 i.toNat (by omega); unfold nodeOk at h3; rcases (show k = 0 ∨ k = 1 by omega) with rfl | rfl <;> omega)
                    | (have hn' : ∀ j : Nat, j < l.length → nodeOk j l[j]! := fun j hj => hn j (by omega)
                       have hz := fOk_last hn' (by omega)
                       have hz2 := hcl ((l.length : Int) - 1).toNat (by omega)
                       rw [show ((((l.length : Int) - 1).toNat : Nat) : Int) = (l.length : Int) - 1 by omega, hz] at hz2
                       rw [hz2]; symm; rw [show ((0 : Int) == 0) = true from rfl, decide_eq_true_iff]; exact ⟨by omega, by omega, hn', fun j hj => hk j (by omega) hj⟩)
                    | (symm; rw [decide_eq_true_iff]; exact ⟨by omega, by omega, fun j hj => hn j (by omega), fun j hj => hk j (by omega) hj⟩)
                · skip
                  refine x_shut ?_
                  refine w_end ?_
                  exact w_allG (l := []) (by decide +kernel) trivial
            · skip
              refine x_fieldAddr ?_
              refine w_end ?_
              refine w_allG (l := [4, 5]) (by decide +kernel) ⟨?_, ?_, trivial⟩
              · skip
                refine x_load ?_
                refine w_end ?_
                refine w_allG (l := [5]) (by decide +kernel) ⟨?_, trivial⟩
                refine x_fieldAddr ?_
                refine w_end ?_
                refine w_allG (l := [6]) (by decide +kernel) ⟨?_, trivial⟩
                refine x_load ?_
                refine w_end ?_
                refine w_allG (l := [7]) (by decide +kernel) ⟨?_, trivial⟩
                refine x_call (s_impl_numbers) ?_ (hl := by first | rfl | (repeat (first | exact lendL_nil | refine lendL_cons (by first | rfl | exact lend_ref rfl (ro_eL (by intro _; first | rfl | exact roL_cL (by intro _; rfl))) | exact lend_refp rfl (ro_eL (by intro _; first | rfl | exact roL_cL (by intro _; rfl))) | exact lend_agg (by repeat (first | exact lendL_nil | refine lendL_cons (by first | rfl | exact lend_ref rfl (ro_eL (by intro _; first | rfl | exact roL_cL (by intro _; rfl))) | exact lend_refp rfl (ro_eL (by intro _; first | rfl | exact roL_cL (by intro _; rfl)))) ?_))) ?_)))
                rintro _ _ rfl
                refine w_end ?_
                refine w_allG (l := [8]) (by decide +kernel) ⟨?_, trivial⟩
                refine x_sub ?_ ?_
                ·
                  first
                    | exact ⟨by omega, by omega⟩
                    | (have q1 := hbd (([(l[i.toNat]!).a, (l[i.toNat]!).b] : List Int)[k.toNat]!).toNat (by omega); exact ⟨by omega, by omega⟩)
                    | (unfold mostOf; (repeat split) <;> exact ⟨by omega, by omega⟩)
                refine w_end ?_
                refine w_allG (l := [9]) (by decide +kernel) ⟨?_, trivial⟩
                refine x_call (s_impl_within) ?_ (hl := by first | rfl | (repeat (first | exact lendL_nil | refine lendL_cons (by first | rfl | exact lend_ref rfl (ro_eL (by intro _; first | rfl | exact roL_cL (by intro _; rfl))) | exact lend_refp rfl (ro_eL (by intro _; first | rfl | exact roL_cL (by intro _; rfl))) | exact lend_agg (by repeat (first | exact lendL_nil | refine lendL_cons (by first | rfl | exact lend_ref rfl (ro_eL (by intro _; first | rfl | exact roL_cL (by intro _; rfl))) | exact lend_refp rfl (ro_eL (by intro _; first | rfl | exact roL_cL (by intro _; rfl)))) ?_))) ?_)))
                rintro _ _ rfl
                refine w_end ?_
                refine w_allG (l := [10]) (by decide +kernel) ⟨?_, trivial⟩
                refine x_un ?_
                refine w_end ?_
                refine w_allG (l := [11]) (by decide +kernel) ⟨?_, trivial⟩
                refine x_pickF ?_
                refine w_end ?_
                refine w_allG (l := [12]) (by decide +kernel) ⟨?_, trivial⟩
                refine x_move ?_
                refine w_end ?_
                refine w_allG (l := [13]) (by decide +kernel) ⟨?_, trivial⟩
                refine x_split 40 rfl (by first | exact .beq | exact .bne | exact .dec | exact .not .beq | exact .not .bne | exact .not .dec | exact .not .id | exact .id) (fun h34 => ?_) (fun h34 => ?_)
                · skip
                  refine x_shut ?_
                  refine w_end ?_
                  refine w_allG (l := [14]) (by decide +kernel) ⟨?_, trivial⟩
                  refine x_shut ?_
                  refine w_end ?_
                  refine w_allG (l := [15]) (by decide +kernel) ⟨?_, trivial⟩
                  refine x_shut ?_
                  refine w_end ?_
                  refine w_allG (l := [16]) (by decide +kernel) ⟨?_, trivial⟩
                  refine x_shut' ?_
                  refine w_end ?_
                  refine w_allG (l := [17]) (by decide +kernel) ⟨?_, trivial⟩
                  refine x_shut' ?_
                  refine w_end ?_
                  refine w_allG (l := [18]) (by decide +kernel) ⟨?_, trivial⟩
                  refine x_shut' ?_
                  refine w_end ?_
                  refine w_allG (l := [19]) (by decide +kernel) ⟨?_, trivial⟩
                  refine x_shut ?_
                  refine w_end ?_
                  refine w_allG (l := [20]) (by decide +kernel) ⟨?_, trivial⟩
                  refine x_pickT ?_
                  refine w_end ?_
                  refine w_allG (l := [21]) (by decide +kernel) ⟨?_, trivial⟩
                  refine x_move ?_
                  refine w_end ?_
                  refine w_allG (l := [22]) (by decide +kernel) ⟨?_, trivial⟩
                  refine x_shut ?_
                  refine w_end ?_
                  refine w_allG (l := [23]) (by decide +kernel) ⟨?_, trivial⟩
                  refine x_shut ?_
                  refine w_end ?_
                  refine w_allG (l := [24]) (by decide +kernel) ⟨?_, trivial⟩
                  refine x_shut ?_
                  refine w_end ?_
                  refine w_allG (l := [25]) (by decide +kernel) ⟨?_, trivial⟩
                  refine x_shut' ?_
                  refine w_end ?_
                  refine w_allG (l := [26]) (by decide +kernel) ⟨?_, trivial⟩
                  refine x_shut' ?_
                  refine w_end ?_
                  refine w_allG (l := [27]) (by decide +kernel) ⟨?_, trivial⟩
                  refine x_shut' ?_
                  refine w_end ?_
                  refine w_allG (l := [28]) (by decide +kernel) ⟨?_, trivial⟩
                  refine x_shut ?_
                  refine w_end ?_
                  refine w_allG (l := [29]) (by decide +kernel) ⟨?_, trivial⟩
                  refine x_pickT ?_
                  refine w_end ?_
                  refine w_doneG hK28 ?_
                  refine hK27 _ _ (ghost_has (ks := [(0, .v _), (3, .ref 17 []), (4, .v _), (5, .ref 5 []), (6, .v _), (18, .v _), (19, .v _), (20, .v _), (57, .v _)]) (km := [(0, _), (5, _), (17, _), (27, _)]) ⟨rfl, rfl, rfl, rfl, rfl, rfl, rfl, rfl, rfl, trivial⟩ ⟨rfl, rfl, rfl, rfl, trivial⟩ rfl) ?_
                  refine a_condT rfl ?_
                  refine a_seq fun K35 hK35 => ?_
                  refine a_region rfl fun K36 hK36 => ?_
                  refine x_assign ?_
                  refine r_nil hK36 ?_
                  refine hK35 _ _ (Ghost.refl _) ?_
                  refine a_ret ?_
                  refine then_ret ?_
                  refine hK21 .ret _ (in_ret ?_)
                  refine then_ret ?_
                  refine then_ret ?_
                  refine hK14 .ret _ (in_ret ?_)
                  refine then_ret ?_
                  refine leave_val (.inr rfl) rfl rfl rfl (congrArg (fun z => V.val (.bool z)) ?_)
                  first
                    | (symm; rw [decide_eq_false_iff_not]; intro hh;  have h1 := hh.1; have h2 := hh.2.1; omega)
                    | (symm; rw [decide_eq_false_iff_not]; intro hh;  have h3 := hh.2.2.1 i.toNat (by omega); unfold nodeOk at h3; omega)
                    | (symm; rw [decide_eq_false_iff_not]; intro hh;  have h3 := hh.2.2.2 i2.toNat (by omega); have h4 := hcl i2.toNat (by omega); exact h29 (by rw [h4]; exact h3))
                    | (symm; rw [decide_eq_false_iff_not]; intro hh;  have h3 := hh.2.2.1 i.toNat (by omega); unfold nodeOk at h3; rcases (show k = 0 ∨ k = 1 by omega) with rfl | rfl <;> omega)
                    | (have hn' : ∀ j : Nat, j < l.length → nodeOk j l[j]! := fun j hj => hn j (by omega)
                       have hz := fOk_last hn' (by omega)
                       have hz2 := hcl ((l.length : Int) - 1).toNat (by omega)
                       rw [show ((((l.length : Int) - 1).toNat : Nat) : Int) = (l.length : Int) - 1 by omega, hz] at hz2
                       rw [hz2]; symm; rw [show ((0 : Int) == 0) = true from rfl, decide_eq_true_iff]; exact ⟨by omega, by omega, hn', fun j hj => hk j (by omega) hj⟩)
                    | (symm; rw [decide_eq_true_iff]; exact ⟨by omega, by omega, fun j hj => hn j (by omega), fun j hj => hk j (by omega) hj⟩)
                · skip
                  refine x_move ?_
                  refine w_end ?_
                  refine w_allG (l := [14]) (by decide +kernel) ⟨?_, trivial⟩
                  refine x_bin ?_
                  refine w_end ?_
                  refine w_allG (l := [15]) (by decide +kernel) ⟨?_, trivial⟩
                  refine x_move ?_
                  refine w_end ?_
                  refine w_allG (l := [16]) (by decide +kernel) ⟨?_, trivial⟩
                  refine x_split 43 rfl (by first | exact .beq | exact .bne | exact .dec | exact .not .beq | exact .not .bne | exact .not .dec | exact .not .id | exact .id) (fun h37 => ?_) (fun h37 => ?_)
                  · skip
                    refine x_fieldAddr ?_
                    refine w_end ?_
                    refine w_allG (l := [17]) (by decide +kernel) ⟨?_, trivial⟩
                    refine x_load ?_
                    refine w_end ?_
                    refine w_allG (l := [18]) (by decide +kernel) ⟨?_, trivial⟩
                    refine x_bin ?_
                    refine w_end ?_
                    refine w_allG (l := [19]) (by decide +kernel) ⟨?_, trivial⟩
                    refine x_pickT ?_
                    refine w_end ?_
                    refine w_allG (l := [20]) (by decide +kernel) ⟨?_, trivial⟩
                    refine x_pickF ?_
                    refine w_end ?_
                    refine w_allG (l := [21]) (by decide +kernel) ⟨?_, trivial⟩
                    refine x_move ?_
                    refine w_end ?_
                    refine w_allG (l := [22]) (by decide +kernel) ⟨?_, trivial⟩
                    refine x_split 49 rfl (by first | exact .beq | exact .bne | exact .dec | exact .not .beq | exact .not .bne | exact .not .dec | exact .not .id | exact .id) (fun h38 => ?_) (fun h38 => ?_)
                    · skip
                      refine x_shut ?_
                      refine w_end ?_
                      refine w_allG (l := [23]) (by decide +kernel) ⟨?_, trivial⟩
                      refine x_shut ?_
                      refine w_end ?_
                      refine w_allG (l := [24]) (by decide +kernel) ⟨?_, trivial⟩
                      refine x_shut ?_
                      refine w_end ?_
                      refine w_allG (l := [25]) (by decide +kernel) ⟨?_, trivial⟩
                      refine x_shut' ?_
                      refine w_end ?_
                      refine w_allG (l := [26]) (by decide +kernel) ⟨?_, trivial⟩
                      refine x_shut' ?_
                      refine w_end ?_
                      refine w_allG (l := [27]) (by decide +kernel) ⟨?_, trivial⟩
                      refine x_shut' ?_
                      refine w_end ?_
                      refine w_allG (l := [28]) (by decide +kernel) ⟨?_, trivial⟩
                      refine x_shut ?_
                      refine w_end ?_
                      refine w_allG (l := [29]) (by decide +kernel) ⟨?_, trivial⟩
                      refine x_pickT ?_
                      refine w_end ?_
                      refine w_doneG hK28 ?_
                      refine hK27 _ _ (ghost_has (ks := [(0, .v _), (3, .ref 17 []), (4, .v _), (5, .ref 5 []), (6, .v _), (18, .v _), (19, .v _), (20, .v _), (57, .v _)]) (km := [(0, _), (5, _), (17, _), (27, _)]) ⟨rfl, rfl, rfl, rfl, rfl, rfl, rfl, rfl, rfl, trivial⟩ ⟨rfl, rfl, rfl, rfl, trivial⟩ rfl) ?_
                      refine a_condT rfl ?_
                      refine a_seq fun K39 hK39 => ?_
                      refine a_region rfl fun K40 hK40 => ?_
                      refine x_assign ?_
                      refine r_nil hK40 ?_
                      refine hK39 _ _ (Ghost.refl _) ?_
                      refine a_ret ?_
                      refine then_ret ?_
                      refine hK21 .ret _ (in_ret ?_)
                      refine then_ret ?_
                      refine then_ret ?_
                      refine hK14 .ret _ (in_ret ?_)
                      refine then_ret ?_
                      refine leave_val (.inr rfl) rfl rfl rfl (congrArg (fun z => V.val (.bool z)) ?_)
                      first
                        | (symm; rw [decide_eq_false_iff_not]; intro hh;  have h1 := hh.1; have h2 := hh.2.1; omega)
                        | (symm; rw [decide_eq_false_iff_not]; intro hh;  have h3 := hh.2.2.1 i.toNat (by omega); unfold nodeOk at h3; omega)
                        | (symm; rw [decide_eq_false_iff_not]; intro hh;  have h3 := hh.2.2.2 i2.toNat (by omega); have h4 := hcl i2.toNat (by omega); exact h37 (by rw [h4]; exact h3))
                        | (symm; rw [decide_eq_false_iff_not]; intro hh;  have h3 := hh.2.2.1 i.toNat (by omega); unfold nodeOk at h3; rcases (show k = 0 ∨ k = 1 by omega) with rfl | rfl <;> omega)
                        | (have hn' : ∀ j : Nat, j < l.length → nodeOk j l[j]! := fun j hj => hn j (by omega)
                           have hz := fOk_last hn' (by omega)
                           have hz2 := hcl ((l.length : Int) - 1).toNat (by omega)
                           rw [show ((((l.length : Int) - 1).toNat : Nat) : Int) = (l.length : Int) - 1 by omega, hz] at hz2
                           rw [hz2]; symm; rw [show ((0 : Int) == 0) = true from rfl, decide_eq_true_iff]; exact ⟨by omega, by omega, hn', fun j hj => hk j (by omega) hj⟩)
                        | (symm; rw [decide_eq_true_iff]; exact ⟨by omega, by omega, fun j hj => hn j (by omega), fun j hj => hk j (by omega) hj⟩)
                    · skip
                      refine x_move ?_
                      refine w_end ?_
                      refine w_allG (l := [23]) (by decide +kernel) ⟨?_, trivial⟩
                      refine x_bin ?_
                      refine w_end ?_
                      refine w_allG (l := [24]) (by decide +kernel) ⟨?_, trivial⟩
                      refine x_move ?_
                      refine w_end ?_
                      refine w_allG (l := [25]) (by decide +kernel) ⟨?_, trivial⟩
                      refine x_split 52 rfl (by first | exact .beq | exact .bne | exact .dec | exact .not .beq | exact .not .bne | exact .not .dec | exact .not .id | exact .id) (fun h41 => ?_) (fun h41 => ?_)
                      · skip
                        refine x_fieldAddr ?_
                        refine w_end ?_
                        refine w_allG (l := [26]) (by decide +kernel) ⟨?_, trivial⟩
                        refine x_load ?_
                        refine w_end ?_
                        refine w_allG (l := [27]) (by decide +kernel) ⟨?_, trivial⟩
                        refine x_bin ?_
                        refine w_end ?_
                        refine w_allG (l := [28]) (by decide +kernel) ⟨?_, trivial⟩
                        refine x_pickT ?_
                        refine w_end ?_
                        refine w_allG (l := [29]) (by decide +kernel) ⟨?_, trivial⟩
                        refine x_pickF ?_
                        refine w_end ?_
                        refine w_doneG hK28 ?_
                        refine hK27 _ _ (ghost_has (ks := [(0, .v _), (3, .ref 17 []), (4, .v _), (5, .ref 5 []), (6, .v _), (18, .v _), (19, .v _), (20, .v _), (57, .v _)]) (km := [(0, _), (5, _), (17, _), (27, _)]) ⟨rfl, rfl, rfl, rfl, rfl, rfl, rfl, rfl, rfl, trivial⟩ ⟨rfl, rfl, rfl, rfl, trivial⟩ rfl) ?_
                        refine a_condS 57 rfl (by first | exact .beq | exact .bne | exact .dec | exact .not .beq | exact .not .bne | exact .not .dec | exact .not .id | exact .id) (fun h42 => ?_) (fun h42 => ?_)
                        · skip
                          refine a_seq fun K43 hK43 => ?_
                          refine a_region rfl fun K44 hK44 => ?_
                          refine x_assign ?_
                          refine r_nil hK44 ?_
                          refine hK43 _ _ (Ghost.refl _) ?_
                          refine a_ret ?_
                          refine then_ret ?_
                          refine hK21 .ret _ (in_ret ?_)
                          refine then_ret ?_
                          refine then_ret ?_
                          refine hK14 .ret _ (in_ret ?_)
                          refine then_ret ?_
                          refine leave_val (.inr rfl) rfl rfl rfl (congrArg (fun z => V.val (.bool z)) ?_)
                          first
                            | (symm; rw [decide_eq_false_iff_not]; intro hh;  have h1 := hh.1; have h2 := hh.2.1; omega)
                            | (symm; rw [decide_eq_false_iff_not]; intro hh;  have h3 := hh.2.2.1 i.toNat (by omega); unfold nodeOk at h3; omega)
                            | (symm; rw [decide_eq_false_iff_not]; intro hh;  have h3 := hh.2.2.2 i2.toNat (by omega); have h4 := hcl i2.toNat (by omega); exact h41 (by rw [h4]; exact h3))
                            | (symm; rw [decide_eq_false_iff_not]; intro hh;  have h3 := hh.2.2.1 i.toNat (by omega); unfold nodeOk at h3; rcases (show k = 0 ∨ k = 1 by omega) with rfl | rfl <;> omega)
                            | (have hn' : ∀ j : Nat, j < l.length → nodeOk j l[j]! := fun j hj => hn j (by omega)
                               have hz := fOk_last hn' (by omega)
                               have hz2 := hcl ((l.length : Int) - 1).toNat (by omega)
                               rw [show ((((l.length : Int) - 1).toNat : Nat) : Int) = (l.length : Int) - 1 by omega, hz] at hz2
                               rw [hz2]; symm; rw [show ((0 : Int) == 0) = true from rfl, decide_eq_true_iff]; exact ⟨by omega, by omega, hn', fun j hj => hk j (by omega) hj⟩)
                            | (symm; rw [decide_eq_true_iff]; exact ⟨by omega, by omega, fun j hj => hn j (by omega), fun j hj => hk j (by omega) hj⟩)
                        · skip
                          refine a_skip ?_
                          refine hK26 () _ _ _ (Ghost.refl _) ⟨rfl, rfl, rfl, rfl, rfl, rfl, rfl, rfl, trivial⟩ ⟨rfl, rfl, rfl, rfl, trivial⟩ ?_
                          try dsimp only
                          ·
                            first | omega | rfl | assumption | (simp; done) | (simp_all; done)
                      · skip
                        refine x_shut ?_
                        refine w_end ?_
                        refine w_allG (l := [26]) (by decide +kernel) ⟨?_, trivial⟩
                        refine x_shut ?_
                        refine w_end ?_
                        refine w_allG (l := [27]) (by decide +kernel) ⟨?_, trivial⟩
                        refine x_shut ?_
                        refine w_end ?_
                        refine w_allG (l := [28]) (by decide +kernel) ⟨?_, trivial⟩
                        refine x_pickF ?_
                        refine w_end ?_
                        refine w_allG (l := [29]) (by decide +kernel) ⟨?_, trivial⟩
                        refine x_pickF ?_
                        refine w_end ?_
                        refine w_doneG hK28 ?_
                        refine hK27 _ _ (ghost_has (ks := [(0, .v _), (3, .ref 17 []), (4, .v _), (5, .ref 5 []), (6, .v _), (18, .v _), (19, .v _), (20, .v _), (57, .v _)]) (km := [(0, _), (5, _), (17, _), (27, _)]) ⟨rfl, rfl, rfl, rfl, rfl, rfl, rfl, rfl, rfl, trivial⟩ ⟨rfl, rfl, rfl, rfl, trivial⟩ rfl) ?_
                        refine a_condF rfl ?_
                        refine a_skip ?_
                        refine hK26 () _ _ _ (Ghost.refl _) ⟨rfl, rfl, rfl, rfl, rfl, rfl, rfl, rfl, trivial⟩ ⟨rfl, rfl, rfl, rfl, trivial⟩ ?_
                        try dsimp only
                        ·
                          first | omega | rfl | assumption | (simp; done) | (simp_all; done)
                  · skip
                    refine x_shut ?_
                    refine w_end ?_
                    refine w_allG (l := [17]) (by decide +kernel) ⟨?_, trivial⟩
                    refine x_shut ?_
                    refine w_end ?_
                    refine w_allG (l := [18]) (by decide +kernel) ⟨?_, trivial⟩
                    refine x_shut ?_
                    refine w_end ?_
                    refine w_allG (l := [19]) (by decide +kernel) ⟨?_, trivial⟩
                    refine x_pickF ?_
                    refine w_end ?_
                    refine w_allG (l := [20]) (by decide +kernel) ⟨?_, trivial⟩
                    refine x_pickF ?_
                    refine w_end ?_
                    refine w_allG (l := [21]) (by decide +kernel) ⟨?_, trivial⟩
                    refine x_move ?_
                    refine w_end ?_
                    refine w_allG (l := [22]) (by decide +kernel) ⟨?_, trivial⟩
                    refine x_move ?_
                    refine w_end ?_
                    refine w_allG (l := [23]) (by decide +kernel) ⟨?_, trivial⟩
                    refine x_bin ?_
                    refine w_end ?_
                    refine w_allG (l := [24]) (by decide +kernel) ⟨?_, trivial⟩
                    refine x_move ?_
                    refine w_end ?_
                    refine w_allG (l := [25]) (by decide +kernel) ⟨?_, trivial⟩
                    refine x_split 52 rfl (by first | exact .beq | exact .bne | exact .dec | exact .not .beq | exact .not .bne | exact .not .dec | exact .not .id | exact .id) (fun h45 => ?_) (fun h45 => ?_)
                    · skip
                      refine x_fieldAddr ?_
                      refine w_end ?_
                      refine w_allG (l := [26]) (by decide +kernel) ⟨?_, trivial⟩
                      refine x_load ?_
                      refine w_end ?_
                      refine w_allG (l := [27]) (by decide +kernel) ⟨?_, trivial⟩
                      refine x_bin ?_
                      refine w_end ?_
                      refine w_allG (l := [28]) (by decide +kernel) ⟨?_, trivial⟩
                      refine x_pickT ?_
                      refine w_end ?_
                      refine w_allG (l := [29]) (by decide +kernel) ⟨?_, trivial⟩
                      refine x_pickF ?_
                      refine w_end ?_
                      refine w_doneG hK28 ?_
                      refine hK27 _ _ (ghost_has (ks := [(0, .v _), (3, .ref 17 []), (4, .v _), (5, .ref 5 []), (6, .v _), (18, .v _), (19, .v _), (20, .v _), (57, .v _)]) (km := [(0, _), (5, _), (17, _), (27, _)]) ⟨rfl, rfl, rfl, rfl, rfl, rfl, rfl, rfl, rfl, trivial⟩ ⟨rfl, rfl, rfl, rfl, trivial⟩ rfl) ?_
                      refine a_condS 57 rfl (by first | exact .beq | exact .bne | exact .dec | exact .not .beq | exact .not .bne | exact .not .dec | exact .not .id | exact .id) (fun h46 => ?_) (fun h46 => ?_)
                      · skip
                        refine a_seq fun K47 hK47 => ?_
                        refine a_region rfl fun K48 hK48 => ?_
                        refine x_assign ?_
                        refine r_nil hK48 ?_
                        refine hK47 _ _ (Ghost.refl _) ?_
                        refine a_ret ?_
                        refine then_ret ?_
                        refine hK21 .ret _ (in_ret ?_)
                        refine then_ret ?_
                        refine then_ret ?_
                        refine hK14 .ret _ (in_ret ?_)
                        refine then_ret ?_
                        refine leave_val (.inr rfl) rfl rfl rfl (congrArg (fun z => V.val (.bool z)) ?_)
                        first
                          | (symm; rw [decide_eq_false_iff_not]; intro hh;  have h1 := hh.1; have h2 := hh.2.1; omega)
                          | (symm; rw [decide_eq_false_iff_not]; intro hh;  have h3 := hh.2.2.1 i.toNat (by omega); unfold nodeOk at h3; omega)
                          | (symm; rw [decide_eq_false_iff_not]; intro hh;  have h3 := hh.2.2.2 i2.toNat (by omega); have h4 := hcl i2.toNat (by omega); exact h45 (by rw [h4]; exact h3))
                          | (symm; rw [decide_eq_false_iff_not]; intro hh;  have h3 := hh.2.2.1 i.toNat (by omega); unfold nodeOk at h3; rcases (show k = 0 ∨ k = 1 by omega) with rfl | rfl <;> omega)
                          | (have hn' : ∀ j : Nat, j < l.length → nodeOk j l[j]! := fun j hj => hn j (by omega)
                             have hz := fOk_last hn' (by omega)
                             have hz2 := hcl ((l.length : Int) - 1).toNat (by omega)
                             rw [show ((((l.length : Int) - 1).toNat : Nat) : Int) = (l.length : Int) - 1 by omega, hz] at hz2
                             rw [hz2]; symm; rw [show ((0 : Int) == 0) = true from rfl, decide_eq_true_iff]; exact ⟨by omega, by omega, hn', fun j hj => hk j (by omega) hj⟩)
                          | (symm; rw [decide_eq_true_iff]; exact ⟨by omega, by omega, fun j hj => hn j (by omega), fun j hj => hk j (by omega) hj⟩)
                      · skip
                        refine a_skip ?_
                        refine hK26 () _ _ _ (Ghost.refl _) ⟨rfl, rfl, rfl, rfl, rfl, rfl, rfl, rfl, trivial⟩ ⟨rfl, rfl, rfl, rfl, trivial⟩ ?_
                        try dsimp only
                        ·
                          first | omega | rfl | assumption | (simp; done) | (simp_all; done)
                    · skip
                      refine x_shut ?_
                      refine w_end ?_
                      refine w_allG (l := [26]) (by decide +kernel) ⟨?_, trivial⟩
                      refine x_shut ?_
                      refine w_end ?_
                      refine w_allG (l := [27]) (by decide +kernel) ⟨?_, trivial⟩
                      refine x_shut ?_
                      refine w_end ?_
                      refine w_allG (l := [28]) (by decide +kernel) ⟨?_, trivial⟩
                      refine x_pickF ?_
                      refine w_end ?_
                      refine w_allG (l := [29]) (by decide +kernel) ⟨?_, trivial⟩
                      refine x_pickF ?_
                      refine w_end ?_
                      refine w_doneG hK28 ?_
                      refine hK27 _ _ (ghost_has (ks := [(0, .v _), (3, .ref 17 []), (4, .v _), (5, .ref 5 []), (6, .v _), (18, .v _), (19, .v _), (20, .v _), (57, .v _)]) (km := [(0, _), (5, _), (17, _), (27, _)]) ⟨rfl, rfl, rfl, rfl, rfl, rfl, rfl, rfl, rfl, trivial⟩ ⟨rfl, rfl, rfl, rfl, trivial⟩ rfl) ?_
                      refine a_condF rfl ?_
                      refine a_skip ?_
                      refine hK26 () _ _ _ (Ghost.refl _) ⟨rfl, rfl, rfl, rfl, rfl, rfl, rfl, rfl, trivial⟩ ⟨rfl, rfl, rfl, rfl, trivial⟩ ?_
                      try dsimp only
                      ·
                        first | omega | rfl | assumption | (simp; done) | (simp_all; done)
              · skip
                refine x_fieldAddr ?_
                refine w_end ?_
                refine w_allG (l := [6]) (by decide +kernel) ⟨?_, trivial⟩
                refine x_load ?_
                refine w_end ?_
                refine w_allG (l := [7]) (by decide +kernel) ⟨?_, trivial⟩
                refine x_call (s_impl_numbers) ?_ (hl := by first | rfl | (repeat (first | exact lendL_nil | refine lendL_cons (by first | rfl | exact lend_ref rfl (ro_eL (by intro _; first | rfl | exact roL_cL (by intro _; rfl))) | exact lend_refp rfl (ro_eL (by intro _; first | rfl | exact roL_cL (by intro _; rfl))) | exact lend_agg (by repeat (first | exact lendL_nil | refine lendL_cons (by first | rfl | exact lend_ref rfl (ro_eL (by intro _; first | rfl | exact roL_cL (by intro _; rfl))) | exact lend_refp rfl (ro_eL (by intro _; first | rfl | exact roL_cL (by intro _; rfl)))) ?_))) ?_)))
                rintro _ _ rfl
                refine w_end ?_
                refine w_allG (l := [4, 8]) (by decide +kernel) ⟨?_, ?_, trivial⟩
                · skip
                  refine x_load ?_
                  refine w_end ?_
                  refine w_allG (l := [8]) (by decide +kernel) ⟨?_, trivial⟩
                  refine x_sub ?_ ?_
                  ·
                    first
                      | exact ⟨by omega, by omega⟩
                      | (have q1 := hbd (([(l[i.toNat]!).a, (l[i.toNat]!).b] : List Int)[k.toNat]!).toNat (by omega); exact ⟨by omega, by omega⟩)
                      | (unfold mostOf; (repeat split) <;> exact ⟨by omega, by omega⟩)
                  refine w_end ?_
                  refine w_allG (l := [9]) (by decide +kernel) ⟨?_, trivial⟩
                  refine x_call (s_impl_within) ?_ (hl := by first | rfl | (repeat (first | exact lendL_nil | refine lendL_cons (by first | rfl | exact lend_ref rfl (ro_eL (by intro _; first | rfl | exact roL_cL (by intro _; rfl))) | exact lend_refp rfl (ro_eL (by intro _; first | rfl | exact roL_cL (by intro _; rfl))) | exact lend_agg (by repeat (first | exact lendL_nil | refine lendL_cons (by first | rfl | exact lend_ref rfl (ro_eL (by intro _; first | rfl | exact roL_cL (by intro _; rfl))) | exact lend_refp rfl (ro_eL (by intro _; first | rfl | exact roL_cL (by intro _; rfl)))) ?_))) ?_)))
                  rintro _ _ rfl
                  refine w_end ?_
                  refine w_allG (l := [10]) (by decide +kernel) ⟨?_, trivial⟩
                  refine x_un ?_
                  refine w_end ?_
                  refine w_allG (l := [11]) (by decide +kernel) ⟨?_, trivial⟩
                  refine x_pickF ?_
                  refine w_end ?_
                  refine w_allG (l := [12]) (by decide +kernel) ⟨?_, trivial⟩
                  refine x_move ?_
                  refine w_end ?_
                  refine w_allG (l := [13]) (by decide +kernel) ⟨?_, trivial⟩
                  refine x_split 40 rfl (by first | exact .beq | exact .bne | exact .dec | exact .not .beq | exact .not .bne | exact .not .dec | exact .not .id | exact .id) (fun h49 => ?_) (fun h49 => ?_)
                  · skip
                    refine x_shut ?_
                    refine w_end ?_
                    refine w_allG (l := [14]) (by decide +kernel) ⟨?_, trivial⟩
                    refine x_shut ?_
                    refine w_end ?_
                    refine w_allG (l := [15]) (by decide +kernel) ⟨?_, trivial⟩
                    refine x_shut ?_
                    refine w_end ?_
                    refine w_allG (l := [16]) (by decide +kernel) ⟨?_, trivial⟩
                    refine x_shut' ?_
                    refine w_end ?_
                    refine w_allG (l := [17]) (by decide +kernel) ⟨?_, trivial⟩
                    refine x_shut' ?_
                    refine w_end ?_
                    refine w_allG (l := [18]) (by decide +kernel) ⟨?_, trivial⟩
                    refine x_shut' ?_
                    refine w_end ?_
                    refine w_allG (l := [19]) (by decide +kernel) ⟨?_, trivial⟩
                    refine x_shut ?_
                    refine w_end ?_
                    refine w_allG (l := [20]) (by decide +kernel) ⟨?_, trivial⟩
                    refine x_pickT ?_
                    refine w_end ?_
                    refine w_allG (l := [21]) (by decide +kernel) ⟨?_, trivial⟩
                    refine x_move ?_
                    refine w_end ?_
                    refine w_allG (l := [22]) (by decide +kernel) ⟨?_, trivial⟩
                    refine x_shut ?_
                    refine w_end ?_
                    refine w_allG (l := [23]) (by decide +kernel) ⟨?_, trivial⟩
                    refine x_shut ?_
                    refine w_end ?_
                    refine w_allG (l := [24]) (by decide +kernel) ⟨?_, trivial⟩
                    refine x_shut ?_
                    refine w_end ?_
                    refine w_allG (l := [25]) (by decide +kernel) ⟨?_, trivial⟩
                    refine x_shut' ?_
                    refine w_end ?_
                    refine w_allG (l := [26]) (by decide +kernel) ⟨?_, trivial⟩
                    refine x_shut' ?_
                    refine w_end ?_
                    refine w_allG (l := [27]) (by decide +kernel) ⟨?_, trivial⟩
                    refine x_shut' ?_
                    refine w_end ?_
                    refine w_allG (l := [28]) (by decide +kernel) ⟨?_, trivial⟩
                    refine x_shut ?_
                    refine w_end ?_
                    refine w_allG (l := [29]) (by decide +kernel) ⟨?_, trivial⟩
                    refine x_pickT ?_
                    refine w_end ?_
                    refine w_doneG hK28 ?_
                    refine hK27 _ _ (ghost_has (ks := [(0, .v _), (3, .ref 17 []), (4, .v _), (5, .ref 5 []), (6, .v _), (18, .v _), (19, .v _), (20, .v _), (57, .v _)]) (km := [(0, _), (5, _), (17, _), (27, _)]) ⟨rfl, rfl, rfl, rfl, rfl, rfl, rfl, rfl, rfl, trivial⟩ ⟨rfl, rfl, rfl, rfl, trivial⟩ rfl) ?_
                    refine a_condT rfl ?_
                    refine a_seq fun K50 hK50 => ?_
                    refine a_region rfl fun K51 hK51 => ?_
                    refine x_assign ?_
                    refine r_nil hK51 ?_
                    refine hK50 _ _ (Ghost.refl _) ?_
                    refine a_ret ?_
                    refine then_ret ?_
                    refine hK21 .ret _ (in_ret ?_)
                    refine then_ret ?_
                    refine then_ret ?_
                    refine hK14 .ret _ (in_ret ?_)
                    refine then_ret ?_
                    refine leave_val (.inr rfl) rfl rfl rfl (congrArg (fun z => V.val (.bool z)) ?_)
                    first
                      | (symm; rw [decide_eq_false_iff_not]; intro hh;  have h1 := hh.1; have h2 := hh.2.1; omega)
                      | (symm; rw [decide_eq_false_iff_not]; intro hh;  have h3 := hh.2.2.1 i.toNat (by omega); unfold nodeOk at h3; omega)
                      | (symm; rw [decide_eq_false_iff_not]; intro hh;  have h3 := hh.2.2.2 i2.toNat (by omega); have h4 := hcl i2.toNat (by omega); exact h45 (by rw [h4]; exact h3))
                      | (symm; rw [decide_eq_false_iff_not]; intro hh;  have h3 := hh.2.2.1 i.toNat (by omega); unfold nodeOk at h3; rcases (show k = 0 ∨ k = 1 by omega) with rfl | rfl <;> omega)
                      | (have hn' : ∀ j : Nat, j < l.length → nodeOk j l[j]! := fun j hj => hn j (by omega)
                         have hz := fOk_last hn' (by omega)
                         have hz2 := hcl ((l.length : Int) - 1).toNat (by omega)
                         rw [show ((((l.length : Int) - 1).toNat : Nat) : Int) = (l.length : Int) - 1 by omega, hz] at hz2
                         rw [hz2]; symm; rw [show ((0 : Int) == 0) = true from rfl, decide_eq_true_iff]; exact ⟨by omega, by omega, hn', fun j hj => hk j (by omega) hj⟩)
                      | (symm; rw [decide_eq_true_iff]; exact ⟨by omega, by omega, fun j hj => hn j (by omega), fun j hj => hk j (by omega) hj⟩)
                  · skip
                    refine x_move ?_
                    refine w_end ?_
                    refine w_allG (l := [14]) (by decide +kernel) ⟨?_, trivial⟩
                    refine x_bin ?_
                    refine w_end ?_
                    refine w_allG (l := [15]) (by decide +kernel) ⟨?_, trivial⟩
                    refine x_move ?_
                    refine w_end ?_
                    refine w_allG (l := [16]) (by decide +kernel) ⟨?_, trivial⟩
                    refine x_split 43 rfl (by first | exact .beq | exact .bne | exact .dec | exact .not .beq | exact .not .bne | exact .not .dec | exact .not .id | exact .id) (fun h52 => ?_) (fun h52 => ?_)
                    · skip
                      refine x_fieldAddr ?_
                      refine w_end ?_
                      refine w_allG (l := [17]) (by decide +kernel) ⟨?_, trivial⟩
                      refine x_load ?_
                      refine w_end ?_
                      refine w_allG (l := [18]) (by decide +kernel) ⟨?_, trivial⟩
                      refine x_bin ?_
                      refine w_end ?_
                      refine w_allG (l := [19]) (by decide +kernel) ⟨?_, trivial⟩
                      refine x_pickT ?_
                      refine w_end ?_
                      refine w_allG (l := [20]) (by decide +kernel) ⟨?_, trivial⟩
                      refine x_pickF ?_
                      refine w_end ?_
                      refine w_allG (l := [21]) (by decide +kernel) ⟨?_, trivial⟩
                      refine x_move ?_
                      refine w_end ?_
                      refine w_allG (l := [22]) (by decide +kernel) ⟨?_, trivial⟩
                      refine x_split 49 rfl (by first | exact .beq | exact .bne | exact .dec | exact .not .beq | exact .not .bne | exact .not .dec | exact .not .id | exact .id) (fun h53 => ?_) (fun h53 => ?_)
                      · skip
                        refine x_shut ?_
                        refine w_end ?_
                        refine w_allG (l := [23]) (by decide +kernel) ⟨?_, trivial⟩
                        refine x_shut ?_
                        refine w_end ?_
                        refine w_allG (l := [24]) (by decide +kernel) ⟨?_, trivial⟩
                        refine x_shut ?_
                        refine w_end ?_
                        refine w_allG (l := [25]) (by decide +kernel) ⟨?_, trivial⟩
                        refine x_shut' ?_
                        refine w_end ?_
                        refine w_allG (l := [26]) (by decide +kernel) ⟨?_, trivial⟩
                        refine x_shut' ?_
                        refine w_end ?_
                        refine w_allG (l := [27]) (by decide +kernel) ⟨?_, trivial⟩
                        refine x_shut' ?_
                        refine w_end ?_
                        refine w_allG (l := [28]) (by decide +kernel) ⟨?_, trivial⟩
                        refine x_shut ?_
                        refine w_end ?_
                        refine w_allG (l := [29]) (by decide +kernel) ⟨?_, trivial⟩
                        refine x_pickT ?_
                        refine w_end ?_
                        refine w_doneG hK28 ?_
                        refine hK27 _ _ (ghost_has (ks := [(0, .v _), (3, .ref 17 []), (4, .v _), (5, .ref 5 []), (6, .v _), (18, .v _), (19, .v _), (20, .v _), (57, .v _)]) (km := [(0, _), (5, _), (17, _), (27, _)]) ⟨rfl, rfl, rfl, rfl, rfl, rfl, rfl, rfl, rfl, trivial⟩ ⟨rfl, rfl, rfl, rfl, trivial⟩ rfl) ?_
                        refine a_condT rfl ?_
                        refine a_seq fun K54 hK54 => ?_
                        refine a_region rfl fun K55 hK55 => ?_
                        refine x_assign ?_
                        refine r_nil hK55 ?_
                        refine hK54 _ _ (Ghost.refl _) ?_
                        refine a_ret ?_
                        refine then_ret ?_
                        refine hK21 .ret _ (in_ret ?_)
                        refine then_ret ?_
                        refine then_ret ?_
                        refine hK14 .ret _ (in_ret ?_)
                        refine then_ret ?_
                        refine leave_val (.inr rfl) rfl rfl rfl (congrArg (fun z => V.val (.bool z)) ?_)
                        first
                          | (symm; rw [decide_eq_false_iff_not]; intro hh;  have h1 := hh.1; have h2 := hh.2.1; omega)
                          | (symm; rw [decide_eq_false_iff_not]; intro hh;  have h3 := hh.2.2.1 i.toNat (by omega); unfold nodeOk at h3; omega)
                          | (symm; rw [decide_eq_false_iff_not]; intro hh;  have h3 := hh.2.2.2 i2.toNat (by omega); have h4 := hcl i2.toNat (by omega); exact h52 (by rw [h4]; exact h3))
                          | (symm; rw [decide_eq_false_iff_not]; intro hh;  have h3 := hh.2.2.1 i.toNat (by omega); unfold nodeOk at h3; rcases (show k = 0 ∨ k = 1 by omega) with rfl | rfl <;> omega)
                          | (have hn' : ∀ j : Nat, j < l.length → nodeOk j l[j]! := fun j hj => hn j (by omega)
                             have hz := fOk_last hn' (by omega)
                             have hz2 := hcl ((l.length : Int) - 1).toNat (by omega)
                             rw [show ((((l.length : Int) - 1).toNat : Nat) : Int) = (l.length : Int) - 1 by omega, hz] at hz2
                             rw [hz2]; symm; rw [show ((0 : Int) == 0) = true from rfl, decide_eq_true_iff]; exact ⟨by omega, by omega, hn', fun j hj => hk j (by omega) hj⟩)
                          | (symm; rw [decide_eq_true_iff]; exact ⟨by omega, by omega, fun j hj => hn j (by omega), fun j hj => hk j (by omega) hj⟩)
                      · skip
                        refine x_move ?_
                        refine w_end ?_
                        refine w_allG (l := [23]) (by decide +kernel) ⟨?_, trivial⟩
                        refine x_bin ?_
                        refine w_end ?_
                        refine w_allG (l := [24]) (by decide +kernel) ⟨?_, trivial⟩
                        refine x_move ?_
                        refine w_end ?_
                        refine w_allG (l := [25]) (by decide +kernel) ⟨?_, trivial⟩
                        refine x_split 52 rfl (by first | exact .beq | exact .bne | exact .dec | exact .not .beq | exact .not .bne | exact .not .dec | exact .not .id | exact .id) (fun h56 => ?_) (fun h56 => ?_)
                        · skip
                          refine x_fieldAddr ?_
                          refine w_end ?_
                          refine w_allG (l := [26]) (by decide +kernel) ⟨?_, trivial⟩
                          refine x_load ?_
                          refine w_end ?_
                          refine w_allG (l := [27]) (by decide +kernel) ⟨?_, trivial⟩
                          refine x_bin ?_
                          refine w_end ?_
                          refine w_allG (l := [28]) (by decide +kernel) ⟨?_, trivial⟩
                          refine x_pickT ?_
                          refine w_end ?_
                          refine w_allG (l := [29]) (by decide +kernel) ⟨?_, trivial⟩
                          refine x_pickF ?_
                          refine w_end ?_
                          refine w_doneG hK28 ?_
                          refine hK27 _ _ (ghost_has (ks := [(0, .v _), (3, .ref 17 []), (4, .v _), (5, .ref 5 []), (6, .v _), (18, .v _), (19, .v _), (20, .v _), (57, .v _)]) (km := [(0, _), (5, _), (17, _), (27, _)]) ⟨rfl, rfl, rfl, rfl, rfl, rfl, rfl, rfl, rfl, trivial⟩ ⟨rfl, rfl, rfl, rfl, trivial⟩ rfl) ?_
                          refine a_condS 57 rfl (by first | exact .beq | exact .bne | exact .dec | exact .not .beq | exact .not .bne | exact .not .dec | exact .not .id | exact .id) (fun h57 => ?_) (fun h57 => ?_)
                          · skip
                            refine a_seq fun K58 hK58 => ?_
                            refine a_region rfl fun K59 hK59 => ?_
                            refine x_assign ?_
                            refine r_nil hK59 ?_
                            refine hK58 _ _ (Ghost.refl _) ?_
                            refine a_ret ?_
                            refine then_ret ?_
                            refine hK21 .ret _ (in_ret ?_)
                            refine then_ret ?_
                            refine then_ret ?_
                            refine hK14 .ret _ (in_ret ?_)
                            refine then_ret ?_
                            refine leave_val (.inr rfl) rfl rfl rfl (congrArg (fun z => V.val (.bool z)) ?_)
                            first
                              | (symm; rw [decide_eq_false_iff_not]; intro hh;  have h1 := hh.1; have h2 := hh.2.1; omega)
                              | (symm; rw [decide_eq_false_iff_not]; intro hh;  have h3 := hh.2.2.1 i.toNat (by omega); unfold nodeOk at h3; omega)
                              | (symm; rw [decide_eq_false_iff_not]; intro hh;  have h3 := hh.2.2.2 i2.toNat (by omega); have h4 := hcl i2.toNat (by omega); exact h56 (by rw [h4]; exact h3))
                              | (symm; rw [decide_eq_false_iff_not]; intro hh;  have h3 := hh.2.2.1 i.toNat (by omega); unfold nodeOk at h3; rcases (show k = 0 ∨ k = 1 by omega) with rfl | rfl <;> omega)
                              | (have hn' : ∀ j : Nat, j < l.length → nodeOk j l[j]! := fun j hj => hn j (by omega)
                                 have hz := fOk_last hn' (by omega)
                                 have hz2 := hcl ((l.length : Int) - 1).toNat (by omega)
                                 rw [show ((((l.length : Int) - 1).toNat : Nat) : Int) = (l.length : Int) - 1 by omega, hz] at hz2
                                 rw [hz2]; symm; rw [show ((0 : Int) == 0) = true from rfl, decide_eq_true_iff]; exact ⟨by omega, by omega, hn', fun j hj => hk j (by omega) hj⟩)
                              | (symm; rw [decide_eq_true_iff]; exact ⟨by omega, by omega, fun j hj => hn j (by omega), fun j hj => hk j (by omega) hj⟩)
                          · skip
                            refine a_skip ?_
                            refine hK26 () _ _ _ (Ghost.refl _) ⟨rfl, rfl, rfl, rfl, rfl, rfl, rfl, rfl, trivial⟩ ⟨rfl, rfl, rfl, rfl, trivial⟩ ?_
                            try dsimp only
                            ·
                              first | omega | rfl | assumption | (simp; done) | (simp_all; done)
                        · skip
                          refine x_shut ?_
                          refine w_end ?_
                          refine w_allG (l := [26]) (by decide +kernel) ⟨?_, trivial⟩
                          refine x_shut ?_
                          refine w_end ?_
                          refine w_allG (l := [27]) (by decide +kernel) ⟨?_, trivial⟩
                          refine x_shut ?_
                          refine w_end ?_
                          refine w_allG (l := [28]) (by decide +kernel) ⟨?_, trivial⟩
                          refine x_pickF ?_
                          refine w_end ?_
                          refine w_allG (l := [29]) (by decide +kernel) ⟨?_, trivial⟩
                          refine x_pickF ?_
                          refine w_end ?_
                          refine w_doneG hK28 ?_
                          refine hK27 _ _ (ghost_has (ks := [(0, .v _), (3, .ref 17 []), (4, .v _), (5, .ref 5 []), (6, .v _), (18, .v _), (19, .v _), (20, .v _), (57, .v _)]) (km := [(0, _), (5, _), (17, _), (27, _)]) ⟨rfl, rfl, rfl, rfl, rfl, rfl, rfl, rfl, rfl, trivial⟩ ⟨rfl, rfl, rfl, rfl, trivial⟩ rfl) ?_
                          refine a_condF rfl ?_
                          refine a_skip ?_
                          refine hK26 () _ _ _ (Ghost.refl _) ⟨rfl, rfl, rfl, rfl, rfl, rfl, rfl, rfl, trivial⟩ ⟨rfl, rfl, rfl, rfl, trivial⟩ ?_
                          try dsimp only
                          ·
                            first | omega | rfl | assumption | (simp; done) | (simp_all; done)
                    · skip
                      refine x_shut ?_
                      refine w_end ?_
                      refine w_allG (l := [17]) (by decide +kernel) ⟨?_, trivial⟩
                      refine x_shut ?_
                      refine w_end ?_
                      refine w_allG (l := [18]) (by decide +kernel) ⟨?_, trivial⟩
                      refine x_shut ?_
                      refine w_end ?_
                      refine w_allG (l := [19]) (by decide +kernel) ⟨?_, trivial⟩
                      refine x_pickF ?_
                      refine w_end ?_
                      refine w_allG (l := [20]) (by decide +kernel) ⟨?_, trivial⟩
                      refine x_pickF ?_
                      refine w_end ?_
                      refine w_allG (l := [21]) (by decide +kernel) ⟨?_, trivial⟩
                      refine x_move ?_
                      refine w_end ?_
                      refine w_allG (l := [22]) (by decide +kernel) ⟨?_, trivial⟩
                      refine x_move ?_
                      refine w_end ?_
                      refine w_allG (l := [23]) (by decide +kernel) ⟨?_, trivial⟩
                      refine x_bin ?_
                      refine w_end ?_
                      refine w_allG (l := [24]) (by decide +kernel) ⟨?_, trivial⟩
                      refine x_move ?_
                      refine w_end ?_
                      refine w_allG (l := [25]) (by decide +kernel) ⟨?_, trivial⟩
                      refine x_split 52 rfl (by first | exact .beq | exact .bne | exact .dec | exact .not .beq | exact .not .bne | exact .not .dec | exact .not .id | exact .id) (fun h60 => ?_) (fun h60 => ?_)
                      · skip
                        refine x_fieldAddr ?_
                        refine w_end ?_
                        refine w_allG (l := [26]) (by decide +kernel) ⟨?_, trivial⟩
                        refine x_load ?_
                        refine w_end ?_
                        refine w_allG (l := [27]) (by decide +kernel) ⟨?_, trivial⟩
                        refine x_bin ?_
                        refine w_end ?_
                        refine w_allG (l := [28]) (by decide +kernel) ⟨?_, trivial⟩
                        refine x_pickT ?_
                        refine w_end ?_
                        refine w_allG (l := [29]) (by decide +kernel) ⟨?_, trivial⟩
                        refine x_pickF ?_
                        refine w_end ?_
                        refine w_doneG hK28 ?_
                        refine hK27 _ _ (ghost_has (ks := [(0, .v _), (3, .ref 17 []), (4, .v _), (5, .ref 5 []), (6, .v _), (18, .v _), (19, .v _), (20, .v _), (57, .v _)]) (km := [(0, _), (5, _), (17, _), (27, _)]) ⟨rfl, rfl, rfl, rfl, rfl, rfl, rfl, rfl, rfl, trivial⟩ ⟨rfl, rfl, rfl, rfl, trivial⟩ rfl) ?_
                        refine a_condS 57 rfl (by first | exact .beq | exact .bne | exact .dec | exact .not .beq | exact .not .bne | exact .not .dec | exact .not .id | exact .id) (fun h61 => ?_) (fun h61 => ?_)
                        · skip
                          refine a_seq fun K62 hK62 => ?_
                          refine a_region rfl fun K63 hK63 => ?_
                          refine x_assign ?_
                          refine r_nil hK63 ?_
                          refine hK62 _ _ (Ghost.refl _) ?_
                          refine a_ret ?_
                          refine then_ret ?_
                          refine hK21 .ret _ (in_ret ?_)
                          refine then_ret ?_
                          refine then_ret ?_
                          refine hK14 .ret _ (in_ret ?_)
                          refine then_ret ?_
                          refine leave_val (.inr rfl) rfl rfl rfl (congrArg (fun z => V.val (.bool z)) ?_)
                          first
                            | (symm; rw [decide_eq_false_iff_not]; intro hh;  have h1 := hh.1; have h2 := hh.2.1; omega)
                            | (symm; rw [decide_eq_false_iff_not]; intro hh;  have h3 := hh.2.2.1 i.toNat (by omega); unfold nodeOk at h3; omega)
                            | (symm; rw [decide_eq_false_iff_not]; intro hh;  have h3 := hh.2.2.2 i2.toNat (by omega); have h4 := hcl i2.toNat (by omega); exact h60 (by rw [h4]; exact h3))
                            | (symm; rw [decide_eq_false_iff_not]; intro hh;  have h3 := hh.2.2.1 i.toNat (by omega); unfold nodeOk at h3; rcases (show k = 0 ∨ k = 1 by omega) with rfl | rfl <;> omega)
                            | (have hn' : ∀ j : Nat, j < l.length → nodeOk j l[j]! := fun j hj => hn j (by omega)
                               have hz := fOk_last hn' (by omega)
                               have hz2 := hcl ((l.length : Int) - 1).toNat (by omega)
                               rw [show ((((l.length : Int) - 1).toNat : Nat) : Int) = (l.length : Int) - 1 by omega, hz] at hz2
                               rw [hz2]; symm; rw [show ((0 : Int) == 0) = true from rfl, decide_eq_true_iff]; exact ⟨by omega, by omega, hn', fun j hj => hk j (by omega) hj⟩)
                            | (symm; rw [decide_eq_true_iff]; exact ⟨by omega, by omega, fun j hj => hn j (by omega), fun j hj => hk j (by omega) hj⟩)
                        · skip
                          refine a_skip ?_
                          refine hK26 () _ _ _ (Ghost.refl _) ⟨rfl, rfl, rfl, rfl, rfl, rfl, rfl, rfl, trivial⟩ ⟨rfl, rfl, rfl, rfl, trivial⟩ ?_
                          try dsimp only
                          ·
                            first | omega | rfl | assumption | (simp; done) | (simp_all; done)
                      · skip
                        refine x_shut ?_
                        refine w_end ?_
                        refine w_allG (l := [26]) (by decide +kernel) ⟨?_, trivial⟩
                        refine x_shut ?_
                        refine w_end ?_
                        refine w_allG (l := [27]) (by decide +kernel) ⟨?_, trivial⟩
                        refine x_shut ?_
                        refine w_end ?_
                        refine w_allG (l := [28]) (by decide +kernel) ⟨?_, trivial⟩
                        refine x_pickF ?_
                        refine w_end ?_
                        refine w_allG (l := [29]) (by decide +kernel) ⟨?_, trivial⟩
                        refine x_pickF ?_
                        refine w_end ?_
                        refine w_doneG hK28 ?_
                        refine hK27 _ _ (ghost_has (ks := [(0, .v _), (3, .ref 17 []), (4, .v _), (5, .ref 5 []), (6, .v _), (18, .v _), (19, .v _), (20, .v _), (57, .v _)]) (km := [(0, _), (5, _), (17, _), (27, _)]) ⟨rfl, rfl, rfl, rfl, rfl, rfl, rfl, rfl, rfl, trivial⟩ ⟨rfl, rfl, rfl, rfl, trivial⟩ rfl) ?_
                        refine a_condF rfl ?_
                        refine a_skip ?_
                        refine hK26 () _ _ _ (Ghost.refl _) ⟨rfl, rfl, rfl, rfl, rfl, rfl, rfl, rfl, trivial⟩ ⟨rfl, rfl, rfl, rfl, trivial⟩ ?_
                        try dsimp only
                        ·
                          first | omega | rfl | assumption | (simp; done) | (simp_all; done)
                · skip
                  refine x_sub ?_ ?_
                  ·
                    first
                      | exact ⟨by omega, by omega⟩
                      | (have q1 := hbd (([(l[i.toNat]!).a, (l[i.toNat]!).b] : List Int)[k.toNat]!).toNat (by omega); exact ⟨by omega, by omega⟩)
                      | (unfold mostOf; (repeat split) <;> exact ⟨by omega, by omega⟩)
                  refine w_end ?_
                  exact w_allG (l := []) (by decide +kernel) trivial
          · skip
            refine x_split 30 rfl (by first | exact .beq | exact .bne | exact .dec | exact .not .beq | exact .not .bne | exact .not .dec | exact .not .id | exact .id) (fun h64 => ?_) (fun h64 => ?_)
            · skip
              refine x_shut ?_
              refine w_end ?_
              refine w_allG (l := [6]) (by decide +kernel) ⟨?_, trivial⟩
              refine x_shut ?_
              refine w_end ?_
              refine w_allG (l := [7]) (by decide +kernel) ⟨?_, trivial⟩
              refine x_shut ?_
              refine w_end ?_
              refine w_allG (l := [3, 8]) (by decide +kernel) ⟨?_, ?_, trivial⟩
              · skip
                refine x_shut ?_
                refine w_end ?_
                refine w_allG (l := [4, 8]) (by decide +kernel) ⟨?_, ?_, trivial⟩
                · skip
                  refine x_shut ?_
                  refine w_end ?_
                  refine w_allG (l := [8]) (by decide +kernel) ⟨?_, trivial⟩
                  refine x_shut ?_
                  refine w_end ?_
                  refine w_allG (l := [9]) (by decide +kernel) ⟨?_, trivial⟩
                  refine x_shut ?_
                  refine w_end ?_
                  refine w_allG (l := [10]) (by decide +kernel) ⟨?_, trivial⟩
                  refine x_shut ?_
                  refine w_end ?_
                  refine w_allG (l := [11]) (by decide +kernel) ⟨?_, trivial⟩
                  refine x_pickT ?_
                  refine w_end ?_
                  refine w_allG (l := [12]) (by decide +kernel) ⟨?_, trivial⟩
                  refine x_move ?_
                  refine w_end ?_
                  refine w_allG (l := [13]) (by decide +kernel) ⟨?_, trivial⟩
                  refine x_shut ?_
                  refine w_end ?_
                  refine w_allG (l := [14]) (by decide +kernel) ⟨?_, trivial⟩
                  refine x_shut ?_
                  refine w_end ?_
                  refine w_allG (l := [15]) (by decide +kernel) ⟨?_, trivial⟩
                  refine x_shut ?_
                  refine w_end ?_
                  refine w_allG (l := [16]) (by decide +kernel) ⟨?_, trivial⟩
                  refine x_shut' ?_
                  refine w_end ?_
                  refine w_allG (l := [17]) (by decide +kernel) ⟨?_, trivial⟩
                  refine x_shut' ?_
                  refine w_end ?_
                  refine w_allG (l := [18]) (by decide +kernel) ⟨?_, trivial⟩
                  refine x_shut' ?_
                  refine w_end ?_
                  refine w_allG (l := [19]) (by decide +kernel) ⟨?_, trivial⟩
                  refine x_shut ?_
                  refine w_end ?_
                  refine w_allG (l := [20]) (by decide +kernel) ⟨?_, trivial⟩
                  refine x_pickT ?_
                  refine w_end ?_
                  refine w_allG (l := [21]) (by decide +kernel) ⟨?_, trivial⟩
                  refine x_move ?_
                  refine w_end ?_
                  refine w_allG (l := [22]) (by decide +kernel) ⟨?_, trivial⟩
                  refine x_shut ?_
                  refine w_end ?_
                  refine w_allG (l := [23]) (by decide +kernel) ⟨?_, trivial⟩
                  refine x_shut ?_
                  refine w_end ?_
                  refine w_allG (l := [24]) (by decide +kernel) ⟨?_, trivial⟩
                  refine x_shut ?_
                  refine w_end ?_
                  refine w_allG (l := [25]) (by decide +kernel) ⟨?_, trivial⟩
                  refine x_shut' ?_
                  refine w_end ?_
                  refine w_allG (l := [26]) (by decide +kernel) ⟨?_, trivial⟩
                  refine x_shut' ?_
                  refine w_end ?_
                  refine w_allG (l := [27]) (by decide +kernel) ⟨?_, trivial⟩
                  refine x_shut' ?_
                  refine w_end ?_
                  refine w_allG (l := [28]) (by decide +kernel) ⟨?_, trivial⟩
                  refine x_shut ?_
                  refine w_end ?_
                  refine w_allG (l := [29]) (by decide +kernel) ⟨?_, trivial⟩
                  refine x_pickT ?_
                  refine w_end ?_
                  refine w_doneG hK28 ?_
                  refine hK27 _ _ (Ghost.refl _) ?_
                  refine a_condT rfl ?_
                  refine a_seq fun K65 hK65 => ?_
                  refine a_region rfl fun K66 hK66 => ?_
                  refine x_assign ?_
                  refine r_nil hK66 ?_
                  refine hK65 _ _ (Ghost.refl _) ?_
                  refine a_ret ?_
                  refine then_ret ?_
                  refine hK21 .ret _ (in_ret ?_)
                  refine then_ret ?_
                  refine then_ret ?_
                  refine hK14 .ret _ (in_ret ?_)
                  refine then_ret ?_
                  refine leave_val (.inr rfl) rfl rfl rfl (congrArg (fun z => V.val (.bool z)) ?_)
                  first
                    | (symm; rw [decide_eq_false_iff_not]; intro hh;  have h1 := hh.1; have h2 := hh.2.1; omega)
                    | (symm; rw [decide_eq_false_iff_not]; intro hh;  have h3 := hh.2.2.1 i.toNat (by omega); unfold nodeOk at h3; omega)
                    | (symm; rw [decide_eq_false_iff_not]; intro hh;  have h3 := hh.2.2.2 i2.toNat (by omega); have h4 := hcl i2.toNat (by omega); exact h60 (by rw [h4]; exact h3))
                    | (symm; rw [decide_eq_false_iff_not]; intro hh;  have h3 := hh.2.2.1 i.toNat (by omega); unfold nodeOk at h3; rcases (show k = 0 ∨ k = 1 by omega) with rfl | rfl <;> omega)
                    | (have hn' : ∀ j : Nat, j < l.length → nodeOk j l[j]! := fun j hj => hn j (by omega)
                       have hz := fOk_last hn' (by omega)
                       have hz2 := hcl ((l.length : Int) - 1).toNat (by omega)
                       rw [show ((((l.length : Int) - 1).toNat : Nat) : Int) = (l.length : Int) - 1 by omega, hz] at hz2
                       rw [hz2]; symm; rw [show ((0 : Int) == 0) = true from rfl, decide_eq_true_iff]; exact ⟨by omega, by omega, hn', fun j hj => hk j (by omega) hj⟩)
                    | (symm; rw [decide_eq_true_iff]; exact ⟨by omega, by omega, fun j hj => hn j (by omega), fun j hj => hk j (by omega) hj⟩)
                · skip
                  refine x_shut ?_
                  refine w_end ?_
                  exact w_allG (l := []) (by decide +kernel) trivial
              · skip
                refine x_shut ?_
                refine w_end ?_
                exact w_allG (l := []) (by decide +kernel) trivial
            · skip
              refine x_fieldAddr ?_
              refine w_end ?_
              refine w_allG (l := [6]) (by decide +kernel) ⟨?_, trivial⟩
              refine x_load ?_
              refine w_end ?_
              refine w_allG (l := [7]) (by decide +kernel) ⟨?_, trivial⟩
              refine x_call (s_impl_numbers) ?_ (hl := by first | rfl | (repeat (first | exact lendL_nil | refine lendL_cons (by first | rfl | exact lend_ref rfl (ro_eL (by intro _; first | rfl | exact roL_cL (by intro _; rfl))) | exact lend_refp rfl (ro_eL (by intro _; first | rfl | exact roL_cL (by intro _; rfl))) | exact lend_agg (by repeat (first | exact lendL_nil | refine lendL_cons (by first | rfl | exact lend_ref rfl (ro_eL (by intro _; first | rfl | exact roL_cL (by intro _; rfl))) | exact lend_refp rfl (ro_eL (by intro _; first | rfl | exact roL_cL (by intro _; rfl)))) ?_))) ?_)))
              rintro _ _ rfl
              refine w_end ?_
              refine w_allG (l := [3, 8]) (by decide +kernel) ⟨?_, ?_, trivial⟩
              · skip
                refine x_fieldAddr ?_
                refine w_end ?_
                refine w_allG (l := [4, 8]) (by decide +kernel) ⟨?_, ?_, trivial⟩
                · skip
                  refine x_load ?_
                  refine w_end ?_
                  refine w_allG (l := [8]) (by decide +kernel) ⟨?_, trivial⟩
                  refine x_sub ?_ ?_
                  ·
                    first
                      | exact ⟨by omega, by omega⟩
                      | (have q1 := hbd (([(l[i.toNat]!).a, (l[i.toNat]!).b] : List Int)[k.toNat]!).toNat (by omega); exact ⟨by omega, by omega⟩)
                      | (unfold mostOf; (repeat split) <;> exact ⟨by omega, by omega⟩)
                  refine w_end ?_
                  refine w_allG (l := [9]) (by decide +kernel) ⟨?_, trivial⟩
                  refine x_call (s_impl_within) ?_ (hl := by first | rfl | (repeat (first | exact lendL_nil | refine lendL_cons (by first | rfl | exact lend_ref rfl (ro_eL (by intro _; first | rfl | exact roL_cL (by intro _; rfl))) | exact lend_refp rfl (ro_eL (by intro _; first | rfl | exact roL_cL (by intro _; rfl))) | exact lend_agg (by repeat (first | exact lendL_nil | refine lendL_cons (by first | rfl | exact lend_ref rfl (ro_eL (by intro _; first | rfl | exact roL_cL (by intro _; rfl))) | exact lend_refp rfl (ro_eL (by intro _; first | rfl | exact roL_cL (by intro _; rfl)))) ?_))) ?_)))
                  rintro _ _ rfl
                  refine w_end ?_
                  refine w_allG (l := [10]) (by decide +kernel) ⟨?_, trivial⟩
                  refine x_un ?_
                  refine w_end ?_
                  refine w_allG (l := [11]) (by decide +kernel) ⟨?_, trivial⟩
                  refine x_pickF ?_
                  refine w_end ?_
                  refine w_allG (l := [12]) (by decide +kernel) ⟨?_, trivial⟩
                  refine x_move ?_
                  refine w_end ?_
                  refine w_allG (l := [13]) (by decide +kernel) ⟨?_, trivial⟩
                  refine x_split 40 rfl (by first | exact .beq | exact .bne | exact .dec | exact .not .beq | exact .not .bne | exact .not .dec | exact .not .id | exact .id) (fun h67 => ?_) (fun h67 => ?_)
                  · skip
                    refine x_shut ?_
                    refine w_end ?_
                    refine w_allG (l := [14]) (by decide +kernel) ⟨?_, trivial⟩
                    refine x_shut ?_
                    refine w_end ?_
                    refine w_allG (l := [15]) (by decide +kernel) ⟨?_, trivial⟩
                    refine x_shut ?_
                    refine w_end ?_
                    refine w_allG (l := [16]) (by decide +kernel) ⟨?_, trivial⟩
                    refine x_shut' ?_
                    refine w_end ?_
                    refine w_allG (l := [17]) (by decide +kernel) ⟨?_, trivial⟩
                    refine x_shut' ?_
                    refine w_end ?_
                    refine w_allG (l := [18]) (by decide +kernel) ⟨?_, trivial⟩
                    refine x_shut' ?_
                    refine w_end ?_
                    refine w_allG (l := [19]) (by decide +kernel) ⟨?_, trivial⟩
                    refine x_shut ?_
                    refine w_end ?_
                    refine w_allG (l := [20]) (by decide +kernel) ⟨?_, trivial⟩
                    refine x_pickT ?_
                    refine w_end ?_
                    refine w_allG (l := [21]) (by decide +kernel) ⟨?_, trivial⟩
                    refine x_move ?_
                    refine w_end ?_
                    refine w_allG (l := [22]) (by decide +kernel) ⟨?_, trivial⟩
                    refine x_shut ?_
                    refine w_end ?_
                    refine w_allG (l := [23]) (by decide +kernel) ⟨?_, trivial⟩
                    refine x_shut ?_
                    refine w_end ?_
                    refine w_allG (l := [24]) (by decide +kernel) ⟨?_, trivial⟩
                    refine x_shut ?_
                    refine w_end ?_
                    refine w_allG (l := [25]) (by decide +kernel) ⟨?_, trivial⟩
                    refine x_shut' ?_
                    refine w_end ?_
                    refine w_allG (l := [26]) (by decide +kernel) ⟨?_, trivial⟩
                    refine x_shut' ?_
                    refine w_end ?_
                    refine w_allG (l := [27]) (by decide +kernel) ⟨?_, trivial⟩
                    refine x_shut' ?_
                    refine w_end ?_
                    refine w_allG (l := [28]) (by decide +kernel) ⟨?_, trivial⟩
                    refine x_shut ?_
                    refine w_end ?_
                    refine w_allG (l := [29]) (by decide +kernel) ⟨?_, trivial⟩
                    refine x_pickT ?_
                    refine w_end ?_
                    refine w_doneG hK28 ?_
                    refine hK27 _ _ (ghost_has (ks := [(0, .v _), (3, .ref 17 []), (4, .v _), (5, .ref 5 []), (6, .v _), (18, .v _), (19, .v _), (20, .v _), (57, .v _)]) (km := [(0, _), (5, _), (17, _), (27, _)]) ⟨rfl, rfl, rfl, rfl, rfl, rfl, rfl, rfl, rfl, trivial⟩ ⟨rfl, rfl, rfl, rfl, trivial⟩ rfl) ?_
                    refine a_condT rfl ?_
                    refine a_seq fun K68 hK68 => ?_
                    refine a_region rfl fun K69 hK69 => ?_
                    refine x_assign ?_
                    refine r_nil hK69 ?_
                    refine hK68 _ _ (Ghost.refl _) ?_
                    refine a_ret ?_
                    refine then_ret ?_
                    refine hK21 .ret _ (in_ret ?_)
                    refine then_ret ?_
                    refine then_ret ?_
                    refine hK14 .ret _ (in_ret ?_)
                    refine then_ret ?_
                    refine leave_val (.inr rfl) rfl rfl rfl (congrArg (fun z => V.val (.bool z)) ?_)
                    first
                      | (symm; rw [decide_eq_false_iff_not]; intro hh;  have h1 := hh.1; have h2 := hh.2.1; omega)
                      | (symm; rw [decide_eq_false_iff_not]; intro hh;  have h3 := hh.2.2.1 i.toNat (by omega); unfold nodeOk at h3; omega)
                      | (symm; rw [decide_eq_false_iff_not]; intro hh;  have h3 := hh.2.2.2 i2.toNat (by omega); have h4 := hcl i2.toNat (by omega); exact h64 (by rw [h4]; exact h3))
                      | (symm; rw [decide_eq_false_iff_not]; intro hh;  have h3 := hh.2.2.1 i.toNat (by omega); unfold nodeOk at h3; rcases (show k = 0 ∨ k = 1 by omega) with rfl | rfl <;> omega)
                      | (have hn' : ∀ j : Nat, j < l.length → nodeOk j l[j]! := fun j hj => hn j (by omega)
                         have hz := fOk_last hn' (by omega)
                         have hz2 := hcl ((l.length : Int) - 1).toNat (by omega)
                         rw [show ((((l.length : Int) - 1).toNat : Nat) : Int) = (l.length : Int) - 1 by omega, hz] at hz2
                         rw [hz2]; symm; rw [show ((0 : Int) == 0) = true from rfl, decide_eq_true_iff]; exact ⟨by omega, by omega, hn', fun j hj => hk j (by omega) hj⟩)
                      | (symm; rw [decide_eq_true_iff]; exact ⟨by omega, by omega, fun j hj => hn j (by omega), fun j hj => hk j (by omega) hj⟩)
                  · skip
                    refine x_move ?_
                    refine w_end ?_
                    refine w_allG (l := [14]) (by decide +kernel) ⟨?_, trivial⟩
                    refine x_bin ?_
                    refine w_end ?_
                    refine w_allG (l := [15]) (by decide +kernel) ⟨?_, trivial⟩
                    refine x_move ?_
                    refine w_end ?_
                    refine w_allG (l := [16]) (by decide +kernel) ⟨?_, trivial⟩
                    refine x_split 43 rfl (by first | exact .beq | exact .bne | exact .dec | exact .not .beq | exact .not .bne | exact .not .dec | exact .not .id | exact .id) (fun h70 => ?_) (fun h70 => ?_)
                    · skip
                      refine x_fieldAddr ?_
                      refine w_end ?_
                      refine w_allG (l := [17]) (by decide +kernel) ⟨?_, trivial⟩
                      refine x_load ?_
                      refine w_end ?_
                      refine w_allG (l := [18]) (by decide +kernel) ⟨?_, trivial⟩
                      refine x_bin ?_
                      refine w_end ?_
                      refine w_allG (l := [19]) (by decide +kernel) ⟨?_, trivial⟩
                      refine x_pickT ?_
                      refine w_end ?_
                      refine w_allG (l := [20]) (by decide +kernel) ⟨?_, trivial⟩
                      refine x_pickF ?_
                      refine w_end ?_
                      refine w_allG (l := [21]) (by decide +kernel) ⟨?_, trivial⟩
                      refine x_move ?_
                      refine w_end ?_
                      refine w_allG (l := [22]) (by decide +kernel) ⟨?_, trivial⟩
                      refine x_split 49 rfl (by first | exact .beq | exact .bne | exact .dec | exact .not .beq | exact .not .bne | exact .not .dec | exact .not .id | exact .id) (fun h71 => ?_) (fun h71 => ?_)
                      · skip
                        refine x_shut ?_
                        refine w_end ?_
                        refine w_allG (l := [23]) (by decide +kernel) ⟨?_, trivial⟩
                        refine x_shut ?_
                        refine w_end ?_
                        refine w_allG (l := [24]) (by decide +kernel) ⟨?_, trivial⟩
                        refine x_shut ?_
                        refine w_end ?_
                        refine w_allG (l := [25]) (by decide +kernel) ⟨?_, trivial⟩
                        refine x_shut' ?_
                        refine w_end ?_
                        refine w_allG (l := [26]) (by decide +kernel) ⟨?_, trivial⟩
                        refine x_shut' ?_
                        refine w_end ?_
                        refine w_allG (l := [27]) (by decide +kernel) ⟨?_, trivial⟩
                        refine x_shut' ?_
                        refine w_end ?_
                        refine w_allG (l := [28]) (by decide +kernel) ⟨?_, trivial⟩
                        refine x_shut ?_
                        refine w_end ?_
                        refine w_allG (l := [29]) (by decide +kernel) ⟨?_, trivial⟩
                        refine x_pickT ?_
                        refine w_end ?_
                        refine w_doneG hK28 ?_
                        refine hK27 _ _ (ghost_has (ks := [(0, .v _), (3, .ref 17 []), (4, .v _), (5, .ref 5 []), (6, .v _), (18, .v _), (19, .v _), (20, .v _), (57, .v _)]) (km := [(0, _), (5, _), (17, _), (27, _)]) ⟨rfl, rfl, rfl, rfl, rfl, rfl, rfl, rfl, rfl, trivial⟩ ⟨rfl, rfl, rfl, rfl, trivial⟩ rfl) ?_
                        refine a_condT rfl ?_
                        refine a_seq fun K72 hK72 => ?_
                        refine a_region rfl fun K73 hK73 => ?_
                        refine x_assign ?_
                        refine r_nil hK73 ?_
                        refine hK72 _ _ (Ghost.refl _) ?_
                        refine a_ret ?_
                        refine then_ret ?_
                        refine hK21 .ret _ (in_ret ?_)
                        refine then_ret ?_
                        refine then_ret ?_
                        refine hK14 .ret _ (in_ret ?_)
                        refine then_ret ?_
                        refine leave_val (.inr rfl) rfl rfl rfl (congrArg (fun z => V.val (.bool z)) ?_)
                        first
                          | (symm; rw [decide_eq_false_iff_not]; intro hh;  have h1 := hh.1; have h2 := hh.2.1; omega)
                          | (symm; rw [decide_eq_false_iff_not]; intro hh;  have h3 := hh.2.2.1 i.toNat (by omega); unfold nodeOk at h3; omega)
                          | (symm; rw [decide_eq_false_iff_not]; intro hh;  have h3 := hh.2.2.2 i2.toNat (by omega); have h4 := hcl i2.toNat (by omega); exact h70 (by rw [h4]; exact h3))
                          | (symm; rw [decide_eq_false_iff_not]; intro hh;  have h3 := hh.2.2.1 i.toNat (by omega); unfold nodeOk at h3; rcases (show k = 0 ∨ k = 1 by omega) with rfl | rfl <;> omega)
                          | (have hn' : ∀ j : Nat, j < l.length → nodeOk j l[j]! := fun j hj => hn j (by omega)
                             have hz := fOk_last hn' (by omega)
                             have hz2 := hcl ((l.length : Int) - 1).toNat (by omega)
                             rw [show ((((l.length : Int) - 1).toNat : Nat) : Int) = (l.length : Int) - 1 by omega, hz] at hz2
                             rw [hz2]; symm; rw [show ((0 : Int) == 0) = true from rfl, decide_eq_true_iff]; exact ⟨by omega, by omega, hn', fun j hj => hk j (by omega) hj⟩)
                          | (symm; rw [decide_eq_true_iff]; exact ⟨by omega, by omega, fun j hj => hn j (by omega), fun j hj => hk j (by omega) hj⟩)
                      · skip
                        refine x_move ?_
                        refine w_end ?_
                        refine w_allG (l := [23]) (by decide +kernel) ⟨?_, trivial⟩
                        refine x_bin ?_
                        refine w_end ?_
                        refine w_allG (l := [24]) (by decide +kernel) ⟨?_, trivial⟩
                        refine x_move ?_
                        refine w_end ?_
                        refine w_allG (l := [25]) (by decide +kernel) ⟨?_, trivial⟩
                        refine x_split 52 rfl (by first | exact .beq | exact .bne | exact .dec | exact .not .beq | exact .not .bne | exact .not .dec | exact .not .id | exact .id) (fun h74 => ?_) (fun h74 => ?_)
                        · skip
                          refine x_fieldAddr ?_
                          refine w_end ?_
                          refine w_allG (l := [26]) (by decide +kernel) ⟨?_, trivial⟩
                          refine x_load ?_
                          refine w_end ?_
                          refine w_allG (l := [27]) (by decide +kernel) ⟨?_, trivial⟩
                          refine x_bin ?_
                          refine w_end ?_
                          refine w_allG (l := [28]) (by decide +kernel) ⟨?_, trivial⟩
                          refine x_pickT ?_
                          refine w_end ?_
                          refine w_allG (l := [29]) (by decide +kernel) ⟨?_, trivial⟩
                          refine x_pickF ?_
                          refine w_end ?_
                          refine w_doneG hK28 ?_
                          refine hK27 _ _ (ghost_has (ks := [(0, .v _), (3, .ref 17 []), (4, .v _), (5, .ref 5 []), (6, .v _), (18, .v _), (19, .v _), (20, .v _), (57, .v _)]) (km := [(0, _), (5, _), (17, _), (27, _)]) ⟨rfl, rfl, rfl, rfl, rfl, rfl, rfl, rfl, rfl, trivial⟩ ⟨rfl, rfl, rfl, rfl, trivial⟩ rfl) ?_
                          refine a_condS 57 rfl (by first | exact .beq | exact .bne | exact .dec | exact .not .beq | exact .not .bne | exact .not .dec | exact .not .id | exact .id) (fun h75 => ?_) (fun h75 => ?_)
                          · skip
                            refine a_seq fun K76 hK76 => ?_
                            refine a_region rfl fun K77 hK77 => ?_
                            refine x_assign ?_
                            refine r_nil hK77 ?_
                            refine hK76 _ _ (Ghost.refl _) ?_
                            refine a_ret ?_
                            refine then_ret ?_
                            refine hK21 .ret _ (in_ret ?_)
                            refine then_ret ?_
                            refine then_ret ?_
                            refine hK14 .ret _ (in_ret ?_)
                            refine then_ret ?_
                            refine leave_val (.inr rfl) rfl rfl rfl (congrArg (fun z => V.val (.bool z)) ?_)
                            first
                              | (symm; rw [decide_eq_false_iff_not]; intro hh;  have h1 := hh.1; have h2 := hh.2.1; omega)
                              | (symm; rw [decide_eq_false_iff_not]; intro hh;  have h3 := hh.2.2.1 i.toNat (by omega); unfold nodeOk at h3; omega)
                              | (symm; rw [decide_eq_false_iff_not]; intro hh;  have h3 := hh.2.2.2 i2.toNat (by omega); have h4 := hcl i2.toNat (by omega); exact h74 (by rw [h4]; exact h3))
                              | (symm; rw [decide_eq_false_iff_not]; intro hh;  have h3 := hh.2.2.1 i.toNat (by omega); unfold nodeOk at h3; rcases (show k = 0 ∨ k = 1 by omega) with rfl | rfl <;> omega)
                              | (have hn' : ∀ j : Nat, j < l.length → nodeOk j l[j]! := fun j hj => hn j (by omega)
                                 have hz := fOk_last hn' (by omega)
                                 have hz2 := hcl ((l.length : Int) - 1).toNat (by omega)
                                 rw [show ((((l.length : Int) - 1).toNat : Nat) : Int) = (l.length : Int) - 1 by omega, hz] at hz2
                                 rw [hz2]; symm; rw [show ((0 : Int) == 0) = true from rfl, decide_eq_true_iff]; exact ⟨by omega, by omega, hn', fun j hj => hk j (by omega) hj⟩)
                              | (symm; rw [decide_eq_true_iff]; exact ⟨by omega, by omega, fun j hj => hn j (by omega), fun j hj => hk j (by omega) hj⟩)
                          · skip
                            refine a_skip ?_
                            refine hK26 () _ _ _ (Ghost.refl _) ⟨rfl, rfl, rfl, rfl, rfl, rfl, rfl, rfl, trivial⟩ ⟨rfl, rfl, rfl, rfl, trivial⟩ ?_
                            try dsimp only
                            ·
                              first | omega | rfl | assumption | (simp; done) | (simp_all; done)
                        · skip
                          refine x_shut ?_
                          refine w_end ?_
                          refine w_allG (l := [26]) (by decide +kernel) ⟨?_, trivial⟩
                          refine x_shut ?_
                          refine w_end ?_
                          refine w_allG (l := [27]) (by decide +kernel) ⟨?_, trivial⟩
                          refine x_shut ?_
                          refine w_end ?_
                          refine w_allG (l := [28]) (by decide +kernel) ⟨?_, trivial⟩
                          refine x_pickF ?_
                          refine w_end ?_
                          refine w_allG (l := [29]) (by decide +kernel) ⟨?_, trivial⟩
                          refine x_pickF ?_
                          refine w_end ?_
                          refine w_doneG hK28 ?_
                          refine hK27 _ _ (ghost_has (ks := [(0, .v _), (3, .ref 17 []), (4, .v _), (5, .ref 5 []), (6, .v _), (18, .v _), (19, .v _), (20, .v _), (57, .v _)]) (km := [(0, _), (5, _), (17, _), (27, _)]) ⟨rfl, rfl, rfl, rfl, rfl, rfl, rfl, rfl, rfl, trivial⟩ ⟨rfl, rfl, rfl, rfl, trivial⟩ rfl) ?_
                          refine a_condF rfl ?_
                          refine a_skip ?_
                          refine hK26 () _ _ _ (Ghost.refl _) ⟨rfl, rfl, rfl, rfl, rfl, rfl, rfl, rfl, trivial⟩ ⟨rfl, rfl, rfl, rfl, trivial⟩ ?_
                          try dsimp only
                          ·
                            first | omega | rfl | assumption | (simp; done) | (simp_all; done)
                    · skip
                      refine x_shut ?_
                      refine w_end ?_
                      refine w_allG (l := [17]) (by decide +kernel) ⟨?_, trivial⟩
                      refine x_shut ?_
                      refine w_end ?_
                      refine w_allG (l := [18]) (by decide +kernel) ⟨?_, trivial⟩
                      refine x_shut ?_
                      refine w_end ?_
                      refine w_allG (l := [19]) (by decide +kernel) ⟨?_, trivial⟩
                      refine x_pickF ?_
                      refine w_end ?_
                      refine w_allG (l := [20]) (by decide +kernel) ⟨?_, trivial⟩
                      refine x_pickF ?_
                      refine w_end ?_
                      refine w_allG (l := [21]) (by decide +kernel) ⟨?_, trivial⟩
                      refine x_move ?_
                      refine w_end ?_
                      refine w_allG (l := [22]) (by decide +kernel) ⟨?_, trivial⟩
                      refine x_move ?_
                      refine w_end ?_
                      refine w_allG (l := [23]) (by decide +kernel) ⟨?_, trivial⟩
                      refine x_bin ?_
                      refine w_end ?_
                      refine w_allG (l := [24]) (by decide +kernel) ⟨?_, trivial⟩
                      refine x_move ?_
                      refine w_end ?_
                      refine w_allG (l := [25]) (by decide +kernel) ⟨?_, trivial⟩
                      refine x_split 52 rfl (by first | exact .beq | exact .bne | exact .dec | exact .not .beq | exact .not .bne | exact .not .dec | exact .not .id | exact .id) (fun h78 => ?_) (fun h78 => ?_)
                      · skip
                        refine x_fieldAddr ?_
                        refine w_end ?_
                        refine w_allG (l := [26]) (by decide +kernel) ⟨?_, trivial⟩
                        refine x_load ?_
                        refine w_end ?_
                        refine w_allG (l := [27]) (by decide +kernel) ⟨?_, trivial⟩
                        refine x_bin ?_
                        refine w_end ?_
                        refine w_allG (l := [28]) (by decide +kernel) ⟨?_, trivial⟩
                        refine x_pickT ?_
                        refine w_end ?_
                        refine w_allG (l := [29]) (by decide +kernel) ⟨?_, trivial⟩
                        refine x_pickF ?_
                        refine w_end ?_
                        refine w_doneG hK28 ?_
                        refine hK27 _ _ (ghost_has (ks := [(0, .v _), (3, .ref 17 []), (4, .v _), (5, .ref 5 []), (6, .v _), (18, .v _), (19, .v _), (20, .v _), (57, .v _)]) (km := [(0, _), (5, _), (17, _), (27, _)]) ⟨rfl, rfl, rfl, rfl, rfl, rfl, rfl, rfl, rfl, trivial⟩ ⟨rfl, rfl, rfl, rfl, trivial⟩ rfl) ?_
                        refine a_condS 57 rfl (by first | exact .beq | exact .bne | exact .dec | exact .not .beq | exact .not .bne | exact .not .dec | exact .not .id | exact .id) (fun h79 => ?_) (fun h79 => ?_)
                        · skip
                          refine a_seq fun K80 hK80 => ?_
                          refine a_region rfl fun K81 hK81 => ?_
                          refine x_assign ?_
                          refine r_nil hK81 ?_
                          refine hK80 _ _ (Ghost.refl _) ?_
                          refine a_ret ?_
                          refine then_ret ?_
                          refine hK21 .ret _ (in_ret ?_)
                          refine then_ret ?_
                          refine then_ret ?_
                          refine hK14 .ret _ (in_ret ?_)
                          refine then_ret ?_
                          refine leave_val (.inr rfl) rfl rfl rfl (congrArg (fun z => V.val (.bool z)) ?_)
                          first
                            | (symm; rw [decide_eq_false_iff_not]; intro hh;  have h1 := hh.1; have h2 := hh.2.1; omega)
                            | (symm; rw [decide_eq_false_iff_not]; intro hh;  have h3 := hh.2.2.1 i.toNat (by omega); unfold nodeOk at h3; omega)
                            | (symm; rw [decide_eq_false_iff_not]; intro hh;  have h3 := hh.2.2.2 i2.toNat (by omega); have h4 := hcl i2.toNat (by omega); exact h78 (by rw [h4]; exact h3))
                            | (symm; rw [decide_eq_false_iff_not]; intro hh;  have h3 := hh.2.2.1 i.toNat (by omega); unfold nodeOk at h3; rcases (show k = 0 ∨ k = 1 by omega) with rfl | rfl <;> omega)
                            | (have hn' : ∀ j : Nat, j < l.length → nodeOk j l[j]! := fun j hj => hn j (by omega)
                               have hz := fOk_last hn' (by omega)
                               have hz2 := hcl ((l.length : Int) - 1).toNat (by omega)
                               rw [show ((((l.length : Int) - 1).toNat : Nat) : Int) = (l.length : Int) - 1 by omega, hz] at hz2
                               rw [hz2]; symm; rw [show ((0 : Int) == 0) = true from rfl, decide_eq_true_iff]; exact ⟨by omega, by omega, hn', fun j hj => hk j (by omega) hj⟩)
                            | (symm; rw [decide_eq_true_iff]; exact ⟨by omega, by omega, fun j hj => hn j (by omega), fun j hj => hk j (by omega) hj⟩)
                        · skip
                          refine a_skip ?_
                          refine hK26 () _ _ _ (Ghost.refl _) ⟨rfl, rfl, rfl, rfl, rfl, rfl, rfl, rfl, trivial⟩ ⟨rfl, rfl, rfl, rfl, trivial⟩ ?_
                          try dsimp only
                          ·
                            first | omega | rfl | assumption | (simp; done) | (simp_all; done)
                      · skip
                        refine x_shut ?_
                        refine w_end ?_
                        refine w_allG (l := [26]) (by decide +kernel) ⟨?_, trivial⟩
                        refine x_shut ?_
                        refine w_end ?_
                        refine w_allG (l := [27]) (by decide +kernel) ⟨?_, trivial⟩
                        refine x_shut ?_
                        refine w_end ?_
                        refine w_allG (l := [28]) (by decide +kernel) ⟨?_, trivial⟩
                        refine x_pickF ?_
                        refine w_end ?_
                        refine w_allG (l := [29]) (by decide +kernel) ⟨?_, trivial⟩
                        refine x_pickF ?_
                        refine w_end ?_
                        refine w_doneG hK28 ?_
                        refine hK27 _ _ (ghost_has (ks := [(0, .v _), (3, .ref 17 []), (4, .v _), (5, .ref 5 []), (6, .v _), (18, .v _), (19, .v _), (20, .v _), (57, .v _)]) (km := [(0, _), (5, _), (17, _), (27, _)]) ⟨rfl, rfl, rfl, rfl, rfl, rfl, rfl, rfl, rfl, trivial⟩ ⟨rfl, rfl, rfl, rfl, trivial⟩ rfl) ?_
                        refine a_condF rfl ?_
                        refine a_skip ?_
                        refine hK26 () _ _ _ (Ghost.refl _) ⟨rfl, rfl, rfl, rfl, rfl, rfl, rfl, rfl, trivial⟩ ⟨rfl, rfl, rfl, rfl, trivial⟩ ?_
                        try dsimp only
                        ·
                          first | omega | rfl | assumption | (simp; done) | (simp_all; done)
                · skip
                  refine x_sub ?_ ?_
                  ·
                    first
                      | exact ⟨by omega, by omega⟩
                      | (have q1 := hbd (([(l[i.toNat]!).a, (l[i.toNat]!).b] : List Int)[k.toNat]!).toNat (by omega); exact ⟨by omega, by omega⟩)
                      | (unfold mostOf; (repeat split) <;> exact ⟨by omega, by omega⟩)
                  refine w_end ?_
                  exact w_allG (l := []) (by decide +kernel) trivial
              · skip
                refine x_sub ?_ ?_
                ·
                  first
                    | exact ⟨by omega, by omega⟩
                    | (have q1 := hbd (([(l[i.toNat]!).a, (l[i.toNat]!).b] : List Int)[k.toNat]!).toNat (by omega); exact ⟨by omega, by omega⟩)
                    | (unfold mostOf; (repeat split) <;> exact ⟨by omega, by omega⟩)
                refine w_end ?_
                exact w_allG (l := []) (by decide +kernel) trivial
        · rintro _u hI26
          dsimp only [List.cons_append, List.nil_append] at hI26 ⊢
          have c1 := hI26
          refine a_seq fun K82 hK82 => ?_
          refine a_region rfl fun K83 hK83 => ?_
          refine x_fieldAddr ?_
          refine x_load ?_
          refine x_fieldAddr ?_
          refine x_load ?_
          first | refine x_bv ?_ | refine x_build1 ?_
          refine x_len ?_
          refine x_move ?_
          refine r_nil hK83 ?_
          refine hK82 _ _ (Ghost.refl _) ?_
          refine a_block fun K84 hK84 => ?_
          refine a_loopM (X := Int × (List Int)) (fun (k, o1) => ([(64, .v (.val (.int .i64 k)))] : List (Nat × S))) (fun (k, o1) => ([(17, eL true 1 cI o1), (62, eL true 1 cI ([(l[i.toNat]!).a, (l[i.toNat]!).b] : List Int))] : List (Nat × V))) (fun (k, o1) => (0 ≤ k ∧ k ≤ 2) ∧ (o1.length = l.length) ∧ (∀ j : Nat, j < l.length → 0 ≤ o1[j]! ∧ o1[j]! ≤ 2 * i + k) ∧ (k = 0 → o1 = o) ∧ (k = 1 → o1 = (if 0 < usesOf (l[i.toNat]!).op then o.set (l[i.toNat]!).a.toNat (o[(l[i.toNat]!).a.toNat]! + 1) else o)) ∧ (k = 2 → ∃ o' : List Int, o' = (if 0 < usesOf (l[i.toNat]!).op then o.set (l[i.toNat]!).a.toNat (o[(l[i.toNat]!).a.toNat]! + 1) else o) ∧ o1 = (if 1 < usesOf (l[i.toNat]!).op then o'.set (l[i.toNat]!).b.toNat (o'[(l[i.toNat]!).b.toNat]! + 1) else o')) ∧ ((0 < k → 0 < usesOf (l[i.toNat]!).op → 0 ≤ (l[i.toNat]!).a ∧ (l[i.toNat]!).a < i) ∧ (1 < k → 1 < usesOf (l[i.toNat]!).op → 0 ≤ (l[i.toNat]!).b ∧ (l[i.toNat]!).b < i))) (fun (k, o1) => (2 - k).toNat) [(0, .v _), (3, .ref 17 []), (4, .v _), (6, .v _), (18, .v _), (19, .v _), (20, .v _), (62, .ref 62 []), (63, .v _)] [(0, _), (27, _)] (_, _) (Ghost.refl _) ⟨rfl, rfl, rfl, rfl, rfl, rfl, rfl, rfl, rfl, rfl, trivial⟩ ⟨rfl, rfl, rfl, rfl, trivial⟩ (fun ⟨_, _⟩ => rfl) ?_ ?_
          ·
            try dsimp only
            refine ⟨?_, ?_, ?_, ?_, ?_, ?_, ?_⟩
            ·
              first | omega | rfl | assumption | (simp; done) | (simp_all; done)
            ·
              first | omega | rfl | assumption | (simp; done) | (simp_all; done)
            ·
              intro j hj; have q1 := hc j hj; have q2 := usedBy_bound (takeI l i) j; have q3 := takeI_length (l := l) (i := i) (by omega) (by omega); omega
            ·
              exact fun _ => rfl
            ·
              intro e; omega
            ·
              intro e; omega
            ·
              exact ⟨fun e => by omega, fun e => by omega⟩
          ·
            rintro ⟨k, o1⟩ hI85 K85 hK85
            dsimp only [List.cons_append, List.nil_append] at hI85 ⊢
            obtain ⟨hk, ho1, hbd, hp0, hp1, hp2, c2⟩ := hI85
            have hx0 : k = 0 → ([(l[i.toNat]!).a, (l[i.toNat]!).b] : List Int)[k.toNat]! = (l[i.toNat]!).a := by rintro rfl; rfl
            have hx1 : k = 1 → ([(l[i.toNat]!).a, (l[i.toNat]!).b] : List Int)[k.toNat]! = (l[i.toNat]!).b := by rintro rfl; rfl
            refine a_seq fun K86 hK86 => ?_
            refine a_region rfl fun K87 hK87 => ?_
            refine x_bin ?_
            refine r_nil hK87 ?_
            refine hK86 _ _ (Ghost.refl _) ?_
            refine a_seq fun K88 hK88 => ?_
            refine a_condS 65 rfl (by first | exact .beq | exact .bne | exact .dec | exact .not .beq | exact .not .bne | exact .not .dec | exact .not .id | exact .id) (fun h89 => ?_) (fun h89 => ?_)
            · skip
              refine a_skip ?_
              refine hK88 _ _ (Ghost.refl _) ?_
              refine a_seq fun K90 hK90 => ?_
              refine a_block fun K91 hK91 => ?_
              refine a_seq fun K92 hK92 => ?_
              refine a_region rfl fun K93 hK93 => ?_
              refine x_move ?_
              refine x_indexAddr ?_ ?_
              ·
                exact ⟨by omega, by omega⟩
              first | refine x_ldE ?_ ?_ | refine x_ldN ?_ ?_ | refine x_ldO ?_ ?_ | refine x_ldON ?_ ?_ (hf := fun x => (rfl : cN x = List.map V.val [_, _, _, _]))
              ·
                show k.toNat < 2; omega
              refine x_assign ?_
              refine x_assign ?_
              refine r_nil hK93 ?_
              refine hK92 _ _ (Ghost.refl _) ?_
              refine a_seq fun K94 hK94 => ?_
              refine a_region rfl fun K95 hK95 => ?_
              refine x_move ?_
              refine x_move ?_
              refine x_bin ?_
              refine r_nil hK95 ?_
              refine hK94 _ _ (Ghost.refl _) ?_
              refine a_condS 71 rfl (by first | exact .beq | exact .bne | exact .dec | exact .not .beq | exact .not .bne | exact .not .dec | exact .not .id | exact .id) (fun h96 => ?_) (fun h96 => ?_)
              · skip
                refine a_seq fun K97 hK97 => ?_
                refine a_seq fun K98 hK98 => ?_
                refine a_region rfl fun K99 hK99 => ?_
                refine x_move ?_
                refine x_move ?_
                refine x_sub ?_ ?_
                ·
                  first
                    | exact ⟨by omega, by omega⟩
                    | (have q1 := hbd (([(l[i.toNat]!).a, (l[i.toNat]!).b] : List Int)[k.toNat]!).toNat (by omega); exact ⟨by omega, by omega⟩)
                    | (unfold mostOf; (repeat split) <;> exact ⟨by omega, by omega⟩)
                refine x_call (s_impl_within) ?_ (hl := by first | rfl | (repeat (first | exact lendL_nil | refine lendL_cons (by first | rfl | exact lend_ref rfl (ro_eL (by intro _; first | rfl | exact roL_cL (by intro _; rfl))) | exact lend_refp rfl (ro_eL (by intro _; first | rfl | exact roL_cL (by intro _; rfl))) | exact lend_agg (by repeat (first | exact lendL_nil | refine lendL_cons (by first | rfl | exact lend_ref rfl (ro_eL (by intro _; first | rfl | exact roL_cL (by intro _; rfl))) | exact lend_refp rfl (ro_eL (by intro _; first | rfl | exact roL_cL (by intro _; rfl)))) ?_))) ?_)))
                rintro _ _ rfl
                refine x_un ?_
                refine r_nil hK99 ?_
                refine hK98 _ _ (ghost_has (ks := [(0, .v _), (3, .ref 17 []), (4, .v _), (6, .v _), (8, .v _), (18, .v _), (19, .v _), (20, .v _), (62, .ref 62 []), (63, .v _), (64, .v _), (76, .v _)]) (km := [(0, _), (17, _), (27, _), (62, _)]) ⟨rfl, rfl, rfl, rfl, rfl, rfl, rfl, rfl, rfl, rfl, rfl, rfl, trivial⟩ ⟨rfl, rfl, rfl, rfl, trivial⟩ rfl) ?_
                refine a_condS 76 rfl (by first | exact .beq | exact .bne | exact .dec | exact .not .beq | exact .not .bne | exact .not .dec | exact .not .id | exact .id) (fun h100 => ?_) (fun h100 => ?_)
                · skip
                  refine a_seq fun K101 hK101 => ?_
                  refine a_region rfl fun K102 hK102 => ?_
                  refine x_assign ?_
                  refine r_nil hK102 ?_
                  refine hK101 _ _ (Ghost.refl _) ?_
                  refine a_ret ?_
                  refine then_ret ?_
                  refine hK91 .ret _ (in_ret ?_)
                  refine then_ret ?_
                  refine then_ret ?_
                  refine hK84 .ret _ (in_ret ?_)
                  refine hK21 .ret _ (in_ret ?_)
                  refine then_ret ?_
                  refine then_ret ?_
                  refine hK14 .ret _ (in_ret ?_)
                  refine then_ret ?_
                  refine leave_val (.inr rfl) rfl rfl rfl (congrArg (fun z => V.val (.bool z)) ?_)
                  first
                    | (symm; rw [decide_eq_false_iff_not]; intro hh;  have h1 := hh.1; have h2 := hh.2.1; omega)
                    | (symm; rw [decide_eq_false_iff_not]; intro hh;  have h3 := hh.2.2.1 i.toNat (by omega); unfold nodeOk at h3; omega)
                    | (symm; rw [decide_eq_false_iff_not]; intro hh;  have h3 := hh.2.2.2 i2.toNat (by omega); have h4 := hcl i2.toNat (by omega); exact h96 (by rw [h4]; exact h3))
                    | (symm; rw [decide_eq_false_iff_not]; intro hh;  have h3 := hh.2.2.1 i.toNat (by omega); unfold nodeOk at h3; rcases (show k = 0 ∨ k = 1 by omega) with rfl | rfl <;> omega)
                    | (have hn' : ∀ j : Nat, j < l.length → nodeOk j l[j]! := fun j hj => hn j (by omega)
                       have hz := fOk_last hn' (by omega)
                       have hz2 := hcl ((l.length : Int) - 1).toNat (by omega)
                       rw [show ((((l.length : Int) - 1).toNat : Nat) : Int) = (l.length : Int) - 1 by omega, hz] at hz2
                       rw [hz2]; symm; rw [show ((0 : Int) == 0) = true from rfl, decide_eq_true_iff]; exact ⟨by omega, by omega, hn', fun j hj => hk j (by omega) hj⟩)
                    | (symm; rw [decide_eq_true_iff]; exact ⟨by omega, by omega, fun j hj => hn j (by omega), fun j hj => hk j (by omega) hj⟩)
                · skip
                  refine a_skip ?_
                  refine hK97 _ _ (Ghost.refl _) ?_
                  refine a_region rfl fun K103 hK103 => ?_
                  refine x_move ?_
                  refine x_move ?_
                  refine x_indexAddr ?_ ?_
                  ·
                    exact ⟨by omega, by omega⟩
                  first | refine x_ldE ?_ ?_ | refine x_ldN ?_ ?_ | refine x_ldO ?_ ?_ | refine x_ldON ?_ ?_ (hf := fun x => (rfl : cN x = List.map V.val [_, _, _, _]))
                  ·
                    omega
                  refine x_add ?_ ?_
                  ·
                    first
                      | exact ⟨by omega, by omega⟩
                      | (have q1 := hbd (([(l[i.toNat]!).a, (l[i.toNat]!).b] : List Int)[k.toNat]!).toNat (by omega); exact ⟨by omega, by omega⟩)
                      | (unfold mostOf; (repeat split) <;> exact ⟨by omega, by omega⟩)
                  refine x_indexAddr ?_ ?_
                  ·
                    exact ⟨by omega, by omega⟩
                  first | refine x_stE ?_ ?_ | refine x_stN' ?_ ?_
                  ·
                    omega
                  refine r_nil hK103 ?_
                  refine hK91 .normal _ ?_
                  refine hK90 _ _ (Ghost.refl _) ?_
                  refine a_region rfl fun K104 hK104 => ?_
                  refine x_add ?_ ?_
                  ·
                    first
                      | exact ⟨by omega, by omega⟩
                      | (have q1 := hbd (([(l[i.toNat]!).a, (l[i.toNat]!).b] : List Int)[k.toNat]!).toNat (by omega); exact ⟨by omega, by omega⟩)
                      | (unfold mostOf; (repeat split) <;> exact ⟨by omega, by omega⟩)
                  refine x_move ?_
                  refine r_nil hK104 ?_
                  refine hK85 (_, _) _ _ _ (Ghost.refl _) ⟨rfl, rfl, rfl, rfl, rfl, rfl, rfl, rfl, rfl, rfl, trivial⟩ ⟨rfl, rfl, rfl, rfl, trivial⟩ ?_ ?_
                  ·
                    first | omega | (dsimp only; omega)
                  ·
                    try dsimp only
                    refine ⟨?_, ?_, ?_, ?_, ?_, ?_, ?_⟩
                    ·
                      first | omega | rfl | assumption | (simp; done) | (simp_all; done)
                    ·
                      first | (simp only [List.length_set]; omega) | omega
                    ·
                      intro j hj
                      have q := hbd j hj
                      first
                        | (rw [get_set! (by omega)]; split <;> (have q2 := hbd (([(l[i.toNat]!).a, (l[i.toNat]!).b] : List Int)[k.toNat]!).toNat (by omega); omega))
                        | omega
                    ·
                      intro e; omega
                    ·
                      intro e; obtain rfl : k = 0 := by omega
                      rw [if_pos (by omega), ← hp0 rfl]; rfl
                    ·
                      intro e; obtain rfl : k = 1 := by omega
                      exact ⟨o1, hp1 rfl, by rw [if_pos (by omega)]; rfl⟩
                    ·
                      exact ⟨fun e1 e2 => by omega, fun e1 e2 => by omega⟩
              · skip
                refine a_skip ?_
                refine hK91 .normal _ ?_
                refine hK90 _ _ (Ghost.refl _) ?_
                refine a_region rfl fun K105 hK105 => ?_
                refine x_add ?_ ?_
                ·
                  first
                    | exact ⟨by omega, by omega⟩
                    | (have q1 := hbd (([(l[i.toNat]!).a, (l[i.toNat]!).b] : List Int)[k.toNat]!).toNat (by omega); exact ⟨by omega, by omega⟩)
                    | (unfold mostOf; (repeat split) <;> exact ⟨by omega, by omega⟩)
                refine x_move ?_
                refine r_nil hK105 ?_
                refine hK85 (_, _) _ _ _ (Ghost.refl _) ⟨rfl, rfl, rfl, rfl, rfl, rfl, rfl, rfl, rfl, rfl, trivial⟩ ⟨rfl, rfl, rfl, rfl, trivial⟩ ?_ ?_
                ·
                  first | omega | (dsimp only; omega)
                ·
                  try dsimp only
                  refine ⟨?_, ?_, ?_, ?_, ?_, ?_, ?_⟩
                  ·
                    first | omega | rfl | assumption | (simp; done) | (simp_all; done)
                  ·
                    first | (simp only [List.length_set]; omega) | omega
                  ·
                    intro j hj
                    have q := hbd j hj
                    first
                      | (rw [get_set! (by omega)]; split <;> (have q2 := hbd (([(l[i.toNat]!).a, (l[i.toNat]!).b] : List Int)[k.toNat]!).toNat (by omega); omega))
                      | omega
                  ·
                    intro e; omega
                  ·
                    intro e; obtain rfl : k = 0 := by omega
                    rw [if_neg (by omega), ← hp0 rfl]
                  ·
                    intro e; obtain rfl : k = 1 := by omega
                    exact ⟨o1, hp1 rfl, by rw [if_neg (by omega)]⟩
                  ·
                    exact ⟨fun e1 e2 => by omega, fun e1 e2 => by omega⟩
            · skip
              refine a_exit ?_
              refine then_exit ?_
              refine then_exit ?_
              refine hK84 (.exit 2) _ (in_exit ?_)
              refine hK21 .normal _ ?_
              refine hK20 _ _ (Ghost.refl _) ?_
              refine a_region rfl fun K106 hK106 => ?_
              refine x_add ?_ ?_
              ·
                first
                  | exact ⟨by omega, by omega⟩
                  | (have q1 := hbd (([(l[i.toNat]!).a, (l[i.toNat]!).b] : List Int)[k.toNat]!).toNat (by omega); exact ⟨by omega, by omega⟩)
                  | (unfold mostOf; (repeat split) <;> exact ⟨by omega, by omega⟩)
              refine x_move ?_
              refine r_nil hK106 ?_
              have hk2 : k = 2 := by omega
              obtain ⟨o', e1, e2⟩ := hp2 hk2
              subst hk2
              have lo' : o'.length = l.length := by rw [e1]; split <;> (first | (simp only [List.length_set]; omega) | omega)
              have hall : ∀ j : Nat, j < l.length → o1[j]! = o[j]! + (if 0 < usesOf (l[i.toNat]!).op ∧ (l[i.toNat]!).a = j then 1 else 0) + (if 1 < usesOf (l[i.toNat]!).op ∧ (l[i.toNat]!).b = j then 1 else 0) := by
                intro j hj
                have h1 : o'[j]! = o[j]! + (if 0 < usesOf (l[i.toNat]!).op ∧ (l[i.toNat]!).a = j then 1 else 0) := by
                  rw [e1]; split
                  · rename_i hu; exact bump (c2.1 (by omega) hu).1 (by have := c2.1 (by omega) hu; omega) hu
                  · rename_i hu; rw [if_neg (fun q => hu q.1)]; omega
                have h2 : o1[j]! = o'[j]! + (if 1 < usesOf (l[i.toNat]!).op ∧ (l[i.toNat]!).b = j then 1 else 0) := by
                  rw [e2]; split
                  · rename_i hu; exact bump (c2.2 (by omega) hu).1 (by have := c2.2 (by omega) hu; omega) hu
                  · rename_i hu; rw [if_neg (fun q => hu q.1)]; omega
                rw [h2, h1]
              have c2 : (0 < usesOf (l[i.toNat]!).op → 0 ≤ (l[i.toNat]!).a ∧ (l[i.toNat]!).a < i) ∧ (1 < usesOf (l[i.toNat]!).op → 0 ≤ (l[i.toNat]!).b ∧ (l[i.toNat]!).b < i) := ⟨c2.1 (by omega), c2.2 (by omega)⟩
              refine hK15 (_, _) _ _ _ (Ghost.refl _) ⟨rfl, rfl, rfl, rfl, rfl, trivial⟩ ⟨rfl, rfl, trivial⟩ ?_ ?_
              ·
                first | omega | (dsimp only; omega)
              ·
                try dsimp only
                refine ⟨?_, ?_, ?_, ?_⟩
                ·
                  first | omega | rfl | assumption | (simp; done) | (simp_all; done)
                ·
                  first | omega | rfl | assumption | (simp; done) | (simp_all; done)
                ·
                  intro j hj; rw [takeI_succ (by omega) (by omega), usedBy_snoc, ← hc j hj]; exact hall j hj
                ·
                  intro j hj
                  by_cases e : j = i.toNat
                  · subst e; rw [show ((i.toNat : Nat) : Int) = i by omega]; exact ⟨c1.1, c1.2.1, c1.2.2.1, c1.2.2.2, c2.1, c2.2⟩
                  · exact hn j (by omega)
      · skip
        refine a_exit ?_
        refine then_exit ?_
        refine then_exit ?_
        refine hK14 (.exit 0) _ (in_exit ?_)
        refine hK11 _ _ (Ghost.refl _) ?_
        refine a_seq fun K107 hK107 => ?_
        refine a_seq fun K108 hK108 => ?_
        refine a_region rfl fun K109 hK109 => ?_
        refine x_move ?_
        refine x_len ?_
        refine x_move ?_
        refine r_nil hK109 ?_
        refine hK108 _ _ (Ghost.refl _) ?_
        refine a_block fun K110 hK110 => ?_
        refine a_loopM (X := Int) (fun i2 => ([(87, .v (.val (.int .i64 i2)))] : List (Nat × S))) (fun i2 => ([] : List (Nat × V))) (fun i2 => (0 ≤ i2 ∧ i2 ≤ l.length) ∧ (∀ j : Nat, j < i2.toNat → j < l.length - 1 → usedBy l j = 1)) (fun i2 => (l.length - i2).toNat) [(0, .v _), (3, .ref 17 []), (85, .ref 17 []), (86, .v _)] [(0, _), (17, _)] _ (Ghost.refl _) ⟨rfl, rfl, rfl, rfl, rfl, trivial⟩ ⟨rfl, rfl, trivial⟩ (fun i2 => rfl) ?_ ?_
        ·
          try dsimp only
          refine ⟨?_, ?_⟩
          ·
            first | omega | rfl | assumption | (simp; done) | (simp_all; done)
          ·
            intro j hj; simp at hj
        ·
          rintro i2 hI111 K111 hK111
          dsimp only [List.cons_append, List.nil_append] at hI111 ⊢
          obtain ⟨hi2, hk⟩ := hI111
          have hcl : ∀ j : Nat, j < l.length → o[j]! = usedBy l j := by
            intro j hj; have := hc j hj; rwa [takeI_all (by omega)] at this
          refine a_seq fun K112 hK112 => ?_
          refine a_region rfl fun K113 hK113 => ?_
          refine x_bin ?_
          refine r_nil hK113 ?_
          refine hK112 _ _ (Ghost.refl _) ?_
          refine a_seq fun K114 hK114 => ?_
          refine a_condS 88 rfl (by first | exact .beq | exact .bne | exact .dec | exact .not .beq | exact .not .bne | exact .not .dec | exact .not .id | exact .id) (fun h115 => ?_) (fun h115 => ?_)
          · skip
            refine a_skip ?_
            refine hK114 _ _ (Ghost.refl _) ?_
            refine a_seq fun K116 hK116 => ?_
            refine a_block fun K117 hK117 => ?_
            refine a_seq fun K118 hK118 => ?_
            refine a_region rfl fun K119 hK119 => ?_
            refine x_move ?_
            refine x_indexAddr ?_ ?_
            ·
              exact ⟨by omega, by omega⟩
            first | refine x_ldE ?_ ?_ | refine x_ldN ?_ ?_ | refine x_ldO ?_ ?_ | refine x_ldON ?_ ?_ (hf := fun x => (rfl : cN x = List.map V.val [_, _, _, _]))
            ·
              omega
            refine x_assign ?_
            refine x_assign ?_
            refine r_nil hK119 ?_
            refine hK118 _ _ (Ghost.refl _) ?_
            refine a_seq fun K120 hK120 => ?_
            refine a_region rfl fun K121 hK121 => ?_
            refine x_move ?_
            refine x_bin ?_
            refine x_move ?_
            refine x_split 94 rfl (by first | exact .beq | exact .bne | exact .dec | exact .not .beq | exact .not .bne | exact .not .dec | exact .not .id | exact .id) (fun h122 => ?_) (fun h122 => ?_)
            · skip
              refine x_move ?_
              refine x_move ?_
              refine x_len ?_
              refine x_sub ?_ ?_
              ·
                first
                  | exact ⟨by omega, by omega⟩
                  | (have q1 := hbd (([(l[i.toNat]!).a, (l[i.toNat]!).b] : List Int)[k.toNat]!).toNat (by omega); exact ⟨by omega, by omega⟩)
                  | (unfold mostOf; (repeat split) <;> exact ⟨by omega, by omega⟩)
              refine x_bin ?_
              refine x_pickT ?_
              refine r_nil hK121 ?_
              refine hK120 _ _ (ghost_has (ks := [(0, .v _), (3, .ref 17 []), (85, .ref 17 []), (86, .v _), (87, .v _), (100, .v _)]) (km := [(0, _), (17, _)]) ⟨rfl, rfl, rfl, rfl, rfl, rfl, trivial⟩ ⟨rfl, rfl, trivial⟩ rfl) ?_
              refine a_condS 100 rfl (by first | exact .beq | exact .bne | exact .dec | exact .not .beq | exact .not .bne | exact .not .dec | exact .not .id | exact .id) (fun h123 => ?_) (fun h123 => ?_)
              · skip
                refine a_seq fun K124 hK124 => ?_
                refine a_region rfl fun K125 hK125 => ?_
                refine x_assign ?_
                refine r_nil hK125 ?_
                refine hK124 _ _ (Ghost.refl _) ?_
                refine a_ret ?_
                refine hK117 .ret _ (in_ret ?_)
                refine then_ret ?_
                refine then_ret ?_
                refine hK110 .ret _ (in_ret ?_)
                refine then_ret ?_
                refine leave_val (.inr rfl) rfl rfl rfl (congrArg (fun z => V.val (.bool z)) ?_)
                first
                  | (symm; rw [decide_eq_false_iff_not]; intro hh;  have h1 := hh.1; have h2 := hh.2.1; omega)
                  | (symm; rw [decide_eq_false_iff_not]; intro hh;  have h3 := hh.2.2.1 i.toNat (by omega); unfold nodeOk at h3; omega)
                  | (symm; rw [decide_eq_false_iff_not]; intro hh;  have h3 := hh.2.2.2 i2.toNat (by omega); have h4 := hcl i2.toNat (by omega); exact h122 (by rw [h4]; exact h3))
                  | (symm; rw [decide_eq_false_iff_not]; intro hh;  have h3 := hh.2.2.1 i.toNat (by omega); unfold nodeOk at h3; rcases (show k = 0 ∨ k = 1 by omega) with rfl | rfl <;> omega)
                  | (have hn' : ∀ j : Nat, j < l.length → nodeOk j l[j]! := fun j hj => hn j (by omega)
                     have hz := fOk_last hn' (by omega)
                     have hz2 := hcl ((l.length : Int) - 1).toNat (by omega)
                     rw [show ((((l.length : Int) - 1).toNat : Nat) : Int) = (l.length : Int) - 1 by omega, hz] at hz2
                     rw [hz2]; symm; rw [show ((0 : Int) == 0) = true from rfl, decide_eq_true_iff]; exact ⟨by omega, by omega, hn', fun j hj => hk j (by omega) hj⟩)
                  | (symm; rw [decide_eq_true_iff]; exact ⟨by omega, by omega, fun j hj => hn j (by omega), fun j hj => hk j (by omega) hj⟩)
              · skip
                refine a_skip ?_
                refine hK117 .normal _ ?_
                refine hK116 _ _ (Ghost.refl _) ?_
                refine a_region rfl fun K126 hK126 => ?_
                refine x_add ?_ ?_
                ·
                  first
                    | exact ⟨by omega, by omega⟩
                    | (have q1 := hbd (([(l[i.toNat]!).a, (l[i.toNat]!).b] : List Int)[k.toNat]!).toNat (by omega); exact ⟨by omega, by omega⟩)
                    | (unfold mostOf; (repeat split) <;> exact ⟨by omega, by omega⟩)
                refine x_move ?_
                refine r_nil hK126 ?_
                refine hK111 _ _ _ _ (Ghost.refl _) ⟨rfl, rfl, rfl, rfl, rfl, trivial⟩ ⟨rfl, rfl, trivial⟩ ?_ ?_
                ·
                  first | omega | (dsimp only; omega)
                ·
                  try dsimp only
                  refine ⟨?_, ?_⟩
                  ·
                    first | omega | rfl | assumption | (simp; done) | (simp_all; done)
                  ·
                    intro j hj hj2
                    by_cases e : j = i2.toNat
                    · subst e; rw [← hcl _ (by omega)]; first | exact Decidable.not_not.1 h123 | omega
                    · exact hk j (by omega) hj2
            · skip
              refine x_shut ?_
              refine x_shut ?_
              refine x_shut ?_
              refine x_shut ?_
              refine x_shut ?_
              refine x_pickF ?_
              refine r_nil hK121 ?_
              refine hK120 _ _ (Ghost.refl _) ?_
              refine a_condF rfl ?_
              refine a_skip ?_
              refine hK117 .normal _ ?_
              refine hK116 _ _ (Ghost.refl _) ?_
              refine a_region rfl fun K127 hK127 => ?_
              refine x_add ?_ ?_
              ·
                first
                  | exact ⟨by omega, by omega⟩
                  | (have q1 := hbd (([(l[i.toNat]!).a, (l[i.toNat]!).b] : List Int)[k.toNat]!).toNat (by omega); exact ⟨by omega, by omega⟩)
                  | (unfold mostOf; (repeat split) <;> exact ⟨by omega, by omega⟩)
              refine x_move ?_
              refine r_nil hK127 ?_
              refine hK111 _ _ _ _ (Ghost.refl _) ⟨rfl, rfl, rfl, rfl, rfl, trivial⟩ ⟨rfl, rfl, trivial⟩ ?_ ?_
              ·
                first | omega | (dsimp only; omega)
              ·
                try dsimp only
                refine ⟨?_, ?_⟩
                ·
                  first | omega | rfl | assumption | (simp; done) | (simp_all; done)
                ·
                  intro j hj hj2
                  by_cases e : j = i2.toNat
                  · subst e; rw [← hcl _ (by omega)]; first | exact Decidable.not_not.1 h122 | omega
                  · exact hk j (by omega) hj2
          · skip
            refine a_exit ?_
            refine then_exit ?_
            refine then_exit ?_
            refine hK110 (.exit 4) _ (in_exit ?_)
            refine hK107 _ _ (Ghost.refl _) ?_
            refine a_seq fun K128 hK128 => ?_
            refine a_region rfl fun K129 hK129 => ?_
            refine x_move ?_
            refine x_move ?_
            refine x_len ?_
            refine x_sub ?_ ?_
            ·
              first
                | exact ⟨by omega, by omega⟩
                | (have q1 := hbd (([(l[i.toNat]!).a, (l[i.toNat]!).b] : List Int)[k.toNat]!).toNat (by omega); exact ⟨by omega, by omega⟩)
                | (unfold mostOf; (repeat split) <;> exact ⟨by omega, by omega⟩)
            refine x_indexAddr ?_ ?_
            ·
              exact ⟨by omega, by omega⟩
            first | refine x_ldE ?_ ?_ | refine x_ldN ?_ ?_ | refine x_ldO ?_ ?_ | refine x_ldON ?_ ?_ (hf := fun x => (rfl : cN x = List.map V.val [_, _, _, _]))
            ·
              omega
            refine x_bin ?_
            refine x_assign ?_
            refine r_nil hK129 ?_
            refine hK128 _ _ (Ghost.refl _) ?_
            refine a_ret ?_
            refine leave_val (.inr rfl) rfl rfl rfl (congrArg (fun z => V.val (.bool z)) ?_)
            first
              | (symm; rw [decide_eq_false_iff_not]; intro hh;  have h1 := hh.1; have h2 := hh.2.1; omega)
              | (symm; rw [decide_eq_false_iff_not]; intro hh;  have h3 := hh.2.2.1 i.toNat (by omega); unfold nodeOk at h3; omega)
              | (symm; rw [decide_eq_false_iff_not]; intro hh;  have h3 := hh.2.2.2 i2.toNat (by omega); have h4 := hcl i2.toNat (by omega); exact h19 (by rw [h4]; exact h3))
              | (symm; rw [decide_eq_false_iff_not]; intro hh;  have h3 := hh.2.2.1 i.toNat (by omega); unfold nodeOk at h3; rcases (show k = 0 ∨ k = 1 by omega) with rfl | rfl <;> omega)
              | (have hn' : ∀ j : Nat, j < l.length → nodeOk j l[j]! := fun j hj => hn j (by omega)
                 have hz := fOk_last hn' (by omega)
                 have hz2 := hcl ((l.length : Int) - 1).toNat (by omega)
                 rw [show ((((l.length : Int) - 1).toNat : Nat) : Int) = (l.length : Int) - 1 by omega, hz] at hz2
                 rw [hz2]; symm; rw [show ((0 : Int) == 0) = true from rfl, decide_eq_true_iff]; exact ⟨by omega, by omega, hn', fun j hj => hk j (by omega) hj⟩)
              | (symm; rw [decide_eq_true_iff]; exact ⟨by omega, by omega, fun j hj => hn j (by omega), fun j hj => hk j (by omega) hj⟩)
end Go.T
namespace Go.T
open Go Go.E Go.Proofs
set_option maxHeartbeats 8000000 in
theorem s_impl_treeOf_step {l : List Nd} {at_ : Int} (hok : fOk l) (h0 : 0 ≤ at_ ∧ at_ < l.length) (IH : ∀ at2 : Int, 0 ≤ at2 → at2 < at_ → Go.E.Spec Try.prog 67 [eL false 4 cN l, .val (.int .i64 at2)] (fun r _ => r = encT (treeI l at2.toNat))) : Go.E.Spec Try.prog 67 [eL false 4 cN l, .val (.int .i64 at_)] (fun r _ => r = encT (treeI l at_.toNat)) := by
  refine spec_of_awp (E := Ev) evOk Try.func67 (c := _) rfl (by decide) (by simp [Try.ntmps67]) ?_
  rw [Try.ntmps67, entry_mk]
  change awp Ev 2 51 _ _ (mkSt [(0, .v (eL false 4 cN l)), (1, .v (.val (.int .i64 at_)))] [(0, eL false 4 cN l), (1, .val (.int .i64 at_))])
  have hn := fOk_node hok h0.1 h0.2
  unfold nodeOk at hn
  have hl := hok.2.1
  refine a_seq fun K1 hK1 => ?_
  refine a_region rfl fun K2 hK2 => ?_
  refine x_assign ?_
  refine r_nil hK2 ?_
  refine hK1 _ _ (Ghost.refl _) ?_
  refine a_seq fun K3 hK3 => ?_
  refine a_drawnG (ms := [4095, 2047, 1023, 480, 224, 96, 0, 0, 15, 7, 3, 0, 0]) (by decide +kernel) (by decide +kernel) rfl (by decide +kernel) fun K4 hK4 => ?_
  refine x_move ?_
  refine x_move ?_
  refine x_indexAddr ?_ ?_
  ·
    exact ⟨by omega, by omega⟩
  refine x_fieldAddr ?_
  first | refine x_ldNF ?_ ?_ | refine x_load ?_
  ·
    omega
  refine x_move ?_
  refine x_move ?_
  refine x_indexAddr ?_ ?_
  ·
    exact ⟨by omega, by omega⟩
  refine x_fieldAddr ?_
  first | refine x_ldNF ?_ ?_ | refine x_load ?_
  ·
    omega
  refine x_any ?_
  first | refine x_boxVal ?_ | refine x_boxAgg' ?_ | refine x_boxT ?_
  refine x_assign ?_
  refine r_nil hK4 ?_
  refine hK3 _ _ (ghost_has (ks := [(0, .v _), (1, .v _), (5, .ref 17 [])]) (km := [(0, _), (1, _), (17, _)]) ⟨rfl, rfl, rfl, trivial⟩ ⟨rfl, rfl, rfl, trivial⟩ rfl) ?_
  refine a_seq fun K5 hK5 => ?_
  refine a_seq fun K6 hK6 => ?_
  refine a_region rfl fun K7 hK7 => ?_
  refine x_move ?_
  refine x_nilCheck ?_
  refine x_fieldAddr ?_
  refine x_load ?_
  refine x_call (s_impl_uses) ?_ (hl := by first | rfl | (repeat (first | exact lendL_nil | refine lendL_cons (by first | rfl | exact lend_ref rfl (ro_eL (by intro _; first | rfl | exact roL_cL (by intro _; rfl))) | exact lend_refp rfl (ro_eL (by intro _; first | rfl | exact roL_cL (by intro _; rfl))) | exact lend_agg (by repeat (first | exact lendL_nil | refine lendL_cons (by first | rfl | exact lend_ref rfl (ro_eL (by intro _; first | rfl | exact roL_cL (by intro _; rfl))) | exact lend_refp rfl (ro_eL (by intro _; first | rfl | exact roL_cL (by intro _; rfl)))) ?_))) ?_)))
  rintro _ _ rfl
  refine x_bin ?_
  refine r_nil hK7 ?_
  refine hK6 _ _ (Ghost.refl _) ?_
  refine a_condS 23 rfl (by first | exact .beq | exact .bne | exact .dec | exact .not .beq | exact .not .bne | exact .not .dec | exact .not .id | exact .id) (fun h8 => ?_) (fun h8 => ?_)
  · skip
    refine a_region rfl fun K9 hK9 => ?_
    refine x_move ?_
    refine x_move ?_
    refine x_move ?_
    refine x_move ?_
    refine x_indexAddr ?_ ?_
    ·
      exact ⟨by omega, by omega⟩
    refine x_fieldAddr ?_
    first | refine x_ldNF ?_ ?_ | refine x_load ?_
    ·
      omega
    refine x_call (IH _ ?_ ?_) ?_ (hl := by first | rfl | (repeat (first | exact lendL_nil | refine lendL_cons (by first | rfl | exact lend_ref rfl (ro_eL (by intro _; first | rfl | exact roL_cL (by intro _; rfl))) | exact lend_refp rfl (ro_eL (by intro _; first | rfl | exact roL_cL (by intro _; rfl))) | exact lend_agg (by repeat (first | exact lendL_nil | refine lendL_cons (by first | rfl | exact lend_ref rfl (ro_eL (by intro _; first | rfl | exact roL_cL (by intro _; rfl))) | exact lend_refp rfl (ro_eL (by intro _; first | rfl | exact roL_cL (by intro _; rfl)))) ?_))) ?_)))
    · omega
    · omega
    intro r outs hr
    rw [treeI_eq] at hr; subst hr
    refine x_nilCheck ?_
    refine x_fieldAddr ?_
    first | refine x_put0 ?_ | refine x_put1 ?_ | refine x_put2 ?_ | refine x_put3 ?_ | refine x_putAll ?_ | refine x_put0R ?_ | refine x_put1R ?_ | refine x_put2R ?_ | refine x_put3R ?_ | refine x_putM ?_ | refine x_put0T ?_ | refine x_put1T ?_ | refine x_putAllT ?_
    refine r_nil hK9 ?_
    refine hK5 _ _ (ghost_has (ks := [(0, .v _), (1, .v _), (5, .ref 17 [])]) (km := [(0, _), (1, _), (17, _)]) ⟨rfl, rfl, rfl, trivial⟩ ⟨rfl, rfl, rfl, trivial⟩ rfl) ?_
    refine a_seq fun K10 hK10 => ?_
    refine a_seq fun K11 hK11 => ?_
    refine a_region rfl fun K12 hK12 => ?_
    refine x_move ?_
    refine x_nilCheck ?_
    refine x_fieldAddr ?_
    refine x_load ?_
    refine x_call (s_impl_uses) ?_ (hl := by first | rfl | (repeat (first | exact lendL_nil | refine lendL_cons (by first | rfl | exact lend_ref rfl (ro_eL (by intro _; first | rfl | exact roL_cL (by intro _; rfl))) | exact lend_refp rfl (ro_eL (by intro _; first | rfl | exact roL_cL (by intro _; rfl))) | exact lend_agg (by repeat (first | exact lendL_nil | refine lendL_cons (by first | rfl | exact lend_ref rfl (ro_eL (by intro _; first | rfl | exact roL_cL (by intro _; rfl))) | exact lend_refp rfl (ro_eL (by intro _; first | rfl | exact roL_cL (by intro _; rfl)))) ?_))) ?_)))
    rintro _ _ rfl
    refine x_bin ?_
    refine r_nil hK12 ?_
    refine hK11 _ _ (Ghost.refl _) ?_
    refine a_condS 39 rfl (by first | exact .beq | exact .bne | exact .dec | exact .not .beq | exact .not .bne | exact .not .dec | exact .not .id | exact .id) (fun h13 => ?_) (fun h13 => ?_)
    · skip
      refine a_region rfl fun K14 hK14 => ?_
      refine x_move ?_
      refine x_move ?_
      refine x_move ?_
      refine x_move ?_
      refine x_indexAddr ?_ ?_
      ·
        exact ⟨by omega, by omega⟩
      refine x_fieldAddr ?_
      first | refine x_ldNF ?_ ?_ | refine x_load ?_
      ·
        omega
      refine x_call (IH _ ?_ ?_) ?_ (hl := by first | rfl | (repeat (first | exact lendL_nil | refine lendL_cons (by first | rfl | exact lend_ref rfl (ro_eL (by intro _; first | rfl | exact roL_cL (by intro _; rfl))) | exact lend_refp rfl (ro_eL (by intro _; first | rfl | exact roL_cL (by intro _; rfl))) | exact lend_agg (by repeat (first | exact lendL_nil | refine lendL_cons (by first | rfl | exact lend_ref rfl (ro_eL (by intro _; first | rfl | exact roL_cL (by intro _; rfl))) | exact lend_refp rfl (ro_eL (by intro _; first | rfl | exact roL_cL (by intro _; rfl)))) ?_))) ?_)))
      · omega
      · omega
      intro r outs hr
      rw [treeI_eq] at hr; subst hr
      refine x_nilCheck ?_
      refine x_fieldAddr ?_
      first | refine x_put0 ?_ | refine x_put1 ?_ | refine x_put2 ?_ | refine x_put3 ?_ | refine x_putAll ?_ | refine x_put0R ?_ | refine x_put1R ?_ | refine x_put2R ?_ | refine x_put3R ?_ | refine x_putM ?_ | refine x_put0T ?_ | refine x_put1T ?_ | refine x_putAllT ?_
      refine r_nil hK14 ?_
      refine hK10 _ _ (ghost_has (ks := [(5, .ref 17 [])]) (km := [(0, _), (1, _), (17, _)]) ⟨rfl, trivial⟩ ⟨rfl, rfl, rfl, trivial⟩ rfl) ?_
      refine a_seq fun K15 hK15 => ?_
      refine a_region rfl fun K16 hK16 => ?_
      refine x_move ?_
      refine x_assign ?_
      refine r_nil hK16 ?_
      refine hK15 _ _ (Ghost.refl _) ?_
      refine a_ret ?_
      refine leave_own (.inr rfl) rfl rfl rfl rfl ?_ rfl ?_
      · simp [V.free, V.freeL, free_encT]
      · show _ = _
        try rw [← treeI_eq l (l[at_.toNat]!).a.toNat]
        try rw [← treeI_eq l (l[at_.toNat]!).b.toNat]
        rw [treeI_eq l at_.toNat]
        first
          | (exfalso; omega)
          | (rw [if_pos ⟨by omega, by omega⟩, if_pos ⟨by omega, by omega⟩]; rfl)
          | (rw [if_pos ⟨by omega, by omega⟩, if_neg (fun q => by omega)]; rfl)
          | (rw [if_neg (fun q => by omega), if_neg (fun q => by omega)]; rfl)
    · skip
      refine a_skip ?_
      refine hK10 _ _ (Ghost.refl _) ?_
      refine a_seq fun K17 hK17 => ?_
      refine a_region rfl fun K18 hK18 => ?_
      refine x_move ?_
      refine x_assign ?_
      refine r_nil hK18 ?_
      refine hK17 _ _ (Ghost.refl _) ?_
      refine a_ret ?_
      refine leave_own (.inr rfl) rfl rfl rfl rfl ?_ rfl ?_
      · simp [V.free, V.freeL, free_encT]
      · show _ = _
        try rw [← treeI_eq l (l[at_.toNat]!).a.toNat]
        try rw [← treeI_eq l (l[at_.toNat]!).b.toNat]
        rw [treeI_eq l at_.toNat]
        first
          | (exfalso; omega)
          | (rw [if_pos ⟨by omega, by omega⟩, if_pos ⟨by omega, by omega⟩]; rfl)
          | (rw [if_pos ⟨by omega, by omega⟩, if_neg (fun q => by omega)]; rfl)
          | (rw [if_neg (fun q => by omega), if_neg (fun q => by omega)]; rfl)
  · skip
    refine a_skip ?_
    refine hK5 _ _ (Ghost.refl _) ?_
    refine a_seq fun K19 hK19 => ?_
    refine a_seq fun K20 hK20 => ?_
    refine a_region rfl fun K21 hK21 => ?_
    refine x_move ?_
    refine x_nilCheck ?_
    refine x_fieldAddr ?_
    refine x_load ?_
    refine x_call (s_impl_uses) ?_ (hl := by first | rfl | (repeat (first | exact lendL_nil | refine lendL_cons (by first | rfl | exact lend_ref rfl (ro_eL (by intro _; first | rfl | exact roL_cL (by intro _; rfl))) | exact lend_refp rfl (ro_eL (by intro _; first | rfl | exact roL_cL (by intro _; rfl))) | exact lend_agg (by repeat (first | exact lendL_nil | refine lendL_cons (by first | rfl | exact lend_ref rfl (ro_eL (by intro _; first | rfl | exact roL_cL (by intro _; rfl))) | exact lend_refp rfl (ro_eL (by intro _; first | rfl | exact roL_cL (by intro _; rfl)))) ?_))) ?_)))
    rintro _ _ rfl
    refine x_bin ?_
    refine r_nil hK21 ?_
    refine hK20 _ _ (ghost_has (ks := [(0, .v _), (1, .v _), (5, .ref 17 []), (39, .v _)]) (km := [(0, _), (1, _), (17, _)]) ⟨rfl, rfl, rfl, rfl, trivial⟩ ⟨rfl, rfl, rfl, trivial⟩ rfl) ?_
    refine a_condS 39 rfl (by first | exact .beq | exact .bne | exact .dec | exact .not .beq | exact .not .bne | exact .not .dec | exact .not .id | exact .id) (fun h22 => ?_) (fun h22 => ?_)
    · skip
      refine a_region rfl fun K23 hK23 => ?_
      refine x_move ?_
      refine x_move ?_
      refine x_move ?_
      refine x_move ?_
      refine x_indexAddr ?_ ?_
      ·
        exact ⟨by omega, by omega⟩
      refine x_fieldAddr ?_
      first | refine x_ldNF ?_ ?_ | refine x_load ?_
      ·
        omega
      refine x_call (IH _ ?_ ?_) ?_ (hl := by first | rfl | (repeat (first | exact lendL_nil | refine lendL_cons (by first | rfl | exact lend_ref rfl (ro_eL (by intro _; first | rfl | exact roL_cL (by intro _; rfl))) | exact lend_refp rfl (ro_eL (by intro _; first | rfl | exact roL_cL (by intro _; rfl))) | exact lend_agg (by repeat (first | exact lendL_nil | refine lendL_cons (by first | rfl | exact lend_ref rfl (ro_eL (by intro _; first | rfl | exact roL_cL (by intro _; rfl))) | exact lend_refp rfl (ro_eL (by intro _; first | rfl | exact roL_cL (by intro _; rfl)))) ?_))) ?_)))
      · omega
      · omega
      intro r outs hr
      rw [treeI_eq] at hr; subst hr
      refine x_nilCheck ?_
      refine x_fieldAddr ?_
      first | refine x_put0 ?_ | refine x_put1 ?_ | refine x_put2 ?_ | refine x_put3 ?_ | refine x_putAll ?_ | refine x_put0R ?_ | refine x_put1R ?_ | refine x_put2R ?_ | refine x_put3R ?_ | refine x_putM ?_ | refine x_put0T ?_ | refine x_put1T ?_ | refine x_putAllT ?_
      refine r_nil hK23 ?_
      refine hK19 _ _ (ghost_has (ks := [(5, .ref 17 [])]) (km := [(0, _), (1, _), (17, _)]) ⟨rfl, trivial⟩ ⟨rfl, rfl, rfl, trivial⟩ rfl) ?_
      refine a_seq fun K24 hK24 => ?_
      refine a_region rfl fun K25 hK25 => ?_
      refine x_move ?_
      refine x_assign ?_
      refine r_nil hK25 ?_
      refine hK24 _ _ (Ghost.refl _) ?_
      refine a_ret ?_
      refine leave_own (.inr rfl) rfl rfl rfl rfl ?_ rfl ?_
      · simp [V.free, V.freeL, free_encT]
      · show _ = _
        try rw [← treeI_eq l (l[at_.toNat]!).a.toNat]
        try rw [← treeI_eq l (l[at_.toNat]!).b.toNat]
        rw [treeI_eq l at_.toNat]
        first
          | (exfalso; omega)
          | (rw [if_pos ⟨by omega, by omega⟩, if_pos ⟨by omega, by omega⟩]; rfl)
          | (rw [if_pos ⟨by omega, by omega⟩, if_neg (fun q => by omega)]; rfl)
          | (rw [if_neg (fun q => by omega), if_neg (fun q => by omega)]; rfl)
    · skip
      refine a_skip ?_
      refine hK19 _ _ (Ghost.refl _) ?_
      refine a_seq fun K26 hK26 => ?_
      refine a_region rfl fun K27 hK27 => ?_
      refine x_move ?_
      refine x_assign ?_
      refine r_nil hK27 ?_
      refine hK26 _ _ (Ghost.refl _) ?_
      refine a_ret ?_
      refine leave_own (.inr rfl) rfl rfl rfl rfl ?_ rfl ?_
      · simp [V.free, V.freeL, free_encT]
      · show _ = _
        try rw [← treeI_eq l (l[at_.toNat]!).a.toNat]
        try rw [← treeI_eq l (l[at_.toNat]!).b.toNat]
        rw [treeI_eq l at_.toNat]
        first
          | (exfalso; omega)
          | (rw [if_pos ⟨by omega, by omega⟩, if_pos ⟨by omega, by omega⟩]; rfl)
          | (rw [if_pos ⟨by omega, by omega⟩, if_neg (fun q => by omega)]; rfl)
          | (rw [if_neg (fun q => by omega), if_neg (fun q => by omega)]; rfl)
theorem s_impl_treeOf {l : List Nd} {at_ : Int} (hok : fOk l) (h0 : 0 ≤ at_ ∧ at_ < l.length) : Go.E.Spec Try.prog 67 [eL false 4 cN l, .val (.int .i64 at_)] (fun r _ => r = encT (treeI l at_.toNat)) := by
  have key : ∀ n : Nat, ∀ a : Int, a.toNat = n → 0 ≤ a ∧ a < l.length → Go.E.Spec Try.prog 67 [eL false 4 cN l, .val (.int .i64 a)] (fun r _ => r = encT (treeI l a.toNat)) := by
    intro n
    induction n using Nat.strongRecOn with
    | _ n ih =>
      intro a ha h
      exact s_impl_treeOf_step hok h fun a2 q1 q2 => ih a2.toNat (by omega) a2 rfl ⟨q1, by omega⟩
  exact key _ at_ rfl h0
end Go.T
namespace Go.T
open Go Go.E Go.Proofs
set_option maxHeartbeats 8000000 in
theorem s_impl_wholeTree {l : List Nd} (hok : fOk l) : Go.E.Spec Try.prog 41 [eL false 4 cN l] (fun r _ => r = encT (treeI l (l.length - 1))) := by
  refine spec_of_awp (E := Ev) evOk Try.func41 (c := _) rfl (by decide) (by simp [Try.ntmps41]) ?_
  rw [Try.ntmps41, entry_mk]
  change awp Ev 1 8 _ _ (mkSt [(0, .v (eL false 4 cN l))] [(0, eL false 4 cN l)])
  have h1 := hok.1; have h2 := hok.2.1
  refine a_seq fun K1 hK1 => ?_
  refine a_region rfl fun K2 hK2 => ?_
  refine x_assign ?_
  refine r_nil hK2 ?_
  refine hK1 _ _ (Ghost.refl _) ?_
  refine a_seq fun K3 hK3 => ?_
  refine a_region rfl fun K4 hK4 => ?_
  refine x_move ?_
  refine x_move ?_
  refine x_len ?_
  refine x_sub ?_ ?_
  ·
    exact ⟨by omega, by omega⟩
  refine x_call (s_impl_treeOf ?_ ?_) ?_ (hl := by first | rfl | (repeat (first | exact lendL_nil | refine lendL_cons (by first | rfl | exact lend_ref rfl (ro_eL (by intro _; first | rfl | exact roL_cL (by intro _; rfl))) | exact lend_refp rfl (ro_eL (by intro _; first | rfl | exact roL_cL (by intro _; rfl))) | exact lend_agg (by repeat (first | exact lendL_nil | refine lendL_cons (by first | rfl | exact lend_ref rfl (ro_eL (by intro _; first | rfl | exact roL_cL (by intro _; rfl))) | exact lend_refp rfl (ro_eL (by intro _; first | rfl | exact roL_cL (by intro _; rfl)))) ?_))) ?_)))
  ·
    exact hok
  ·
    omega
  intro r outs hr; rw [show (((l.length : Int) - 1).toNat) = l.length - 1 by omega, treeI_eq] at hr; subst hr
  refine x_assign ?_
  refine r_nil hK4 ?_
  refine hK3 _ _ (Ghost.refl _) ?_
  refine a_ret ?_
  refine leave_own (.inr rfl) rfl rfl rfl rfl ?_ rfl ?_
  · simp [V.free, V.freeL, free_encT]
  · show _ = _
    rw [treeI_eq]
end Go.T
namespace Go.T
open Go Go.E Go.Proofs
set_option maxHeartbeats 8000000 in
theorem s_depth_nil   : Go.E.Spec Try.prog 42 [encR .nil] (fun r _ => r = .val (.int .i64 (0))) := by
  refine spec_of_awp (E := Ev) evOk Try.func42 (c := _) rfl (by decide) (by simp [Try.ntmps42]) ?_
  rw [Try.ntmps42, entry_mk]
  change awp Ev 1 25 _ _ (mkSt [(0, .v (.val (.pointer none)))] [(0, encR .nil)])
  refine a_seq fun K1 hK1 => ?_
  refine a_region rfl fun K2 hK2 => ?_
  refine x_assign ?_
  refine r_nil hK2 ?_
  refine hK1 _ _ (Ghost.refl _) ?_
  refine a_seq fun K3 hK3 => ?_
  refine a_seq fun K4 hK4 => ?_
  refine a_region rfl fun K5 hK5 => ?_
  refine x_move ?_
  refine x_bin ?_
  refine r_nil hK5 ?_
  refine hK4 _ _ (Ghost.refl _) ?_
  refine a_condS 5 rfl (by first | exact .beq | exact .bne | exact .dec | exact .not .beq | exact .not .bne | exact .not .dec | exact .not .id | exact .id) (fun h6 => ?_) (fun h6 => ?_)
  · skip
    refine a_seq fun K7 hK7 => ?_
    refine a_region rfl fun K8 hK8 => ?_
    refine x_assign ?_
    refine r_nil hK8 ?_
    refine hK7 _ _ (Ghost.refl _) ?_
    refine a_ret ?_
    refine then_ret ?_
    refine leave_val (.inr rfl) rfl rfl rfl (congrArg (fun z => V.val (.int .i64 z)) ?_)
    first | rfl | omega | assumption | (simp; done) | (simp_all; done)
  · skip
    exact absurd rfl h6
set_option maxHeartbeats 8000000 in
theorem s_depth_node {op n : Int} {a b : Tr} (hd : depthT (.node op n a b) ≤ 1000) (IHa : Go.E.Spec Try.prog 42 [encR a] (fun r _ => r = .val (.int .i64 (depthT a)))) (IHb : Go.E.Spec Try.prog 42 [encR b] (fun r _ => r = .val (.int .i64 (depthT b)))) : Go.E.Spec Try.prog 42 [encR (.node op n a b)] (fun r _ => r = .val (.int .i64 (depthT (.node op n a b)))) := by
  refine spec_of_awp (E := Ev) evOk Try.func42 (c := _) rfl (by decide) (by simp [Try.ntmps42]) ?_
  rw [Try.ntmps42, entry_mk]
  change awp Ev 1 25 _ _ (mkSt [(0, .v (encR (.node op n a b)))] [(0, encR (.node op n a b))])
  have hna := depthT_nonneg a; have hnb := depthT_nonneg b
  have hmm : depthT a ≤ 1000 ∧ depthT b ≤ 1000 := by simp only [depthT] at hd; split at hd <;> omega
  refine a_seq fun K1 hK1 => ?_
  refine a_region rfl fun K2 hK2 => ?_
  refine x_assign ?_
  refine r_nil hK2 ?_
  refine hK1 _ _ (Ghost.refl _) ?_
  refine a_seq fun K3 hK3 => ?_
  refine a_seq fun K4 hK4 => ?_
  refine a_region rfl fun K5 hK5 => ?_
  refine x_move ?_
  refine x_bin ?_
  refine r_nil hK5 ?_
  refine hK4 _ _ (Ghost.refl _) ?_
  refine a_condS 5 rfl (by first | exact .beq | exact .bne | exact .dec | exact .not .beq | exact .not .bne | exact .not .dec | exact .not .id | exact .id) (fun h6 => ?_) (fun h6 => ?_)
  · skip
    exact absurd (show false = true from h6) (by decide)
  · skip
    refine a_skip ?_
    refine hK3 _ _ (Ghost.refl _) ?_
    refine a_seq fun K7 hK7 => ?_
    refine a_drawAllG (n := 12) (ms := [2047, 1023, 511, 224, 96, 32, 0, 15, 7, 3, 1, 0]) rfl (by decide +kernel) (by decide +kernel) (by decide +kernel) fun K8 hK8 => ?_
    refine w_allG (l := [0, 5]) (by decide +kernel) ⟨?_, ?_, trivial⟩
    · skip
      refine x_move ?_
      refine w_end ?_
      refine w_allG (l := [1, 5]) (by decide +kernel) ⟨?_, ?_, trivial⟩
      · skip
        refine x_nilCheck ?_
        refine w_end ?_
        refine w_allG (l := [2, 5]) (by decide +kernel) ⟨?_, ?_, trivial⟩
        · skip
          refine x_fieldAddr ?_
          refine w_end ?_
          refine w_allG (l := [3, 5]) (by decide +kernel) ⟨?_, ?_, trivial⟩
          · skip
            refine x_load ?_
            refine w_end ?_
            refine w_allG (l := [4, 5]) (by decide +kernel) ⟨?_, ?_, trivial⟩
            · skip
              refine x_call IHa ?_ (hl := by first | rfl | (repeat (first | exact lendL_nil | refine lendL_cons (by first | rfl | exact lend_ref rfl (ro_eL (by intro _; first | rfl | exact roL_cL (by intro _; rfl))) | exact lend_refp rfl (ro_eL (by intro _; first | rfl | exact roL_cL (by intro _; rfl))) | exact lend_agg (by repeat (first | exact lendL_nil | refine lendL_cons (by first | rfl | exact lend_ref rfl (ro_eL (by intro _; first | rfl | exact roL_cL (by intro _; rfl))) | exact lend_refp rfl (ro_eL (by intro _; first | rfl | exact roL_cL (by intro _; rfl)))) ?_))) ?_)))
              rintro _ _ rfl
              refine w_end ?_
              refine w_allG (l := [5]) (by decide +kernel) ⟨?_, trivial⟩
              refine x_move ?_
              refine w_end ?_
              refine w_allG (l := [6]) (by decide +kernel) ⟨?_, trivial⟩
              refine x_nilCheck ?_
              refine w_end ?_
              refine w_allG (l := [7]) (by decide +kernel) ⟨?_, trivial⟩
              refine x_fieldAddr ?_
              refine w_end ?_
              refine w_allG (l := [8]) (by decide +kernel) ⟨?_, trivial⟩
              refine x_load ?_
              refine w_end ?_
              refine w_allG (l := [9]) (by decide +kernel) ⟨?_, trivial⟩
              refine x_call IHb ?_ (hl := by first | rfl | (repeat (first | exact lendL_nil | refine lendL_cons (by first | rfl | exact lend_ref rfl (ro_eL (by intro _; first | rfl | exact roL_cL (by intro _; rfl))) | exact lend_refp rfl (ro_eL (by intro _; first | rfl | exact roL_cL (by intro _; rfl))) | exact lend_agg (by repeat (first | exact lendL_nil | refine lendL_cons (by first | rfl | exact lend_ref rfl (ro_eL (by intro _; first | rfl | exact roL_cL (by intro _; rfl))) | exact lend_refp rfl (ro_eL (by intro _; first | rfl | exact roL_cL (by intro _; rfl)))) ?_))) ?_)))
              rintro _ _ rfl
              refine w_end ?_
              refine w_allG (l := [10]) (by decide +kernel) ⟨?_, trivial⟩
              refine x_minmax ?_
              refine w_end ?_
              refine w_allG (l := [11]) (by decide +kernel) ⟨?_, trivial⟩
              refine x_assign ?_
              refine w_end ?_
              refine w_doneG hK8 ?_
              refine hK7 _ _ (ghost_has (ks := [(0, _), (3, .v _)]) (km := [(0, _)]) ⟨rfl, rfl, trivial⟩ ⟨rfl, trivial⟩ rfl) ?_
              refine a_seq fun K9 hK9 => ?_
              refine a_seq fun K10 hK10 => ?_
              refine a_region rfl fun K11 hK11 => ?_
              refine x_move ?_
              refine x_nilCheck ?_
              refine x_fieldAddr ?_
              refine x_load ?_
              refine x_call (s_impl_within) ?_ (hl := by first | rfl | (repeat (first | exact lendL_nil | refine lendL_cons (by first | rfl | exact lend_ref rfl (ro_eL (by intro _; first | rfl | exact roL_cL (by intro _; rfl))) | exact lend_refp rfl (ro_eL (by intro _; first | rfl | exact roL_cL (by intro _; rfl))) | exact lend_agg (by repeat (first | exact lendL_nil | refine lendL_cons (by first | rfl | exact lend_ref rfl (ro_eL (by intro _; first | rfl | exact roL_cL (by intro _; rfl))) | exact lend_refp rfl (ro_eL (by intro _; first | rfl | exact roL_cL (by intro _; rfl)))) ?_))) ?_)))
              rintro _ _ rfl
              refine r_nil hK11 ?_
              refine hK10 _ _ (Ghost.refl _) ?_
              refine a_condS 21 rfl (by first | exact .beq | exact .bne | exact .dec | exact .not .beq | exact .not .bne | exact .not .dec | exact .not .id | exact .id) (fun h12 => ?_) (fun h12 => ?_)
              · skip
                refine a_region rfl fun K13 hK13 => ?_
                refine x_move ?_
                refine x_add ?_ ?_
                ·
                  first
                    | exact ⟨by omega, by omega⟩
                    | (split <;> exact ⟨by omega, by omega⟩)
                refine x_assign ?_
                refine r_nil hK13 ?_
                refine hK9 _ _ (Ghost.refl _) ?_
                refine a_seq fun K14 hK14 => ?_
                refine a_region rfl fun K15 hK15 => ?_
                refine x_move ?_
                refine x_assign ?_
                refine r_nil hK15 ?_
                refine hK14 _ _ (Ghost.refl _) ?_
                refine a_ret ?_
                refine leave_val (.inr rfl) rfl rfl rfl (congrArg (fun z => V.val (.int .i64 z)) ?_)
                simp only [depthT, Int.max_def]; (repeat split) <;> omega
              · skip
                refine a_skip ?_
                refine hK9 _ _ (Ghost.refl _) ?_
                refine a_seq fun K16 hK16 => ?_
                refine a_region rfl fun K17 hK17 => ?_
                refine x_move ?_
                refine x_assign ?_
                refine r_nil hK17 ?_
                refine hK16 _ _ (Ghost.refl _) ?_
                refine a_ret ?_
                refine leave_val (.inr rfl) rfl rfl rfl (congrArg (fun z => V.val (.int .i64 z)) ?_)
                simp only [depthT, Int.max_def]; (repeat split) <;> omega
            · skip
              refine x_move ?_
              refine w_end ?_
              refine w_allG (l := [4, 6]) (by decide +kernel) ⟨?_, ?_, trivial⟩
              · skip
                refine x_call IHa ?_ (hl := by first | rfl | (repeat (first | exact lendL_nil | refine lendL_cons (by first | rfl | exact lend_ref rfl (ro_eL (by intro _; first | rfl | exact roL_cL (by intro _; rfl))) | exact lend_refp rfl (ro_eL (by intro _; first | rfl | exact roL_cL (by intro _; rfl))) | exact lend_agg (by repeat (first | exact lendL_nil | refine lendL_cons (by first | rfl | exact lend_ref rfl (ro_eL (by intro _; first | rfl | exact roL_cL (by intro _; rfl))) | exact lend_refp rfl (ro_eL (by intro _; first | rfl | exact roL_cL (by intro _; rfl)))) ?_))) ?_)))
                rintro _ _ rfl
                refine w_end ?_
                refine w_allG (l := [6]) (by decide +kernel) ⟨?_, trivial⟩
                refine x_nilCheck ?_
                refine w_end ?_
                refine w_allG (l := [7]) (by decide +kernel) ⟨?_, trivial⟩
                refine x_fieldAddr ?_
                refine w_end ?_
                refine w_allG (l := [8]) (by decide +kernel) ⟨?_, trivial⟩
                refine x_load ?_
                refine w_end ?_
                refine w_allG (l := [9]) (by decide +kernel) ⟨?_, trivial⟩
                refine x_call IHb ?_ (hl := by first | rfl | (repeat (first | exact lendL_nil | refine lendL_cons (by first | rfl | exact lend_ref rfl (ro_eL (by intro _; first | rfl | exact roL_cL (by intro _; rfl))) | exact lend_refp rfl (ro_eL (by intro _; first | rfl | exact roL_cL (by intro _; rfl))) | exact lend_agg (by repeat (first | exact lendL_nil | refine lendL_cons (by first | rfl | exact lend_ref rfl (ro_eL (by intro _; first | rfl | exact roL_cL (by intro _; rfl))) | exact lend_refp rfl (ro_eL (by intro _; first | rfl | exact roL_cL (by intro _; rfl)))) ?_))) ?_)))
                rintro _ _ rfl
                refine w_end ?_
                refine w_allG (l := [10]) (by decide +kernel) ⟨?_, trivial⟩
                refine x_minmax ?_
                refine w_end ?_
                refine w_allG (l := [11]) (by decide +kernel) ⟨?_, trivial⟩
                refine x_assign ?_
                refine w_end ?_
                refine w_doneG hK8 ?_
                refine hK7 _ _ (ghost_has (ks := [(0, _), (3, .v _)]) (km := [(0, _)]) ⟨rfl, rfl, trivial⟩ ⟨rfl, trivial⟩ rfl) ?_
                refine a_seq fun K18 hK18 => ?_
                refine a_seq fun K19 hK19 => ?_
                refine a_region rfl fun K20 hK20 => ?_
                refine x_move ?_
                refine x_nilCheck ?_
                refine x_fieldAddr ?_
                refine x_load ?_
                refine x_call (s_impl_within) ?_ (hl := by first | rfl | (repeat (first | exact lendL_nil | refine lendL_cons (by first | rfl | exact lend_ref rfl (ro_eL (by intro _; first | rfl | exact roL_cL (by intro _; rfl))) | exact lend_refp rfl (ro_eL (by intro _; first | rfl | exact roL_cL (by intro _; rfl))) | exact lend_agg (by repeat (first | exact lendL_nil | refine lendL_cons (by first | rfl | exact lend_ref rfl (ro_eL (by intro _; first | rfl | exact roL_cL (by intro _; rfl))) | exact lend_refp rfl (ro_eL (by intro _; first | rfl | exact roL_cL (by intro _; rfl)))) ?_))) ?_)))
                rintro _ _ rfl
                refine r_nil hK20 ?_
                refine hK19 _ _ (Ghost.refl _) ?_
                refine a_condS 21 rfl (by first | exact .beq | exact .bne | exact .dec | exact .not .beq | exact .not .bne | exact .not .dec | exact .not .id | exact .id) (fun h21 => ?_) (fun h21 => ?_)
                · skip
                  refine a_region rfl fun K22 hK22 => ?_
                  refine x_move ?_
                  refine x_add ?_ ?_
                  ·
                    first
                      | exact ⟨by omega, by omega⟩
                      | (split <;> exact ⟨by omega, by omega⟩)
                  refine x_assign ?_
                  refine r_nil hK22 ?_
                  refine hK18 _ _ (Ghost.refl _) ?_
                  refine a_seq fun K23 hK23 => ?_
                  refine a_region rfl fun K24 hK24 => ?_
                  refine x_move ?_
                  refine x_assign ?_
                  refine r_nil hK24 ?_
                  refine hK23 _ _ (Ghost.refl _) ?_
                  refine a_ret ?_
                  refine leave_val (.inr rfl) rfl rfl rfl (congrArg (fun z => V.val (.int .i64 z)) ?_)
                  simp only [depthT, Int.max_def]; (repeat split) <;> omega
                · skip
                  refine a_skip ?_
                  refine hK18 _ _ (Ghost.refl _) ?_
                  refine a_seq fun K25 hK25 => ?_
                  refine a_region rfl fun K26 hK26 => ?_
                  refine x_move ?_
                  refine x_assign ?_
                  refine r_nil hK26 ?_
                  refine hK25 _ _ (Ghost.refl _) ?_
                  refine a_ret ?_
                  refine leave_val (.inr rfl) rfl rfl rfl (congrArg (fun z => V.val (.int .i64 z)) ?_)
                  simp only [depthT, Int.max_def]; (repeat split) <;> omega
              · skip
                refine x_nilCheck ?_
                refine w_end ?_
                refine w_allG (l := [4, 7]) (by decide +kernel) ⟨?_, ?_, trivial⟩
                · skip
                  refine x_call IHa ?_ (hl := by first | rfl | (repeat (first | exact lendL_nil | refine lendL_cons (by first | rfl | exact lend_ref rfl (ro_eL (by intro _; first | rfl | exact roL_cL (by intro _; rfl))) | exact lend_refp rfl (ro_eL (by intro _; first | rfl | exact roL_cL (by intro _; rfl))) | exact lend_agg (by repeat (first | exact lendL_nil | refine lendL_cons (by first | rfl | exact lend_ref rfl (ro_eL (by intro _; first | rfl | exact roL_cL (by intro _; rfl))) | exact lend_refp rfl (ro_eL (by intro _; first | rfl | exact roL_cL (by intro _; rfl)))) ?_))) ?_)))
                  rintro _ _ rfl
                  refine w_end ?_
                  refine w_allG (l := [7]) (by decide +kernel) ⟨?_, trivial⟩
                  refine x_fieldAddr ?_
                  refine w_end ?_
                  refine w_allG (l := [8]) (by decide +kernel) ⟨?_, trivial⟩
                  refine x_load ?_
                  refine w_end ?_
                  refine w_allG (l := [9]) (by decide +kernel) ⟨?_, trivial⟩
                  refine x_call IHb ?_ (hl := by first | rfl | (repeat (first | exact lendL_nil | refine lendL_cons (by first | rfl | exact lend_ref rfl (ro_eL (by intro _; first | rfl | exact roL_cL (by intro _; rfl))) | exact lend_refp rfl (ro_eL (by intro _; first | rfl | exact roL_cL (by intro _; rfl))) | exact lend_agg (by repeat (first | exact lendL_nil | refine lendL_cons (by first | rfl | exact lend_ref rfl (ro_eL (by intro _; first | rfl | exact roL_cL (by intro _; rfl))) | exact lend_refp rfl (ro_eL (by intro _; first | rfl | exact roL_cL (by intro _; rfl)))) ?_))) ?_)))
                  rintro _ _ rfl
                  refine w_end ?_
                  refine w_allG (l := [10]) (by decide +kernel) ⟨?_, trivial⟩
                  refine x_minmax ?_
                  refine w_end ?_
                  refine w_allG (l := [11]) (by decide +kernel) ⟨?_, trivial⟩
                  refine x_assign ?_
                  refine w_end ?_
                  refine w_doneG hK8 ?_
                  refine hK7 _ _ (ghost_has (ks := [(0, _), (3, .v _)]) (km := [(0, _)]) ⟨rfl, rfl, trivial⟩ ⟨rfl, trivial⟩ rfl) ?_
                  refine a_seq fun K27 hK27 => ?_
                  refine a_seq fun K28 hK28 => ?_
                  refine a_region rfl fun K29 hK29 => ?_
                  refine x_move ?_
                  refine x_nilCheck ?_
                  refine x_fieldAddr ?_
                  refine x_load ?_
                  refine x_call (s_impl_within) ?_ (hl := by first | rfl | (repeat (first | exact lendL_nil | refine lendL_cons (by first | rfl | exact lend_ref rfl (ro_eL (by intro _; first | rfl | exact roL_cL (by intro _; rfl))) | exact lend_refp rfl (ro_eL (by intro _; first | rfl | exact roL_cL (by intro _; rfl))) | exact lend_agg (by repeat (first | exact lendL_nil | refine lendL_cons (by first | rfl | exact lend_ref rfl (ro_eL (by intro _; first | rfl | exact roL_cL (by intro _; rfl))) | exact lend_refp rfl (ro_eL (by intro _; first | rfl | exact roL_cL (by intro _; rfl)))) ?_))) ?_)))
                  rintro _ _ rfl
                  refine r_nil hK29 ?_
                  refine hK28 _ _ (Ghost.refl _) ?_
                  refine a_condS 21 rfl (by first | exact .beq | exact .bne | exact .dec | exact .not .beq | exact .not .bne | exact .not .dec | exact .not .id | exact .id) (fun h30 => ?_) (fun h30 => ?_)
                  · skip
                    refine a_region rfl fun K31 hK31 => ?_
                    refine x_move ?_
                    refine x_add ?_ ?_
                    ·
                      first
                        | exact ⟨by omega, by omega⟩
                        | (split <;> exact ⟨by omega, by omega⟩)
                    refine x_assign ?_
                    refine r_nil hK31 ?_
                    refine hK27 _ _ (Ghost.refl _) ?_
                    refine a_seq fun K32 hK32 => ?_
                    refine a_region rfl fun K33 hK33 => ?_
                    refine x_move ?_
                    refine x_assign ?_
                    refine r_nil hK33 ?_
                    refine hK32 _ _ (Ghost.refl _) ?_
                    refine a_ret ?_
                    refine leave_val (.inr rfl) rfl rfl rfl (congrArg (fun z => V.val (.int .i64 z)) ?_)
                    simp only [depthT, Int.max_def]; (repeat split) <;> omega
                  · skip
                    refine a_skip ?_
                    refine hK27 _ _ (Ghost.refl _) ?_
                    refine a_seq fun K34 hK34 => ?_
                    refine a_region rfl fun K35 hK35 => ?_
                    refine x_move ?_
                    refine x_assign ?_
                    refine r_nil hK35 ?_
                    refine hK34 _ _ (Ghost.refl _) ?_
                    refine a_ret ?_
                    refine leave_val (.inr rfl) rfl rfl rfl (congrArg (fun z => V.val (.int .i64 z)) ?_)
                    simp only [depthT, Int.max_def]; (repeat split) <;> omega
                · skip
                  refine x_fieldAddr ?_
                  refine w_end ?_
                  refine w_allG (l := [4, 8]) (by decide +kernel) ⟨?_, ?_, trivial⟩
                  · skip
                    refine x_call IHa ?_ (hl := by first | rfl | (repeat (first | exact lendL_nil | refine lendL_cons (by first | rfl | exact lend_ref rfl (ro_eL (by intro _; first | rfl | exact roL_cL (by intro _; rfl))) | exact lend_refp rfl (ro_eL (by intro _; first | rfl | exact roL_cL (by intro _; rfl))) | exact lend_agg (by repeat (first | exact lendL_nil | refine lendL_cons (by first | rfl | exact lend_ref rfl (ro_eL (by intro _; first | rfl | exact roL_cL (by intro _; rfl))) | exact lend_refp rfl (ro_eL (by intro _; first | rfl | exact roL_cL (by intro _; rfl)))) ?_))) ?_)))
                    rintro _ _ rfl
                    refine w_end ?_
                    refine w_allG (l := [8]) (by decide +kernel) ⟨?_, trivial⟩
                    refine x_load ?_
                    refine w_end ?_
                    refine w_allG (l := [9]) (by decide +kernel) ⟨?_, trivial⟩
                    refine x_call IHb ?_ (hl := by first | rfl | (repeat (first | exact lendL_nil | refine lendL_cons (by first | rfl | exact lend_ref rfl (ro_eL (by intro _; first | rfl | exact roL_cL (by intro _; rfl))) | exact lend_refp rfl (ro_eL (by intro _; first | rfl | exact roL_cL (by intro _; rfl))) | exact lend_agg (by repeat (first | exact lendL_nil | refine lendL_cons (by first | rfl | exact lend_ref rfl (ro_eL (by intro _; first | rfl | exact roL_cL (by intro _; rfl))) | exact lend_refp rfl (ro_eL (by intro _; first | rfl | exact roL_cL (by intro _; rfl)))) ?_))) ?_)))
                    rintro _ _ rfl
                    refine w_end ?_
                    refine w_allG (l := [10]) (by decide +kernel) ⟨?_, trivial⟩
                    refine x_minmax ?_
                    refine w_end ?_
                    refine w_allG (l := [11]) (by decide +kernel) ⟨?_, trivial⟩
                    refine x_assign ?_
                    refine w_end ?_
                    refine w_doneG hK8 ?_
                    refine hK7 _ _ (ghost_has (ks := [(0, _), (3, .v _)]) (km := [(0, _)]) ⟨rfl, rfl, trivial⟩ ⟨rfl, trivial⟩ rfl) ?_
                    refine a_seq fun K36 hK36 => ?_
                    refine a_seq fun K37 hK37 => ?_
                    refine a_region rfl fun K38 hK38 => ?_
                    refine x_move ?_
                    refine x_nilCheck ?_
                    refine x_fieldAddr ?_
                    refine x_load ?_
                    refine x_call (s_impl_within) ?_ (hl := by first | rfl | (repeat (first | exact lendL_nil | refine lendL_cons (by first | rfl | exact lend_ref rfl (ro_eL (by intro _; first | rfl | exact roL_cL (by intro _; rfl))) | exact lend_refp rfl (ro_eL (by intro _; first | rfl | exact roL_cL (by intro _; rfl))) | exact lend_agg (by repeat (first | exact lendL_nil | refine lendL_cons (by first | rfl | exact lend_ref rfl (ro_eL (by intro _; first | rfl | exact roL_cL (by intro _; rfl))) | exact lend_refp rfl (ro_eL (by intro _; first | rfl | exact roL_cL (by intro _; rfl)))) ?_))) ?_)))
                    rintro _ _ rfl
                    refine r_nil hK38 ?_
                    refine hK37 _ _ (Ghost.refl _) ?_
                    refine a_condS 21 rfl (by first | exact .beq | exact .bne | exact .dec | exact .not .beq | exact .not .bne | exact .not .dec | exact .not .id | exact .id) (fun h39 => ?_) (fun h39 => ?_)
                    · skip
                      refine a_region rfl fun K40 hK40 => ?_
                      refine x_move ?_
                      refine x_add ?_ ?_
                      ·
                        first
                          | exact ⟨by omega, by omega⟩
                          | (split <;> exact ⟨by omega, by omega⟩)
                      refine x_assign ?_
                      refine r_nil hK40 ?_
                      refine hK36 _ _ (Ghost.refl _) ?_
                      refine a_seq fun K41 hK41 => ?_
                      refine a_region rfl fun K42 hK42 => ?_
                      refine x_move ?_
                      refine x_assign ?_
                      refine r_nil hK42 ?_
                      refine hK41 _ _ (Ghost.refl _) ?_
                      refine a_ret ?_
                      refine leave_val (.inr rfl) rfl rfl rfl (congrArg (fun z => V.val (.int .i64 z)) ?_)
                      simp only [depthT, Int.max_def]; (repeat split) <;> omega
                    · skip
                      refine a_skip ?_
                      refine hK36 _ _ (Ghost.refl _) ?_
                      refine a_seq fun K43 hK43 => ?_
                      refine a_region rfl fun K44 hK44 => ?_
                      refine x_move ?_
                      refine x_assign ?_
                      refine r_nil hK44 ?_
                      refine hK43 _ _ (Ghost.refl _) ?_
                      refine a_ret ?_
                      refine leave_val (.inr rfl) rfl rfl rfl (congrArg (fun z => V.val (.int .i64 z)) ?_)
                      simp only [depthT, Int.max_def]; (repeat split) <;> omega
                  · skip
                    refine x_load ?_
                    refine w_end ?_
                    refine w_allG (l := [4]) (by decide +kernel) ⟨?_, trivial⟩
                    refine x_call IHa ?_ (hl := by first | rfl | (repeat (first | exact lendL_nil | refine lendL_cons (by first | rfl | exact lend_ref rfl (ro_eL (by intro _; first | rfl | exact roL_cL (by intro _; rfl))) | exact lend_refp rfl (ro_eL (by intro _; first | rfl | exact roL_cL (by intro _; rfl))) | exact lend_agg (by repeat (first | exact lendL_nil | refine lendL_cons (by first | rfl | exact lend_ref rfl (ro_eL (by intro _; first | rfl | exact roL_cL (by intro _; rfl))) | exact lend_refp rfl (ro_eL (by intro _; first | rfl | exact roL_cL (by intro _; rfl)))) ?_))) ?_)))
                    rintro _ _ rfl
                    refine w_end ?_
                    refine w_allG (l := [9]) (by decide +kernel) ⟨?_, trivial⟩
                    refine x_call IHb ?_ (hl := by first | rfl | (repeat (first | exact lendL_nil | refine lendL_cons (by first | rfl | exact lend_ref rfl (ro_eL (by intro _; first | rfl | exact roL_cL (by intro _; rfl))) | exact lend_refp rfl (ro_eL (by intro _; first | rfl | exact roL_cL (by intro _; rfl))) | exact lend_agg (by repeat (first | exact lendL_nil | refine lendL_cons (by first | rfl | exact lend_ref rfl (ro_eL (by intro _; first | rfl | exact roL_cL (by intro _; rfl))) | exact lend_refp rfl (ro_eL (by intro _; first | rfl | exact roL_cL (by intro _; rfl)))) ?_))) ?_)))
                    rintro _ _ rfl
                    refine w_end ?_
                    refine w_allG (l := [10]) (by decide +kernel) ⟨?_, trivial⟩
                    refine x_minmax ?_
                    refine w_end ?_
                    refine w_allG (l := [11]) (by decide +kernel) ⟨?_, trivial⟩
                    refine x_assign ?_
                    refine w_end ?_
                    refine w_doneG hK8 ?_
                    refine hK7 _ _ (ghost_has (ks := [(0, _), (3, .v _)]) (km := [(0, _)]) ⟨rfl, rfl, trivial⟩ ⟨rfl, trivial⟩ rfl) ?_
                    refine a_seq fun K45 hK45 => ?_
                    refine a_seq fun K46 hK46 => ?_
                    refine a_region rfl fun K47 hK47 => ?_
                    refine x_move ?_
                    refine x_nilCheck ?_
                    refine x_fieldAddr ?_
                    refine x_load ?_
                    refine x_call (s_impl_within) ?_ (hl := by first | rfl | (repeat (first | exact lendL_nil | refine lendL_cons (by first | rfl | exact lend_ref rfl (ro_eL (by intro _; first | rfl | exact roL_cL (by intro _; rfl))) | exact lend_refp rfl (ro_eL (by intro _; first | rfl | exact roL_cL (by intro _; rfl))) | exact lend_agg (by repeat (first | exact lendL_nil | refine lendL_cons (by first | rfl | exact lend_ref rfl (ro_eL (by intro _; first | rfl | exact roL_cL (by intro _; rfl))) | exact lend_refp rfl (ro_eL (by intro _; first | rfl | exact roL_cL (by intro _; rfl)))) ?_))) ?_)))
                    rintro _ _ rfl
                    refine r_nil hK47 ?_
                    refine hK46 _ _ (Ghost.refl _) ?_
                    refine a_condS 21 rfl (by first | exact .beq | exact .bne | exact .dec | exact .not .beq | exact .not .bne | exact .not .dec | exact .not .id | exact .id) (fun h48 => ?_) (fun h48 => ?_)
                    · skip
                      refine a_region rfl fun K49 hK49 => ?_
                      refine x_move ?_
                      refine x_add ?_ ?_
                      ·
                        first
                          | exact ⟨by omega, by omega⟩
                          | (split <;> exact ⟨by omega, by omega⟩)
                      refine x_assign ?_
                      refine r_nil hK49 ?_
                      refine hK45 _ _ (Ghost.refl _) ?_
                      refine a_seq fun K50 hK50 => ?_
                      refine a_region rfl fun K51 hK51 => ?_
                      refine x_move ?_
                      refine x_assign ?_
                      refine r_nil hK51 ?_
                      refine hK50 _ _ (Ghost.refl _) ?_
                      refine a_ret ?_
                      refine leave_val (.inr rfl) rfl rfl rfl (congrArg (fun z => V.val (.int .i64 z)) ?_)
                      simp only [depthT, Int.max_def]; (repeat split) <;> omega
                    · skip
                      refine a_skip ?_
                      refine hK45 _ _ (Ghost.refl _) ?_
                      refine a_seq fun K52 hK52 => ?_
                      refine a_region rfl fun K53 hK53 => ?_
                      refine x_move ?_
                      refine x_assign ?_
                      refine r_nil hK53 ?_
                      refine hK52 _ _ (Ghost.refl _) ?_
                      refine a_ret ?_
                      refine leave_val (.inr rfl) rfl rfl rfl (congrArg (fun z => V.val (.int .i64 z)) ?_)
                      simp only [depthT, Int.max_def]; (repeat split) <;> omega
          · skip
            refine x_move ?_
            refine w_end ?_
            refine w_allG (l := [6]) (by decide +kernel) ⟨?_, trivial⟩
            refine x_nilCheck ?_
            refine w_end ?_
            refine w_allG (l := [7]) (by decide +kernel) ⟨?_, trivial⟩
            refine x_fieldAddr ?_
            refine w_end ?_
            refine w_allG (l := [8]) (by decide +kernel) ⟨?_, trivial⟩
            refine x_load ?_
            refine w_end ?_
            exact w_allG (l := []) (by decide +kernel) trivial
        · skip
          refine x_move ?_
          refine w_end ?_
          refine w_allG (l := [6]) (by decide +kernel) ⟨?_, trivial⟩
          refine x_nilCheck ?_
          refine w_end ?_
          refine w_allG (l := [7]) (by decide +kernel) ⟨?_, trivial⟩
          refine x_fieldAddr ?_
          refine w_end ?_
          refine w_allG (l := [8]) (by decide +kernel) ⟨?_, trivial⟩
          refine x_load ?_
          refine w_end ?_
          exact w_allG (l := []) (by decide +kernel) trivial
      · skip
        refine x_move ?_
        refine w_end ?_
        refine w_allG (l := [6]) (by decide +kernel) ⟨?_, trivial⟩
        refine x_nilCheck ?_
        refine w_end ?_
        refine w_allG (l := [7]) (by decide +kernel) ⟨?_, trivial⟩
        refine x_fieldAddr ?_
        refine w_end ?_
        refine w_allG (l := [8]) (by decide +kernel) ⟨?_, trivial⟩
        refine x_load ?_
        refine w_end ?_
        exact w_allG (l := []) (by decide +kernel) trivial
    · skip
      refine x_move ?_
      refine w_end ?_
      refine w_allG (l := [6]) (by decide +kernel) ⟨?_, trivial⟩
      refine x_nilCheck ?_
      refine w_end ?_
      refine w_allG (l := [7]) (by decide +kernel) ⟨?_, trivial⟩
      refine x_fieldAddr ?_
      refine w_end ?_
      refine w_allG (l := [8]) (by decide +kernel) ⟨?_, trivial⟩
      refine x_load ?_
      refine w_end ?_
      exact w_allG (l := []) (by decide +kernel) trivial
theorem s_impl_tree_depth : ∀ (t : Tr), depthT t ≤ 1000 → Go.E.Spec Try.prog 42 [encR t] (fun r _ => r = .val (.int .i64 (depthT t)))
  | .nil, _ => s_depth_nil
  | .node op n a b, hd => by
    have hna := depthT_nonneg a
    have hnb := depthT_nonneg b
    have hmm : depthT a ≤ 1000 ∧ depthT b ≤ 1000 := by simp only [depthT] at hd; split at hd <;> omega
    exact s_depth_node hd (s_impl_tree_depth a hmm.1) (s_impl_tree_depth b hmm.2)
end Go.T
namespace Go.T
open Go Go.E Go.Proofs
set_option maxHeartbeats 8000000 in
theorem s_impl_DepthOf {l : List Nd} (hl : l.length ≤ 1073741824) : Go.E.Spec Try.prog 20 [eL false 4 cN l] (fun r _ => r = .val (.int .i64 (if fOk l then depthT (treeI l (l.length - 1)) else -1))) := by
  refine spec_of_awp (E := Ev) evOk Try.func20 (c := _) rfl (by decide) (by simp [Try.ntmps20]) ?_
  rw [Try.ntmps20, entry_mk]
  change awp Ev 1 9 _ _ (mkSt [(0, .v (eL false 4 cN l))] [(0, eL false 4 cN l)])
  refine a_seq fun K1 hK1 => ?_
  refine a_region rfl fun K2 hK2 => ?_
  refine x_assign ?_
  refine r_nil hK2 ?_
  refine hK1 _ _ (Ghost.refl _) ?_
  refine a_seq fun K3 hK3 => ?_
  refine a_seq fun K4 hK4 => ?_
  refine a_region rfl fun K5 hK5 => ?_
  refine x_move ?_
  refine x_call (s_impl_FormulaOk ?_) ?_ (hl := by first | rfl | (repeat (first | exact lendL_nil | refine lendL_cons (by first | rfl | exact lend_ref rfl (ro_eL (by intro _; first | rfl | exact roL_cL (by intro _; rfl))) | exact lend_refp rfl (ro_eL (by intro _; first | rfl | exact roL_cL (by intro _; rfl))) | exact lend_agg (by repeat (first | exact lendL_nil | refine lendL_cons (by first | rfl | exact lend_ref rfl (ro_eL (by intro _; first | rfl | exact roL_cL (by intro _; rfl))) | exact lend_refp rfl (ro_eL (by intro _; first | rfl | exact roL_cL (by intro _; rfl)))) ?_))) ?_)))
  ·
    first | omega | rfl | assumption | (simp; done) | (simp_all; done)
  rintro _ _ rfl
  refine x_un ?_
  refine r_nil hK5 ?_
  refine hK4 _ _ (Ghost.refl _) ?_
  refine a_condS 5 rfl (by first | exact .beq | exact .bne | exact .dec | exact .not .beq | exact .not .bne | exact .not .dec | exact .not .id | exact .id) (fun h6 => ?_) (fun h6 => ?_)
  · skip
    refine a_seq fun K7 hK7 => ?_
    refine a_region rfl fun K8 hK8 => ?_
    refine x_assign ?_
    refine r_nil hK8 ?_
    refine hK7 _ _ (Ghost.refl _) ?_
    refine a_ret ?_
    refine then_ret ?_
    refine leave_val (.inr rfl) rfl rfl rfl (congrArg (fun z => V.val (.int .i64 z)) ?_)
    rw [if_neg h6]
  · skip
    refine a_skip ?_
    refine hK3 _ _ (Ghost.refl _) ?_
    refine a_seq fun K9 hK9 => ?_
    refine a_region rfl fun K10 hK10 => ?_
    refine x_move ?_
    refine x_call (s_impl_wholeTree ?_) ?_ (hl := by first | rfl | (repeat (first | exact lendL_nil | refine lendL_cons (by first | rfl | exact lend_ref rfl (ro_eL (by intro _; first | rfl | exact roL_cL (by intro _; rfl))) | exact lend_refp rfl (ro_eL (by intro _; first | rfl | exact roL_cL (by intro _; rfl))) | exact lend_agg (by repeat (first | exact lendL_nil | refine lendL_cons (by first | rfl | exact lend_ref rfl (ro_eL (by intro _; first | rfl | exact roL_cL (by intro _; rfl))) | exact lend_refp rfl (ro_eL (by intro _; first | rfl | exact roL_cL (by intro _; rfl)))) ?_))) ?_)))
    ·
      exact Decidable.not_not.1 h6
    intro r outs hr; rw [treeI_eq] at hr; subst hr
    have hdl := depth_le l (l.length - 1)
    have h40 := (Decidable.not_not.1 h6).2.1
    refine x_call (s_impl_tree_depth (treeI l (l.length - 1)) (by omega)) ?_ (hl := by rw [show treeI l (l.length - 1) = _ from by rw [treeI]]; exact lendL_cons (lend_ref rfl (ro_node _ _ _ _)) lendL_nil)
    rintro _ _ rfl
    refine x_assign ?_
    refine r_nil hK10 ?_
    refine hK9 _ _ (Ghost.refl _) ?_
    refine a_ret ?_
    refine leave_val (.inr rfl) rfl rfl rfl (congrArg (fun z => V.val (.int .i64 z)) ?_)
    rw [if_pos (Decidable.not_not.1 h6)]
end Go.T
namespace Go.T
open Go Go.E Go.Proofs
set_option maxHeartbeats 8000000 in
theorem s_laws_eqNode {x : Nd}  : Go.E.Spec Try.prog 43 [.agg (cN x), .agg (cN x)] (fun r _ => r = .val (.bool (true))) := by
  refine spec_of_awp (E := Ev) evOk Try.func43 (c := _) rfl (by decide) (by simp [Try.ntmps43]) ?_
  rw [Try.ntmps43, entry_mk]
  change awp Ev 2 25 _ _ (mkSt [(0, .agg ((cN x).map S.v)), (1, .agg ((cN x).map S.v))] [(0, .agg (cN x)), (1, .agg (cN x))])
  refine a_seq fun K1 hK1 => ?_
  refine a_region rfl fun K2 hK2 => ?_
  first | refine x_boxVal ?_ | refine x_boxAgg' ?_ | refine x_boxT ?_
  first | refine x_boxVal ?_ | refine x_boxAgg' ?_ | refine x_boxT ?_
  refine x_assign ?_
  refine r_nil hK2 ?_
  refine hK1 _ _ (Ghost.refl _) ?_
  refine a_seq fun K3 hK3 => ?_
  refine a_seq fun K4 hK4 => ?_
  refine a_region rfl fun K5 hK5 => ?_
  refine x_fieldAddr ?_
  refine x_load ?_
  refine x_fieldAddr ?_
  refine x_load ?_
  refine x_bin ?_
  refine r_nil hK5 ?_
  refine hK4 _ _ (ghost_has (ks := [(2, .ref 2 []), (3, .ref 3 []), (9, .v _)]) (km := [(0, _), (1, _), (2, _), (3, _)]) ⟨rfl, rfl, rfl, trivial⟩ ⟨rfl, rfl, rfl, rfl, trivial⟩ rfl) ?_
  refine a_condS 9 rfl (by first | exact .beq | exact .bne | exact .dec | exact .not .beq | exact .not .bne | exact .not .dec | exact .not .id | exact .id) (fun h6 => ?_) (fun h6 => ?_)
  · skip
    refine a_seq fun K7 hK7 => ?_
    refine a_region rfl fun K8 hK8 => ?_
    refine x_assign ?_
    refine r_nil hK8 ?_
    refine hK7 _ _ (Ghost.refl _) ?_
    refine a_ret ?_
    refine then_ret ?_
    refine leave_val (.inr rfl) rfl rfl rfl (congrArg (fun z => V.val (.bool z)) ?_)
    first | rfl | exact absurd rfl (by assumption)
  · skip
    refine a_skip ?_
    refine hK3 _ _ (Ghost.refl _) ?_
    refine a_seq fun K9 hK9 => ?_
    refine a_seq fun K10 hK10 => ?_
    refine a_region rfl fun K11 hK11 => ?_
    refine x_fieldAddr ?_
    refine x_load ?_
    refine x_fieldAddr ?_
    refine x_load ?_
    refine x_bin ?_
    refine r_nil hK11 ?_
    refine hK10 _ _ (Ghost.refl _) ?_
    refine a_condS 14 rfl (by first | exact .beq | exact .bne | exact .dec | exact .not .beq | exact .not .bne | exact .not .dec | exact .not .id | exact .id) (fun h12 => ?_) (fun h12 => ?_)
    · skip
      refine a_seq fun K13 hK13 => ?_
      refine a_region rfl fun K14 hK14 => ?_
      refine x_assign ?_
      refine r_nil hK14 ?_
      refine hK13 _ _ (Ghost.refl _) ?_
      refine a_ret ?_
      refine then_ret ?_
      refine leave_val (.inr rfl) rfl rfl rfl (congrArg (fun z => V.val (.bool z)) ?_)
      first | rfl | exact absurd rfl (by assumption)
    · skip
      refine a_skip ?_
      refine hK9 _ _ (Ghost.refl _) ?_
      refine a_seq fun K15 hK15 => ?_
      refine a_seq fun K16 hK16 => ?_
      refine a_region rfl fun K17 hK17 => ?_
      refine x_fieldAddr ?_
      refine x_load ?_
      refine x_fieldAddr ?_
      refine x_load ?_
      refine x_bin ?_
      refine r_nil hK17 ?_
      refine hK16 _ _ (Ghost.refl _) ?_
      refine a_condS 19 rfl (by first | exact .beq | exact .bne | exact .dec | exact .not .beq | exact .not .bne | exact .not .dec | exact .not .id | exact .id) (fun h18 => ?_) (fun h18 => ?_)
      · skip
        refine a_seq fun K19 hK19 => ?_
        refine a_region rfl fun K20 hK20 => ?_
        refine x_assign ?_
        refine r_nil hK20 ?_
        refine hK19 _ _ (Ghost.refl _) ?_
        refine a_ret ?_
        refine then_ret ?_
        refine leave_val (.inr rfl) rfl rfl rfl (congrArg (fun z => V.val (.bool z)) ?_)
        first | rfl | exact absurd rfl (by assumption)
      · skip
        refine a_skip ?_
        refine hK15 _ _ (Ghost.refl _) ?_
        refine a_seq fun K21 hK21 => ?_
        refine a_seq fun K22 hK22 => ?_
        refine a_region rfl fun K23 hK23 => ?_
        refine x_fieldAddr ?_
        refine x_load ?_
        refine x_fieldAddr ?_
        refine x_load ?_
        refine x_bin ?_
        refine r_nil hK23 ?_
        refine hK22 _ _ (ghost_has (ks := [(24, .v _)]) (km := [(0, _), (1, _)]) ⟨rfl, trivial⟩ ⟨rfl, rfl, trivial⟩ rfl) ?_
        refine a_condS 24 rfl (by first | exact .beq | exact .bne | exact .dec | exact .not .beq | exact .not .bne | exact .not .dec | exact .not .id | exact .id) (fun h24 => ?_) (fun h24 => ?_)
        · skip
          refine a_seq fun K25 hK25 => ?_
          refine a_region rfl fun K26 hK26 => ?_
          refine x_assign ?_
          refine r_nil hK26 ?_
          refine hK25 _ _ (Ghost.refl _) ?_
          refine a_ret ?_
          refine then_ret ?_
          refine leave_val (.inr rfl) rfl rfl rfl (congrArg (fun z => V.val (.bool z)) ?_)
          first | rfl | exact absurd rfl (by assumption)
        · skip
          refine a_skip ?_
          refine hK21 _ _ (Ghost.refl _) ?_
          refine a_seq fun K27 hK27 => ?_
          refine a_region rfl fun K28 hK28 => ?_
          refine x_assign ?_
          refine r_nil hK28 ?_
          refine hK27 _ _ (Ghost.refl _) ?_
          refine a_ret ?_
          refine leave_val (.inr rfl) rfl rfl rfl (congrArg (fun z => V.val (.bool z)) ?_)
          first | rfl | exact absurd rfl (by assumption)
end Go.T
namespace Go.T
open Go Go.E Go.Proofs
set_option maxHeartbeats 8000000 in
theorem s_laws_eqNodeS {l : List Nd} (hl : l.length ≤ 9223372036854775807) : Go.E.Spec Try.prog 21 [eL false 4 cN l, eL false 4 cN l] (fun r _ => r = .val (.bool (true))) := by
  refine spec_of_awp (E := Ev) evOk Try.func21 (c := _) rfl (by decide) (by simp [Try.ntmps21]) ?_
  rw [Try.ntmps21, entry_mk]
  change awp Ev 2 27 _ _ (mkSt [(0, .v (eL false 4 cN l)), (1, .v (eL false 4 cN l))] [(0, eL false 4 cN l), (1, eL false 4 cN l)])
  refine a_seq fun K1 hK1 => ?_
  refine a_region rfl fun K2 hK2 => ?_
  refine x_assign ?_
  refine r_nil hK2 ?_
  refine hK1 _ _ (Ghost.refl _) ?_
  refine a_seq fun K3 hK3 => ?_
  refine a_seq fun K4 hK4 => ?_
  refine a_region rfl fun K5 hK5 => ?_
  refine x_move ?_
  refine x_len ?_
  refine x_move ?_
  refine x_len ?_
  refine x_bin ?_
  refine r_nil hK5 ?_
  refine hK4 _ _ (Ghost.refl _) ?_
  refine a_condS 10 rfl (by first | exact .beq | exact .bne | exact .dec | exact .not .beq | exact .not .bne | exact .not .dec | exact .not .id | exact .id) (fun h6 => ?_) (fun h6 => ?_)
  · skip
    refine a_seq fun K7 hK7 => ?_
    refine a_region rfl fun K8 hK8 => ?_
    refine x_assign ?_
    refine r_nil hK8 ?_
    refine hK7 _ _ (Ghost.refl _) ?_
    refine a_ret ?_
    refine then_ret ?_
    refine leave_val (.inr rfl) rfl rfl rfl (congrArg (fun z => V.val (.bool z)) ?_)
    first | rfl | omega | assumption | (simp; done) | (simp_all; done)
  · skip
    refine a_skip ?_
    refine hK3 _ _ (Ghost.refl _) ?_
    refine a_seq fun K9 hK9 => ?_
    refine a_seq fun K10 hK10 => ?_
    refine a_region rfl fun K11 hK11 => ?_
    refine x_assign ?_
    refine r_nil hK11 ?_
    refine hK10 _ _ (Ghost.refl _) ?_
    refine a_block fun K12 hK12 => ?_
    refine a_loopM (X := Int) (fun i => ([(5, .v (.val (.int .i64 i)))] : List (Nat × S))) (fun i => ([] : List (Nat × V))) (fun i => (0 ≤ i ∧ i ≤ l.length)) (fun i => (l.length - i).toNat) [(0, .v _), (1, .v _)] [(0, _), (1, _)] _ (Ghost.refl _) ⟨rfl, rfl, rfl, trivial⟩ ⟨rfl, rfl, trivial⟩ (fun i => rfl) ?_ ?_
    ·
      try dsimp only
      ·
        first | omega | rfl | assumption | (simp; done) | (simp_all; done)
    ·
      rintro i hI13 K13 hK13
      dsimp only [List.cons_append, List.nil_append] at hI13 ⊢
      have hi := hI13
      refine a_seq fun K14 hK14 => ?_
      refine a_seq fun K15 hK15 => ?_
      refine a_region rfl fun K16 hK16 => ?_
      refine x_move ?_
      refine x_move ?_
      refine x_len ?_
      refine x_bin ?_
      refine r_nil hK16 ?_
      refine hK15 _ _ (Ghost.refl _) ?_
      refine a_condS 14 rfl (by first | exact .beq | exact .bne | exact .dec | exact .not .beq | exact .not .bne | exact .not .dec | exact .not .id | exact .id) (fun h17 => ?_) (fun h17 => ?_)
      · skip
        refine a_skip ?_
        refine hK14 _ _ (Ghost.refl _) ?_
        refine a_seq fun K18 hK18 => ?_
        refine a_block fun K19 hK19 => ?_
        refine a_seq fun K20 hK20 => ?_
        refine a_drawnG (ms := [511, 255, 112, 48, 0, 0, 7, 3, 0, 0]) (by decide +kernel) (by decide +kernel) rfl (by decide +kernel) fun K21 hK21 => ?_
        refine x_move ?_
        refine x_move ?_
        refine x_indexAddr ?_ ?_
        ·
          exact ⟨by omega, by omega⟩
        first | refine x_ldE ?_ ?_ | refine x_ldN ?_ ?_ | refine x_ldO ?_ ?_ | refine x_ldON ?_ ?_ (hf := fun x => (rfl : cN x = List.map V.val [_, _, _, _]))
        ·
          omega
        refine x_move ?_
        refine x_move ?_
        refine x_indexAddr ?_ ?_
        ·
          exact ⟨by omega, by omega⟩
        first | refine x_ldE ?_ ?_ | refine x_ldN ?_ ?_ | refine x_ldO ?_ ?_ | refine x_ldON ?_ ?_ (hf := fun x => (rfl : cN x = List.map V.val [_, _, _, _]))
        ·
          omega
        refine x_call (s_laws_eqNode) ?_ (hl := by first | rfl | (repeat (first | exact lendL_nil | refine lendL_cons (by first | rfl | exact lend_ref rfl (ro_eL (by intro _; first | rfl | exact roL_cL (by intro _; rfl))) | exact lend_refp rfl (ro_eL (by intro _; first | rfl | exact roL_cL (by intro _; rfl))) | exact lend_agg (by repeat (first | exact lendL_nil | refine lendL_cons (by first | rfl | exact lend_ref rfl (ro_eL (by intro _; first | rfl | exact roL_cL (by intro _; rfl))) | exact lend_refp rfl (ro_eL (by intro _; first | rfl | exact roL_cL (by intro _; rfl)))) ?_))) ?_)))
        rintro _ _ rfl
        refine x_un ?_
        refine r_nil hK21 ?_
        refine hK20 _ _ (ghost_has (ks := [(0, .v _), (1, .v _), (5, .v _), (26, .v _)]) (km := [(0, _), (1, _)]) ⟨rfl, rfl, rfl, rfl, trivial⟩ ⟨rfl, rfl, trivial⟩ rfl) ?_
        refine a_condS 26 rfl (by first | exact .beq | exact .bne | exact .dec | exact .not .beq | exact .not .bne | exact .not .dec | exact .not .id | exact .id) (fun h22 => ?_) (fun h22 => ?_)
        · skip
          refine a_seq fun K23 hK23 => ?_
          refine a_region rfl fun K24 hK24 => ?_
          refine x_assign ?_
          refine r_nil hK24 ?_
          refine hK23 _ _ (Ghost.refl _) ?_
          refine a_ret ?_
          refine hK19 .ret _ (in_ret ?_)
          refine then_ret ?_
          refine then_ret ?_
          refine hK12 .ret _ (in_ret ?_)
          refine then_ret ?_
          refine leave_val (.inr rfl) rfl rfl rfl (congrArg (fun z => V.val (.bool z)) ?_)
          first | rfl | omega | assumption | (simp; done) | (simp_all; done)
        · skip
          refine a_skip ?_
          refine hK19 .normal _ ?_
          refine hK18 _ _ (Ghost.refl _) ?_
          refine a_region rfl fun K25 hK25 => ?_
          refine x_move ?_
          refine x_add ?_ ?_
          ·
            exact ⟨by omega, by omega⟩
          refine x_assign ?_
          refine r_nil hK25 ?_
          refine hK13 _ _ _ _ (Ghost.refl _) ⟨rfl, rfl, rfl, trivial⟩ ⟨rfl, rfl, trivial⟩ ?_ ?_
          ·
            first | omega | (dsimp only; omega)
          ·
            try dsimp only
            ·
              first | omega | rfl | assumption | (simp; done) | (simp_all; done)
      · skip
        refine a_exit ?_
        refine then_exit ?_
        refine then_exit ?_
        refine hK12 (.exit 0) _ (in_exit ?_)
        refine hK9 _ _ (Ghost.refl _) ?_
        refine a_seq fun K26 hK26 => ?_
        refine a_region rfl fun K27 hK27 => ?_
        refine x_assign ?_
        refine r_nil hK27 ?_
        refine hK26 _ _ (Ghost.refl _) ?_
        refine a_ret ?_
        refine leave_val (.inr rfl) rfl rfl rfl (congrArg (fun z => V.val (.bool z)) ?_)
        first | rfl | omega | assumption | (simp; done) | (simp_all; done)
end Go.T
namespace Go.T
open Go Go.E Go.Proofs
set_option maxHeartbeats 8000000 in
theorem s_laws_FnExactDepthOf {l : List Nd} (hl : l.length ≤ 9223372036854775807) : Go.E.Spec Try.prog 6 [eL false 4 cN l] (fun r _ => r = .val (.bool (true))) := by
  refine spec_of_awp (E := Ev) evOk Try.func6 (c := _) rfl (by decide) (by simp [Try.ntmps6]) ?_
  rw [Try.ntmps6, entry_mk]
  change awp Ev 1 27 _ _ (mkSt [(0, .v (eL false 4 cN l))] [(0, eL false 4 cN l)])
  refine a_seq fun K1 hK1 => ?_
  refine a_region rfl fun K2 hK2 => ?_
  refine x_assign ?_
  refine r_nil hK2 ?_
  refine hK1 _ _ (Ghost.refl _) ?_
  refine a_seq fun K3 hK3 => ?_
  refine a_region rfl fun K4 hK4 => ?_
  refine x_assign ?_
  refine r_nil hK4 ?_
  refine hK3 _ _ (Ghost.refl _) ?_
  refine a_seq fun K5 hK5 => ?_
  refine a_region rfl fun K6 hK6 => ?_
  refine x_move ?_
  refine x_move ?_
  refine x_call (s_laws_szNodeS ?_ ?_) ?_ (hl := by first | rfl | (repeat (first | exact lendL_nil | refine lendL_cons (by first | rfl | exact lend_ref rfl (ro_eL (by intro _; first | rfl | exact roL_cL (by intro _; rfl))) | exact lend_refp rfl (ro_eL (by intro _; first | rfl | exact roL_cL (by intro _; rfl))) | exact lend_agg (by repeat (first | exact lendL_nil | refine lendL_cons (by first | rfl | exact lend_ref rfl (ro_eL (by intro _; first | rfl | exact roL_cL (by intro _; rfl))) | exact lend_refp rfl (ro_eL (by intro _; first | rfl | exact roL_cL (by intro _; rfl)))) ?_))) ?_)))
  ·
    first | omega | rfl | assumption | (simp; done) | (simp_all; done)
  ·
    first | omega | rfl | assumption | (simp; done) | (simp_all; done)
  rintro _ _ ⟨m, rfl, hm⟩
  refine x_assign ?_
  refine r_nil hK6 ?_
  refine hK5 _ _ (Ghost.refl _) ?_
  refine a_seq fun K7 hK7 => ?_
  refine a_seq fun K8 hK8 => ?_
  refine a_region rfl fun K9 hK9 => ?_
  refine x_move ?_
  refine x_bin ?_
  refine r_nil hK9 ?_
  refine hK8 _ _ (Ghost.refl _) ?_
  refine a_condS 11 rfl (by first | exact .beq | exact .bne | exact .dec | exact .not .beq | exact .not .bne | exact .not .dec | exact .not .id | exact .id) (fun h10 => ?_) (fun h10 => ?_)
  · skip
    refine a_seq fun K11 hK11 => ?_
    refine a_region rfl fun K12 hK12 => ?_
    refine x_assign ?_
    refine r_nil hK12 ?_
    refine hK11 _ _ (Ghost.refl _) ?_
    refine a_ret ?_
    refine then_ret ?_
    refine leave_val (.inr rfl) rfl rfl rfl (congrArg (fun z => V.val (.bool z)) ?_)
    first | rfl | omega | assumption | (simp; done) | (simp_all; done)
  · skip
    refine a_skip ?_
    refine hK7 _ _ (Ghost.refl _) ?_
    refine a_seq fun K13 hK13 => ?_
    refine a_region rfl fun K14 hK14 => ?_
    refine x_move ?_
    refine x_call (s_laws_toNodeS ?_) ?_ (hl := by first | rfl | (repeat (first | exact lendL_nil | refine lendL_cons (by first | rfl | exact lend_ref rfl (ro_eL (by intro _; first | rfl | exact roL_cL (by intro _; rfl))) | exact lend_refp rfl (ro_eL (by intro _; first | rfl | exact roL_cL (by intro _; rfl))) | exact lend_agg (by repeat (first | exact lendL_nil | refine lendL_cons (by first | rfl | exact lend_ref rfl (ro_eL (by intro _; first | rfl | exact roL_cL (by intro _; rfl))) | exact lend_refp rfl (ro_eL (by intro _; first | rfl | exact roL_cL (by intro _; rfl)))) ?_))) ?_)))
    ·
      first | omega | rfl | assumption | (simp; done) | (simp_all; done)
    rintro _ _ rfl
    refine x_call (s_spec_DepthOf ?_) ?_ (hl := by first | rfl | (repeat (first | exact lendL_nil | refine lendL_cons (by first | rfl | exact lend_ref rfl (ro_eL (by intro _; first | rfl | exact roL_cL (by intro _; rfl))) | exact lend_refp rfl (ro_eL (by intro _; first | rfl | exact roL_cL (by intro _; rfl))) | exact lend_agg (by repeat (first | exact lendL_nil | refine lendL_cons (by first | rfl | exact lend_ref rfl (ro_eL (by intro _; first | rfl | exact roL_cL (by intro _; rfl))) | exact lend_refp rfl (ro_eL (by intro _; first | rfl | exact roL_cL (by intro _; rfl)))) ?_))) ?_)))
    ·
      first | omega | rfl | assumption | (simp; done) | (simp_all; done)
    rintro _ _ rfl
    refine x_assign ?_
    refine r_nil hK14 ?_
    refine hK13 _ _ (ghost_has (ks := [(0, .v _), (4, .v _)]) (km := [(0, _), (14, _)]) ⟨rfl, rfl, trivial⟩ ⟨rfl, rfl, trivial⟩ rfl) ?_
    refine a_seq fun K15 hK15 => ?_
    refine a_region rfl fun K16 hK16 => ?_
    refine x_move ?_
    refine x_call (s_laws_toNodeS ?_) ?_ (hl := by first | rfl | (repeat (first | exact lendL_nil | refine lendL_cons (by first | rfl | exact lend_ref rfl (ro_eL (by intro _; first | rfl | exact roL_cL (by intro _; rfl))) | exact lend_refp rfl (ro_eL (by intro _; first | rfl | exact roL_cL (by intro _; rfl))) | exact lend_agg (by repeat (first | exact lendL_nil | refine lendL_cons (by first | rfl | exact lend_ref rfl (ro_eL (by intro _; first | rfl | exact roL_cL (by intro _; rfl))) | exact lend_refp rfl (ro_eL (by intro _; first | rfl | exact roL_cL (by intro _; rfl)))) ?_))) ?_)))
    ·
      first | omega | rfl | assumption | (simp; done) | (simp_all; done)
    rintro _ _ rfl
    refine x_assign ?_
    refine r_nil hK16 ?_
    refine hK15 _ _ (Ghost.refl _) ?_
    refine a_seq fun K17 hK17 => ?_
    refine a_region rfl fun K18 hK18 => ?_
    refine x_move ?_
    refine x_call (s_impl_DepthOf ?_) ?_ (hl := by first | rfl | (repeat (first | exact lendL_nil | refine lendL_cons (by first | rfl | exact lend_ref rfl (ro_eL (by intro _; first | rfl | exact roL_cL (by intro _; rfl))) | exact lend_refp rfl (ro_eL (by intro _; first | rfl | exact roL_cL (by intro _; rfl))) | exact lend_agg (by repeat (first | exact lendL_nil | refine lendL_cons (by first | rfl | exact lend_ref rfl (ro_eL (by intro _; first | rfl | exact roL_cL (by intro _; rfl))) | exact lend_refp rfl (ro_eL (by intro _; first | rfl | exact roL_cL (by intro _; rfl)))) ?_))) ?_)))
    ·
      first | omega | rfl | assumption | (simp; done) | (simp_all; done)
    rintro _ _ rfl
    refine x_assign ?_
    refine r_nil hK18 ?_
    refine hK17 _ _ (Ghost.refl _) ?_
    refine a_seq fun K19 hK19 => ?_
    refine a_seq fun K20 hK20 => ?_
    refine a_region rfl fun K21 hK21 => ?_
    refine x_move ?_
    refine x_move ?_
    refine x_bin ?_
    refine r_nil hK21 ?_
    refine hK20 _ _ (ghost_has (ks := [(0, .v _), (5, .ref 16 []), (21, .v _)]) (km := [(0, _), (16, _)]) ⟨rfl, rfl, rfl, trivial⟩ ⟨rfl, rfl, trivial⟩ rfl) ?_
    refine a_condS 21 rfl (by first | exact .beq | exact .bne | exact .dec | exact .not .beq | exact .not .bne | exact .not .dec | exact .not .id | exact .id) (fun h22 => ?_) (fun h22 => ?_)
    · skip
      refine a_seq fun K23 hK23 => ?_
      refine a_region rfl fun K24 hK24 => ?_
      refine x_assign ?_
      refine r_nil hK24 ?_
      refine hK23 _ _ (Ghost.refl _) ?_
      refine a_ret ?_
      refine then_ret ?_
      refine leave_val (.inr rfl) rfl rfl rfl (congrArg (fun z => V.val (.bool z)) ?_)
      first | rfl | omega | assumption | (simp; done) | (simp_all; done)
    · skip
      refine a_skip ?_
      refine hK19 _ _ (Ghost.refl _) ?_
      refine a_seq fun K25 hK25 => ?_
      refine a_seq fun K26 hK26 => ?_
      refine a_region rfl fun K27 hK27 => ?_
      refine x_move ?_
      refine x_move ?_
      refine x_call (s_laws_toNodeS ?_) ?_ (hl := by first | rfl | (repeat (first | exact lendL_nil | refine lendL_cons (by first | rfl | exact lend_ref rfl (ro_eL (by intro _; first | rfl | exact roL_cL (by intro _; rfl))) | exact lend_refp rfl (ro_eL (by intro _; first | rfl | exact roL_cL (by intro _; rfl))) | exact lend_agg (by repeat (first | exact lendL_nil | refine lendL_cons (by first | rfl | exact lend_ref rfl (ro_eL (by intro _; first | rfl | exact roL_cL (by intro _; rfl))) | exact lend_refp rfl (ro_eL (by intro _; first | rfl | exact roL_cL (by intro _; rfl)))) ?_))) ?_)))
      ·
        first | omega | rfl | assumption | (simp; done) | (simp_all; done)
      rintro _ _ rfl
      refine x_call (s_laws_eqNodeS ?_) ?_ (hl := by first | rfl | (repeat (first | exact lendL_nil | refine lendL_cons (by first | rfl | exact lend_ref rfl (ro_eL (by intro _; first | rfl | exact roL_cL (by intro _; rfl))) | exact lend_refp rfl (ro_eL (by intro _; first | rfl | exact roL_cL (by intro _; rfl))) | exact lend_agg (by repeat (first | exact lendL_nil | refine lendL_cons (by first | rfl | exact lend_ref rfl (ro_eL (by intro _; first | rfl | exact roL_cL (by intro _; rfl))) | exact lend_refp rfl (ro_eL (by intro _; first | rfl | exact roL_cL (by intro _; rfl)))) ?_))) ?_)))
      ·
        first | omega | rfl | assumption | (simp; done) | (simp_all; done)
      rintro _ _ rfl
      refine x_un ?_
      refine r_nil hK27 ?_
      refine hK26 _ _ (Ghost.refl _) ?_
      refine a_condS 26 rfl (by first | exact .beq | exact .bne | exact .dec | exact .not .beq | exact .not .bne | exact .not .dec | exact .not .id | exact .id) (fun h28 => ?_) (fun h28 => ?_)
      · skip
        refine a_seq fun K29 hK29 => ?_
        refine a_region rfl fun K30 hK30 => ?_
        refine x_assign ?_
        refine r_nil hK30 ?_
        refine hK29 _ _ (Ghost.refl _) ?_
        refine a_ret ?_
        refine then_ret ?_
        refine leave_val (.inr rfl) rfl rfl rfl (congrArg (fun z => V.val (.bool z)) ?_)
        first | rfl | omega | assumption | (simp; done) | (simp_all; done)
      · skip
        refine a_skip ?_
        refine hK25 _ _ (Ghost.refl _) ?_
        refine a_seq fun K31 hK31 => ?_
        refine a_region rfl fun K32 hK32 => ?_
        refine x_assign ?_
        refine r_nil hK32 ?_
        refine hK31 _ _ (Ghost.refl _) ?_
        refine a_ret ?_
        refine leave_val (.inr rfl) rfl rfl rfl (congrArg (fun z => V.val (.bool z)) ?_)
        first | rfl | omega | assumption | (simp; done) | (simp_all; done)
end Go.T
