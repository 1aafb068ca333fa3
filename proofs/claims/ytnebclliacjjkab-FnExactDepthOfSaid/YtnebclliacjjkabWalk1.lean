import Derived.Test.YtnebclliacjjkabChecked
import Derived.Test.YtnebclliacjjkabPlain
/- What the functions that the law reaches compute. -/
set_option linter.unusedVariables false
set_option linter.unusedSimpArgs false
namespace Go.T
open Go Go.E Go.Proofs
theorem tabOk : [2, 3, 4, 5, 9, 21, 24, 25, 27, 30, 36, 39, 56, 57, 59, 60, 69, 70, 85, 86, 89, 92].map (TI.of Try.prog) = [⟨.int .i64, 1, 8, [.int .i64 0]⟩, ⟨.int .i64, 1, 8, [.int .i64 0]⟩, ⟨.bool, 1, 1, [.bool false]⟩, ⟨.int .u8, 1, 1, [.int .u8 0]⟩, ⟨.string, 1, 16, [.string ByteArray.empty]⟩, ⟨.int .i32, 1, 4, [.int .i32 0]⟩, ⟨.slice 3, 1, 24, [.slice none 0 0]⟩, ⟨.slice 24, 1, 24, [.slice none 0 0]⟩, ⟨.strct [(0, 24), (1, 25), (2, 3)], 3, 56, [.slice none 0 0, .slice none 0 0, .int .i64 0]⟩, ⟨.strct [(0, 24), (1, 25), (2, 3)], 3, 56, [.slice none 0 0, .slice none 0 0, .int .i64 0]⟩, ⟨.slice 59, 1, 24, [.slice none 0 0]⟩, ⟨.slice 57, 1, 24, [.slice none 0 0]⟩, ⟨.strct [(0, 3), (1, 3), (2, 3), (3, 3)], 4, 32, [.int .i64 0, .int .i64 0, .int .i64 0, .int .i64 0]⟩, ⟨.strct [(0, 3), (1, 3), (2, 3), (3, 3)], 4, 32, [.int .i64 0, .int .i64 0, .int .i64 0, .int .i64 0]⟩, ⟨.strct [(0, 3), (1, 3), (2, 3), (3, 3)], 4, 32, [.int .i64 0, .int .i64 0, .int .i64 0, .int .i64 0]⟩, ⟨.ptr, 1, 8, [.pointer none]⟩, ⟨.ptr, 1, 8, [.pointer none]⟩, ⟨.slice 5, 1, 24, [.slice none 0 0]⟩, ⟨.strct [(0, 3), (1, 3), (2, 60), (3, 60)], 4, 32, [.int .i64 0, .int .i64 0, .pointer none, .pointer none]⟩, ⟨.int .u32, 1, 4, [.int .u32 0]⟩, ⟨.int .u64, 1, 8, [.int .u64 0]⟩, ⟨.ptr, 1, 8, [.pointer none]⟩].map some := by kernel_rfl
noncomputable def tab : List (Nat × TI) := [(2, ⟨.int .i64, 1, 8, [.int .i64 0]⟩), (3, ⟨.int .i64, 1, 8, [.int .i64 0]⟩), (4, ⟨.bool, 1, 1, [.bool false]⟩), (5, ⟨.int .u8, 1, 1, [.int .u8 0]⟩), (9, ⟨.string, 1, 16, [.string ByteArray.empty]⟩), (21, ⟨.int .i32, 1, 4, [.int .i32 0]⟩), (24, ⟨.slice 3, 1, 24, [.slice none 0 0]⟩), (25, ⟨.slice 24, 1, 24, [.slice none 0 0]⟩), (27, ⟨.strct [(0, 24), (1, 25), (2, 3)], 3, 56, [.slice none 0 0, .slice none 0 0, .int .i64 0]⟩), (30, ⟨.strct [(0, 24), (1, 25), (2, 3)], 3, 56, [.slice none 0 0, .slice none 0 0, .int .i64 0]⟩), (36, ⟨.slice 59, 1, 24, [.slice none 0 0]⟩), (39, ⟨.slice 57, 1, 24, [.slice none 0 0]⟩), (56, ⟨.strct [(0, 3), (1, 3), (2, 3), (3, 3)], 4, 32, [.int .i64 0, .int .i64 0, .int .i64 0, .int .i64 0]⟩), (57, ⟨.strct [(0, 3), (1, 3), (2, 3), (3, 3)], 4, 32, [.int .i64 0, .int .i64 0, .int .i64 0, .int .i64 0]⟩), (59, ⟨.strct [(0, 3), (1, 3), (2, 3), (3, 3)], 4, 32, [.int .i64 0, .int .i64 0, .int .i64 0, .int .i64 0]⟩), (60, ⟨.ptr, 1, 8, [.pointer none]⟩), (69, ⟨.ptr, 1, 8, [.pointer none]⟩), (70, ⟨.slice 5, 1, 24, [.slice none 0 0]⟩), (85, ⟨.strct [(0, 3), (1, 3), (2, 60), (3, 60)], 4, 32, [.int .i64 0, .int .i64 0, .pointer none, .pointer none]⟩), (86, ⟨.int .u32, 1, 4, [.int .u32 0]⟩), (89, ⟨.int .u64, 1, 8, [.int .u64 0]⟩), (92, ⟨.ptr, 1, 8, [.pointer none]⟩)]
noncomputable def Ev : Env := ⟨Try.prog, tabOf tab⟩
theorem evOk : Ev.Ok := Env.ok_of (tab_ok tabOk)
end Go.T
namespace Go.T
open Go Go.E Go.Proofs
set_option maxHeartbeats 8000000 in
theorem s_laws_szNodeS {l : List Nd} {n : Int} (hl : l.length ≤ 9223372036854775807) (hn : 0 ≤ n ∧ n ≤ 9223372036854775807) : Go.E.Spec Try.prog 17 [eL false 4 cN l, .val (.int .i64 n)] (fun r _ => ∃ m : Int, r = .val (.int .i64 m) ∧ (0 ≤ m → l.length ≤ n)) := by
  refine spec_of_awp (E := Ev) evOk Try.func17 (c := _) rfl (by decide) (by simp [Try.ntmps17]) ?_
  rw [Try.ntmps17, entry_mk]
  change awp Ev 2 12 _ _ (mkSt [(0, .v (eL false 4 cN l)), (1, .v (.val (.int .i64 n)))] [(0, eL false 4 cN l), (1, .val (.int .i64 n))])
  refine a_seq fun K1 hK1 => ?_
  refine a_region rfl fun K2 hK2 => ?_
  refine x_assign ?_
  refine r_nil hK2 ?_
  refine hK1 _ _ (Ghost.refl _) ?_
  refine a_seq fun K3 hK3 => ?_
  refine a_region rfl fun K4 hK4 => ?_
  refine x_move ?_
  refine x_move ?_
  refine x_len ?_
  refine x_sub ?_ ?_
  ·
    exact ⟨by omega, by omega⟩
  refine x_assign ?_
  refine r_nil hK4 ?_
  refine hK3 _ _ (Ghost.refl _) ?_
  refine a_seq fun K5 hK5 => ?_
  refine a_seq fun K6 hK6 => ?_
  refine a_region rfl fun K7 hK7 => ?_
  refine x_move ?_
  refine x_bin ?_
  refine r_nil hK7 ?_
  refine hK6 _ _ (Ghost.refl _) ?_
  refine a_condS 10 rfl (by first | exact .beq | exact .bne | exact .dec | exact .not .beq | exact .not .bne | exact .not .dec | exact .not .id | exact .id) (fun h8 => ?_) (fun h8 => ?_)
  · skip
    refine a_seq fun K9 hK9 => ?_
    refine a_region rfl fun K10 hK10 => ?_
    refine x_assign ?_
    refine r_nil hK10 ?_
    refine hK9 _ _ (Ghost.refl _) ?_
    refine a_ret ?_
    refine then_ret ?_
    exact leave_val (.inr rfl) rfl rfl rfl ⟨_, rfl, by omega⟩
  · skip
    refine a_skip ?_
    refine hK5 _ _ (Ghost.refl _) ?_
    refine a_seq fun K11 hK11 => ?_
    refine a_region rfl fun K12 hK12 => ?_
    refine x_move ?_
    refine x_assign ?_
    refine r_nil hK12 ?_
    refine hK11 _ _ (Ghost.refl _) ?_
    refine a_ret ?_
    exact leave_val (.inr rfl) rfl rfl rfl ⟨_, rfl, by omega⟩
end Go.T
namespace Go.T
open Go Go.E Go.Proofs
set_option maxHeartbeats 8000000 in
theorem s_laws_toNode {x : Nd}  : Go.E.Spec Try.prog 39 [.agg (cN x)] (fun r _ => r = .agg (cN (x))) := by
  refine spec_of_awp (E := Ev) evOk Try.func39 (c := _) rfl (by decide) (by simp [Try.ntmps39]) ?_
  rw [Try.ntmps39, entry_mk]
  change awp Ev 1 17 _ _ (mkSt [(0, .agg ((cN x).map S.v))] [(0, .agg (cN x))])
  refine a_seq fun K1 hK1 => ?_
  refine a_region rfl fun K2 hK2 => ?_
  first | refine x_boxVal ?_ | refine x_boxAgg' ?_ | refine x_boxT ?_
  refine x_alloc ?_
  refine r_nil hK2 ?_
  refine hK1 _ _ (Ghost.refl _) ?_
  refine a_seq fun K3 hK3 => ?_
  refine a_region rfl fun K4 hK4 => ?_
  refine x_alloc ?_
  refine r_nil hK4 ?_
  refine hK3 _ _ (Ghost.refl _) ?_
  refine a_seq fun K5 hK5 => ?_
  refine a_region rfl fun K6 hK6 => ?_
  refine x_fieldAddr ?_
  refine x_load ?_
  refine x_fieldAddr ?_
  first | refine x_put0 ?_ | refine x_put1 ?_ | refine x_put2 ?_ | refine x_put3 ?_ | refine x_putAll ?_ | refine x_put0R ?_ | refine x_put1R ?_ | refine x_put2R ?_ | refine x_put3R ?_ | refine x_putM ?_ | refine x_put0T ?_ | refine x_put1T ?_ | refine x_putAllT ?_
  refine r_nil hK6 ?_
  refine hK5 _ _ (ghost_has (ks := [(1, .ref 1 []), (2, .ref 2 []), (3, .ref 3 [])]) (km := [(0, _), (1, _), (2, _), (3, _)]) ⟨rfl, rfl, rfl, trivial⟩ ⟨rfl, rfl, rfl, rfl, trivial⟩ rfl) ?_
  refine a_seq fun K7 hK7 => ?_
  refine a_region rfl fun K8 hK8 => ?_
  refine x_fieldAddr ?_
  refine x_load ?_
  refine x_fieldAddr ?_
  first | refine x_put0 ?_ | refine x_put1 ?_ | refine x_put2 ?_ | refine x_put3 ?_ | refine x_putAll ?_ | refine x_put0R ?_ | refine x_put1R ?_ | refine x_put2R ?_ | refine x_put3R ?_ | refine x_putM ?_ | refine x_put0T ?_ | refine x_put1T ?_ | refine x_putAllT ?_
  refine r_nil hK8 ?_
  refine hK7 _ _ (Ghost.refl _) ?_
  refine a_seq fun K9 hK9 => ?_
  refine a_region rfl fun K10 hK10 => ?_
  refine x_fieldAddr ?_
  refine x_load ?_
  refine x_fieldAddr ?_
  first | refine x_put0 ?_ | refine x_put1 ?_ | refine x_put2 ?_ | refine x_put3 ?_ | refine x_putAll ?_ | refine x_put0R ?_ | refine x_put1R ?_ | refine x_put2R ?_ | refine x_put3R ?_ | refine x_putM ?_ | refine x_put0T ?_ | refine x_put1T ?_ | refine x_putAllT ?_
  refine r_nil hK10 ?_
  refine hK9 _ _ (ghost_has (ks := [(1, .ref 1 []), (2, .ref 2 []), (3, .ref 3 [])]) (km := [(0, _), (1, _), (2, _), (3, _)]) ⟨rfl, rfl, rfl, trivial⟩ ⟨rfl, rfl, rfl, rfl, trivial⟩ rfl) ?_
  refine a_seq fun K11 hK11 => ?_
  refine a_region rfl fun K12 hK12 => ?_
  refine x_fieldAddr ?_
  refine x_load ?_
  refine x_fieldAddr ?_
  first | refine x_put0 ?_ | refine x_put1 ?_ | refine x_put2 ?_ | refine x_put3 ?_ | refine x_putAll ?_ | refine x_put0R ?_ | refine x_put1R ?_ | refine x_put2R ?_ | refine x_put3R ?_ | refine x_putM ?_ | refine x_put0T ?_ | refine x_put1T ?_ | refine x_putAllT ?_
  refine r_nil hK12 ?_
  refine hK11 _ _ (Ghost.refl _) ?_
  refine a_seq fun K13 hK13 => ?_
  refine a_region rfl fun K14 hK14 => ?_
  refine x_load ?_
  first | refine x_put0 ?_ | refine x_put1 ?_ | refine x_put2 ?_ | refine x_put3 ?_ | refine x_putAll ?_ | refine x_put0R ?_ | refine x_put1R ?_ | refine x_put2R ?_ | refine x_put3R ?_ | refine x_putM ?_ | refine x_put0T ?_ | refine x_put1T ?_ | refine x_putAllT ?_
  refine r_nil hK14 ?_
  refine hK13 _ _ (Ghost.refl _) ?_
  refine a_ret ?_
  refine leave_gen (us := [_, _, _, _]) (.inr rfl) rfl rfl (takes_vals _ [_, _, _, _]) rfl rfl rfl rfl
end Go.T
namespace Go.T
open Go Go.E Go.Proofs
set_option maxHeartbeats 8000000 in
theorem s_laws_toNodeS {l : List Nd} (hl : l.length ≤ 1073741824) : Go.E.Spec Try.prog 19 [eL false 4 cN l] (fun r _ => r = eL true 4 cN (l)) := by
  refine spec_of_awp (E := Ev) evOk Try.func19 (c := _) rfl (by decide) (by simp [Try.ntmps19]) ?_
  rw [Try.ntmps19, entry_mk]
  change awp Ev 1 23 _ _ (mkSt [(0, .v (eL false 4 cN l))] [(0, eL false 4 cN l)])
  refine a_seq fun K1 hK1 => ?_
  refine a_region rfl fun K2 hK2 => ?_
  refine x_assign ?_
  refine r_nil hK2 ?_
  refine hK1 _ _ (Ghost.refl _) ?_
  refine a_seq fun K3 hK3 => ?_
  refine a_region rfl fun K4 hK4 => ?_
  refine x_move ?_
  refine x_len ?_
  refine x_mk (c := cN) (z := ⟨0, 0, 0, 0⟩) (sz := 4) ?_ ?_ rfl
  ·
    omega
  refine x_assign ?_
  refine r_nil hK4 ?_
  refine hK3 _ _ (Ghost.refl _) ?_
  refine a_seq fun K5 hK5 => ?_
  refine a_seq fun K6 hK6 => ?_
  refine a_region rfl fun K7 hK7 => ?_
  refine x_assign ?_
  refine r_nil hK7 ?_
  refine hK6 _ _ (Ghost.refl _) ?_
  refine a_block fun K8 hK8 => ?_
  refine a_loopM (X := Int × (List Nd)) (fun (i, o) => ([(4, .v (.val (.int .i64 i)))] : List (Nat × S))) (fun (i, o) => ([(7, eL true 4 cN o)] : List (Nat × V))) (fun (i, o) => (0 ≤ i ∧ i ≤ l.length) ∧ (o.length = l.length) ∧ (∀ j : Nat, j < i.toNat → o[j]! = l[j]!)) (fun (i, o) => (l.length - i).toNat) [(0, .v _), (3, .ref 7 [])] [(0, _)] (_, _) (Ghost.refl _) ⟨rfl, rfl, rfl, trivial⟩ ⟨rfl, rfl, trivial⟩ (fun ⟨_, _⟩ => rfl) ?_ ?_
  ·
    try dsimp only
    refine ⟨?_, ?_, ?_⟩
    ·
      first | omega | rfl | assumption | (simp; done) | (simp_all; done)
    ·
      first | omega | rfl | assumption | (simp; done) | (simp_all; done)
    ·
      intro j hj; simp at hj
  ·
    rintro ⟨i, o⟩ hI9 K9 hK9
    dsimp only [List.cons_append, List.nil_append] at hI9 ⊢
    obtain ⟨hi, ho, he⟩ := hI9
    refine a_seq fun K10 hK10 => ?_
    refine a_seq fun K11 hK11 => ?_
    refine a_region rfl fun K12 hK12 => ?_
    refine x_move ?_
    refine x_move ?_
    refine x_len ?_
    refine x_bin ?_
    refine r_nil hK12 ?_
    refine hK11 _ _ (Ghost.refl _) ?_
    refine a_condS 11 rfl (by first | exact .beq | exact .bne | exact .dec | exact .not .beq | exact .not .bne | exact .not .dec | exact .not .id | exact .id) (fun h13 => ?_) (fun h13 => ?_)
    · skip
      refine a_skip ?_
      refine hK10 _ _ (Ghost.refl _) ?_
      refine a_seq fun K14 hK14 => ?_
      refine a_block fun K15 hK15 => ?_
      refine a_region rfl fun K16 hK16 => ?_
      refine x_move ?_
      refine x_move ?_
      refine x_move ?_
      refine x_move ?_
      refine x_indexAddr ?_ ?_
      ·
        exact ⟨by omega, by omega⟩
      first | refine x_ldE ?_ ?_ | refine x_ldN ?_ ?_ | refine x_ldO ?_ ?_ | refine x_ldON ?_ ?_ (hf := fun x => (rfl : cN x = List.map V.val [_, _, _, _]))
      ·
        omega
      refine x_call (s_laws_toNode) ?_ (hl := by first | rfl | (repeat (first | exact lendL_nil | refine lendL_cons (by first | rfl | exact lend_ref rfl (ro_eL (by intro _; first | rfl | exact roL_cL (by intro _; rfl))) | exact lend_refp rfl (ro_eL (by intro _; first | rfl | exact roL_cL (by intro _; rfl))) | exact lend_agg (by repeat (first | exact lendL_nil | refine lendL_cons (by first | rfl | exact lend_ref rfl (ro_eL (by intro _; first | rfl | exact roL_cL (by intro _; rfl))) | exact lend_refp rfl (ro_eL (by intro _; first | rfl | exact roL_cL (by intro _; rfl)))) ?_))) ?_)))
      rintro _ _ rfl
      refine x_indexAddr ?_ ?_
      ·
        exact ⟨by omega, by omega⟩
      first | refine x_stE ?_ ?_ | refine x_stN' ?_ ?_
      ·
        omega
      refine r_nil hK16 ?_
      refine hK15 .normal _ ?_
      refine hK14 _ _ (ghost_has (ks := [(0, .v _), (3, .ref 7 []), (4, .v _)]) (km := [(0, _), (7, _)]) ⟨rfl, rfl, rfl, trivial⟩ ⟨rfl, rfl, trivial⟩ rfl) ?_
      refine a_region rfl fun K17 hK17 => ?_
      refine x_move ?_
      refine x_add ?_ ?_
      ·
        exact ⟨by omega, by omega⟩
      refine x_assign ?_
      refine r_nil hK17 ?_
      refine hK9 (_, _) _ _ _ (Ghost.refl _) ⟨rfl, rfl, rfl, trivial⟩ ⟨rfl, rfl, trivial⟩ ?_ ?_
      ·
        first | omega | (dsimp only; omega)
      ·
        try dsimp only
        refine ⟨?_, ?_, ?_⟩
        ·
          first | omega | rfl | assumption | (simp; done) | (simp_all; done)
        ·
          simpa using ho
        ·
          exact set_upto (by omega) (by omega) he (by omega)
    · skip
      refine a_exit ?_
      refine then_exit ?_
      refine then_exit ?_
      refine hK8 (.exit 0) _ (in_exit ?_)
      refine hK5 _ _ (Ghost.refl _) ?_
      refine a_seq fun K18 hK18 => ?_
      refine a_region rfl fun K19 hK19 => ?_
      refine x_move ?_
      refine x_assign ?_
      refine r_nil hK19 ?_
      refine hK18 _ _ (Ghost.refl _) ?_
      refine a_ret ?_
      refine leave_own (.inr rfl) rfl rfl rfl rfl (free_eL (by intro _; first | rfl | exact freeL_cL (by intro _; rfl))) rfl (congrArg (eL true 4 cN) ?_)
      exact upto_all ho (fun j hj => he j (by omega))
end Go.T
namespace Go.T
open Go Go.E Go.Proofs
set_option maxHeartbeats 8000000 in
theorem s_spec_l01In {a : Int} {b : Int} {c : Int}  : Go.E.Spec Try.prog 58 [.val (.int .i64 a), .val (.int .i64 b), .val (.int .i64 c)] (fun r _ => r = .val (.bool (decide (b ≤ a ∧ a ≤ c)))) := by
  refine spec_of_awp (E := Ev) evOk Try.func58 (c := _) rfl (by decide) (by simp [Try.ntmps58]) ?_
  rw [Try.ntmps58, entry_mk]
  change awp Ev 3 15 _ _ (mkSt [(0, .v (.val (.int .i64 a))), (1, .v (.val (.int .i64 b))), (2, .v (.val (.int .i64 c)))] [(0, .val (.int .i64 a)), (1, .val (.int .i64 b)), (2, .val (.int .i64 c))])
  refine a_seq fun K1 hK1 => ?_
  refine a_region rfl fun K2 hK2 => ?_
  refine x_assign ?_
  refine r_nil hK2 ?_
  refine hK1 _ _ (Ghost.refl _) ?_
  refine a_seq fun K3 hK3 => ?_
  refine a_region rfl fun K4 hK4 => ?_
  refine x_move ?_
  refine x_move ?_
  refine x_bin ?_
  refine x_move ?_
  refine x_split 10 rfl (by first | exact .beq | exact .bne | exact .dec | exact .not .beq | exact .not .bne | exact .not .dec | exact .not .id | exact .id) (fun h5 => ?_) (fun h5 => ?_)
  · skip
    refine x_move ?_
    refine x_move ?_
    refine x_bin ?_
    refine x_pickT ?_
    refine x_assign ?_
    refine r_nil hK4 ?_
    refine hK3 _ _ (Ghost.refl _) ?_
    refine a_ret ?_
    refine leave_val (.inr rfl) rfl rfl rfl (congrArg (fun z => V.val (.bool z)) ?_)
    simp; omega
  · skip
    refine x_shut ?_
    refine x_shut ?_
    refine x_shut ?_
    refine x_pickF ?_
    refine x_assign ?_
    refine r_nil hK4 ?_
    refine hK3 _ _ (Ghost.refl _) ?_
    refine a_ret ?_
    refine leave_val (.inr rfl) rfl rfl rfl (congrArg (fun z => V.val (.bool z)) ?_)
    simp; omega
end Go.T
namespace Go.T
open Go Go.E Go.Proofs
set_option maxHeartbeats 8000000 in
theorem s_spec_l02Uses {op : Int}  : Go.E.Spec Try.prog 63 [.val (.int .i64 op)] (fun r _ => r = .val (.int .i64 (usesOf op))) := by
  refine spec_of_awp (E := Ev) evOk Try.func63 (c := _) rfl (by decide) (by simp [Try.ntmps63]) ?_
  rw [Try.ntmps63, entry_mk]
  change awp Ev 1 12 _ _ (mkSt [(0, .v (.val (.int .i64 op)))] [(0, .val (.int .i64 op))])
  refine a_seq fun K1 hK1 => ?_
  refine a_region rfl fun K2 hK2 => ?_
  refine x_assign ?_
  refine r_nil hK2 ?_
  refine hK1 _ _ (Ghost.refl _) ?_
  refine a_seq fun K3 hK3 => ?_
  refine a_seq fun K4 hK4 => ?_
  refine a_region rfl fun K5 hK5 => ?_
  refine x_move ?_
  refine r_nil hK5 ?_
  refine hK4 _ _ (Ghost.refl _) ?_
  refine a_block fun K6 hK6 => ?_
  refine a_seq fun K7 hK7 => ?_
  refine a_seq fun K8 hK8 => ?_
  refine a_region rfl fun K9 hK9 => ?_
  refine x_bin ?_
  refine x_assign ?_
  refine r_nil hK9 ?_
  refine hK8 _ _ (Ghost.refl _) ?_
  refine a_condS 4 rfl (by first | exact .beq | exact .bne | exact .dec | exact .not .beq | exact .not .bne | exact .not .dec | exact .not .id | exact .id) (fun h10 => ?_) (fun h10 => ?_)
  · skip
    refine a_skip ?_
    refine hK7 _ _ (Ghost.refl _) ?_
    refine a_condT rfl ?_
    refine a_seq fun K11 hK11 => ?_
    refine a_region rfl fun K12 hK12 => ?_
    refine x_assign ?_
    refine r_nil hK12 ?_
    refine hK11 _ _ (Ghost.refl _) ?_
    refine a_ret ?_
    refine hK6 .ret _ (in_ret ?_)
    refine then_ret ?_
    refine leave_val (.inr rfl) rfl rfl rfl (congrArg (fun z => V.val (.int .i64 z)) ?_)
    unfold usesOf; (repeat split) <;> omega
  · skip
    refine a_region rfl fun K13 hK13 => ?_
    refine x_bin ?_
    refine x_assign ?_
    refine r_nil hK13 ?_
    refine hK7 _ _ (Ghost.refl _) ?_
    refine a_condS 4 rfl (by first | exact .beq | exact .bne | exact .dec | exact .not .beq | exact .not .bne | exact .not .dec | exact .not .id | exact .id) (fun h14 => ?_) (fun h14 => ?_)
    · skip
      refine a_seq fun K15 hK15 => ?_
      refine a_region rfl fun K16 hK16 => ?_
      refine x_assign ?_
      refine r_nil hK16 ?_
      refine hK15 _ _ (Ghost.refl _) ?_
      refine a_ret ?_
      refine hK6 .ret _ (in_ret ?_)
      refine then_ret ?_
      refine leave_val (.inr rfl) rfl rfl rfl (congrArg (fun z => V.val (.int .i64 z)) ?_)
      unfold usesOf; (repeat split) <;> omega
    · skip
      refine a_seq fun K17 hK17 => ?_
      refine a_seq fun K18 hK18 => ?_
      refine a_region rfl fun K19 hK19 => ?_
      refine x_bin ?_
      refine x_assign ?_
      refine r_nil hK19 ?_
      refine hK18 _ _ (Ghost.refl _) ?_
      refine a_condS 7 rfl (by first | exact .beq | exact .bne | exact .dec | exact .not .beq | exact .not .bne | exact .not .dec | exact .not .id | exact .id) (fun h20 => ?_) (fun h20 => ?_)
      · skip
        refine a_skip ?_
        refine hK17 _ _ (Ghost.refl _) ?_
        refine a_condT rfl ?_
        refine a_seq fun K21 hK21 => ?_
        refine a_region rfl fun K22 hK22 => ?_
        refine x_assign ?_
        refine r_nil hK22 ?_
        refine hK21 _ _ (Ghost.refl _) ?_
        refine a_ret ?_
        refine hK6 .ret _ (in_ret ?_)
        refine then_ret ?_
        refine leave_val (.inr rfl) rfl rfl rfl (congrArg (fun z => V.val (.int .i64 z)) ?_)
        unfold usesOf; (repeat split) <;> omega
      · skip
        refine a_region rfl fun K23 hK23 => ?_
        refine x_bin ?_
        refine x_assign ?_
        refine r_nil hK23 ?_
        refine hK17 _ _ (Ghost.refl _) ?_
        refine a_condS 7 rfl (by first | exact .beq | exact .bne | exact .dec | exact .not .beq | exact .not .bne | exact .not .dec | exact .not .id | exact .id) (fun h24 => ?_) (fun h24 => ?_)
        · skip
          refine a_seq fun K25 hK25 => ?_
          refine a_region rfl fun K26 hK26 => ?_
          refine x_assign ?_
          refine r_nil hK26 ?_
          refine hK25 _ _ (Ghost.refl _) ?_
          refine a_ret ?_
          refine hK6 .ret _ (in_ret ?_)
          refine then_ret ?_
          refine leave_val (.inr rfl) rfl rfl rfl (congrArg (fun z => V.val (.int .i64 z)) ?_)
          unfold usesOf; (repeat split) <;> omega
        · skip
          refine a_skip ?_
          refine hK6 .normal _ ?_
          refine hK3 _ _ (Ghost.refl _) ?_
          refine a_seq fun K27 hK27 => ?_
          refine a_seq fun K28 hK28 => ?_
          refine a_region rfl fun K29 hK29 => ?_
          refine x_move ?_
          refine x_call (s_spec_l01In) ?_ (hl := by first | rfl | (repeat (first | exact lendL_nil | refine lendL_cons (by first | rfl | exact lend_ref rfl (ro_eL (by intro _; first | rfl | exact roL_cL (by intro _; rfl))) | exact lend_refp rfl (ro_eL (by intro _; first | rfl | exact roL_cL (by intro _; rfl))) | exact lend_agg (by repeat (first | exact lendL_nil | refine lendL_cons (by first | rfl | exact lend_ref rfl (ro_eL (by intro _; first | rfl | exact roL_cL (by intro _; rfl))) | exact lend_refp rfl (ro_eL (by intro _; first | rfl | exact roL_cL (by intro _; rfl)))) ?_))) ?_)))
          rintro _ _ rfl
          refine r_nil hK29 ?_
          refine hK28 _ _ (ghost_has (ks := [(11, .v _)]) (km := [(0, _), (11, _)]) ⟨rfl, trivial⟩ ⟨rfl, rfl, trivial⟩ rfl) ?_
          refine a_condS 11 rfl (by first | exact .beq | exact .bne | exact .dec | exact .not .beq | exact .not .bne | exact .not .dec | exact .not .id | exact .id) (fun h30 => ?_) (fun h30 => ?_)
          · skip
            refine a_seq fun K31 hK31 => ?_
            refine a_region rfl fun K32 hK32 => ?_
            refine x_assign ?_
            refine r_nil hK32 ?_
            refine hK31 _ _ (Ghost.refl _) ?_
            refine a_ret ?_
            refine then_ret ?_
            refine leave_val (.inr rfl) rfl rfl rfl (congrArg (fun z => V.val (.int .i64 z)) ?_)
            unfold usesOf; (repeat split) <;> omega
          · skip
            refine a_skip ?_
            refine hK27 _ _ (Ghost.refl _) ?_
            refine a_seq fun K33 hK33 => ?_
            refine a_region rfl fun K34 hK34 => ?_
            refine x_assign ?_
            refine r_nil hK34 ?_
            refine hK33 _ _ (Ghost.refl _) ?_
            refine a_ret ?_
            refine leave_val (.inr rfl) rfl rfl rfl (congrArg (fun z => V.val (.int .i64 z)) ?_)
            unfold usesOf; (repeat split) <;> omega
end Go.T
namespace Go.T
open Go Go.E Go.Proofs
set_option maxHeartbeats 8000000 in
theorem s_spec_l02Most {op : Int}  : Go.E.Spec Try.prog 64 [.val (.int .i64 op)] (fun r _ => r = .val (.int .i64 (mostOf op))) := by
  refine spec_of_awp (E := Ev) evOk Try.func64 (c := _) rfl (by decide) (by simp [Try.ntmps64]) ?_
  rw [Try.ntmps64, entry_mk]
  change awp Ev 1 9 _ _ (mkSt [(0, .v (.val (.int .i64 op)))] [(0, .val (.int .i64 op))])
  refine a_seq fun K1 hK1 => ?_
  refine a_region rfl fun K2 hK2 => ?_
  refine x_assign ?_
  refine r_nil hK2 ?_
  refine hK1 _ _ (Ghost.refl _) ?_
  refine a_seq fun K3 hK3 => ?_
  refine a_seq fun K4 hK4 => ?_
  refine a_region rfl fun K5 hK5 => ?_
  refine x_move ?_
  refine r_nil hK5 ?_
  refine hK4 _ _ (Ghost.refl _) ?_
  refine a_block fun K6 hK6 => ?_
  refine a_seq fun K7 hK7 => ?_
  refine a_region rfl fun K8 hK8 => ?_
  refine x_bin ?_
  refine x_assign ?_
  refine r_nil hK8 ?_
  refine hK7 _ _ (Ghost.refl _) ?_
  refine a_condS 4 rfl (by first | exact .beq | exact .bne | exact .dec | exact .not .beq | exact .not .bne | exact .not .dec | exact .not .id | exact .id) (fun h9 => ?_) (fun h9 => ?_)
  · skip
    refine a_seq fun K10 hK10 => ?_
    refine a_region rfl fun K11 hK11 => ?_
    refine x_assign ?_
    refine r_nil hK11 ?_
    refine hK10 _ _ (Ghost.refl _) ?_
    refine a_ret ?_
    refine hK6 .ret _ (in_ret ?_)
    refine then_ret ?_
    refine leave_val (.inr rfl) rfl rfl rfl (congrArg (fun z => V.val (.int .i64 z)) ?_)
    unfold mostOf; (repeat split) <;> omega
  · skip
    refine a_seq fun K12 hK12 => ?_
    refine a_seq fun K13 hK13 => ?_
    refine a_region rfl fun K14 hK14 => ?_
    refine x_bin ?_
    refine x_assign ?_
    refine r_nil hK14 ?_
    refine hK13 _ _ (Ghost.refl _) ?_
    refine a_condS 6 rfl (by first | exact .beq | exact .bne | exact .dec | exact .not .beq | exact .not .bne | exact .not .dec | exact .not .id | exact .id) (fun h15 => ?_) (fun h15 => ?_)
    · skip
      refine a_skip ?_
      refine hK12 _ _ (Ghost.refl _) ?_
      refine a_condT rfl ?_
      refine a_seq fun K16 hK16 => ?_
      refine a_region rfl fun K17 hK17 => ?_
      refine x_assign ?_
      refine r_nil hK17 ?_
      refine hK16 _ _ (Ghost.refl _) ?_
      refine a_ret ?_
      refine hK6 .ret _ (in_ret ?_)
      refine then_ret ?_
      refine leave_val (.inr rfl) rfl rfl rfl (congrArg (fun z => V.val (.int .i64 z)) ?_)
      unfold mostOf; (repeat split) <;> omega
    · skip
      refine a_region rfl fun K18 hK18 => ?_
      refine x_bin ?_
      refine x_assign ?_
      refine r_nil hK18 ?_
      refine hK12 _ _ (Ghost.refl _) ?_
      refine a_condS 6 rfl (by first | exact .beq | exact .bne | exact .dec | exact .not .beq | exact .not .bne | exact .not .dec | exact .not .id | exact .id) (fun h19 => ?_) (fun h19 => ?_)
      · skip
        refine a_seq fun K20 hK20 => ?_
        refine a_region rfl fun K21 hK21 => ?_
        refine x_assign ?_
        refine r_nil hK21 ?_
        refine hK20 _ _ (Ghost.refl _) ?_
        refine a_ret ?_
        refine hK6 .ret _ (in_ret ?_)
        refine then_ret ?_
        refine leave_val (.inr rfl) rfl rfl rfl (congrArg (fun z => V.val (.int .i64 z)) ?_)
        unfold mostOf; (repeat split) <;> omega
      · skip
        refine a_skip ?_
        refine hK6 .normal _ ?_
        refine hK3 _ _ (Ghost.refl _) ?_
        refine a_seq fun K22 hK22 => ?_
        refine a_region rfl fun K23 hK23 => ?_
        refine x_assign ?_
        refine r_nil hK23 ?_
        refine hK22 _ _ (Ghost.refl _) ?_
        refine a_ret ?_
        refine leave_val (.inr rfl) rfl rfl rfl (congrArg (fun z => V.val (.int .i64 z)) ?_)
        unfold mostOf; (repeat split) <;> omega
end Go.T
namespace Go.T
open Go Go.E Go.Proofs
set_option maxHeartbeats 8000000 in
theorem s_spec_FormulaOk {l : List Nd} (hl : l.length ≤ 1073741824) : Go.E.Spec Try.prog 37 [eL false 4 cN l] (fun r _ => r = .val (.bool (decide (fOk l)))) := by
  refine spec_of_awp (E := Ev) evOk Try.func37 (c := _) rfl (by decide) (by simp [Try.ntmps37]) ?_
  rw [Try.ntmps37, entry_mk]
  change awp Ev 1 113 _ _ (mkSt [(0, .v (eL false 4 cN l))] [(0, eL false 4 cN l)])
  refine a_seq fun K1 hK1 => ?_
  refine a_region rfl fun K2 hK2 => ?_
  refine x_assign ?_
  refine r_nil hK2 ?_
  refine hK1 _ _ (Ghost.refl _) ?_
  refine a_seq fun K3 hK3 => ?_
  refine a_seq fun K4 hK4 => ?_
  refine a_region rfl fun K5 hK5 => ?_
  refine x_move ?_
  refine x_len ?_
  refine x_call (s_spec_l01In) ?_ (hl := by first | rfl | (repeat (first | exact lendL_nil | refine lendL_cons (by first | rfl | exact lend_ref rfl (ro_eL (by intro _; first | rfl | exact roL_cL (by intro _; rfl))) | exact lend_refp rfl (ro_eL (by intro _; first | rfl | exact roL_cL (by intro _; rfl))) | exact lend_agg (by repeat (first | exact lendL_nil | refine lendL_cons (by first | rfl | exact lend_ref rfl (ro_eL (by intro _; first | rfl | exact roL_cL (by intro _; rfl))) | exact lend_refp rfl (ro_eL (by intro _; first | rfl | exact roL_cL (by intro _; rfl)))) ?_))) ?_)))
  rintro _ _ rfl
  refine x_un ?_
  refine r_nil hK5 ?_
  refine hK4 _ _ (Ghost.refl _) ?_
  refine a_condS 12 rfl (by first | exact .beq | exact .bne | exact .dec | exact .not .beq | exact .not .bne | exact .not .dec | exact .not .id | exact .id) (fun h6 => ?_) (fun h6 => ?_)
  · skip
    refine a_seq fun K7 hK7 => ?_
    refine a_region rfl fun K8 hK8 => ?_
    refine x_assign ?_
    refine r_nil hK8 ?_
    refine hK7 _ _ (Ghost.refl _) ?_
    refine a_ret ?_
    refine then_ret ?_
    refine leave_val (.inr rfl) rfl rfl rfl (congrArg (fun z => V.val (.bool z)) ?_)
    first
      | (symm; rw [decide_eq_false_iff_not]; intro hh;  have h1 := hh.1; have h2 := hh.2.1; omega)
      | (symm; rw [decide_eq_false_iff_not]; intro hh;  have h3 := hh.2.2.1 i.toNat (by omega); unfold nodeOk at h3; omega)
      | (symm; rw [decide_eq_false_iff_not]; intro hh;  have h3 := hh.2.2.2 i2.toNat (by omega); have h4 := hcl i2.toNat (by omega); exact h (by rw [h4]; exact h3))
      | (symm; rw [decide_eq_true_iff]; exact ⟨by omega, by omega, fun j hj => hn j (by omega), fun j hj => hk j (by omega) hj⟩)
  · skip
    refine a_skip ?_
    refine hK3 _ _ (Ghost.refl _) ?_
    refine a_seq fun K9 hK9 => ?_
    refine a_region rfl fun K10 hK10 => ?_
    refine x_move ?_
    refine x_len ?_
    refine x_mk (c := cI) (z := 0) (sz := 1) ?_ ?_ rfl
    ·
      omega
    refine x_assign ?_
    refine r_nil hK10 ?_
    refine hK9 _ _ (ghost_has (ks := [(0, .v _), (3, .ref 15 [])]) (km := [(0, _), (15, _)]) ⟨rfl, rfl, trivial⟩ ⟨rfl, rfl, trivial⟩ rfl) ?_
    refine a_seq fun K11 hK11 => ?_
    refine a_seq fun K12 hK12 => ?_
    refine a_region rfl fun K13 hK13 => ?_
    refine x_move ?_
    refine x_len ?_
    refine x_move ?_
    refine r_nil hK13 ?_
    refine hK12 _ _ (Ghost.refl _) ?_
    refine a_block fun K14 hK14 => ?_
    refine a_loopM (X := Int × (List Int)) (fun (i, o) => ([(18, .v (.val (.int .i64 i)))] : List (Nat × S))) (fun (i, o) => ([(15, eL true 1 cI o)] : List (Nat × V))) (fun (i, o) => (0 ≤ i ∧ i ≤ l.length) ∧ (o.length = l.length) ∧ (∀ j : Nat, j < l.length → o[j]! = usedBy (takeI l i) j) ∧ (∀ j : Nat, j < i.toNat → nodeOk j l[j]!)) (fun (i, o) => (l.length - i).toNat) [(0, .v _), (3, .ref 15 []), (16, .v _), (17, .v _)] [(0, _)] (_, _) (Ghost.refl _) ⟨rfl, rfl, rfl, rfl, rfl, trivial⟩ ⟨rfl, rfl, trivial⟩ (fun ⟨_, _⟩ => rfl) ?_ ?_
    ·
      try dsimp only
      refine ⟨?_, ?_, ?_, ?_⟩
      ·
        first | omega | rfl | assumption | (simp; done) | (simp_all; done)
      ·
        simp
      ·
        intro j _; rw [rep_get, takeI_zero]; rfl
      ·
        intro j hj; simp at hj
    ·
      rintro ⟨i, o⟩ hI15 K15 hK15
      dsimp only [List.cons_append, List.nil_append] at hI15 ⊢
      obtain ⟨hi, ho, hc, hn⟩ := hI15
      refine a_seq fun K16 hK16 => ?_
      refine a_region rfl fun K17 hK17 => ?_
      refine x_bin ?_
      refine r_nil hK17 ?_
      refine hK16 _ _ (Ghost.refl _) ?_
      refine a_seq fun K18 hK18 => ?_
      refine a_condS 19 rfl (by first | exact .beq | exact .bne | exact .dec | exact .not .beq | exact .not .bne | exact .not .dec | exact .not .id | exact .id) (fun h19 => ?_) (fun h19 => ?_)
      · skip
        refine a_skip ?_
        refine hK18 _ _ (Ghost.refl _) ?_
        refine a_seq fun K20 hK20 => ?_
        refine a_block fun K21 hK21 => ?_
        refine a_seq fun K22 hK22 => ?_
        refine a_region rfl fun K23 hK23 => ?_
        refine x_move ?_
        refine x_indexAddr ?_ ?_
        ·
          exact ⟨by omega, by omega⟩
        first | refine x_ldE ?_ ?_ | refine x_ldN ?_ ?_ | refine x_ldO ?_ ?_ | refine x_ldON ?_ ?_ (hf := fun x => (rfl : cN x = List.map V.val [_, _, _, _]))
        ·
          omega
        refine x_alloc ?_
        refine x_assign ?_
        first | refine x_put0 ?_ | refine x_put1 ?_ | refine x_put2 ?_ | refine x_put3 ?_ | refine x_putAll ?_ | refine x_put0R ?_ | refine x_put1R ?_ | refine x_put2R ?_ | refine x_put3R ?_ | refine x_putM ?_ | refine x_put0T ?_ | refine x_put1T ?_ | refine x_putAllT ?_
        refine r_nil hK23 ?_
        refine hK22 _ _ (Ghost.refl _) ?_
        refine a_seq fun K24 hK24 => ?_
        refine a_region rfl fun K25 hK25 => ?_
        refine x_fieldAddr ?_
        refine x_load ?_
        refine x_call (s_spec_l02Uses) ?_ (hl := by first | rfl | (repeat (first | exact lendL_nil | refine lendL_cons (by first | rfl | exact lend_ref rfl (ro_eL (by intro _; first | rfl | exact roL_cL (by intro _; rfl))) | exact lend_refp rfl (ro_eL (by intro _; first | rfl | exact roL_cL (by intro _; rfl))) | exact lend_agg (by repeat (first | exact lendL_nil | refine lendL_cons (by first | rfl | exact lend_ref rfl (ro_eL (by intro _; first | rfl | exact roL_cL (by intro _; rfl))) | exact lend_refp rfl (ro_eL (by intro _; first | rfl | exact roL_cL (by intro _; rfl)))) ?_))) ?_)))
        rintro _ _ rfl
        refine x_assign ?_
        refine r_nil hK25 ?_
        refine hK24 _ _ (ghost_has (ks := [(0, .v _), (3, .ref 15 []), (4, .v _), (5, .ref 5 []), (6, .v _), (16, .v _), (17, .v _), (18, .v _)]) (km := [(0, _), (5, _), (15, _), (25, _)]) ⟨rfl, rfl, rfl, rfl, rfl, rfl, rfl, rfl, trivial⟩ ⟨rfl, rfl, rfl, rfl, trivial⟩ rfl) ?_
        refine a_joinK (X := Unit) (fun _u => ([] : List (Nat × S))) (fun _u => ([] : List (Nat × V))) (fun _u => (0 ≤ usesOf (l[i.toNat]!).op ∧ (0 ≤ (l[i.toNat]!).n ∧ (l[i.toNat]!).n ≤ mostOf (l[i.toNat]!).op) ∧ (usesOf (l[i.toNat]!).op < 1 → (l[i.toNat]!).a = 0) ∧ (usesOf (l[i.toNat]!).op < 2 → (l[i.toNat]!).b = 0))) [(0, .v _), (3, .ref 15 []), (4, .v _), (5, .ref 5 []), (6, .v _), (16, .v _), (17, .v _), (18, .v _)] [(0, _), (5, _), (15, _), (25, _)] ⟨rfl, rfl, rfl, rfl, rfl, rfl, rfl, rfl, trivial⟩ ⟨rfl, rfl, rfl, rfl, trivial⟩ (fun _u => rfl) ?_ ?_
        · intro K26 hK26
          refine a_seq fun K27 hK27 => ?_
          refine a_drawAllG (n := 29) (ms := [268435455, 134217727, 67108863, 33554431, 16777215, 8388607, 4194303, 2097151, 1048575, 524287, 262143, 131071, 65535, 32767, 16383, 8191, 4095, 2047, 1023, 511, 255, 103, 39, 7, 15, 7, 3, 1, 0]) rfl (by decide +kernel) (by decide +kernel) (by decide +kernel) fun K28 hK28 => ?_
          refine w_allG (l := [0]) (by decide +kernel) ⟨?_, trivial⟩
          refine x_move ?_
          refine w_end ?_
          refine w_allG (l := [1]) (by decide +kernel) ⟨?_, trivial⟩
          refine x_bin ?_
          refine w_end ?_
          refine w_allG (l := [2]) (by decide +kernel) ⟨?_, trivial⟩
          refine x_move ?_
          refine w_end ?_
          refine w_allG (l := [3, 5]) (by decide +kernel) ⟨?_, ?_, trivial⟩
          · skip
            refine x_split 28 rfl (by first | exact .beq | exact .bne | exact .dec | exact .not .beq | exact .not .bne | exact .not .dec | exact .not .id | exact .id) (fun h29 => ?_) (fun h29 => ?_)
            · skip
              refine x_shut ?_
              refine w_end ?_
              refine w_allG (l := [4, 5]) (by decide +kernel) ⟨?_, ?_, trivial⟩
              · skip
                refine x_shut ?_
                refine w_end ?_
                refine w_allG (l := [5]) (by decide +kernel) ⟨?_, trivial⟩
                refine x_shut ?_
                refine w_end ?_
                refine w_allG (l := [6]) (by decide +kernel) ⟨?_, trivial⟩
                refine x_shut ?_
                refine w_end ?_
                refine w_allG (l := [7]) (by decide +kernel) ⟨?_, trivial⟩
                refine x_shut ?_
                refine w_end ?_
                refine w_allG (l := [8]) (by decide +kernel) ⟨?_, trivial⟩
                refine x_shut ?_
                refine w_end ?_
                refine w_allG (l := [9]) (by decide +kernel) ⟨?_, trivial⟩
                refine x_shut ?_
                refine w_end ?_
                refine w_allG (l := [10]) (by decide +kernel) ⟨?_, trivial⟩
                refine x_pickT ?_
                refine w_end ?_
                refine w_allG (l := [11]) (by decide +kernel) ⟨?_, trivial⟩
                refine x_move ?_
                refine w_end ?_
                refine w_allG (l := [12]) (by decide +kernel) ⟨?_, trivial⟩
                refine x_shut ?_
                refine w_end ?_
                refine w_allG (l := [13]) (by decide +kernel) ⟨?_, trivial⟩
                refine x_shut ?_
                refine w_end ?_
                refine w_allG (l := [14]) (by decide +kernel) ⟨?_, trivial⟩
                refine x_shut ?_
                refine w_end ?_
                refine w_allG (l := [15]) (by decide +kernel) ⟨?_, trivial⟩
                refine x_shut' ?_
                refine w_end ?_
                refine w_allG (l := [16]) (by decide +kernel) ⟨?_, trivial⟩
                refine x_shut' ?_
                refine w_end ?_
                refine w_allG (l := [17]) (by decide +kernel) ⟨?_, trivial⟩
                refine x_shut' ?_
                refine w_end ?_
                refine w_allG (l := [18]) (by decide +kernel) ⟨?_, trivial⟩
                refine x_shut ?_
                refine w_end ?_
                refine w_allG (l := [19]) (by decide +kernel) ⟨?_, trivial⟩
                refine x_pickT ?_
                refine w_end ?_
                refine w_allG (l := [20]) (by decide +kernel) ⟨?_, trivial⟩
                refine x_move ?_
                refine w_end ?_
                refine w_allG (l := [21]) (by decide +kernel) ⟨?_, trivial⟩
                refine x_shut ?_
                refine w_end ?_
                refine w_allG (l := [22]) (by decide +kernel) ⟨?_, trivial⟩
                refine x_shut ?_
                refine w_end ?_
                refine w_allG (l := [23]) (by decide +kernel) ⟨?_, trivial⟩
                refine x_shut ?_
                refine w_end ?_
                refine w_allG (l := [24]) (by decide +kernel) ⟨?_, trivial⟩
                refine x_shut' ?_
                refine w_end ?_
                refine w_allG (l := [25]) (by decide +kernel) ⟨?_, trivial⟩
                refine x_shut' ?_
                refine w_end ?_
                refine w_allG (l := [26]) (by decide +kernel) ⟨?_, trivial⟩
                refine x_shut' ?_
                refine w_end ?_
                refine w_allG (l := [27]) (by decide +kernel) ⟨?_, trivial⟩
                refine x_shut ?_
                refine w_end ?_
                refine w_allG (l := [28]) (by decide +kernel) ⟨?_, trivial⟩
                refine x_pickT ?_
                refine w_end ?_
                refine w_doneG hK28 ?_
                refine hK27 _ _ (Ghost.refl _) ?_
                refine a_condT rfl ?_
                refine a_seq fun K30 hK30 => ?_
                refine a_region rfl fun K31 hK31 => ?_
                refine x_assign ?_
                refine r_nil hK31 ?_
                refine hK30 _ _ (Ghost.refl _) ?_
                refine a_ret ?_
                refine then_ret ?_
                refine hK21 .ret _ (in_ret ?_)
                refine then_ret ?_
                refine then_ret ?_
                refine hK14 .ret _ (in_ret ?_)
                refine then_ret ?_
                refine leave_val (.inr rfl) rfl rfl rfl (congrArg (fun z => V.val (.bool z)) ?_)
                first
                  | (symm; rw [decide_eq_false_iff_not]; intro hh;  have h1 := hh.1; have h2 := hh.2.1; omega)
                  | (symm; rw [decide_eq_false_iff_not]; intro hh;  have h3 := hh.2.2.1 i.toNat (by omega); unfold nodeOk at h3; omega)
                  | (symm; rw [decide_eq_false_iff_not]; intro hh;  have h3 := hh.2.2.2 i2.toNat (by omega); have h4 := hcl i2.toNat (by omega); exact h19 (by rw [h4]; exact h3))
                  | (symm; rw [decide_eq_true_iff]; exact ⟨by omega, by omega, fun j hj => hn j (by omega), fun j hj => hk j (by omega) hj⟩)
              · skip
                refine x_shut ?_
                refine w_end ?_
                refine w_allG (l := [6]) (by decide +kernel) ⟨?_, trivial⟩
                refine x_shut ?_
                refine w_end ?_
                refine w_allG (l := [7]) (by decide +kernel) ⟨?_, trivial⟩
                refine x_shut ?_
                refine w_end ?_
                refine w_allG (l := [4]) (by decide +kernel) ⟨?_, trivial⟩
                refine x_shut ?_
                refine w_end ?_
                refine w_allG (l := [8]) (by decide +kernel) ⟨?_, trivial⟩
                refine x_shut ?_
                refine w_end ?_
                refine w_allG (l := [9]) (by decide +kernel) ⟨?_, trivial⟩
                refine x_shut ?_
                refine w_end ?_
                refine w_allG (l := [10]) (by decide +kernel) ⟨?_, trivial⟩
                refine x_pickT ?_
                refine w_end ?_
                refine w_allG (l := [11]) (by decide +kernel) ⟨?_, trivial⟩
                refine x_move ?_
                refine w_end ?_
                refine w_allG (l := [12]) (by decide +kernel) ⟨?_, trivial⟩
                refine x_shut ?_
                refine w_end ?_
                refine w_allG (l := [13]) (by decide +kernel) ⟨?_, trivial⟩
                refine x_shut ?_
                refine w_end ?_
                refine w_allG (l := [14]) (by decide +kernel) ⟨?_, trivial⟩
                refine x_shut ?_
                refine w_end ?_
                refine w_allG (l := [15]) (by decide +kernel) ⟨?_, trivial⟩
                refine x_shut' ?_
                refine w_end ?_
                refine w_allG (l := [16]) (by decide +kernel) ⟨?_, trivial⟩
                refine x_shut' ?_
                refine w_end ?_
                refine w_allG (l := [17]) (by decide +kernel) ⟨?_, trivial⟩
                refine x_shut' ?_
                refine w_end ?_
                refine w_allG (l := [18]) (by decide +kernel) ⟨?_, trivial⟩
                refine x_shut ?_
                refine w_end ?_
                refine w_allG (l := [19]) (by decide +kernel) ⟨?_, trivial⟩
                refine x_pickT ?_
                refine w_end ?_
                refine w_allG (l := [20]) (by decide +kernel) ⟨?_, trivial⟩
                refine x_move ?_
                refine w_end ?_
                refine w_allG (l := [21]) (by decide +kernel) ⟨?_, trivial⟩
                refine x_shut ?_
                refine w_end ?_
                refine w_allG (l := [22]) (by decide +kernel) ⟨?_, trivial⟩
                refine x_shut ?_
                refine w_end ?_
                refine w_allG (l := [23]) (by decide +kernel) ⟨?_, trivial⟩
                refine x_shut ?_
                refine w_end ?_
                refine w_allG (l := [24]) (by decide +kernel) ⟨?_, trivial⟩
                refine x_shut' ?_
                refine w_end ?_
                refine w_allG (l := [25]) (by decide +kernel) ⟨?_, trivial⟩
                refine x_shut' ?_
                refine w_end ?_
                refine w_allG (l := [26]) (by decide +kernel) ⟨?_, trivial⟩
                refine x_shut' ?_
                refine w_end ?_
                refine w_allG (l := [27]) (by decide +kernel) ⟨?_, trivial⟩
                refine x_shut ?_
                refine w_end ?_
                refine w_allG (l := [28]) (by decide +kernel) ⟨?_, trivial⟩
                refine x_pickT ?_
                refine w_end ?_
                refine w_doneG hK28 ?_
                refine hK27 _ _ (Ghost.refl _) ?_
                refine a_condT rfl ?_
                refine a_seq fun K32 hK32 => ?_
                refine a_region rfl fun K33 hK33 => ?_
                refine x_assign ?_
                refine r_nil hK33 ?_
                refine hK32 _ _ (Ghost.refl _) ?_
                refine a_ret ?_
                refine then_ret ?_
                refine hK21 .ret _ (in_ret ?_)
                refine then_ret ?_
                refine then_ret ?_
                refine hK14 .ret _ (in_ret ?_)
                refine then_ret ?_
                refine leave_val (.inr rfl) rfl rfl rfl (congrArg (fun z => V.val (.bool z)) ?_)
                first
                  | (symm; rw [decide_eq_false_iff_not]; intro hh;  have h1 := hh.1; have h2 := hh.2.1; omega)
                  | (symm; rw [decide_eq_false_iff_not]; intro hh;  have h3 := hh.2.2.1 i.toNat (by omega); unfold nodeOk at h3; omega)
                  | (symm; rw [decide_eq_false_iff_not]; intro hh;  have h3 := hh.2.2.2 i2.toNat (by omega); have h4 := hcl i2.toNat (by omega); exact h19 (by rw [h4]; exact h3))
                  | (symm; rw [decide_eq_true_iff]; exact ⟨by omega, by omega, fun j hj => hn j (by omega), fun j hj => hk j (by omega) hj⟩)
            · skip
              refine x_fieldAddr ?_
              refine w_end ?_
              refine w_allG (l := [4, 5]) (by decide +kernel) ⟨?_, ?_, trivial⟩
              · skip
                refine x_load ?_
                refine w_end ?_
                refine w_allG (l := [5]) (by decide +kernel) ⟨?_, trivial⟩
                refine x_fieldAddr ?_
                refine w_end ?_
                refine w_allG (l := [6]) (by decide +kernel) ⟨?_, trivial⟩
                refine x_load ?_
                refine w_end ?_
                refine w_allG (l := [7]) (by decide +kernel) ⟨?_, trivial⟩
                refine x_call (s_spec_l02Most) ?_ (hl := by first | rfl | (repeat (first | exact lendL_nil | refine lendL_cons (by first | rfl | exact lend_ref rfl (ro_eL (by intro _; first | rfl | exact roL_cL (by intro _; rfl))) | exact lend_refp rfl (ro_eL (by intro _; first | rfl | exact roL_cL (by intro _; rfl))) | exact lend_agg (by repeat (first | exact lendL_nil | refine lendL_cons (by first | rfl | exact lend_ref rfl (ro_eL (by intro _; first | rfl | exact roL_cL (by intro _; rfl))) | exact lend_refp rfl (ro_eL (by intro _; first | rfl | exact roL_cL (by intro _; rfl)))) ?_))) ?_)))
                rintro _ _ rfl
                refine w_end ?_
                refine w_allG (l := [8]) (by decide +kernel) ⟨?_, trivial⟩
                refine x_call (s_spec_l01In) ?_ (hl := by first | rfl | (repeat (first | exact lendL_nil | refine lendL_cons (by first | rfl | exact lend_ref rfl (ro_eL (by intro _; first | rfl | exact roL_cL (by intro _; rfl))) | exact lend_refp rfl (ro_eL (by intro _; first | rfl | exact roL_cL (by intro _; rfl))) | exact lend_agg (by repeat (first | exact lendL_nil | refine lendL_cons (by first | rfl | exact lend_ref rfl (ro_eL (by intro _; first | rfl | exact roL_cL (by intro _; rfl))) | exact lend_refp rfl (ro_eL (by intro _; first | rfl | exact roL_cL (by intro _; rfl)))) ?_))) ?_)))
                rintro _ _ rfl
                refine w_end ?_
                refine w_allG (l := [9]) (by decide +kernel) ⟨?_, trivial⟩
                refine x_un ?_
                refine w_end ?_
                refine w_allG (l := [10]) (by decide +kernel) ⟨?_, trivial⟩
                refine x_pickF ?_
                refine w_end ?_
                refine w_allG (l := [11]) (by decide +kernel) ⟨?_, trivial⟩
                refine x_move ?_
                refine w_end ?_
                refine w_allG (l := [12]) (by decide +kernel) ⟨?_, trivial⟩
                refine x_split 37 rfl (by first | exact .beq | exact .bne | exact .dec | exact .not .beq | exact .not .bne | exact .not .dec | exact .not .id | exact .id) (fun h34 => ?_) (fun h34 => ?_)
                · skip
                  refine x_shut ?_
                  refine w_end ?_
                  refine w_allG (l := [13]) (by decide +kernel) ⟨?_, trivial⟩
                  refine x_shut ?_
                  refine w_end ?_
                  refine w_allG (l := [14]) (by decide +kernel) ⟨?_, trivial⟩
                  refine x_shut ?_
                  refine w_end ?_
                  refine w_allG (l := [15]) (by decide +kernel) ⟨?_, trivial⟩
                  refine x_shut' ?_
                  refine w_end ?_
                  refine w_allG (l := [16]) (by decide +kernel) ⟨?_, trivial⟩
                  refine x_shut' ?_
                  refine w_end ?_
                  refine w_allG (l := [17]) (by decide +kernel) ⟨?_, trivial⟩
                  refine x_shut' ?_
                  refine w_end ?_
                  refine w_allG (l := [18]) (by decide +kernel) ⟨?_, trivial⟩
                  refine x_shut ?_
                  refine w_end ?_
                  refine w_allG (l := [19]) (by decide +kernel) ⟨?_, trivial⟩
                  refine x_pickT ?_
                  refine w_end ?_
                  refine w_allG (l := [20]) (by decide +kernel) ⟨?_, trivial⟩
                  refine x_move ?_
                  refine w_end ?_
                  refine w_allG (l := [21]) (by decide +kernel) ⟨?_, trivial⟩
                  refine x_shut ?_
                  refine w_end ?_
                  refine w_allG (l := [22]) (by decide +kernel) ⟨?_, trivial⟩
                  refine x_shut ?_
                  refine w_end ?_
                  refine w_allG (l := [23]) (by decide +kernel) ⟨?_, trivial⟩
                  refine x_shut ?_
                  refine w_end ?_
                  refine w_allG (l := [24]) (by decide +kernel) ⟨?_, trivial⟩
                  refine x_shut' ?_
                  refine w_end ?_
                  refine w_allG (l := [25]) (by decide +kernel) ⟨?_, trivial⟩
                  refine x_shut' ?_
                  refine w_end ?_
                  refine w_allG (l := [26]) (by decide +kernel) ⟨?_, trivial⟩
                  refine x_shut' ?_
                  refine w_end ?_
                  refine w_allG (l := [27]) (by decide +kernel) ⟨?_, trivial⟩
                  refine x_shut ?_
                  refine w_end ?_
                  refine w_allG (l := [28]) (by decide +kernel) ⟨?_, trivial⟩
                  refine x_pickT ?_
                  refine w_end ?_
                  refine w_doneG hK28 ?_
                  refine hK27 _ _ (ghost_has (ks := [(0, .v _), (3, .ref 15 []), (4, .v _), (5, .ref 5 []), (6, .v _), (16, .v _), (17, .v _), (18, .v _), (54, .v _)]) (km := [(0, _), (5, _), (15, _), (25, _)]) ⟨rfl, rfl, rfl, rfl, rfl, rfl, rfl, rfl, rfl, trivial⟩ ⟨rfl, rfl, rfl, rfl, trivial⟩ rfl) ?_
                  refine a_condT rfl ?_
                  refine a_seq fun K35 hK35 => ?_
                  refine a_region rfl fun K36 hK36 => ?_
                  refine x_assign ?_
                  refine r_nil hK36 ?_
                  refine hK35 _ _ (Ghost.refl _) ?_
                  refine a_ret ?_
                  refine then_ret ?_
                  refine hK21 .ret _ (in_ret ?_)
                  refine then_ret ?_
                  refine then_ret ?_
                  refine hK14 .ret _ (in_ret ?_)
                  refine then_ret ?_
                  refine leave_val (.inr rfl) rfl rfl rfl (congrArg (fun z => V.val (.bool z)) ?_)
                  first
                    | (symm; rw [decide_eq_false_iff_not]; intro hh;  have h1 := hh.1; have h2 := hh.2.1; omega)
                    | (symm; rw [decide_eq_false_iff_not]; intro hh;  have h3 := hh.2.2.1 i.toNat (by omega); unfold nodeOk at h3; omega)
                    | (symm; rw [decide_eq_false_iff_not]; intro hh;  have h3 := hh.2.2.2 i2.toNat (by omega); have h4 := hcl i2.toNat (by omega); exact h29 (by rw [h4]; exact h3))
                    | (symm; rw [decide_eq_true_iff]; exact ⟨by omega, by omega, fun j hj => hn j (by omega), fun j hj => hk j (by omega) hj⟩)
                · skip
                  refine x_move ?_
                  refine w_end ?_
                  refine w_allG (l := [13]) (by decide +kernel) ⟨?_, trivial⟩
                  refine x_bin ?_
                  refine w_end ?_
                  refine w_allG (l := [14]) (by decide +kernel) ⟨?_, trivial⟩
                  refine x_move ?_
                  refine w_end ?_
                  refine w_allG (l := [15]) (by decide +kernel) ⟨?_, trivial⟩
                  refine x_split 40 rfl (by first | exact .beq | exact .bne | exact .dec | exact .not .beq | exact .not .bne | exact .not .dec | exact .not .id | exact .id) (fun h37 => ?_) (fun h37 => ?_)
                  · skip
                    refine x_fieldAddr ?_
                    refine w_end ?_
                    refine w_allG (l := [16]) (by decide +kernel) ⟨?_, trivial⟩
                    refine x_load ?_
                    refine w_end ?_
                    refine w_allG (l := [17]) (by decide +kernel) ⟨?_, trivial⟩
                    refine x_bin ?_
                    refine w_end ?_
                    refine w_allG (l := [18]) (by decide +kernel) ⟨?_, trivial⟩
                    refine x_pickT ?_
                    refine w_end ?_
                    refine w_allG (l := [19]) (by decide +kernel) ⟨?_, trivial⟩
                    refine x_pickF ?_
                    refine w_end ?_
                    refine w_allG (l := [20]) (by decide +kernel) ⟨?_, trivial⟩
                    refine x_move ?_
                    refine w_end ?_
                    refine w_allG (l := [21]) (by decide +kernel) ⟨?_, trivial⟩
                    refine x_split 46 rfl (by first | exact .beq | exact .bne | exact .dec | exact .not .beq | exact .not .bne | exact .not .dec | exact .not .id | exact .id) (fun h38 => ?_) (fun h38 => ?_)
                    · skip
                      refine x_shut ?_
                      refine w_end ?_
                      refine w_allG (l := [22]) (by decide +kernel) ⟨?_, trivial⟩
                      refine x_shut ?_
                      refine w_end ?_
                      refine w_allG (l := [23]) (by decide +kernel) ⟨?_, trivial⟩
                      refine x_shut ?_
                      refine w_end ?_
                      refine w_allG (l := [24]) (by decide +kernel) ⟨?_, trivial⟩
                      refine x_shut' ?_
                      refine w_end ?_
                      refine w_allG (l := [25]) (by decide +kernel) ⟨?_, trivial⟩
                      refine x_shut' ?_
                      refine w_end ?_
                      refine w_allG (l := [26]) (by decide +kernel) ⟨?_, trivial⟩
                      refine x_shut' ?_
                      refine w_end ?_
                      refine w_allG (l := [27]) (by decide +kernel) ⟨?_, trivial⟩
                      refine x_shut ?_
                      refine w_end ?_
                      refine w_allG (l := [28]) (by decide +kernel) ⟨?_, trivial⟩
                      refine x_pickT ?_
                      refine w_end ?_
                      refine w_doneG hK28 ?_
                      refine hK27 _ _ (ghost_has (ks := [(0, .v _), (3, .ref 15 []), (4, .v _), (5, .ref 5 []), (6, .v _), (16, .v _), (17, .v _), (18, .v _), (54, .v _)]) (km := [(0, _), (5, _), (15, _), (25, _)]) ⟨rfl, rfl, rfl, rfl, rfl, rfl, rfl, rfl, rfl, trivial⟩ ⟨rfl, rfl, rfl, rfl, trivial⟩ rfl) ?_
                      refine a_condT rfl ?_
                      refine a_seq fun K39 hK39 => ?_
                      refine a_region rfl fun K40 hK40 => ?_
                      refine x_assign ?_
                      refine r_nil hK40 ?_
                      refine hK39 _ _ (Ghost.refl _) ?_
                      refine a_ret ?_
                      refine then_ret ?_
                      refine hK21 .ret _ (in_ret ?_)
                      refine then_ret ?_
                      refine then_ret ?_
                      refine hK14 .ret _ (in_ret ?_)
                      refine then_ret ?_
                      refine leave_val (.inr rfl) rfl rfl rfl (congrArg (fun z => V.val (.bool z)) ?_)
                      first
                        | (symm; rw [decide_eq_false_iff_not]; intro hh;  have h1 := hh.1; have h2 := hh.2.1; omega)
                        | (symm; rw [decide_eq_false_iff_not]; intro hh;  have h3 := hh.2.2.1 i.toNat (by omega); unfold nodeOk at h3; omega)
                        | (symm; rw [decide_eq_false_iff_not]; intro hh;  have h3 := hh.2.2.2 i2.toNat (by omega); have h4 := hcl i2.toNat (by omega); exact h37 (by rw [h4]; exact h3))
                        | (symm; rw [decide_eq_true_iff]; exact ⟨by omega, by omega, fun j hj => hn j (by omega), fun j hj => hk j (by omega) hj⟩)
                    · skip
                      refine x_move ?_
                      refine w_end ?_
                      refine w_allG (l := [22]) (by decide +kernel) ⟨?_, trivial⟩
                      refine x_bin ?_
                      refine w_end ?_
                      refine w_allG (l := [23]) (by decide +kernel) ⟨?_, trivial⟩
                      refine x_move ?_
                      refine w_end ?_
                      refine w_allG (l := [24]) (by decide +kernel) ⟨?_, trivial⟩
                      refine x_split 49 rfl (by first | exact .beq | exact .bne | exact .dec | exact .not .beq | exact .not .bne | exact .not .dec | exact .not .id | exact .id) (fun h41 => ?_) (fun h41 => ?_)
                      · skip
                        refine x_fieldAddr ?_
                        refine w_end ?_
                        refine w_allG (l := [25]) (by decide +kernel) ⟨?_, trivial⟩
                        refine x_load ?_
                        refine w_end ?_
                        refine w_allG (l := [26]) (by decide +kernel) ⟨?_, trivial⟩
                        refine x_bin ?_
                        refine w_end ?_
                        refine w_allG (l := [27]) (by decide +kernel) ⟨?_, trivial⟩
                        refine x_pickT ?_
                        refine w_end ?_
                        refine w_allG (l := [28]) (by decide +kernel) ⟨?_, trivial⟩
                        refine x_pickF ?_
                        refine w_end ?_
                        refine w_doneG hK28 ?_
                        refine hK27 _ _ (ghost_has (ks := [(0, .v _), (3, .ref 15 []), (4, .v _), (5, .ref 5 []), (6, .v _), (16, .v _), (17, .v _), (18, .v _), (54, .v _)]) (km := [(0, _), (5, _), (15, _), (25, _)]) ⟨rfl, rfl, rfl, rfl, rfl, rfl, rfl, rfl, rfl, trivial⟩ ⟨rfl, rfl, rfl, rfl, trivial⟩ rfl) ?_
                        refine a_condS 54 rfl (by first | exact .beq | exact .bne | exact .dec | exact .not .beq | exact .not .bne | exact .not .dec | exact .not .id | exact .id) (fun h42 => ?_) (fun h42 => ?_)
                        · skip
                          refine a_seq fun K43 hK43 => ?_
                          refine a_region rfl fun K44 hK44 => ?_
                          refine x_assign ?_
                          refine r_nil hK44 ?_
                          refine hK43 _ _ (Ghost.refl _) ?_
                          refine a_ret ?_
                          refine then_ret ?_
                          refine hK21 .ret _ (in_ret ?_)
                          refine then_ret ?_
                          refine then_ret ?_
                          refine hK14 .ret _ (in_ret ?_)
                          refine then_ret ?_
                          refine leave_val (.inr rfl) rfl rfl rfl (congrArg (fun z => V.val (.bool z)) ?_)
                          first
                            | (symm; rw [decide_eq_false_iff_not]; intro hh;  have h1 := hh.1; have h2 := hh.2.1; omega)
                            | (symm; rw [decide_eq_false_iff_not]; intro hh;  have h3 := hh.2.2.1 i.toNat (by omega); unfold nodeOk at h3; omega)
                            | (symm; rw [decide_eq_false_iff_not]; intro hh;  have h3 := hh.2.2.2 i2.toNat (by omega); have h4 := hcl i2.toNat (by omega); exact h41 (by rw [h4]; exact h3))
                            | (symm; rw [decide_eq_true_iff]; exact ⟨by omega, by omega, fun j hj => hn j (by omega), fun j hj => hk j (by omega) hj⟩)
                        · skip
                          refine a_skip ?_
                          refine hK26 () _ _ _ (Ghost.refl _) ⟨rfl, rfl, rfl, rfl, rfl, rfl, rfl, rfl, trivial⟩ ⟨rfl, rfl, rfl, rfl, trivial⟩ ?_
                          try dsimp only
                          ·
                            first | omega | rfl | assumption | (simp; done) | (simp_all; done)
                      · skip
                        refine x_shut ?_
                        refine w_end ?_
                        refine w_allG (l := [25]) (by decide +kernel) ⟨?_, trivial⟩
                        refine x_shut ?_
                        refine w_end ?_
                        refine w_allG (l := [26]) (by decide +kernel) ⟨?_, trivial⟩
                        refine x_shut ?_
                        refine w_end ?_
                        refine w_allG (l := [27]) (by decide +kernel) ⟨?_, trivial⟩
                        refine x_pickF ?_
                        refine w_end ?_
                        refine w_allG (l := [28]) (by decide +kernel) ⟨?_, trivial⟩
                        refine x_pickF ?_
                        refine w_end ?_
                        refine w_doneG hK28 ?_
                        refine hK27 _ _ (ghost_has (ks := [(0, .v _), (3, .ref 15 []), (4, .v _), (5, .ref 5 []), (6, .v _), (16, .v _), (17, .v _), (18, .v _), (54, .v _)]) (km := [(0, _), (5, _), (15, _), (25, _)]) ⟨rfl, rfl, rfl, rfl, rfl, rfl, rfl, rfl, rfl, trivial⟩ ⟨rfl, rfl, rfl, rfl, trivial⟩ rfl) ?_
                        refine a_condF rfl ?_
                        refine a_skip ?_
                        refine hK26 () _ _ _ (Ghost.refl _) ⟨rfl, rfl, rfl, rfl, rfl, rfl, rfl, rfl, trivial⟩ ⟨rfl, rfl, rfl, rfl, trivial⟩ ?_
                        try dsimp only
                        ·
                          first | omega | rfl | assumption | (simp; done) | (simp_all; done)
                  · skip
                    refine x_shut ?_
                    refine w_end ?_
                    refine w_allG (l := [16]) (by decide +kernel) ⟨?_, trivial⟩
                    refine x_shut ?_
                    refine w_end ?_
                    refine w_allG (l := [17]) (by decide +kernel) ⟨?_, trivial⟩
                    refine x_shut ?_
                    refine w_end ?_
                    refine w_allG (l := [18]) (by decide +kernel) ⟨?_, trivial⟩
                    refine x_pickF ?_
                    refine w_end ?_
                    refine w_allG (l := [19]) (by decide +kernel) ⟨?_, trivial⟩
                    refine x_pickF ?_
                    refine w_end ?_
                    refine w_allG (l := [20]) (by decide +kernel) ⟨?_, trivial⟩
                    refine x_move ?_
                    refine w_end ?_
                    refine w_allG (l := [21]) (by decide +kernel) ⟨?_, trivial⟩
                    refine x_move ?_
                    refine w_end ?_
                    refine w_allG (l := [22]) (by decide +kernel) ⟨?_, trivial⟩
                    refine x_bin ?_
                    refine w_end ?_
                    refine w_allG (l := [23]) (by decide +kernel) ⟨?_, trivial⟩
                    refine x_move ?_
                    refine w_end ?_
                    refine w_allG (l := [24]) (by decide +kernel) ⟨?_, trivial⟩
                    refine x_split 49 rfl (by first | exact .beq | exact .bne | exact .dec | exact .not .beq | exact .not .bne | exact .not .dec | exact .not .id | exact .id) (fun h45 => ?_) (fun h45 => ?_)
                    · skip
                      refine x_fieldAddr ?_
                      refine w_end ?_
                      refine w_allG (l := [25]) (by decide +kernel) ⟨?_, trivial⟩
                      refine x_load ?_
                      refine w_end ?_
                      refine w_allG (l := [26]) (by decide +kernel) ⟨?_, trivial⟩
                      refine x_bin ?_
                      refine w_end ?_
                      refine w_allG (l := [27]) (by decide +kernel) ⟨?_, trivial⟩
                      refine x_pickT ?_
                      refine w_end ?_
                      refine w_allG (l := [28]) (by decide +kernel) ⟨?_, trivial⟩
                      refine x_pickF ?_
                      refine w_end ?_
                      refine w_doneG hK28 ?_
                      refine hK27 _ _ (ghost_has (ks := [(0, .v _), (3, .ref 15 []), (4, .v _), (5, .ref 5 []), (6, .v _), (16, .v _), (17, .v _), (18, .v _), (54, .v _)]) (km := [(0, _), (5, _), (15, _), (25, _)]) ⟨rfl, rfl, rfl, rfl, rfl, rfl, rfl, rfl, rfl, trivial⟩ ⟨rfl, rfl, rfl, rfl, trivial⟩ rfl) ?_
                      refine a_condS 54 rfl (by first | exact .beq | exact .bne | exact .dec | exact .not .beq | exact .not .bne | exact .not .dec | exact .not .id | exact .id) (fun h46 => ?_) (fun h46 => ?_)
                      · skip
                        refine a_seq fun K47 hK47 => ?_
                        refine a_region rfl fun K48 hK48 => ?_
                        refine x_assign ?_
                        refine r_nil hK48 ?_
                        refine hK47 _ _ (Ghost.refl _) ?_
                        refine a_ret ?_
                        refine then_ret ?_
                        refine hK21 .ret _ (in_ret ?_)
                        refine then_ret ?_
                        refine then_ret ?_
                        refine hK14 .ret _ (in_ret ?_)
                        refine then_ret ?_
                        refine leave_val (.inr rfl) rfl rfl rfl (congrArg (fun z => V.val (.bool z)) ?_)
                        first
                          | (symm; rw [decide_eq_false_iff_not]; intro hh;  have h1 := hh.1; have h2 := hh.2.1; omega)
                          | (symm; rw [decide_eq_false_iff_not]; intro hh;  have h3 := hh.2.2.1 i.toNat (by omega); unfold nodeOk at h3; omega)
                          | (symm; rw [decide_eq_false_iff_not]; intro hh;  have h3 := hh.2.2.2 i2.toNat (by omega); have h4 := hcl i2.toNat (by omega); exact h45 (by rw [h4]; exact h3))
                          | (symm; rw [decide_eq_true_iff]; exact ⟨by omega, by omega, fun j hj => hn j (by omega), fun j hj => hk j (by omega) hj⟩)
                      · skip
                        refine a_skip ?_
                        refine hK26 () _ _ _ (Ghost.refl _) ⟨rfl, rfl, rfl, rfl, rfl, rfl, rfl, rfl, trivial⟩ ⟨rfl, rfl, rfl, rfl, trivial⟩ ?_
                        try dsimp only
                        ·
                          first | omega | rfl | assumption | (simp; done) | (simp_all; done)
                    · skip
                      refine x_shut ?_
                      refine w_end ?_
                      refine w_allG (l := [25]) (by decide +kernel) ⟨?_, trivial⟩
                      refine x_shut ?_
                      refine w_end ?_
                      refine w_allG (l := [26]) (by decide +kernel) ⟨?_, trivial⟩
                      refine x_shut ?_
                      refine w_end ?_
                      refine w_allG (l := [27]) (by decide +kernel) ⟨?_, trivial⟩
                      refine x_pickF ?_
                      refine w_end ?_
                      refine w_allG (l := [28]) (by decide +kernel) ⟨?_, trivial⟩
                      refine x_pickF ?_
                      refine w_end ?_
                      refine w_doneG hK28 ?_
                      refine hK27 _ _ (ghost_has (ks := [(0, .v _), (3, .ref 15 []), (4, .v _), (5, .ref 5 []), (6, .v _), (16, .v _), (17, .v _), (18, .v _), (54, .v _)]) (km := [(0, _), (5, _), (15, _), (25, _)]) ⟨rfl, rfl, rfl, rfl, rfl, rfl, rfl, rfl, rfl, trivial⟩ ⟨rfl, rfl, rfl, rfl, trivial⟩ rfl) ?_
                      refine a_condF rfl ?_
                      refine a_skip ?_
                      refine hK26 () _ _ _ (Ghost.refl _) ⟨rfl, rfl, rfl, rfl, rfl, rfl, rfl, rfl, trivial⟩ ⟨rfl, rfl, rfl, rfl, trivial⟩ ?_
                      try dsimp only
                      ·
                        first | omega | rfl | assumption | (simp; done) | (simp_all; done)
              · skip
                refine x_fieldAddr ?_
                refine w_end ?_
                refine w_allG (l := [6]) (by decide +kernel) ⟨?_, trivial⟩
                refine x_load ?_
                refine w_end ?_
                refine w_allG (l := [7]) (by decide +kernel) ⟨?_, trivial⟩
                refine x_call (s_spec_l02Most) ?_ (hl := by first | rfl | (repeat (first | exact lendL_nil | refine lendL_cons (by first | rfl | exact lend_ref rfl (ro_eL (by intro _; first | rfl | exact roL_cL (by intro _; rfl))) | exact lend_refp rfl (ro_eL (by intro _; first | rfl | exact roL_cL (by intro _; rfl))) | exact lend_agg (by repeat (first | exact lendL_nil | refine lendL_cons (by first | rfl | exact lend_ref rfl (ro_eL (by intro _; first | rfl | exact roL_cL (by intro _; rfl))) | exact lend_refp rfl (ro_eL (by intro _; first | rfl | exact roL_cL (by intro _; rfl)))) ?_))) ?_)))
                rintro _ _ rfl
                refine w_end ?_
                refine w_allG (l := [4]) (by decide +kernel) ⟨?_, trivial⟩
                refine x_load ?_
                refine w_end ?_
                refine w_allG (l := [8]) (by decide +kernel) ⟨?_, trivial⟩
                refine x_call (s_spec_l01In) ?_ (hl := by first | rfl | (repeat (first | exact lendL_nil | refine lendL_cons (by first | rfl | exact lend_ref rfl (ro_eL (by intro _; first | rfl | exact roL_cL (by intro _; rfl))) | exact lend_refp rfl (ro_eL (by intro _; first | rfl | exact roL_cL (by intro _; rfl))) | exact lend_agg (by repeat (first | exact lendL_nil | refine lendL_cons (by first | rfl | exact lend_ref rfl (ro_eL (by intro _; first | rfl | exact roL_cL (by intro _; rfl))) | exact lend_refp rfl (ro_eL (by intro _; first | rfl | exact roL_cL (by intro _; rfl)))) ?_))) ?_)))
                rintro _ _ rfl
                refine w_end ?_
                refine w_allG (l := [9]) (by decide +kernel) ⟨?_, trivial⟩
                refine x_un ?_
                refine w_end ?_
                refine w_allG (l := [10]) (by decide +kernel) ⟨?_, trivial⟩
                refine x_pickF ?_
                refine w_end ?_
                refine w_allG (l := [11]) (by decide +kernel) ⟨?_, trivial⟩
                refine x_move ?_
                refine w_end ?_
                refine w_allG (l := [12]) (by decide +kernel) ⟨?_, trivial⟩
                refine x_split 37 rfl (by first | exact .beq | exact .bne | exact .dec | exact .not .beq | exact .not .bne | exact .not .dec | exact .not .id | exact .id) (fun h49 => ?_) (fun h49 => ?_)
                · skip
                  refine x_shut ?_
                  refine w_end ?_
                  refine w_allG (l := [13]) (by decide +kernel) ⟨?_, trivial⟩
                  refine x_shut ?_
                  refine w_end ?_
                  refine w_allG (l := [14]) (by decide +kernel) ⟨?_, trivial⟩
                  refine x_shut ?_
                  refine w_end ?_
                  refine w_allG (l := [15]) (by decide +kernel) ⟨?_, trivial⟩
                  refine x_shut' ?_
                  refine w_end ?_
                  refine w_allG (l := [16]) (by decide +kernel) ⟨?_, trivial⟩
                  refine x_shut' ?_
                  refine w_end ?_
                  refine w_allG (l := [17]) (by decide +kernel) ⟨?_, trivial⟩
                  refine x_shut' ?_
                  refine w_end ?_
                  refine w_allG (l := [18]) (by decide +kernel) ⟨?_, trivial⟩
                  refine x_shut ?_
                  refine w_end ?_
                  refine w_allG (l := [19]) (by decide +kernel) ⟨?_, trivial⟩
                  refine x_pickT ?_
                  refine w_end ?_
                  refine w_allG (l := [20]) (by decide +kernel) ⟨?_, trivial⟩
                  refine x_move ?_
                  refine w_end ?_
                  refine w_allG (l := [21]) (by decide +kernel) ⟨?_, trivial⟩
                  refine x_shut ?_
                  refine w_end ?_
                  refine w_allG (l := [22]) (by decide +kernel) ⟨?_, trivial⟩
                  refine x_shut ?_
                  refine w_end ?_
                  refine w_allG (l := [23]) (by decide +kernel) ⟨?_, trivial⟩
                  refine x_shut ?_
                  refine w_end ?_
                  refine w_allG (l := [24]) (by decide +kernel) ⟨?_, trivial⟩
                  refine x_shut' ?_
                  refine w_end ?_
                  refine w_allG (l := [25]) (by decide +kernel) ⟨?_, trivial⟩
                  refine x_shut' ?_
                  refine w_end ?_
                  refine w_allG (l := [26]) (by decide +kernel) ⟨?_, trivial⟩
                  refine x_shut' ?_
                  refine w_end ?_
                  refine w_allG (l := [27]) (by decide +kernel) ⟨?_, trivial⟩
                  refine x_shut ?_
                  refine w_end ?_
                  refine w_allG (l := [28]) (by decide +kernel) ⟨?_, trivial⟩
                  refine x_pickT ?_
                  refine w_end ?_
                  refine w_doneG hK28 ?_
                  refine hK27 _ _ (ghost_has (ks := [(0, .v _), (3, .ref 15 []), (4, .v _), (5, .ref 5 []), (6, .v _), (16, .v _), (17, .v _), (18, .v _), (54, .v _)]) (km := [(0, _), (5, _), (15, _), (25, _)]) ⟨rfl, rfl, rfl, rfl, rfl, rfl, rfl, rfl, rfl, trivial⟩ ⟨rfl, rfl, rfl, rfl, trivial⟩ rfl) ?_
                  refine a_condT rfl ?_
                  refine a_seq fun K50 hK50 => ?_
                  refine a_region rfl fun K51 hK51 => ?_
                  refine x_assign ?_
                  refine r_nil hK51 ?_
                  refine hK50 _ _ (Ghost.refl _) ?_
                  refine a_ret ?_
                  refine then_ret ?_
                  refine hK21 .ret _ (in_ret ?_)
                  refine then_ret ?_
                  refine then_ret ?_
                  refine hK14 .ret _ (in_ret ?_)
                  refine then_ret ?_
                  refine leave_val (.inr rfl) rfl rfl rfl (congrArg (fun z => V.val (.bool z)) ?_)
                  first
                    | (symm; rw [decide_eq_false_iff_not]; intro hh;  have h1 := hh.1; have h2 := hh.2.1; omega)
                    | (symm; rw [decide_eq_false_iff_not]; intro hh;  have h3 := hh.2.2.1 i.toNat (by omega); unfold nodeOk at h3; omega)
                    | (symm; rw [decide_eq_false_iff_not]; intro hh;  have h3 := hh.2.2.2 i2.toNat (by omega); have h4 := hcl i2.toNat (by omega); exact h45 (by rw [h4]; exact h3))
                    | (symm; rw [decide_eq_true_iff]; exact ⟨by omega, by omega, fun j hj => hn j (by omega), fun j hj => hk j (by omega) hj⟩)
                · skip
                  refine x_move ?_
                  refine w_end ?_
                  refine w_allG (l := [13]) (by decide +kernel) ⟨?_, trivial⟩
                  refine x_bin ?_
                  refine w_end ?_
                  refine w_allG (l := [14]) (by decide +kernel) ⟨?_, trivial⟩
                  refine x_move ?_
                  refine w_end ?_
                  refine w_allG (l := [15]) (by decide +kernel) ⟨?_, trivial⟩
                  refine x_split 40 rfl (by first | exact .beq | exact .bne | exact .dec | exact .not .beq | exact .not .bne | exact .not .dec | exact .not .id | exact .id) (fun h52 => ?_) (fun h52 => ?_)
                  · skip
                    refine x_fieldAddr ?_
                    refine w_end ?_
                    refine w_allG (l := [16]) (by decide +kernel) ⟨?_, trivial⟩
                    refine x_load ?_
                    refine w_end ?_
                    refine w_allG (l := [17]) (by decide +kernel) ⟨?_, trivial⟩
                    refine x_bin ?_
                    refine w_end ?_
                    refine w_allG (l := [18]) (by decide +kernel) ⟨?_, trivial⟩
                    refine x_pickT ?_
                    refine w_end ?_
                    refine w_allG (l := [19]) (by decide +kernel) ⟨?_, trivial⟩
                    refine x_pickF ?_
                    refine w_end ?_
                    refine w_allG (l := [20]) (by decide +kernel) ⟨?_, trivial⟩
                    refine x_move ?_
                    refine w_end ?_
                    refine w_allG (l := [21]) (by decide +kernel) ⟨?_, trivial⟩
                    refine x_split 46 rfl (by first | exact .beq | exact .bne | exact .dec | exact .not .beq | exact .not .bne | exact .not .dec | exact .not .id | exact .id) (fun h53 => ?_) (fun h53 => ?_)
                    · skip
                      refine x_shut ?_
                      refine w_end ?_
                      refine w_allG (l := [22]) (by decide +kernel) ⟨?_, trivial⟩
                      refine x_shut ?_
                      refine w_end ?_
                      refine w_allG (l := [23]) (by decide +kernel) ⟨?_, trivial⟩
                      refine x_shut ?_
                      refine w_end ?_
                      refine w_allG (l := [24]) (by decide +kernel) ⟨?_, trivial⟩
                      refine x_shut' ?_
                      refine w_end ?_
                      refine w_allG (l := [25]) (by decide +kernel) ⟨?_, trivial⟩
                      refine x_shut' ?_
                      refine w_end ?_
                      refine w_allG (l := [26]) (by decide +kernel) ⟨?_, trivial⟩
                      refine x_shut' ?_
                      refine w_end ?_
                      refine w_allG (l := [27]) (by decide +kernel) ⟨?_, trivial⟩
                      refine x_shut ?_
                      refine w_end ?_
                      refine w_allG (l := [28]) (by decide +kernel) ⟨?_, trivial⟩
                      refine x_pickT ?_
                      refine w_end ?_
                      refine w_doneG hK28 ?_
                      refine hK27 _ _ (ghost_has (ks := [(0, .v _), (3, .ref 15 []), (4, .v _), (5, .ref 5 []), (6, .v _), (16, .v _), (17, .v _), (18, .v _), (54, .v _)]) (km := [(0, _), (5, _), (15, _), (25, _)]) ⟨rfl, rfl, rfl, rfl, rfl, rfl, rfl, rfl, rfl, trivial⟩ ⟨rfl, rfl, rfl, rfl, trivial⟩ rfl) ?_
                      refine a_condT rfl ?_
                      refine a_seq fun K54 hK54 => ?_
                      refine a_region rfl fun K55 hK55 => ?_
                      refine x_assign ?_
                      refine r_nil hK55 ?_
                      refine hK54 _ _ (Ghost.refl _) ?_
                      refine a_ret ?_
                      refine then_ret ?_
                      refine hK21 .ret _ (in_ret ?_)
                      refine then_ret ?_
                      refine then_ret ?_
                      refine hK14 .ret _ (in_ret ?_)
                      refine then_ret ?_
                      refine leave_val (.inr rfl) rfl rfl rfl (congrArg (fun z => V.val (.bool z)) ?_)
                      first
                        | (symm; rw [decide_eq_false_iff_not]; intro hh;  have h1 := hh.1; have h2 := hh.2.1; omega)
                        | (symm; rw [decide_eq_false_iff_not]; intro hh;  have h3 := hh.2.2.1 i.toNat (by omega); unfold nodeOk at h3; omega)
                        | (symm; rw [decide_eq_false_iff_not]; intro hh;  have h3 := hh.2.2.2 i2.toNat (by omega); have h4 := hcl i2.toNat (by omega); exact h52 (by rw [h4]; exact h3))
                        | (symm; rw [decide_eq_true_iff]; exact ⟨by omega, by omega, fun j hj => hn j (by omega), fun j hj => hk j (by omega) hj⟩)
                    · skip
                      refine x_move ?_
                      refine w_end ?_
                      refine w_allG (l := [22]) (by decide +kernel) ⟨?_, trivial⟩
                      refine x_bin ?_
                      refine w_end ?_
                      refine w_allG (l := [23]) (by decide +kernel) ⟨?_, trivial⟩
                      refine x_move ?_
                      refine w_end ?_
                      refine w_allG (l := [24]) (by decide +kernel) ⟨?_, trivial⟩
                      refine x_split 49 rfl (by first | exact .beq | exact .bne | exact .dec | exact .not .beq | exact .not .bne | exact .not .dec | exact .not .id | exact .id) (fun h56 => ?_) (fun h56 => ?_)
                      · skip
                        refine x_fieldAddr ?_
                        refine w_end ?_
                        refine w_allG (l := [25]) (by decide +kernel) ⟨?_, trivial⟩
                        refine x_load ?_
                        refine w_end ?_
                        refine w_allG (l := [26]) (by decide +kernel) ⟨?_, trivial⟩
                        refine x_bin ?_
                        refine w_end ?_
                        refine w_allG (l := [27]) (by decide +kernel) ⟨?_, trivial⟩
                        refine x_pickT ?_
                        refine w_end ?_
                        refine w_allG (l := [28]) (by decide +kernel) ⟨?_, trivial⟩
                        refine x_pickF ?_
                        refine w_end ?_
                        refine w_doneG hK28 ?_
                        refine hK27 _ _ (ghost_has (ks := [(0, .v _), (3, .ref 15 []), (4, .v _), (5, .ref 5 []), (6, .v _), (16, .v _), (17, .v _), (18, .v _), (54, .v _)]) (km := [(0, _), (5, _), (15, _), (25, _)]) ⟨rfl, rfl, rfl, rfl, rfl, rfl, rfl, rfl, rfl, trivial⟩ ⟨rfl, rfl, rfl, rfl, trivial⟩ rfl) ?_
                        refine a_condS 54 rfl (by first | exact .beq | exact .bne | exact .dec | exact .not .beq | exact .not .bne | exact .not .dec | exact .not .id | exact .id) (fun h57 => ?_) (fun h57 => ?_)
                        · skip
                          refine a_seq fun K58 hK58 => ?_
                          refine a_region rfl fun K59 hK59 => ?_
                          refine x_assign ?_
                          refine r_nil hK59 ?_
                          refine hK58 _ _ (Ghost.refl _) ?_
                          refine a_ret ?_
                          refine then_ret ?_
                          refine hK21 .ret _ (in_ret ?_)
                          refine then_ret ?_
                          refine then_ret ?_
                          refine hK14 .ret _ (in_ret ?_)
                          refine then_ret ?_
                          refine leave_val (.inr rfl) rfl rfl rfl (congrArg (fun z => V.val (.bool z)) ?_)
                          first
                            | (symm; rw [decide_eq_false_iff_not]; intro hh;  have h1 := hh.1; have h2 := hh.2.1; omega)
                            | (symm; rw [decide_eq_false_iff_not]; intro hh;  have h3 := hh.2.2.1 i.toNat (by omega); unfold nodeOk at h3; omega)
                            | (symm; rw [decide_eq_false_iff_not]; intro hh;  have h3 := hh.2.2.2 i2.toNat (by omega); have h4 := hcl i2.toNat (by omega); exact h56 (by rw [h4]; exact h3))
                            | (symm; rw [decide_eq_true_iff]; exact ⟨by omega, by omega, fun j hj => hn j (by omega), fun j hj => hk j (by omega) hj⟩)
                        · skip
                          refine a_skip ?_
                          refine hK26 () _ _ _ (Ghost.refl _) ⟨rfl, rfl, rfl, rfl, rfl, rfl, rfl, rfl, trivial⟩ ⟨rfl, rfl, rfl, rfl, trivial⟩ ?_
                          try dsimp only
                          ·
                            first | omega | rfl | assumption | (simp; done) | (simp_all; done)
                      · skip
                        refine x_shut ?_
                        refine w_end ?_
                        refine w_allG (l := [25]) (by decide +kernel) ⟨?_, trivial⟩
                        refine x_shut ?_
                        refine w_end ?_
                        refine w_allG (l := [26]) (by decide +kernel) ⟨?_, trivial⟩
                        refine x_shut ?_
                        refine w_end ?_
                        refine w_allG (l := [27]) (by decide +kernel) ⟨?_, trivial⟩
                        refine x_pickF ?_
                        refine w_end ?_
                        refine w_allG (l := [28]) (by decide +kernel) ⟨?_, trivial⟩
                        refine x_pickF ?_
                        refine w_end ?_
                        refine w_doneG hK28 ?_
                        refine hK27 _ _ (ghost_has (ks := [(0, .v _), (3, .ref 15 []), (4, .v _), (5, .ref 5 []), (6, .v _), (16, .v _), (17, .v _), (18, .v _), (54, .v _)]) (km := [(0, _), (5, _), (15, _), (25, _)]) ⟨rfl, rfl, rfl, rfl, rfl, rfl, rfl, rfl, rfl, trivial⟩ ⟨rfl, rfl, rfl, rfl, trivial⟩ rfl) ?_
                        refine a_condF rfl ?_
                        refine a_skip ?_
                        refine hK26 () _ _ _ (Ghost.refl _) ⟨rfl, rfl, rfl, rfl, rfl, rfl, rfl, rfl, trivial⟩ ⟨rfl, rfl, rfl, rfl, trivial⟩ ?_
                        try dsimp only
                        ·
                          first | omega | rfl | assumption | (simp; done) | (simp_all; done)
                  · skip
                    refine x_shut ?_
                    refine w_end ?_
                    refine w_allG (l := [16]) (by decide +kernel) ⟨?_, trivial⟩
                    refine x_shut ?_
                    refine w_end ?_
                    refine w_allG (l := [17]) (by decide +kernel) ⟨?_, trivial⟩
                    refine x_shut ?_
                    refine w_end ?_
                    refine w_allG (l := [18]) (by decide +kernel) ⟨?_, trivial⟩
                    refine x_pickF ?_
                    refine w_end ?_
                    refine w_allG (l := [19]) (by decide +kernel) ⟨?_, trivial⟩
                    refine x_pickF ?_
                    refine w_end ?_
                    refine w_allG (l := [20]) (by decide +kernel) ⟨?_, trivial⟩
                    refine x_move ?_
                    refine w_end ?_
                    refine w_allG (l := [21]) (by decide +kernel) ⟨?_, trivial⟩
                    refine x_move ?_
                    refine w_end ?_
                    refine w_allG (l := [22]) (by decide +kernel) ⟨?_, trivial⟩
                    refine x_bin ?_
                    refine w_end ?_
                    refine w_allG (l := [23]) (by decide +kernel) ⟨?_, trivial⟩
                    refine x_move ?_
                    refine w_end ?_
                    refine w_allG (l := [24]) (by decide +kernel) ⟨?_, trivial⟩
                    refine x_split 49 rfl (by first | exact .beq | exact .bne | exact .dec | exact .not .beq | exact .not .bne | exact .not .dec | exact .not .id | exact .id) (fun h60 => ?_) (fun h60 => ?_)
                    · skip
                      refine x_fieldAddr ?_
                      refine w_end ?_
                      refine w_allG (l := [25]) (by decide +kernel) ⟨?_, trivial⟩
                      refine x_load ?_
                      refine w_end ?_
                      refine w_allG (l := [26]) (by decide +kernel) ⟨?_, trivial⟩
                      refine x_bin ?_
                      refine w_end ?_
                      refine w_allG (l := [27]) (by decide +kernel) ⟨?_, trivial⟩
                      refine x_pickT ?_
                      refine w_end ?_
                      refine w_allG (l := [28]) (by decide +kernel) ⟨?_, trivial⟩
                      refine x_pickF ?_
                      refine w_end ?_
                      refine w_doneG hK28 ?_
                      refine hK27 _ _ (ghost_has (ks := [(0, .v _), (3, .ref 15 []), (4, .v _), (5, .ref 5 []), (6, .v _), (16, .v _), (17, .v _), (18, .v _), (54, .v _)]) (km := [(0, _), (5, _), (15, _), (25, _)]) ⟨rfl, rfl, rfl, rfl, rfl, rfl, rfl, rfl, rfl, trivial⟩ ⟨rfl, rfl, rfl, rfl, trivial⟩ rfl) ?_
                      refine a_condS 54 rfl (by first | exact .beq | exact .bne | exact .dec | exact .not .beq | exact .not .bne | exact .not .dec | exact .not .id | exact .id) (fun h61 => ?_) (fun h61 => ?_)
                      · skip
                        refine a_seq fun K62 hK62 => ?_
                        refine a_region rfl fun K63 hK63 => ?_
                        refine x_assign ?_
                        refine r_nil hK63 ?_
                        refine hK62 _ _ (Ghost.refl _) ?_
                        refine a_ret ?_
                        refine then_ret ?_
                        refine hK21 .ret _ (in_ret ?_)
                        refine then_ret ?_
                        refine then_ret ?_
                        refine hK14 .ret _ (in_ret ?_)
                        refine then_ret ?_
                        refine leave_val (.inr rfl) rfl rfl rfl (congrArg (fun z => V.val (.bool z)) ?_)
                        first
                          | (symm; rw [decide_eq_false_iff_not]; intro hh;  have h1 := hh.1; have h2 := hh.2.1; omega)
                          | (symm; rw [decide_eq_false_iff_not]; intro hh;  have h3 := hh.2.2.1 i.toNat (by omega); unfold nodeOk at h3; omega)
                          | (symm; rw [decide_eq_false_iff_not]; intro hh;  have h3 := hh.2.2.2 i2.toNat (by omega); have h4 := hcl i2.toNat (by omega); exact h60 (by rw [h4]; exact h3))
                          | (symm; rw [decide_eq_true_iff]; exact ⟨by omega, by omega, fun j hj => hn j (by omega), fun j hj => hk j (by omega) hj⟩)
                      · skip
                        refine a_skip ?_
                        refine hK26 () _ _ _ (Ghost.refl _) ⟨rfl, rfl, rfl, rfl, rfl, rfl, rfl, rfl, trivial⟩ ⟨rfl, rfl, rfl, rfl, trivial⟩ ?_
                        try dsimp only
                        ·
                          first | omega | rfl | assumption | (simp; done) | (simp_all; done)
                    · skip
                      refine x_shut ?_
                      refine w_end ?_
                      refine w_allG (l := [25]) (by decide +kernel) ⟨?_, trivial⟩
                      refine x_shut ?_
                      refine w_end ?_
                      refine w_allG (l := [26]) (by decide +kernel) ⟨?_, trivial⟩
                      refine x_shut ?_
                      refine w_end ?_
                      refine w_allG (l := [27]) (by decide +kernel) ⟨?_, trivial⟩
                      refine x_pickF ?_
                      refine w_end ?_
                      refine w_allG (l := [28]) (by decide +kernel) ⟨?_, trivial⟩
                      refine x_pickF ?_
                      refine w_end ?_
                      refine w_doneG hK28 ?_
                      refine hK27 _ _ (ghost_has (ks := [(0, .v _), (3, .ref 15 []), (4, .v _), (5, .ref 5 []), (6, .v _), (16, .v _), (17, .v _), (18, .v _), (54, .v _)]) (km := [(0, _), (5, _), (15, _), (25, _)]) ⟨rfl, rfl, rfl, rfl, rfl, rfl, rfl, rfl, rfl, trivial⟩ ⟨rfl, rfl, rfl, rfl, trivial⟩ rfl) ?_
                      refine a_condF rfl ?_
                      refine a_skip ?_
                      refine hK26 () _ _ _ (Ghost.refl _) ⟨rfl, rfl, rfl, rfl, rfl, rfl, rfl, rfl, trivial⟩ ⟨rfl, rfl, rfl, rfl, trivial⟩ ?_
                      try dsimp only
                      ·
                        first | omega | rfl | assumption | (simp; done) | (simp_all; done)
          · skip
            refine x_split 28 rfl (by first | exact .beq | exact .bne | exact .dec | exact .not .beq | exact .not .bne | exact .not .dec | exact .not .id | exact .id) (fun h64 => ?_) (fun h64 => ?_)
            · skip
              refine x_shut ?_
              refine w_end ?_
              refine w_allG (l := [6]) (by decide +kernel) ⟨?_, trivial⟩
              refine x_shut ?_
              refine w_end ?_
              refine w_allG (l := [7]) (by decide +kernel) ⟨?_, trivial⟩
              refine x_shut ?_
              refine w_end ?_
              refine w_allG (l := [3]) (by decide +kernel) ⟨?_, trivial⟩
              refine x_shut ?_
              refine w_end ?_
              refine w_allG (l := [4]) (by decide +kernel) ⟨?_, trivial⟩
              refine x_shut ?_
              refine w_end ?_
              refine w_allG (l := [8]) (by decide +kernel) ⟨?_, trivial⟩
              refine x_shut ?_
              refine w_end ?_
              refine w_allG (l := [9]) (by decide +kernel) ⟨?_, trivial⟩
              refine x_shut ?_
              refine w_end ?_
              refine w_allG (l := [10]) (by decide +kernel) ⟨?_, trivial⟩
              refine x_pickT ?_
              refine w_end ?_
              refine w_allG (l := [11]) (by decide +kernel) ⟨?_, trivial⟩
              refine x_move ?_
              refine w_end ?_
              refine w_allG (l := [12]) (by decide +kernel) ⟨?_, trivial⟩
              refine x_shut ?_
              refine w_end ?_
              refine w_allG (l := [13]) (by decide +kernel) ⟨?_, trivial⟩
              refine x_shut ?_
              refine w_end ?_
              refine w_allG (l := [14]) (by decide +kernel) ⟨?_, trivial⟩
              refine x_shut ?_
              refine w_end ?_
              refine w_allG (l := [15]) (by decide +kernel) ⟨?_, trivial⟩
              refine x_shut' ?_
              refine w_end ?_
              refine w_allG (l := [16]) (by decide +kernel) ⟨?_, trivial⟩
              refine x_shut' ?_
              refine w_end ?_
              refine w_allG (l := [17]) (by decide +kernel) ⟨?_, trivial⟩
              refine x_shut' ?_
              refine w_end ?_
              refine w_allG (l := [18]) (by decide +kernel) ⟨?_, trivial⟩
              refine x_shut ?_
              refine w_end ?_
              refine w_allG (l := [19]) (by decide +kernel) ⟨?_, trivial⟩
              refine x_pickT ?_
              refine w_end ?_
              refine w_allG (l := [20]) (by decide +kernel) ⟨?_, trivial⟩
              refine x_move ?_
              refine w_end ?_
              refine w_allG (l := [21]) (by decide +kernel) ⟨?_, trivial⟩
              refine x_shut ?_
              refine w_end ?_
              refine w_allG (l := [22]) (by decide +kernel) ⟨?_, trivial⟩
              refine x_shut ?_
              refine w_end ?_
              refine w_allG (l := [23]) (by decide +kernel) ⟨?_, trivial⟩
              refine x_shut ?_
              refine w_end ?_
              refine w_allG (l := [24]) (by decide +kernel) ⟨?_, trivial⟩
              refine x_shut' ?_
              refine w_end ?_
              refine w_allG (l := [25]) (by decide +kernel) ⟨?_, trivial⟩
              refine x_shut' ?_
              refine w_end ?_
              refine w_allG (l := [26]) (by decide +kernel) ⟨?_, trivial⟩
              refine x_shut' ?_
              refine w_end ?_
              refine w_allG (l := [27]) (by decide +kernel) ⟨?_, trivial⟩
              refine x_shut ?_
              refine w_end ?_
              refine w_allG (l := [28]) (by decide +kernel) ⟨?_, trivial⟩
              refine x_pickT ?_
              refine w_end ?_
              refine w_doneG hK28 ?_
              refine hK27 _ _ (Ghost.refl _) ?_
              refine a_condT rfl ?_
              refine a_seq fun K65 hK65 => ?_
              refine a_region rfl fun K66 hK66 => ?_
              refine x_assign ?_
              refine r_nil hK66 ?_
              refine hK65 _ _ (Ghost.refl _) ?_
              refine a_ret ?_
              refine then_ret ?_
              refine hK21 .ret _ (in_ret ?_)
              refine then_ret ?_
              refine then_ret ?_
              refine hK14 .ret _ (in_ret ?_)
              refine then_ret ?_
              refine leave_val (.inr rfl) rfl rfl rfl (congrArg (fun z => V.val (.bool z)) ?_)
              first
                | (symm; rw [decide_eq_false_iff_not]; intro hh;  have h1 := hh.1; have h2 := hh.2.1; omega)
                | (symm; rw [decide_eq_false_iff_not]; intro hh;  have h3 := hh.2.2.1 i.toNat (by omega); unfold nodeOk at h3; omega)
                | (symm; rw [decide_eq_false_iff_not]; intro hh;  have h3 := hh.2.2.2 i2.toNat (by omega); have h4 := hcl i2.toNat (by omega); exact h60 (by rw [h4]; exact h3))
                | (symm; rw [decide_eq_true_iff]; exact ⟨by omega, by omega, fun j hj => hn j (by omega), fun j hj => hk j (by omega) hj⟩)
            · skip
              refine x_fieldAddr ?_
              refine w_end ?_
              refine w_allG (l := [6]) (by decide +kernel) ⟨?_, trivial⟩
              refine x_load ?_
              refine w_end ?_
              refine w_allG (l := [7]) (by decide +kernel) ⟨?_, trivial⟩
              refine x_call (s_spec_l02Most) ?_ (hl := by first | rfl | (repeat (first | exact lendL_nil | refine lendL_cons (by first | rfl | exact lend_ref rfl (ro_eL (by intro _; first | rfl | exact roL_cL (by intro _; rfl))) | exact lend_refp rfl (ro_eL (by intro _; first | rfl | exact roL_cL (by intro _; rfl))) | exact lend_agg (by repeat (first | exact lendL_nil | refine lendL_cons (by first | rfl | exact lend_ref rfl (ro_eL (by intro _; first | rfl | exact roL_cL (by intro _; rfl))) | exact lend_refp rfl (ro_eL (by intro _; first | rfl | exact roL_cL (by intro _; rfl)))) ?_))) ?_)))
              rintro _ _ rfl
              refine w_end ?_
              refine w_allG (l := [3]) (by decide +kernel) ⟨?_, trivial⟩
              refine x_fieldAddr ?_
              refine w_end ?_
              refine w_allG (l := [4]) (by decide +kernel) ⟨?_, trivial⟩
              refine x_load ?_
              refine w_end ?_
              refine w_allG (l := [8]) (by decide +kernel) ⟨?_, trivial⟩
              refine x_call (s_spec_l01In) ?_ (hl := by first | rfl | (repeat (first | exact lendL_nil | refine lendL_cons (by first | rfl | exact lend_ref rfl (ro_eL (by intro _; first | rfl | exact roL_cL (by intro _; rfl))) | exact lend_refp rfl (ro_eL (by intro _; first | rfl | exact roL_cL (by intro _; rfl))) | exact lend_agg (by repeat (first | exact lendL_nil | refine lendL_cons (by first | rfl | exact lend_ref rfl (ro_eL (by intro _; first | rfl | exact roL_cL (by intro _; rfl))) | exact lend_refp rfl (ro_eL (by intro _; first | rfl | exact roL_cL (by intro _; rfl)))) ?_))) ?_)))
              rintro _ _ rfl
              refine w_end ?_
              refine w_allG (l := [9]) (by decide +kernel) ⟨?_, trivial⟩
              refine x_un ?_
              refine w_end ?_
              refine w_allG (l := [10]) (by decide +kernel) ⟨?_, trivial⟩
              refine x_pickF ?_
              refine w_end ?_
              refine w_allG (l := [11]) (by decide +kernel) ⟨?_, trivial⟩
              refine x_move ?_
              refine w_end ?_
              refine w_allG (l := [12]) (by decide +kernel) ⟨?_, trivial⟩
              refine x_split 37 rfl (by first | exact .beq | exact .bne | exact .dec | exact .not .beq | exact .not .bne | exact .not .dec | exact .not .id | exact .id) (fun h67 => ?_) (fun h67 => ?_)
              · skip
                refine x_shut ?_
                refine w_end ?_
                refine w_allG (l := [13]) (by decide +kernel) ⟨?_, trivial⟩
                refine x_shut ?_
                refine w_end ?_
                refine w_allG (l := [14]) (by decide +kernel) ⟨?_, trivial⟩
                refine x_shut ?_
                refine w_end ?_
                refine w_allG (l := [15]) (by decide +kernel) ⟨?_, trivial⟩
                refine x_shut' ?_
                refine w_end ?_
                refine w_allG (l := [16]) (by decide +kernel) ⟨?_, trivial⟩
                refine x_shut' ?_
                refine w_end ?_
                refine w_allG (l := [17]) (by decide +kernel) ⟨?_, trivial⟩
                refine x_shut' ?_
                refine w_end ?_
                refine w_allG (l := [18]) (by decide +kernel) ⟨?_, trivial⟩
                refine x_shut ?_
                refine w_end ?_
                refine w_allG (l := [19]) (by decide +kernel) ⟨?_, trivial⟩
                refine x_pickT ?_
                refine w_end ?_
                refine w_allG (l := [20]) (by decide +kernel) ⟨?_, trivial⟩
                refine x_move ?_
                refine w_end ?_
                refine w_allG (l := [21]) (by decide +kernel) ⟨?_, trivial⟩
                refine x_shut ?_
                refine w_end ?_
                refine w_allG (l := [22]) (by decide +kernel) ⟨?_, trivial⟩
                refine x_shut ?_
                refine w_end ?_
                refine w_allG (l := [23]) (by decide +kernel) ⟨?_, trivial⟩
                refine x_shut ?_
                refine w_end ?_
                refine w_allG (l := [24]) (by decide +kernel) ⟨?_, trivial⟩
                refine x_shut' ?_
                refine w_end ?_
                refine w_allG (l := [25]) (by decide +kernel) ⟨?_, trivial⟩
                refine x_shut' ?_
                refine w_end ?_
                refine w_allG (l := [26]) (by decide +kernel) ⟨?_, trivial⟩
                refine x_shut' ?_
                refine w_end ?_
                refine w_allG (l := [27]) (by decide +kernel) ⟨?_, trivial⟩
                refine x_shut ?_
                refine w_end ?_
                refine w_allG (l := [28]) (by decide +kernel) ⟨?_, trivial⟩
                refine x_pickT ?_
                refine w_end ?_
                refine w_doneG hK28 ?_
                refine hK27 _ _ (ghost_has (ks := [(0, .v _), (3, .ref 15 []), (4, .v _), (5, .ref 5 []), (6, .v _), (16, .v _), (17, .v _), (18, .v _), (54, .v _)]) (km := [(0, _), (5, _), (15, _), (25, _)]) ⟨rfl, rfl, rfl, rfl, rfl, rfl, rfl, rfl, rfl, trivial⟩ ⟨rfl, rfl, rfl, rfl, trivial⟩ rfl) ?_
                refine a_condT rfl ?_
                refine a_seq fun K68 hK68 => ?_
                refine a_region rfl fun K69 hK69 => ?_
                refine x_assign ?_
                refine r_nil hK69 ?_
                refine hK68 _ _ (Ghost.refl _) ?_
                refine a_ret ?_
                refine then_ret ?_
                refine hK21 .ret _ (in_ret ?_)
                refine then_ret ?_
                refine then_ret ?_
                refine hK14 .ret _ (in_ret ?_)
                refine then_ret ?_
                refine leave_val (.inr rfl) rfl rfl rfl (congrArg (fun z => V.val (.bool z)) ?_)
                first
                  | (symm; rw [decide_eq_false_iff_not]; intro hh;  have h1 := hh.1; have h2 := hh.2.1; omega)
                  | (symm; rw [decide_eq_false_iff_not]; intro hh;  have h3 := hh.2.2.1 i.toNat (by omega); unfold nodeOk at h3; omega)
                  | (symm; rw [decide_eq_false_iff_not]; intro hh;  have h3 := hh.2.2.2 i2.toNat (by omega); have h4 := hcl i2.toNat (by omega); exact h64 (by rw [h4]; exact h3))
                  | (symm; rw [decide_eq_true_iff]; exact ⟨by omega, by omega, fun j hj => hn j (by omega), fun j hj => hk j (by omega) hj⟩)
              · skip
                refine x_move ?_
                refine w_end ?_
                refine w_allG (l := [13]) (by decide +kernel) ⟨?_, trivial⟩
                refine x_bin ?_
                refine w_end ?_
                refine w_allG (l := [14]) (by decide +kernel) ⟨?_, trivial⟩
                refine x_move ?_
                refine w_end ?_
                refine w_allG (l := [15]) (by decide +kernel) ⟨?_, trivial⟩
                refine x_split 40 rfl (by first | exact .beq | exact .bne | exact .dec | exact .not .beq | exact .not .bne | exact .not .dec | exact .not .id | exact .id) (fun h70 => ?_) (fun h70 => ?_)
                · skip
                  refine x_fieldAddr ?_
                  refine w_end ?_
                  refine w_allG (l := [16]) (by decide +kernel) ⟨?_, trivial⟩
                  refine x_load ?_
                  refine w_end ?_
                  refine w_allG (l := [17]) (by decide +kernel) ⟨?_, trivial⟩
                  refine x_bin ?_
                  refine w_end ?_
                  refine w_allG (l := [18]) (by decide +kernel) ⟨?_, trivial⟩
                  refine x_pickT ?_
                  refine w_end ?_
                  refine w_allG (l := [19]) (by decide +kernel) ⟨?_, trivial⟩
                  refine x_pickF ?_
                  refine w_end ?_
                  refine w_allG (l := [20]) (by decide +kernel) ⟨?_, trivial⟩
                  refine x_move ?_
                  refine w_end ?_
                  refine w_allG (l := [21]) (by decide +kernel) ⟨?_, trivial⟩
                  refine x_split 46 rfl (by first | exact .beq | exact .bne | exact .dec | exact .not .beq | exact .not .bne | exact .not .dec | exact .not .id | exact .id) (fun h71 => ?_) (fun h71 => ?_)
                  · skip
                    refine x_shut ?_
                    refine w_end ?_
                    refine w_allG (l := [22]) (by decide +kernel) ⟨?_, trivial⟩
                    refine x_shut ?_
                    refine w_end ?_
                    refine w_allG (l := [23]) (by decide +kernel) ⟨?_, trivial⟩
                    refine x_shut ?_
                    refine w_end ?_
                    refine w_allG (l := [24]) (by decide +kernel) ⟨?_, trivial⟩
                    refine x_shut' ?_
                    refine w_end ?_
                    refine w_allG (l := [25]) (by decide +kernel) ⟨?_, trivial⟩
                    refine x_shut' ?_
                    refine w_end ?_
                    refine w_allG (l := [26]) (by decide +kernel) ⟨?_, trivial⟩
                    refine x_shut' ?_
                    refine w_end ?_
                    refine w_allG (l := [27]) (by decide +kernel) ⟨?_, trivial⟩
                    refine x_shut ?_
                    refine w_end ?_
                    refine w_allG (l := [28]) (by decide +kernel) ⟨?_, trivial⟩
                    refine x_pickT ?_
                    refine w_end ?_
                    refine w_doneG hK28 ?_
                    refine hK27 _ _ (ghost_has (ks := [(0, .v _), (3, .ref 15 []), (4, .v _), (5, .ref 5 []), (6, .v _), (16, .v _), (17, .v _), (18, .v _), (54, .v _)]) (km := [(0, _), (5, _), (15, _), (25, _)]) ⟨rfl, rfl, rfl, rfl, rfl, rfl, rfl, rfl, rfl, trivial⟩ ⟨rfl, rfl, rfl, rfl, trivial⟩ rfl) ?_
                    refine a_condT rfl ?_
                    refine a_seq fun K72 hK72 => ?_
                    refine a_region rfl fun K73 hK73 => ?_
                    refine x_assign ?_
                    refine r_nil hK73 ?_
                    refine hK72 _ _ (Ghost.refl _) ?_
                    refine a_ret ?_
                    refine then_ret ?_
                    refine hK21 .ret _ (in_ret ?_)
                    refine then_ret ?_
                    refine then_ret ?_
                    refine hK14 .ret _ (in_ret ?_)
                    refine then_ret ?_
                    refine leave_val (.inr rfl) rfl rfl rfl (congrArg (fun z => V.val (.bool z)) ?_)
                    first
                      | (symm; rw [decide_eq_false_iff_not]; intro hh;  have h1 := hh.1; have h2 := hh.2.1; omega)
                      | (symm; rw [decide_eq_false_iff_not]; intro hh;  have h3 := hh.2.2.1 i.toNat (by omega); unfold nodeOk at h3; omega)
                      | (symm; rw [decide_eq_false_iff_not]; intro hh;  have h3 := hh.2.2.2 i2.toNat (by omega); have h4 := hcl i2.toNat (by omega); exact h70 (by rw [h4]; exact h3))
                      | (symm; rw [decide_eq_true_iff]; exact ⟨by omega, by omega, fun j hj => hn j (by omega), fun j hj => hk j (by omega) hj⟩)
                  · skip
                    refine x_move ?_
                    refine w_end ?_
                    refine w_allG (l := [22]) (by decide +kernel) ⟨?_, trivial⟩
                    refine x_bin ?_
                    refine w_end ?_
                    refine w_allG (l := [23]) (by decide +kernel) ⟨?_, trivial⟩
                    refine x_move ?_
                    refine w_end ?_
                    refine w_allG (l := [24]) (by decide +kernel) ⟨?_, trivial⟩
                    refine x_split 49 rfl (by first | exact .beq | exact .bne | exact .dec | exact .not .beq | exact .not .bne | exact .not .dec | exact .not .id | exact .id) (fun h74 => ?_) (fun h74 => ?_)
                    · skip
                      refine x_fieldAddr ?_
                      refine w_end ?_
                      refine w_allG (l := [25]) (by decide +kernel) ⟨?_, trivial⟩
                      refine x_load ?_
                      refine w_end ?_
                      refine w_allG (l := [26]) (by decide +kernel) ⟨?_, trivial⟩
                      refine x_bin ?_
                      refine w_end ?_
                      refine w_allG (l := [27]) (by decide +kernel) ⟨?_, trivial⟩
                      refine x_pickT ?_
                      refine w_end ?_
                      refine w_allG (l := [28]) (by decide +kernel) ⟨?_, trivial⟩
                      refine x_pickF ?_
                      refine w_end ?_
                      refine w_doneG hK28 ?_
                      refine hK27 _ _ (ghost_has (ks := [(0, .v _), (3, .ref 15 []), (4, .v _), (5, .ref 5 []), (6, .v _), (16, .v _), (17, .v _), (18, .v _), (54, .v _)]) (km := [(0, _), (5, _), (15, _), (25, _)]) ⟨rfl, rfl, rfl, rfl, rfl, rfl, rfl, rfl, rfl, trivial⟩ ⟨rfl, rfl, rfl, rfl, trivial⟩ rfl) ?_
                      refine a_condS 54 rfl (by first | exact .beq | exact .bne | exact .dec | exact .not .beq | exact .not .bne | exact .not .dec | exact .not .id | exact .id) (fun h75 => ?_) (fun h75 => ?_)
                      · skip
                        refine a_seq fun K76 hK76 => ?_
                        refine a_region rfl fun K77 hK77 => ?_
                        refine x_assign ?_
                        refine r_nil hK77 ?_
                        refine hK76 _ _ (Ghost.refl _) ?_
                        refine a_ret ?_
                        refine then_ret ?_
                        refine hK21 .ret _ (in_ret ?_)
                        refine then_ret ?_
                        refine then_ret ?_
                        refine hK14 .ret _ (in_ret ?_)
                        refine then_ret ?_
                        refine leave_val (.inr rfl) rfl rfl rfl (congrArg (fun z => V.val (.bool z)) ?_)
                        first
                          | (symm; rw [decide_eq_false_iff_not]; intro hh;  have h1 := hh.1; have h2 := hh.2.1; omega)
                          | (symm; rw [decide_eq_false_iff_not]; intro hh;  have h3 := hh.2.2.1 i.toNat (by omega); unfold nodeOk at h3; omega)
                          | (symm; rw [decide_eq_false_iff_not]; intro hh;  have h3 := hh.2.2.2 i2.toNat (by omega); have h4 := hcl i2.toNat (by omega); exact h74 (by rw [h4]; exact h3))
                          | (symm; rw [decide_eq_true_iff]; exact ⟨by omega, by omega, fun j hj => hn j (by omega), fun j hj => hk j (by omega) hj⟩)
                      · skip
                        refine a_skip ?_
                        refine hK26 () _ _ _ (Ghost.refl _) ⟨rfl, rfl, rfl, rfl, rfl, rfl, rfl, rfl, trivial⟩ ⟨rfl, rfl, rfl, rfl, trivial⟩ ?_
                        try dsimp only
                        ·
                          first | omega | rfl | assumption | (simp; done) | (simp_all; done)
                    · skip
                      refine x_shut ?_
                      refine w_end ?_
                      refine w_allG (l := [25]) (by decide +kernel) ⟨?_, trivial⟩
                      refine x_shut ?_
                      refine w_end ?_
                      refine w_allG (l := [26]) (by decide +kernel) ⟨?_, trivial⟩
                      refine x_shut ?_
                      refine w_end ?_
                      refine w_allG (l := [27]) (by decide +kernel) ⟨?_, trivial⟩
                      refine x_pickF ?_
                      refine w_end ?_
                      refine w_allG (l := [28]) (by decide +kernel) ⟨?_, trivial⟩
                      refine x_pickF ?_
                      refine w_end ?_
                      refine w_doneG hK28 ?_
                      refine hK27 _ _ (ghost_has (ks := [(0, .v _), (3, .ref 15 []), (4, .v _), (5, .ref 5 []), (6, .v _), (16, .v _), (17, .v _), (18, .v _), (54, .v _)]) (km := [(0, _), (5, _), (15, _), (25, _)]) ⟨rfl, rfl, rfl, rfl, rfl, rfl, rfl, rfl, rfl, trivial⟩ ⟨rfl, rfl, rfl, rfl, trivial⟩ rfl) ?_
                      refine a_condF rfl ?_
                      refine a_skip ?_
                      refine hK26 () _ _ _ (Ghost.refl _) ⟨rfl, rfl, rfl, rfl, rfl, rfl, rfl, rfl, trivial⟩ ⟨rfl, rfl, rfl, rfl, trivial⟩ ?_
                      try dsimp only
                      ·
                        first | omega | rfl | assumption | (simp; done) | (simp_all; done)
                · skip
                  refine x_shut ?_
                  refine w_end ?_
                  refine w_allG (l := [16]) (by decide +kernel) ⟨?_, trivial⟩
                  refine x_shut ?_
                  refine w_end ?_
                  refine w_allG (l := [17]) (by decide +kernel) ⟨?_, trivial⟩
                  refine x_shut ?_
                  refine w_end ?_
                  refine w_allG (l := [18]) (by decide +kernel) ⟨?_, trivial⟩
                  refine x_pickF ?_
                  refine w_end ?_
                  refine w_allG (l := [19]) (by decide +kernel) ⟨?_, trivial⟩
                  refine x_pickF ?_
                  refine w_end ?_
                  refine w_allG (l := [20]) (by decide +kernel) ⟨?_, trivial⟩
                  refine x_move ?_
                  refine w_end ?_
                  refine w_allG (l := [21]) (by decide +kernel) ⟨?_, trivial⟩
                  refine x_move ?_
                  refine w_end ?_
                  refine w_allG (l := [22]) (by decide +kernel) ⟨?_, trivial⟩
                  refine x_bin ?_
                  refine w_end ?_
                  refine w_allG (l := [23]) (by decide +kernel) ⟨?_, trivial⟩
                  refine x_move ?_
                  refine w_end ?_
                  refine w_allG (l := [24]) (by decide +kernel) ⟨?_, trivial⟩
                  refine x_split 49 rfl (by first | exact .beq | exact .bne | exact .dec | exact .not .beq | exact .not .bne | exact .not .dec | exact .not .id | exact .id) (fun h78 => ?_) (fun h78 => ?_)
                  · skip
                    refine x_fieldAddr ?_
                    refine w_end ?_
                    refine w_allG (l := [25]) (by decide +kernel) ⟨?_, trivial⟩
                    refine x_load ?_
                    refine w_end ?_
                    refine w_allG (l := [26]) (by decide +kernel) ⟨?_, trivial⟩
                    refine x_bin ?_
                    refine w_end ?_
                    refine w_allG (l := [27]) (by decide +kernel) ⟨?_, trivial⟩
                    refine x_pickT ?_
                    refine w_end ?_
                    refine w_allG (l := [28]) (by decide +kernel) ⟨?_, trivial⟩
                    refine x_pickF ?_
                    refine w_end ?_
                    refine w_doneG hK28 ?_
                    refine hK27 _ _ (ghost_has (ks := [(0, .v _), (3, .ref 15 []), (4, .v _), (5, .ref 5 []), (6, .v _), (16, .v _), (17, .v _), (18, .v _), (54, .v _)]) (km := [(0, _), (5, _), (15, _), (25, _)]) ⟨rfl, rfl, rfl, rfl, rfl, rfl, rfl, rfl, rfl, trivial⟩ ⟨rfl, rfl, rfl, rfl, trivial⟩ rfl) ?_
                    refine a_condS 54 rfl (by first | exact .beq | exact .bne | exact .dec | exact .not .beq | exact .not .bne | exact .not .dec | exact .not .id | exact .id) (fun h79 => ?_) (fun h79 => ?_)
                    · skip
                      refine a_seq fun K80 hK80 => ?_
                      refine a_region rfl fun K81 hK81 => ?_
                      refine x_assign ?_
                      refine r_nil hK81 ?_
                      refine hK80 _ _ (Ghost.refl _) ?_
                      refine a_ret ?_
                      refine then_ret ?_
                      refine hK21 .ret _ (in_ret ?_)
                      refine then_ret ?_
                      refine then_ret ?_
                      refine hK14 .ret _ (in_ret ?_)
                      refine then_ret ?_
                      refine leave_val (.inr rfl) rfl rfl rfl (congrArg (fun z => V.val (.bool z)) ?_)
                      first
                        | (symm; rw [decide_eq_false_iff_not]; intro hh;  have h1 := hh.1; have h2 := hh.2.1; omega)
                        | (symm; rw [decide_eq_false_iff_not]; intro hh;  have h3 := hh.2.2.1 i.toNat (by omega); unfold nodeOk at h3; omega)
                        | (symm; rw [decide_eq_false_iff_not]; intro hh;  have h3 := hh.2.2.2 i2.toNat (by omega); have h4 := hcl i2.toNat (by omega); exact h78 (by rw [h4]; exact h3))
                        | (symm; rw [decide_eq_true_iff]; exact ⟨by omega, by omega, fun j hj => hn j (by omega), fun j hj => hk j (by omega) hj⟩)
                    · skip
                      refine a_skip ?_
                      refine hK26 () _ _ _ (Ghost.refl _) ⟨rfl, rfl, rfl, rfl, rfl, rfl, rfl, rfl, trivial⟩ ⟨rfl, rfl, rfl, rfl, trivial⟩ ?_
                      try dsimp only
                      ·
                        first | omega | rfl | assumption | (simp; done) | (simp_all; done)
                  · skip
                    refine x_shut ?_
                    refine w_end ?_
                    refine w_allG (l := [25]) (by decide +kernel) ⟨?_, trivial⟩
                    refine x_shut ?_
                    refine w_end ?_
                    refine w_allG (l := [26]) (by decide +kernel) ⟨?_, trivial⟩
                    refine x_shut ?_
                    refine w_end ?_
                    refine w_allG (l := [27]) (by decide +kernel) ⟨?_, trivial⟩
                    refine x_pickF ?_
                    refine w_end ?_
                    refine w_allG (l := [28]) (by decide +kernel) ⟨?_, trivial⟩
                    refine x_pickF ?_
                    refine w_end ?_
                    refine w_doneG hK28 ?_
                    refine hK27 _ _ (ghost_has (ks := [(0, .v _), (3, .ref 15 []), (4, .v _), (5, .ref 5 []), (6, .v _), (16, .v _), (17, .v _), (18, .v _), (54, .v _)]) (km := [(0, _), (5, _), (15, _), (25, _)]) ⟨rfl, rfl, rfl, rfl, rfl, rfl, rfl, rfl, rfl, trivial⟩ ⟨rfl, rfl, rfl, rfl, trivial⟩ rfl) ?_
                    refine a_condF rfl ?_
                    refine a_skip ?_
                    refine hK26 () _ _ _ (Ghost.refl _) ⟨rfl, rfl, rfl, rfl, rfl, rfl, rfl, rfl, trivial⟩ ⟨rfl, rfl, rfl, rfl, trivial⟩ ?_
                    try dsimp only
                    ·
                      first | omega | rfl | assumption | (simp; done) | (simp_all; done)
        · rintro _u hI26
          dsimp only [List.cons_append, List.nil_append] at hI26 ⊢
          have c1 := hI26
          refine a_joinK (X := Unit) (fun _u => ([] : List (Nat × S))) (fun _u => ([] : List (Nat × V))) (fun _u => ((0 < usesOf (l[i.toNat]!).op → 0 ≤ (l[i.toNat]!).a ∧ (l[i.toNat]!).a < i) ∧ (1 < usesOf (l[i.toNat]!).op → 0 ≤ (l[i.toNat]!).b ∧ (l[i.toNat]!).b < i))) [(0, .v _), (3, .ref 15 []), (5, .ref 5 []), (6, .v _), (16, .v _), (17, .v _), (18, .v _)] [(0, _), (5, _), (15, _), (25, _)] ⟨rfl, rfl, rfl, rfl, rfl, rfl, rfl, trivial⟩ ⟨rfl, rfl, rfl, rfl, trivial⟩ (fun _u => rfl) ?_ ?_
          · intro K82 hK82
            refine a_seq fun K83 hK83 => ?_
            refine a_region rfl fun K84 hK84 => ?_
            refine x_move ?_
            refine x_bin ?_
            refine x_move ?_
            refine x_split 57 rfl (by first | exact .beq | exact .bne | exact .dec | exact .not .beq | exact .not .bne | exact .not .dec | exact .not .id | exact .id) (fun h85 => ?_) (fun h85 => ?_)
            · skip
              refine x_fieldAddr ?_
              refine x_load ?_
              refine x_move ?_
              refine x_sub ?_ ?_
              ·
                have q3 := takeI_length (l := l) (i := i) (by omega) (by omega)
                first
                  | exact ⟨by omega, by omega⟩
                  | (have q1 := hc (l[i.toNat]!).a.toNat (by omega); have q2 := usedBy_bound (takeI l i) (((l[i.toNat]!).a.toNat : Nat) : Int); exact ⟨by omega, by omega⟩)
                  | (have q0 := hc1 (l[i.toNat]!).b.toNat (by omega); have q1 := hc (l[i.toNat]!).b.toNat (by omega); have q2 := usedBy_bound (takeI l i) (((l[i.toNat]!).b.toNat : Nat) : Int); split at q0 <;> exact ⟨by omega, by omega⟩)
              refine x_call (s_spec_l01In) ?_ (hl := by first | rfl | (repeat (first | exact lendL_nil | refine lendL_cons (by first | rfl | exact lend_ref rfl (ro_eL (by intro _; first | rfl | exact roL_cL (by intro _; rfl))) | exact lend_refp rfl (ro_eL (by intro _; first | rfl | exact roL_cL (by intro _; rfl))) | exact lend_agg (by repeat (first | exact lendL_nil | refine lendL_cons (by first | rfl | exact lend_ref rfl (ro_eL (by intro _; first | rfl | exact roL_cL (by intro _; rfl))) | exact lend_refp rfl (ro_eL (by intro _; first | rfl | exact roL_cL (by intro _; rfl)))) ?_))) ?_)))
              rintro _ _ rfl
              refine x_un ?_
              refine x_pickT ?_
              refine x_move ?_
              refine x_split 65 rfl (by first | exact .beq | exact .bne | exact .dec | exact .not .beq | exact .not .bne | exact .not .dec | exact .not .id | exact .id) (fun h86 => ?_) (fun h86 => ?_)
              · skip
                refine x_shut ?_
                refine x_shut ?_
                refine x_shut ?_
                refine x_shut' ?_
                refine x_shut' ?_
                refine x_shut' ?_
                refine x_shut' ?_
                refine x_shut' ?_
                refine x_shut' ?_
                refine x_shut ?_
                refine x_pickT ?_
                refine r_nil hK84 ?_
                refine hK83 _ _ (ghost_has (ks := [(0, .v _), (3, .ref 15 []), (5, .ref 5 []), (6, .v _), (16, .v _), (17, .v _), (18, .v _), (76, .v _)]) (km := [(0, _), (5, _), (15, _), (25, _)]) ⟨rfl, rfl, rfl, rfl, rfl, rfl, rfl, rfl, trivial⟩ ⟨rfl, rfl, rfl, rfl, trivial⟩ rfl) ?_
                refine a_condT rfl ?_
                refine a_seq fun K87 hK87 => ?_
                refine a_region rfl fun K88 hK88 => ?_
                refine x_assign ?_
                refine r_nil hK88 ?_
                refine hK87 _ _ (Ghost.refl _) ?_
                refine a_ret ?_
                refine then_ret ?_
                refine hK21 .ret _ (in_ret ?_)
                refine then_ret ?_
                refine then_ret ?_
                refine hK14 .ret _ (in_ret ?_)
                refine then_ret ?_
                refine leave_val (.inr rfl) rfl rfl rfl (congrArg (fun z => V.val (.bool z)) ?_)
                first
                  | (symm; rw [decide_eq_false_iff_not]; intro hh;  have h1 := hh.1; have h2 := hh.2.1; omega)
                  | (symm; rw [decide_eq_false_iff_not]; intro hh;  have h3 := hh.2.2.1 i.toNat (by omega); unfold nodeOk at h3; omega)
                  | (symm; rw [decide_eq_false_iff_not]; intro hh;  have h3 := hh.2.2.2 i2.toNat (by omega); have h4 := hcl i2.toNat (by omega); exact h85 (by rw [h4]; exact h3))
                  | (symm; rw [decide_eq_true_iff]; exact ⟨by omega, by omega, fun j hj => hn j (by omega), fun j hj => hk j (by omega) hj⟩)
              · skip
                refine x_move ?_
                refine x_bin ?_
                refine x_move ?_
                refine x_split 68 rfl (by first | exact .beq | exact .bne | exact .dec | exact .not .beq | exact .not .bne | exact .not .dec | exact .not .id | exact .id) (fun h89 => ?_) (fun h89 => ?_)
                · skip
                  refine x_fieldAddr ?_
                  refine x_load ?_
                  refine x_move ?_
                  refine x_sub ?_ ?_
                  ·
                    have q3 := takeI_length (l := l) (i := i) (by omega) (by omega)
                    first
                      | exact ⟨by omega, by omega⟩
                      | (have q1 := hc (l[i.toNat]!).a.toNat (by omega); have q2 := usedBy_bound (takeI l i) (((l[i.toNat]!).a.toNat : Nat) : Int); exact ⟨by omega, by omega⟩)
                      | (have q0 := hc1 (l[i.toNat]!).b.toNat (by omega); have q1 := hc (l[i.toNat]!).b.toNat (by omega); have q2 := usedBy_bound (takeI l i) (((l[i.toNat]!).b.toNat : Nat) : Int); split at q0 <;> exact ⟨by omega, by omega⟩)
                  refine x_call (s_spec_l01In) ?_ (hl := by first | rfl | (repeat (first | exact lendL_nil | refine lendL_cons (by first | rfl | exact lend_ref rfl (ro_eL (by intro _; first | rfl | exact roL_cL (by intro _; rfl))) | exact lend_refp rfl (ro_eL (by intro _; first | rfl | exact roL_cL (by intro _; rfl))) | exact lend_agg (by repeat (first | exact lendL_nil | refine lendL_cons (by first | rfl | exact lend_ref rfl (ro_eL (by intro _; first | rfl | exact roL_cL (by intro _; rfl))) | exact lend_refp rfl (ro_eL (by intro _; first | rfl | exact roL_cL (by intro _; rfl)))) ?_))) ?_)))
                  rintro _ _ rfl
                  refine x_un ?_
                  refine x_pickT ?_
                  refine x_pickF ?_
                  refine r_nil hK84 ?_
                  refine hK83 _ _ (ghost_has (ks := [(0, .v _), (3, .ref 15 []), (5, .ref 5 []), (6, .v _), (16, .v _), (17, .v _), (18, .v _), (76, .v _)]) (km := [(0, _), (5, _), (15, _), (25, _)]) ⟨rfl, rfl, rfl, rfl, rfl, rfl, rfl, rfl, trivial⟩ ⟨rfl, rfl, rfl, rfl, trivial⟩ rfl) ?_
                  refine a_condS 76 rfl (by first | exact .beq | exact .bne | exact .dec | exact .not .beq | exact .not .bne | exact .not .dec | exact .not .id | exact .id) (fun h90 => ?_) (fun h90 => ?_)
                  · skip
                    refine a_seq fun K91 hK91 => ?_
                    refine a_region rfl fun K92 hK92 => ?_
                    refine x_assign ?_
                    refine r_nil hK92 ?_
                    refine hK91 _ _ (Ghost.refl _) ?_
                    refine a_ret ?_
                    refine then_ret ?_
                    refine hK21 .ret _ (in_ret ?_)
                    refine then_ret ?_
                    refine then_ret ?_
                    refine hK14 .ret _ (in_ret ?_)
                    refine then_ret ?_
                    refine leave_val (.inr rfl) rfl rfl rfl (congrArg (fun z => V.val (.bool z)) ?_)
                    first
                      | (symm; rw [decide_eq_false_iff_not]; intro hh;  have h1 := hh.1; have h2 := hh.2.1; omega)
                      | (symm; rw [decide_eq_false_iff_not]; intro hh;  have h3 := hh.2.2.1 i.toNat (by omega); unfold nodeOk at h3; omega)
                      | (symm; rw [decide_eq_false_iff_not]; intro hh;  have h3 := hh.2.2.2 i2.toNat (by omega); have h4 := hcl i2.toNat (by omega); exact h89 (by rw [h4]; exact h3))
                      | (symm; rw [decide_eq_true_iff]; exact ⟨by omega, by omega, fun j hj => hn j (by omega), fun j hj => hk j (by omega) hj⟩)
                  · skip
                    refine a_skip ?_
                    refine hK82 () _ _ _ (Ghost.refl _) ⟨rfl, rfl, rfl, rfl, rfl, rfl, rfl, trivial⟩ ⟨rfl, rfl, rfl, rfl, trivial⟩ ?_
                    try dsimp only
                    ·
                      first | omega | rfl | assumption | (simp; done) | (simp_all; done)
                · skip
                  refine x_shut ?_
                  refine x_shut ?_
                  refine x_shut ?_
                  refine x_shut ?_
                  refine x_shut ?_
                  refine x_shut ?_
                  refine x_pickF ?_
                  refine x_pickF ?_
                  refine r_nil hK84 ?_
                  refine hK83 _ _ (ghost_has (ks := [(0, .v _), (3, .ref 15 []), (5, .ref 5 []), (6, .v _), (16, .v _), (17, .v _), (18, .v _), (76, .v _)]) (km := [(0, _), (5, _), (15, _), (25, _)]) ⟨rfl, rfl, rfl, rfl, rfl, rfl, rfl, rfl, trivial⟩ ⟨rfl, rfl, rfl, rfl, trivial⟩ rfl) ?_
                  refine a_condF rfl ?_
                  refine a_skip ?_
                  refine hK82 () _ _ _ (Ghost.refl _) ⟨rfl, rfl, rfl, rfl, rfl, rfl, rfl, trivial⟩ ⟨rfl, rfl, rfl, rfl, trivial⟩ ?_
                  try dsimp only
                  ·
                    first | omega | rfl | assumption | (simp; done) | (simp_all; done)
            · skip
              refine x_shut ?_
              refine x_shut ?_
              refine x_shut ?_
              refine x_shut ?_
              refine x_shut ?_
              refine x_shut ?_
              refine x_pickF ?_
              refine x_move ?_
              refine x_move ?_
              refine x_bin ?_
              refine x_move ?_
              refine x_split 68 rfl (by first | exact .beq | exact .bne | exact .dec | exact .not .beq | exact .not .bne | exact .not .dec | exact .not .id | exact .id) (fun h93 => ?_) (fun h93 => ?_)
              · skip
                refine x_fieldAddr ?_
                refine x_load ?_
                refine x_move ?_
                refine x_sub ?_ ?_
                ·
                  have q3 := takeI_length (l := l) (i := i) (by omega) (by omega)
                  first
                    | exact ⟨by omega, by omega⟩
                    | (have q1 := hc (l[i.toNat]!).a.toNat (by omega); have q2 := usedBy_bound (takeI l i) (((l[i.toNat]!).a.toNat : Nat) : Int); exact ⟨by omega, by omega⟩)
                    | (have q0 := hc1 (l[i.toNat]!).b.toNat (by omega); have q1 := hc (l[i.toNat]!).b.toNat (by omega); have q2 := usedBy_bound (takeI l i) (((l[i.toNat]!).b.toNat : Nat) : Int); split at q0 <;> exact ⟨by omega, by omega⟩)
                refine x_call (s_spec_l01In) ?_ (hl := by first | rfl | (repeat (first | exact lendL_nil | refine lendL_cons (by first | rfl | exact lend_ref rfl (ro_eL (by intro _; first | rfl | exact roL_cL (by intro _; rfl))) | exact lend_refp rfl (ro_eL (by intro _; first | rfl | exact roL_cL (by intro _; rfl))) | exact lend_agg (by repeat (first | exact lendL_nil | refine lendL_cons (by first | rfl | exact lend_ref rfl (ro_eL (by intro _; first | rfl | exact roL_cL (by intro _; rfl))) | exact lend_refp rfl (ro_eL (by intro _; first | rfl | exact roL_cL (by intro _; rfl)))) ?_))) ?_)))
                rintro _ _ rfl
                refine x_un ?_
                refine x_pickT ?_
                refine x_pickF ?_
                refine r_nil hK84 ?_
                refine hK83 _ _ (ghost_has (ks := [(0, .v _), (3, .ref 15 []), (5, .ref 5 []), (6, .v _), (16, .v _), (17, .v _), (18, .v _), (76, .v _)]) (km := [(0, _), (5, _), (15, _), (25, _)]) ⟨rfl, rfl, rfl, rfl, rfl, rfl, rfl, rfl, trivial⟩ ⟨rfl, rfl, rfl, rfl, trivial⟩ rfl) ?_
                refine a_condS 76 rfl (by first | exact .beq | exact .bne | exact .dec | exact .not .beq | exact .not .bne | exact .not .dec | exact .not .id | exact .id) (fun h94 => ?_) (fun h94 => ?_)
                · skip
                  refine a_seq fun K95 hK95 => ?_
                  refine a_region rfl fun K96 hK96 => ?_
                  refine x_assign ?_
                  refine r_nil hK96 ?_
                  refine hK95 _ _ (Ghost.refl _) ?_
                  refine a_ret ?_
                  refine then_ret ?_
                  refine hK21 .ret _ (in_ret ?_)
                  refine then_ret ?_
                  refine then_ret ?_
                  refine hK14 .ret _ (in_ret ?_)
                  refine then_ret ?_
                  refine leave_val (.inr rfl) rfl rfl rfl (congrArg (fun z => V.val (.bool z)) ?_)
                  first
                    | (symm; rw [decide_eq_false_iff_not]; intro hh;  have h1 := hh.1; have h2 := hh.2.1; omega)
                    | (symm; rw [decide_eq_false_iff_not]; intro hh;  have h3 := hh.2.2.1 i.toNat (by omega); unfold nodeOk at h3; omega)
                    | (symm; rw [decide_eq_false_iff_not]; intro hh;  have h3 := hh.2.2.2 i2.toNat (by omega); have h4 := hcl i2.toNat (by omega); exact h93 (by rw [h4]; exact h3))
                    | (symm; rw [decide_eq_true_iff]; exact ⟨by omega, by omega, fun j hj => hn j (by omega), fun j hj => hk j (by omega) hj⟩)
                · skip
                  refine a_skip ?_
                  refine hK82 () _ _ _ (Ghost.refl _) ⟨rfl, rfl, rfl, rfl, rfl, rfl, rfl, trivial⟩ ⟨rfl, rfl, rfl, rfl, trivial⟩ ?_
                  try dsimp only
                  ·
                    first | omega | rfl | assumption | (simp; done) | (simp_all; done)
              · skip
                refine x_shut ?_
                refine x_shut ?_
                refine x_shut ?_
                refine x_shut ?_
                refine x_shut ?_
                refine x_shut ?_
                refine x_pickF ?_
                refine x_pickF ?_
                refine r_nil hK84 ?_
                refine hK83 _ _ (Ghost.refl _) ?_
                refine a_condF rfl ?_
                refine a_skip ?_
                refine hK82 () _ _ _ (Ghost.refl _) ⟨rfl, rfl, rfl, rfl, rfl, rfl, rfl, trivial⟩ ⟨rfl, rfl, rfl, rfl, trivial⟩ ?_
                try dsimp only
                ·
                  first | omega | rfl | assumption | (simp; done) | (simp_all; done)
          · rintro _u hI82
            dsimp only [List.cons_append, List.nil_append] at hI82 ⊢
            have c2 := hI82
            refine a_joinK (X := (List Int)) (fun o1 => ([] : List (Nat × S))) (fun o1 => ([(15, eL true 1 cI o1)] : List (Nat × V))) (fun o1 => (o1.length = l.length) ∧ (∀ j : Nat, j < l.length → o1[j]! = o[j]! + (if 0 < usesOf (l[i.toNat]!).op ∧ (l[i.toNat]!).a = j then 1 else 0))) [(0, .v _), (3, .ref 15 []), (5, .ref 5 []), (6, .v _), (16, .v _), (17, .v _), (18, .v _)] [(0, _), (5, _), (25, _)] ⟨rfl, rfl, rfl, rfl, rfl, rfl, rfl, trivial⟩ ⟨rfl, rfl, rfl, trivial⟩ (fun o1 => rfl) ?_ ?_
            · intro K97 hK97
              refine a_seq fun K98 hK98 => ?_
              refine a_region rfl fun K99 hK99 => ?_
              refine x_move ?_
              refine x_bin ?_
              refine r_nil hK99 ?_
              refine hK98 _ _ (Ghost.refl _) ?_
              refine a_condS 78 rfl (by first | exact .beq | exact .bne | exact .dec | exact .not .beq | exact .not .bne | exact .not .dec | exact .not .id | exact .id) (fun h100 => ?_) (fun h100 => ?_)
              · skip
                refine a_region rfl fun K101 hK101 => ?_
                refine x_move ?_
                refine x_fieldAddr ?_
                refine x_load ?_
                refine x_indexAddr ?_ ?_
                ·
                  exact ⟨by omega, by omega⟩
                first | refine x_ldE ?_ ?_ | refine x_ldN ?_ ?_ | refine x_ldO ?_ ?_ | refine x_ldON ?_ ?_ (hf := fun x => (rfl : cN x = List.map V.val [_, _, _, _]))
                ·
                  omega
                refine x_add ?_ ?_
                ·
                  have q3 := takeI_length (l := l) (i := i) (by omega) (by omega)
                  first
                    | exact ⟨by omega, by omega⟩
                    | (have q1 := hc (l[i.toNat]!).a.toNat (by omega); have q2 := usedBy_bound (takeI l i) (((l[i.toNat]!).a.toNat : Nat) : Int); exact ⟨by omega, by omega⟩)
                    | (have q0 := hc1 (l[i.toNat]!).b.toNat (by omega); have q1 := hc (l[i.toNat]!).b.toNat (by omega); have q2 := usedBy_bound (takeI l i) (((l[i.toNat]!).b.toNat : Nat) : Int); split at q0 <;> exact ⟨by omega, by omega⟩)
                refine x_indexAddr ?_ ?_
                ·
                  exact ⟨by omega, by omega⟩
                first | refine x_stE ?_ ?_ | refine x_stN' ?_ ?_
                ·
                  omega
                refine r_nil hK101 ?_
                refine hK97 _ _ _ _ (Ghost.refl _) ⟨rfl, rfl, rfl, rfl, rfl, rfl, rfl, trivial⟩ ⟨rfl, rfl, rfl, rfl, trivial⟩ ?_
                try dsimp only
                refine ⟨?_, ?_⟩
                ·
                  simp only [List.length_set]; omega
                ·
                  intro j hj; exact bump (by omega) (by omega) (by omega)
              · skip
                refine a_skip ?_
                refine hK97 _ _ _ _ (Ghost.refl _) ⟨rfl, rfl, rfl, rfl, rfl, rfl, rfl, trivial⟩ ⟨rfl, rfl, rfl, rfl, trivial⟩ ?_
                try dsimp only
                refine ⟨?_, ?_⟩
                ·
                  first | omega | rfl | assumption | (simp; done) | (simp_all; done)
                ·
                  intro j hj; rw [if_neg (by omega)]; omega
            · rintro o1 hI97
              dsimp only [List.cons_append, List.nil_append] at hI97 ⊢
              obtain ⟨ho1, hc1⟩ := hI97
              refine a_seq fun K102 hK102 => ?_
              refine a_region rfl fun K103 hK103 => ?_
              refine x_move ?_
              refine x_bin ?_
              refine r_nil hK103 ?_
              refine hK102 _ _ (Ghost.refl _) ?_
              refine a_condS 87 rfl (by first | exact .beq | exact .bne | exact .dec | exact .not .beq | exact .not .bne | exact .not .dec | exact .not .id | exact .id) (fun h104 => ?_) (fun h104 => ?_)
              · skip
                refine a_region rfl fun K105 hK105 => ?_
                refine x_move ?_
                refine x_fieldAddr ?_
                refine x_load ?_
                refine x_indexAddr ?_ ?_
                ·
                  exact ⟨by omega, by omega⟩
                first | refine x_ldE ?_ ?_ | refine x_ldN ?_ ?_ | refine x_ldO ?_ ?_ | refine x_ldON ?_ ?_ (hf := fun x => (rfl : cN x = List.map V.val [_, _, _, _]))
                ·
                  omega
                refine x_add ?_ ?_
                ·
                  have q3 := takeI_length (l := l) (i := i) (by omega) (by omega)
                  first
                    | exact ⟨by omega, by omega⟩
                    | (have q1 := hc (l[i.toNat]!).a.toNat (by omega); have q2 := usedBy_bound (takeI l i) (((l[i.toNat]!).a.toNat : Nat) : Int); exact ⟨by omega, by omega⟩)
                    | (have q0 := hc1 (l[i.toNat]!).b.toNat (by omega); have q1 := hc (l[i.toNat]!).b.toNat (by omega); have q2 := usedBy_bound (takeI l i) (((l[i.toNat]!).b.toNat : Nat) : Int); split at q0 <;> exact ⟨by omega, by omega⟩)
                refine x_indexAddr ?_ ?_
                ·
                  exact ⟨by omega, by omega⟩
                first | refine x_stE ?_ ?_ | refine x_stN' ?_ ?_
                ·
                  omega
                refine r_nil hK105 ?_
                refine hK21 .normal _ ?_
                refine hK20 _ _ (ghost_has (ks := [(0, .v _), (3, .ref 15 []), (16, .v _), (17, .v _), (18, .v _)]) (km := [(0, _), (15, _)]) ⟨rfl, rfl, rfl, rfl, rfl, trivial⟩ ⟨rfl, rfl, trivial⟩ rfl) ?_
                refine a_region rfl fun K106 hK106 => ?_
                refine x_add ?_ ?_
                ·
                  have q3 := takeI_length (l := l) (i := i) (by omega) (by omega)
                  first
                    | exact ⟨by omega, by omega⟩
                    | (have q1 := hc (l[i.toNat]!).a.toNat (by omega); have q2 := usedBy_bound (takeI l i) (((l[i.toNat]!).a.toNat : Nat) : Int); exact ⟨by omega, by omega⟩)
                    | (have q0 := hc1 (l[i.toNat]!).b.toNat (by omega); have q1 := hc (l[i.toNat]!).b.toNat (by omega); have q2 := usedBy_bound (takeI l i) (((l[i.toNat]!).b.toNat : Nat) : Int); split at q0 <;> exact ⟨by omega, by omega⟩)
                refine x_move ?_
                refine r_nil hK106 ?_
                have hc2 : ∀ j : Nat, j < l.length → (o1.set (l[i.toNat]!).b.toNat (o1[(l[i.toNat]!).b.toNat]! + 1))[j]! = o1[j]! + (if 1 < usesOf (l[i.toNat]!).op ∧ (l[i.toNat]!).b = j then 1 else 0) := fun j hj => bump (by omega) (by omega) (by omega)
                refine hK15 (_, _) _ _ _ (Ghost.refl _) ⟨rfl, rfl, rfl, rfl, rfl, trivial⟩ ⟨rfl, rfl, trivial⟩ ?_ ?_
                ·
                  first | omega | (dsimp only; omega)
                ·
                  try dsimp only
                  refine ⟨?_, ?_, ?_, ?_⟩
                  ·
                    first | omega | rfl | assumption | (simp; done) | (simp_all; done)
                  ·
                    first | (simp only [List.length_set]; omega) | omega
                  ·
                    intro j hj; rw [takeI_succ (by omega) (by omega), usedBy_snoc, ← hc j hj, ← hc1 j hj]; exact hc2 j hj
                  ·
                    intro j hj
                    by_cases e : j = i.toNat
                    · subst e; rw [show ((i.toNat : Nat) : Int) = i by omega]; exact ⟨c1.1, c1.2.1, c1.2.2.1, c1.2.2.2, c2.1, c2.2⟩
                    · exact hn j (by omega)
              · skip
                refine a_skip ?_
                refine hK21 .normal _ ?_
                refine hK20 _ _ (Ghost.refl _) ?_
                refine a_region rfl fun K107 hK107 => ?_
                refine x_add ?_ ?_
                ·
                  have q3 := takeI_length (l := l) (i := i) (by omega) (by omega)
                  first
                    | exact ⟨by omega, by omega⟩
                    | (have q1 := hc (l[i.toNat]!).a.toNat (by omega); have q2 := usedBy_bound (takeI l i) (((l[i.toNat]!).a.toNat : Nat) : Int); exact ⟨by omega, by omega⟩)
                    | (have q0 := hc1 (l[i.toNat]!).b.toNat (by omega); have q1 := hc (l[i.toNat]!).b.toNat (by omega); have q2 := usedBy_bound (takeI l i) (((l[i.toNat]!).b.toNat : Nat) : Int); split at q0 <;> exact ⟨by omega, by omega⟩)
                refine x_move ?_
                refine r_nil hK107 ?_
                have hc2 : ∀ j : Nat, j < l.length → o1[j]! = o1[j]! + (if 1 < usesOf (l[i.toNat]!).op ∧ (l[i.toNat]!).b = j then 1 else 0) := fun j hj => by rw [if_neg (by omega)]; omega
                refine hK15 (_, _) _ _ _ (Ghost.refl _) ⟨rfl, rfl, rfl, rfl, rfl, trivial⟩ ⟨rfl, rfl, trivial⟩ ?_ ?_
                ·
                  first | omega | (dsimp only; omega)
                ·
                  try dsimp only
                  refine ⟨?_, ?_, ?_, ?_⟩
                  ·
                    first | omega | rfl | assumption | (simp; done) | (simp_all; done)
                  ·
                    first | (simp only [List.length_set]; omega) | omega
                  ·
                    intro j hj; rw [takeI_succ (by omega) (by omega), usedBy_snoc, ← hc j hj, ← hc1 j hj]; exact hc2 j hj
                  ·
                    intro j hj
                    by_cases e : j = i.toNat
                    · subst e; rw [show ((i.toNat : Nat) : Int) = i by omega]; exact ⟨c1.1, c1.2.1, c1.2.2.1, c1.2.2.2, c2.1, c2.2⟩
                    · exact hn j (by omega)
      · skip
        refine a_exit ?_
        refine then_exit ?_
        refine then_exit ?_
        refine hK14 (.exit 0) _ (in_exit ?_)
        refine hK11 _ _ (Ghost.refl _) ?_
        refine a_seq fun K108 hK108 => ?_
        refine a_seq fun K109 hK109 => ?_
        refine a_region rfl fun K110 hK110 => ?_
        refine x_move ?_
        refine x_len ?_
        refine x_move ?_
        refine r_nil hK110 ?_
        refine hK109 _ _ (Ghost.refl _) ?_
        refine a_block fun K111 hK111 => ?_
        refine a_loopM (X := Int) (fun i2 => ([(98, .v (.val (.int .i64 i2)))] : List (Nat × S))) (fun i2 => ([] : List (Nat × V))) (fun i2 => (0 ≤ i2 ∧ i2 ≤ l.length) ∧ (∀ j : Nat, j < i2.toNat → j < l.length - 1 → usedBy l j = 1)) (fun i2 => (l.length - i2).toNat) [(0, .v _), (96, .ref 15 []), (97, .v _)] [(0, _), (15, _)] _ (Ghost.refl _) ⟨rfl, rfl, rfl, rfl, trivial⟩ ⟨rfl, rfl, trivial⟩ (fun i2 => rfl) ?_ ?_
        ·
          try dsimp only
          refine ⟨?_, ?_⟩
          ·
            first | omega | rfl | assumption | (simp; done) | (simp_all; done)
          ·
            intro j hj; simp at hj
        ·
          rintro i2 hI112 K112 hK112
          dsimp only [List.cons_append, List.nil_append] at hI112 ⊢
          obtain ⟨hi2, hk⟩ := hI112
          have hcl : ∀ j : Nat, j < l.length → o[j]! = usedBy l j := by
            intro j hj; have := hc j hj; rwa [takeI_all (by omega)] at this
          refine a_seq fun K113 hK113 => ?_
          refine a_region rfl fun K114 hK114 => ?_
          refine x_bin ?_
          refine r_nil hK114 ?_
          refine hK113 _ _ (Ghost.refl _) ?_
          refine a_seq fun K115 hK115 => ?_
          refine a_condS 99 rfl (by first | exact .beq | exact .bne | exact .dec | exact .not .beq | exact .not .bne | exact .not .dec | exact .not .id | exact .id) (fun h116 => ?_) (fun h116 => ?_)
          · skip
            refine a_skip ?_
            refine hK115 _ _ (Ghost.refl _) ?_
            refine a_seq fun K117 hK117 => ?_
            refine a_block fun K118 hK118 => ?_
            refine a_seq fun K119 hK119 => ?_
            refine a_region rfl fun K120 hK120 => ?_
            refine x_move ?_
            refine x_indexAddr ?_ ?_
            ·
              exact ⟨by omega, by omega⟩
            first | refine x_ldE ?_ ?_ | refine x_ldN ?_ ?_ | refine x_ldO ?_ ?_ | refine x_ldON ?_ ?_ (hf := fun x => (rfl : cN x = List.map V.val [_, _, _, _]))
            ·
              omega
            refine x_assign ?_
            refine x_assign ?_
            refine r_nil hK120 ?_
            refine hK119 _ _ (Ghost.refl _) ?_
            refine a_seq fun K121 hK121 => ?_
            refine a_region rfl fun K122 hK122 => ?_
            refine x_move ?_
            refine x_bin ?_
            refine x_move ?_
            refine x_split 105 rfl (by first | exact .beq | exact .bne | exact .dec | exact .not .beq | exact .not .bne | exact .not .dec | exact .not .id | exact .id) (fun h123 => ?_) (fun h123 => ?_)
            · skip
              refine x_move ?_
              refine x_move ?_
              refine x_len ?_
              refine x_sub ?_ ?_
              ·
                have q3 := takeI_length (l := l) (i := i) (by omega) (by omega)
                first
                  | exact ⟨by omega, by omega⟩
                  | (have q1 := hc (l[i.toNat]!).a.toNat (by omega); have q2 := usedBy_bound (takeI l i) (((l[i.toNat]!).a.toNat : Nat) : Int); exact ⟨by omega, by omega⟩)
                  | (have q0 := hc1 (l[i.toNat]!).b.toNat (by omega); have q1 := hc (l[i.toNat]!).b.toNat (by omega); have q2 := usedBy_bound (takeI l i) (((l[i.toNat]!).b.toNat : Nat) : Int); split at q0 <;> exact ⟨by omega, by omega⟩)
              refine x_bin ?_
              refine x_pickT ?_
              refine r_nil hK122 ?_
              refine hK121 _ _ (ghost_has (ks := [(0, .v _), (96, .ref 15 []), (97, .v _), (98, .v _), (111, .v _)]) (km := [(0, _), (15, _)]) ⟨rfl, rfl, rfl, rfl, rfl, trivial⟩ ⟨rfl, rfl, trivial⟩ rfl) ?_
              refine a_condS 111 rfl (by first | exact .beq | exact .bne | exact .dec | exact .not .beq | exact .not .bne | exact .not .dec | exact .not .id | exact .id) (fun h124 => ?_) (fun h124 => ?_)
              · skip
                refine a_seq fun K125 hK125 => ?_
                refine a_region rfl fun K126 hK126 => ?_
                refine x_assign ?_
                refine r_nil hK126 ?_
                refine hK125 _ _ (Ghost.refl _) ?_
                refine a_ret ?_
                refine hK118 .ret _ (in_ret ?_)
                refine then_ret ?_
                refine then_ret ?_
                refine hK111 .ret _ (in_ret ?_)
                refine then_ret ?_
                refine leave_val (.inr rfl) rfl rfl rfl (congrArg (fun z => V.val (.bool z)) ?_)
                first
                  | (symm; rw [decide_eq_false_iff_not]; intro hh;  have h1 := hh.1; have h2 := hh.2.1; omega)
                  | (symm; rw [decide_eq_false_iff_not]; intro hh;  have h3 := hh.2.2.1 i.toNat (by omega); unfold nodeOk at h3; omega)
                  | (symm; rw [decide_eq_false_iff_not]; intro hh;  have h3 := hh.2.2.2 i2.toNat (by omega); have h4 := hcl i2.toNat (by omega); exact h123 (by rw [h4]; exact h3))
                  | (symm; rw [decide_eq_true_iff]; exact ⟨by omega, by omega, fun j hj => hn j (by omega), fun j hj => hk j (by omega) hj⟩)
              · skip
                refine a_skip ?_
                refine hK118 .normal _ ?_
                refine hK117 _ _ (Ghost.refl _) ?_
                refine a_region rfl fun K127 hK127 => ?_
                refine x_add ?_ ?_
                ·
                  have q3 := takeI_length (l := l) (i := i) (by omega) (by omega)
                  first
                    | exact ⟨by omega, by omega⟩
                    | (have q1 := hc (l[i.toNat]!).a.toNat (by omega); have q2 := usedBy_bound (takeI l i) (((l[i.toNat]!).a.toNat : Nat) : Int); exact ⟨by omega, by omega⟩)
                    | (have q0 := hc1 (l[i.toNat]!).b.toNat (by omega); have q1 := hc (l[i.toNat]!).b.toNat (by omega); have q2 := usedBy_bound (takeI l i) (((l[i.toNat]!).b.toNat : Nat) : Int); split at q0 <;> exact ⟨by omega, by omega⟩)
                refine x_move ?_
                refine r_nil hK127 ?_
                refine hK112 _ _ _ _ (Ghost.refl _) ⟨rfl, rfl, rfl, rfl, trivial⟩ ⟨rfl, rfl, trivial⟩ ?_ ?_
                ·
                  first | omega | (dsimp only; omega)
                ·
                  try dsimp only
                  refine ⟨?_, ?_⟩
                  ·
                    first | omega | rfl | assumption | (simp; done) | (simp_all; done)
                  ·
                    intro j hj hj2
                    by_cases e : j = i2.toNat
                    · subst e; rw [← hcl _ (by omega)]; first | exact Decidable.not_not.1 h124 | omega
                    · exact hk j (by omega) hj2
            · skip
              refine x_shut ?_
              refine x_shut ?_
              refine x_shut ?_
              refine x_shut ?_
              refine x_shut ?_
              refine x_pickF ?_
              refine r_nil hK122 ?_
              refine hK121 _ _ (Ghost.refl _) ?_
              refine a_condF rfl ?_
              refine a_skip ?_
              refine hK118 .normal _ ?_
              refine hK117 _ _ (Ghost.refl _) ?_
              refine a_region rfl fun K128 hK128 => ?_
              refine x_add ?_ ?_
              ·
                have q3 := takeI_length (l := l) (i := i) (by omega) (by omega)
                first
                  | exact ⟨by omega, by omega⟩
                  | (have q1 := hc (l[i.toNat]!).a.toNat (by omega); have q2 := usedBy_bound (takeI l i) (((l[i.toNat]!).a.toNat : Nat) : Int); exact ⟨by omega, by omega⟩)
                  | (have q0 := hc1 (l[i.toNat]!).b.toNat (by omega); have q1 := hc (l[i.toNat]!).b.toNat (by omega); have q2 := usedBy_bound (takeI l i) (((l[i.toNat]!).b.toNat : Nat) : Int); split at q0 <;> exact ⟨by omega, by omega⟩)
              refine x_move ?_
              refine r_nil hK128 ?_
              refine hK112 _ _ _ _ (Ghost.refl _) ⟨rfl, rfl, rfl, rfl, trivial⟩ ⟨rfl, rfl, trivial⟩ ?_ ?_
              ·
                first | omega | (dsimp only; omega)
              ·
                try dsimp only
                refine ⟨?_, ?_⟩
                ·
                  first | omega | rfl | assumption | (simp; done) | (simp_all; done)
                ·
                  intro j hj hj2
                  by_cases e : j = i2.toNat
                  · subst e; rw [← hcl _ (by omega)]; first | exact Decidable.not_not.1 h123 | omega
                  · exact hk j (by omega) hj2
          · skip
            refine a_exit ?_
            refine then_exit ?_
            refine then_exit ?_
            refine hK111 (.exit 2) _ (in_exit ?_)
            refine hK108 _ _ (Ghost.refl _) ?_
            refine a_seq fun K129 hK129 => ?_
            refine a_region rfl fun K130 hK130 => ?_
            refine x_assign ?_
            refine r_nil hK130 ?_
            refine hK129 _ _ (Ghost.refl _) ?_
            refine a_ret ?_
            refine leave_val (.inr rfl) rfl rfl rfl (congrArg (fun z => V.val (.bool z)) ?_)
            first
              | (symm; rw [decide_eq_false_iff_not]; intro hh;  have h1 := hh.1; have h2 := hh.2.1; omega)
              | (symm; rw [decide_eq_false_iff_not]; intro hh;  have h3 := hh.2.2.1 i.toNat (by omega); unfold nodeOk at h3; omega)
              | (symm; rw [decide_eq_false_iff_not]; intro hh;  have h3 := hh.2.2.2 i2.toNat (by omega); have h4 := hcl i2.toNat (by omega); exact h19 (by rw [h4]; exact h3))
              | (symm; rw [decide_eq_true_iff]; exact ⟨by omega, by omega, fun j hj => hn j (by omega), fun j hj => hk j (by omega) hj⟩)
end Go.T
namespace Go.T
open Go Go.E Go.Proofs
set_option maxHeartbeats 8000000 in
theorem s_spec_l02Depth_step {l : List Nd} {at_ : Int} (hok : fOk l) (h0 : 0 ≤ at_ ∧ at_ < l.length) (IH : ∀ at2 : Int, 0 ≤ at2 → at2 < at_ → Go.E.Spec Try.prog 38 [eL false 4 cN l, .val (.int .i64 at2)] (fun r _ => r = .val (.int .i64 (depthT (treeI l at2.toNat))))) : Go.E.Spec Try.prog 38 [eL false 4 cN l, .val (.int .i64 at_)] (fun r _ => r = .val (.int .i64 (depthT (treeI l at_.toNat)))) := by
  refine spec_of_awp (E := Ev) evOk Try.func38 (c := _) rfl (by decide) (by simp [Try.ntmps38]) ?_
  rw [Try.ntmps38, entry_mk]
  change awp Ev 2 35 _ _ (mkSt [(0, .v (eL false 4 cN l)), (1, .v (.val (.int .i64 at_)))] [(0, eL false 4 cN l), (1, .val (.int .i64 at_))])
  have hn := fOk_node hok h0.1 h0.2
  unfold nodeOk at hn
  have hl := hok.2.1
  have hda := depth_le l (l[at_.toNat]!).a.toNat
  have hdb := depth_le l (l[at_.toNat]!).b.toNat
  have hna := depthT_nonneg (treeI l (l[at_.toNat]!).a.toNat)
  have hnb := depthT_nonneg (treeI l (l[at_.toNat]!).b.toNat)
  have hu : usesOf (l[at_.toNat]!).op ≤ 2 := by unfold usesOf; (repeat split) <;> omega
  refine a_seq fun K1 hK1 => ?_
  refine a_region rfl fun K2 hK2 => ?_
  refine x_assign ?_
  refine r_nil hK2 ?_
  refine hK1 _ _ (Ghost.refl _) ?_
  refine a_seq fun K3 hK3 => ?_
  refine a_region rfl fun K4 hK4 => ?_
  refine x_move ?_
  refine x_move ?_
  refine x_indexAddr ?_ ?_
  ·
    exact ⟨by omega, by omega⟩
  first | refine x_ldE ?_ ?_ | refine x_ldN ?_ ?_ | refine x_ldO ?_ ?_ | refine x_ldON ?_ ?_ (hf := fun x => (rfl : cN x = List.map V.val [_, _, _, _]))
  ·
    omega
  refine x_alloc ?_
  first | refine x_put0 ?_ | refine x_put1 ?_ | refine x_put2 ?_ | refine x_put3 ?_ | refine x_putAll ?_ | refine x_put0R ?_ | refine x_put1R ?_ | refine x_put2R ?_ | refine x_put3R ?_ | refine x_putM ?_ | refine x_put0T ?_ | refine x_put1T ?_ | refine x_putAllT ?_
  refine r_nil hK4 ?_
  refine hK3 _ _ (Ghost.refl _) ?_
  refine a_seq fun K5 hK5 => ?_
  refine a_region rfl fun K6 hK6 => ?_
  refine x_assign ?_
  refine r_nil hK6 ?_
  refine hK5 _ _ (ghost_has (ks := [(0, .v _), (5, .ref 5 []), (6, .v _)]) (km := [(0, _), (1, _), (5, _)]) ⟨rfl, rfl, rfl, trivial⟩ ⟨rfl, rfl, rfl, trivial⟩ rfl) ?_
  refine a_seq fun K7 hK7 => ?_
  refine a_seq fun K8 hK8 => ?_
  refine a_region rfl fun K9 hK9 => ?_
  refine x_fieldAddr ?_
  refine x_load ?_
  refine x_call (s_spec_l02Uses) ?_ (hl := by first | rfl | (repeat (first | exact lendL_nil | refine lendL_cons (by first | rfl | exact lend_ref rfl (ro_eL (by intro _; first | rfl | exact roL_cL (by intro _; rfl))) | exact lend_refp rfl (ro_eL (by intro _; first | rfl | exact roL_cL (by intro _; rfl))) | exact lend_agg (by repeat (first | exact lendL_nil | refine lendL_cons (by first | rfl | exact lend_ref rfl (ro_eL (by intro _; first | rfl | exact roL_cL (by intro _; rfl))) | exact lend_refp rfl (ro_eL (by intro _; first | rfl | exact roL_cL (by intro _; rfl)))) ?_))) ?_)))
  rintro _ _ rfl
  refine x_bin ?_
  refine r_nil hK9 ?_
  refine hK8 _ _ (Ghost.refl _) ?_
  refine a_condS 14 rfl (by first | exact .beq | exact .bne | exact .dec | exact .not .beq | exact .not .bne | exact .not .dec | exact .not .id | exact .id) (fun h10 => ?_) (fun h10 => ?_)
  · skip
    refine a_region rfl fun K11 hK11 => ?_
    refine x_move ?_
    refine x_fieldAddr ?_
    refine x_load ?_
    refine x_call (IH _ ?_ ?_) ?_ (hl := by first | rfl | (repeat (first | exact lendL_nil | refine lendL_cons (by first | rfl | exact lend_ref rfl (ro_eL (by intro _; first | rfl | exact roL_cL (by intro _; rfl))) | exact lend_refp rfl (ro_eL (by intro _; first | rfl | exact roL_cL (by intro _; rfl))) | exact lend_agg (by repeat (first | exact lendL_nil | refine lendL_cons (by first | rfl | exact lend_ref rfl (ro_eL (by intro _; first | rfl | exact roL_cL (by intro _; rfl))) | exact lend_refp rfl (ro_eL (by intro _; first | rfl | exact roL_cL (by intro _; rfl)))) ?_))) ?_)))
    · omega
    · omega
    rintro _ _ rfl
    refine x_assign ?_
    refine r_nil hK11 ?_
    refine hK7 _ _ (ghost_has (ks := [(0, .v _), (5, .ref 5 []), (6, .v _)]) (km := [(0, _), (1, _), (5, _), (18, _)]) ⟨rfl, rfl, rfl, trivial⟩ ⟨rfl, rfl, rfl, rfl, trivial⟩ rfl) ?_
    refine a_seq fun K12 hK12 => ?_
    refine a_seq fun K13 hK13 => ?_
    refine a_region rfl fun K14 hK14 => ?_
    refine x_fieldAddr ?_
    refine x_load ?_
    refine x_call (s_spec_l02Uses) ?_ (hl := by first | rfl | (repeat (first | exact lendL_nil | refine lendL_cons (by first | rfl | exact lend_ref rfl (ro_eL (by intro _; first | rfl | exact roL_cL (by intro _; rfl))) | exact lend_refp rfl (ro_eL (by intro _; first | rfl | exact roL_cL (by intro _; rfl))) | exact lend_agg (by repeat (first | exact lendL_nil | refine lendL_cons (by first | rfl | exact lend_ref rfl (ro_eL (by intro _; first | rfl | exact roL_cL (by intro _; rfl))) | exact lend_refp rfl (ro_eL (by intro _; first | rfl | exact roL_cL (by intro _; rfl)))) ?_))) ?_)))
    rintro _ _ rfl
    refine x_bin ?_
    refine r_nil hK14 ?_
    refine hK13 _ _ (Ghost.refl _) ?_
    refine a_condS 22 rfl (by first | exact .beq | exact .bne | exact .dec | exact .not .beq | exact .not .bne | exact .not .dec | exact .not .id | exact .id) (fun h15 => ?_) (fun h15 => ?_)
    · skip
      refine a_region rfl fun K16 hK16 => ?_
      refine x_move ?_
      refine x_move ?_
      refine x_fieldAddr ?_
      refine x_load ?_
      refine x_call (IH _ ?_ ?_) ?_ (hl := by first | rfl | (repeat (first | exact lendL_nil | refine lendL_cons (by first | rfl | exact lend_ref rfl (ro_eL (by intro _; first | rfl | exact roL_cL (by intro _; rfl))) | exact lend_refp rfl (ro_eL (by intro _; first | rfl | exact roL_cL (by intro _; rfl))) | exact lend_agg (by repeat (first | exact lendL_nil | refine lendL_cons (by first | rfl | exact lend_ref rfl (ro_eL (by intro _; first | rfl | exact roL_cL (by intro _; rfl))) | exact lend_refp rfl (ro_eL (by intro _; first | rfl | exact roL_cL (by intro _; rfl)))) ?_))) ?_)))
      · omega
      · omega
      rintro _ _ rfl
      refine x_minmax ?_
      refine x_assign ?_
      refine r_nil hK16 ?_
      refine hK12 _ _ (ghost_has (ks := [(5, .ref 5 []), (6, .v _)]) (km := [(0, _), (1, _), (5, _)]) ⟨rfl, rfl, trivial⟩ ⟨rfl, rfl, rfl, trivial⟩ rfl) ?_
      refine a_seq fun K17 hK17 => ?_
      refine a_seq fun K18 hK18 => ?_
      refine a_region rfl fun K19 hK19 => ?_
      refine x_fieldAddr ?_
      refine x_load ?_
      refine x_call (s_spec_l01In) ?_ (hl := by first | rfl | (repeat (first | exact lendL_nil | refine lendL_cons (by first | rfl | exact lend_ref rfl (ro_eL (by intro _; first | rfl | exact roL_cL (by intro _; rfl))) | exact lend_refp rfl (ro_eL (by intro _; first | rfl | exact roL_cL (by intro _; rfl))) | exact lend_agg (by repeat (first | exact lendL_nil | refine lendL_cons (by first | rfl | exact lend_ref rfl (ro_eL (by intro _; first | rfl | exact roL_cL (by intro _; rfl))) | exact lend_refp rfl (ro_eL (by intro _; first | rfl | exact roL_cL (by intro _; rfl)))) ?_))) ?_)))
      rintro _ _ rfl
      refine r_nil hK19 ?_
      refine hK18 _ _ (Ghost.refl _) ?_
      refine a_condS 31 rfl (by first | exact .beq | exact .bne | exact .dec | exact .not .beq | exact .not .bne | exact .not .dec | exact .not .id | exact .id) (fun h20 => ?_) (fun h20 => ?_)
      · skip
        refine a_region rfl fun K21 hK21 => ?_
        refine x_move ?_
        refine x_add ?_ ?_
        ·
          first
            | exact ⟨by omega, by omega⟩
            | (split <;> exact ⟨by omega, by omega⟩)
        refine x_assign ?_
        refine r_nil hK21 ?_
        refine hK17 _ _ (Ghost.refl _) ?_
        refine a_seq fun K22 hK22 => ?_
        refine a_region rfl fun K23 hK23 => ?_
        refine x_move ?_
        refine x_assign ?_
        refine r_nil hK23 ?_
        refine hK22 _ _ (Ghost.refl _) ?_
        refine a_ret ?_
        refine leave_val (.inr rfl) rfl rfl rfl (congrArg (fun z => V.val (.int .i64 z)) ?_)
        rw [depth_eq l at_.toNat]; (repeat split) <;> omega
      · skip
        refine a_skip ?_
        refine hK17 _ _ (Ghost.refl _) ?_
        refine a_seq fun K24 hK24 => ?_
        refine a_region rfl fun K25 hK25 => ?_
        refine x_move ?_
        refine x_assign ?_
        refine r_nil hK25 ?_
        refine hK24 _ _ (Ghost.refl _) ?_
        refine a_ret ?_
        refine leave_val (.inr rfl) rfl rfl rfl (congrArg (fun z => V.val (.int .i64 z)) ?_)
        rw [depth_eq l at_.toNat]; (repeat split) <;> omega
    · skip
      refine a_skip ?_
      refine hK12 _ _ (Ghost.refl _) ?_
      refine a_seq fun K26 hK26 => ?_
      refine a_seq fun K27 hK27 => ?_
      refine a_region rfl fun K28 hK28 => ?_
      refine x_fieldAddr ?_
      refine x_load ?_
      refine x_call (s_spec_l01In) ?_ (hl := by first | rfl | (repeat (first | exact lendL_nil | refine lendL_cons (by first | rfl | exact lend_ref rfl (ro_eL (by intro _; first | rfl | exact roL_cL (by intro _; rfl))) | exact lend_refp rfl (ro_eL (by intro _; first | rfl | exact roL_cL (by intro _; rfl))) | exact lend_agg (by repeat (first | exact lendL_nil | refine lendL_cons (by first | rfl | exact lend_ref rfl (ro_eL (by intro _; first | rfl | exact roL_cL (by intro _; rfl))) | exact lend_refp rfl (ro_eL (by intro _; first | rfl | exact roL_cL (by intro _; rfl)))) ?_))) ?_)))
      rintro _ _ rfl
      refine r_nil hK28 ?_
      refine hK27 _ _ (Ghost.refl _) ?_
      refine a_condS 31 rfl (by first | exact .beq | exact .bne | exact .dec | exact .not .beq | exact .not .bne | exact .not .dec | exact .not .id | exact .id) (fun h29 => ?_) (fun h29 => ?_)
      · skip
        refine a_region rfl fun K30 hK30 => ?_
        refine x_move ?_
        refine x_add ?_ ?_
        ·
          first
            | exact ⟨by omega, by omega⟩
            | (split <;> exact ⟨by omega, by omega⟩)
        refine x_assign ?_
        refine r_nil hK30 ?_
        refine hK26 _ _ (ghost_has (ks := [(6, .v _)]) (km := [(0, _), (1, _)]) ⟨rfl, trivial⟩ ⟨rfl, rfl, trivial⟩ rfl) ?_
        refine a_seq fun K31 hK31 => ?_
        refine a_region rfl fun K32 hK32 => ?_
        refine x_move ?_
        refine x_assign ?_
        refine r_nil hK32 ?_
        refine hK31 _ _ (Ghost.refl _) ?_
        refine a_ret ?_
        refine leave_val (.inr rfl) rfl rfl rfl (congrArg (fun z => V.val (.int .i64 z)) ?_)
        rw [depth_eq l at_.toNat]; (repeat split) <;> omega
      · skip
        refine a_skip ?_
        refine hK26 _ _ (Ghost.refl _) ?_
        refine a_seq fun K33 hK33 => ?_
        refine a_region rfl fun K34 hK34 => ?_
        refine x_move ?_
        refine x_assign ?_
        refine r_nil hK34 ?_
        refine hK33 _ _ (Ghost.refl _) ?_
        refine a_ret ?_
        refine leave_val (.inr rfl) rfl rfl rfl (congrArg (fun z => V.val (.int .i64 z)) ?_)
        rw [depth_eq l at_.toNat]; (repeat split) <;> omega
  · skip
    refine a_skip ?_
    refine hK7 _ _ (Ghost.refl _) ?_
    refine a_seq fun K35 hK35 => ?_
    refine a_seq fun K36 hK36 => ?_
    refine a_region rfl fun K37 hK37 => ?_
    refine x_fieldAddr ?_
    refine x_load ?_
    refine x_call (s_spec_l02Uses) ?_ (hl := by first | rfl | (repeat (first | exact lendL_nil | refine lendL_cons (by first | rfl | exact lend_ref rfl (ro_eL (by intro _; first | rfl | exact roL_cL (by intro _; rfl))) | exact lend_refp rfl (ro_eL (by intro _; first | rfl | exact roL_cL (by intro _; rfl))) | exact lend_agg (by repeat (first | exact lendL_nil | refine lendL_cons (by first | rfl | exact lend_ref rfl (ro_eL (by intro _; first | rfl | exact roL_cL (by intro _; rfl))) | exact lend_refp rfl (ro_eL (by intro _; first | rfl | exact roL_cL (by intro _; rfl)))) ?_))) ?_)))
    rintro _ _ rfl
    refine x_bin ?_
    refine r_nil hK37 ?_
    refine hK36 _ _ (ghost_has (ks := [(0, .v _), (5, .ref 5 []), (6, .v _), (22, .v _)]) (km := [(0, _), (1, _), (5, _)]) ⟨rfl, rfl, rfl, rfl, trivial⟩ ⟨rfl, rfl, rfl, trivial⟩ rfl) ?_
    refine a_condS 22 rfl (by first | exact .beq | exact .bne | exact .dec | exact .not .beq | exact .not .bne | exact .not .dec | exact .not .id | exact .id) (fun h38 => ?_) (fun h38 => ?_)
    · skip
      refine a_region rfl fun K39 hK39 => ?_
      refine x_move ?_
      refine x_move ?_
      refine x_fieldAddr ?_
      refine x_load ?_
      refine x_call (IH _ ?_ ?_) ?_ (hl := by first | rfl | (repeat (first | exact lendL_nil | refine lendL_cons (by first | rfl | exact lend_ref rfl (ro_eL (by intro _; first | rfl | exact roL_cL (by intro _; rfl))) | exact lend_refp rfl (ro_eL (by intro _; first | rfl | exact roL_cL (by intro _; rfl))) | exact lend_agg (by repeat (first | exact lendL_nil | refine lendL_cons (by first | rfl | exact lend_ref rfl (ro_eL (by intro _; first | rfl | exact roL_cL (by intro _; rfl))) | exact lend_refp rfl (ro_eL (by intro _; first | rfl | exact roL_cL (by intro _; rfl)))) ?_))) ?_)))
      · omega
      · omega
      rintro _ _ rfl
      refine x_minmax ?_
      refine x_assign ?_
      refine r_nil hK39 ?_
      refine hK35 _ _ (Ghost.refl _) ?_
      refine a_seq fun K40 hK40 => ?_
      refine a_seq fun K41 hK41 => ?_
      refine a_region rfl fun K42 hK42 => ?_
      refine x_fieldAddr ?_
      refine x_load ?_
      refine x_call (s_spec_l01In) ?_ (hl := by first | rfl | (repeat (first | exact lendL_nil | refine lendL_cons (by first | rfl | exact lend_ref rfl (ro_eL (by intro _; first | rfl | exact roL_cL (by intro _; rfl))) | exact lend_refp rfl (ro_eL (by intro _; first | rfl | exact roL_cL (by intro _; rfl))) | exact lend_agg (by repeat (first | exact lendL_nil | refine lendL_cons (by first | rfl | exact lend_ref rfl (ro_eL (by intro _; first | rfl | exact roL_cL (by intro _; rfl))) | exact lend_refp rfl (ro_eL (by intro _; first | rfl | exact roL_cL (by intro _; rfl)))) ?_))) ?_)))
      rintro _ _ rfl
      refine r_nil hK42 ?_
      refine hK41 _ _ (ghost_has (ks := [(6, .v _), (31, .v _)]) (km := [(0, _), (1, _), (31, _)]) ⟨rfl, rfl, trivial⟩ ⟨rfl, rfl, rfl, trivial⟩ rfl) ?_
      refine a_condS 31 rfl (by first | exact .beq | exact .bne | exact .dec | exact .not .beq | exact .not .bne | exact .not .dec | exact .not .id | exact .id) (fun h43 => ?_) (fun h43 => ?_)
      · skip
        refine a_region rfl fun K44 hK44 => ?_
        refine x_move ?_
        refine x_add ?_ ?_
        ·
          first
            | exact ⟨by omega, by omega⟩
            | (split <;> exact ⟨by omega, by omega⟩)
        refine x_assign ?_
        refine r_nil hK44 ?_
        refine hK40 _ _ (Ghost.refl _) ?_
        refine a_seq fun K45 hK45 => ?_
        refine a_region rfl fun K46 hK46 => ?_
        refine x_move ?_
        refine x_assign ?_
        refine r_nil hK46 ?_
        refine hK45 _ _ (Ghost.refl _) ?_
        refine a_ret ?_
        refine leave_val (.inr rfl) rfl rfl rfl (congrArg (fun z => V.val (.int .i64 z)) ?_)
        rw [depth_eq l at_.toNat]; (repeat split) <;> omega
      · skip
        refine a_skip ?_
        refine hK40 _ _ (Ghost.refl _) ?_
        refine a_seq fun K47 hK47 => ?_
        refine a_region rfl fun K48 hK48 => ?_
        refine x_move ?_
        refine x_assign ?_
        refine r_nil hK48 ?_
        refine hK47 _ _ (Ghost.refl _) ?_
        refine a_ret ?_
        refine leave_val (.inr rfl) rfl rfl rfl (congrArg (fun z => V.val (.int .i64 z)) ?_)
        rw [depth_eq l at_.toNat]; (repeat split) <;> omega
    · skip
      refine a_skip ?_
      refine hK35 _ _ (Ghost.refl _) ?_
      refine a_seq fun K49 hK49 => ?_
      refine a_seq fun K50 hK50 => ?_
      refine a_region rfl fun K51 hK51 => ?_
      refine x_fieldAddr ?_
      refine x_load ?_
      refine x_call (s_spec_l01In) ?_ (hl := by first | rfl | (repeat (first | exact lendL_nil | refine lendL_cons (by first | rfl | exact lend_ref rfl (ro_eL (by intro _; first | rfl | exact roL_cL (by intro _; rfl))) | exact lend_refp rfl (ro_eL (by intro _; first | rfl | exact roL_cL (by intro _; rfl))) | exact lend_agg (by repeat (first | exact lendL_nil | refine lendL_cons (by first | rfl | exact lend_ref rfl (ro_eL (by intro _; first | rfl | exact roL_cL (by intro _; rfl))) | exact lend_refp rfl (ro_eL (by intro _; first | rfl | exact roL_cL (by intro _; rfl)))) ?_))) ?_)))
      rintro _ _ rfl
      refine r_nil hK51 ?_
      refine hK50 _ _ (Ghost.refl _) ?_
      refine a_condS 31 rfl (by first | exact .beq | exact .bne | exact .dec | exact .not .beq | exact .not .bne | exact .not .dec | exact .not .id | exact .id) (fun h52 => ?_) (fun h52 => ?_)
      · skip
        refine a_region rfl fun K53 hK53 => ?_
        refine x_move ?_
        refine x_add ?_ ?_
        ·
          first
            | exact ⟨by omega, by omega⟩
            | (split <;> exact ⟨by omega, by omega⟩)
        refine x_assign ?_
        refine r_nil hK53 ?_
        refine hK49 _ _ (Ghost.refl _) ?_
        refine a_seq fun K54 hK54 => ?_
        refine a_region rfl fun K55 hK55 => ?_
        refine x_move ?_
        refine x_assign ?_
        refine r_nil hK55 ?_
        refine hK54 _ _ (Ghost.refl _) ?_
        refine a_ret ?_
        refine leave_val (.inr rfl) rfl rfl rfl (congrArg (fun z => V.val (.int .i64 z)) ?_)
        rw [depth_eq l at_.toNat]; (repeat split) <;> omega
      · skip
        refine a_skip ?_
        refine hK49 _ _ (Ghost.refl _) ?_
        refine a_seq fun K56 hK56 => ?_
        refine a_region rfl fun K57 hK57 => ?_
        refine x_move ?_
        refine x_assign ?_
        refine r_nil hK57 ?_
        refine hK56 _ _ (Ghost.refl _) ?_
        refine a_ret ?_
        refine leave_val (.inr rfl) rfl rfl rfl (congrArg (fun z => V.val (.int .i64 z)) ?_)
        rw [depth_eq l at_.toNat]; (repeat split) <;> omega
theorem s_spec_l02Depth {l : List Nd} {at_ : Int} (hok : fOk l) (h0 : 0 ≤ at_ ∧ at_ < l.length) : Go.E.Spec Try.prog 38 [eL false 4 cN l, .val (.int .i64 at_)] (fun r _ => r = .val (.int .i64 (depthT (treeI l at_.toNat)))) := by
  have key : ∀ n : Nat, ∀ a : Int, a.toNat = n → 0 ≤ a ∧ a < l.length → Go.E.Spec Try.prog 38 [eL false 4 cN l, .val (.int .i64 a)] (fun r _ => r = .val (.int .i64 (depthT (treeI l a.toNat)))) := by
    intro n
    induction n using Nat.strongRecOn with
    | _ n ih =>
      intro a ha h
      exact s_spec_l02Depth_step hok h fun a2 q1 q2 => ih a2.toNat (by omega) a2 rfl ⟨q1, by omega⟩
  exact key _ at_ rfl h0
end Go.T
namespace Go.T
open Go Go.E Go.Proofs
set_option maxHeartbeats 8000000 in
theorem s_spec_DepthOf {l : List Nd} (hl : l.length ≤ 1073741824) : Go.E.Spec Try.prog 18 [eL false 4 cN l] (fun r _ => r = .val (.int .i64 (if fOk l then depthT (treeI l (l.length - 1)) else -1))) := by
  refine spec_of_awp (E := Ev) evOk Try.func18 (c := _) rfl (by decide) (by simp [Try.ntmps18]) ?_
  rw [Try.ntmps18, entry_mk]
  change awp Ev 1 11 _ _ (mkSt [(0, .v (eL false 4 cN l))] [(0, eL false 4 cN l)])
  refine a_seq fun K1 hK1 => ?_
  refine a_region rfl fun K2 hK2 => ?_
  refine x_assign ?_
  refine r_nil hK2 ?_
  refine hK1 _ _ (Ghost.refl _) ?_
  refine a_seq fun K3 hK3 => ?_
  refine a_seq fun K4 hK4 => ?_
  refine a_region rfl fun K5 hK5 => ?_
  refine x_move ?_
  refine x_call (s_spec_FormulaOk ?_) ?_ (hl := by first | rfl | (repeat (first | exact lendL_nil | refine lendL_cons (by first | rfl | exact lend_ref rfl (ro_eL (by intro _; first | rfl | exact roL_cL (by intro _; rfl))) | exact lend_refp rfl (ro_eL (by intro _; first | rfl | exact roL_cL (by intro _; rfl))) | exact lend_agg (by repeat (first | exact lendL_nil | refine lendL_cons (by first | rfl | exact lend_ref rfl (ro_eL (by intro _; first | rfl | exact roL_cL (by intro _; rfl))) | exact lend_refp rfl (ro_eL (by intro _; first | rfl | exact roL_cL (by intro _; rfl)))) ?_))) ?_)))
  ·
    first | omega | rfl | assumption | (simp; done) | (simp_all; done)
  rintro _ _ rfl
  refine x_un ?_
  refine r_nil hK5 ?_
  refine hK4 _ _ (Ghost.refl _) ?_
  refine a_condS 5 rfl (by first | exact .beq | exact .bne | exact .dec | exact .not .beq | exact .not .bne | exact .not .dec | exact .not .id | exact .id) (fun h6 => ?_) (fun h6 => ?_)
  · skip
    refine a_seq fun K7 hK7 => ?_
    refine a_region rfl fun K8 hK8 => ?_
    refine x_assign ?_
    refine r_nil hK8 ?_
    refine hK7 _ _ (Ghost.refl _) ?_
    refine a_ret ?_
    refine then_ret ?_
    refine leave_val (.inr rfl) rfl rfl rfl (congrArg (fun z => V.val (.int .i64 z)) ?_)
    rw [if_neg h6]
  · skip
    refine a_skip ?_
    refine hK3 _ _ (Ghost.refl _) ?_
    refine a_seq fun K9 hK9 => ?_
    refine a_region rfl fun K10 hK10 => ?_
    refine x_move ?_
    refine x_move ?_
    refine x_len ?_
    refine x_sub ?_ ?_
    ·
      exact ⟨by omega, by omega⟩
    refine x_call (s_spec_l02Depth ?_ ?_) ?_ (hl := by first | rfl | (repeat (first | exact lendL_nil | refine lendL_cons (by first | rfl | exact lend_ref rfl (ro_eL (by intro _; first | rfl | exact roL_cL (by intro _; rfl))) | exact lend_refp rfl (ro_eL (by intro _; first | rfl | exact roL_cL (by intro _; rfl))) | exact lend_agg (by repeat (first | exact lendL_nil | refine lendL_cons (by first | rfl | exact lend_ref rfl (ro_eL (by intro _; first | rfl | exact roL_cL (by intro _; rfl))) | exact lend_refp rfl (ro_eL (by intro _; first | rfl | exact roL_cL (by intro _; rfl)))) ?_))) ?_)))
    ·
      exact Decidable.not_not.1 h6
    ·
      have := (Decidable.not_not.1 h6).1; omega
    rintro _ _ rfl
    refine x_assign ?_
    refine r_nil hK10 ?_
    refine hK9 _ _ (Ghost.refl _) ?_
    refine a_ret ?_
    refine leave_val (.inr rfl) rfl rfl rfl (congrArg (fun z => V.val (.int .i64 z)) ?_)
    rw [if_pos (Decidable.not_not.1 h6)]; congr 2; omega
end Go.T
namespace Go.T
open Go Go.E Go.Proofs
set_option maxHeartbeats 8000000 in
theorem s_impl_within {a : Int} {b : Int} {c : Int}  : Go.E.Spec Try.prog 62 [.val (.int .i64 a), .val (.int .i64 b), .val (.int .i64 c)] (fun r _ => r = .val (.bool (decide (b ≤ a ∧ a ≤ c)))) := by
  refine spec_of_awp (E := Ev) evOk Try.func62 (c := _) rfl (by decide) (by simp [Try.ntmps62]) ?_
  rw [Try.ntmps62, entry_mk]
  change awp Ev 3 15 _ _ (mkSt [(0, .v (.val (.int .i64 a))), (1, .v (.val (.int .i64 b))), (2, .v (.val (.int .i64 c)))] [(0, .val (.int .i64 a)), (1, .val (.int .i64 b)), (2, .val (.int .i64 c))])
  refine a_seq fun K1 hK1 => ?_
  refine a_region rfl fun K2 hK2 => ?_
  refine x_assign ?_
  refine r_nil hK2 ?_
  refine hK1 _ _ (Ghost.refl _) ?_
  refine a_seq fun K3 hK3 => ?_
  refine a_region rfl fun K4 hK4 => ?_
  refine x_move ?_
  refine x_move ?_
  refine x_bin ?_
  refine x_move ?_
  refine x_split 10 rfl (by first | exact .beq | exact .bne | exact .dec | exact .not .beq | exact .not .bne | exact .not .dec | exact .not .id | exact .id) (fun h5 => ?_) (fun h5 => ?_)
  · skip
    refine x_move ?_
    refine x_move ?_
    refine x_bin ?_
    refine x_pickT ?_
    refine x_assign ?_
    refine r_nil hK4 ?_
    refine hK3 _ _ (Ghost.refl _) ?_
    refine a_ret ?_
    refine leave_val (.inr rfl) rfl rfl rfl (congrArg (fun z => V.val (.bool z)) ?_)
    simp; omega
  · skip
    refine x_shut ?_
    refine x_shut ?_
    refine x_shut ?_
    refine x_pickF ?_
    refine x_assign ?_
    refine r_nil hK4 ?_
    refine hK3 _ _ (Ghost.refl _) ?_
    refine a_ret ?_
    refine leave_val (.inr rfl) rfl rfl rfl (congrArg (fun z => V.val (.bool z)) ?_)
    simp; omega
end Go.T
namespace Go.T
open Go Go.E Go.Proofs
set_option maxHeartbeats 8000000 in
theorem s_impl_uses {op : Int}  : Go.E.Spec Try.prog 65 [.val (.int .i64 op)] (fun r _ => r = .val (.int .i64 (usesOf op))) := by
  refine spec_of_awp (E := Ev) evOk Try.func65 (c := _) rfl (by decide) (by simp [Try.ntmps65]) ?_
  rw [Try.ntmps65, entry_mk]
  change awp Ev 1 16 _ _ (mkSt [(0, .v (.val (.int .i64 op)))] [(0, .val (.int .i64 op))])
  refine a_seq fun K1 hK1 => ?_
  refine a_region rfl fun K2 hK2 => ?_
  refine x_assign ?_
  refine r_nil hK2 ?_
  refine hK1 _ _ (Ghost.refl _) ?_
  refine a_seq fun K3 hK3 => ?_
  refine a_seq fun K4 hK4 => ?_
  refine a_region rfl fun K5 hK5 => ?_
  refine x_move ?_
  refine r_nil hK5 ?_
  refine hK4 _ _ (Ghost.refl _) ?_
  refine a_block fun K6 hK6 => ?_
  refine a_seq fun K7 hK7 => ?_
  refine a_seq fun K8 hK8 => ?_
  refine a_region rfl fun K9 hK9 => ?_
  refine x_bin ?_
  refine x_assign ?_
  refine r_nil hK9 ?_
  refine hK8 _ _ (Ghost.refl _) ?_
  refine a_condS 4 rfl (by first | exact .beq | exact .bne | exact .dec | exact .not .beq | exact .not .bne | exact .not .dec | exact .not .id | exact .id) (fun h10 => ?_) (fun h10 => ?_)
  · skip
    refine a_skip ?_
    refine hK7 _ _ (Ghost.refl _) ?_
    refine a_condT rfl ?_
    refine a_seq fun K11 hK11 => ?_
    refine a_region rfl fun K12 hK12 => ?_
    refine x_assign ?_
    refine r_nil hK12 ?_
    refine hK11 _ _ (Ghost.refl _) ?_
    refine a_ret ?_
    refine hK6 .ret _ (in_ret ?_)
    refine then_ret ?_
    refine leave_val (.inr rfl) rfl rfl rfl (congrArg (fun z => V.val (.int .i64 z)) ?_)
    unfold usesOf; (repeat split) <;> omega
  · skip
    refine a_region rfl fun K13 hK13 => ?_
    refine x_bin ?_
    refine x_assign ?_
    refine r_nil hK13 ?_
    refine hK7 _ _ (Ghost.refl _) ?_
    refine a_condS 4 rfl (by first | exact .beq | exact .bne | exact .dec | exact .not .beq | exact .not .bne | exact .not .dec | exact .not .id | exact .id) (fun h14 => ?_) (fun h14 => ?_)
    · skip
      refine a_seq fun K15 hK15 => ?_
      refine a_region rfl fun K16 hK16 => ?_
      refine x_assign ?_
      refine r_nil hK16 ?_
      refine hK15 _ _ (Ghost.refl _) ?_
      refine a_ret ?_
      refine hK6 .ret _ (in_ret ?_)
      refine then_ret ?_
      refine leave_val (.inr rfl) rfl rfl rfl (congrArg (fun z => V.val (.int .i64 z)) ?_)
      unfold usesOf; (repeat split) <;> omega
    · skip
      refine a_seq fun K17 hK17 => ?_
      refine a_seq fun K18 hK18 => ?_
      refine a_region rfl fun K19 hK19 => ?_
      refine x_bin ?_
      refine x_assign ?_
      refine r_nil hK19 ?_
      refine hK18 _ _ (Ghost.refl _) ?_
      refine a_condS 7 rfl (by first | exact .beq | exact .bne | exact .dec | exact .not .beq | exact .not .bne | exact .not .dec | exact .not .id | exact .id) (fun h20 => ?_) (fun h20 => ?_)
      · skip
        refine a_skip ?_
        refine hK17 _ _ (Ghost.refl _) ?_
        refine a_condT rfl ?_
        refine a_seq fun K21 hK21 => ?_
        refine a_region rfl fun K22 hK22 => ?_
        refine x_assign ?_
        refine r_nil hK22 ?_
        refine hK21 _ _ (Ghost.refl _) ?_
        refine a_ret ?_
        refine hK6 .ret _ (in_ret ?_)
        refine then_ret ?_
        refine leave_val (.inr rfl) rfl rfl rfl (congrArg (fun z => V.val (.int .i64 z)) ?_)
        unfold usesOf; (repeat split) <;> omega
      · skip
        refine a_region rfl fun K23 hK23 => ?_
        refine x_bin ?_
        refine x_assign ?_
        refine r_nil hK23 ?_
        refine hK17 _ _ (Ghost.refl _) ?_
        refine a_condS 7 rfl (by first | exact .beq | exact .bne | exact .dec | exact .not .beq | exact .not .bne | exact .not .dec | exact .not .id | exact .id) (fun h24 => ?_) (fun h24 => ?_)
        · skip
          refine a_seq fun K25 hK25 => ?_
          refine a_region rfl fun K26 hK26 => ?_
          refine x_assign ?_
          refine r_nil hK26 ?_
          refine hK25 _ _ (Ghost.refl _) ?_
          refine a_ret ?_
          refine hK6 .ret _ (in_ret ?_)
          refine then_ret ?_
          refine leave_val (.inr rfl) rfl rfl rfl (congrArg (fun z => V.val (.int .i64 z)) ?_)
          unfold usesOf; (repeat split) <;> omega
        · skip
          refine a_seq fun K27 hK27 => ?_
          refine a_seq fun K28 hK28 => ?_
          refine a_region rfl fun K29 hK29 => ?_
          refine x_bin ?_
          refine x_assign ?_
          refine r_nil hK29 ?_
          refine hK28 _ _ (ghost_has (ks := [(3, .v _), (10, .v _)]) (km := [(0, _)]) ⟨rfl, rfl, trivial⟩ ⟨rfl, trivial⟩ rfl) ?_
          refine a_condS 10 rfl (by first | exact .beq | exact .bne | exact .dec | exact .not .beq | exact .not .bne | exact .not .dec | exact .not .id | exact .id) (fun h30 => ?_) (fun h30 => ?_)
          · skip
            refine a_skip ?_
            refine hK27 _ _ (Ghost.refl _) ?_
            refine a_condT rfl ?_
            refine a_seq fun K31 hK31 => ?_
            refine a_region rfl fun K32 hK32 => ?_
            refine x_assign ?_
            refine r_nil hK32 ?_
            refine hK31 _ _ (Ghost.refl _) ?_
            refine a_ret ?_
            refine hK6 .ret _ (in_ret ?_)
            refine then_ret ?_
            refine leave_val (.inr rfl) rfl rfl rfl (congrArg (fun z => V.val (.int .i64 z)) ?_)
            unfold usesOf; (repeat split) <;> omega
          · skip
            refine a_seq fun K33 hK33 => ?_
            refine a_region rfl fun K34 hK34 => ?_
            refine x_bin ?_
            refine x_assign ?_
            refine r_nil hK34 ?_
            refine hK33 _ _ (Ghost.refl _) ?_
            refine a_condS 10 rfl (by first | exact .beq | exact .bne | exact .dec | exact .not .beq | exact .not .bne | exact .not .dec | exact .not .id | exact .id) (fun h35 => ?_) (fun h35 => ?_)
            · skip
              refine a_skip ?_
              refine hK27 _ _ (Ghost.refl _) ?_
              refine a_condT rfl ?_
              refine a_seq fun K36 hK36 => ?_
              refine a_region rfl fun K37 hK37 => ?_
              refine x_assign ?_
              refine r_nil hK37 ?_
              refine hK36 _ _ (Ghost.refl _) ?_
              refine a_ret ?_
              refine hK6 .ret _ (in_ret ?_)
              refine then_ret ?_
              refine leave_val (.inr rfl) rfl rfl rfl (congrArg (fun z => V.val (.int .i64 z)) ?_)
              unfold usesOf; (repeat split) <;> omega
            · skip
              refine a_seq fun K38 hK38 => ?_
              refine a_region rfl fun K39 hK39 => ?_
              refine x_bin ?_
              refine x_assign ?_
              refine r_nil hK39 ?_
              refine hK38 _ _ (Ghost.refl _) ?_
              refine a_condS 10 rfl (by first | exact .beq | exact .bne | exact .dec | exact .not .beq | exact .not .bne | exact .not .dec | exact .not .id | exact .id) (fun h40 => ?_) (fun h40 => ?_)
              · skip
                refine a_skip ?_
                refine hK27 _ _ (Ghost.refl _) ?_
                refine a_condT rfl ?_
                refine a_seq fun K41 hK41 => ?_
                refine a_region rfl fun K42 hK42 => ?_
                refine x_assign ?_
                refine r_nil hK42 ?_
                refine hK41 _ _ (Ghost.refl _) ?_
                refine a_ret ?_
                refine hK6 .ret _ (in_ret ?_)
                refine then_ret ?_
                refine leave_val (.inr rfl) rfl rfl rfl (congrArg (fun z => V.val (.int .i64 z)) ?_)
                unfold usesOf; (repeat split) <;> omega
              · skip
                refine a_seq fun K43 hK43 => ?_
                refine a_region rfl fun K44 hK44 => ?_
                refine x_bin ?_
                refine x_assign ?_
                refine r_nil hK44 ?_
                refine hK43 _ _ (Ghost.refl _) ?_
                refine a_condS 10 rfl (by first | exact .beq | exact .bne | exact .dec | exact .not .beq | exact .not .bne | exact .not .dec | exact .not .id | exact .id) (fun h45 => ?_) (fun h45 => ?_)
                · skip
                  refine a_skip ?_
                  refine hK27 _ _ (Ghost.refl _) ?_
                  refine a_condT rfl ?_
                  refine a_seq fun K46 hK46 => ?_
                  refine a_region rfl fun K47 hK47 => ?_
                  refine x_assign ?_
                  refine r_nil hK47 ?_
                  refine hK46 _ _ (Ghost.refl _) ?_
                  refine a_ret ?_
                  refine hK6 .ret _ (in_ret ?_)
                  refine then_ret ?_
                  refine leave_val (.inr rfl) rfl rfl rfl (congrArg (fun z => V.val (.int .i64 z)) ?_)
                  unfold usesOf; (repeat split) <;> omega
                · skip
                  refine a_region rfl fun K48 hK48 => ?_
                  refine x_bin ?_
                  refine x_assign ?_
                  refine r_nil hK48 ?_
                  refine hK27 _ _ (Ghost.refl _) ?_
                  refine a_condS 10 rfl (by first | exact .beq | exact .bne | exact .dec | exact .not .beq | exact .not .bne | exact .not .dec | exact .not .id | exact .id) (fun h49 => ?_) (fun h49 => ?_)
                  · skip
                    refine a_seq fun K50 hK50 => ?_
                    refine a_region rfl fun K51 hK51 => ?_
                    refine x_assign ?_
                    refine r_nil hK51 ?_
                    refine hK50 _ _ (Ghost.refl _) ?_
                    refine a_ret ?_
                    refine hK6 .ret _ (in_ret ?_)
                    refine then_ret ?_
                    refine leave_val (.inr rfl) rfl rfl rfl (congrArg (fun z => V.val (.int .i64 z)) ?_)
                    unfold usesOf; (repeat split) <;> omega
                  · skip
                    refine a_skip ?_
                    refine hK6 .normal _ ?_
                    refine hK3 _ _ (Ghost.refl _) ?_
                    refine a_seq fun K52 hK52 => ?_
                    refine a_region rfl fun K53 hK53 => ?_
                    refine x_assign ?_
                    refine r_nil hK53 ?_
                    refine hK52 _ _ (Ghost.refl _) ?_
                    refine a_ret ?_
                    refine leave_val (.inr rfl) rfl rfl rfl (congrArg (fun z => V.val (.int .i64 z)) ?_)
                    unfold usesOf; (repeat split) <;> omega
end Go.T
namespace Go.T
open Go Go.E Go.Proofs
set_option maxHeartbeats 8000000 in
theorem s_impl_numbers {op : Int}  : Go.E.Spec Try.prog 66 [.val (.int .i64 op)] (fun r _ => r = .val (.int .i64 (mostOf op + 1))) := by
  refine spec_of_awp (E := Ev) evOk Try.func66 (c := _) rfl (by decide) (by simp [Try.ntmps66]) ?_
  rw [Try.ntmps66, entry_mk]
  change awp Ev 1 9 _ _ (mkSt [(0, .v (.val (.int .i64 op)))] [(0, .val (.int .i64 op))])
  refine a_seq fun K1 hK1 => ?_
  refine a_region rfl fun K2 hK2 => ?_
  refine x_assign ?_
  refine r_nil hK2 ?_
  refine hK1 _ _ (Ghost.refl _) ?_
  refine a_seq fun K3 hK3 => ?_
  refine a_seq fun K4 hK4 => ?_
  refine a_region rfl fun K5 hK5 => ?_
  refine x_move ?_
  refine r_nil hK5 ?_
  refine hK4 _ _ (Ghost.refl _) ?_
  refine a_block fun K6 hK6 => ?_
  refine a_seq fun K7 hK7 => ?_
  refine a_region rfl fun K8 hK8 => ?_
  refine x_bin ?_
  refine x_assign ?_
  refine r_nil hK8 ?_
  refine hK7 _ _ (Ghost.refl _) ?_
  refine a_condS 4 rfl (by first | exact .beq | exact .bne | exact .dec | exact .not .beq | exact .not .bne | exact .not .dec | exact .not .id | exact .id) (fun h9 => ?_) (fun h9 => ?_)
  · skip
    refine a_seq fun K10 hK10 => ?_
    refine a_region rfl fun K11 hK11 => ?_
    refine x_assign ?_
    refine r_nil hK11 ?_
    refine hK10 _ _ (Ghost.refl _) ?_
    refine a_ret ?_
    refine hK6 .ret _ (in_ret ?_)
    refine then_ret ?_
    refine leave_val (.inr rfl) rfl rfl rfl (congrArg (fun z => V.val (.int .i64 z)) ?_)
    unfold mostOf; (repeat split) <;> omega
  · skip
    refine a_seq fun K12 hK12 => ?_
    refine a_seq fun K13 hK13 => ?_
    refine a_region rfl fun K14 hK14 => ?_
    refine x_bin ?_
    refine x_assign ?_
    refine r_nil hK14 ?_
    refine hK13 _ _ (Ghost.refl _) ?_
    refine a_condS 6 rfl (by first | exact .beq | exact .bne | exact .dec | exact .not .beq | exact .not .bne | exact .not .dec | exact .not .id | exact .id) (fun h15 => ?_) (fun h15 => ?_)
    · skip
      refine a_skip ?_
      refine hK12 _ _ (Ghost.refl _) ?_
      refine a_condT rfl ?_
      refine a_seq fun K16 hK16 => ?_
      refine a_region rfl fun K17 hK17 => ?_
      refine x_assign ?_
      refine r_nil hK17 ?_
      refine hK16 _ _ (Ghost.refl _) ?_
      refine a_ret ?_
      refine hK6 .ret _ (in_ret ?_)
      refine then_ret ?_
      refine leave_val (.inr rfl) rfl rfl rfl (congrArg (fun z => V.val (.int .i64 z)) ?_)
      unfold mostOf; (repeat split) <;> omega
    · skip
      refine a_region rfl fun K18 hK18 => ?_
      refine x_bin ?_
      refine x_assign ?_
      refine r_nil hK18 ?_
      refine hK12 _ _ (Ghost.refl _) ?_
      refine a_condS 6 rfl (by first | exact .beq | exact .bne | exact .dec | exact .not .beq | exact .not .bne | exact .not .dec | exact .not .id | exact .id) (fun h19 => ?_) (fun h19 => ?_)
      · skip
        refine a_seq fun K20 hK20 => ?_
        refine a_region rfl fun K21 hK21 => ?_
        refine x_assign ?_
        refine r_nil hK21 ?_
        refine hK20 _ _ (Ghost.refl _) ?_
        refine a_ret ?_
        refine hK6 .ret _ (in_ret ?_)
        refine then_ret ?_
        refine leave_val (.inr rfl) rfl rfl rfl (congrArg (fun z => V.val (.int .i64 z)) ?_)
        unfold mostOf; (repeat split) <;> omega
      · skip
        refine a_skip ?_
        refine hK6 .normal _ ?_
        refine hK3 _ _ (Ghost.refl _) ?_
        refine a_seq fun K22 hK22 => ?_
        refine a_region rfl fun K23 hK23 => ?_
        refine x_assign ?_
        refine r_nil hK23 ?_
        refine hK22 _ _ (Ghost.refl _) ?_
        refine a_ret ?_
        refine leave_val (.inr rfl) rfl rfl rfl (congrArg (fun z => V.val (.int .i64 z)) ?_)
        unfold mostOf; (repeat split) <;> omega
end Go.T
