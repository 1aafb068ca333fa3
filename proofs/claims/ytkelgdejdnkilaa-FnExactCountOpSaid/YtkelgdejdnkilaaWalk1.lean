import Derived.Test.YtkelgdejdnkilaaChecked
import Derived.Test.YtkelgdejdnkilaaPlain
/- What the functions that the law reaches compute. -/
set_option linter.unusedVariables false
set_option linter.unusedSimpArgs false
namespace Go.T
open Go Go.E Go.Proofs
theorem tabOk : [2, 3, 4, 5, 9, 15, 16, 17, 21, 24, 27, 31, 38, 39, 41, 45, 53, 57].map (TI.of Try.prog) = [some ⟨.int .i64, 1, 8, [.int .i64 0]⟩, some ⟨.int .i64, 1, 8, [.int .i64 0]⟩, some ⟨.bool, 1, 1, [.bool false]⟩, some ⟨.int .u8, 1, 1, [.int .u8 0]⟩, some ⟨.string, 1, 16, [.string ByteArray.empty]⟩, some ⟨.ptr, 1, 8, [.pointer none]⟩, some ⟨.ptr, 1, 8, [.pointer none]⟩, some ⟨.ptr, 1, 8, [.pointer none]⟩, some ⟨.int .i32, 1, 4, [.int .i32 0]⟩, some ⟨.slice 41, 1, 24, [.slice none 0 0]⟩, some ⟨.slice 39, 1, 24, [.slice none 0 0]⟩, some ⟨.slice 9, 1, 24, [.slice none 0 0]⟩, some ⟨.strct [(0, 3), (1, 3), (2, 3), (3, 3)], 4, 32, [.int .i64 0, .int .i64 0, .int .i64 0, .int .i64 0]⟩, some ⟨.strct [(0, 3), (1, 3), (2, 3), (3, 3)], 4, 32, [.int .i64 0, .int .i64 0, .int .i64 0, .int .i64 0]⟩, some ⟨.strct [(0, 3), (1, 3), (2, 3), (3, 3)], 4, 32, [.int .i64 0, .int .i64 0, .int .i64 0, .int .i64 0]⟩, some ⟨.slice 5, 1, 24, [.slice none 0 0]⟩, some ⟨.int .u32, 1, 4, [.int .u32 0]⟩, some ⟨.ptr, 1, 8, [.pointer none]⟩] := by kernel_rfl
noncomputable def tab : List (Nat × TI) := [(2, ⟨.int .i64, 1, 8, [.int .i64 0]⟩), (3, ⟨.int .i64, 1, 8, [.int .i64 0]⟩), (4, ⟨.bool, 1, 1, [.bool false]⟩), (5, ⟨.int .u8, 1, 1, [.int .u8 0]⟩), (9, ⟨.string, 1, 16, [.string ByteArray.empty]⟩), (15, ⟨.ptr, 1, 8, [.pointer none]⟩), (16, ⟨.ptr, 1, 8, [.pointer none]⟩), (17, ⟨.ptr, 1, 8, [.pointer none]⟩), (21, ⟨.int .i32, 1, 4, [.int .i32 0]⟩), (24, ⟨.slice 41, 1, 24, [.slice none 0 0]⟩), (27, ⟨.slice 39, 1, 24, [.slice none 0 0]⟩), (31, ⟨.slice 9, 1, 24, [.slice none 0 0]⟩), (38, ⟨.strct [(0, 3), (1, 3), (2, 3), (3, 3)], 4, 32, [.int .i64 0, .int .i64 0, .int .i64 0, .int .i64 0]⟩), (39, ⟨.strct [(0, 3), (1, 3), (2, 3), (3, 3)], 4, 32, [.int .i64 0, .int .i64 0, .int .i64 0, .int .i64 0]⟩), (41, ⟨.strct [(0, 3), (1, 3), (2, 3), (3, 3)], 4, 32, [.int .i64 0, .int .i64 0, .int .i64 0, .int .i64 0]⟩), (45, ⟨.slice 5, 1, 24, [.slice none 0 0]⟩), (53, ⟨.int .u32, 1, 4, [.int .u32 0]⟩), (57, ⟨.ptr, 1, 8, [.pointer none]⟩)]
noncomputable def Ev : Env := ⟨Try.prog, tabOf tab⟩
theorem evOk : Ev.Ok := Env.ok_of (by
  intro x hx
  have h := tabOk
  simp only [List.map_cons, List.map_nil, List.cons.injEq, and_true] at h
  obtain ⟨h0, h1, h2, h3, h4, h5, h6, h7, h8, h9, h10, h11, h12, h13, h14, h15, h16, h17⟩ := h
  simp only [tab, List.mem_cons, List.not_mem_nil, or_false] at hx
  rcases hx with rfl | rfl | rfl | rfl | rfl | rfl | rfl | rfl | rfl | rfl | rfl | rfl | rfl | rfl | rfl | rfl | rfl | rfl <;> assumption)
end Go.T
namespace Go.T
open Go Go.E Go.Proofs
theorem s_laws_szNodeS {l : List Nd} {n : Int} (hl : l.length ≤ 9223372036854775807) (hn : 0 ≤ n ∧ n ≤ 9223372036854775807) : Go.E.Spec Try.prog 13 [eL false 4 cN l, .val (.int .i64 n)] (fun r _ => ∃ m : Int, r = .val (.int .i64 m) ∧ (0 ≤ m → l.length ≤ n)) := by
  refine spec_of_awp (E := Ev) evOk Try.func13 (c := _) rfl (by decide) (by simp [Try.ntmps13]) ?_
  rw [Try.ntmps13, entry_mk]
  change awp Ev 2 12 _ _ (mkSt [(0, .v (eL false 4 cN l)), (1, .v (.val (.int .i64 n)))] [(0, eL false 4 cN l), (1, .val (.int .i64 n))])
  refine a_seq fun K1 hK1 => ?_
  refine a_region rfl fun K2 hK2 => ?_
  refine x_assign ?_
  refine r_nil hK2 ?_
  refine hK1 _ _ (Ghost.refl _) ?_
  refine a_seq fun K3 hK3 => ?_
  refine a_region rfl fun K4 hK4 => ?_
  refine x_move ?_
  refine x_move ?_
  refine x_len ?_
  refine x_sub ?_ ?_
  ·
    exact ⟨by omega, by omega⟩
  refine x_assign ?_
  refine r_nil hK4 ?_
  refine hK3 _ _ (Ghost.refl _) ?_
  refine a_seq fun K5 hK5 => ?_
  refine a_seq fun K6 hK6 => ?_
  refine a_region rfl fun K7 hK7 => ?_
  refine x_move ?_
  refine x_bin ?_
  refine r_nil hK7 ?_
  refine hK6 _ _ (Ghost.refl _) ?_
  refine a_condP rfl (by first | exact .beq | exact .bne | exact .dec | exact .not .beq | exact .not .bne | exact .not .dec | exact .not .id | exact .id) (fun h8 => ?_) (fun h8 => ?_)
  · skip
    refine a_seq fun K9 hK9 => ?_
    refine a_region rfl fun K10 hK10 => ?_
    refine x_assign ?_
    refine r_nil hK10 ?_
    refine hK9 _ _ (Ghost.refl _) ?_
    refine a_ret ?_
    refine then_ret ?_
    exact leave_val (.inr rfl) rfl rfl rfl ⟨_, rfl, by omega⟩
  · skip
    refine a_skip ?_
    refine hK5 _ _ (Ghost.refl _) ?_
    refine a_seq fun K11 hK11 => ?_
    refine a_region rfl fun K12 hK12 => ?_
    refine x_move ?_
    refine x_assign ?_
    refine r_nil hK12 ?_
    refine hK11 _ _ (Ghost.refl _) ?_
    refine a_ret ?_
    exact leave_val (.inr rfl) rfl rfl rfl ⟨_, rfl, by omega⟩
end Go.T
namespace Go.T
open Go Go.E Go.Proofs
theorem s_laws_toNode {x : Nd}  : Go.E.Spec Try.prog 27 [.agg (cN x)] (fun r _ => r = .agg (cN (x))) := by
  refine spec_of_awp (E := Ev) evOk Try.func27 (c := _) rfl (by decide) (by simp [Try.ntmps27]) ?_
  rw [Try.ntmps27, entry_mk]
  change awp Ev 1 17 _ _ (mkSt [(0, .agg ((cN x).map S.v))] [(0, .agg (cN x))])
  refine a_seq fun K1 hK1 => ?_
  refine a_region rfl fun K2 hK2 => ?_
  first | refine x_boxVal ?_ | refine x_boxAgg' ?_
  refine x_alloc ?_
  refine r_nil hK2 ?_
  refine hK1 _ _ (Ghost.refl _) ?_
  refine a_seq fun K3 hK3 => ?_
  refine a_region rfl fun K4 hK4 => ?_
  refine x_alloc ?_
  refine r_nil hK4 ?_
  refine hK3 _ _ (Ghost.refl _) ?_
  refine a_seq fun K5 hK5 => ?_
  refine a_region rfl fun K6 hK6 => ?_
  refine x_fieldAddr ?_
  refine x_load ?_
  refine x_fieldAddr ?_
  first | refine x_put0 ?_ | refine x_put1 ?_ | refine x_put2 ?_ | refine x_put3 ?_ | refine x_putAll ?_
  refine r_nil hK6 ?_
  refine hK5 _ _ (Ghost.refl _) ?_
  refine a_seq fun K7 hK7 => ?_
  refine a_region rfl fun K8 hK8 => ?_
  refine x_fieldAddr ?_
  refine x_load ?_
  refine x_fieldAddr ?_
  first | refine x_put0 ?_ | refine x_put1 ?_ | refine x_put2 ?_ | refine x_put3 ?_ | refine x_putAll ?_
  refine r_nil hK8 ?_
  refine hK7 _ _ (Ghost.refl _) ?_
  refine a_seq fun K9 hK9 => ?_
  refine a_region rfl fun K10 hK10 => ?_
  refine x_fieldAddr ?_
  refine x_load ?_
  refine x_fieldAddr ?_
  first | refine x_put0 ?_ | refine x_put1 ?_ | refine x_put2 ?_ | refine x_put3 ?_ | refine x_putAll ?_
  refine r_nil hK10 ?_
  refine hK9 _ _ (Ghost.refl _) ?_
  refine a_seq fun K11 hK11 => ?_
  refine a_region rfl fun K12 hK12 => ?_
  refine x_fieldAddr ?_
  refine x_load ?_
  refine x_fieldAddr ?_
  first | refine x_put0 ?_ | refine x_put1 ?_ | refine x_put2 ?_ | refine x_put3 ?_ | refine x_putAll ?_
  refine r_nil hK12 ?_
  refine hK11 _ _ (Ghost.refl _) ?_
  refine a_seq fun K13 hK13 => ?_
  refine a_region rfl fun K14 hK14 => ?_
  refine x_load ?_
  first | refine x_put0 ?_ | refine x_put1 ?_ | refine x_put2 ?_ | refine x_put3 ?_ | refine x_putAll ?_
  refine r_nil hK14 ?_
  refine hK13 _ _ (Ghost.refl _) ?_
  refine a_ret ?_
  refine leave_gen (us := [_, _, _, _]) (.inr rfl) rfl rfl (takes_vals _ [_, _, _, _]) rfl rfl rfl rfl
end Go.T
namespace Go.T
open Go Go.E Go.Proofs
theorem s_laws_toNodeS {l : List Nd} (hl : l.length ≤ 1073741824) : Go.E.Spec Try.prog 15 [eL false 4 cN l] (fun r _ => r = eL true 4 cN (l)) := by
  refine spec_of_awp (E := Ev) evOk Try.func15 (c := _) rfl (by decide) (by simp [Try.ntmps15]) ?_
  rw [Try.ntmps15, entry_mk]
  change awp Ev 1 23 _ _ (mkSt [(0, .v (eL false 4 cN l))] [(0, eL false 4 cN l)])
  refine a_seq fun K1 hK1 => ?_
  refine a_region rfl fun K2 hK2 => ?_
  refine x_assign ?_
  refine r_nil hK2 ?_
  refine hK1 _ _ (Ghost.refl _) ?_
  refine a_seq fun K3 hK3 => ?_
  refine a_region rfl fun K4 hK4 => ?_
  refine x_move ?_
  refine x_len ?_
  refine x_mk (c := cN) (z := ⟨0, 0, 0, 0⟩) (sz := 4) ?_ ?_ rfl
  ·
    omega
  refine x_assign ?_
  refine r_nil hK4 ?_
  refine hK3 _ _ (Ghost.refl _) ?_
  refine a_seq fun K5 hK5 => ?_
  refine a_seq fun K6 hK6 => ?_
  refine a_region rfl fun K7 hK7 => ?_
  refine x_assign ?_
  refine r_nil hK7 ?_
  refine hK6 _ _ (Ghost.refl _) ?_
  refine a_block fun K8 hK8 => ?_
  refine a_loopM (X := Int × (List Nd)) (fun (i, o) => ([(4, .v (.val (.int .i64 i)))] : List (Nat × S))) (fun (i, o) => ([(7, eL true 4 cN o)] : List (Nat × V))) (fun (i, o) => (0 ≤ i ∧ i ≤ l.length) ∧ (o.length = l.length) ∧ (∀ j : Nat, j < i.toNat → o[j]! = l[j]!)) (fun (i, o) => (l.length - i).toNat) [(0, _), (3, _)] [(0, _)] (_, _) (Ghost.refl _) ⟨rfl, rfl, rfl, trivial⟩ ⟨rfl, rfl, trivial⟩ (fun ⟨_, _⟩ => rfl) ?_ ?_
  ·
    try dsimp only
    refine ⟨?_, ?_, ?_⟩
    ·
      first | omega | rfl | assumption | (simp; done) | (simp_all; done)
    ·
      first | omega | rfl | assumption | (simp; done) | (simp_all; done)
    ·
      intro j hj; simp at hj
  ·
    rintro ⟨i, o⟩ hI9 K9 hK9
    dsimp only [List.cons_append, List.nil_append] at hI9 ⊢
    obtain ⟨hi, ho, he⟩ := hI9
    refine a_seq fun K10 hK10 => ?_
    refine a_seq fun K11 hK11 => ?_
    refine a_region rfl fun K12 hK12 => ?_
    refine x_move ?_
    refine x_move ?_
    refine x_len ?_
    refine x_bin ?_
    refine r_nil hK12 ?_
    refine hK11 _ _ (Ghost.refl _) ?_
    refine a_condP rfl (by first | exact .beq | exact .bne | exact .dec | exact .not .beq | exact .not .bne | exact .not .dec | exact .not .id | exact .id) (fun h13 => ?_) (fun h13 => ?_)
    · skip
      refine a_skip ?_
      refine hK10 _ _ (Ghost.refl _) ?_
      refine a_seq fun K14 hK14 => ?_
      refine a_block fun K15 hK15 => ?_
      refine a_region rfl fun K16 hK16 => ?_
      refine x_move ?_
      refine x_move ?_
      refine x_move ?_
      refine x_move ?_
      refine x_indexAddr ?_ ?_
      ·
        exact ⟨by omega, by omega⟩
      first | refine x_ldE ?_ ?_ | refine x_ldN ?_ ?_ | refine x_ldO ?_ ?_ | refine x_ldON ?_ ?_ (hf := fun x => (rfl : cN x = List.map V.val [_, _, _, _]))
      ·
        omega
      refine x_call (s_laws_toNode) ?_ (hl := by first | rfl | (repeat (first | exact lendL_nil | refine lendL_cons (by first | rfl | exact lend_ref rfl (ro_eL (by intro _; first | rfl | exact roL_cL (by intro _; rfl)))) ?_)))
      rintro _ _ rfl
      refine x_indexAddr ?_ ?_
      ·
        exact ⟨by omega, by omega⟩
      first | refine x_stE ?_ ?_ | refine x_stN' ?_ ?_
      ·
        omega
      refine r_nil hK16 ?_
      refine hK15 .normal _ ?_
      refine hK14 _ _ (Ghost.refl _) ?_
      refine a_region rfl fun K17 hK17 => ?_
      refine x_move ?_
      refine x_add ?_ ?_
      ·
        exact ⟨by omega, by omega⟩
      refine x_assign ?_
      refine r_nil hK17 ?_
      refine hK9 (_, _) _ _ _ (Ghost.refl _) ⟨rfl, rfl, rfl, trivial⟩ ⟨rfl, rfl, trivial⟩ ?_ ?_
      ·
        first | omega | (dsimp only; omega)
      ·
        try dsimp only
        refine ⟨?_, ?_, ?_⟩
        ·
          first | omega | rfl | assumption | (simp; done) | (simp_all; done)
        ·
          simpa using ho
        ·
          exact set_upto (by omega) (by omega) he (by omega)
    · skip
      refine a_exit ?_
      refine then_exit ?_
      refine then_exit ?_
      refine hK8 (.exit 0) _ (in_exit ?_)
      refine hK5 _ _ (Ghost.refl _) ?_
      refine a_seq fun K18 hK18 => ?_
      refine a_region rfl fun K19 hK19 => ?_
      refine x_move ?_
      refine x_assign ?_
      refine r_nil hK19 ?_
      refine hK18 _ _ (Ghost.refl _) ?_
      refine a_ret ?_
      refine leave_own (.inr rfl) rfl rfl rfl rfl (free_eL (by intro _; first | rfl | exact freeL_cL (by intro _; rfl))) rfl (congrArg (eL true 4 cN) ?_)
      exact upto_all ho (fun j hj => he j (by omega))
end Go.T
namespace Go.T
open Go Go.E Go.Proofs
theorem s_spec_CountOp {l : List Nd} {op : Int} (hl : l.length ≤ 9223372036854775807) : Go.E.Spec Try.prog 14 [eL false 4 cN l, .val (.int .i64 op)] (fun r _ => r = .val (.int .i64 (countOp l op))) := by
  refine spec_of_awp (E := Ev) evOk Try.func14 (c := _) rfl (by decide) (by simp [Try.ntmps14]) ?_
  rw [Try.ntmps14, entry_mk]
  change awp Ev 2 22 _ _ (mkSt [(0, .v (eL false 4 cN l)), (1, .v (.val (.int .i64 op)))] [(0, eL false 4 cN l), (1, .val (.int .i64 op))])
  refine a_seq fun K1 hK1 => ?_
  refine a_region rfl fun K2 hK2 => ?_
  refine x_assign ?_
  refine r_nil hK2 ?_
  refine hK1 _ _ (Ghost.refl _) ?_
  refine a_seq fun K3 hK3 => ?_
  refine a_region rfl fun K4 hK4 => ?_
  refine x_assign ?_
  refine r_nil hK4 ?_
  refine hK3 _ _ (Ghost.refl _) ?_
  refine a_seq fun K5 hK5 => ?_
  refine a_seq fun K6 hK6 => ?_
  refine a_region rfl fun K7 hK7 => ?_
  refine x_move ?_
  refine x_len ?_
  refine x_move ?_
  refine r_nil hK7 ?_
  refine hK6 _ _ (Ghost.refl _) ?_
  refine a_block fun K8 hK8 => ?_
  refine a_loopM (X := Int × Int) (fun (n, i) => ([(5, .v (.val (.int .i64 n))), (10, .v (.val (.int .i64 i)))] : List (Nat × S))) (fun (n, i) => ([] : List (Nat × V))) (fun (n, i) => (0 ≤ i ∧ i ≤ l.length) ∧ (n = countOp (takeI l i) op)) (fun (n, i) => (l.length - i).toNat) [(1, _), (8, _), (9, _)] [(0, _), (1, _)] (_, _) (Ghost.refl _) ⟨rfl, rfl, rfl, rfl, rfl, trivial⟩ ⟨rfl, rfl, trivial⟩ (fun ⟨_, _⟩ => rfl) ?_ ?_
  ·
    try dsimp only
    refine ⟨?_, ?_⟩
    ·
      first | omega | rfl | assumption | (simp; done) | (simp_all; done)
    ·
      rw [takeI_zero]; rfl
  ·
    rintro ⟨n, i⟩ hI9 K9 hK9
    dsimp only [List.cons_append, List.nil_append] at hI9 ⊢
    obtain ⟨hi, hn⟩ := hI9
    refine a_seq fun K10 hK10 => ?_
    refine a_region rfl fun K11 hK11 => ?_
    refine x_bin ?_
    refine r_nil hK11 ?_
    refine hK10 _ _ (Ghost.refl _) ?_
    refine a_seq fun K12 hK12 => ?_
    refine a_condP rfl (by first | exact .beq | exact .bne | exact .dec | exact .not .beq | exact .not .bne | exact .not .dec | exact .not .id | exact .id) (fun h13 => ?_) (fun h13 => ?_)
    · skip
      refine a_skip ?_
      refine hK12 _ _ (Ghost.refl _) ?_
      refine a_seq fun K14 hK14 => ?_
      refine a_block fun K15 hK15 => ?_
      refine a_seq fun K16 hK16 => ?_
      refine a_region rfl fun K17 hK17 => ?_
      refine x_indexAddr ?_ ?_
      ·
        exact ⟨by omega, by omega⟩
      first | refine x_ldE ?_ ?_ | refine x_ldN ?_ ?_ | refine x_ldO ?_ ?_ | refine x_ldON ?_ ?_ (hf := fun x => (rfl : cN x = List.map V.val [_, _, _, _]))
      ·
        omega
      refine x_alloc ?_
      first | refine x_put0 ?_ | refine x_put1 ?_ | refine x_put2 ?_ | refine x_put3 ?_ | refine x_putAll ?_
      refine r_nil hK17 ?_
      refine hK16 _ _ (Ghost.refl _) ?_
      refine a_seq fun K18 hK18 => ?_
      refine a_region rfl fun K19 hK19 => ?_
      refine x_fieldAddr ?_
      refine x_load ?_
      refine x_move ?_
      refine x_bin ?_
      refine r_nil hK19 ?_
      refine hK18 _ _ (Ghost.refl _) ?_
      refine a_condP rfl (by first | exact .beq | exact .bne | exact .dec | exact .not .beq | exact .not .bne | exact .not .dec | exact .not .id | exact .id) (fun h20 => ?_) (fun h20 => ?_)
      · skip
        refine a_region rfl fun K21 hK21 => ?_
        refine x_move ?_
        refine x_add ?_ ?_
        ·
          have := countOp_le (takeI l i) op
          have := takeI_length (l := l) (i := i) (by omega) (by omega)
          exact ⟨by omega, by omega⟩
        refine x_assign ?_
        refine r_nil hK21 ?_
        refine hK15 .normal _ ?_
        refine hK14 _ _ (Ghost.refl _) ?_
        refine a_region rfl fun K22 hK22 => ?_
        refine x_add ?_ ?_
        ·
          exact ⟨by omega, by omega⟩
        refine x_move ?_
        refine r_nil hK22 ?_
        refine hK9 (_, _) _ _ _ (Ghost.refl _) ⟨rfl, rfl, rfl, rfl, rfl, trivial⟩ ⟨rfl, rfl, trivial⟩ ?_ ?_
        ·
          first | omega | (dsimp only; omega)
        ·
          try dsimp only
          refine ⟨?_, ?_⟩
          ·
            first | omega | rfl | assumption | (simp; done) | (simp_all; done)
          ·
            rw [takeI_succ (by omega) (by omega), countOp_snoc, ← hn]; split <;> omega
      · skip
        refine a_skip ?_
        refine hK15 .normal _ ?_
        refine hK14 _ _ (Ghost.refl _) ?_
        refine a_region rfl fun K23 hK23 => ?_
        refine x_add ?_ ?_
        ·
          exact ⟨by omega, by omega⟩
        refine x_move ?_
        refine r_nil hK23 ?_
        refine hK9 (_, _) _ _ _ (Ghost.refl _) ⟨rfl, rfl, rfl, rfl, rfl, trivial⟩ ⟨rfl, rfl, trivial⟩ ?_ ?_
        ·
          first | omega | (dsimp only; omega)
        ·
          try dsimp only
          refine ⟨?_, ?_⟩
          ·
            first | omega | rfl | assumption | (simp; done) | (simp_all; done)
          ·
            rw [takeI_succ (by omega) (by omega), countOp_snoc, ← hn]; split <;> omega
    · skip
      refine a_exit ?_
      refine then_exit ?_
      refine then_exit ?_
      refine hK8 (.exit 0) _ (in_exit ?_)
      refine hK5 _ _ (Ghost.refl _) ?_
      refine a_seq fun K24 hK24 => ?_
      refine a_region rfl fun K25 hK25 => ?_
      refine x_move ?_
      refine x_assign ?_
      refine r_nil hK25 ?_
      refine hK24 _ _ (Ghost.refl _) ?_
      refine a_ret ?_
      refine leave_val (.inr rfl) rfl rfl rfl (congrArg (fun z => V.val (.int .i64 z)) ?_)
      rw [takeI_all (by omega)] at hn; exact hn
end Go.T
namespace Go.T
open Go Go.E Go.Proofs
theorem s_impl_CountOp {l : List Nd} {op : Int} (hl : l.length ≤ 9223372036854775807) : Go.E.Spec Try.prog 16 [eL false 4 cN l, .val (.int .i64 op)] (fun r _ => r = .val (.int .i64 (countOp l op))) := by
  refine spec_of_awp (E := Ev) evOk Try.func16 (c := _) rfl (by decide) (by simp [Try.ntmps16]) ?_
  rw [Try.ntmps16, entry_mk]
  change awp Ev 2 22 _ _ (mkSt [(0, .v (eL false 4 cN l)), (1, .v (.val (.int .i64 op)))] [(0, eL false 4 cN l), (1, .val (.int .i64 op))])
  refine a_seq fun K1 hK1 => ?_
  refine a_region rfl fun K2 hK2 => ?_
  refine x_assign ?_
  refine r_nil hK2 ?_
  refine hK1 _ _ (Ghost.refl _) ?_
  refine a_seq fun K3 hK3 => ?_
  refine a_region rfl fun K4 hK4 => ?_
  refine x_assign ?_
  refine r_nil hK4 ?_
  refine hK3 _ _ (Ghost.refl _) ?_
  refine a_seq fun K5 hK5 => ?_
  refine a_seq fun K6 hK6 => ?_
  refine a_region rfl fun K7 hK7 => ?_
  refine x_move ?_
  refine x_len ?_
  refine x_move ?_
  refine r_nil hK7 ?_
  refine hK6 _ _ (Ghost.refl _) ?_
  refine a_block fun K8 hK8 => ?_
  refine a_loopM (X := Int × Int) (fun (n, i) => ([(5, .v (.val (.int .i64 n))), (10, .v (.val (.int .i64 i)))] : List (Nat × S))) (fun (n, i) => ([] : List (Nat × V))) (fun (n, i) => (0 ≤ i ∧ i ≤ l.length) ∧ (n = countOp (takeI l i) op)) (fun (n, i) => (l.length - i).toNat) [(1, _), (8, _), (9, _)] [(0, _), (1, _)] (_, _) (Ghost.refl _) ⟨rfl, rfl, rfl, rfl, rfl, trivial⟩ ⟨rfl, rfl, trivial⟩ (fun ⟨_, _⟩ => rfl) ?_ ?_
  ·
    try dsimp only
    refine ⟨?_, ?_⟩
    ·
      first | omega | rfl | assumption | (simp; done) | (simp_all; done)
    ·
      rw [takeI_zero]; rfl
  ·
    rintro ⟨n, i⟩ hI9 K9 hK9
    dsimp only [List.cons_append, List.nil_append] at hI9 ⊢
    obtain ⟨hi, hn⟩ := hI9
    refine a_seq fun K10 hK10 => ?_
    refine a_region rfl fun K11 hK11 => ?_
    refine x_bin ?_
    refine r_nil hK11 ?_
    refine hK10 _ _ (Ghost.refl _) ?_
    refine a_seq fun K12 hK12 => ?_
    refine a_condP rfl (by first | exact .beq | exact .bne | exact .dec | exact .not .beq | exact .not .bne | exact .not .dec | exact .not .id | exact .id) (fun h13 => ?_) (fun h13 => ?_)
    · skip
      refine a_skip ?_
      refine hK12 _ _ (Ghost.refl _) ?_
      refine a_seq fun K14 hK14 => ?_
      refine a_block fun K15 hK15 => ?_
      refine a_seq fun K16 hK16 => ?_
      refine a_region rfl fun K17 hK17 => ?_
      refine x_indexAddr ?_ ?_
      ·
        exact ⟨by omega, by omega⟩
      first | refine x_ldE ?_ ?_ | refine x_ldN ?_ ?_ | refine x_ldO ?_ ?_ | refine x_ldON ?_ ?_ (hf := fun x => (rfl : cN x = List.map V.val [_, _, _, _]))
      ·
        omega
      refine x_alloc ?_
      first | refine x_put0 ?_ | refine x_put1 ?_ | refine x_put2 ?_ | refine x_put3 ?_ | refine x_putAll ?_
      refine r_nil hK17 ?_
      refine hK16 _ _ (Ghost.refl _) ?_
      refine a_seq fun K18 hK18 => ?_
      refine a_region rfl fun K19 hK19 => ?_
      refine x_fieldAddr ?_
      refine x_load ?_
      refine x_move ?_
      refine x_bin ?_
      refine r_nil hK19 ?_
      refine hK18 _ _ (Ghost.refl _) ?_
      refine a_condP rfl (by first | exact .beq | exact .bne | exact .dec | exact .not .beq | exact .not .bne | exact .not .dec | exact .not .id | exact .id) (fun h20 => ?_) (fun h20 => ?_)
      · skip
        refine a_region rfl fun K21 hK21 => ?_
        refine x_move ?_
        refine x_add ?_ ?_
        ·
          have := countOp_le (takeI l i) op
          have := takeI_length (l := l) (i := i) (by omega) (by omega)
          exact ⟨by omega, by omega⟩
        refine x_assign ?_
        refine r_nil hK21 ?_
        refine hK15 .normal _ ?_
        refine hK14 _ _ (Ghost.refl _) ?_
        refine a_region rfl fun K22 hK22 => ?_
        refine x_add ?_ ?_
        ·
          exact ⟨by omega, by omega⟩
        refine x_move ?_
        refine r_nil hK22 ?_
        refine hK9 (_, _) _ _ _ (Ghost.refl _) ⟨rfl, rfl, rfl, rfl, rfl, trivial⟩ ⟨rfl, rfl, trivial⟩ ?_ ?_
        ·
          first | omega | (dsimp only; omega)
        ·
          try dsimp only
          refine ⟨?_, ?_⟩
          ·
            first | omega | rfl | assumption | (simp; done) | (simp_all; done)
          ·
            rw [takeI_succ (by omega) (by omega), countOp_snoc, ← hn]; split <;> omega
      · skip
        refine a_skip ?_
        refine hK15 .normal _ ?_
        refine hK14 _ _ (Ghost.refl _) ?_
        refine a_region rfl fun K23 hK23 => ?_
        refine x_add ?_ ?_
        ·
          exact ⟨by omega, by omega⟩
        refine x_move ?_
        refine r_nil hK23 ?_
        refine hK9 (_, _) _ _ _ (Ghost.refl _) ⟨rfl, rfl, rfl, rfl, rfl, trivial⟩ ⟨rfl, rfl, trivial⟩ ?_ ?_
        ·
          first | omega | (dsimp only; omega)
        ·
          try dsimp only
          refine ⟨?_, ?_⟩
          ·
            first | omega | rfl | assumption | (simp; done) | (simp_all; done)
          ·
            rw [takeI_succ (by omega) (by omega), countOp_snoc, ← hn]; split <;> omega
    · skip
      refine a_exit ?_
      refine then_exit ?_
      refine then_exit ?_
      refine hK8 (.exit 0) _ (in_exit ?_)
      refine hK5 _ _ (Ghost.refl _) ?_
      refine a_seq fun K24 hK24 => ?_
      refine a_region rfl fun K25 hK25 => ?_
      refine x_move ?_
      refine x_assign ?_
      refine r_nil hK25 ?_
      refine hK24 _ _ (Ghost.refl _) ?_
      refine a_ret ?_
      refine leave_val (.inr rfl) rfl rfl rfl (congrArg (fun z => V.val (.int .i64 z)) ?_)
      rw [takeI_all (by omega)] at hn; exact hn
end Go.T
namespace Go.T
open Go Go.E Go.Proofs
theorem s_laws_eqNode {x : Nd}  : Go.E.Spec Try.prog 28 [.agg (cN x), .agg (cN x)] (fun r _ => r = .val (.bool (true))) := by
  refine spec_of_awp (E := Ev) evOk Try.func28 (c := _) rfl (by decide) (by simp [Try.ntmps28]) ?_
  rw [Try.ntmps28, entry_mk]
  change awp Ev 2 25 _ _ (mkSt [(0, .agg ((cN x).map S.v)), (1, .agg ((cN x).map S.v))] [(0, .agg (cN x)), (1, .agg (cN x))])
  refine a_seq fun K1 hK1 => ?_
  refine a_region rfl fun K2 hK2 => ?_
  first | refine x_boxVal ?_ | refine x_boxAgg' ?_
  first | refine x_boxVal ?_ | refine x_boxAgg' ?_
  refine x_assign ?_
  refine r_nil hK2 ?_
  refine hK1 _ _ (Ghost.refl _) ?_
  refine a_seq fun K3 hK3 => ?_
  refine a_seq fun K4 hK4 => ?_
  refine a_region rfl fun K5 hK5 => ?_
  refine x_fieldAddr ?_
  refine x_load ?_
  refine x_fieldAddr ?_
  refine x_load ?_
  refine x_bin ?_
  refine r_nil hK5 ?_
  refine hK4 _ _ (Ghost.refl _) ?_
  refine a_condP rfl (by first | exact .beq | exact .bne | exact .dec | exact .not .beq | exact .not .bne | exact .not .dec | exact .not .id | exact .id) (fun h6 => ?_) (fun h6 => ?_)
  · skip
    refine a_seq fun K7 hK7 => ?_
    refine a_region rfl fun K8 hK8 => ?_
    refine x_assign ?_
    refine r_nil hK8 ?_
    refine hK7 _ _ (Ghost.refl _) ?_
    refine a_ret ?_
    refine then_ret ?_
    refine leave_val (.inr rfl) rfl rfl rfl (congrArg (fun z => V.val (.bool z)) ?_)
    first | rfl | exact absurd rfl (by assumption)
  · skip
    refine a_skip ?_
    refine hK3 _ _ (Ghost.refl _) ?_
    refine a_seq fun K9 hK9 => ?_
    refine a_seq fun K10 hK10 => ?_
    refine a_region rfl fun K11 hK11 => ?_
    refine x_fieldAddr ?_
    refine x_load ?_
    refine x_fieldAddr ?_
    refine x_load ?_
    refine x_bin ?_
    refine r_nil hK11 ?_
    refine hK10 _ _ (Ghost.refl _) ?_
    refine a_condP rfl (by first | exact .beq | exact .bne | exact .dec | exact .not .beq | exact .not .bne | exact .not .dec | exact .not .id | exact .id) (fun h12 => ?_) (fun h12 => ?_)
    · skip
      refine a_seq fun K13 hK13 => ?_
      refine a_region rfl fun K14 hK14 => ?_
      refine x_assign ?_
      refine r_nil hK14 ?_
      refine hK13 _ _ (Ghost.refl _) ?_
      refine a_ret ?_
      refine then_ret ?_
      refine leave_val (.inr rfl) rfl rfl rfl (congrArg (fun z => V.val (.bool z)) ?_)
      first | rfl | exact absurd rfl (by assumption)
    · skip
      refine a_skip ?_
      refine hK9 _ _ (Ghost.refl _) ?_
      refine a_seq fun K15 hK15 => ?_
      refine a_seq fun K16 hK16 => ?_
      refine a_region rfl fun K17 hK17 => ?_
      refine x_fieldAddr ?_
      refine x_load ?_
      refine x_fieldAddr ?_
      refine x_load ?_
      refine x_bin ?_
      refine r_nil hK17 ?_
      refine hK16 _ _ (Ghost.refl _) ?_
      refine a_condP rfl (by first | exact .beq | exact .bne | exact .dec | exact .not .beq | exact .not .bne | exact .not .dec | exact .not .id | exact .id) (fun h18 => ?_) (fun h18 => ?_)
      · skip
        refine a_seq fun K19 hK19 => ?_
        refine a_region rfl fun K20 hK20 => ?_
        refine x_assign ?_
        refine r_nil hK20 ?_
        refine hK19 _ _ (Ghost.refl _) ?_
        refine a_ret ?_
        refine then_ret ?_
        refine leave_val (.inr rfl) rfl rfl rfl (congrArg (fun z => V.val (.bool z)) ?_)
        first | rfl | exact absurd rfl (by assumption)
      · skip
        refine a_skip ?_
        refine hK15 _ _ (Ghost.refl _) ?_
        refine a_seq fun K21 hK21 => ?_
        refine a_seq fun K22 hK22 => ?_
        refine a_region rfl fun K23 hK23 => ?_
        refine x_fieldAddr ?_
        refine x_load ?_
        refine x_fieldAddr ?_
        refine x_load ?_
        refine x_bin ?_
        refine r_nil hK23 ?_
        refine hK22 _ _ (Ghost.refl _) ?_
        refine a_condP rfl (by first | exact .beq | exact .bne | exact .dec | exact .not .beq | exact .not .bne | exact .not .dec | exact .not .id | exact .id) (fun h24 => ?_) (fun h24 => ?_)
        · skip
          refine a_seq fun K25 hK25 => ?_
          refine a_region rfl fun K26 hK26 => ?_
          refine x_assign ?_
          refine r_nil hK26 ?_
          refine hK25 _ _ (Ghost.refl _) ?_
          refine a_ret ?_
          refine then_ret ?_
          refine leave_val (.inr rfl) rfl rfl rfl (congrArg (fun z => V.val (.bool z)) ?_)
          first | rfl | exact absurd rfl (by assumption)
        · skip
          refine a_skip ?_
          refine hK21 _ _ (Ghost.refl _) ?_
          refine a_seq fun K27 hK27 => ?_
          refine a_region rfl fun K28 hK28 => ?_
          refine x_assign ?_
          refine r_nil hK28 ?_
          refine hK27 _ _ (Ghost.refl _) ?_
          refine a_ret ?_
          refine leave_val (.inr rfl) rfl rfl rfl (congrArg (fun z => V.val (.bool z)) ?_)
          first | rfl | exact absurd rfl (by assumption)
end Go.T
namespace Go.T
open Go Go.E Go.Proofs
theorem s_laws_eqNodeS {l : List Nd} (hl : l.length ≤ 9223372036854775807) : Go.E.Spec Try.prog 17 [eL false 4 cN l, eL false 4 cN l] (fun r _ => r = .val (.bool (true))) := by
  refine spec_of_awp (E := Ev) evOk Try.func17 (c := _) rfl (by decide) (by simp [Try.ntmps17]) ?_
  rw [Try.ntmps17, entry_mk]
  change awp Ev 2 27 _ _ (mkSt [(0, .v (eL false 4 cN l)), (1, .v (eL false 4 cN l))] [(0, eL false 4 cN l), (1, eL false 4 cN l)])
  refine a_seq fun K1 hK1 => ?_
  refine a_region rfl fun K2 hK2 => ?_
  refine x_assign ?_
  refine r_nil hK2 ?_
  refine hK1 _ _ (Ghost.refl _) ?_
  refine a_seq fun K3 hK3 => ?_
  refine a_seq fun K4 hK4 => ?_
  refine a_region rfl fun K5 hK5 => ?_
  refine x_move ?_
  refine x_len ?_
  refine x_move ?_
  refine x_len ?_
  refine x_bin ?_
  refine r_nil hK5 ?_
  refine hK4 _ _ (Ghost.refl _) ?_
  refine a_condP rfl (by first | exact .beq | exact .bne | exact .dec | exact .not .beq | exact .not .bne | exact .not .dec | exact .not .id | exact .id) (fun h6 => ?_) (fun h6 => ?_)
  · skip
    refine a_seq fun K7 hK7 => ?_
    refine a_region rfl fun K8 hK8 => ?_
    refine x_assign ?_
    refine r_nil hK8 ?_
    refine hK7 _ _ (Ghost.refl _) ?_
    refine a_ret ?_
    refine then_ret ?_
    refine leave_val (.inr rfl) rfl rfl rfl (congrArg (fun z => V.val (.bool z)) ?_)
    first | rfl | omega | assumption | (simp; done) | (simp_all; done)
  · skip
    refine a_skip ?_
    refine hK3 _ _ (Ghost.refl _) ?_
    refine a_seq fun K9 hK9 => ?_
    refine a_seq fun K10 hK10 => ?_
    refine a_region rfl fun K11 hK11 => ?_
    refine x_assign ?_
    refine r_nil hK11 ?_
    refine hK10 _ _ (Ghost.refl _) ?_
    refine a_block fun K12 hK12 => ?_
    refine a_loopM (X := Int) (fun i => ([(5, .v (.val (.int .i64 i)))] : List (Nat × S))) (fun i => ([] : List (Nat × V))) (fun i => (0 ≤ i ∧ i ≤ l.length)) (fun i => (l.length - i).toNat) [(0, _), (1, _)] [(0, _), (1, _)] _ (Ghost.refl _) ⟨rfl, rfl, rfl, trivial⟩ ⟨rfl, rfl, trivial⟩ (fun i => rfl) ?_ ?_
    ·
      try dsimp only
      ·
        first | omega | rfl | assumption | (simp; done) | (simp_all; done)
    ·
      rintro i hI13 K13 hK13
      dsimp only [List.cons_append, List.nil_append] at hI13 ⊢
      have hi := hI13
      refine a_seq fun K14 hK14 => ?_
      refine a_seq fun K15 hK15 => ?_
      refine a_region rfl fun K16 hK16 => ?_
      refine x_move ?_
      refine x_move ?_
      refine x_len ?_
      refine x_bin ?_
      refine r_nil hK16 ?_
      refine hK15 _ _ (Ghost.refl _) ?_
      refine a_condP rfl (by first | exact .beq | exact .bne | exact .dec | exact .not .beq | exact .not .bne | exact .not .dec | exact .not .id | exact .id) (fun h17 => ?_) (fun h17 => ?_)
      · skip
        refine a_skip ?_
        refine hK14 _ _ (Ghost.refl _) ?_
        refine a_seq fun K18 hK18 => ?_
        refine a_block fun K19 hK19 => ?_
        refine a_seq fun K20 hK20 => ?_
        refine a_drawn rfl rfl rfl fun K21 hK21 => ?_
        refine x_move ?_
        refine x_move ?_
        refine x_indexAddr ?_ ?_
        ·
          exact ⟨by omega, by omega⟩
        first | refine x_ldE ?_ ?_ | refine x_ldN ?_ ?_ | refine x_ldO ?_ ?_ | refine x_ldON ?_ ?_ (hf := fun x => (rfl : cN x = List.map V.val [_, _, _, _]))
        ·
          omega
        refine x_move ?_
        refine x_move ?_
        refine x_indexAddr ?_ ?_
        ·
          exact ⟨by omega, by omega⟩
        first | refine x_ldE ?_ ?_ | refine x_ldN ?_ ?_ | refine x_ldO ?_ ?_ | refine x_ldON ?_ ?_ (hf := fun x => (rfl : cN x = List.map V.val [_, _, _, _]))
        ·
          omega
        refine x_call (s_laws_eqNode) ?_ (hl := by first | rfl | (repeat (first | exact lendL_nil | refine lendL_cons (by first | rfl | exact lend_ref rfl (ro_eL (by intro _; first | rfl | exact roL_cL (by intro _; rfl)))) ?_)))
        rintro _ _ rfl
        refine x_un ?_
        refine r_nil hK21 ?_
        refine hK20 _ _ (Ghost.refl _) ?_
        refine a_condP rfl (by first | exact .beq | exact .bne | exact .dec | exact .not .beq | exact .not .bne | exact .not .dec | exact .not .id | exact .id) (fun h22 => ?_) (fun h22 => ?_)
        · skip
          refine a_seq fun K23 hK23 => ?_
          refine a_region rfl fun K24 hK24 => ?_
          refine x_assign ?_
          refine r_nil hK24 ?_
          refine hK23 _ _ (Ghost.refl _) ?_
          refine a_ret ?_
          refine hK19 .ret _ (in_ret ?_)
          refine then_ret ?_
          refine then_ret ?_
          refine hK12 .ret _ (in_ret ?_)
          refine then_ret ?_
          refine leave_val (.inr rfl) rfl rfl rfl (congrArg (fun z => V.val (.bool z)) ?_)
          first | rfl | omega | assumption | (simp; done) | (simp_all; done)
        · skip
          refine a_skip ?_
          refine hK19 .normal _ ?_
          refine hK18 _ _ (Ghost.refl _) ?_
          refine a_region rfl fun K25 hK25 => ?_
          refine x_move ?_
          refine x_add ?_ ?_
          ·
            exact ⟨by omega, by omega⟩
          refine x_assign ?_
          refine r_nil hK25 ?_
          refine hK13 _ _ _ _ (Ghost.refl _) ⟨rfl, rfl, rfl, trivial⟩ ⟨rfl, rfl, trivial⟩ ?_ ?_
          ·
            first | omega | (dsimp only; omega)
          ·
            try dsimp only
            ·
              first | omega | rfl | assumption | (simp; done) | (simp_all; done)
      · skip
        refine a_exit ?_
        refine then_exit ?_
        refine then_exit ?_
        refine hK12 (.exit 0) _ (in_exit ?_)
        refine hK9 _ _ (Ghost.refl _) ?_
        refine a_seq fun K26 hK26 => ?_
        refine a_region rfl fun K27 hK27 => ?_
        refine x_assign ?_
        refine r_nil hK27 ?_
        refine hK26 _ _ (Ghost.refl _) ?_
        refine a_ret ?_
        refine leave_val (.inr rfl) rfl rfl rfl (congrArg (fun z => V.val (.bool z)) ?_)
        first | rfl | omega | assumption | (simp; done) | (simp_all; done)
end Go.T
namespace Go.T
open Go Go.E Go.Proofs
theorem s_laws_FnExactCountOp {l : List Nd} {op : Int} (hl : l.length ≤ 9223372036854775807) : Go.E.Spec Try.prog 6 [eL false 4 cN l, .val (.int .i64 op)] (fun r _ => r = .val (.bool (true))) := by
  refine spec_of_awp (E := Ev) evOk Try.func6 (c := _) rfl (by decide) (by simp [Try.ntmps6]) ?_
  rw [Try.ntmps6, entry_mk]
  change awp Ev 2 31 _ _ (mkSt [(0, .v (eL false 4 cN l)), (1, .v (.val (.int .i64 op)))] [(0, eL false 4 cN l), (1, .val (.int .i64 op))])
  refine a_seq fun K1 hK1 => ?_
  refine a_region rfl fun K2 hK2 => ?_
  refine x_assign ?_
  refine r_nil hK2 ?_
  refine hK1 _ _ (Ghost.refl _) ?_
  refine a_seq fun K3 hK3 => ?_
  refine a_region rfl fun K4 hK4 => ?_
  refine x_assign ?_
  refine r_nil hK4 ?_
  refine hK3 _ _ (Ghost.refl _) ?_
  refine a_seq fun K5 hK5 => ?_
  refine a_region rfl fun K6 hK6 => ?_
  refine x_move ?_
  refine x_move ?_
  refine x_call (s_laws_szNodeS ?_ ?_) ?_ (hl := by first | rfl | (repeat (first | exact lendL_nil | refine lendL_cons (by first | rfl | exact lend_ref rfl (ro_eL (by intro _; first | rfl | exact roL_cL (by intro _; rfl)))) ?_)))
  ·
    first | omega | rfl | assumption | (simp; done) | (simp_all; done)
  ·
    first | omega | rfl | assumption | (simp; done) | (simp_all; done)
  rintro _ _ ⟨m, rfl, hm⟩
  refine x_assign ?_
  refine r_nil hK6 ?_
  refine hK5 _ _ (Ghost.refl _) ?_
  refine a_seq fun K7 hK7 => ?_
  refine a_seq fun K8 hK8 => ?_
  refine a_region rfl fun K9 hK9 => ?_
  refine x_move ?_
  refine x_bin ?_
  refine r_nil hK9 ?_
  refine hK8 _ _ (Ghost.refl _) ?_
  refine a_condP rfl (by first | exact .beq | exact .bne | exact .dec | exact .not .beq | exact .not .bne | exact .not .dec | exact .not .id | exact .id) (fun h10 => ?_) (fun h10 => ?_)
  · skip
    refine a_seq fun K11 hK11 => ?_
    refine a_region rfl fun K12 hK12 => ?_
    refine x_assign ?_
    refine r_nil hK12 ?_
    refine hK11 _ _ (Ghost.refl _) ?_
    refine a_ret ?_
    refine then_ret ?_
    refine leave_val (.inr rfl) rfl rfl rfl (congrArg (fun z => V.val (.bool z)) ?_)
    first | rfl | omega | assumption | (simp; done) | (simp_all; done)
  · skip
    refine a_skip ?_
    refine hK7 _ _ (Ghost.refl _) ?_
    refine a_seq fun K13 hK13 => ?_
    refine a_region rfl fun K14 hK14 => ?_
    refine x_move ?_
    refine x_call (s_laws_toNodeS ?_) ?_ (hl := by first | rfl | (repeat (first | exact lendL_nil | refine lendL_cons (by first | rfl | exact lend_ref rfl (ro_eL (by intro _; first | rfl | exact roL_cL (by intro _; rfl)))) ?_)))
    ·
      first | omega | rfl | assumption | (simp; done) | (simp_all; done)
    rintro _ _ rfl
    refine x_move ?_
    refine x_call (s_spec_CountOp ?_) ?_ (hl := by first | rfl | (repeat (first | exact lendL_nil | refine lendL_cons (by first | rfl | exact lend_ref rfl (ro_eL (by intro _; first | rfl | exact roL_cL (by intro _; rfl)))) ?_)))
    ·
      first | omega | rfl | assumption | (simp; done) | (simp_all; done)
    rintro _ _ rfl
    refine x_assign ?_
    refine r_nil hK14 ?_
    refine hK13 _ _ (Ghost.refl _) ?_
    refine a_seq fun K15 hK15 => ?_
    refine a_region rfl fun K16 hK16 => ?_
    refine x_move ?_
    refine x_call (s_laws_toNodeS ?_) ?_ (hl := by first | rfl | (repeat (first | exact lendL_nil | refine lendL_cons (by first | rfl | exact lend_ref rfl (ro_eL (by intro _; first | rfl | exact roL_cL (by intro _; rfl)))) ?_)))
    ·
      first | omega | rfl | assumption | (simp; done) | (simp_all; done)
    rintro _ _ rfl
    refine x_assign ?_
    refine r_nil hK16 ?_
    refine hK15 _ _ (Ghost.refl _) ?_
    refine a_seq fun K17 hK17 => ?_
    refine a_region rfl fun K18 hK18 => ?_
    refine x_move ?_
    refine x_move ?_
    refine x_call (s_impl_CountOp ?_) ?_ (hl := by first | rfl | (repeat (first | exact lendL_nil | refine lendL_cons (by first | rfl | exact lend_ref rfl (ro_eL (by intro _; first | rfl | exact roL_cL (by intro _; rfl)))) ?_)))
    ·
      first | omega | rfl | assumption | (simp; done) | (simp_all; done)
    rintro _ _ rfl
    refine x_assign ?_
    refine r_nil hK18 ?_
    refine hK17 _ _ (Ghost.refl _) ?_
    refine a_seq fun K19 hK19 => ?_
    refine a_seq fun K20 hK20 => ?_
    refine a_region rfl fun K21 hK21 => ?_
    refine x_move ?_
    refine x_move ?_
    refine x_bin ?_
    refine r_nil hK21 ?_
    refine hK20 _ _ (Ghost.refl _) ?_
    refine a_condP rfl (by first | exact .beq | exact .bne | exact .dec | exact .not .beq | exact .not .bne | exact .not .dec | exact .not .id | exact .id) (fun h22 => ?_) (fun h22 => ?_)
    · skip
      refine a_seq fun K23 hK23 => ?_
      refine a_region rfl fun K24 hK24 => ?_
      refine x_assign ?_
      refine r_nil hK24 ?_
      refine hK23 _ _ (Ghost.refl _) ?_
      refine a_ret ?_
      refine then_ret ?_
      refine leave_val (.inr rfl) rfl rfl rfl (congrArg (fun z => V.val (.bool z)) ?_)
      first | rfl | omega | assumption | (simp; done) | (simp_all; done)
    · skip
      refine a_skip ?_
      refine hK19 _ _ (Ghost.refl _) ?_
      refine a_seq fun K25 hK25 => ?_
      refine a_seq fun K26 hK26 => ?_
      refine a_region rfl fun K27 hK27 => ?_
      refine x_move ?_
      refine x_move ?_
      refine x_call (s_laws_toNodeS ?_) ?_ (hl := by first | rfl | (repeat (first | exact lendL_nil | refine lendL_cons (by first | rfl | exact lend_ref rfl (ro_eL (by intro _; first | rfl | exact roL_cL (by intro _; rfl)))) ?_)))
      ·
        first | omega | rfl | assumption | (simp; done) | (simp_all; done)
      rintro _ _ rfl
      refine x_call (s_laws_eqNodeS ?_) ?_ (hl := by first | rfl | (repeat (first | exact lendL_nil | refine lendL_cons (by first | rfl | exact lend_ref rfl (ro_eL (by intro _; first | rfl | exact roL_cL (by intro _; rfl)))) ?_)))
      ·
        first | omega | rfl | assumption | (simp; done) | (simp_all; done)
      rintro _ _ rfl
      refine x_un ?_
      refine r_nil hK27 ?_
      refine hK26 _ _ (Ghost.refl _) ?_
      refine a_condP rfl (by first | exact .beq | exact .bne | exact .dec | exact .not .beq | exact .not .bne | exact .not .dec | exact .not .id | exact .id) (fun h28 => ?_) (fun h28 => ?_)
      · skip
        refine a_seq fun K29 hK29 => ?_
        refine a_region rfl fun K30 hK30 => ?_
        refine x_assign ?_
        refine r_nil hK30 ?_
        refine hK29 _ _ (Ghost.refl _) ?_
        refine a_ret ?_
        refine then_ret ?_
        refine leave_val (.inr rfl) rfl rfl rfl (congrArg (fun z => V.val (.bool z)) ?_)
        first | rfl | omega | assumption | (simp; done) | (simp_all; done)
      · skip
        refine a_skip ?_
        refine hK25 _ _ (Ghost.refl _) ?_
        refine a_seq fun K31 hK31 => ?_
        refine a_region rfl fun K32 hK32 => ?_
        refine x_assign ?_
        refine r_nil hK32 ?_
        refine hK31 _ _ (Ghost.refl _) ?_
        refine a_ret ?_
        refine leave_val (.inr rfl) rfl rfl rfl (congrArg (fun z => V.val (.bool z)) ?_)
        first | rfl | omega | assumption | (simp; done) | (simp_all; done)
end Go.T
