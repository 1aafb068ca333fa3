import Derived.Test.YtnebclliacjjkaaChecked
import Derived.Test.YtnebclliacjjkaaPlain
/- What the functions that the law reaches compute. -/
set_option linter.unusedVariables false
set_option linter.unusedSimpArgs false
namespace Go.T
open Go Go.E Go.Proofs
theorem tabOk : [2, 3, 4, 5, 9, 21, 22, 23, 25, 31, 37, 41, 44, 60, 61, 64, 69, 70, 82, 94].map (TI.of Try.prog) = [⟨.int .i64, 1, 8, [.int .i64 0]⟩, ⟨.int .i64, 1, 8, [.int .i64 0]⟩, ⟨.bool, 1, 1, [.bool false]⟩, ⟨.int .u8, 1, 1, [.int .u8 0]⟩, ⟨.string, 1, 16, [.string ByteArray.empty]⟩, ⟨.int .i32, 1, 4, [.int .i32 0]⟩, ⟨.slice 3, 1, 24, [.slice none 0 0]⟩, ⟨.slice 22, 1, 24, [.slice none 0 0]⟩, ⟨.strct [(0, 22), (1, 23), (2, 3)], 3, 56, [.slice none 0 0, .slice none 0 0, .int .i64 0]⟩, ⟨.slice 9, 1, 24, [.slice none 0 0]⟩, ⟨.strct [(0, 22), (1, 23), (2, 3)], 3, 56, [.slice none 0 0, .slice none 0 0, .int .i64 0]⟩, ⟨.slice 64, 1, 24, [.slice none 0 0]⟩, ⟨.slice 61, 1, 24, [.slice none 0 0]⟩, ⟨.strct [(0, 3), (1, 3), (2, 3), (3, 3)], 4, 32, [.int .i64 0, .int .i64 0, .int .i64 0, .int .i64 0]⟩, ⟨.strct [(0, 3), (1, 3), (2, 3), (3, 3)], 4, 32, [.int .i64 0, .int .i64 0, .int .i64 0, .int .i64 0]⟩, ⟨.strct [(0, 3), (1, 3), (2, 3), (3, 3)], 4, 32, [.int .i64 0, .int .i64 0, .int .i64 0, .int .i64 0]⟩, ⟨.ptr, 1, 8, [.pointer none]⟩, ⟨.slice 5, 1, 24, [.slice none 0 0]⟩, ⟨.ptr, 1, 8, [.pointer none]⟩, ⟨.int .u32, 1, 4, [.int .u32 0]⟩].map some := by kernel_rfl
noncomputable def tab : List (Nat × TI) := [(2, ⟨.int .i64, 1, 8, [.int .i64 0]⟩), (3, ⟨.int .i64, 1, 8, [.int .i64 0]⟩), (4, ⟨.bool, 1, 1, [.bool false]⟩), (5, ⟨.int .u8, 1, 1, [.int .u8 0]⟩), (9, ⟨.string, 1, 16, [.string ByteArray.empty]⟩), (21, ⟨.int .i32, 1, 4, [.int .i32 0]⟩), (22, ⟨.slice 3, 1, 24, [.slice none 0 0]⟩), (23, ⟨.slice 22, 1, 24, [.slice none 0 0]⟩), (25, ⟨.strct [(0, 22), (1, 23), (2, 3)], 3, 56, [.slice none 0 0, .slice none 0 0, .int .i64 0]⟩), (31, ⟨.slice 9, 1, 24, [.slice none 0 0]⟩), (37, ⟨.strct [(0, 22), (1, 23), (2, 3)], 3, 56, [.slice none 0 0, .slice none 0 0, .int .i64 0]⟩), (41, ⟨.slice 64, 1, 24, [.slice none 0 0]⟩), (44, ⟨.slice 61, 1, 24, [.slice none 0 0]⟩), (60, ⟨.strct [(0, 3), (1, 3), (2, 3), (3, 3)], 4, 32, [.int .i64 0, .int .i64 0, .int .i64 0, .int .i64 0]⟩), (61, ⟨.strct [(0, 3), (1, 3), (2, 3), (3, 3)], 4, 32, [.int .i64 0, .int .i64 0, .int .i64 0, .int .i64 0]⟩), (64, ⟨.strct [(0, 3), (1, 3), (2, 3), (3, 3)], 4, 32, [.int .i64 0, .int .i64 0, .int .i64 0, .int .i64 0]⟩), (69, ⟨.ptr, 1, 8, [.pointer none]⟩), (70, ⟨.slice 5, 1, 24, [.slice none 0 0]⟩), (82, ⟨.ptr, 1, 8, [.pointer none]⟩), (94, ⟨.int .u32, 1, 4, [.int .u32 0]⟩)]
noncomputable def Ev : Env := ⟨Try.prog, tabOf tab⟩
theorem evOk : Ev.Ok := Env.ok_of (tab_ok tabOk)
end Go.T
namespace Go.T
open Go Go.E Go.Proofs
set_option maxHeartbeats 8000000 in
theorem s_laws_szIntS {l : List Int} {n : Int} (hl : l.length ≤ 9223372036854775807) (hn : 0 ≤ n ∧ n ≤ 9223372036854775807) : Go.E.Spec Try.prog 41 [eL false 1 cI l, .val (.int .i64 n)] (fun r _ => ∃ k : Int, r = .val (.int .i64 k) ∧ k ≤ n ∧ (0 ≤ k → l.length ≤ n)) := by
  refine spec_of_awp (E := Ev) evOk Try.func41 (c := _) rfl (by decide) (by simp [Try.ntmps41]) ?_
  rw [Try.ntmps41, entry_mk]
  change awp Ev 2 12 _ _ (mkSt [(0, .v (eL false 1 cI l)), (1, .v (.val (.int .i64 n)))] [(0, eL false 1 cI l), (1, .val (.int .i64 n))])
  refine a_seq fun K1 hK1 => ?_
  refine a_region rfl fun K2 hK2 => ?_
  refine x_assign ?_
  refine r_nil hK2 ?_
  refine hK1 _ _ (Ghost.refl _) ?_
  refine a_seq fun K3 hK3 => ?_
  refine a_region rfl fun K4 hK4 => ?_
  refine x_move ?_
  refine x_move ?_
  refine x_len ?_
  refine x_sub ?_ ?_
  ·
    exact ⟨by omega, by omega⟩
  refine x_assign ?_
  refine r_nil hK4 ?_
  refine hK3 _ _ (Ghost.refl _) ?_
  refine a_seq fun K5 hK5 => ?_
  refine a_seq fun K6 hK6 => ?_
  refine a_region rfl fun K7 hK7 => ?_
  refine x_move ?_
  refine x_bin ?_
  refine r_nil hK7 ?_
  refine hK6 _ _ (Ghost.refl _) ?_
  refine a_condP rfl (by first | exact .beq | exact .bne | exact .dec | exact .not .beq | exact .not .bne | exact .not .dec | exact .not .id | exact .id) (fun h8 => ?_) (fun h8 => ?_)
  · skip
    refine a_seq fun K9 hK9 => ?_
    refine a_region rfl fun K10 hK10 => ?_
    refine x_assign ?_
    refine r_nil hK10 ?_
    refine hK9 _ _ (Ghost.refl _) ?_
    refine a_ret ?_
    refine then_ret ?_
    exact leave_val (.inr rfl) rfl rfl rfl ⟨_, rfl, by omega, by omega⟩
  · skip
    refine a_skip ?_
    refine hK5 _ _ (Ghost.refl _) ?_
    refine a_seq fun K11 hK11 => ?_
    refine a_region rfl fun K12 hK12 => ?_
    refine x_move ?_
    refine x_assign ?_
    refine r_nil hK12 ?_
    refine hK11 _ _ (Ghost.refl _) ?_
    refine a_ret ?_
    exact leave_val (.inr rfl) rfl rfl rfl ⟨_, rfl, by omega, by omega⟩
end Go.T
namespace Go.T
open Go Go.E Go.Proofs
set_option maxHeartbeats 8000000 in
theorem s_laws_szIntSS {l : List ((List Int))} {n : Int} (hl : l.length ≤ 9223372036854775807) (hb : ∀ b ∈ l, b.length ≤ 9223372036854775807) (hn : 0 ≤ n ∧ n ≤ 9223372036854775807) : Go.E.Spec Try.prog 42 [eL false 1 (cL false 1 cI) l, .val (.int .i64 n)] (fun r _ => ∃ k : Int, r = .val (.int .i64 k) ∧ k ≤ n ∧ (0 ≤ k → l.length ≤ n ∧ ∀ b ∈ l, (b.length : Int) ≤ n)) := by
  refine spec_of_awp (E := Ev) evOk Try.func42 (c := _) rfl (by decide) (by simp [Try.ntmps42]) ?_
  rw [Try.ntmps42, entry_mk]
  change awp Ev 2 27 _ _ (mkSt [(0, .v (eL false 1 (cL false 1 cI) l)), (1, .v (.val (.int .i64 n)))] [(0, eL false 1 (cL false 1 cI) l), (1, .val (.int .i64 n))])
  refine a_seq fun K1 hK1 => ?_
  refine a_region rfl fun K2 hK2 => ?_
  refine x_assign ?_
  refine r_nil hK2 ?_
  refine hK1 _ _ (Ghost.refl _) ?_
  refine a_seq fun K3 hK3 => ?_
  refine a_region rfl fun K4 hK4 => ?_
  refine x_move ?_
  refine x_move ?_
  refine x_len ?_
  refine x_sub ?_ ?_
  ·
    exact ⟨by omega, by omega⟩
  refine x_assign ?_
  refine r_nil hK4 ?_
  refine hK3 _ _ (Ghost.refl _) ?_
  refine a_seq fun K5 hK5 => ?_
  refine a_seq fun K6 hK6 => ?_
  refine a_region rfl fun K7 hK7 => ?_
  refine x_move ?_
  refine x_bin ?_
  refine r_nil hK7 ?_
  refine hK6 _ _ (Ghost.refl _) ?_
  refine a_condP rfl (by first | exact .beq | exact .bne | exact .dec | exact .not .beq | exact .not .bne | exact .not .dec | exact .not .id | exact .id) (fun h8 => ?_) (fun h8 => ?_)
  · skip
    refine a_seq fun K9 hK9 => ?_
    refine a_region rfl fun K10 hK10 => ?_
    refine x_assign ?_
    refine r_nil hK10 ?_
    refine hK9 _ _ (Ghost.refl _) ?_
    refine a_ret ?_
    refine then_ret ?_
    exact leave_val (.inr rfl) rfl rfl rfl ⟨_, rfl, by omega, fun h => by omega⟩
  · skip
    refine a_skip ?_
    refine hK5 _ _ (Ghost.refl _) ?_
    refine a_seq fun K11 hK11 => ?_
    refine a_seq fun K12 hK12 => ?_
    refine a_region rfl fun K13 hK13 => ?_
    refine x_assign ?_
    refine r_nil hK13 ?_
    refine hK12 _ _ (Ghost.refl _) ?_
    refine a_block fun K14 hK14 => ?_
    refine a_loopM (X := Int × Int) (fun (c, i) => ([(1, .v (.val (.int .i64 c))), (5, .v (.val (.int .i64 i)))] : List (Nat × S))) (fun (c, i) => ([] : List (Nat × V))) (fun (c, i) => (0 ≤ i ∧ i ≤ l.length) ∧ (0 ≤ c ∧ c ≤ n) ∧ (∀ b ∈ takeI l i, (b.length : Int) ≤ n)) (fun (c, i) => (l.length - i).toNat) [(0, .v _)] [(0, _), (1, _)] (_, _) (Ghost.refl _) ⟨rfl, rfl, rfl, trivial⟩ ⟨rfl, rfl, trivial⟩ (fun ⟨_, _⟩ => rfl) ?_ ?_
    ·
      try dsimp only
      refine ⟨?_, ?_, ?_⟩
      ·
        first | omega | rfl | assumption | (simp; done) | (simp_all; done)
      ·
        first | omega | rfl | assumption | (simp; done) | (simp_all; done)
      ·
        rw [takeI_zero]; simp
    ·
      rintro ⟨c, i⟩ hI15 K15 hK15
      dsimp only [List.cons_append, List.nil_append] at hI15 ⊢
      obtain ⟨hi, hc, hq⟩ := hI15
      refine a_seq fun K16 hK16 => ?_
      refine a_seq fun K17 hK17 => ?_
      refine a_region rfl fun K18 hK18 => ?_
      refine x_move ?_
      refine x_move ?_
      refine x_len ?_
      refine x_bin ?_
      refine r_nil hK18 ?_
      refine hK17 _ _ (Ghost.refl _) ?_
      refine a_condP rfl (by first | exact .beq | exact .bne | exact .dec | exact .not .beq | exact .not .bne | exact .not .dec | exact .not .id | exact .id) (fun h19 => ?_) (fun h19 => ?_)
      · skip
        refine a_skip ?_
        refine hK16 _ _ (Ghost.refl _) ?_
        refine a_seq fun K20 hK20 => ?_
        refine a_block fun K21 hK21 => ?_
        refine a_seq fun K22 hK22 => ?_
        refine a_region rfl fun K23 hK23 => ?_
        refine x_move ?_
        refine x_move ?_
        refine x_indexAddr ?_ ?_
        ·
          exact ⟨by omega, by omega⟩
        first | refine x_ldE ?_ ?_ | refine x_ldN ?_ ?_ | refine x_ldO ?_ ?_ | refine x_ldON ?_ ?_ (hf := fun x => (rfl : cN x = List.map V.val [_, _, _, _]))
        ·
          omega
        refine x_move ?_
        refine x_call (s_laws_szIntS ?_ ?_) ?_ (hl := by first | rfl | (repeat (first | exact lendL_nil | refine lendL_cons (by first | rfl | exact lend_ref rfl (ro_eL (by intro _; first | rfl | exact roL_cL (by intro _; rfl))) | exact lend_refp rfl (ro_eL (by intro _; first | rfl | exact roL_cL (by intro _; rfl))) | exact lend_agg (by repeat (first | exact lendL_nil | refine lendL_cons (by first | rfl | exact lend_ref rfl (ro_eL (by intro _; first | rfl | exact roL_cL (by intro _; rfl))) | exact lend_refp rfl (ro_eL (by intro _; first | rfl | exact roL_cL (by intro _; rfl)))) ?_))) ?_)))
        ·
          first | omega | exact hb _ (mem_get! (by omega))
        ·
          first | omega | exact hb _ (mem_get! (by omega))
        rintro _ _ ⟨k, rfl, hk0, hk⟩
        refine x_assign ?_
        refine r_nil hK23 ?_
        refine hK22 _ _ (ghost_has (ks := [(0, .v _), (1, .v _), (5, .v _)]) (km := [(0, _), (1, _), (23, _)]) ⟨rfl, rfl, rfl, trivial⟩ ⟨rfl, rfl, rfl, trivial⟩ rfl) ?_
        refine a_seq fun K24 hK24 => ?_
        refine a_region rfl fun K25 hK25 => ?_
        refine x_move ?_
        refine x_bin ?_
        refine r_nil hK25 ?_
        refine hK24 _ _ (Ghost.refl _) ?_
        refine a_condP rfl (by first | exact .beq | exact .bne | exact .dec | exact .not .beq | exact .not .bne | exact .not .dec | exact .not .id | exact .id) (fun h26 => ?_) (fun h26 => ?_)
        · skip
          refine a_seq fun K27 hK27 => ?_
          refine a_region rfl fun K28 hK28 => ?_
          refine x_assign ?_
          refine r_nil hK28 ?_
          refine hK27 _ _ (Ghost.refl _) ?_
          refine a_ret ?_
          refine hK21 .ret _ (in_ret ?_)
          refine then_ret ?_
          refine then_ret ?_
          refine hK14 .ret _ (in_ret ?_)
          refine then_ret ?_
          exact leave_val (.inr rfl) rfl rfl rfl ⟨_, rfl, by omega, fun h => by omega⟩
        · skip
          refine a_skip ?_
          refine hK21 .normal _ ?_
          refine hK20 _ _ (Ghost.refl _) ?_
          refine a_region rfl fun K29 hK29 => ?_
          refine x_move ?_
          refine x_add ?_ ?_
          ·
            exact ⟨by omega, by omega⟩
          refine x_assign ?_
          refine r_nil hK29 ?_
          refine hK15 (_, _) _ _ _ (Ghost.refl _) ⟨rfl, rfl, rfl, trivial⟩ ⟨rfl, rfl, trivial⟩ ?_ ?_
          ·
            first | omega | (dsimp only; omega)
          ·
            try dsimp only
            refine ⟨?_, ?_, ?_⟩
            ·
              first | omega | rfl | assumption | (simp; done) | (simp_all; done)
            ·
              first | omega | rfl | assumption | (simp; done) | (simp_all; done)
            ·
              exact takeI_next (by omega) (by omega) hq (by omega)
      · skip
        refine a_exit ?_
        refine then_exit ?_
        refine then_exit ?_
        refine hK14 (.exit 0) _ (in_exit ?_)
        refine hK11 _ _ (Ghost.refl _) ?_
        refine a_seq fun K30 hK30 => ?_
        refine a_region rfl fun K31 hK31 => ?_
        refine x_move ?_
        refine x_assign ?_
        refine r_nil hK31 ?_
        refine hK30 _ _ (Ghost.refl _) ?_
        refine a_ret ?_
        exact leave_val (.inr rfl) rfl rfl rfl ⟨_, rfl, by omega, fun _ => ⟨by omega, takeI_all_mem (by omega) hq⟩⟩
end Go.T
namespace Go.T
open Go Go.E Go.Proofs
set_option maxHeartbeats 8000000 in
theorem s_laws_szModel {m : Md} {n : Int} (hf : m.facts.length ≤ 9223372036854775807) (hl : m.blocks.length ≤ 9223372036854775807) (hb : ∀ b ∈ m.blocks, b.length ≤ 9223372036854775807) (hn : 0 ≤ n ∧ n ≤ 9223372036854775807) : Go.E.Spec Try.prog 19 [.agg (cM false m), .val (.int .i64 n)] (fun r _ => ∃ k : Int, r = .val (.int .i64 k) ∧ k ≤ n ∧ (0 ≤ k → m.facts.length ≤ n ∧ m.blocks.length ≤ n ∧ ∀ b ∈ m.blocks, (b.length : Int) ≤ n)) := by
  refine spec_of_awp (E := Ev) evOk Try.func19 (c := _) rfl (by decide) (by simp [Try.ntmps19]) ?_
  rw [Try.ntmps19, entry_mk]
  change awp Ev 2 18 _ _ (mkSt [(0, .agg [.v (eL false 1 cI m.facts), .v (eL false 1 (cL false 1 cI) m.blocks), .v (.val (.int .i64 m.actual))]), (1, .v (.val (.int .i64 n)))] [(0, .agg (cM false m)), (1, .val (.int .i64 n))])
  refine a_seq fun K1 hK1 => ?_
  refine a_region rfl fun K2 hK2 => ?_
  first | refine x_boxVal ?_ | refine x_boxAgg' ?_ | refine x_boxT ?_
  refine x_assign ?_
  refine r_nil hK2 ?_
  refine hK1 _ _ (Ghost.refl _) ?_
  refine a_seq fun K3 hK3 => ?_
  refine a_region rfl fun K4 hK4 => ?_
  refine x_fieldAddr ?_
  refine x_load ?_
  refine x_move ?_
  refine x_call (s_laws_szIntS ?_ ?_) ?_ (hl := by first | rfl | (repeat (first | exact lendL_nil | refine lendL_cons (by first | rfl | exact lend_ref rfl (ro_eL (by intro _; first | rfl | exact roL_cL (by intro _; rfl))) | exact lend_refp rfl (ro_eL (by intro _; first | rfl | exact roL_cL (by intro _; rfl))) | exact lend_agg (by repeat (first | exact lendL_nil | refine lendL_cons (by first | rfl | exact lend_ref rfl (ro_eL (by intro _; first | rfl | exact roL_cL (by intro _; rfl))) | exact lend_refp rfl (ro_eL (by intro _; first | rfl | exact roL_cL (by intro _; rfl)))) ?_))) ?_)))
  ·
    first | omega | rfl | assumption | (simp; done) | (simp_all; done)
  ·
    first | omega | rfl | assumption | (simp; done) | (simp_all; done)
  rintro _ _ ⟨k, rfl, hk0, hk⟩
  refine x_assign ?_
  refine r_nil hK4 ?_
  refine hK3 _ _ (Ghost.refl _) ?_
  refine a_seq fun K5 hK5 => ?_
  refine a_seq fun K6 hK6 => ?_
  refine a_region rfl fun K7 hK7 => ?_
  refine x_move ?_
  refine x_bin ?_
  refine r_nil hK7 ?_
  refine hK6 _ _ (ghost_has (ks := [(1, .v _), (2, .ref 2 []), (10, .v _)]) (km := [(0, _), (1, _), (2, _), (8, _)]) ⟨rfl, rfl, rfl, trivial⟩ ⟨rfl, rfl, rfl, rfl, trivial⟩ rfl) ?_
  refine a_condP rfl (by first | exact .beq | exact .bne | exact .dec | exact .not .beq | exact .not .bne | exact .not .dec | exact .not .id | exact .id) (fun h8 => ?_) (fun h8 => ?_)
  · skip
    refine a_seq fun K9 hK9 => ?_
    refine a_region rfl fun K10 hK10 => ?_
    refine x_assign ?_
    refine r_nil hK10 ?_
    refine hK9 _ _ (Ghost.refl _) ?_
    refine a_ret ?_
    refine then_ret ?_
    exact leave_val (.inr rfl) rfl rfl rfl ⟨_, rfl, by omega, fun h => by omega⟩
  · skip
    refine a_skip ?_
    refine hK5 _ _ (Ghost.refl _) ?_
    refine a_seq fun K11 hK11 => ?_
    refine a_region rfl fun K12 hK12 => ?_
    refine x_fieldAddr ?_
    refine x_load ?_
    refine x_move ?_
    refine x_call (s_laws_szIntSS ?_ ?_ ?_) ?_ (hl := by first | rfl | (repeat (first | exact lendL_nil | refine lendL_cons (by first | rfl | exact lend_ref rfl (ro_eL (by intro _; first | rfl | exact roL_cL (by intro _; rfl))) | exact lend_refp rfl (ro_eL (by intro _; first | rfl | exact roL_cL (by intro _; rfl))) | exact lend_agg (by repeat (first | exact lendL_nil | refine lendL_cons (by first | rfl | exact lend_ref rfl (ro_eL (by intro _; first | rfl | exact roL_cL (by intro _; rfl))) | exact lend_refp rfl (ro_eL (by intro _; first | rfl | exact roL_cL (by intro _; rfl)))) ?_))) ?_)))
    ·
      first | omega | exact hb
    ·
      first | omega | exact hb
    ·
      first | omega | exact hb
    rintro _ _ ⟨k2, rfl, hk20, hk2⟩
    refine x_assign ?_
    refine r_nil hK12 ?_
    refine hK11 _ _ (Ghost.refl _) ?_
    refine a_seq fun K13 hK13 => ?_
    refine a_seq fun K14 hK14 => ?_
    refine a_region rfl fun K15 hK15 => ?_
    refine x_move ?_
    refine x_bin ?_
    refine r_nil hK15 ?_
    refine hK14 _ _ (Ghost.refl _) ?_
    refine a_condP rfl (by first | exact .beq | exact .bne | exact .dec | exact .not .beq | exact .not .bne | exact .not .dec | exact .not .id | exact .id) (fun h16 => ?_) (fun h16 => ?_)
    · skip
      refine a_seq fun K17 hK17 => ?_
      refine a_region rfl fun K18 hK18 => ?_
      refine x_assign ?_
      refine r_nil hK18 ?_
      refine hK17 _ _ (Ghost.refl _) ?_
      refine a_ret ?_
      refine then_ret ?_
      exact leave_val (.inr rfl) rfl rfl rfl ⟨_, rfl, by omega, fun h => by omega⟩
    · skip
      refine a_skip ?_
      refine hK13 _ _ (Ghost.refl _) ?_
      refine a_seq fun K19 hK19 => ?_
      refine a_region rfl fun K20 hK20 => ?_
      refine x_move ?_
      refine x_assign ?_
      refine r_nil hK20 ?_
      refine hK19 _ _ (Ghost.refl _) ?_
      refine a_ret ?_
      exact leave_val (.inr rfl) rfl rfl rfl ⟨_, rfl, by omega, fun _ => ⟨by omega, by omega, fun b hb => by have := (hk2 (by omega)).2 b hb; omega⟩⟩
end Go.T
namespace Go.T
open Go Go.E Go.Proofs
set_option maxHeartbeats 8000000 in
theorem s_laws_toIntS {l : List Int} (hl : l.length ≤ 1073741824) : Go.E.Spec Try.prog 44 [eL false 1 cI l] (fun r _ => r = eL true 1 cI (l)) := by
  refine spec_of_awp (E := Ev) evOk Try.func44 (c := _) rfl (by decide) (by simp [Try.ntmps44]) ?_
  rw [Try.ntmps44, entry_mk]
  change awp Ev 1 22 _ _ (mkSt [(0, .v (eL false 1 cI l))] [(0, eL false 1 cI l)])
  refine a_seq fun K1 hK1 => ?_
  refine a_region rfl fun K2 hK2 => ?_
  refine x_assign ?_
  refine r_nil hK2 ?_
  refine hK1 _ _ (Ghost.refl _) ?_
  refine a_seq fun K3 hK3 => ?_
  refine a_region rfl fun K4 hK4 => ?_
  refine x_move ?_
  refine x_len ?_
  refine x_mk (c := cI) (z := 0) (sz := 1) ?_ ?_ rfl
  ·
    omega
  refine x_assign ?_
  refine r_nil hK4 ?_
  refine hK3 _ _ (Ghost.refl _) ?_
  refine a_seq fun K5 hK5 => ?_
  refine a_seq fun K6 hK6 => ?_
  refine a_region rfl fun K7 hK7 => ?_
  refine x_assign ?_
  refine r_nil hK7 ?_
  refine hK6 _ _ (Ghost.refl _) ?_
  refine a_block fun K8 hK8 => ?_
  refine a_loopM (X := Int × (List Int)) (fun (i, o) => ([(4, .v (.val (.int .i64 i)))] : List (Nat × S))) (fun (i, o) => ([(7, eL true 1 cI o)] : List (Nat × V))) (fun (i, o) => (0 ≤ i ∧ i ≤ l.length) ∧ (o.length = l.length) ∧ (∀ j : Nat, j < i.toNat → o[j]! = l[j]!)) (fun (i, o) => (l.length - i).toNat) [(0, .v _), (3, .ref 7 [])] [(0, _)] (_, _) (Ghost.refl _) ⟨rfl, rfl, rfl, trivial⟩ ⟨rfl, rfl, trivial⟩ (fun ⟨_, _⟩ => rfl) ?_ ?_
  ·
    try dsimp only
    refine ⟨?_, ?_, ?_⟩
    ·
      first | omega | rfl | assumption | (simp; done) | (simp_all; done)
    ·
      first | omega | rfl | assumption | (simp; done) | (simp_all; done)
    ·
      intro j hj; simp at hj
  ·
    rintro ⟨i, o⟩ hI9 K9 hK9
    dsimp only [List.cons_append, List.nil_append] at hI9 ⊢
    obtain ⟨hi, ho, he⟩ := hI9
    refine a_seq fun K10 hK10 => ?_
    refine a_seq fun K11 hK11 => ?_
    refine a_region rfl fun K12 hK12 => ?_
    refine x_move ?_
    refine x_move ?_
    refine x_len ?_
    refine x_bin ?_
    refine r_nil hK12 ?_
    refine hK11 _ _ (Ghost.refl _) ?_
    refine a_condP rfl (by first | exact .beq | exact .bne | exact .dec | exact .not .beq | exact .not .bne | exact .not .dec | exact .not .id | exact .id) (fun h13 => ?_) (fun h13 => ?_)
    · skip
      refine a_skip ?_
      refine hK10 _ _ (Ghost.refl _) ?_
      refine a_seq fun K14 hK14 => ?_
      refine a_block fun K15 hK15 => ?_
      refine a_region rfl fun K16 hK16 => ?_
      refine x_move ?_
      refine x_move ?_
      refine x_move ?_
      refine x_move ?_
      refine x_indexAddr ?_ ?_
      ·
        exact ⟨by omega, by omega⟩
      first | refine x_ldE ?_ ?_ | refine x_ldN ?_ ?_ | refine x_ldO ?_ ?_ | refine x_ldON ?_ ?_ (hf := fun x => (rfl : cN x = List.map V.val [_, _, _, _]))
      ·
        omega
      refine x_indexAddr ?_ ?_
      ·
        exact ⟨by omega, by omega⟩
      first | refine x_stE ?_ ?_ | refine x_stN' ?_ ?_
      ·
        omega
      refine r_nil hK16 ?_
      refine hK15 .normal _ ?_
      refine hK14 _ _ (ghost_has (ks := [(0, .v _), (3, .ref 7 []), (4, .v _)]) (km := [(0, _), (7, _)]) ⟨rfl, rfl, rfl, trivial⟩ ⟨rfl, rfl, trivial⟩ rfl) ?_
      refine a_region rfl fun K17 hK17 => ?_
      refine x_move ?_
      refine x_add ?_ ?_
      ·
        exact ⟨by omega, by omega⟩
      refine x_assign ?_
      refine r_nil hK17 ?_
      refine hK9 (_, _) _ _ _ (Ghost.refl _) ⟨rfl, rfl, rfl, trivial⟩ ⟨rfl, rfl, trivial⟩ ?_ ?_
      ·
        first | omega | (dsimp only; omega)
      ·
        try dsimp only
        refine ⟨?_, ?_, ?_⟩
        ·
          first | omega | rfl | assumption | (simp; done) | (simp_all; done)
        ·
          simpa using ho
        ·
          exact set_upto (by omega) (by omega) he (by omega)
    · skip
      refine a_exit ?_
      refine then_exit ?_
      refine then_exit ?_
      refine hK8 (.exit 0) _ (in_exit ?_)
      refine hK5 _ _ (Ghost.refl _) ?_
      refine a_seq fun K18 hK18 => ?_
      refine a_region rfl fun K19 hK19 => ?_
      refine x_move ?_
      refine x_assign ?_
      refine r_nil hK19 ?_
      refine hK18 _ _ (Ghost.refl _) ?_
      refine a_ret ?_
      refine leave_own (.inr rfl) rfl rfl rfl rfl (free_eL (by intro _; first | rfl | exact freeL_cL (by intro _; rfl))) rfl (congrArg (eL true 1 cI) ?_)
      exact upto_all ho (fun j hj => he j (by omega))
end Go.T
namespace Go.T
open Go Go.E Go.Proofs
set_option maxHeartbeats 8000000 in
theorem s_laws_toIntSS {l : List ((List Int))} (hl : l.length ≤ 1073741824) (hb : ∀ b ∈ l, b.length ≤ 1073741824) : Go.E.Spec Try.prog 45 [eL false 1 (cL false 1 cI) l] (fun r _ => r = eL true 1 (cL true 1 cI) (l)) := by
  refine spec_of_awp (E := Ev) evOk Try.func45 (c := _) rfl (by decide) (by simp [Try.ntmps45]) ?_
  rw [Try.ntmps45, entry_mk]
  change awp Ev 1 23 _ _ (mkSt [(0, .v (eL false 1 (cL false 1 cI) l))] [(0, eL false 1 (cL false 1 cI) l)])
  refine a_seq fun K1 hK1 => ?_
  refine a_region rfl fun K2 hK2 => ?_
  refine x_assign ?_
  refine r_nil hK2 ?_
  refine hK1 _ _ (Ghost.refl _) ?_
  refine a_seq fun K3 hK3 => ?_
  refine a_region rfl fun K4 hK4 => ?_
  refine x_move ?_
  refine x_len ?_
  refine x_mk (c := cLo) (z := none) (sz := 1) ?_ ?_ rfl
  ·
    omega
  refine x_assign ?_
  refine r_nil hK4 ?_
  refine hK3 _ _ (Ghost.refl _) ?_
  refine a_seq fun K5 hK5 => ?_
  refine a_seq fun K6 hK6 => ?_
  refine a_region rfl fun K7 hK7 => ?_
  refine x_assign ?_
  refine r_nil hK7 ?_
  refine hK6 _ _ (Ghost.refl _) ?_
  refine a_block fun K8 hK8 => ?_
  refine a_loopM (X := Int × (List (Option (List Int)))) (fun (i, o) => ([(4, .v (.val (.int .i64 i)))] : List (Nat × S))) (fun (i, o) => ([(7, eL true 1 cLo o)] : List (Nat × V))) (fun (i, o) => (0 ≤ i ∧ i ≤ l.length) ∧ (o.length = l.length) ∧ (∀ j : Nat, j < i.toNat → o[j]! = (l.map some)[j]!)) (fun (i, o) => (l.length - i).toNat) [(0, .v _), (3, .ref 7 [])] [(0, _)] (_, _) (Ghost.refl _) ⟨rfl, rfl, rfl, trivial⟩ ⟨rfl, rfl, trivial⟩ (fun ⟨_, _⟩ => rfl) ?_ ?_
  ·
    try dsimp only
    refine ⟨?_, ?_, ?_⟩
    ·
      first | omega | rfl | assumption | (simp; done) | (simp_all; done)
    ·
      first | omega | rfl | assumption | (simp; done) | (simp_all; done)
    ·
      intro j hj; simp at hj
  ·
    rintro ⟨i, o⟩ hI9 K9 hK9
    dsimp only [List.cons_append, List.nil_append] at hI9 ⊢
    obtain ⟨hi, ho, he⟩ := hI9
    refine a_seq fun K10 hK10 => ?_
    refine a_seq fun K11 hK11 => ?_
    refine a_region rfl fun K12 hK12 => ?_
    refine x_move ?_
    refine x_move ?_
    refine x_len ?_
    refine x_bin ?_
    refine r_nil hK12 ?_
    refine hK11 _ _ (Ghost.refl _) ?_
    refine a_condP rfl (by first | exact .beq | exact .bne | exact .dec | exact .not .beq | exact .not .bne | exact .not .dec | exact .not .id | exact .id) (fun h13 => ?_) (fun h13 => ?_)
    · skip
      refine a_skip ?_
      refine hK10 _ _ (Ghost.refl _) ?_
      refine a_seq fun K14 hK14 => ?_
      refine a_block fun K15 hK15 => ?_
      refine a_region rfl fun K16 hK16 => ?_
      refine x_move ?_
      refine x_move ?_
      refine x_move ?_
      refine x_move ?_
      refine x_indexAddr ?_ ?_
      ·
        exact ⟨by omega, by omega⟩
      first | refine x_ldE ?_ ?_ | refine x_ldN ?_ ?_ | refine x_ldO ?_ ?_ | refine x_ldON ?_ ?_ (hf := fun x => (rfl : cN x = List.map V.val [_, _, _, _]))
      ·
        omega
      refine x_call (s_laws_toIntS ?_) ?_ (hl := by first | rfl | (repeat (first | exact lendL_nil | refine lendL_cons (by first | rfl | exact lend_ref rfl (ro_eL (by intro _; first | rfl | exact roL_cL (by intro _; rfl))) | exact lend_refp rfl (ro_eL (by intro _; first | rfl | exact roL_cL (by intro _; rfl))) | exact lend_agg (by repeat (first | exact lendL_nil | refine lendL_cons (by first | rfl | exact lend_ref rfl (ro_eL (by intro _; first | rfl | exact roL_cL (by intro _; rfl))) | exact lend_refp rfl (ro_eL (by intro _; first | rfl | exact roL_cL (by intro _; rfl)))) ?_))) ?_)))
      ·
        exact hb _ (mem_get! (by omega))
      rintro _ _ rfl
      refine x_indexAddr ?_ ?_
      ·
        exact ⟨by omega, by omega⟩
      refine x_stT (c := cLo) (some _) ?_ ?_ rfl
      ·
        omega
      refine r_nil hK16 ?_
      refine hK15 .normal _ ?_
      refine hK14 _ _ (ghost_has (ks := [(0, .v _), (3, .ref 7 []), (4, .v _)]) (km := [(0, _), (7, _)]) ⟨rfl, rfl, rfl, trivial⟩ ⟨rfl, rfl, trivial⟩ rfl) ?_
      refine a_region rfl fun K17 hK17 => ?_
      refine x_move ?_
      refine x_add ?_ ?_
      ·
        exact ⟨by omega, by omega⟩
      refine x_assign ?_
      refine r_nil hK17 ?_
      refine hK9 (_, _) _ _ _ (Ghost.refl _) ⟨rfl, rfl, rfl, trivial⟩ ⟨rfl, rfl, trivial⟩ ?_ ?_
      ·
        first | omega | (dsimp only; omega)
      ·
        try dsimp only
        refine ⟨?_, ?_, ?_⟩
        ·
          first | omega | rfl | assumption | (simp; done) | (simp_all; done)
        ·
          simpa using ho
        ·
          have e2 : some l[i.toNat]! = (l.map some)[i.toNat]! := by rw [getElem!_pos (l.map some) i.toNat (by simp; omega), getElem!_pos l i.toNat (by omega)]; simp
          rw [e2]
          exact set_upto (by omega) (by omega) he rfl
    · skip
      refine a_exit ?_
      refine then_exit ?_
      refine then_exit ?_
      refine hK8 (.exit 0) _ (in_exit ?_)
      refine hK5 _ _ (Ghost.refl _) ?_
      refine a_seq fun K18 hK18 => ?_
      refine a_region rfl fun K19 hK19 => ?_
      refine x_move ?_
      refine x_assign ?_
      refine r_nil hK19 ?_
      refine hK18 _ _ (Ghost.refl _) ?_
      refine a_ret ?_
      have e3 : o = l.map some := upto_all (by simpa using ho) (fun j hj => he j (by simp at hj; omega))
      refine leave_own (.inr rfl) rfl rfl rfl rfl (free_eL freeL_cLo) rfl ?_
      show eL true 1 cLo o = _
      rw [e3]; exact eLo_map l
end Go.T
namespace Go.T
open Go Go.E Go.Proofs
set_option maxHeartbeats 8000000 in
theorem s_laws_toModel {m : Md} (hf : m.facts.length ≤ 1073741824) (hl : m.blocks.length ≤ 1073741824) (hb : ∀ b ∈ m.blocks, b.length ≤ 1073741824) : Go.E.Spec Try.prog 21 [.agg (cM false m)] (fun r _ => r = .agg (cM true m)) := by
  refine spec_of_awp (E := Ev) evOk Try.func21 (c := _) rfl (by decide) (by simp [Try.ntmps21]) ?_
  rw [Try.ntmps21, entry_mk]
  change awp Ev 1 16 _ _ (mkSt [(0, .agg [.v (eL false 1 cI m.facts), .v (eL false 1 (cL false 1 cI) m.blocks), .v (.val (.int .i64 m.actual))])] [(0, .agg (cM false m))])
  refine a_seq fun K1 hK1 => ?_
  refine a_region rfl fun K2 hK2 => ?_
  first | refine x_boxVal ?_ | refine x_boxAgg' ?_ | refine x_boxT ?_
  refine x_alloc ?_
  refine r_nil hK2 ?_
  refine hK1 _ _ (Ghost.refl _) ?_
  refine a_seq fun K3 hK3 => ?_
  refine a_region rfl fun K4 hK4 => ?_
  refine x_alloc ?_
  refine r_nil hK4 ?_
  refine hK3 _ _ (Ghost.refl _) ?_
  refine a_seq fun K5 hK5 => ?_
  refine a_region rfl fun K6 hK6 => ?_
  refine x_fieldAddr ?_
  refine x_load ?_
  refine x_call (s_laws_toIntS ?_) ?_ (hl := by first | rfl | (repeat (first | exact lendL_nil | refine lendL_cons (by first | rfl | exact lend_ref rfl (ro_eL (by intro _; first | rfl | exact roL_cL (by intro _; rfl))) | exact lend_refp rfl (ro_eL (by intro _; first | rfl | exact roL_cL (by intro _; rfl))) | exact lend_agg (by repeat (first | exact lendL_nil | refine lendL_cons (by first | rfl | exact lend_ref rfl (ro_eL (by intro _; first | rfl | exact roL_cL (by intro _; rfl))) | exact lend_refp rfl (ro_eL (by intro _; first | rfl | exact roL_cL (by intro _; rfl)))) ?_))) ?_)))
  ·
    first | omega | rfl | assumption | (simp; done) | (simp_all; done)
  rintro _ _ rfl
  refine x_fieldAddr ?_
  first | refine x_put0 ?_ | refine x_put1 ?_ | refine x_put2 ?_ | refine x_put3 ?_ | refine x_putAll ?_ | refine x_put0R ?_ | refine x_put1R ?_ | refine x_putM ?_ | refine x_put0T ?_ | refine x_put1T ?_ | refine x_putAllT ?_
  refine r_nil hK6 ?_
  refine hK5 _ _ (ghost_has (ks := [(1, .ref 1 []), (2, .ref 2 []), (3, .ref 3 [])]) (km := [(0, _), (1, _), (2, _), (3, _)]) ⟨rfl, rfl, rfl, trivial⟩ ⟨rfl, rfl, rfl, rfl, trivial⟩ rfl) ?_
  refine a_seq fun K7 hK7 => ?_
  refine a_region rfl fun K8 hK8 => ?_
  refine x_fieldAddr ?_
  refine x_load ?_
  refine x_call (s_laws_toIntSS ?_ ?_) ?_ (hl := by first | rfl | (repeat (first | exact lendL_nil | refine lendL_cons (by first | rfl | exact lend_ref rfl (ro_eL (by intro _; first | rfl | exact roL_cL (by intro _; rfl))) | exact lend_refp rfl (ro_eL (by intro _; first | rfl | exact roL_cL (by intro _; rfl))) | exact lend_agg (by repeat (first | exact lendL_nil | refine lendL_cons (by first | rfl | exact lend_ref rfl (ro_eL (by intro _; first | rfl | exact roL_cL (by intro _; rfl))) | exact lend_refp rfl (ro_eL (by intro _; first | rfl | exact roL_cL (by intro _; rfl)))) ?_))) ?_)))
  ·
    first | omega | exact hb
  ·
    first | omega | exact hb
  rintro _ _ rfl
  refine x_fieldAddr ?_
  first | refine x_put0 ?_ | refine x_put1 ?_ | refine x_put2 ?_ | refine x_put3 ?_ | refine x_putAll ?_ | refine x_put0R ?_ | refine x_put1R ?_ | refine x_putM ?_ | refine x_put0T ?_ | refine x_put1T ?_ | refine x_putAllT ?_
  refine r_nil hK8 ?_
  refine hK7 _ _ (Ghost.refl _) ?_
  refine a_seq fun K9 hK9 => ?_
  refine a_region rfl fun K10 hK10 => ?_
  refine x_fieldAddr ?_
  refine x_load ?_
  refine x_fieldAddr ?_
  first | refine x_put0 ?_ | refine x_put1 ?_ | refine x_put2 ?_ | refine x_put3 ?_ | refine x_putAll ?_ | refine x_put0R ?_ | refine x_put1R ?_ | refine x_putM ?_ | refine x_put0T ?_ | refine x_put1T ?_ | refine x_putAllT ?_
  refine r_nil hK10 ?_
  refine hK9 _ _ (ghost_has (ks := [(2, .ref 2 []), (3, .ref 3 [])]) (km := [(0, _), (2, _), (3, _)]) ⟨rfl, rfl, trivial⟩ ⟨rfl, rfl, rfl, trivial⟩ rfl) ?_
  refine a_seq fun K11 hK11 => ?_
  refine a_region rfl fun K12 hK12 => ?_
  first | refine x_ldM ?_ | refine x_ldMR ?_ | refine x_load ?_
  first | refine x_put0 ?_ | refine x_put1 ?_ | refine x_put2 ?_ | refine x_put3 ?_ | refine x_putAll ?_ | refine x_put0R ?_ | refine x_put1R ?_ | refine x_putM ?_ | refine x_put0T ?_ | refine x_put1T ?_ | refine x_putAllT ?_
  refine r_nil hK12 ?_
  refine hK11 _ _ (Ghost.refl _) ?_
  refine a_ret ?_
  exact leave_M (.inr rfl) rfl rfl rfl rfl rfl rfl (freeL_cM m) rfl rfl
end Go.T
namespace Go.T
open Go Go.E Go.Proofs
set_option maxHeartbeats 8000000 in
theorem s_spec_l03Same {a : List Int} {b : List Int} (hl : a.length ≤ 9223372036854775807) : Go.E.Spec Try.prog 43 [eL false 1 cI a, eL false 1 cI b] (fun r _ => r = .val (.bool (decide (a = b)))) := by
  refine spec_of_awp (E := Ev) evOk Try.func43 (c := _) rfl (by decide) (by simp [Try.ntmps43]) ?_
  rw [Try.ntmps43, entry_mk]
  change awp Ev 2 26 _ _ (mkSt [(0, .v (eL false 1 cI a)), (1, .v (eL false 1 cI b))] [(0, eL false 1 cI a), (1, eL false 1 cI b)])
  refine a_seq fun K1 hK1 => ?_
  refine a_region rfl fun K2 hK2 => ?_
  refine x_assign ?_
  refine r_nil hK2 ?_
  refine hK1 _ _ (Ghost.refl _) ?_
  refine a_seq fun K3 hK3 => ?_
  refine a_seq fun K4 hK4 => ?_
  refine a_region rfl fun K5 hK5 => ?_
  refine x_move ?_
  refine x_len ?_
  refine x_move ?_
  refine x_len ?_
  refine x_bin ?_
  refine r_nil hK5 ?_
  refine hK4 _ _ (Ghost.refl _) ?_
  refine a_condP rfl (by first | exact .beq | exact .bne | exact .dec | exact .not .beq | exact .not .bne | exact .not .dec | exact .not .id | exact .id) (fun h6 => ?_) (fun h6 => ?_)
  · skip
    refine a_seq fun K7 hK7 => ?_
    refine a_region rfl fun K8 hK8 => ?_
    refine x_assign ?_
    refine r_nil hK8 ?_
    refine hK7 _ _ (Ghost.refl _) ?_
    refine a_ret ?_
    refine then_ret ?_
    refine leave_val (.inr rfl) rfl rfl rfl (congrArg (fun z => V.val (.bool z)) ?_)
    exact (decide_eq_false (fun hh => h6 (by rw [hh]))).symm
  · skip
    refine a_skip ?_
    refine hK3 _ _ (Ghost.refl _) ?_
    refine a_seq fun K9 hK9 => ?_
    refine a_seq fun K10 hK10 => ?_
    refine a_region rfl fun K11 hK11 => ?_
    refine x_move ?_
    refine x_len ?_
    refine x_move ?_
    refine r_nil hK11 ?_
    refine hK10 _ _ (Ghost.refl _) ?_
    refine a_block fun K12 hK12 => ?_
    refine a_loopM (X := Int) (fun i => ([(14, .v (.val (.int .i64 i)))] : List (Nat × S))) (fun i => ([] : List (Nat × V))) (fun i => (0 ≤ i ∧ i ≤ a.length) ∧ (∀ j : Nat, j < i.toNat → a[j]! = b[j]!)) (fun i => (a.length - i).toNat) [(1, .v _), (12, .v _), (13, .v _)] [(0, _), (1, _)] _ (Ghost.refl _) ⟨rfl, rfl, rfl, rfl, trivial⟩ ⟨rfl, rfl, trivial⟩ (fun i => rfl) ?_ ?_
    ·
      try dsimp only
      refine ⟨?_, ?_⟩
      ·
        first | omega | rfl | assumption | (simp; done) | (simp_all; done)
      ·
        intro j hj; simp at hj
    ·
      rintro i hI13 K13 hK13
      dsimp only [List.cons_append, List.nil_append] at hI13 ⊢
      obtain ⟨hi, he⟩ := hI13
      refine a_seq fun K14 hK14 => ?_
      refine a_region rfl fun K15 hK15 => ?_
      refine x_bin ?_
      refine r_nil hK15 ?_
      refine hK14 _ _ (Ghost.refl _) ?_
      refine a_seq fun K16 hK16 => ?_
      refine a_condP rfl (by first | exact .beq | exact .bne | exact .dec | exact .not .beq | exact .not .bne | exact .not .dec | exact .not .id | exact .id) (fun h17 => ?_) (fun h17 => ?_)
      · skip
        refine a_skip ?_
        refine hK16 _ _ (Ghost.refl _) ?_
        refine a_seq fun K18 hK18 => ?_
        refine a_block fun K19 hK19 => ?_
        refine a_seq fun K20 hK20 => ?_
        refine a_region rfl fun K21 hK21 => ?_
        refine x_move ?_
        refine x_indexAddr ?_ ?_
        ·
          exact ⟨by omega, by omega⟩
        first | refine x_ldE ?_ ?_ | refine x_ldN ?_ ?_ | refine x_ldO ?_ ?_ | refine x_ldON ?_ ?_ (hf := fun x => (rfl : cN x = List.map V.val [_, _, _, _]))
        ·
          omega
        refine x_assign ?_
        refine x_assign ?_
        refine r_nil hK21 ?_
        refine hK20 _ _ (Ghost.refl _) ?_
        refine a_seq fun K22 hK22 => ?_
        refine a_region rfl fun K23 hK23 => ?_
        refine x_move ?_
        refine x_move ?_
        refine x_move ?_
        refine x_indexAddr ?_ ?_
        ·
          exact ⟨by omega, by omega⟩
        first | refine x_ldE ?_ ?_ | refine x_ldN ?_ ?_ | refine x_ldO ?_ ?_ | refine x_ldON ?_ ?_ (hf := fun x => (rfl : cN x = List.map V.val [_, _, _, _]))
        ·
          omega
        refine x_bin ?_
        refine r_nil hK23 ?_
        refine hK22 _ _ (ghost_has (ks := [(1, .v _), (12, .v _), (13, .v _), (14, .v _), (24, .v _)]) (km := [(0, _), (1, _)]) ⟨rfl, rfl, rfl, rfl, rfl, trivial⟩ ⟨rfl, rfl, trivial⟩ rfl) ?_
        refine a_condP rfl (by first | exact .beq | exact .bne | exact .dec | exact .not .beq | exact .not .bne | exact .not .dec | exact .not .id | exact .id) (fun h24 => ?_) (fun h24 => ?_)
        · skip
          refine a_seq fun K25 hK25 => ?_
          refine a_region rfl fun K26 hK26 => ?_
          refine x_assign ?_
          refine r_nil hK26 ?_
          refine hK25 _ _ (Ghost.refl _) ?_
          refine a_ret ?_
          refine hK19 .ret _ (in_ret ?_)
          refine then_ret ?_
          refine then_ret ?_
          refine hK12 .ret _ (in_ret ?_)
          refine then_ret ?_
          refine leave_val (.inr rfl) rfl rfl rfl (congrArg (fun z => V.val (.bool z)) ?_)
          exact (decide_eq_false (fun hh => h24 (by rw [hh]))).symm
        · skip
          refine a_skip ?_
          refine hK19 .normal _ ?_
          refine hK18 _ _ (Ghost.refl _) ?_
          refine a_region rfl fun K27 hK27 => ?_
          refine x_add ?_ ?_
          ·
            exact ⟨by omega, by omega⟩
          refine x_move ?_
          refine r_nil hK27 ?_
          refine hK13 _ _ _ _ (Ghost.refl _) ⟨rfl, rfl, rfl, rfl, trivial⟩ ⟨rfl, rfl, trivial⟩ ?_ ?_
          ·
            first | omega | (dsimp only; omega)
          ·
            try dsimp only
            refine ⟨?_, ?_⟩
            ·
              first | omega | rfl | assumption | (simp; done) | (simp_all; done)
            ·
              intro j hj
              by_cases e : j = i.toNat
              · subst e; exact Decidable.not_not.1 h24
              · exact he j (by omega)
      · skip
        refine a_exit ?_
        refine then_exit ?_
        refine then_exit ?_
        refine hK12 (.exit 0) _ (in_exit ?_)
        refine hK9 _ _ (Ghost.refl _) ?_
        refine a_seq fun K28 hK28 => ?_
        refine a_region rfl fun K29 hK29 => ?_
        refine x_assign ?_
        refine r_nil hK29 ?_
        refine hK28 _ _ (Ghost.refl _) ?_
        refine a_ret ?_
        refine leave_val (.inr rfl) rfl rfl rfl (congrArg (fun z => V.val (.bool z)) ?_)
        exact (decide_eq_true (upto_all (by omega) (fun j hj => he j (by omega)))).symm
end Go.T
namespace Go.T
open Go Go.E Go.Proofs
set_option maxHeartbeats 8000000 in
theorem s_spec_SameModel {m : Md} {n : Md} (hf : m.facts.length ≤ 1073741824) (hl : m.blocks.length ≤ 1073741824) (hb : ∀ b ∈ m.blocks, b.length ≤ 1073741824) : Go.E.Spec Try.prog 20 [.agg (cM false m), .agg (cM false n)] (fun r _ => r = .val (.bool (decide (m.facts = n.facts ∧ m.actual = n.actual ∧ m.blocks = n.blocks)))) := by
  refine spec_of_awp (E := Ev) evOk Try.func20 (c := _) rfl (by decide) (by simp [Try.ntmps20]) ?_
  rw [Try.ntmps20, entry_mk]
  change awp Ev 2 46 _ _ (mkSt [(0, .agg [.v (eL false 1 cI m.facts), .v (eL false 1 (cL false 1 cI) m.blocks), .v (.val (.int .i64 m.actual))]), (1, .agg [.v (eL false 1 cI n.facts), .v (eL false 1 (cL false 1 cI) n.blocks), .v (.val (.int .i64 n.actual))])] [(0, .agg (cM false m)), (1, .agg (cM false n))])
  refine a_seq fun K1 hK1 => ?_
  refine a_region rfl fun K2 hK2 => ?_
  first | refine x_boxVal ?_ | refine x_boxAgg' ?_ | refine x_boxT ?_
  first | refine x_boxVal ?_ | refine x_boxAgg' ?_ | refine x_boxT ?_
  refine x_assign ?_
  refine r_nil hK2 ?_
  refine hK1 _ _ (Ghost.refl _) ?_
  refine a_seq fun K3 hK3 => ?_
  refine a_seq fun K4 hK4 => ?_
  refine a_region rfl fun K5 hK5 => ?_
  refine x_fieldAddr ?_
  refine x_load ?_
  refine x_fieldAddr ?_
  refine x_load ?_
  refine x_call (s_spec_l03Same ?_) ?_ (hl := by first | rfl | (repeat (first | exact lendL_nil | refine lendL_cons (by first | rfl | exact lend_ref rfl (ro_eL (by intro _; first | rfl | exact roL_cL (by intro _; rfl))) | exact lend_refp rfl (ro_eL (by intro _; first | rfl | exact roL_cL (by intro _; rfl))) | exact lend_agg (by repeat (first | exact lendL_nil | refine lendL_cons (by first | rfl | exact lend_ref rfl (ro_eL (by intro _; first | rfl | exact roL_cL (by intro _; rfl))) | exact lend_refp rfl (ro_eL (by intro _; first | rfl | exact roL_cL (by intro _; rfl)))) ?_))) ?_)))
  ·
    first | omega | exact Nat.le_trans (hb _ (mem_get! (i := i.toNat) (by omega))) (by omega)
  rintro _ _ rfl
  refine x_un ?_
  refine x_move ?_
  refine x_split 13 rfl (by first | exact .beq | exact .bne | exact .dec | exact .not .beq | exact .not .bne | exact .not .dec | exact .not .id | exact .id) (fun h6 => ?_) (fun h6 => ?_)
  · skip
    refine x_shut ?_
    refine x_shut ?_
    refine x_shut ?_
    refine x_shut ?_
    refine x_shut ?_
    refine x_shut ?_
    refine x_shut ?_
    refine x_pickT ?_
    refine x_move ?_
    refine x_shut ?_
    refine x_shut ?_
    refine x_shut ?_
    refine x_shut ?_
    refine x_shut ?_
    refine x_pickT ?_
    refine r_nil hK5 ?_
    refine hK4 _ _ (ghost_has (ks := [(2, .ref 2 []), (3, .ref 3 []), (28, .v _)]) (km := [(0, _), (1, _), (2, _), (3, _)]) ⟨rfl, rfl, rfl, trivial⟩ ⟨rfl, rfl, rfl, rfl, trivial⟩ rfl) ?_
    refine a_condT rfl ?_
    refine a_seq fun K7 hK7 => ?_
    refine a_region rfl fun K8 hK8 => ?_
    refine x_assign ?_
    refine r_nil hK8 ?_
    refine hK7 _ _ (Ghost.refl _) ?_
    refine a_ret ?_
    refine then_ret ?_
    refine leave_val (.inr rfl) rfl rfl rfl (congrArg (fun z => V.val (.bool z)) ?_)
    first
      | (symm; rw [decide_eq_false_iff_not]; intro hh; first | exact h6 hh.1 | exact h6 (by rw [hh.2.2]) | exact h6 hh.2.1)
      | (symm; rw [decide_eq_true_iff]; exact ⟨by simp_all, by simp_all, upto_all (by omega) (fun j hj => he j (by omega))⟩)
  · skip
    refine x_fieldAddr ?_
    refine x_load ?_
    refine x_len ?_
    refine x_fieldAddr ?_
    refine x_load ?_
    refine x_len ?_
    refine x_bin ?_
    refine x_pickF ?_
    refine x_move ?_
    refine x_split 22 rfl (by first | exact .beq | exact .bne | exact .dec | exact .not .beq | exact .not .bne | exact .not .dec | exact .not .id | exact .id) (fun h9 => ?_) (fun h9 => ?_)
    · skip
      refine x_shut ?_
      refine x_shut ?_
      refine x_shut ?_
      refine x_shut ?_
      refine x_shut ?_
      refine x_pickT ?_
      refine r_nil hK5 ?_
      refine hK4 _ _ (ghost_has (ks := [(2, .ref 2 []), (3, .ref 3 []), (28, .v _)]) (km := [(0, _), (1, _), (2, _), (3, _)]) ⟨rfl, rfl, rfl, trivial⟩ ⟨rfl, rfl, rfl, rfl, trivial⟩ rfl) ?_
      refine a_condT rfl ?_
      refine a_seq fun K10 hK10 => ?_
      refine a_region rfl fun K11 hK11 => ?_
      refine x_assign ?_
      refine r_nil hK11 ?_
      refine hK10 _ _ (Ghost.refl _) ?_
      refine a_ret ?_
      refine then_ret ?_
      refine leave_val (.inr rfl) rfl rfl rfl (congrArg (fun z => V.val (.bool z)) ?_)
      first
        | (symm; rw [decide_eq_false_iff_not]; intro hh; first | exact h9 hh.1 | exact h9 (by rw [hh.2.2]) | exact h9 hh.2.1)
        | (symm; rw [decide_eq_true_iff]; exact ⟨by simp_all, by simp_all, upto_all (by omega) (fun j hj => he j (by omega))⟩)
    · skip
      refine x_fieldAddr ?_
      refine x_load ?_
      refine x_fieldAddr ?_
      refine x_load ?_
      refine x_bin ?_
      refine x_pickF ?_
      refine r_nil hK5 ?_
      refine hK4 _ _ (ghost_has (ks := [(2, .ref 2 []), (3, .ref 3 []), (28, .v _)]) (km := [(0, _), (1, _), (2, _), (3, _)]) ⟨rfl, rfl, rfl, trivial⟩ ⟨rfl, rfl, rfl, rfl, trivial⟩ rfl) ?_
      refine a_condP rfl (by first | exact .beq | exact .bne | exact .dec | exact .not .beq | exact .not .bne | exact .not .dec | exact .not .id | exact .id) (fun h12 => ?_) (fun h12 => ?_)
      · skip
        refine a_seq fun K13 hK13 => ?_
        refine a_region rfl fun K14 hK14 => ?_
        refine x_assign ?_
        refine r_nil hK14 ?_
        refine hK13 _ _ (Ghost.refl _) ?_
        refine a_ret ?_
        refine then_ret ?_
        refine leave_val (.inr rfl) rfl rfl rfl (congrArg (fun z => V.val (.bool z)) ?_)
        first
          | (symm; rw [decide_eq_false_iff_not]; intro hh; first | exact h12 hh.1 | exact h12 (by rw [hh.2.2]) | exact h12 hh.2.1)
          | (symm; rw [decide_eq_true_iff]; exact ⟨by simp_all, by simp_all, upto_all (by omega) (fun j hj => he j (by omega))⟩)
      · skip
        refine a_skip ?_
        refine hK3 _ _ (Ghost.refl _) ?_
        refine a_seq fun K15 hK15 => ?_
        refine a_seq fun K16 hK16 => ?_
        refine a_region rfl fun K17 hK17 => ?_
        refine x_fieldAddr ?_
        refine x_load ?_
        refine x_len ?_
        refine x_move ?_
        refine r_nil hK17 ?_
        refine hK16 _ _ (Ghost.refl _) ?_
        refine a_block fun K18 hK18 => ?_
        refine a_loopM (X := Int) (fun i => ([(32, .v (.val (.int .i64 i)))] : List (Nat × S))) (fun i => ([] : List (Nat × V))) (fun i => (0 ≤ i ∧ i ≤ m.blocks.length) ∧ (∀ j : Nat, j < i.toNat → m.blocks[j]! = n.blocks[j]!)) (fun i => (m.blocks.length - i).toNat) [(3, .ref 3 []), (30, _), (31, .v _)] [(0, _), (1, _), (2, _), (3, _)] _ (Ghost.refl _) ⟨rfl, rfl, rfl, rfl, trivial⟩ ⟨rfl, rfl, rfl, rfl, trivial⟩ (fun i => rfl) ?_ ?_
        ·
          try dsimp only
          refine ⟨?_, ?_⟩
          ·
            first | omega | rfl | assumption | (simp; done) | (simp_all; done)
          ·
            intro j hj; simp at hj
        ·
          rintro i hI19 K19 hK19
          dsimp only [List.cons_append, List.nil_append] at hI19 ⊢
          obtain ⟨hi, he⟩ := hI19
          refine a_seq fun K20 hK20 => ?_
          refine a_region rfl fun K21 hK21 => ?_
          refine x_bin ?_
          refine r_nil hK21 ?_
          refine hK20 _ _ (Ghost.refl _) ?_
          refine a_seq fun K22 hK22 => ?_
          refine a_condP rfl (by first | exact .beq | exact .bne | exact .dec | exact .not .beq | exact .not .bne | exact .not .dec | exact .not .id | exact .id) (fun h23 => ?_) (fun h23 => ?_)
          · skip
            refine a_skip ?_
            refine hK22 _ _ (Ghost.refl _) ?_
            refine a_seq fun K24 hK24 => ?_
            refine a_block fun K25 hK25 => ?_
            refine a_seq fun K26 hK26 => ?_
            refine a_region rfl fun K27 hK27 => ?_
            refine x_move ?_
            refine x_indexAddr ?_ ?_
            ·
              exact ⟨by omega, by omega⟩
            first | refine x_ldE ?_ ?_ | refine x_ldN ?_ ?_ | refine x_ldO ?_ ?_ | refine x_ldON ?_ ?_ (hf := fun x => (rfl : cN x = List.map V.val [_, _, _, _]))
            ·
              omega
            refine x_assign ?_
            refine x_assign ?_
            refine r_nil hK27 ?_
            refine hK26 _ _ (Ghost.refl _) ?_
            refine a_seq fun K28 hK28 => ?_
            refine a_region rfl fun K29 hK29 => ?_
            refine x_move ?_
            refine x_fieldAddr ?_
            refine x_load ?_
            refine x_move ?_
            refine x_indexAddr ?_ ?_
            ·
              exact ⟨by omega, by omega⟩
            first | refine x_ldE ?_ ?_ | refine x_ldN ?_ ?_ | refine x_ldO ?_ ?_ | refine x_ldON ?_ ?_ (hf := fun x => (rfl : cN x = List.map V.val [_, _, _, _]))
            ·
              omega
            refine x_call (s_spec_l03Same ?_) ?_ (hl := by first | rfl | (repeat (first | exact lendL_nil | refine lendL_cons (by first | rfl | exact lend_ref rfl (ro_eL (by intro _; first | rfl | exact roL_cL (by intro _; rfl))) | exact lend_refp rfl (ro_eL (by intro _; first | rfl | exact roL_cL (by intro _; rfl))) | exact lend_agg (by repeat (first | exact lendL_nil | refine lendL_cons (by first | rfl | exact lend_ref rfl (ro_eL (by intro _; first | rfl | exact roL_cL (by intro _; rfl))) | exact lend_refp rfl (ro_eL (by intro _; first | rfl | exact roL_cL (by intro _; rfl)))) ?_))) ?_)))
            ·
              first | omega | exact Nat.le_trans (hb _ (mem_get! (i := i.toNat) (by omega))) (by omega)
            rintro _ _ rfl
            refine x_un ?_
            refine r_nil hK29 ?_
            refine hK28 _ _ (ghost_has (ks := [(3, .ref 3 []), (30, _), (31, .v _), (32, .v _), (44, .v _)]) (km := [(0, _), (1, _), (2, _), (3, _)]) ⟨rfl, rfl, rfl, rfl, rfl, trivial⟩ ⟨rfl, rfl, rfl, rfl, trivial⟩ rfl) ?_
            refine a_condP rfl (by first | exact .beq | exact .bne | exact .dec | exact .not .beq | exact .not .bne | exact .not .dec | exact .not .id | exact .id) (fun h30 => ?_) (fun h30 => ?_)
            · skip
              refine a_seq fun K31 hK31 => ?_
              refine a_region rfl fun K32 hK32 => ?_
              refine x_assign ?_
              refine r_nil hK32 ?_
              refine hK31 _ _ (Ghost.refl _) ?_
              refine a_ret ?_
              refine hK25 .ret _ (in_ret ?_)
              refine then_ret ?_
              refine then_ret ?_
              refine hK18 .ret _ (in_ret ?_)
              refine then_ret ?_
              refine leave_val (.inr rfl) rfl rfl rfl (congrArg (fun z => V.val (.bool z)) ?_)
              first
                | (symm; rw [decide_eq_false_iff_not]; intro hh; first | exact h30 hh.1 | exact h30 (by rw [hh.2.2]) | exact h30 hh.2.1)
                | (symm; rw [decide_eq_true_iff]; exact ⟨by simp_all, by simp_all, upto_all (by omega) (fun j hj => he j (by omega))⟩)
            · skip
              refine a_skip ?_
              refine hK25 .normal _ ?_
              refine hK24 _ _ (Ghost.refl _) ?_
              refine a_region rfl fun K33 hK33 => ?_
              refine x_add ?_ ?_
              ·
                exact ⟨by omega, by omega⟩
              refine x_move ?_
              refine r_nil hK33 ?_
              refine hK19 _ _ _ _ (Ghost.refl _) ⟨rfl, rfl, rfl, rfl, trivial⟩ ⟨rfl, rfl, rfl, rfl, trivial⟩ ?_ ?_
              ·
                first | omega | (dsimp only; omega)
              ·
                try dsimp only
                refine ⟨?_, ?_⟩
                ·
                  first | omega | rfl | assumption | (simp; done) | (simp_all; done)
                ·
                  intro j hj
                  by_cases e : j = i.toNat
                  · subst e; exact Decidable.not_not.1 h30
                  · exact he j (by omega)
          · skip
            refine a_exit ?_
            refine then_exit ?_
            refine then_exit ?_
            refine hK18 (.exit 0) _ (in_exit ?_)
            refine hK15 _ _ (Ghost.refl _) ?_
            refine a_seq fun K34 hK34 => ?_
            refine a_region rfl fun K35 hK35 => ?_
            refine x_assign ?_
            refine r_nil hK35 ?_
            refine hK34 _ _ (Ghost.refl _) ?_
            refine a_ret ?_
            refine leave_val (.inr rfl) rfl rfl rfl (congrArg (fun z => V.val (.bool z)) ?_)
            first
              | (symm; rw [decide_eq_false_iff_not]; intro hh; first | exact h23 hh.1 | exact h23 (by rw [hh.2.2]) | exact h23 hh.2.1)
              | (symm; rw [decide_eq_true_iff]; exact ⟨by simp_all, by simp_all, upto_all (by omega) (fun j hj => he j (by omega))⟩)
end Go.T
namespace Go.T
open Go Go.E Go.Proofs
set_option maxHeartbeats 8000000 in
theorem s_slices_Equal_Lint_int {a : List Int} {b : List Int} (hl : a.length ≤ 9223372036854775807) : Go.E.Spec Try.prog 46 [eL false 1 cI a, eL false 1 cI b] (fun r _ => r = .val (.bool (decide (a = b)))) := by
  refine spec_of_awp (E := Ev) evOk Try.func46 (c := _) rfl (by decide) (by simp [Try.ntmps46]) ?_
  rw [Try.ntmps46, entry_mk]
  change awp Ev 2 26 _ _ (mkSt [(0, .v (eL false 1 cI a)), (1, .v (eL false 1 cI b))] [(0, eL false 1 cI a), (1, eL false 1 cI b)])
  refine a_seq fun K1 hK1 => ?_
  refine a_region rfl fun K2 hK2 => ?_
  refine x_assign ?_
  refine r_nil hK2 ?_
  refine hK1 _ _ (Ghost.refl _) ?_
  refine a_seq fun K3 hK3 => ?_
  refine a_seq fun K4 hK4 => ?_
  refine a_region rfl fun K5 hK5 => ?_
  refine x_move ?_
  refine x_len ?_
  refine x_move ?_
  refine x_len ?_
  refine x_bin ?_
  refine r_nil hK5 ?_
  refine hK4 _ _ (Ghost.refl _) ?_
  refine a_condP rfl (by first | exact .beq | exact .bne | exact .dec | exact .not .beq | exact .not .bne | exact .not .dec | exact .not .id | exact .id) (fun h6 => ?_) (fun h6 => ?_)
  · skip
    refine a_seq fun K7 hK7 => ?_
    refine a_region rfl fun K8 hK8 => ?_
    refine x_assign ?_
    refine r_nil hK8 ?_
    refine hK7 _ _ (Ghost.refl _) ?_
    refine a_ret ?_
    refine then_ret ?_
    refine leave_val (.inr rfl) rfl rfl rfl (congrArg (fun z => V.val (.bool z)) ?_)
    exact (decide_eq_false (fun hh => h6 (by rw [hh]))).symm
  · skip
    refine a_skip ?_
    refine hK3 _ _ (Ghost.refl _) ?_
    refine a_seq fun K9 hK9 => ?_
    refine a_seq fun K10 hK10 => ?_
    refine a_region rfl fun K11 hK11 => ?_
    refine x_move ?_
    refine x_len ?_
    refine x_move ?_
    refine r_nil hK11 ?_
    refine hK10 _ _ (Ghost.refl _) ?_
    refine a_block fun K12 hK12 => ?_
    refine a_loopM (X := Int) (fun i => ([(13, .v (.val (.int .i64 i)))] : List (Nat × S))) (fun i => ([] : List (Nat × V))) (fun i => (0 ≤ i ∧ i ≤ a.length) ∧ (∀ j : Nat, j < i.toNat → a[j]! = b[j]!)) (fun i => (a.length - i).toNat) [(0, .v _), (1, .v _), (12, .v _)] [(0, _), (1, _)] _ (Ghost.refl _) ⟨rfl, rfl, rfl, rfl, trivial⟩ ⟨rfl, rfl, trivial⟩ (fun i => rfl) ?_ ?_
    ·
      try dsimp only
      refine ⟨?_, ?_⟩
      ·
        first | omega | rfl | assumption | (simp; done) | (simp_all; done)
      ·
        intro j hj; simp at hj
    ·
      rintro i hI13 K13 hK13
      dsimp only [List.cons_append, List.nil_append] at hI13 ⊢
      obtain ⟨hi, he⟩ := hI13
      refine a_seq fun K14 hK14 => ?_
      refine a_region rfl fun K15 hK15 => ?_
      refine x_bin ?_
      refine r_nil hK15 ?_
      refine hK14 _ _ (Ghost.refl _) ?_
      refine a_seq fun K16 hK16 => ?_
      refine a_condP rfl (by first | exact .beq | exact .bne | exact .dec | exact .not .beq | exact .not .bne | exact .not .dec | exact .not .id | exact .id) (fun h17 => ?_) (fun h17 => ?_)
      · skip
        refine a_skip ?_
        refine hK16 _ _ (Ghost.refl _) ?_
        refine a_seq fun K18 hK18 => ?_
        refine a_block fun K19 hK19 => ?_
        refine a_seq fun K20 hK20 => ?_
        refine a_region rfl fun K21 hK21 => ?_
        refine x_move ?_
        refine x_assign ?_
        refine r_nil hK21 ?_
        refine hK20 _ _ (Ghost.refl _) ?_
        refine a_seq fun K22 hK22 => ?_
        refine a_drawnG (ms := [255, 112, 48, 0, 0, 7, 3, 0, 0]) (by decide +kernel) (by decide +kernel) rfl (by decide +kernel) fun K23 hK23 => ?_
        refine x_move ?_
        refine x_move ?_
        refine x_indexAddr ?_ ?_
        ·
          exact ⟨by omega, by omega⟩
        first | refine x_ldE ?_ ?_ | refine x_ldN ?_ ?_ | refine x_ldO ?_ ?_ | refine x_ldON ?_ ?_ (hf := fun x => (rfl : cN x = List.map V.val [_, _, _, _]))
        ·
          omega
        refine x_move ?_
        refine x_move ?_
        refine x_indexAddr ?_ ?_
        ·
          exact ⟨by omega, by omega⟩
        first | refine x_ldE ?_ ?_ | refine x_ldN ?_ ?_ | refine x_ldO ?_ ?_ | refine x_ldON ?_ ?_ (hf := fun x => (rfl : cN x = List.map V.val [_, _, _, _]))
        ·
          omega
        refine x_bin ?_
        refine r_nil hK23 ?_
        refine hK22 _ _ (ghost_has (ks := [(0, .v _), (1, .v _), (12, .v _), (13, .v _), (24, .v _)]) (km := [(0, _), (1, _)]) ⟨rfl, rfl, rfl, rfl, rfl, trivial⟩ ⟨rfl, rfl, trivial⟩ rfl) ?_
        refine a_condP rfl (by first | exact .beq | exact .bne | exact .dec | exact .not .beq | exact .not .bne | exact .not .dec | exact .not .id | exact .id) (fun h24 => ?_) (fun h24 => ?_)
        · skip
          refine a_seq fun K25 hK25 => ?_
          refine a_region rfl fun K26 hK26 => ?_
          refine x_assign ?_
          refine r_nil hK26 ?_
          refine hK25 _ _ (Ghost.refl _) ?_
          refine a_ret ?_
          refine hK19 .ret _ (in_ret ?_)
          refine then_ret ?_
          refine then_ret ?_
          refine hK12 .ret _ (in_ret ?_)
          refine then_ret ?_
          refine leave_val (.inr rfl) rfl rfl rfl (congrArg (fun z => V.val (.bool z)) ?_)
          exact (decide_eq_false (fun hh => h24 (by rw [hh]))).symm
        · skip
          refine a_skip ?_
          refine hK19 .normal _ ?_
          refine hK18 _ _ (Ghost.refl _) ?_
          refine a_region rfl fun K27 hK27 => ?_
          refine x_add ?_ ?_
          ·
            exact ⟨by omega, by omega⟩
          refine x_move ?_
          refine r_nil hK27 ?_
          refine hK13 _ _ _ _ (Ghost.refl _) ⟨rfl, rfl, rfl, rfl, trivial⟩ ⟨rfl, rfl, trivial⟩ ?_ ?_
          ·
            first | omega | (dsimp only; omega)
          ·
            try dsimp only
            refine ⟨?_, ?_⟩
            ·
              first | omega | rfl | assumption | (simp; done) | (simp_all; done)
            ·
              intro j hj
              by_cases e : j = i.toNat
              · subst e; exact Decidable.not_not.1 h24
              · exact he j (by omega)
      · skip
        refine a_exit ?_
        refine then_exit ?_
        refine then_exit ?_
        refine hK12 (.exit 0) _ (in_exit ?_)
        refine hK9 _ _ (Ghost.refl _) ?_
        refine a_seq fun K28 hK28 => ?_
        refine a_region rfl fun K29 hK29 => ?_
        refine x_assign ?_
        refine r_nil hK29 ?_
        refine hK28 _ _ (Ghost.refl _) ?_
        refine a_ret ?_
        refine leave_val (.inr rfl) rfl rfl rfl (congrArg (fun z => V.val (.bool z)) ?_)
        exact (decide_eq_true (upto_all (by omega) (fun j hj => he j (by omega)))).symm
end Go.T
namespace Go.T
open Go Go.E Go.Proofs
set_option maxHeartbeats 8000000 in
theorem s_slices_EqualFunc_LLint_LLint_Lint_Lint {a : List ((List Int))} {b : List ((List Int))} {F : Nat} {caps : List V} (hro : caps.all V.roB = true) (hF : ∀ x ∈ a, ∀ y : List Int, Go.E.Spec Try.prog F (eL false 1 cI x :: eL false 1 cI y :: caps) (fun r _ => r = .val (.bool (decide (x = y))))) (hl : a.length ≤ 9223372036854775807) : Go.E.Spec Try.prog 47 [eL false 1 (cL false 1 cI) a, eL false 1 (cL false 1 cI) b, .fn F caps] (fun r _ => r = .val (.bool (decide (a = b)))) := by
  refine spec_of_awp (E := Ev) evOk Try.func47 (c := _) rfl (by decide) (by simp [Try.ntmps47]) ?_
  rw [Try.ntmps47, entry_mk]
  change awp Ev 3 32 _ _ (mkSt [(0, .v (eL false 1 (cL false 1 cI) a)), (1, .v (eL false 1 (cL false 1 cI) b)), (2, viewR 2 (.fn F caps))] [(0, eL false 1 (cL false 1 cI) a), (1, eL false 1 (cL false 1 cI) b), (2, .fn F caps)])
  rw [viewR_fn (d := 2) (F := F) hro]
  refine a_seq fun K1 hK1 => ?_
  refine a_region rfl fun K2 hK2 => ?_
  refine x_assign ?_
  refine r_nil hK2 ?_
  refine hK1 _ _ (Ghost.refl _) ?_
  refine a_seq fun K3 hK3 => ?_
  refine a_seq fun K4 hK4 => ?_
  refine a_region rfl fun K5 hK5 => ?_
  refine x_move ?_
  refine x_len ?_
  refine x_move ?_
  refine x_len ?_
  refine x_bin ?_
  refine r_nil hK5 ?_
  refine hK4 _ _ (Ghost.refl _) ?_
  refine a_condP rfl (by first | exact .beq | exact .bne | exact .dec | exact .not .beq | exact .not .bne | exact .not .dec | exact .not .id | exact .id) (fun h6 => ?_) (fun h6 => ?_)
  · skip
    refine a_seq fun K7 hK7 => ?_
    refine a_region rfl fun K8 hK8 => ?_
    refine x_assign ?_
    refine r_nil hK8 ?_
    refine hK7 _ _ (Ghost.refl _) ?_
    refine a_ret ?_
    refine then_ret ?_
    refine leave_val (.inr rfl) rfl rfl (freeL_skip rfl (freeL_skip rfl (freeL_fn hro rfl))) (congrArg (fun z => V.val (.bool z)) ?_)
    exact (decide_eq_false (fun hh => h6 (by rw [hh]))).symm
  · skip
    refine a_skip ?_
    refine hK3 _ _ (Ghost.refl _) ?_
    refine a_seq fun K9 hK9 => ?_
    refine a_seq fun K10 hK10 => ?_
    refine a_region rfl fun K11 hK11 => ?_
    refine x_move ?_
    refine x_len ?_
    refine x_move ?_
    refine r_nil hK11 ?_
    refine hK10 _ _ (Ghost.refl _) ?_
    refine a_block fun K12 hK12 => ?_
    refine a_loopM (X := Int) (fun i => ([(17, .v (.val (.int .i64 i)))] : List (Nat × S))) (fun i => ([] : List (Nat × V))) (fun i => (0 ≤ i ∧ i ≤ a.length) ∧ (∀ j : Nat, j < i.toNat → a[j]! = b[j]!)) (fun i => (a.length - i).toNat) [(1, .v _), (2, .fn _ (List.map S.v _)), (15, .v _), (16, .v _)] [(0, _), (1, _), (2, _)] _ (Ghost.refl _) ⟨rfl, rfl, (by first | rfl | exact congrArg (fun z => some (2, z)) (kill_fn _)), rfl, rfl, trivial⟩ ⟨rfl, rfl, rfl, trivial⟩ (by intro i; simp [rooted, S.rootsIn, rootsInL_vs]) ?_ ?_
    ·
      try dsimp only
      refine ⟨?_, ?_⟩
      ·
        first | omega | rfl | assumption | (simp; done) | (simp_all; done)
      ·
        intro j hj; simp at hj
    ·
      rintro i hI13 K13 hK13
      dsimp only [List.cons_append, List.nil_append] at hI13 ⊢
      obtain ⟨hi, he⟩ := hI13
      refine a_seq fun K14 hK14 => ?_
      refine a_region rfl fun K15 hK15 => ?_
      refine x_bin ?_
      refine r_nil hK15 ?_
      refine hK14 _ _ (Ghost.refl _) ?_
      refine a_seq fun K16 hK16 => ?_
      refine a_condP rfl (by first | exact .beq | exact .bne | exact .dec | exact .not .beq | exact .not .bne | exact .not .dec | exact .not .id | exact .id) (fun h17 => ?_) (fun h17 => ?_)
      · skip
        refine a_skip ?_
        refine hK16 _ _ (Ghost.refl _) ?_
        refine a_seq fun K18 hK18 => ?_
        refine a_block fun K19 hK19 => ?_
        refine a_seq fun K20 hK20 => ?_
        refine a_region rfl fun K21 hK21 => ?_
        refine x_move ?_
        refine x_indexAddr ?_ ?_
        ·
          exact ⟨by omega, by omega⟩
        first | refine x_ldE ?_ ?_ | refine x_ldN ?_ ?_ | refine x_ldO ?_ ?_ | refine x_ldON ?_ ?_ (hf := fun x => (rfl : cN x = List.map V.val [_, _, _, _]))
        ·
          omega
        refine x_assign ?_
        refine x_assign ?_
        refine r_nil hK21 ?_
        refine hK20 _ _ (Ghost.refl _) ?_
        refine a_seq fun K22 hK22 => ?_
        refine a_region rfl fun K23 hK23 => ?_
        refine x_move ?_
        refine x_move ?_
        refine x_indexAddr ?_ ?_
        ·
          exact ⟨by omega, by omega⟩
        first | refine x_ldE ?_ ?_ | refine x_ldN ?_ ?_ | refine x_ldO ?_ ?_ | refine x_ldON ?_ ?_ (hf := fun x => (rfl : cN x = List.map V.val [_, _, _, _]))
        ·
          omega
        refine x_assign ?_
        refine r_nil hK23 ?_
        refine hK22 _ _ (Ghost.refl _) ?_
        refine a_seq fun K24 hK24 => ?_
        refine a_region rfl fun K25 hK25 => ?_
        refine x_move ?_
        refine x_move ?_
        refine x_move ?_
        refine x_callF (hF _ (mem_get! (i := i.toNat) (by omega)) _) ?_ (hl := lendL_cons rfl (lendL_cons rfl (lendL_vs _)))
        rintro _ _ rfl
        refine x_un ?_
        refine r_nil hK25 ?_
        refine hK24 _ _ (ghost_has (ks := [(1, .v _), (2, .fn _ (List.map S.v _)), (15, .v _), (16, .v _), (17, .v _), (30, .v _)]) (km := [(0, _), (1, _), (2, _)]) ⟨rfl, (by first | rfl | exact congrArg (fun z => some (2, z)) (kill_fn _)), rfl, rfl, rfl, rfl, trivial⟩ ⟨rfl, rfl, rfl, trivial⟩ (by simp [rooted, S.rootsIn, rootsInL_vs])) ?_
        refine a_condP rfl (by first | exact .beq | exact .bne | exact .dec | exact .not .beq | exact .not .bne | exact .not .dec | exact .not .id | exact .id) (fun h26 => ?_) (fun h26 => ?_)
        · skip
          refine a_seq fun K27 hK27 => ?_
          refine a_region rfl fun K28 hK28 => ?_
          refine x_assign ?_
          refine r_nil hK28 ?_
          refine hK27 _ _ (Ghost.refl _) ?_
          refine a_ret ?_
          refine hK19 .ret _ (in_ret ?_)
          refine then_ret ?_
          refine then_ret ?_
          refine hK12 .ret _ (in_ret ?_)
          refine then_ret ?_
          refine leave_val (.inr rfl) rfl rfl (freeL_skip rfl (freeL_skip rfl (freeL_fn hro rfl))) (congrArg (fun z => V.val (.bool z)) ?_)
          exact (decide_eq_false (fun hh => h26 (by rw [hh]))).symm
        · skip
          refine a_skip ?_
          refine hK19 .normal _ ?_
          refine hK18 _ _ (Ghost.refl _) ?_
          refine a_region rfl fun K29 hK29 => ?_
          refine x_add ?_ ?_
          ·
            exact ⟨by omega, by omega⟩
          refine x_move ?_
          refine r_nil hK29 ?_
          refine hK13 _ _ _ _ (Ghost.refl _) ⟨rfl, rfl, (by first | rfl | exact congrArg (fun z => some (2, z)) (kill_fn _)), rfl, rfl, trivial⟩ ⟨rfl, rfl, rfl, trivial⟩ ?_ ?_
          ·
            first | omega | (dsimp only; omega)
          ·
            try dsimp only
            refine ⟨?_, ?_⟩
            ·
              first | omega | rfl | assumption | (simp; done) | (simp_all; done)
            ·
              intro j hj
              by_cases e : j = i.toNat
              · subst e; exact Decidable.not_not.1 h26
              · exact he j (by omega)
      · skip
        refine a_exit ?_
        refine then_exit ?_
        refine then_exit ?_
        refine hK12 (.exit 0) _ (in_exit ?_)
        refine hK9 _ _ (Ghost.refl _) ?_
        refine a_seq fun K30 hK30 => ?_
        refine a_region rfl fun K31 hK31 => ?_
        refine x_assign ?_
        refine r_nil hK31 ?_
        refine hK30 _ _ (Ghost.refl _) ?_
        refine a_ret ?_
        refine leave_val (.inr rfl) rfl rfl (freeL_skip rfl (freeL_skip rfl (freeL_fn hro rfl))) (congrArg (fun z => V.val (.bool z)) ?_)
        exact (decide_eq_true (upto_all (by omega) (fun j hj => he j (by omega)))).symm
end Go.T
namespace Go.T
open Go Go.E Go.Proofs
set_option maxHeartbeats 8000000 in
theorem s_impl_SameModel_1 {a : List Int} {b : List Int} (hl : a.length ≤ 9223372036854775807) : Go.E.Spec Try.prog 48 [eL false 1 cI a, eL false 1 cI b] (fun r _ => r = .val (.bool (decide (a = b)))) := by
  refine spec_of_awp (E := Ev) evOk Try.func48 (c := _) rfl (by decide) (by simp [Try.ntmps48]) ?_
  rw [Try.ntmps48, entry_mk]
  change awp Ev 2 8 _ _ (mkSt [(0, .v (eL false 1 cI a)), (1, .v (eL false 1 cI b))] [(0, eL false 1 cI a), (1, eL false 1 cI b)])
  refine a_seq fun K1 hK1 => ?_
  refine a_region rfl fun K2 hK2 => ?_
  refine x_assign ?_
  refine r_nil hK2 ?_
  refine hK1 _ _ (Ghost.refl _) ?_
  refine a_seq fun K3 hK3 => ?_
  refine a_region rfl fun K4 hK4 => ?_
  refine x_move ?_
  refine x_move ?_
  refine x_call (s_slices_Equal_Lint_int ?_) ?_ (hl := by first | rfl | (repeat (first | exact lendL_nil | refine lendL_cons (by first | rfl | exact lend_ref rfl (ro_eL (by intro _; first | rfl | exact roL_cL (by intro _; rfl))) | exact lend_refp rfl (ro_eL (by intro _; first | rfl | exact roL_cL (by intro _; rfl))) | exact lend_agg (by repeat (first | exact lendL_nil | refine lendL_cons (by first | rfl | exact lend_ref rfl (ro_eL (by intro _; first | rfl | exact roL_cL (by intro _; rfl))) | exact lend_refp rfl (ro_eL (by intro _; first | rfl | exact roL_cL (by intro _; rfl)))) ?_))) ?_)))
  ·
    first | omega | rfl | assumption | (simp; done) | (simp_all; done)
  rintro _ _ rfl
  refine x_assign ?_
  refine r_nil hK4 ?_
  refine hK3 _ _ (Ghost.refl _) ?_
  refine a_ret ?_
  refine leave_val (.inr rfl) rfl rfl rfl (congrArg (fun z => V.val (.bool z)) ?_)
  first | rfl | omega | assumption | (simp; done) | (simp_all; done)
end Go.T
namespace Go.T
open Go Go.E Go.Proofs
set_option maxHeartbeats 8000000 in
theorem s_impl_SameModel {m : Md} {n : Md} (hf : m.facts.length ≤ 1073741824) (hl : m.blocks.length ≤ 1073741824) (hb : ∀ b ∈ m.blocks, b.length ≤ 1073741824) : Go.E.Spec Try.prog 22 [.agg (cM false m), .agg (cM false n)] (fun r _ => r = .val (.bool (decide (m.facts = n.facts ∧ m.actual = n.actual ∧ m.blocks = n.blocks)))) := by
  refine spec_of_awp (E := Ev) evOk Try.func22 (c := _) rfl (by decide) (by simp [Try.ntmps22]) ?_
  rw [Try.ntmps22, entry_mk]
  change awp Ev 2 24 _ _ (mkSt [(0, .agg [.v (eL false 1 cI m.facts), .v (eL false 1 (cL false 1 cI) m.blocks), .v (.val (.int .i64 m.actual))]), (1, .agg [.v (eL false 1 cI n.facts), .v (eL false 1 (cL false 1 cI) n.blocks), .v (.val (.int .i64 n.actual))])] [(0, .agg (cM false m)), (1, .agg (cM false n))])
  refine a_seq fun K1 hK1 => ?_
  refine a_region rfl fun K2 hK2 => ?_
  first | refine x_boxVal ?_ | refine x_boxAgg' ?_ | refine x_boxT ?_
  first | refine x_boxVal ?_ | refine x_boxAgg' ?_ | refine x_boxT ?_
  refine x_assign ?_
  refine r_nil hK2 ?_
  refine hK1 _ _ (Ghost.refl _) ?_
  refine a_seq fun K3 hK3 => ?_
  refine a_region rfl fun K4 hK4 => ?_
  refine x_fieldAddr ?_
  refine x_load ?_
  refine x_fieldAddr ?_
  refine x_load ?_
  refine x_call (s_slices_Equal_Lint_int ?_) ?_ (hl := by first | rfl | (repeat (first | exact lendL_nil | refine lendL_cons (by first | rfl | exact lend_ref rfl (ro_eL (by intro _; first | rfl | exact roL_cL (by intro _; rfl))) | exact lend_refp rfl (ro_eL (by intro _; first | rfl | exact roL_cL (by intro _; rfl))) | exact lend_agg (by repeat (first | exact lendL_nil | refine lendL_cons (by first | rfl | exact lend_ref rfl (ro_eL (by intro _; first | rfl | exact roL_cL (by intro _; rfl))) | exact lend_refp rfl (ro_eL (by intro _; first | rfl | exact roL_cL (by intro _; rfl)))) ?_))) ?_)))
  ·
    omega
  rintro _ _ rfl
  refine x_move ?_
  refine x_split 10 rfl (by first | exact .beq | exact .bne | exact .dec | exact .not .beq | exact .not .bne | exact .not .dec | exact .not .id | exact .id) (fun h5 => ?_) (fun h5 => ?_)
  · skip
    refine x_fieldAddr ?_
    refine x_load ?_
    refine x_fieldAddr ?_
    refine x_load ?_
    refine x_bin ?_
    refine x_pickT ?_
    refine x_move ?_
    refine x_split 17 rfl (by first | exact .beq | exact .bne | exact .dec | exact .not .beq | exact .not .bne | exact .not .dec | exact .not .id | exact .id) (fun h6 => ?_) (fun h6 => ?_)
    · skip
      refine x_fieldAddr ?_
      refine x_load ?_
      refine x_fieldAddr ?_
      refine x_load ?_
      refine x_call (s_slices_EqualFunc_LLint_LLint_Lint_Lint (caps := []) rfl (fun x hx y => s_impl_SameModel_1 (Nat.le_trans (hb x hx) (by omega))) (by omega)) ?_
      rintro _ _ rfl
      refine x_pickT ?_
      refine x_assign ?_
      refine r_nil hK4 ?_
      refine hK3 _ _ (Ghost.refl _) ?_
      refine a_ret ?_
      refine leave_val (.inr rfl) rfl rfl rfl (congrArg (fun z => V.val (.bool z)) ?_)
      first
        | (symm; rw [decide_eq_false_iff_not]; intro hh; first | exact h6 hh.1 | exact h6 hh.2.1)
        | (exact decide_eq_decide.2 ⟨fun hh => ⟨h5, h6, hh⟩, fun hh => hh.2.2⟩)
    · skip
      refine x_shut ?_
      refine x_shut ?_
      refine x_shut ?_
      refine x_shut ?_
      refine x_shut ?_
      refine x_pickF ?_
      refine x_assign ?_
      refine r_nil hK4 ?_
      refine hK3 _ _ (Ghost.refl _) ?_
      refine a_ret ?_
      refine leave_val (.inr rfl) rfl rfl rfl (congrArg (fun z => V.val (.bool z)) ?_)
      first
        | (symm; rw [decide_eq_false_iff_not]; intro hh; first | exact h6 hh.1 | exact h6 hh.2.1)
        | (exact decide_eq_decide.2 ⟨fun hh => ⟨h5, h6, hh⟩, fun hh => hh.2.2⟩)
  · skip
    refine x_shut ?_
    refine x_shut ?_
    refine x_shut ?_
    refine x_shut ?_
    refine x_shut ?_
    refine x_pickF ?_
    refine x_move ?_
    refine x_shut ?_
    refine x_shut ?_
    refine x_shut ?_
    refine x_shut ?_
    refine x_shut ?_
    refine x_pickF ?_
    refine x_assign ?_
    refine r_nil hK4 ?_
    refine hK3 _ _ (Ghost.refl _) ?_
    refine a_ret ?_
    refine leave_val (.inr rfl) rfl rfl rfl (congrArg (fun z => V.val (.bool z)) ?_)
    first
      | (symm; rw [decide_eq_false_iff_not]; intro hh; first | exact h5 hh.1 | exact h5 hh.2.1)
      | (exact decide_eq_decide.2 ⟨fun hh => ⟨h, h5, hh⟩, fun hh => hh.2.2⟩)
end Go.T
namespace Go.T
open Go Go.E Go.Proofs
set_option maxHeartbeats 8000000 in
theorem s_laws_eqIntS {l : List Int} (hl : l.length ≤ 9223372036854775807) : Go.E.Spec Try.prog 34 [eL false 1 cI l, eL false 1 cI l] (fun r _ => r = .val (.bool (true))) := by
  refine spec_of_awp (E := Ev) evOk Try.func34 (c := _) rfl (by decide) (by simp [Try.ntmps34]) ?_
  rw [Try.ntmps34, entry_mk]
  change awp Ev 2 26 _ _ (mkSt [(0, .v (eL false 1 cI l)), (1, .v (eL false 1 cI l))] [(0, eL false 1 cI l), (1, eL false 1 cI l)])
  refine a_seq fun K1 hK1 => ?_
  refine a_region rfl fun K2 hK2 => ?_
  refine x_assign ?_
  refine r_nil hK2 ?_
  refine hK1 _ _ (Ghost.refl _) ?_
  refine a_seq fun K3 hK3 => ?_
  refine a_seq fun K4 hK4 => ?_
  refine a_region rfl fun K5 hK5 => ?_
  refine x_move ?_
  refine x_len ?_
  refine x_move ?_
  refine x_len ?_
  refine x_bin ?_
  refine r_nil hK5 ?_
  refine hK4 _ _ (Ghost.refl _) ?_
  refine a_condP rfl (by first | exact .beq | exact .bne | exact .dec | exact .not .beq | exact .not .bne | exact .not .dec | exact .not .id | exact .id) (fun h6 => ?_) (fun h6 => ?_)
  · skip
    refine a_seq fun K7 hK7 => ?_
    refine a_region rfl fun K8 hK8 => ?_
    refine x_assign ?_
    refine r_nil hK8 ?_
    refine hK7 _ _ (Ghost.refl _) ?_
    refine a_ret ?_
    refine then_ret ?_
    refine leave_val (.inr rfl) rfl rfl rfl (congrArg (fun z => V.val (.bool z)) ?_)
    first | rfl | omega | assumption | (simp; done) | (simp_all; done)
  · skip
    refine a_skip ?_
    refine hK3 _ _ (Ghost.refl _) ?_
    refine a_seq fun K9 hK9 => ?_
    refine a_seq fun K10 hK10 => ?_
    refine a_region rfl fun K11 hK11 => ?_
    refine x_assign ?_
    refine r_nil hK11 ?_
    refine hK10 _ _ (Ghost.refl _) ?_
    refine a_block fun K12 hK12 => ?_
    refine a_loopM (X := Int) (fun i => ([(5, .v (.val (.int .i64 i)))] : List (Nat × S))) (fun i => ([] : List (Nat × V))) (fun i => (0 ≤ i ∧ i ≤ l.length)) (fun i => (l.length - i).toNat) [(0, .v _), (1, .v _)] [(0, _), (1, _)] _ (Ghost.refl _) ⟨rfl, rfl, rfl, trivial⟩ ⟨rfl, rfl, trivial⟩ (fun i => rfl) ?_ ?_
    ·
      try dsimp only
      ·
        first | omega | rfl | assumption | (simp; done) | (simp_all; done)
    ·
      rintro i hI13 K13 hK13
      dsimp only [List.cons_append, List.nil_append] at hI13 ⊢
      have hi := hI13
      refine a_seq fun K14 hK14 => ?_
      refine a_seq fun K15 hK15 => ?_
      refine a_region rfl fun K16 hK16 => ?_
      refine x_move ?_
      refine x_move ?_
      refine x_len ?_
      refine x_bin ?_
      refine r_nil hK16 ?_
      refine hK15 _ _ (Ghost.refl _) ?_
      refine a_condP rfl (by first | exact .beq | exact .bne | exact .dec | exact .not .beq | exact .not .bne | exact .not .dec | exact .not .id | exact .id) (fun h17 => ?_) (fun h17 => ?_)
      · skip
        refine a_skip ?_
        refine hK14 _ _ (Ghost.refl _) ?_
        refine a_seq fun K18 hK18 => ?_
        refine a_block fun K19 hK19 => ?_
        refine a_seq fun K20 hK20 => ?_
        refine a_drawnG (ms := [255, 112, 48, 0, 0, 7, 3, 0, 0]) (by decide +kernel) (by decide +kernel) rfl (by decide +kernel) fun K21 hK21 => ?_
        refine x_move ?_
        refine x_move ?_
        refine x_indexAddr ?_ ?_
        ·
          exact ⟨by omega, by omega⟩
        first | refine x_ldE ?_ ?_ | refine x_ldN ?_ ?_ | refine x_ldO ?_ ?_ | refine x_ldON ?_ ?_ (hf := fun x => (rfl : cN x = List.map V.val [_, _, _, _]))
        ·
          omega
        refine x_move ?_
        refine x_move ?_
        refine x_indexAddr ?_ ?_
        ·
          exact ⟨by omega, by omega⟩
        first | refine x_ldE ?_ ?_ | refine x_ldN ?_ ?_ | refine x_ldO ?_ ?_ | refine x_ldON ?_ ?_ (hf := fun x => (rfl : cN x = List.map V.val [_, _, _, _]))
        ·
          omega
        refine x_bin ?_
        refine r_nil hK21 ?_
        refine hK20 _ _ (ghost_has (ks := [(0, .v _), (1, .v _), (5, .v _), (25, .v _)]) (km := [(0, _), (1, _)]) ⟨rfl, rfl, rfl, rfl, trivial⟩ ⟨rfl, rfl, trivial⟩ rfl) ?_
        refine a_condP rfl (by first | exact .beq | exact .bne | exact .dec | exact .not .beq | exact .not .bne | exact .not .dec | exact .not .id | exact .id) (fun h22 => ?_) (fun h22 => ?_)
        · skip
          refine a_seq fun K23 hK23 => ?_
          refine a_region rfl fun K24 hK24 => ?_
          refine x_assign ?_
          refine r_nil hK24 ?_
          refine hK23 _ _ (Ghost.refl _) ?_
          refine a_ret ?_
          refine hK19 .ret _ (in_ret ?_)
          refine then_ret ?_
          refine then_ret ?_
          refine hK12 .ret _ (in_ret ?_)
          refine then_ret ?_
          refine leave_val (.inr rfl) rfl rfl rfl (congrArg (fun z => V.val (.bool z)) ?_)
          first | rfl | omega | assumption | (simp; done) | (simp_all; done)
        · skip
          refine a_skip ?_
          refine hK19 .normal _ ?_
          refine hK18 _ _ (Ghost.refl _) ?_
          refine a_region rfl fun K25 hK25 => ?_
          refine x_move ?_
          refine x_add ?_ ?_
          ·
            exact ⟨by omega, by omega⟩
          refine x_assign ?_
          refine r_nil hK25 ?_
          refine hK13 _ _ _ _ (Ghost.refl _) ⟨rfl, rfl, rfl, trivial⟩ ⟨rfl, rfl, trivial⟩ ?_ ?_
          ·
            first | omega | (dsimp only; omega)
          ·
            try dsimp only
            ·
              first | omega | rfl | assumption | (simp; done) | (simp_all; done)
      · skip
        refine a_exit ?_
        refine then_exit ?_
        refine then_exit ?_
        refine hK12 (.exit 0) _ (in_exit ?_)
        refine hK9 _ _ (Ghost.refl _) ?_
        refine a_seq fun K26 hK26 => ?_
        refine a_region rfl fun K27 hK27 => ?_
        refine x_assign ?_
        refine r_nil hK27 ?_
        refine hK26 _ _ (Ghost.refl _) ?_
        refine a_ret ?_
        refine leave_val (.inr rfl) rfl rfl rfl (congrArg (fun z => V.val (.bool z)) ?_)
        first | rfl | omega | assumption | (simp; done) | (simp_all; done)
end Go.T
namespace Go.T
open Go Go.E Go.Proofs
set_option maxHeartbeats 8000000 in
theorem s_laws_eqIntSS {l : List ((List Int))} (hl : l.length ≤ 9223372036854775807) (hb : ∀ b ∈ l, b.length ≤ 9223372036854775807) : Go.E.Spec Try.prog 35 [eL false 1 (cL false 1 cI) l, eL false 1 (cL false 1 cI) l] (fun r _ => r = .val (.bool (true))) := by
  refine spec_of_awp (E := Ev) evOk Try.func35 (c := _) rfl (by decide) (by simp [Try.ntmps35]) ?_
  rw [Try.ntmps35, entry_mk]
  change awp Ev 2 27 _ _ (mkSt [(0, .v (eL false 1 (cL false 1 cI) l)), (1, .v (eL false 1 (cL false 1 cI) l))] [(0, eL false 1 (cL false 1 cI) l), (1, eL false 1 (cL false 1 cI) l)])
  refine a_seq fun K1 hK1 => ?_
  refine a_region rfl fun K2 hK2 => ?_
  refine x_assign ?_
  refine r_nil hK2 ?_
  refine hK1 _ _ (Ghost.refl _) ?_
  refine a_seq fun K3 hK3 => ?_
  refine a_seq fun K4 hK4 => ?_
  refine a_region rfl fun K5 hK5 => ?_
  refine x_move ?_
  refine x_len ?_
  refine x_move ?_
  refine x_len ?_
  refine x_bin ?_
  refine r_nil hK5 ?_
  refine hK4 _ _ (Ghost.refl _) ?_
  refine a_condP rfl (by first | exact .beq | exact .bne | exact .dec | exact .not .beq | exact .not .bne | exact .not .dec | exact .not .id | exact .id) (fun h6 => ?_) (fun h6 => ?_)
  · skip
    refine a_seq fun K7 hK7 => ?_
    refine a_region rfl fun K8 hK8 => ?_
    refine x_assign ?_
    refine r_nil hK8 ?_
    refine hK7 _ _ (Ghost.refl _) ?_
    refine a_ret ?_
    refine then_ret ?_
    refine leave_val (.inr rfl) rfl rfl rfl (congrArg (fun z => V.val (.bool z)) ?_)
    first | rfl | omega | assumption | (simp; done) | (simp_all; done)
  · skip
    refine a_skip ?_
    refine hK3 _ _ (Ghost.refl _) ?_
    refine a_seq fun K9 hK9 => ?_
    refine a_seq fun K10 hK10 => ?_
    refine a_region rfl fun K11 hK11 => ?_
    refine x_assign ?_
    refine r_nil hK11 ?_
    refine hK10 _ _ (Ghost.refl _) ?_
    refine a_block fun K12 hK12 => ?_
    refine a_loopM (X := Int) (fun i => ([(5, .v (.val (.int .i64 i)))] : List (Nat × S))) (fun i => ([] : List (Nat × V))) (fun i => (0 ≤ i ∧ i ≤ l.length)) (fun i => (l.length - i).toNat) [(0, .v _), (1, .v _)] [(0, _), (1, _)] _ (Ghost.refl _) ⟨rfl, rfl, rfl, trivial⟩ ⟨rfl, rfl, trivial⟩ (fun i => rfl) ?_ ?_
    ·
      try dsimp only
      ·
        first | omega | rfl | assumption | (simp; done) | (simp_all; done)
    ·
      rintro i hI13 K13 hK13
      dsimp only [List.cons_append, List.nil_append] at hI13 ⊢
      have hi := hI13
      refine a_seq fun K14 hK14 => ?_
      refine a_seq fun K15 hK15 => ?_
      refine a_region rfl fun K16 hK16 => ?_
      refine x_move ?_
      refine x_move ?_
      refine x_len ?_
      refine x_bin ?_
      refine r_nil hK16 ?_
      refine hK15 _ _ (Ghost.refl _) ?_
      refine a_condP rfl (by first | exact .beq | exact .bne | exact .dec | exact .not .beq | exact .not .bne | exact .not .dec | exact .not .id | exact .id) (fun h17 => ?_) (fun h17 => ?_)
      · skip
        refine a_skip ?_
        refine hK14 _ _ (Ghost.refl _) ?_
        refine a_seq fun K18 hK18 => ?_
        refine a_block fun K19 hK19 => ?_
        refine a_seq fun K20 hK20 => ?_
        refine a_drawnG (ms := [511, 255, 112, 48, 0, 0, 7, 3, 0, 0]) (by decide +kernel) (by decide +kernel) rfl (by decide +kernel) fun K21 hK21 => ?_
        refine x_move ?_
        refine x_move ?_
        refine x_indexAddr ?_ ?_
        ·
          exact ⟨by omega, by omega⟩
        first | refine x_ldE ?_ ?_ | refine x_ldN ?_ ?_ | refine x_ldO ?_ ?_ | refine x_ldON ?_ ?_ (hf := fun x => (rfl : cN x = List.map V.val [_, _, _, _]))
        ·
          omega
        refine x_move ?_
        refine x_move ?_
        refine x_indexAddr ?_ ?_
        ·
          exact ⟨by omega, by omega⟩
        first | refine x_ldE ?_ ?_ | refine x_ldN ?_ ?_ | refine x_ldO ?_ ?_ | refine x_ldON ?_ ?_ (hf := fun x => (rfl : cN x = List.map V.val [_, _, _, _]))
        ·
          omega
        refine x_call (s_laws_eqIntS ?_) ?_ (hl := by first | rfl | (repeat (first | exact lendL_nil | refine lendL_cons (by first | rfl | exact lend_ref rfl (ro_eL (by intro _; first | rfl | exact roL_cL (by intro _; rfl))) | exact lend_refp rfl (ro_eL (by intro _; first | rfl | exact roL_cL (by intro _; rfl))) | exact lend_agg (by repeat (first | exact lendL_nil | refine lendL_cons (by first | rfl | exact lend_ref rfl (ro_eL (by intro _; first | rfl | exact roL_cL (by intro _; rfl))) | exact lend_refp rfl (ro_eL (by intro _; first | rfl | exact roL_cL (by intro _; rfl)))) ?_))) ?_)))
        ·
          exact hb _ (mem_get! (by omega))
        rintro _ _ rfl
        refine x_un ?_
        refine r_nil hK21 ?_
        refine hK20 _ _ (ghost_has (ks := [(0, .v _), (1, .v _), (5, .v _), (26, .v _)]) (km := [(0, _), (1, _)]) ⟨rfl, rfl, rfl, rfl, trivial⟩ ⟨rfl, rfl, trivial⟩ rfl) ?_
        refine a_condP rfl (by first | exact .beq | exact .bne | exact .dec | exact .not .beq | exact .not .bne | exact .not .dec | exact .not .id | exact .id) (fun h22 => ?_) (fun h22 => ?_)
        · skip
          refine a_seq fun K23 hK23 => ?_
          refine a_region rfl fun K24 hK24 => ?_
          refine x_assign ?_
          refine r_nil hK24 ?_
          refine hK23 _ _ (Ghost.refl _) ?_
          refine a_ret ?_
          refine hK19 .ret _ (in_ret ?_)
          refine then_ret ?_
          refine then_ret ?_
          refine hK12 .ret _ (in_ret ?_)
          refine then_ret ?_
          refine leave_val (.inr rfl) rfl rfl rfl (congrArg (fun z => V.val (.bool z)) ?_)
          first | rfl | omega | assumption | (simp; done) | (simp_all; done)
        · skip
          refine a_skip ?_
          refine hK19 .normal _ ?_
          refine hK18 _ _ (Ghost.refl _) ?_
          refine a_region rfl fun K25 hK25 => ?_
          refine x_move ?_
          refine x_add ?_ ?_
          ·
            exact ⟨by omega, by omega⟩
          refine x_assign ?_
          refine r_nil hK25 ?_
          refine hK13 _ _ _ _ (Ghost.refl _) ⟨rfl, rfl, rfl, trivial⟩ ⟨rfl, rfl, trivial⟩ ?_ ?_
          ·
            first | omega | (dsimp only; omega)
          ·
            try dsimp only
            ·
              first | omega | rfl | assumption | (simp; done) | (simp_all; done)
      · skip
        refine a_exit ?_
        refine then_exit ?_
        refine then_exit ?_
        refine hK12 (.exit 0) _ (in_exit ?_)
        refine hK9 _ _ (Ghost.refl _) ?_
        refine a_seq fun K26 hK26 => ?_
        refine a_region rfl fun K27 hK27 => ?_
        refine x_assign ?_
        refine r_nil hK27 ?_
        refine hK26 _ _ (Ghost.refl _) ?_
        refine a_ret ?_
        refine leave_val (.inr rfl) rfl rfl rfl (congrArg (fun z => V.val (.bool z)) ?_)
        first | rfl | omega | assumption | (simp; done) | (simp_all; done)
end Go.T
namespace Go.T
open Go Go.E Go.Proofs
set_option maxHeartbeats 8000000 in
theorem s_laws_eqModel {m : Md} (hf : m.facts.length ≤ 9223372036854775807) (hl : m.blocks.length ≤ 9223372036854775807) (hb : ∀ b ∈ m.blocks, b.length ≤ 9223372036854775807) : Go.E.Spec Try.prog 11 [.agg (cM false m), .agg (cM false m)] (fun r _ => r = .val (.bool (true))) := by
  refine spec_of_awp (E := Ev) evOk Try.func11 (c := _) rfl (by decide) (by simp [Try.ntmps11]) ?_
  rw [Try.ntmps11, entry_mk]
  change awp Ev 2 22 _ _ (mkSt [(0, .agg [.v (eL false 1 cI m.facts), .v (eL false 1 (cL false 1 cI) m.blocks), .v (.val (.int .i64 m.actual))]), (1, .agg [.v (eL false 1 cI m.facts), .v (eL false 1 (cL false 1 cI) m.blocks), .v (.val (.int .i64 m.actual))])] [(0, .agg (cM false m)), (1, .agg (cM false m))])
  refine a_seq fun K1 hK1 => ?_
  refine a_region rfl fun K2 hK2 => ?_
  first | refine x_boxVal ?_ | refine x_boxAgg' ?_ | refine x_boxT ?_
  first | refine x_boxVal ?_ | refine x_boxAgg' ?_ | refine x_boxT ?_
  refine x_assign ?_
  refine r_nil hK2 ?_
  refine hK1 _ _ (Ghost.refl _) ?_
  refine a_seq fun K3 hK3 => ?_
  refine a_seq fun K4 hK4 => ?_
  refine a_region rfl fun K5 hK5 => ?_
  refine x_fieldAddr ?_
  refine x_load ?_
  refine x_fieldAddr ?_
  refine x_load ?_
  refine x_call (s_laws_eqIntS ?_) ?_ (hl := by first | rfl | (repeat (first | exact lendL_nil | refine lendL_cons (by first | rfl | exact lend_ref rfl (ro_eL (by intro _; first | rfl | exact roL_cL (by intro _; rfl))) | exact lend_refp rfl (ro_eL (by intro _; first | rfl | exact roL_cL (by intro _; rfl))) | exact lend_agg (by repeat (first | exact lendL_nil | refine lendL_cons (by first | rfl | exact lend_ref rfl (ro_eL (by intro _; first | rfl | exact roL_cL (by intro _; rfl))) | exact lend_refp rfl (ro_eL (by intro _; first | rfl | exact roL_cL (by intro _; rfl)))) ?_))) ?_)))
  ·
    first | omega | rfl | assumption | (simp; done) | (simp_all; done)
  rintro _ _ rfl
  refine x_un ?_
  refine r_nil hK5 ?_
  refine hK4 _ _ (ghost_has (ks := [(2, .ref 2 []), (3, .ref 3 []), (10, .v _)]) (km := [(0, _), (1, _), (2, _), (3, _)]) ⟨rfl, rfl, rfl, trivial⟩ ⟨rfl, rfl, rfl, rfl, trivial⟩ rfl) ?_
  refine a_condP rfl (by first | exact .beq | exact .bne | exact .dec | exact .not .beq | exact .not .bne | exact .not .dec | exact .not .id | exact .id) (fun h6 => ?_) (fun h6 => ?_)
  · skip
    refine a_seq fun K7 hK7 => ?_
    refine a_region rfl fun K8 hK8 => ?_
    refine x_assign ?_
    refine r_nil hK8 ?_
    refine hK7 _ _ (Ghost.refl _) ?_
    refine a_ret ?_
    refine then_ret ?_
    refine leave_val (.inr rfl) rfl rfl rfl (congrArg (fun z => V.val (.bool z)) ?_)
    first | rfl | omega | assumption | (simp; done) | (simp_all; done)
  · skip
    refine a_skip ?_
    refine hK3 _ _ (Ghost.refl _) ?_
    refine a_seq fun K9 hK9 => ?_
    refine a_seq fun K10 hK10 => ?_
    refine a_region rfl fun K11 hK11 => ?_
    refine x_fieldAddr ?_
    refine x_load ?_
    refine x_fieldAddr ?_
    refine x_load ?_
    refine x_call (s_laws_eqIntSS ?_ ?_) ?_ (hl := by first | rfl | (repeat (first | exact lendL_nil | refine lendL_cons (by first | rfl | exact lend_ref rfl (ro_eL (by intro _; first | rfl | exact roL_cL (by intro _; rfl))) | exact lend_refp rfl (ro_eL (by intro _; first | rfl | exact roL_cL (by intro _; rfl))) | exact lend_agg (by repeat (first | exact lendL_nil | refine lendL_cons (by first | rfl | exact lend_ref rfl (ro_eL (by intro _; first | rfl | exact roL_cL (by intro _; rfl))) | exact lend_refp rfl (ro_eL (by intro _; first | rfl | exact roL_cL (by intro _; rfl)))) ?_))) ?_)))
    ·
      first | omega | exact hb
    ·
      first | omega | exact hb
    rintro _ _ rfl
    refine x_un ?_
    refine r_nil hK11 ?_
    refine hK10 _ _ (Ghost.refl _) ?_
    refine a_condP rfl (by first | exact .beq | exact .bne | exact .dec | exact .not .beq | exact .not .bne | exact .not .dec | exact .not .id | exact .id) (fun h12 => ?_) (fun h12 => ?_)
    · skip
      refine a_seq fun K13 hK13 => ?_
      refine a_region rfl fun K14 hK14 => ?_
      refine x_assign ?_
      refine r_nil hK14 ?_
      refine hK13 _ _ (Ghost.refl _) ?_
      refine a_ret ?_
      refine then_ret ?_
      refine leave_val (.inr rfl) rfl rfl rfl (congrArg (fun z => V.val (.bool z)) ?_)
      first | rfl | omega | assumption | (simp; done) | (simp_all; done)
    · skip
      refine a_skip ?_
      refine hK9 _ _ (Ghost.refl _) ?_
      refine a_seq fun K15 hK15 => ?_
      refine a_seq fun K16 hK16 => ?_
      refine a_region rfl fun K17 hK17 => ?_
      refine x_fieldAddr ?_
      refine x_load ?_
      refine x_fieldAddr ?_
      refine x_load ?_
      refine x_bin ?_
      refine r_nil hK17 ?_
      refine hK16 _ _ (ghost_has (ks := [(21, .v _)]) (km := [(0, _), (1, _)]) ⟨rfl, trivial⟩ ⟨rfl, rfl, trivial⟩ rfl) ?_
      refine a_condP rfl (by first | exact .beq | exact .bne | exact .dec | exact .not .beq | exact .not .bne | exact .not .dec | exact .not .id | exact .id) (fun h18 => ?_) (fun h18 => ?_)
      · skip
        refine a_seq fun K19 hK19 => ?_
        refine a_region rfl fun K20 hK20 => ?_
        refine x_assign ?_
        refine r_nil hK20 ?_
        refine hK19 _ _ (Ghost.refl _) ?_
        refine a_ret ?_
        refine then_ret ?_
        refine leave_val (.inr rfl) rfl rfl rfl (congrArg (fun z => V.val (.bool z)) ?_)
        first | rfl | omega | assumption | (simp; done) | (simp_all; done)
      · skip
        refine a_skip ?_
        refine hK15 _ _ (Ghost.refl _) ?_
        refine a_seq fun K21 hK21 => ?_
        refine a_region rfl fun K22 hK22 => ?_
        refine x_assign ?_
        refine r_nil hK22 ?_
        refine hK21 _ _ (Ghost.refl _) ?_
        refine a_ret ?_
        refine leave_val (.inr rfl) rfl rfl rfl (congrArg (fun z => V.val (.bool z)) ?_)
        first | rfl | omega | assumption | (simp; done) | (simp_all; done)
end Go.T
namespace Go.T
open Go Go.E Go.Proofs
set_option maxHeartbeats 8000000 in
theorem s_laws_FnExactSameModel {m : Md} {n : Md} (hf : m.facts.length ≤ 9223372036854775807) (hl : m.blocks.length ≤ 9223372036854775807) (hb : ∀ b ∈ m.blocks, b.length ≤ 9223372036854775807) (hf2 : n.facts.length ≤ 9223372036854775807) (hl2 : n.blocks.length ≤ 9223372036854775807) (hb2 : ∀ b ∈ n.blocks, b.length ≤ 9223372036854775807) : Go.E.Spec Try.prog 5 [.agg (cM false m), .agg (cM false n)] (fun r _ => r = .val (.bool (true))) := by
  refine spec_of_awp (E := Ev) evOk Try.func5 (c := _) rfl (by decide) (by simp [Try.ntmps5]) ?_
  rw [Try.ntmps5, entry_mk]
  change awp Ev 2 45 _ _ (mkSt [(0, .agg [.v (eL false 1 cI m.facts), .v (eL false 1 (cL false 1 cI) m.blocks), .v (.val (.int .i64 m.actual))]), (1, .agg [.v (eL false 1 cI n.facts), .v (eL false 1 (cL false 1 cI) n.blocks), .v (.val (.int .i64 n.actual))])] [(0, .agg (cM false m)), (1, .agg (cM false n))])
  refine a_seq fun K1 hK1 => ?_
  refine a_region rfl fun K2 hK2 => ?_
  first | refine x_boxVal ?_ | refine x_boxAgg' ?_ | refine x_boxT ?_
  first | refine x_boxVal ?_ | refine x_boxAgg' ?_ | refine x_boxT ?_
  refine x_assign ?_
  refine r_nil hK2 ?_
  refine hK1 _ _ (Ghost.refl _) ?_
  refine a_seq fun K3 hK3 => ?_
  refine a_region rfl fun K4 hK4 => ?_
  refine x_assign ?_
  refine r_nil hK4 ?_
  refine hK3 _ _ (Ghost.refl _) ?_
  refine a_seq fun K5 hK5 => ?_
  refine a_region rfl fun K6 hK6 => ?_
  first | refine x_ldM ?_ | refine x_ldMR ?_ | refine x_load ?_
  refine x_move ?_
  refine x_call (s_laws_szModel ?_ ?_ ?_ ?_) ?_ (hl := by first | rfl | (repeat (first | exact lendL_nil | refine lendL_cons (by first | rfl | exact lend_ref rfl (ro_eL (by intro _; first | rfl | exact roL_cL (by intro _; rfl))) | exact lend_refp rfl (ro_eL (by intro _; first | rfl | exact roL_cL (by intro _; rfl))) | exact lend_agg (by repeat (first | exact lendL_nil | refine lendL_cons (by first | rfl | exact lend_ref rfl (ro_eL (by intro _; first | rfl | exact roL_cL (by intro _; rfl))) | exact lend_refp rfl (ro_eL (by intro _; first | rfl | exact roL_cL (by intro _; rfl)))) ?_))) ?_)))
  ·
    first | omega | exact hb | exact hb2
  ·
    first | omega | exact hb | exact hb2
  ·
    first | omega | exact hb | exact hb2
  ·
    first | omega | exact hb | exact hb2
  rintro _ _ ⟨k, rfl, hk0, hk⟩
  refine x_assign ?_
  refine r_nil hK6 ?_
  refine hK5 _ _ (ghost_has (ks := [(2, .ref 2 []), (3, .ref 3 []), (5, .v _)]) (km := [(0, _), (1, _), (2, _), (3, _), (12, _)]) ⟨rfl, rfl, rfl, trivial⟩ ⟨rfl, rfl, rfl, rfl, rfl, trivial⟩ rfl) ?_
  refine a_seq fun K7 hK7 => ?_
  refine a_seq fun K8 hK8 => ?_
  refine a_region rfl fun K9 hK9 => ?_
  refine x_move ?_
  refine x_bin ?_
  refine r_nil hK9 ?_
  refine hK8 _ _ (Ghost.refl _) ?_
  refine a_condP rfl (by first | exact .beq | exact .bne | exact .dec | exact .not .beq | exact .not .bne | exact .not .dec | exact .not .id | exact .id) (fun h10 => ?_) (fun h10 => ?_)
  · skip
    refine a_seq fun K11 hK11 => ?_
    refine a_region rfl fun K12 hK12 => ?_
    refine x_assign ?_
    refine r_nil hK12 ?_
    refine hK11 _ _ (Ghost.refl _) ?_
    refine a_ret ?_
    refine then_ret ?_
    refine leave_val (.inr rfl) rfl rfl rfl (congrArg (fun z => V.val (.bool z)) ?_)
    first | rfl | omega | assumption | (simp; done) | (simp_all; done)
  · skip
    refine a_skip ?_
    refine hK7 _ _ (Ghost.refl _) ?_
    refine a_seq fun K13 hK13 => ?_
    refine a_region rfl fun K14 hK14 => ?_
    first | refine x_ldM ?_ | refine x_ldMR ?_ | refine x_load ?_
    refine x_move ?_
    refine x_call (s_laws_szModel ?_ ?_ ?_ ?_) ?_ (hl := by first | rfl | (repeat (first | exact lendL_nil | refine lendL_cons (by first | rfl | exact lend_ref rfl (ro_eL (by intro _; first | rfl | exact roL_cL (by intro _; rfl))) | exact lend_refp rfl (ro_eL (by intro _; first | rfl | exact roL_cL (by intro _; rfl))) | exact lend_agg (by repeat (first | exact lendL_nil | refine lendL_cons (by first | rfl | exact lend_ref rfl (ro_eL (by intro _; first | rfl | exact roL_cL (by intro _; rfl))) | exact lend_refp rfl (ro_eL (by intro _; first | rfl | exact roL_cL (by intro _; rfl)))) ?_))) ?_)))
    ·
      first | omega | exact hb | exact hb2
    ·
      first | omega | exact hb | exact hb2
    ·
      first | omega | exact hb | exact hb2
    ·
      first | omega | exact hb | exact hb2
    rintro _ _ ⟨k2, rfl, hk20, hk2⟩
    refine x_assign ?_
    refine r_nil hK14 ?_
    refine hK13 _ _ (Ghost.refl _) ?_
    refine a_seq fun K15 hK15 => ?_
    refine a_seq fun K16 hK16 => ?_
    refine a_region rfl fun K17 hK17 => ?_
    refine x_move ?_
    refine x_bin ?_
    refine r_nil hK17 ?_
    refine hK16 _ _ (Ghost.refl _) ?_
    refine a_condP rfl (by first | exact .beq | exact .bne | exact .dec | exact .not .beq | exact .not .bne | exact .not .dec | exact .not .id | exact .id) (fun h18 => ?_) (fun h18 => ?_)
    · skip
      refine a_seq fun K19 hK19 => ?_
      refine a_region rfl fun K20 hK20 => ?_
      refine x_assign ?_
      refine r_nil hK20 ?_
      refine hK19 _ _ (Ghost.refl _) ?_
      refine a_ret ?_
      refine then_ret ?_
      refine leave_val (.inr rfl) rfl rfl rfl (congrArg (fun z => V.val (.bool z)) ?_)
      first | rfl | omega | assumption | (simp; done) | (simp_all; done)
    · skip
      refine a_skip ?_
      refine hK15 _ _ (Ghost.refl _) ?_
      refine a_seq fun K21 hK21 => ?_
      refine a_drawAllG (n := 6) (ms := [31, 15, 7, 0, 1, 0]) rfl (by decide +kernel) (by decide +kernel) (by decide +kernel) fun K22 hK22 => ?_
      refine w_allG (l := [0, 2]) (by decide +kernel) ⟨?_, ?_, trivial⟩
      · skip
        first | refine x_ldM ?_ | refine x_ldMR ?_ | refine x_load ?_
        refine w_end ?_
        refine w_allG (l := [1, 2]) (by decide +kernel) ⟨?_, ?_, trivial⟩
        · skip
          refine x_call (s_laws_toModel ?_ ?_ ?_) ?_ (hl := by first | rfl | (repeat (first | exact lendL_nil | refine lendL_cons (by first | rfl | exact lend_ref rfl (ro_eL (by intro _; first | rfl | exact roL_cL (by intro _; rfl))) | exact lend_refp rfl (ro_eL (by intro _; first | rfl | exact roL_cL (by intro _; rfl))) | exact lend_agg (by repeat (first | exact lendL_nil | refine lendL_cons (by first | rfl | exact lend_ref rfl (ro_eL (by intro _; first | rfl | exact roL_cL (by intro _; rfl))) | exact lend_refp rfl (ro_eL (by intro _; first | rfl | exact roL_cL (by intro _; rfl)))) ?_))) ?_)))
          ·
            first | omega | (intro b hbm; have := (hk (by omega)).2.2 b hbm; omega) | (intro b hbm; have := (hk2 (by omega)).2.2 b hbm; omega)
          ·
            first | omega | (intro b hbm; have := (hk (by omega)).2.2 b hbm; omega) | (intro b hbm; have := (hk2 (by omega)).2.2 b hbm; omega)
          ·
            first | omega | (intro b hbm; have := (hk (by omega)).2.2 b hbm; omega) | (intro b hbm; have := (hk2 (by omega)).2.2 b hbm; omega)
          rintro _ _ rfl
          refine w_end ?_
          refine w_allG (l := [2]) (by decide +kernel) ⟨?_, trivial⟩
          first | refine x_ldM ?_ | refine x_ldMR ?_ | refine x_load ?_
          refine w_end ?_
          refine w_allG (l := [3]) (by decide +kernel) ⟨?_, trivial⟩
          refine x_call (s_laws_toModel ?_ ?_ ?_) ?_ (hl := by first | rfl | (repeat (first | exact lendL_nil | refine lendL_cons (by first | rfl | exact lend_ref rfl (ro_eL (by intro _; first | rfl | exact roL_cL (by intro _; rfl))) | exact lend_refp rfl (ro_eL (by intro _; first | rfl | exact roL_cL (by intro _; rfl))) | exact lend_agg (by repeat (first | exact lendL_nil | refine lendL_cons (by first | rfl | exact lend_ref rfl (ro_eL (by intro _; first | rfl | exact roL_cL (by intro _; rfl))) | exact lend_refp rfl (ro_eL (by intro _; first | rfl | exact roL_cL (by intro _; rfl)))) ?_))) ?_)))
          ·
            first | omega | (intro b hbm; have := (hk (by omega)).2.2 b hbm; omega) | (intro b hbm; have := (hk2 (by omega)).2.2 b hbm; omega)
          ·
            first | omega | (intro b hbm; have := (hk (by omega)).2.2 b hbm; omega) | (intro b hbm; have := (hk2 (by omega)).2.2 b hbm; omega)
          ·
            first | omega | (intro b hbm; have := (hk (by omega)).2.2 b hbm; omega) | (intro b hbm; have := (hk2 (by omega)).2.2 b hbm; omega)
          rintro _ _ rfl
          refine w_end ?_
          refine w_allG (l := [4]) (by decide +kernel) ⟨?_, trivial⟩
          refine x_call (s_spec_SameModel ?_ ?_ ?_) ?_ (hl := by first | rfl | (repeat (first | exact lendL_nil | refine lendL_cons (by first | rfl | exact lend_ref rfl (ro_eL (by intro _; first | rfl | exact roL_cL (by intro _; rfl))) | exact lend_refp rfl (ro_eL (by intro _; first | rfl | exact roL_cL (by intro _; rfl))) | exact lend_agg (by repeat (first | exact lendL_nil | refine lendL_cons (by first | rfl | exact lend_ref rfl (ro_eL (by intro _; first | rfl | exact roL_cL (by intro _; rfl))) | exact lend_refp rfl (ro_eL (by intro _; first | rfl | exact roL_cL (by intro _; rfl)))) ?_))) ?_)))
          ·
            first | omega | (intro b hbm; have := (hk (by omega)).2.2 b hbm; omega) | (intro b hbm; have := (hk2 (by omega)).2.2 b hbm; omega)
          ·
            first | omega | (intro b hbm; have := (hk (by omega)).2.2 b hbm; omega) | (intro b hbm; have := (hk2 (by omega)).2.2 b hbm; omega)
          ·
            first | omega | (intro b hbm; have := (hk (by omega)).2.2 b hbm; omega) | (intro b hbm; have := (hk2 (by omega)).2.2 b hbm; omega)
          rintro _ _ rfl
          refine w_end ?_
          refine w_allG (l := [5]) (by decide +kernel) ⟨?_, trivial⟩
          refine x_assign ?_
          refine w_end ?_
          refine w_doneG hK22 ?_
          refine hK21 _ _ (ghost_has (ks := [(2, .ref 2 []), (3, .ref 3 []), (6, .v _)]) (km := [(0, _), (1, _), (2, _), (3, _), (24, _)]) ⟨rfl, rfl, rfl, trivial⟩ ⟨rfl, rfl, rfl, rfl, rfl, trivial⟩ rfl) ?_
          refine a_seq fun K23 hK23 => ?_
          refine a_region rfl fun K24 hK24 => ?_
          first | refine x_ldM ?_ | refine x_ldMR ?_ | refine x_load ?_
          refine x_call (s_laws_toModel ?_ ?_ ?_) ?_ (hl := by first | rfl | (repeat (first | exact lendL_nil | refine lendL_cons (by first | rfl | exact lend_ref rfl (ro_eL (by intro _; first | rfl | exact roL_cL (by intro _; rfl))) | exact lend_refp rfl (ro_eL (by intro _; first | rfl | exact roL_cL (by intro _; rfl))) | exact lend_agg (by repeat (first | exact lendL_nil | refine lendL_cons (by first | rfl | exact lend_ref rfl (ro_eL (by intro _; first | rfl | exact roL_cL (by intro _; rfl))) | exact lend_refp rfl (ro_eL (by intro _; first | rfl | exact roL_cL (by intro _; rfl)))) ?_))) ?_)))
          ·
            first | omega | (intro b hbm; have := (hk (by omega)).2.2 b hbm; omega) | (intro b hbm; have := (hk2 (by omega)).2.2 b hbm; omega)
          ·
            first | omega | (intro b hbm; have := (hk (by omega)).2.2 b hbm; omega) | (intro b hbm; have := (hk2 (by omega)).2.2 b hbm; omega)
          ·
            first | omega | (intro b hbm; have := (hk (by omega)).2.2 b hbm; omega) | (intro b hbm; have := (hk2 (by omega)).2.2 b hbm; omega)
          rintro _ _ rfl
          refine x_alloc ?_
          first | refine x_put0 ?_ | refine x_put1 ?_ | refine x_put2 ?_ | refine x_put3 ?_ | refine x_putAll ?_ | refine x_put0R ?_ | refine x_put1R ?_ | refine x_putM ?_ | refine x_put0T ?_ | refine x_put1T ?_ | refine x_putAllT ?_
          refine r_nil hK24 ?_
          refine hK23 _ _ (Ghost.refl _) ?_
          refine a_seq fun K25 hK25 => ?_
          refine a_region rfl fun K26 hK26 => ?_
          first | refine x_ldM ?_ | refine x_ldMR ?_ | refine x_load ?_
          refine x_call (s_laws_toModel ?_ ?_ ?_) ?_ (hl := by first | rfl | (repeat (first | exact lendL_nil | refine lendL_cons (by first | rfl | exact lend_ref rfl (ro_eL (by intro _; first | rfl | exact roL_cL (by intro _; rfl))) | exact lend_refp rfl (ro_eL (by intro _; first | rfl | exact roL_cL (by intro _; rfl))) | exact lend_agg (by repeat (first | exact lendL_nil | refine lendL_cons (by first | rfl | exact lend_ref rfl (ro_eL (by intro _; first | rfl | exact roL_cL (by intro _; rfl))) | exact lend_refp rfl (ro_eL (by intro _; first | rfl | exact roL_cL (by intro _; rfl)))) ?_))) ?_)))
          ·
            first | omega | (intro b hbm; have := (hk (by omega)).2.2 b hbm; omega) | (intro b hbm; have := (hk2 (by omega)).2.2 b hbm; omega)
          ·
            first | omega | (intro b hbm; have := (hk (by omega)).2.2 b hbm; omega) | (intro b hbm; have := (hk2 (by omega)).2.2 b hbm; omega)
          ·
            first | omega | (intro b hbm; have := (hk (by omega)).2.2 b hbm; omega) | (intro b hbm; have := (hk2 (by omega)).2.2 b hbm; omega)
          rintro _ _ rfl
          refine x_alloc ?_
          first | refine x_put0 ?_ | refine x_put1 ?_ | refine x_put2 ?_ | refine x_put3 ?_ | refine x_putAll ?_ | refine x_put0R ?_ | refine x_put1R ?_ | refine x_putM ?_ | refine x_put0T ?_ | refine x_put1T ?_ | refine x_putAllT ?_
          refine r_nil hK26 ?_
          refine hK25 _ _ (ghost_has (ks := [(2, .ref 2 []), (3, .ref 3 []), (6, .v _), (7, .ref 7 []), (8, .ref 8 [])]) (km := [(0, _), (1, _), (2, _), (3, _), (7, _), (8, _), (24, _)]) ⟨rfl, rfl, rfl, rfl, rfl, trivial⟩ ⟨rfl, rfl, rfl, rfl, rfl, rfl, rfl, trivial⟩ rfl) ?_
          refine a_seq fun K27 hK27 => ?_
          refine a_region rfl fun K28 hK28 => ?_
          first | refine x_ldM ?_ | refine x_ldMR ?_ | refine x_load ?_
          first | refine x_ldM ?_ | refine x_ldMR ?_ | refine x_load ?_
          refine x_call (s_impl_SameModel ?_ ?_ ?_) ?_ (hl := by first | rfl | (repeat (first | exact lendL_nil | refine lendL_cons (by first | rfl | exact lend_ref rfl (ro_eL (by intro _; first | rfl | exact roL_cL (by intro _; rfl))) | exact lend_refp rfl (ro_eL (by intro _; first | rfl | exact roL_cL (by intro _; rfl))) | exact lend_agg (by repeat (first | exact lendL_nil | refine lendL_cons (by first | rfl | exact lend_ref rfl (ro_eL (by intro _; first | rfl | exact roL_cL (by intro _; rfl))) | exact lend_refp rfl (ro_eL (by intro _; first | rfl | exact roL_cL (by intro _; rfl)))) ?_))) ?_)))
          ·
            first | omega | (intro b hbm; have := (hk (by omega)).2.2 b hbm; omega) | (intro b hbm; have := (hk2 (by omega)).2.2 b hbm; omega)
          ·
            first | omega | (intro b hbm; have := (hk (by omega)).2.2 b hbm; omega) | (intro b hbm; have := (hk2 (by omega)).2.2 b hbm; omega)
          ·
            first | omega | (intro b hbm; have := (hk (by omega)).2.2 b hbm; omega) | (intro b hbm; have := (hk2 (by omega)).2.2 b hbm; omega)
          rintro _ _ rfl
          refine x_assign ?_
          refine r_nil hK28 ?_
          refine hK27 _ _ (Ghost.refl _) ?_
          refine a_seq fun K29 hK29 => ?_
          refine a_seq fun K30 hK30 => ?_
          refine a_region rfl fun K31 hK31 => ?_
          refine x_move ?_
          refine x_move ?_
          refine x_bin ?_
          refine r_nil hK31 ?_
          refine hK30 _ _ (Ghost.refl _) ?_
          refine a_condP rfl (by first | exact .beq | exact .bne | exact .dec | exact .not .beq | exact .not .bne | exact .not .dec | exact .not .id | exact .id) (fun h32 => ?_) (fun h32 => ?_)
          · skip
            refine a_seq fun K33 hK33 => ?_
            refine a_region rfl fun K34 hK34 => ?_
            refine x_assign ?_
            refine r_nil hK34 ?_
            refine hK33 _ _ (Ghost.refl _) ?_
            refine a_ret ?_
            refine then_ret ?_
            refine leave_val (.inr rfl) rfl rfl rfl (congrArg (fun z => V.val (.bool z)) ?_)
            first | rfl | omega | assumption | (simp; done) | (simp_all; done)
          · skip
            refine a_skip ?_
            refine hK29 _ _ (Ghost.refl _) ?_
            refine a_seq fun K35 hK35 => ?_
            refine a_seq fun K36 hK36 => ?_
            refine a_drawAllG (n := 5) (ms := [15, 7, 2, 0, 0]) rfl (by decide +kernel) (by decide +kernel) (by decide +kernel) fun K37 hK37 => ?_
            refine w_allG (l := [0, 1]) (by decide +kernel) ⟨?_, ?_, trivial⟩
            · skip
              first | refine x_ldM ?_ | refine x_ldMR ?_ | refine x_load ?_
              refine w_end ?_
              refine w_allG (l := [1]) (by decide +kernel) ⟨?_, trivial⟩
              first | refine x_ldM ?_ | refine x_ldMR ?_ | refine x_load ?_
              refine w_end ?_
              refine w_allG (l := [2]) (by decide +kernel) ⟨?_, trivial⟩
              refine x_call (s_laws_toModel ?_ ?_ ?_) ?_ (hl := by first | rfl | (repeat (first | exact lendL_nil | refine lendL_cons (by first | rfl | exact lend_ref rfl (ro_eL (by intro _; first | rfl | exact roL_cL (by intro _; rfl))) | exact lend_refp rfl (ro_eL (by intro _; first | rfl | exact roL_cL (by intro _; rfl))) | exact lend_agg (by repeat (first | exact lendL_nil | refine lendL_cons (by first | rfl | exact lend_ref rfl (ro_eL (by intro _; first | rfl | exact roL_cL (by intro _; rfl))) | exact lend_refp rfl (ro_eL (by intro _; first | rfl | exact roL_cL (by intro _; rfl)))) ?_))) ?_)))
              ·
                first | omega | (intro b hbm; have := (hk (by omega)).2.2 b hbm; omega) | (intro b hbm; have := (hk2 (by omega)).2.2 b hbm; omega)
              ·
                first | omega | (intro b hbm; have := (hk (by omega)).2.2 b hbm; omega) | (intro b hbm; have := (hk2 (by omega)).2.2 b hbm; omega)
              ·
                first | omega | (intro b hbm; have := (hk (by omega)).2.2 b hbm; omega) | (intro b hbm; have := (hk2 (by omega)).2.2 b hbm; omega)
              rintro _ _ rfl
              refine w_end ?_
              refine w_allG (l := [3]) (by decide +kernel) ⟨?_, trivial⟩
              refine x_call (s_laws_eqModel ?_ ?_ ?_) ?_ (hl := by first | rfl | (repeat (first | exact lendL_nil | refine lendL_cons (by first | rfl | exact lend_ref rfl (ro_eL (by intro _; first | rfl | exact roL_cL (by intro _; rfl))) | exact lend_refp rfl (ro_eL (by intro _; first | rfl | exact roL_cL (by intro _; rfl))) | exact lend_agg (by repeat (first | exact lendL_nil | refine lendL_cons (by first | rfl | exact lend_ref rfl (ro_eL (by intro _; first | rfl | exact roL_cL (by intro _; rfl))) | exact lend_refp rfl (ro_eL (by intro _; first | rfl | exact roL_cL (by intro _; rfl)))) ?_))) ?_)))
              ·
                first | omega | (intro b hbm; have := (hk (by omega)).2.2 b hbm; omega) | (intro b hbm; have := (hk2 (by omega)).2.2 b hbm; omega)
              ·
                first | omega | (intro b hbm; have := (hk (by omega)).2.2 b hbm; omega) | (intro b hbm; have := (hk2 (by omega)).2.2 b hbm; omega)
              ·
                first | omega | (intro b hbm; have := (hk (by omega)).2.2 b hbm; omega) | (intro b hbm; have := (hk2 (by omega)).2.2 b hbm; omega)
              rintro _ _ rfl
              refine w_end ?_
              refine w_allG (l := [4]) (by decide +kernel) ⟨?_, trivial⟩
              refine x_un ?_
              refine w_end ?_
              refine w_doneG hK37 ?_
              refine hK36 _ _ (ghost_has (ks := [(3, .ref 3 []), (8, .ref 8 []), (39, .v _)]) (km := [(0, _), (1, _), (3, _), (8, _)]) ⟨rfl, rfl, rfl, trivial⟩ ⟨rfl, rfl, rfl, rfl, trivial⟩ rfl) ?_
              refine a_condP rfl (by first | exact .beq | exact .bne | exact .dec | exact .not .beq | exact .not .bne | exact .not .dec | exact .not .id | exact .id) (fun h38 => ?_) (fun h38 => ?_)
              · skip
                refine a_seq fun K39 hK39 => ?_
                refine a_region rfl fun K40 hK40 => ?_
                refine x_assign ?_
                refine r_nil hK40 ?_
                refine hK39 _ _ (Ghost.refl _) ?_
                refine a_ret ?_
                refine then_ret ?_
                refine leave_val (.inr rfl) rfl rfl rfl (congrArg (fun z => V.val (.bool z)) ?_)
                first | rfl | omega | assumption | (simp; done) | (simp_all; done)
              · skip
                refine a_skip ?_
                refine hK35 _ _ (Ghost.refl _) ?_
                refine a_seq fun K41 hK41 => ?_
                refine a_seq fun K42 hK42 => ?_
                refine a_drawAllG (n := 5) (ms := [15, 7, 2, 0, 0]) rfl (by decide +kernel) (by decide +kernel) (by decide +kernel) fun K43 hK43 => ?_
                refine w_allG (l := [0, 1]) (by decide +kernel) ⟨?_, ?_, trivial⟩
                · skip
                  first | refine x_ldM ?_ | refine x_ldMR ?_ | refine x_load ?_
                  refine w_end ?_
                  refine w_allG (l := [1]) (by decide +kernel) ⟨?_, trivial⟩
                  first | refine x_ldM ?_ | refine x_ldMR ?_ | refine x_load ?_
                  refine w_end ?_
                  refine w_allG (l := [2]) (by decide +kernel) ⟨?_, trivial⟩
                  refine x_call (s_laws_toModel ?_ ?_ ?_) ?_ (hl := by first | rfl | (repeat (first | exact lendL_nil | refine lendL_cons (by first | rfl | exact lend_ref rfl (ro_eL (by intro _; first | rfl | exact roL_cL (by intro _; rfl))) | exact lend_refp rfl (ro_eL (by intro _; first | rfl | exact roL_cL (by intro _; rfl))) | exact lend_agg (by repeat (first | exact lendL_nil | refine lendL_cons (by first | rfl | exact lend_ref rfl (ro_eL (by intro _; first | rfl | exact roL_cL (by intro _; rfl))) | exact lend_refp rfl (ro_eL (by intro _; first | rfl | exact roL_cL (by intro _; rfl)))) ?_))) ?_)))
                  ·
                    first | omega | (intro b hbm; have := (hk (by omega)).2.2 b hbm; omega) | (intro b hbm; have := (hk2 (by omega)).2.2 b hbm; omega)
                  ·
                    first | omega | (intro b hbm; have := (hk (by omega)).2.2 b hbm; omega) | (intro b hbm; have := (hk2 (by omega)).2.2 b hbm; omega)
                  ·
                    first | omega | (intro b hbm; have := (hk (by omega)).2.2 b hbm; omega) | (intro b hbm; have := (hk2 (by omega)).2.2 b hbm; omega)
                  rintro _ _ rfl
                  refine w_end ?_
                  refine w_allG (l := [3]) (by decide +kernel) ⟨?_, trivial⟩
                  refine x_call (s_laws_eqModel ?_ ?_ ?_) ?_ (hl := by first | rfl | (repeat (first | exact lendL_nil | refine lendL_cons (by first | rfl | exact lend_ref rfl (ro_eL (by intro _; first | rfl | exact roL_cL (by intro _; rfl))) | exact lend_refp rfl (ro_eL (by intro _; first | rfl | exact roL_cL (by intro _; rfl))) | exact lend_agg (by repeat (first | exact lendL_nil | refine lendL_cons (by first | rfl | exact lend_ref rfl (ro_eL (by intro _; first | rfl | exact roL_cL (by intro _; rfl))) | exact lend_refp rfl (ro_eL (by intro _; first | rfl | exact roL_cL (by intro _; rfl)))) ?_))) ?_)))
                  ·
                    first | omega | (intro b hbm; have := (hk (by omega)).2.2 b hbm; omega) | (intro b hbm; have := (hk2 (by omega)).2.2 b hbm; omega)
                  ·
                    first | omega | (intro b hbm; have := (hk (by omega)).2.2 b hbm; omega) | (intro b hbm; have := (hk2 (by omega)).2.2 b hbm; omega)
                  ·
                    first | omega | (intro b hbm; have := (hk (by omega)).2.2 b hbm; omega) | (intro b hbm; have := (hk2 (by omega)).2.2 b hbm; omega)
                  rintro _ _ rfl
                  refine w_end ?_
                  refine w_allG (l := [4]) (by decide +kernel) ⟨?_, trivial⟩
                  refine x_un ?_
                  refine w_end ?_
                  refine w_doneG hK43 ?_
                  refine hK42 _ _ (Ghost.refl _) ?_
                  refine a_condP rfl (by first | exact .beq | exact .bne | exact .dec | exact .not .beq | exact .not .bne | exact .not .dec | exact .not .id | exact .id) (fun h44 => ?_) (fun h44 => ?_)
                  · skip
                    refine a_seq fun K45 hK45 => ?_
                    refine a_region rfl fun K46 hK46 => ?_
                    refine x_assign ?_
                    refine r_nil hK46 ?_
                    refine hK45 _ _ (Ghost.refl _) ?_
                    refine a_ret ?_
                    refine then_ret ?_
                    refine leave_val (.inr rfl) rfl rfl rfl (congrArg (fun z => V.val (.bool z)) ?_)
                    first | rfl | omega | assumption | (simp; done) | (simp_all; done)
                  · skip
                    refine a_skip ?_
                    refine hK41 _ _ (Ghost.refl _) ?_
                    refine a_seq fun K47 hK47 => ?_
                    refine a_region rfl fun K48 hK48 => ?_
                    refine x_assign ?_
                    refine r_nil hK48 ?_
                    refine hK47 _ _ (Ghost.refl _) ?_
                    refine a_ret ?_
                    refine leave_val (.inr rfl) rfl rfl rfl (congrArg (fun z => V.val (.bool z)) ?_)
                    first | rfl | omega | assumption | (simp; done) | (simp_all; done)
                · skip
                  first | refine x_ldM ?_ | refine x_ldMR ?_ | refine x_load ?_
                  refine w_end ?_
                  refine w_allG (l := [2]) (by decide +kernel) ⟨?_, trivial⟩
                  refine x_call (s_laws_toModel ?_ ?_ ?_) ?_ (hl := by first | rfl | (repeat (first | exact lendL_nil | refine lendL_cons (by first | rfl | exact lend_ref rfl (ro_eL (by intro _; first | rfl | exact roL_cL (by intro _; rfl))) | exact lend_refp rfl (ro_eL (by intro _; first | rfl | exact roL_cL (by intro _; rfl))) | exact lend_agg (by repeat (first | exact lendL_nil | refine lendL_cons (by first | rfl | exact lend_ref rfl (ro_eL (by intro _; first | rfl | exact roL_cL (by intro _; rfl))) | exact lend_refp rfl (ro_eL (by intro _; first | rfl | exact roL_cL (by intro _; rfl)))) ?_))) ?_)))
                  ·
                    first | omega | (intro b hbm; have := (hk (by omega)).2.2 b hbm; omega) | (intro b hbm; have := (hk2 (by omega)).2.2 b hbm; omega)
                  ·
                    first | omega | (intro b hbm; have := (hk (by omega)).2.2 b hbm; omega) | (intro b hbm; have := (hk2 (by omega)).2.2 b hbm; omega)
                  ·
                    first | omega | (intro b hbm; have := (hk (by omega)).2.2 b hbm; omega) | (intro b hbm; have := (hk2 (by omega)).2.2 b hbm; omega)
                  rintro _ _ rfl
                  refine w_end ?_
                  refine w_allG (l := [0]) (by decide +kernel) ⟨?_, trivial⟩
                  first | refine x_ldM ?_ | refine x_ldMR ?_ | refine x_load ?_
                  refine w_end ?_
                  refine w_allG (l := [3]) (by decide +kernel) ⟨?_, trivial⟩
                  refine x_call (s_laws_eqModel ?_ ?_ ?_) ?_ (hl := by first | rfl | (repeat (first | exact lendL_nil | refine lendL_cons (by first | rfl | exact lend_ref rfl (ro_eL (by intro _; first | rfl | exact roL_cL (by intro _; rfl))) | exact lend_refp rfl (ro_eL (by intro _; first | rfl | exact roL_cL (by intro _; rfl))) | exact lend_agg (by repeat (first | exact lendL_nil | refine lendL_cons (by first | rfl | exact lend_ref rfl (ro_eL (by intro _; first | rfl | exact roL_cL (by intro _; rfl))) | exact lend_refp rfl (ro_eL (by intro _; first | rfl | exact roL_cL (by intro _; rfl)))) ?_))) ?_)))
                  ·
                    first | omega | (intro b hbm; have := (hk (by omega)).2.2 b hbm; omega) | (intro b hbm; have := (hk2 (by omega)).2.2 b hbm; omega)
                  ·
                    first | omega | (intro b hbm; have := (hk (by omega)).2.2 b hbm; omega) | (intro b hbm; have := (hk2 (by omega)).2.2 b hbm; omega)
                  ·
                    first | omega | (intro b hbm; have := (hk (by omega)).2.2 b hbm; omega) | (intro b hbm; have := (hk2 (by omega)).2.2 b hbm; omega)
                  rintro _ _ rfl
                  refine w_end ?_
                  refine w_allG (l := [4]) (by decide +kernel) ⟨?_, trivial⟩
                  refine x_un ?_
                  refine w_end ?_
                  refine w_doneG hK43 ?_
                  refine hK42 _ _ (Ghost.refl _) ?_
                  refine a_condP rfl (by first | exact .beq | exact .bne | exact .dec | exact .not .beq | exact .not .bne | exact .not .dec | exact .not .id | exact .id) (fun h49 => ?_) (fun h49 => ?_)
                  · skip
                    refine a_seq fun K50 hK50 => ?_
                    refine a_region rfl fun K51 hK51 => ?_
                    refine x_assign ?_
                    refine r_nil hK51 ?_
                    refine hK50 _ _ (Ghost.refl _) ?_
                    refine a_ret ?_
                    refine then_ret ?_
                    refine leave_val (.inr rfl) rfl rfl rfl (congrArg (fun z => V.val (.bool z)) ?_)
                    first | rfl | omega | assumption | (simp; done) | (simp_all; done)
                  · skip
                    refine a_skip ?_
                    refine hK41 _ _ (Ghost.refl _) ?_
                    refine a_seq fun K52 hK52 => ?_
                    refine a_region rfl fun K53 hK53 => ?_
                    refine x_assign ?_
                    refine r_nil hK53 ?_
                    refine hK52 _ _ (Ghost.refl _) ?_
                    refine a_ret ?_
                    refine leave_val (.inr rfl) rfl rfl rfl (congrArg (fun z => V.val (.bool z)) ?_)
                    first | rfl | omega | assumption | (simp; done) | (simp_all; done)
            · skip
              first | refine x_ldM ?_ | refine x_ldMR ?_ | refine x_load ?_
              refine w_end ?_
              refine w_allG (l := [2]) (by decide +kernel) ⟨?_, trivial⟩
              refine x_call (s_laws_toModel ?_ ?_ ?_) ?_ (hl := by first | rfl | (repeat (first | exact lendL_nil | refine lendL_cons (by first | rfl | exact lend_ref rfl (ro_eL (by intro _; first | rfl | exact roL_cL (by intro _; rfl))) | exact lend_refp rfl (ro_eL (by intro _; first | rfl | exact roL_cL (by intro _; rfl))) | exact lend_agg (by repeat (first | exact lendL_nil | refine lendL_cons (by first | rfl | exact lend_ref rfl (ro_eL (by intro _; first | rfl | exact roL_cL (by intro _; rfl))) | exact lend_refp rfl (ro_eL (by intro _; first | rfl | exact roL_cL (by intro _; rfl)))) ?_))) ?_)))
              ·
                first | omega | (intro b hbm; have := (hk (by omega)).2.2 b hbm; omega) | (intro b hbm; have := (hk2 (by omega)).2.2 b hbm; omega)
              ·
                first | omega | (intro b hbm; have := (hk (by omega)).2.2 b hbm; omega) | (intro b hbm; have := (hk2 (by omega)).2.2 b hbm; omega)
              ·
                first | omega | (intro b hbm; have := (hk (by omega)).2.2 b hbm; omega) | (intro b hbm; have := (hk2 (by omega)).2.2 b hbm; omega)
              rintro _ _ rfl
              refine w_end ?_
              refine w_allG (l := [0]) (by decide +kernel) ⟨?_, trivial⟩
              first | refine x_ldM ?_ | refine x_ldMR ?_ | refine x_load ?_
              refine w_end ?_
              refine w_allG (l := [3]) (by decide +kernel) ⟨?_, trivial⟩
              refine x_call (s_laws_eqModel ?_ ?_ ?_) ?_ (hl := by first | rfl | (repeat (first | exact lendL_nil | refine lendL_cons (by first | rfl | exact lend_ref rfl (ro_eL (by intro _; first | rfl | exact roL_cL (by intro _; rfl))) | exact lend_refp rfl (ro_eL (by intro _; first | rfl | exact roL_cL (by intro _; rfl))) | exact lend_agg (by repeat (first | exact lendL_nil | refine lendL_cons (by first | rfl | exact lend_ref rfl (ro_eL (by intro _; first | rfl | exact roL_cL (by intro _; rfl))) | exact lend_refp rfl (ro_eL (by intro _; first | rfl | exact roL_cL (by intro _; rfl)))) ?_))) ?_)))
              ·
                first | omega | (intro b hbm; have := (hk (by omega)).2.2 b hbm; omega) | (intro b hbm; have := (hk2 (by omega)).2.2 b hbm; omega)
              ·
                first | omega | (intro b hbm; have := (hk (by omega)).2.2 b hbm; omega) | (intro b hbm; have := (hk2 (by omega)).2.2 b hbm; omega)
              ·
                first | omega | (intro b hbm; have := (hk (by omega)).2.2 b hbm; omega) | (intro b hbm; have := (hk2 (by omega)).2.2 b hbm; omega)
              rintro _ _ rfl
              refine w_end ?_
              refine w_allG (l := [4]) (by decide +kernel) ⟨?_, trivial⟩
              refine x_un ?_
              refine w_end ?_
              refine w_doneG hK37 ?_
              refine hK36 _ _ (ghost_has (ks := [(3, .ref 3 []), (8, .ref 8 []), (39, .v _)]) (km := [(0, _), (1, _), (3, _), (8, _)]) ⟨rfl, rfl, rfl, trivial⟩ ⟨rfl, rfl, rfl, rfl, trivial⟩ rfl) ?_
              refine a_condP rfl (by first | exact .beq | exact .bne | exact .dec | exact .not .beq | exact .not .bne | exact .not .dec | exact .not .id | exact .id) (fun h54 => ?_) (fun h54 => ?_)
              · skip
                refine a_seq fun K55 hK55 => ?_
                refine a_region rfl fun K56 hK56 => ?_
                refine x_assign ?_
                refine r_nil hK56 ?_
                refine hK55 _ _ (Ghost.refl _) ?_
                refine a_ret ?_
                refine then_ret ?_
                refine leave_val (.inr rfl) rfl rfl rfl (congrArg (fun z => V.val (.bool z)) ?_)
                first | rfl | omega | assumption | (simp; done) | (simp_all; done)
              · skip
                refine a_skip ?_
                refine hK35 _ _ (Ghost.refl _) ?_
                refine a_seq fun K57 hK57 => ?_
                refine a_seq fun K58 hK58 => ?_
                refine a_drawAllG (n := 5) (ms := [15, 7, 2, 0, 0]) rfl (by decide +kernel) (by decide +kernel) (by decide +kernel) fun K59 hK59 => ?_
                refine w_allG (l := [0, 1]) (by decide +kernel) ⟨?_, ?_, trivial⟩
                · skip
                  first | refine x_ldM ?_ | refine x_ldMR ?_ | refine x_load ?_
                  refine w_end ?_
                  refine w_allG (l := [1]) (by decide +kernel) ⟨?_, trivial⟩
                  first | refine x_ldM ?_ | refine x_ldMR ?_ | refine x_load ?_
                  refine w_end ?_
                  refine w_allG (l := [2]) (by decide +kernel) ⟨?_, trivial⟩
                  refine x_call (s_laws_toModel ?_ ?_ ?_) ?_ (hl := by first | rfl | (repeat (first | exact lendL_nil | refine lendL_cons (by first | rfl | exact lend_ref rfl (ro_eL (by intro _; first | rfl | exact roL_cL (by intro _; rfl))) | exact lend_refp rfl (ro_eL (by intro _; first | rfl | exact roL_cL (by intro _; rfl))) | exact lend_agg (by repeat (first | exact lendL_nil | refine lendL_cons (by first | rfl | exact lend_ref rfl (ro_eL (by intro _; first | rfl | exact roL_cL (by intro _; rfl))) | exact lend_refp rfl (ro_eL (by intro _; first | rfl | exact roL_cL (by intro _; rfl)))) ?_))) ?_)))
                  ·
                    first | omega | (intro b hbm; have := (hk (by omega)).2.2 b hbm; omega) | (intro b hbm; have := (hk2 (by omega)).2.2 b hbm; omega)
                  ·
                    first | omega | (intro b hbm; have := (hk (by omega)).2.2 b hbm; omega) | (intro b hbm; have := (hk2 (by omega)).2.2 b hbm; omega)
                  ·
                    first | omega | (intro b hbm; have := (hk (by omega)).2.2 b hbm; omega) | (intro b hbm; have := (hk2 (by omega)).2.2 b hbm; omega)
                  rintro _ _ rfl
                  refine w_end ?_
                  refine w_allG (l := [3]) (by decide +kernel) ⟨?_, trivial⟩
                  refine x_call (s_laws_eqModel ?_ ?_ ?_) ?_ (hl := by first | rfl | (repeat (first | exact lendL_nil | refine lendL_cons (by first | rfl | exact lend_ref rfl (ro_eL (by intro _; first | rfl | exact roL_cL (by intro _; rfl))) | exact lend_refp rfl (ro_eL (by intro _; first | rfl | exact roL_cL (by intro _; rfl))) | exact lend_agg (by repeat (first | exact lendL_nil | refine lendL_cons (by first | rfl | exact lend_ref rfl (ro_eL (by intro _; first | rfl | exact roL_cL (by intro _; rfl))) | exact lend_refp rfl (ro_eL (by intro _; first | rfl | exact roL_cL (by intro _; rfl)))) ?_))) ?_)))
                  ·
                    first | omega | (intro b hbm; have := (hk (by omega)).2.2 b hbm; omega) | (intro b hbm; have := (hk2 (by omega)).2.2 b hbm; omega)
                  ·
                    first | omega | (intro b hbm; have := (hk (by omega)).2.2 b hbm; omega) | (intro b hbm; have := (hk2 (by omega)).2.2 b hbm; omega)
                  ·
                    first | omega | (intro b hbm; have := (hk (by omega)).2.2 b hbm; omega) | (intro b hbm; have := (hk2 (by omega)).2.2 b hbm; omega)
                  rintro _ _ rfl
                  refine w_end ?_
                  refine w_allG (l := [4]) (by decide +kernel) ⟨?_, trivial⟩
                  refine x_un ?_
                  refine w_end ?_
                  refine w_doneG hK59 ?_
                  refine hK58 _ _ (Ghost.refl _) ?_
                  refine a_condP rfl (by first | exact .beq | exact .bne | exact .dec | exact .not .beq | exact .not .bne | exact .not .dec | exact .not .id | exact .id) (fun h60 => ?_) (fun h60 => ?_)
                  · skip
                    refine a_seq fun K61 hK61 => ?_
                    refine a_region rfl fun K62 hK62 => ?_
                    refine x_assign ?_
                    refine r_nil hK62 ?_
                    refine hK61 _ _ (Ghost.refl _) ?_
                    refine a_ret ?_
                    refine then_ret ?_
                    refine leave_val (.inr rfl) rfl rfl rfl (congrArg (fun z => V.val (.bool z)) ?_)
                    first | rfl | omega | assumption | (simp; done) | (simp_all; done)
                  · skip
                    refine a_skip ?_
                    refine hK57 _ _ (Ghost.refl _) ?_
                    refine a_seq fun K63 hK63 => ?_
                    refine a_region rfl fun K64 hK64 => ?_
                    refine x_assign ?_
                    refine r_nil hK64 ?_
                    refine hK63 _ _ (Ghost.refl _) ?_
                    refine a_ret ?_
                    refine leave_val (.inr rfl) rfl rfl rfl (congrArg (fun z => V.val (.bool z)) ?_)
                    first | rfl | omega | assumption | (simp; done) | (simp_all; done)
                · skip
                  first | refine x_ldM ?_ | refine x_ldMR ?_ | refine x_load ?_
                  refine w_end ?_
                  refine w_allG (l := [2]) (by decide +kernel) ⟨?_, trivial⟩
                  refine x_call (s_laws_toModel ?_ ?_ ?_) ?_ (hl := by first | rfl | (repeat (first | exact lendL_nil | refine lendL_cons (by first | rfl | exact lend_ref rfl (ro_eL (by intro _; first | rfl | exact roL_cL (by intro _; rfl))) | exact lend_refp rfl (ro_eL (by intro _; first | rfl | exact roL_cL (by intro _; rfl))) | exact lend_agg (by repeat (first | exact lendL_nil | refine lendL_cons (by first | rfl | exact lend_ref rfl (ro_eL (by intro _; first | rfl | exact roL_cL (by intro _; rfl))) | exact lend_refp rfl (ro_eL (by intro _; first | rfl | exact roL_cL (by intro _; rfl)))) ?_))) ?_)))
                  ·
                    first | omega | (intro b hbm; have := (hk (by omega)).2.2 b hbm; omega) | (intro b hbm; have := (hk2 (by omega)).2.2 b hbm; omega)
                  ·
                    first | omega | (intro b hbm; have := (hk (by omega)).2.2 b hbm; omega) | (intro b hbm; have := (hk2 (by omega)).2.2 b hbm; omega)
                  ·
                    first | omega | (intro b hbm; have := (hk (by omega)).2.2 b hbm; omega) | (intro b hbm; have := (hk2 (by omega)).2.2 b hbm; omega)
                  rintro _ _ rfl
                  refine w_end ?_
                  refine w_allG (l := [0]) (by decide +kernel) ⟨?_, trivial⟩
                  first | refine x_ldM ?_ | refine x_ldMR ?_ | refine x_load ?_
                  refine w_end ?_
                  refine w_allG (l := [3]) (by decide +kernel) ⟨?_, trivial⟩
                  refine x_call (s_laws_eqModel ?_ ?_ ?_) ?_ (hl := by first | rfl | (repeat (first | exact lendL_nil | refine lendL_cons (by first | rfl | exact lend_ref rfl (ro_eL (by intro _; first | rfl | exact roL_cL (by intro _; rfl))) | exact lend_refp rfl (ro_eL (by intro _; first | rfl | exact roL_cL (by intro _; rfl))) | exact lend_agg (by repeat (first | exact lendL_nil | refine lendL_cons (by first | rfl | exact lend_ref rfl (ro_eL (by intro _; first | rfl | exact roL_cL (by intro _; rfl))) | exact lend_refp rfl (ro_eL (by intro _; first | rfl | exact roL_cL (by intro _; rfl)))) ?_))) ?_)))
                  ·
                    first | omega | (intro b hbm; have := (hk (by omega)).2.2 b hbm; omega) | (intro b hbm; have := (hk2 (by omega)).2.2 b hbm; omega)
                  ·
                    first | omega | (intro b hbm; have := (hk (by omega)).2.2 b hbm; omega) | (intro b hbm; have := (hk2 (by omega)).2.2 b hbm; omega)
                  ·
                    first | omega | (intro b hbm; have := (hk (by omega)).2.2 b hbm; omega) | (intro b hbm; have := (hk2 (by omega)).2.2 b hbm; omega)
                  rintro _ _ rfl
                  refine w_end ?_
                  refine w_allG (l := [4]) (by decide +kernel) ⟨?_, trivial⟩
                  refine x_un ?_
                  refine w_end ?_
                  refine w_doneG hK59 ?_
                  refine hK58 _ _ (Ghost.refl _) ?_
                  refine a_condP rfl (by first | exact .beq | exact .bne | exact .dec | exact .not .beq | exact .not .bne | exact .not .dec | exact .not .id | exact .id) (fun h65 => ?_) (fun h65 => ?_)
                  · skip
                    refine a_seq fun K66 hK66 => ?_
                    refine a_region rfl fun K67 hK67 => ?_
                    refine x_assign ?_
                    refine r_nil hK67 ?_
                    refine hK66 _ _ (Ghost.refl _) ?_
                    refine a_ret ?_
                    refine then_ret ?_
                    refine leave_val (.inr rfl) rfl rfl rfl (congrArg (fun z => V.val (.bool z)) ?_)
                    first | rfl | omega | assumption | (simp; done) | (simp_all; done)
                  · skip
                    refine a_skip ?_
                    refine hK57 _ _ (Ghost.refl _) ?_
                    refine a_seq fun K68 hK68 => ?_
                    refine a_region rfl fun K69 hK69 => ?_
                    refine x_assign ?_
                    refine r_nil hK69 ?_
                    refine hK68 _ _ (Ghost.refl _) ?_
                    refine a_ret ?_
                    refine leave_val (.inr rfl) rfl rfl rfl (congrArg (fun z => V.val (.bool z)) ?_)
                    first | rfl | omega | assumption | (simp; done) | (simp_all; done)
        · skip
          first | refine x_ldM ?_ | refine x_ldMR ?_ | refine x_load ?_
          refine w_end ?_
          refine w_allG (l := [1]) (by decide +kernel) ⟨?_, trivial⟩
          refine x_call (s_laws_toModel ?_ ?_ ?_) ?_ (hl := by first | rfl | (repeat (first | exact lendL_nil | refine lendL_cons (by first | rfl | exact lend_ref rfl (ro_eL (by intro _; first | rfl | exact roL_cL (by intro _; rfl))) | exact lend_refp rfl (ro_eL (by intro _; first | rfl | exact roL_cL (by intro _; rfl))) | exact lend_agg (by repeat (first | exact lendL_nil | refine lendL_cons (by first | rfl | exact lend_ref rfl (ro_eL (by intro _; first | rfl | exact roL_cL (by intro _; rfl))) | exact lend_refp rfl (ro_eL (by intro _; first | rfl | exact roL_cL (by intro _; rfl)))) ?_))) ?_)))
          ·
            first | omega | (intro b hbm; have := (hk (by omega)).2.2 b hbm; omega) | (intro b hbm; have := (hk2 (by omega)).2.2 b hbm; omega)
          ·
            first | omega | (intro b hbm; have := (hk (by omega)).2.2 b hbm; omega) | (intro b hbm; have := (hk2 (by omega)).2.2 b hbm; omega)
          ·
            first | omega | (intro b hbm; have := (hk (by omega)).2.2 b hbm; omega) | (intro b hbm; have := (hk2 (by omega)).2.2 b hbm; omega)
          rintro _ _ rfl
          refine w_end ?_
          refine w_allG (l := [3]) (by decide +kernel) ⟨?_, trivial⟩
          refine x_call (s_laws_toModel ?_ ?_ ?_) ?_ (hl := by first | rfl | (repeat (first | exact lendL_nil | refine lendL_cons (by first | rfl | exact lend_ref rfl (ro_eL (by intro _; first | rfl | exact roL_cL (by intro _; rfl))) | exact lend_refp rfl (ro_eL (by intro _; first | rfl | exact roL_cL (by intro _; rfl))) | exact lend_agg (by repeat (first | exact lendL_nil | refine lendL_cons (by first | rfl | exact lend_ref rfl (ro_eL (by intro _; first | rfl | exact roL_cL (by intro _; rfl))) | exact lend_refp rfl (ro_eL (by intro _; first | rfl | exact roL_cL (by intro _; rfl)))) ?_))) ?_)))
          ·
            first | omega | (intro b hbm; have := (hk (by omega)).2.2 b hbm; omega) | (intro b hbm; have := (hk2 (by omega)).2.2 b hbm; omega)
          ·
            first | omega | (intro b hbm; have := (hk (by omega)).2.2 b hbm; omega) | (intro b hbm; have := (hk2 (by omega)).2.2 b hbm; omega)
          ·
            first | omega | (intro b hbm; have := (hk (by omega)).2.2 b hbm; omega) | (intro b hbm; have := (hk2 (by omega)).2.2 b hbm; omega)
          rintro _ _ rfl
          refine w_end ?_
          refine w_allG (l := [4]) (by decide +kernel) ⟨?_, trivial⟩
          refine x_call (s_spec_SameModel ?_ ?_ ?_) ?_ (hl := by first | rfl | (repeat (first | exact lendL_nil | refine lendL_cons (by first | rfl | exact lend_ref rfl (ro_eL (by intro _; first | rfl | exact roL_cL (by intro _; rfl))) | exact lend_refp rfl (ro_eL (by intro _; first | rfl | exact roL_cL (by intro _; rfl))) | exact lend_agg (by repeat (first | exact lendL_nil | refine lendL_cons (by first | rfl | exact lend_ref rfl (ro_eL (by intro _; first | rfl | exact roL_cL (by intro _; rfl))) | exact lend_refp rfl (ro_eL (by intro _; first | rfl | exact roL_cL (by intro _; rfl)))) ?_))) ?_)))
          ·
            first | omega | (intro b hbm; have := (hk (by omega)).2.2 b hbm; omega) | (intro b hbm; have := (hk2 (by omega)).2.2 b hbm; omega)
          ·
            first | omega | (intro b hbm; have := (hk (by omega)).2.2 b hbm; omega) | (intro b hbm; have := (hk2 (by omega)).2.2 b hbm; omega)
          ·
            first | omega | (intro b hbm; have := (hk (by omega)).2.2 b hbm; omega) | (intro b hbm; have := (hk2 (by omega)).2.2 b hbm; omega)
          rintro _ _ rfl
          refine w_end ?_
          refine w_allG (l := [5]) (by decide +kernel) ⟨?_, trivial⟩
          refine x_assign ?_
          refine w_end ?_
          refine w_doneG hK22 ?_
          refine hK21 _ _ (ghost_has (ks := [(2, .ref 2 []), (3, .ref 3 []), (6, .v _)]) (km := [(0, _), (1, _), (2, _), (3, _), (24, _)]) ⟨rfl, rfl, rfl, trivial⟩ ⟨rfl, rfl, rfl, rfl, rfl, trivial⟩ rfl) ?_
          refine a_seq fun K70 hK70 => ?_
          refine a_region rfl fun K71 hK71 => ?_
          first | refine x_ldM ?_ | refine x_ldMR ?_ | refine x_load ?_
          refine x_call (s_laws_toModel ?_ ?_ ?_) ?_ (hl := by first | rfl | (repeat (first | exact lendL_nil | refine lendL_cons (by first | rfl | exact lend_ref rfl (ro_eL (by intro _; first | rfl | exact roL_cL (by intro _; rfl))) | exact lend_refp rfl (ro_eL (by intro _; first | rfl | exact roL_cL (by intro _; rfl))) | exact lend_agg (by repeat (first | exact lendL_nil | refine lendL_cons (by first | rfl | exact lend_ref rfl (ro_eL (by intro _; first | rfl | exact roL_cL (by intro _; rfl))) | exact lend_refp rfl (ro_eL (by intro _; first | rfl | exact roL_cL (by intro _; rfl)))) ?_))) ?_)))
          ·
            first | omega | (intro b hbm; have := (hk (by omega)).2.2 b hbm; omega) | (intro b hbm; have := (hk2 (by omega)).2.2 b hbm; omega)
          ·
            first | omega | (intro b hbm; have := (hk (by omega)).2.2 b hbm; omega) | (intro b hbm; have := (hk2 (by omega)).2.2 b hbm; omega)
          ·
            first | omega | (intro b hbm; have := (hk (by omega)).2.2 b hbm; omega) | (intro b hbm; have := (hk2 (by omega)).2.2 b hbm; omega)
          rintro _ _ rfl
          refine x_alloc ?_
          first | refine x_put0 ?_ | refine x_put1 ?_ | refine x_put2 ?_ | refine x_put3 ?_ | refine x_putAll ?_ | refine x_put0R ?_ | refine x_put1R ?_ | refine x_putM ?_ | refine x_put0T ?_ | refine x_put1T ?_ | refine x_putAllT ?_
          refine r_nil hK71 ?_
          refine hK70 _ _ (Ghost.refl _) ?_
          refine a_seq fun K72 hK72 => ?_
          refine a_region rfl fun K73 hK73 => ?_
          first | refine x_ldM ?_ | refine x_ldMR ?_ | refine x_load ?_
          refine x_call (s_laws_toModel ?_ ?_ ?_) ?_ (hl := by first | rfl | (repeat (first | exact lendL_nil | refine lendL_cons (by first | rfl | exact lend_ref rfl (ro_eL (by intro _; first | rfl | exact roL_cL (by intro _; rfl))) | exact lend_refp rfl (ro_eL (by intro _; first | rfl | exact roL_cL (by intro _; rfl))) | exact lend_agg (by repeat (first | exact lendL_nil | refine lendL_cons (by first | rfl | exact lend_ref rfl (ro_eL (by intro _; first | rfl | exact roL_cL (by intro _; rfl))) | exact lend_refp rfl (ro_eL (by intro _; first | rfl | exact roL_cL (by intro _; rfl)))) ?_))) ?_)))
          ·
            first | omega | (intro b hbm; have := (hk (by omega)).2.2 b hbm; omega) | (intro b hbm; have := (hk2 (by omega)).2.2 b hbm; omega)
          ·
            first | omega | (intro b hbm; have := (hk (by omega)).2.2 b hbm; omega) | (intro b hbm; have := (hk2 (by omega)).2.2 b hbm; omega)
          ·
            first | omega | (intro b hbm; have := (hk (by omega)).2.2 b hbm; omega) | (intro b hbm; have := (hk2 (by omega)).2.2 b hbm; omega)
          rintro _ _ rfl
          refine x_alloc ?_
          first | refine x_put0 ?_ | refine x_put1 ?_ | refine x_put2 ?_ | refine x_put3 ?_ | refine x_putAll ?_ | refine x_put0R ?_ | refine x_put1R ?_ | refine x_putM ?_ | refine x_put0T ?_ | refine x_put1T ?_ | refine x_putAllT ?_
          refine r_nil hK73 ?_
          refine hK72 _ _ (ghost_has (ks := [(2, .ref 2 []), (3, .ref 3 []), (6, .v _), (7, .ref 7 []), (8, .ref 8 [])]) (km := [(0, _), (1, _), (2, _), (3, _), (7, _), (8, _), (24, _)]) ⟨rfl, rfl, rfl, rfl, rfl, trivial⟩ ⟨rfl, rfl, rfl, rfl, rfl, rfl, rfl, trivial⟩ rfl) ?_
          refine a_seq fun K74 hK74 => ?_
          refine a_region rfl fun K75 hK75 => ?_
          first | refine x_ldM ?_ | refine x_ldMR ?_ | refine x_load ?_
          first | refine x_ldM ?_ | refine x_ldMR ?_ | refine x_load ?_
          refine x_call (s_impl_SameModel ?_ ?_ ?_) ?_ (hl := by first | rfl | (repeat (first | exact lendL_nil | refine lendL_cons (by first | rfl | exact lend_ref rfl (ro_eL (by intro _; first | rfl | exact roL_cL (by intro _; rfl))) | exact lend_refp rfl (ro_eL (by intro _; first | rfl | exact roL_cL (by intro _; rfl))) | exact lend_agg (by repeat (first | exact lendL_nil | refine lendL_cons (by first | rfl | exact lend_ref rfl (ro_eL (by intro _; first | rfl | exact roL_cL (by intro _; rfl))) | exact lend_refp rfl (ro_eL (by intro _; first | rfl | exact roL_cL (by intro _; rfl)))) ?_))) ?_)))
          ·
            first | omega | (intro b hbm; have := (hk (by omega)).2.2 b hbm; omega) | (intro b hbm; have := (hk2 (by omega)).2.2 b hbm; omega)
          ·
            first | omega | (intro b hbm; have := (hk (by omega)).2.2 b hbm; omega) | (intro b hbm; have := (hk2 (by omega)).2.2 b hbm; omega)
          ·
            first | omega | (intro b hbm; have := (hk (by omega)).2.2 b hbm; omega) | (intro b hbm; have := (hk2 (by omega)).2.2 b hbm; omega)
          rintro _ _ rfl
          refine x_assign ?_
          refine r_nil hK75 ?_
          refine hK74 _ _ (Ghost.refl _) ?_
          refine a_seq fun K76 hK76 => ?_
          refine a_seq fun K77 hK77 => ?_
          refine a_region rfl fun K78 hK78 => ?_
          refine x_move ?_
          refine x_move ?_
          refine x_bin ?_
          refine r_nil hK78 ?_
          refine hK77 _ _ (Ghost.refl _) ?_
          refine a_condP rfl (by first | exact .beq | exact .bne | exact .dec | exact .not .beq | exact .not .bne | exact .not .dec | exact .not .id | exact .id) (fun h79 => ?_) (fun h79 => ?_)
          · skip
            refine a_seq fun K80 hK80 => ?_
            refine a_region rfl fun K81 hK81 => ?_
            refine x_assign ?_
            refine r_nil hK81 ?_
            refine hK80 _ _ (Ghost.refl _) ?_
            refine a_ret ?_
            refine then_ret ?_
            refine leave_val (.inr rfl) rfl rfl rfl (congrArg (fun z => V.val (.bool z)) ?_)
            first | rfl | omega | assumption | (simp; done) | (simp_all; done)
          · skip
            refine a_skip ?_
            refine hK76 _ _ (Ghost.refl _) ?_
            refine a_seq fun K82 hK82 => ?_
            refine a_seq fun K83 hK83 => ?_
            refine a_drawAllG (n := 5) (ms := [15, 7, 2, 0, 0]) rfl (by decide +kernel) (by decide +kernel) (by decide +kernel) fun K84 hK84 => ?_
            refine w_allG (l := [0, 1]) (by decide +kernel) ⟨?_, ?_, trivial⟩
            · skip
              first | refine x_ldM ?_ | refine x_ldMR ?_ | refine x_load ?_
              refine w_end ?_
              refine w_allG (l := [1]) (by decide +kernel) ⟨?_, trivial⟩
              first | refine x_ldM ?_ | refine x_ldMR ?_ | refine x_load ?_
              refine w_end ?_
              refine w_allG (l := [2]) (by decide +kernel) ⟨?_, trivial⟩
              refine x_call (s_laws_toModel ?_ ?_ ?_) ?_ (hl := by first | rfl | (repeat (first | exact lendL_nil | refine lendL_cons (by first | rfl | exact lend_ref rfl (ro_eL (by intro _; first | rfl | exact roL_cL (by intro _; rfl))) | exact lend_refp rfl (ro_eL (by intro _; first | rfl | exact roL_cL (by intro _; rfl))) | exact lend_agg (by repeat (first | exact lendL_nil | refine lendL_cons (by first | rfl | exact lend_ref rfl (ro_eL (by intro _; first | rfl | exact roL_cL (by intro _; rfl))) | exact lend_refp rfl (ro_eL (by intro _; first | rfl | exact roL_cL (by intro _; rfl)))) ?_))) ?_)))
              ·
                first | omega | (intro b hbm; have := (hk (by omega)).2.2 b hbm; omega) | (intro b hbm; have := (hk2 (by omega)).2.2 b hbm; omega)
              ·
                first | omega | (intro b hbm; have := (hk (by omega)).2.2 b hbm; omega) | (intro b hbm; have := (hk2 (by omega)).2.2 b hbm; omega)
              ·
                first | omega | (intro b hbm; have := (hk (by omega)).2.2 b hbm; omega) | (intro b hbm; have := (hk2 (by omega)).2.2 b hbm; omega)
              rintro _ _ rfl
              refine w_end ?_
              refine w_allG (l := [3]) (by decide +kernel) ⟨?_, trivial⟩
              refine x_call (s_laws_eqModel ?_ ?_ ?_) ?_ (hl := by first | rfl | (repeat (first | exact lendL_nil | refine lendL_cons (by first | rfl | exact lend_ref rfl (ro_eL (by intro _; first | rfl | exact roL_cL (by intro _; rfl))) | exact lend_refp rfl (ro_eL (by intro _; first | rfl | exact roL_cL (by intro _; rfl))) | exact lend_agg (by repeat (first | exact lendL_nil | refine lendL_cons (by first | rfl | exact lend_ref rfl (ro_eL (by intro _; first | rfl | exact roL_cL (by intro _; rfl))) | exact lend_refp rfl (ro_eL (by intro _; first | rfl | exact roL_cL (by intro _; rfl)))) ?_))) ?_)))
              ·
                first | omega | (intro b hbm; have := (hk (by omega)).2.2 b hbm; omega) | (intro b hbm; have := (hk2 (by omega)).2.2 b hbm; omega)
              ·
                first | omega | (intro b hbm; have := (hk (by omega)).2.2 b hbm; omega) | (intro b hbm; have := (hk2 (by omega)).2.2 b hbm; omega)
              ·
                first | omega | (intro b hbm; have := (hk (by omega)).2.2 b hbm; omega) | (intro b hbm; have := (hk2 (by omega)).2.2 b hbm; omega)
              rintro _ _ rfl
              refine w_end ?_
              refine w_allG (l := [4]) (by decide +kernel) ⟨?_, trivial⟩
              refine x_un ?_
              refine w_end ?_
              refine w_doneG hK84 ?_
              refine hK83 _ _ (ghost_has (ks := [(3, .ref 3 []), (8, .ref 8 []), (39, .v _)]) (km := [(0, _), (1, _), (3, _), (8, _)]) ⟨rfl, rfl, rfl, trivial⟩ ⟨rfl, rfl, rfl, rfl, trivial⟩ rfl) ?_
              refine a_condP rfl (by first | exact .beq | exact .bne | exact .dec | exact .not .beq | exact .not .bne | exact .not .dec | exact .not .id | exact .id) (fun h85 => ?_) (fun h85 => ?_)
              · skip
                refine a_seq fun K86 hK86 => ?_
                refine a_region rfl fun K87 hK87 => ?_
                refine x_assign ?_
                refine r_nil hK87 ?_
                refine hK86 _ _ (Ghost.refl _) ?_
                refine a_ret ?_
                refine then_ret ?_
                refine leave_val (.inr rfl) rfl rfl rfl (congrArg (fun z => V.val (.bool z)) ?_)
                first | rfl | omega | assumption | (simp; done) | (simp_all; done)
              · skip
                refine a_skip ?_
                refine hK82 _ _ (Ghost.refl _) ?_
                refine a_seq fun K88 hK88 => ?_
                refine a_seq fun K89 hK89 => ?_
                refine a_drawAllG (n := 5) (ms := [15, 7, 2, 0, 0]) rfl (by decide +kernel) (by decide +kernel) (by decide +kernel) fun K90 hK90 => ?_
                refine w_allG (l := [0, 1]) (by decide +kernel) ⟨?_, ?_, trivial⟩
                · skip
                  first | refine x_ldM ?_ | refine x_ldMR ?_ | refine x_load ?_
                  refine w_end ?_
                  refine w_allG (l := [1]) (by decide +kernel) ⟨?_, trivial⟩
                  first | refine x_ldM ?_ | refine x_ldMR ?_ | refine x_load ?_
                  refine w_end ?_
                  refine w_allG (l := [2]) (by decide +kernel) ⟨?_, trivial⟩
                  refine x_call (s_laws_toModel ?_ ?_ ?_) ?_ (hl := by first | rfl | (repeat (first | exact lendL_nil | refine lendL_cons (by first | rfl | exact lend_ref rfl (ro_eL (by intro _; first | rfl | exact roL_cL (by intro _; rfl))) | exact lend_refp rfl (ro_eL (by intro _; first | rfl | exact roL_cL (by intro _; rfl))) | exact lend_agg (by repeat (first | exact lendL_nil | refine lendL_cons (by first | rfl | exact lend_ref rfl (ro_eL (by intro _; first | rfl | exact roL_cL (by intro _; rfl))) | exact lend_refp rfl (ro_eL (by intro _; first | rfl | exact roL_cL (by intro _; rfl)))) ?_))) ?_)))
                  ·
                    first | omega | (intro b hbm; have := (hk (by omega)).2.2 b hbm; omega) | (intro b hbm; have := (hk2 (by omega)).2.2 b hbm; omega)
                  ·
                    first | omega | (intro b hbm; have := (hk (by omega)).2.2 b hbm; omega) | (intro b hbm; have := (hk2 (by omega)).2.2 b hbm; omega)
                  ·
                    first | omega | (intro b hbm; have := (hk (by omega)).2.2 b hbm; omega) | (intro b hbm; have := (hk2 (by omega)).2.2 b hbm; omega)
                  rintro _ _ rfl
                  refine w_end ?_
                  refine w_allG (l := [3]) (by decide +kernel) ⟨?_, trivial⟩
                  refine x_call (s_laws_eqModel ?_ ?_ ?_) ?_ (hl := by first | rfl | (repeat (first | exact lendL_nil | refine lendL_cons (by first | rfl | exact lend_ref rfl (ro_eL (by intro _; first | rfl | exact roL_cL (by intro _; rfl))) | exact lend_refp rfl (ro_eL (by intro _; first | rfl | exact roL_cL (by intro _; rfl))) | exact lend_agg (by repeat (first | exact lendL_nil | refine lendL_cons (by first | rfl | exact lend_ref rfl (ro_eL (by intro _; first | rfl | exact roL_cL (by intro _; rfl))) | exact lend_refp rfl (ro_eL (by intro _; first | rfl | exact roL_cL (by intro _; rfl)))) ?_))) ?_)))
                  ·
                    first | omega | (intro b hbm; have := (hk (by omega)).2.2 b hbm; omega) | (intro b hbm; have := (hk2 (by omega)).2.2 b hbm; omega)
                  ·
                    first | omega | (intro b hbm; have := (hk (by omega)).2.2 b hbm; omega) | (intro b hbm; have := (hk2 (by omega)).2.2 b hbm; omega)
                  ·
                    first | omega | (intro b hbm; have := (hk (by omega)).2.2 b hbm; omega) | (intro b hbm; have := (hk2 (by omega)).2.2 b hbm; omega)
                  rintro _ _ rfl
                  refine w_end ?_
                  refine w_allG (l := [4]) (by decide +kernel) ⟨?_, trivial⟩
                  refine x_un ?_
                  refine w_end ?_
                  refine w_doneG hK90 ?_
                  refine hK89 _ _ (Ghost.refl _) ?_
                  refine a_condP rfl (by first | exact .beq | exact .bne | exact .dec | exact .not .beq | exact .not .bne | exact .not .dec | exact .not .id | exact .id) (fun h91 => ?_) (fun h91 => ?_)
                  · skip
                    refine a_seq fun K92 hK92 => ?_
                    refine a_region rfl fun K93 hK93 => ?_
                    refine x_assign ?_
                    refine r_nil hK93 ?_
                    refine hK92 _ _ (Ghost.refl _) ?_
                    refine a_ret ?_
                    refine then_ret ?_
                    refine leave_val (.inr rfl) rfl rfl rfl (congrArg (fun z => V.val (.bool z)) ?_)
                    first | rfl | omega | assumption | (simp; done) | (simp_all; done)
                  · skip
                    refine a_skip ?_
                    refine hK88 _ _ (Ghost.refl _) ?_
                    refine a_seq fun K94 hK94 => ?_
                    refine a_region rfl fun K95 hK95 => ?_
                    refine x_assign ?_
                    refine r_nil hK95 ?_
                    refine hK94 _ _ (Ghost.refl _) ?_
                    refine a_ret ?_
                    refine leave_val (.inr rfl) rfl rfl rfl (congrArg (fun z => V.val (.bool z)) ?_)
                    first | rfl | omega | assumption | (simp; done) | (simp_all; done)
                · skip
                  first | refine x_ldM ?_ | refine x_ldMR ?_ | refine x_load ?_
                  refine w_end ?_
                  refine w_allG (l := [2]) (by decide +kernel) ⟨?_, trivial⟩
                  refine x_call (s_laws_toModel ?_ ?_ ?_) ?_ (hl := by first | rfl | (repeat (first | exact lendL_nil | refine lendL_cons (by first | rfl | exact lend_ref rfl (ro_eL (by intro _; first | rfl | exact roL_cL (by intro _; rfl))) | exact lend_refp rfl (ro_eL (by intro _; first | rfl | exact roL_cL (by intro _; rfl))) | exact lend_agg (by repeat (first | exact lendL_nil | refine lendL_cons (by first | rfl | exact lend_ref rfl (ro_eL (by intro _; first | rfl | exact roL_cL (by intro _; rfl))) | exact lend_refp rfl (ro_eL (by intro _; first | rfl | exact roL_cL (by intro _; rfl)))) ?_))) ?_)))
                  ·
                    first | omega | (intro b hbm; have := (hk (by omega)).2.2 b hbm; omega) | (intro b hbm; have := (hk2 (by omega)).2.2 b hbm; omega)
                  ·
                    first | omega | (intro b hbm; have := (hk (by omega)).2.2 b hbm; omega) | (intro b hbm; have := (hk2 (by omega)).2.2 b hbm; omega)
                  ·
                    first | omega | (intro b hbm; have := (hk (by omega)).2.2 b hbm; omega) | (intro b hbm; have := (hk2 (by omega)).2.2 b hbm; omega)
                  rintro _ _ rfl
                  refine w_end ?_
                  refine w_allG (l := [0]) (by decide +kernel) ⟨?_, trivial⟩
                  first | refine x_ldM ?_ | refine x_ldMR ?_ | refine x_load ?_
                  refine w_end ?_
                  refine w_allG (l := [3]) (by decide +kernel) ⟨?_, trivial⟩
                  refine x_call (s_laws_eqModel ?_ ?_ ?_) ?_ (hl := by first | rfl | (repeat (first | exact lendL_nil | refine lendL_cons (by first | rfl | exact lend_ref rfl (ro_eL (by intro _; first | rfl | exact roL_cL (by intro _; rfl))) | exact lend_refp rfl (ro_eL (by intro _; first | rfl | exact roL_cL (by intro _; rfl))) | exact lend_agg (by repeat (first | exact lendL_nil | refine lendL_cons (by first | rfl | exact lend_ref rfl (ro_eL (by intro _; first | rfl | exact roL_cL (by intro _; rfl))) | exact lend_refp rfl (ro_eL (by intro _; first | rfl | exact roL_cL (by intro _; rfl)))) ?_))) ?_)))
                  ·
                    first | omega | (intro b hbm; have := (hk (by omega)).2.2 b hbm; omega) | (intro b hbm; have := (hk2 (by omega)).2.2 b hbm; omega)
                  ·
                    first | omega | (intro b hbm; have := (hk (by omega)).2.2 b hbm; omega) | (intro b hbm; have := (hk2 (by omega)).2.2 b hbm; omega)
                  ·
                    first | omega | (intro b hbm; have := (hk (by omega)).2.2 b hbm; omega) | (intro b hbm; have := (hk2 (by omega)).2.2 b hbm; omega)
                  rintro _ _ rfl
                  refine w_end ?_
                  refine w_allG (l := [4]) (by decide +kernel) ⟨?_, trivial⟩
                  refine x_un ?_
                  refine w_end ?_
                  refine w_doneG hK90 ?_
                  refine hK89 _ _ (Ghost.refl _) ?_
                  refine a_condP rfl (by first | exact .beq | exact .bne | exact .dec | exact .not .beq | exact .not .bne | exact .not .dec | exact .not .id | exact .id) (fun h96 => ?_) (fun h96 => ?_)
                  · skip
                    refine a_seq fun K97 hK97 => ?_
                    refine a_region rfl fun K98 hK98 => ?_
                    refine x_assign ?_
                    refine r_nil hK98 ?_
                    refine hK97 _ _ (Ghost.refl _) ?_
                    refine a_ret ?_
                    refine then_ret ?_
                    refine leave_val (.inr rfl) rfl rfl rfl (congrArg (fun z => V.val (.bool z)) ?_)
                    first | rfl | omega | assumption | (simp; done) | (simp_all; done)
                  · skip
                    refine a_skip ?_
                    refine hK88 _ _ (Ghost.refl _) ?_
                    refine a_seq fun K99 hK99 => ?_
                    refine a_region rfl fun K100 hK100 => ?_
                    refine x_assign ?_
                    refine r_nil hK100 ?_
                    refine hK99 _ _ (Ghost.refl _) ?_
                    refine a_ret ?_
                    refine leave_val (.inr rfl) rfl rfl rfl (congrArg (fun z => V.val (.bool z)) ?_)
                    first | rfl | omega | assumption | (simp; done) | (simp_all; done)
            · skip
              first | refine x_ldM ?_ | refine x_ldMR ?_ | refine x_load ?_
              refine w_end ?_
              refine w_allG (l := [2]) (by decide +kernel) ⟨?_, trivial⟩
              refine x_call (s_laws_toModel ?_ ?_ ?_) ?_ (hl := by first | rfl | (repeat (first | exact lendL_nil | refine lendL_cons (by first | rfl | exact lend_ref rfl (ro_eL (by intro _; first | rfl | exact roL_cL (by intro _; rfl))) | exact lend_refp rfl (ro_eL (by intro _; first | rfl | exact roL_cL (by intro _; rfl))) | exact lend_agg (by repeat (first | exact lendL_nil | refine lendL_cons (by first | rfl | exact lend_ref rfl (ro_eL (by intro _; first | rfl | exact roL_cL (by intro _; rfl))) | exact lend_refp rfl (ro_eL (by intro _; first | rfl | exact roL_cL (by intro _; rfl)))) ?_))) ?_)))
              ·
                first | omega | (intro b hbm; have := (hk (by omega)).2.2 b hbm; omega) | (intro b hbm; have := (hk2 (by omega)).2.2 b hbm; omega)
              ·
                first | omega | (intro b hbm; have := (hk (by omega)).2.2 b hbm; omega) | (intro b hbm; have := (hk2 (by omega)).2.2 b hbm; omega)
              ·
                first | omega | (intro b hbm; have := (hk (by omega)).2.2 b hbm; omega) | (intro b hbm; have := (hk2 (by omega)).2.2 b hbm; omega)
              rintro _ _ rfl
              refine w_end ?_
              refine w_allG (l := [0]) (by decide +kernel) ⟨?_, trivial⟩
              first | refine x_ldM ?_ | refine x_ldMR ?_ | refine x_load ?_
              refine w_end ?_
              refine w_allG (l := [3]) (by decide +kernel) ⟨?_, trivial⟩
              refine x_call (s_laws_eqModel ?_ ?_ ?_) ?_ (hl := by first | rfl | (repeat (first | exact lendL_nil | refine lendL_cons (by first | rfl | exact lend_ref rfl (ro_eL (by intro _; first | rfl | exact roL_cL (by intro _; rfl))) | exact lend_refp rfl (ro_eL (by intro _; first | rfl | exact roL_cL (by intro _; rfl))) | exact lend_agg (by repeat (first | exact lendL_nil | refine lendL_cons (by first | rfl | exact lend_ref rfl (ro_eL (by intro _; first | rfl | exact roL_cL (by intro _; rfl))) | exact lend_refp rfl (ro_eL (by intro _; first | rfl | exact roL_cL (by intro _; rfl)))) ?_))) ?_)))
              ·
                first | omega | (intro b hbm; have := (hk (by omega)).2.2 b hbm; omega) | (intro b hbm; have := (hk2 (by omega)).2.2 b hbm; omega)
              ·
                first | omega | (intro b hbm; have := (hk (by omega)).2.2 b hbm; omega) | (intro b hbm; have := (hk2 (by omega)).2.2 b hbm; omega)
              ·
                first | omega | (intro b hbm; have := (hk (by omega)).2.2 b hbm; omega) | (intro b hbm; have := (hk2 (by omega)).2.2 b hbm; omega)
              rintro _ _ rfl
              refine w_end ?_
              refine w_allG (l := [4]) (by decide +kernel) ⟨?_, trivial⟩
              refine x_un ?_
              refine w_end ?_
              refine w_doneG hK84 ?_
              refine hK83 _ _ (ghost_has (ks := [(3, .ref 3 []), (8, .ref 8 []), (39, .v _)]) (km := [(0, _), (1, _), (3, _), (8, _)]) ⟨rfl, rfl, rfl, trivial⟩ ⟨rfl, rfl, rfl, rfl, trivial⟩ rfl) ?_
              refine a_condP rfl (by first | exact .beq | exact .bne | exact .dec | exact .not .beq | exact .not .bne | exact .not .dec | exact .not .id | exact .id) (fun h101 => ?_) (fun h101 => ?_)
              · skip
                refine a_seq fun K102 hK102 => ?_
                refine a_region rfl fun K103 hK103 => ?_
                refine x_assign ?_
                refine r_nil hK103 ?_
                refine hK102 _ _ (Ghost.refl _) ?_
                refine a_ret ?_
                refine then_ret ?_
                refine leave_val (.inr rfl) rfl rfl rfl (congrArg (fun z => V.val (.bool z)) ?_)
                first | rfl | omega | assumption | (simp; done) | (simp_all; done)
              · skip
                refine a_skip ?_
                refine hK82 _ _ (Ghost.refl _) ?_
                refine a_seq fun K104 hK104 => ?_
                refine a_seq fun K105 hK105 => ?_
                refine a_drawAllG (n := 5) (ms := [15, 7, 2, 0, 0]) rfl (by decide +kernel) (by decide +kernel) (by decide +kernel) fun K106 hK106 => ?_
                refine w_allG (l := [0, 1]) (by decide +kernel) ⟨?_, ?_, trivial⟩
                · skip
                  first | refine x_ldM ?_ | refine x_ldMR ?_ | refine x_load ?_
                  refine w_end ?_
                  refine w_allG (l := [1]) (by decide +kernel) ⟨?_, trivial⟩
                  first | refine x_ldM ?_ | refine x_ldMR ?_ | refine x_load ?_
                  refine w_end ?_
                  refine w_allG (l := [2]) (by decide +kernel) ⟨?_, trivial⟩
                  refine x_call (s_laws_toModel ?_ ?_ ?_) ?_ (hl := by first | rfl | (repeat (first | exact lendL_nil | refine lendL_cons (by first | rfl | exact lend_ref rfl (ro_eL (by intro _; first | rfl | exact roL_cL (by intro _; rfl))) | exact lend_refp rfl (ro_eL (by intro _; first | rfl | exact roL_cL (by intro _; rfl))) | exact lend_agg (by repeat (first | exact lendL_nil | refine lendL_cons (by first | rfl | exact lend_ref rfl (ro_eL (by intro _; first | rfl | exact roL_cL (by intro _; rfl))) | exact lend_refp rfl (ro_eL (by intro _; first | rfl | exact roL_cL (by intro _; rfl)))) ?_))) ?_)))
                  ·
                    first | omega | (intro b hbm; have := (hk (by omega)).2.2 b hbm; omega) | (intro b hbm; have := (hk2 (by omega)).2.2 b hbm; omega)
                  ·
                    first | omega | (intro b hbm; have := (hk (by omega)).2.2 b hbm; omega) | (intro b hbm; have := (hk2 (by omega)).2.2 b hbm; omega)
                  ·
                    first | omega | (intro b hbm; have := (hk (by omega)).2.2 b hbm; omega) | (intro b hbm; have := (hk2 (by omega)).2.2 b hbm; omega)
                  rintro _ _ rfl
                  refine w_end ?_
                  refine w_allG (l := [3]) (by decide +kernel) ⟨?_, trivial⟩
                  refine x_call (s_laws_eqModel ?_ ?_ ?_) ?_ (hl := by first | rfl | (repeat (first | exact lendL_nil | refine lendL_cons (by first | rfl | exact lend_ref rfl (ro_eL (by intro _; first | rfl | exact roL_cL (by intro _; rfl))) | exact lend_refp rfl (ro_eL (by intro _; first | rfl | exact roL_cL (by intro _; rfl))) | exact lend_agg (by repeat (first | exact lendL_nil | refine lendL_cons (by first | rfl | exact lend_ref rfl (ro_eL (by intro _; first | rfl | exact roL_cL (by intro _; rfl))) | exact lend_refp rfl (ro_eL (by intro _; first | rfl | exact roL_cL (by intro _; rfl)))) ?_))) ?_)))
                  ·
                    first | omega | (intro b hbm; have := (hk (by omega)).2.2 b hbm; omega) | (intro b hbm; have := (hk2 (by omega)).2.2 b hbm; omega)
                  ·
                    first | omega | (intro b hbm; have := (hk (by omega)).2.2 b hbm; omega) | (intro b hbm; have := (hk2 (by omega)).2.2 b hbm; omega)
                  ·
                    first | omega | (intro b hbm; have := (hk (by omega)).2.2 b hbm; omega) | (intro b hbm; have := (hk2 (by omega)).2.2 b hbm; omega)
                  rintro _ _ rfl
                  refine w_end ?_
                  refine w_allG (l := [4]) (by decide +kernel) ⟨?_, trivial⟩
                  refine x_un ?_
                  refine w_end ?_
                  refine w_doneG hK106 ?_
                  refine hK105 _ _ (Ghost.refl _) ?_
                  refine a_condP rfl (by first | exact .beq | exact .bne | exact .dec | exact .not .beq | exact .not .bne | exact .not .dec | exact .not .id | exact .id) (fun h107 => ?_) (fun h107 => ?_)
                  · skip
                    refine a_seq fun K108 hK108 => ?_
                    refine a_region rfl fun K109 hK109 => ?_
                    refine x_assign ?_
                    refine r_nil hK109 ?_
                    refine hK108 _ _ (Ghost.refl _) ?_
                    refine a_ret ?_
                    refine then_ret ?_
                    refine leave_val (.inr rfl) rfl rfl rfl (congrArg (fun z => V.val (.bool z)) ?_)
                    first | rfl | omega | assumption | (simp; done) | (simp_all; done)
                  · skip
                    refine a_skip ?_
                    refine hK104 _ _ (Ghost.refl _) ?_
                    refine a_seq fun K110 hK110 => ?_
                    refine a_region rfl fun K111 hK111 => ?_
                    refine x_assign ?_
                    refine r_nil hK111 ?_
                    refine hK110 _ _ (Ghost.refl _) ?_
                    refine a_ret ?_
                    refine leave_val (.inr rfl) rfl rfl rfl (congrArg (fun z => V.val (.bool z)) ?_)
                    first | rfl | omega | assumption | (simp; done) | (simp_all; done)
                · skip
                  first | refine x_ldM ?_ | refine x_ldMR ?_ | refine x_load ?_
                  refine w_end ?_
                  refine w_allG (l := [2]) (by decide +kernel) ⟨?_, trivial⟩
                  refine x_call (s_laws_toModel ?_ ?_ ?_) ?_ (hl := by first | rfl | (repeat (first | exact lendL_nil | refine lendL_cons (by first | rfl | exact lend_ref rfl (ro_eL (by intro _; first | rfl | exact roL_cL (by intro _; rfl))) | exact lend_refp rfl (ro_eL (by intro _; first | rfl | exact roL_cL (by intro _; rfl))) | exact lend_agg (by repeat (first | exact lendL_nil | refine lendL_cons (by first | rfl | exact lend_ref rfl (ro_eL (by intro _; first | rfl | exact roL_cL (by intro _; rfl))) | exact lend_refp rfl (ro_eL (by intro _; first | rfl | exact roL_cL (by intro _; rfl)))) ?_))) ?_)))
                  ·
                    first | omega | (intro b hbm; have := (hk (by omega)).2.2 b hbm; omega) | (intro b hbm; have := (hk2 (by omega)).2.2 b hbm; omega)
                  ·
                    first | omega | (intro b hbm; have := (hk (by omega)).2.2 b hbm; omega) | (intro b hbm; have := (hk2 (by omega)).2.2 b hbm; omega)
                  ·
                    first | omega | (intro b hbm; have := (hk (by omega)).2.2 b hbm; omega) | (intro b hbm; have := (hk2 (by omega)).2.2 b hbm; omega)
                  rintro _ _ rfl
                  refine w_end ?_
                  refine w_allG (l := [0]) (by decide +kernel) ⟨?_, trivial⟩
                  first | refine x_ldM ?_ | refine x_ldMR ?_ | refine x_load ?_
                  refine w_end ?_
                  refine w_allG (l := [3]) (by decide +kernel) ⟨?_, trivial⟩
                  refine x_call (s_laws_eqModel ?_ ?_ ?_) ?_ (hl := by first | rfl | (repeat (first | exact lendL_nil | refine lendL_cons (by first | rfl | exact lend_ref rfl (ro_eL (by intro _; first | rfl | exact roL_cL (by intro _; rfl))) | exact lend_refp rfl (ro_eL (by intro _; first | rfl | exact roL_cL (by intro _; rfl))) | exact lend_agg (by repeat (first | exact lendL_nil | refine lendL_cons (by first | rfl | exact lend_ref rfl (ro_eL (by intro _; first | rfl | exact roL_cL (by intro _; rfl))) | exact lend_refp rfl (ro_eL (by intro _; first | rfl | exact roL_cL (by intro _; rfl)))) ?_))) ?_)))
                  ·
                    first | omega | (intro b hbm; have := (hk (by omega)).2.2 b hbm; omega) | (intro b hbm; have := (hk2 (by omega)).2.2 b hbm; omega)
                  ·
                    first | omega | (intro b hbm; have := (hk (by omega)).2.2 b hbm; omega) | (intro b hbm; have := (hk2 (by omega)).2.2 b hbm; omega)
                  ·
                    first | omega | (intro b hbm; have := (hk (by omega)).2.2 b hbm; omega) | (intro b hbm; have := (hk2 (by omega)).2.2 b hbm; omega)
                  rintro _ _ rfl
                  refine w_end ?_
                  refine w_allG (l := [4]) (by decide +kernel) ⟨?_, trivial⟩
                  refine x_un ?_
                  refine w_end ?_
                  refine w_doneG hK106 ?_
                  refine hK105 _ _ (Ghost.refl _) ?_
                  refine a_condP rfl (by first | exact .beq | exact .bne | exact .dec | exact .not .beq | exact .not .bne | exact .not .dec | exact .not .id | exact .id) (fun h112 => ?_) (fun h112 => ?_)
                  · skip
                    refine a_seq fun K113 hK113 => ?_
                    refine a_region rfl fun K114 hK114 => ?_
                    refine x_assign ?_
                    refine r_nil hK114 ?_
                    refine hK113 _ _ (Ghost.refl _) ?_
                    refine a_ret ?_
                    refine then_ret ?_
                    refine leave_val (.inr rfl) rfl rfl rfl (congrArg (fun z => V.val (.bool z)) ?_)
                    first | rfl | omega | assumption | (simp; done) | (simp_all; done)
                  · skip
                    refine a_skip ?_
                    refine hK104 _ _ (Ghost.refl _) ?_
                    refine a_seq fun K115 hK115 => ?_
                    refine a_region rfl fun K116 hK116 => ?_
                    refine x_assign ?_
                    refine r_nil hK116 ?_
                    refine hK115 _ _ (Ghost.refl _) ?_
                    refine a_ret ?_
                    refine leave_val (.inr rfl) rfl rfl rfl (congrArg (fun z => V.val (.bool z)) ?_)
                    first | rfl | omega | assumption | (simp; done) | (simp_all; done)
      · skip
        first | refine x_ldM ?_ | refine x_ldMR ?_ | refine x_load ?_
        refine w_end ?_
        exact w_allG (l := []) (by decide +kernel) trivial
end Go.T
