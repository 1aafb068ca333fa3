import Derived.Test.YtnebclliacjjkabChecked
import Derived.Test.YtnebclliacjjkabPlain
/- What the functions that the law reaches compute. -/
set_option linter.unusedVariables false
set_option linter.unusedSimpArgs false
namespace Go.T
open Go Go.E Go.Proofs
theorem tabOk : [2, 3, 4, 5, 9, 21, 24, 25, 27, 30, 36, 39, 56, 57, 59, 60, 69, 70, 85, 86, 89, 92].map (TI.of Try.prog) = [⟨.int .i64, 1, 8, [.int .i64 0]⟩, ⟨.int .i64, 1, 8, [.int .i64 0]⟩, ⟨.bool, 1, 1, [.bool false]⟩, ⟨.int .u8, 1, 1, [.int .u8 0]⟩, ⟨.string, 1, 16, [.string ByteArray.empty]⟩, ⟨.int .i32, 1, 4, [.int .i32 0]⟩, ⟨.slice 3, 1, 24, [.slice none 0 0]⟩, ⟨.slice 24, 1, 24, [.slice none 0 0]⟩, ⟨.strct [(0, 24), (1, 25), (2, 3)], 3, 56, [.slice none 0 0, .slice none 0 0, .int .i64 0]⟩, ⟨.strct [(0, 24), (1, 25), (2, 3)], 3, 56, [.slice none 0 0, .slice none 0 0, .int .i64 0]⟩, ⟨.slice 59, 1, 24, [.slice none 0 0]⟩, ⟨.slice 57, 1, 24, [.slice none 0 0]⟩, ⟨.strct [(0, 3), (1, 3), (2, 3), (3, 3)], 4, 32, [.int .i64 0, .int .i64 0, .int .i64 0, .int .i64 0]⟩, ⟨.strct [(0, 3), (1, 3), (2, 3), (3, 3)], 4, 32, [.int .i64 0, .int .i64 0, .int .i64 0, .int .i64 0]⟩, ⟨.strct [(0, 3), (1, 3), (2, 3), (3, 3)], 4, 32, [.int .i64 0, .int .i64 0, .int .i64 0, .int .i64 0]⟩, ⟨.ptr, 1, 8, [.pointer none]⟩, ⟨.ptr, 1, 8, [.pointer none]⟩, ⟨.slice 5, 1, 24, [.slice none 0 0]⟩, ⟨.strct [(0, 3), (1, 3), (2, 60), (3, 60)], 4, 32, [.int .i64 0, .int .i64 0, .pointer none, .pointer none]⟩, ⟨.int .u32, 1, 4, [.int .u32 0]⟩, ⟨.int .u64, 1, 8, [.int .u64 0]⟩, ⟨.ptr, 1, 8, [.pointer none]⟩].map some := by kernel_rfl
noncomputable def tab : List (Nat × TI) := [(2, ⟨.int .i64, 1, 8, [.int .i64 0]⟩), (3, ⟨.int .i64, 1, 8, [.int .i64 0]⟩), (4, ⟨.bool, 1, 1, [.bool false]⟩), (5, ⟨.int .u8, 1, 1, [.int .u8 0]⟩), (9, ⟨.string, 1, 16, [.string ByteArray.empty]⟩), (21, ⟨.int .i32, 1, 4, [.int .i32 0]⟩), (24, ⟨.slice 3, 1, 24, [.slice none 0 0]⟩), (25, ⟨.slice 24, 1, 24, [.slice none 0 0]⟩), (27, ⟨.strct [(0, 24), (1, 25), (2, 3)], 3, 56, [.slice none 0 0, .slice none 0 0, .int .i64 0]⟩), (30, ⟨.strct [(0, 24), (1, 25), (2, 3)], 3, 56, [.slice none 0 0, .slice none 0 0, .int .i64 0]⟩), (36, ⟨.slice 59, 1, 24, [.slice none 0 0]⟩), (39, ⟨.slice 57, 1, 24, [.slice none 0 0]⟩), (56, ⟨.strct [(0, 3), (1, 3), (2, 3), (3, 3)], 4, 32, [.int .i64 0, .int .i64 0, .int .i64 0, .int .i64 0]⟩), (57, ⟨.strct [(0, 3), (1, 3), (2, 3), (3, 3)], 4, 32, [.int .i64 0, .int .i64 0, .int .i64 0, .int .i64 0]⟩), (59, ⟨.strct [(0, 3), (1, 3), (2, 3), (3, 3)], 4, 32, [.int .i64 0, .int .i64 0, .int .i64 0, .int .i64 0]⟩), (60, ⟨.ptr, 1, 8, [.pointer none]⟩), (69, ⟨.ptr, 1, 8, [.pointer none]⟩), (70, ⟨.slice 5, 1, 24, [.slice none 0 0]⟩), (85, ⟨.strct [(0, 3), (1, 3), (2, 60), (3, 60)], 4, 32, [.int .i64 0, .int .i64 0, .pointer none, .pointer none]⟩), (86, ⟨.int .u32, 1, 4, [.int .u32 0]⟩), (89, ⟨.int .u64, 1, 8, [.int .u64 0]⟩), (92, ⟨.ptr, 1, 8, [.pointer none]⟩)]
noncomputable def Ev : Env := ⟨Try.prog, tabOf tab⟩
theorem evOk : Ev.Ok := Env.ok_of (tab_ok tabOk)
end Go.T
namespace Go.T
open Go Go.E Go.Proofs
set_option maxHeartbeats 8000000 in
theorem s_laws_szIntS {l : List Int} {n : Int} (hl : l.length ≤ 9223372036854775807) (hn : 0 ≤ n ∧ n ≤ 9223372036854775807) : Go.E.Spec Try.prog 27 [eL false 1 cI l, .val (.int .i64 n)] (fun r _ => ∃ k : Int, r = .val (.int .i64 k) ∧ k ≤ n ∧ (0 ≤ k → l.length ≤ n)) := by
  refine spec_of_awp (E := Ev) evOk Try.func27 (c := _) rfl (by decide) (by simp [Try.ntmps27]) ?_
  rw [Try.ntmps27, entry_mk]
  change awp Ev 2 12 _ _ (mkSt [(0, .v (eL false 1 cI l)), (1, .v (.val (.int .i64 n)))] [(0, eL false 1 cI l), (1, .val (.int .i64 n))])
  refine a_seq fun K1 hK1 => ?_
  refine a_region rfl fun K2 hK2 => ?_
  refine x_assign ?_
  refine r_nil hK2 ?_
  refine hK1 _ _ (Ghost.refl _) ?_
  refine a_seq fun K3 hK3 => ?_
  refine a_region rfl fun K4 hK4 => ?_
  refine x_move ?_
  refine x_move ?_
  refine x_len ?_
  refine x_sub ?_ ?_
  ·
    exact ⟨by omega, by omega⟩
  refine x_assign ?_
  refine r_nil hK4 ?_
  refine hK3 _ _ (Ghost.refl _) ?_
  refine a_seq fun K5 hK5 => ?_
  refine a_seq fun K6 hK6 => ?_
  refine a_region rfl fun K7 hK7 => ?_
  refine x_move ?_
  refine x_bin ?_
  refine r_nil hK7 ?_
  refine hK6 _ _ (Ghost.refl _) ?_
  refine a_condP rfl (by first | exact .beq | exact .bne | exact .dec | exact .not .beq | exact .not .bne | exact .not .dec | exact .not .id | exact .id) (fun h8 => ?_) (fun h8 => ?_)
  · skip
    refine a_seq fun K9 hK9 => ?_
    refine a_region rfl fun K10 hK10 => ?_
    refine x_assign ?_
    refine r_nil hK10 ?_
    refine hK9 _ _ (Ghost.refl _) ?_
    refine a_ret ?_
    refine then_ret ?_
    exact leave_val (.inr rfl) rfl rfl rfl ⟨_, rfl, by omega, by omega⟩
  · skip
    refine a_skip ?_
    refine hK5 _ _ (Ghost.refl _) ?_
    refine a_seq fun K11 hK11 => ?_
    refine a_region rfl fun K12 hK12 => ?_
    refine x_move ?_
    refine x_assign ?_
    refine r_nil hK12 ?_
    refine hK11 _ _ (Ghost.refl _) ?_
    refine a_ret ?_
    exact leave_val (.inr rfl) rfl rfl rfl ⟨_, rfl, by omega, by omega⟩
end Go.T
namespace Go.T
open Go Go.E Go.Proofs
set_option maxHeartbeats 8000000 in
theorem s_laws_szIntSS {l : List ((List Int))} {n : Int} (hl : l.length ≤ 9223372036854775807) (hb : ∀ b ∈ l, b.length ≤ 9223372036854775807) (hn : 0 ≤ n ∧ n ≤ 9223372036854775807) : Go.E.Spec Try.prog 28 [eL false 1 (cL false 1 cI) l, .val (.int .i64 n)] (fun r _ => ∃ k : Int, r = .val (.int .i64 k) ∧ k ≤ n ∧ (0 ≤ k → l.length ≤ n ∧ ∀ b ∈ l, (b.length : Int) ≤ n)) := by
  refine spec_of_awp (E := Ev) evOk Try.func28 (c := _) rfl (by decide) (by simp [Try.ntmps28]) ?_
  rw [Try.ntmps28, entry_mk]
  change awp Ev 2 27 _ _ (mkSt [(0, .v (eL false 1 (cL false 1 cI) l)), (1, .v (.val (.int .i64 n)))] [(0, eL false 1 (cL false 1 cI) l), (1, .val (.int .i64 n))])
  refine a_seq fun K1 hK1 => ?_
  refine a_region rfl fun K2 hK2 => ?_
  refine x_assign ?_
  refine r_nil hK2 ?_
  refine hK1 _ _ (Ghost.refl _) ?_
  refine a_seq fun K3 hK3 => ?_
  refine a_region rfl fun K4 hK4 => ?_
  refine x_move ?_
  refine x_move ?_
  refine x_len ?_
  refine x_sub ?_ ?_
  ·
    exact ⟨by omega, by omega⟩
  refine x_assign ?_
  refine r_nil hK4 ?_
  refine hK3 _ _ (Ghost.refl _) ?_
  refine a_seq fun K5 hK5 => ?_
  refine a_seq fun K6 hK6 => ?_
  refine a_region rfl fun K7 hK7 => ?_
  refine x_move ?_
  refine x_bin ?_
  refine r_nil hK7 ?_
  refine hK6 _ _ (Ghost.refl _) ?_
  refine a_condP rfl (by first | exact .beq | exact .bne | exact .dec | exact .not .beq | exact .not .bne | exact .not .dec | exact .not .id | exact .id) (fun h8 => ?_) (fun h8 => ?_)
  · skip
    refine a_seq fun K9 hK9 => ?_
    refine a_region rfl fun K10 hK10 => ?_
    refine x_assign ?_
    refine r_nil hK10 ?_
    refine hK9 _ _ (Ghost.refl _) ?_
    refine a_ret ?_
    refine then_ret ?_
    exact leave_val (.inr rfl) rfl rfl rfl ⟨_, rfl, by omega, fun h => by omega⟩
  · skip
    refine a_skip ?_
    refine hK5 _ _ (Ghost.refl _) ?_
    refine a_seq fun K11 hK11 => ?_
    refine a_seq fun K12 hK12 => ?_
    refine a_region rfl fun K13 hK13 => ?_
    refine x_assign ?_
    refine r_nil hK13 ?_
    refine hK12 _ _ (Ghost.refl _) ?_
    refine a_block fun K14 hK14 => ?_
    refine a_loopM (X := Int × Int) (fun (c, i) => ([(1, .v (.val (.int .i64 c))), (5, .v (.val (.int .i64 i)))] : List (Nat × S))) (fun (c, i) => ([] : List (Nat × V))) (fun (c, i) => (0 ≤ i ∧ i ≤ l.length) ∧ (0 ≤ c ∧ c ≤ n) ∧ (∀ b ∈ takeI l i, (b.length : Int) ≤ n)) (fun (c, i) => (l.length - i).toNat) [(0, .v _)] [(0, _), (1, _)] (_, _) (Ghost.refl _) ⟨rfl, rfl, rfl, trivial⟩ ⟨rfl, rfl, trivial⟩ (fun ⟨_, _⟩ => rfl) ?_ ?_
    ·
      try dsimp only
      refine ⟨?_, ?_, ?_⟩
      ·
        first | omega | rfl | assumption | (simp; done) | (simp_all; done)
      ·
        first | omega | rfl | assumption | (simp; done) | (simp_all; done)
      ·
        rw [takeI_zero]; simp
    ·
      rintro ⟨c, i⟩ hI15 K15 hK15
      dsimp only [List.cons_append, List.nil_append] at hI15 ⊢
      obtain ⟨hi, hc, hq⟩ := hI15
      refine a_seq fun K16 hK16 => ?_
      refine a_seq fun K17 hK17 => ?_
      refine a_region rfl fun K18 hK18 => ?_
      refine x_move ?_
      refine x_move ?_
      refine x_len ?_
      refine x_bin ?_
      refine r_nil hK18 ?_
      refine hK17 _ _ (Ghost.refl _) ?_
      refine a_condP rfl (by first | exact .beq | exact .bne | exact .dec | exact .not .beq | exact .not .bne | exact .not .dec | exact .not .id | exact .id) (fun h19 => ?_) (fun h19 => ?_)
      · skip
        refine a_skip ?_
        refine hK16 _ _ (Ghost.refl _) ?_
        refine a_seq fun K20 hK20 => ?_
        refine a_block fun K21 hK21 => ?_
        refine a_seq fun K22 hK22 => ?_
        refine a_region rfl fun K23 hK23 => ?_
        refine x_move ?_
        refine x_move ?_
        refine x_indexAddr ?_ ?_
        ·
          exact ⟨by omega, by omega⟩
        first | refine x_ldE ?_ ?_ | refine x_ldN ?_ ?_ | refine x_ldO ?_ ?_ | refine x_ldON ?_ ?_ (hf := fun x => (rfl : cN x = List.map V.val [_, _, _, _]))
        ·
          omega
        refine x_move ?_
        refine x_call (s_laws_szIntS ?_ ?_) ?_ (hl := by first | rfl | (repeat (first | exact lendL_nil | refine lendL_cons (by first | rfl | exact lend_ref rfl (ro_eL (by intro _; first | rfl | exact roL_cL (by intro _; rfl))) | exact lend_refp rfl (ro_eL (by intro _; first | rfl | exact roL_cL (by intro _; rfl))) | exact lend_agg (by repeat (first | exact lendL_nil | refine lendL_cons (by first | rfl | exact lend_ref rfl (ro_eL (by intro _; first | rfl | exact roL_cL (by intro _; rfl))) | exact lend_refp rfl (ro_eL (by intro _; first | rfl | exact roL_cL (by intro _; rfl)))) ?_))) ?_)))
        ·
          first | omega | exact hb _ (mem_get! (by omega))
        ·
          first | omega | exact hb _ (mem_get! (by omega))
        rintro _ _ ⟨k, rfl, hk0, hk⟩
        refine x_assign ?_
        refine r_nil hK23 ?_
        refine hK22 _ _ (ghost_has (ks := [(0, .v _), (1, .v _), (5, .v _)]) (km := [(0, _), (1, _), (23, _)]) ⟨rfl, rfl, rfl, trivial⟩ ⟨rfl, rfl, rfl, trivial⟩ rfl) ?_
        refine a_seq fun K24 hK24 => ?_
        refine a_region rfl fun K25 hK25 => ?_
        refine x_move ?_
        refine x_bin ?_
        refine r_nil hK25 ?_
        refine hK24 _ _ (Ghost.refl _) ?_
        refine a_condP rfl (by first | exact .beq | exact .bne | exact .dec | exact .not .beq | exact .not .bne | exact .not .dec | exact .not .id | exact .id) (fun h26 => ?_) (fun h26 => ?_)
        · skip
          refine a_seq fun K27 hK27 => ?_
          refine a_region rfl fun K28 hK28 => ?_
          refine x_assign ?_
          refine r_nil hK28 ?_
          refine hK27 _ _ (Ghost.refl _) ?_
          refine a_ret ?_
          refine hK21 .ret _ (in_ret ?_)
          refine then_ret ?_
          refine then_ret ?_
          refine hK14 .ret _ (in_ret ?_)
          refine then_ret ?_
          exact leave_val (.inr rfl) rfl rfl rfl ⟨_, rfl, by omega, fun h => by omega⟩
        · skip
          refine a_skip ?_
          refine hK21 .normal _ ?_
          refine hK20 _ _ (Ghost.refl _) ?_
          refine a_region rfl fun K29 hK29 => ?_
          refine x_move ?_
          refine x_add ?_ ?_
          ·
            exact ⟨by omega, by omega⟩
          refine x_assign ?_
          refine r_nil hK29 ?_
          refine hK15 (_, _) _ _ _ (Ghost.refl _) ⟨rfl, rfl, rfl, trivial⟩ ⟨rfl, rfl, trivial⟩ ?_ ?_
          ·
            first | omega | (dsimp only; omega)
          ·
            try dsimp only
            refine ⟨?_, ?_, ?_⟩
            ·
              first | omega | rfl | assumption | (simp; done) | (simp_all; done)
            ·
              first | omega | rfl | assumption | (simp; done) | (simp_all; done)
            ·
              exact takeI_next (by omega) (by omega) hq (by omega)
      · skip
        refine a_exit ?_
        refine then_exit ?_
        refine then_exit ?_
        refine hK14 (.exit 0) _ (in_exit ?_)
        refine hK11 _ _ (Ghost.refl _) ?_
        refine a_seq fun K30 hK30 => ?_
        refine a_region rfl fun K31 hK31 => ?_
        refine x_move ?_
        refine x_assign ?_
        refine r_nil hK31 ?_
        refine hK30 _ _ (Ghost.refl _) ?_
        refine a_ret ?_
        exact leave_val (.inr rfl) rfl rfl rfl ⟨_, rfl, by omega, fun _ => ⟨by omega, takeI_all_mem (by omega) hq⟩⟩
end Go.T
namespace Go.T
open Go Go.E Go.Proofs
set_option maxHeartbeats 8000000 in
theorem s_laws_szModel {m : Md} {n : Int} (hf : m.facts.length ≤ 9223372036854775807) (hl : m.blocks.length ≤ 9223372036854775807) (hb : ∀ b ∈ m.blocks, b.length ≤ 9223372036854775807) (hn : 0 ≤ n ∧ n ≤ 9223372036854775807) : Go.E.Spec Try.prog 10 [.agg (cM false m), .val (.int .i64 n)] (fun r _ => ∃ k : Int, r = .val (.int .i64 k) ∧ k ≤ n ∧ (0 ≤ k → m.facts.length ≤ n ∧ m.blocks.length ≤ n ∧ ∀ b ∈ m.blocks, (b.length : Int) ≤ n)) := by
  refine spec_of_awp (E := Ev) evOk Try.func10 (c := _) rfl (by decide) (by simp [Try.ntmps10]) ?_
  rw [Try.ntmps10, entry_mk]
  change awp Ev 2 18 _ _ (mkSt [(0, .agg [.v (eL false 1 cI m.facts), .v (eL false 1 (cL false 1 cI) m.blocks), .v (.val (.int .i64 m.actual))]), (1, .v (.val (.int .i64 n)))] [(0, .agg (cM false m)), (1, .val (.int .i64 n))])
  refine a_seq fun K1 hK1 => ?_
  refine a_region rfl fun K2 hK2 => ?_
  first | refine x_boxVal ?_ | refine x_boxAgg' ?_ | refine x_boxT ?_
  refine x_assign ?_
  refine r_nil hK2 ?_
  refine hK1 _ _ (Ghost.refl _) ?_
  refine a_seq fun K3 hK3 => ?_
  refine a_region rfl fun K4 hK4 => ?_
  refine x_fieldAddr ?_
  refine x_load ?_
  refine x_move ?_
  refine x_call (s_laws_szIntS ?_ ?_) ?_ (hl := by first | rfl | (repeat (first | exact lendL_nil | refine lendL_cons (by first | rfl | exact lend_ref rfl (ro_eL (by intro _; first | rfl | exact roL_cL (by intro _; rfl))) | exact lend_refp rfl (ro_eL (by intro _; first | rfl | exact roL_cL (by intro _; rfl))) | exact lend_agg (by repeat (first | exact lendL_nil | refine lendL_cons (by first | rfl | exact lend_ref rfl (ro_eL (by intro _; first | rfl | exact roL_cL (by intro _; rfl))) | exact lend_refp rfl (ro_eL (by intro _; first | rfl | exact roL_cL (by intro _; rfl)))) ?_))) ?_)))
  ·
    first | omega | rfl | assumption | (simp; done) | (simp_all; done)
  ·
    first | omega | rfl | assumption | (simp; done) | (simp_all; done)
  rintro _ _ ⟨k, rfl, hk0, hk⟩
  refine x_assign ?_
  refine r_nil hK4 ?_
  refine hK3 _ _ (Ghost.refl _) ?_
  refine a_seq fun K5 hK5 => ?_
  refine a_seq fun K6 hK6 => ?_
  refine a_region rfl fun K7 hK7 => ?_
  refine x_move ?_
  refine x_bin ?_
  refine r_nil hK7 ?_
  refine hK6 _ _ (ghost_has (ks := [(1, .v _), (2, .ref 2 []), (10, .v _)]) (km := [(0, _), (1, _), (2, _), (8, _)]) ⟨rfl, rfl, rfl, trivial⟩ ⟨rfl, rfl, rfl, rfl, trivial⟩ rfl) ?_
  refine a_condP rfl (by first | exact .beq | exact .bne | exact .dec | exact .not .beq | exact .not .bne | exact .not .dec | exact .not .id | exact .id) (fun h8 => ?_) (fun h8 => ?_)
  · skip
    refine a_seq fun K9 hK9 => ?_
    refine a_region rfl fun K10 hK10 => ?_
    refine x_assign ?_
    refine r_nil hK10 ?_
    refine hK9 _ _ (Ghost.refl _) ?_
    refine a_ret ?_
    refine then_ret ?_
    exact leave_val (.inr rfl) rfl rfl rfl ⟨_, rfl, by omega, fun h => by omega⟩
  · skip
    refine a_skip ?_
    refine hK5 _ _ (Ghost.refl _) ?_
    refine a_seq fun K11 hK11 => ?_
    refine a_region rfl fun K12 hK12 => ?_
    refine x_fieldAddr ?_
    refine x_load ?_
    refine x_move ?_
    refine x_call (s_laws_szIntSS ?_ ?_ ?_) ?_ (hl := by first | rfl | (repeat (first | exact lendL_nil | refine lendL_cons (by first | rfl | exact lend_ref rfl (ro_eL (by intro _; first | rfl | exact roL_cL (by intro _; rfl))) | exact lend_refp rfl (ro_eL (by intro _; first | rfl | exact roL_cL (by intro _; rfl))) | exact lend_agg (by repeat (first | exact lendL_nil | refine lendL_cons (by first | rfl | exact lend_ref rfl (ro_eL (by intro _; first | rfl | exact roL_cL (by intro _; rfl))) | exact lend_refp rfl (ro_eL (by intro _; first | rfl | exact roL_cL (by intro _; rfl)))) ?_))) ?_)))
    ·
      first | omega | exact hb
    ·
      first | omega | exact hb
    ·
      first | omega | exact hb
    rintro _ _ ⟨k2, rfl, hk20, hk2⟩
    refine x_assign ?_
    refine r_nil hK12 ?_
    refine hK11 _ _ (Ghost.refl _) ?_
    refine a_seq fun K13 hK13 => ?_
    refine a_seq fun K14 hK14 => ?_
    refine a_region rfl fun K15 hK15 => ?_
    refine x_move ?_
    refine x_bin ?_
    refine r_nil hK15 ?_
    refine hK14 _ _ (Ghost.refl _) ?_
    refine a_condP rfl (by first | exact .beq | exact .bne | exact .dec | exact .not .beq | exact .not .bne | exact .not .dec | exact .not .id | exact .id) (fun h16 => ?_) (fun h16 => ?_)
    · skip
      refine a_seq fun K17 hK17 => ?_
      refine a_region rfl fun K18 hK18 => ?_
      refine x_assign ?_
      refine r_nil hK18 ?_
      refine hK17 _ _ (Ghost.refl _) ?_
      refine a_ret ?_
      refine then_ret ?_
      exact leave_val (.inr rfl) rfl rfl rfl ⟨_, rfl, by omega, fun h => by omega⟩
    · skip
      refine a_skip ?_
      refine hK13 _ _ (Ghost.refl _) ?_
      refine a_seq fun K19 hK19 => ?_
      refine a_region rfl fun K20 hK20 => ?_
      refine x_move ?_
      refine x_assign ?_
      refine r_nil hK20 ?_
      refine hK19 _ _ (Ghost.refl _) ?_
      refine a_ret ?_
      exact leave_val (.inr rfl) rfl rfl rfl ⟨_, rfl, by omega, fun _ => ⟨by omega, by omega, fun b hb => by have := (hk2 (by omega)).2 b hb; omega⟩⟩
end Go.T
namespace Go.T
open Go Go.E Go.Proofs
set_option maxHeartbeats 8000000 in
theorem s_laws_toIntS {l : List Int} (hl : l.length ≤ 1073741824) : Go.E.Spec Try.prog 30 [eL false 1 cI l] (fun r _ => r = eL true 1 cI (l)) := by
  refine spec_of_awp (E := Ev) evOk Try.func30 (c := _) rfl (by decide) (by simp [Try.ntmps30]) ?_
  rw [Try.ntmps30, entry_mk]
  change awp Ev 1 22 _ _ (mkSt [(0, .v (eL false 1 cI l))] [(0, eL false 1 cI l)])
  refine a_seq fun K1 hK1 => ?_
  refine a_region rfl fun K2 hK2 => ?_
  refine x_assign ?_
  refine r_nil hK2 ?_
  refine hK1 _ _ (Ghost.refl _) ?_
  refine a_seq fun K3 hK3 => ?_
  refine a_region rfl fun K4 hK4 => ?_
  refine x_move ?_
  refine x_len ?_
  refine x_mk (c := cI) (z := 0) (sz := 1) ?_ ?_ rfl
  ·
    omega
  refine x_assign ?_
  refine r_nil hK4 ?_
  refine hK3 _ _ (Ghost.refl _) ?_
  refine a_seq fun K5 hK5 => ?_
  refine a_seq fun K6 hK6 => ?_
  refine a_region rfl fun K7 hK7 => ?_
  refine x_assign ?_
  refine r_nil hK7 ?_
  refine hK6 _ _ (Ghost.refl _) ?_
  refine a_block fun K8 hK8 => ?_
  refine a_loopM (X := Int × (List Int)) (fun (i, o) => ([(4, .v (.val (.int .i64 i)))] : List (Nat × S))) (fun (i, o) => ([(7, eL true 1 cI o)] : List (Nat × V))) (fun (i, o) => (0 ≤ i ∧ i ≤ l.length) ∧ (o.length = l.length) ∧ (∀ j : Nat, j < i.toNat → o[j]! = l[j]!)) (fun (i, o) => (l.length - i).toNat) [(0, .v _), (3, .ref 7 [])] [(0, _)] (_, _) (Ghost.refl _) ⟨rfl, rfl, rfl, trivial⟩ ⟨rfl, rfl, trivial⟩ (fun ⟨_, _⟩ => rfl) ?_ ?_
  ·
    try dsimp only
    refine ⟨?_, ?_, ?_⟩
    ·
      first | omega | rfl | assumption | (simp; done) | (simp_all; done)
    ·
      first | omega | rfl | assumption | (simp; done) | (simp_all; done)
    ·
      intro j hj; simp at hj
  ·
    rintro ⟨i, o⟩ hI9 K9 hK9
    dsimp only [List.cons_append, List.nil_append] at hI9 ⊢
    obtain ⟨hi, ho, he⟩ := hI9
    refine a_seq fun K10 hK10 => ?_
    refine a_seq fun K11 hK11 => ?_
    refine a_region rfl fun K12 hK12 => ?_
    refine x_move ?_
    refine x_move ?_
    refine x_len ?_
    refine x_bin ?_
    refine r_nil hK12 ?_
    refine hK11 _ _ (Ghost.refl _) ?_
    refine a_condP rfl (by first | exact .beq | exact .bne | exact .dec | exact .not .beq | exact .not .bne | exact .not .dec | exact .not .id | exact .id) (fun h13 => ?_) (fun h13 => ?_)
    · skip
      refine a_skip ?_
      refine hK10 _ _ (Ghost.refl _) ?_
      refine a_seq fun K14 hK14 => ?_
      refine a_block fun K15 hK15 => ?_
      refine a_region rfl fun K16 hK16 => ?_
      refine x_move ?_
      refine x_move ?_
      refine x_move ?_
      refine x_move ?_
      refine x_indexAddr ?_ ?_
      ·
        exact ⟨by omega, by omega⟩
      first | refine x_ldE ?_ ?_ | refine x_ldN ?_ ?_ | refine x_ldO ?_ ?_ | refine x_ldON ?_ ?_ (hf := fun x => (rfl : cN x = List.map V.val [_, _, _, _]))
      ·
        omega
      refine x_indexAddr ?_ ?_
      ·
        exact ⟨by omega, by omega⟩
      first | refine x_stE ?_ ?_ | refine x_stN' ?_ ?_
      ·
        omega
      refine r_nil hK16 ?_
      refine hK15 .normal _ ?_
      refine hK14 _ _ (ghost_has (ks := [(0, .v _), (3, .ref 7 []), (4, .v _)]) (km := [(0, _), (7, _)]) ⟨rfl, rfl, rfl, trivial⟩ ⟨rfl, rfl, trivial⟩ rfl) ?_
      refine a_region rfl fun K17 hK17 => ?_
      refine x_move ?_
      refine x_add ?_ ?_
      ·
        exact ⟨by omega, by omega⟩
      refine x_assign ?_
      refine r_nil hK17 ?_
      refine hK9 (_, _) _ _ _ (Ghost.refl _) ⟨rfl, rfl, rfl, trivial⟩ ⟨rfl, rfl, trivial⟩ ?_ ?_
      ·
        first | omega | (dsimp only; omega)
      ·
        try dsimp only
        refine ⟨?_, ?_, ?_⟩
        ·
          first | omega | rfl | assumption | (simp; done) | (simp_all; done)
        ·
          simpa using ho
        ·
          exact set_upto (by omega) (by omega) he (by omega)
    · skip
      refine a_exit ?_
      refine then_exit ?_
      refine then_exit ?_
      refine hK8 (.exit 0) _ (in_exit ?_)
      refine hK5 _ _ (Ghost.refl _) ?_
      refine a_seq fun K18 hK18 => ?_
      refine a_region rfl fun K19 hK19 => ?_
      refine x_move ?_
      refine x_assign ?_
      refine r_nil hK19 ?_
      refine hK18 _ _ (Ghost.refl _) ?_
      refine a_ret ?_
      refine leave_own (.inr rfl) rfl rfl rfl rfl (free_eL (by intro _; first | rfl | exact freeL_cL (by intro _; rfl))) rfl (congrArg (eL true 1 cI) ?_)
      exact upto_all ho (fun j hj => he j (by omega))
end Go.T
namespace Go.T
open Go Go.E Go.Proofs
set_option maxHeartbeats 8000000 in
theorem s_laws_toIntSS {l : List ((List Int))} (hl : l.length ≤ 1073741824) (hb : ∀ b ∈ l, b.length ≤ 1073741824) : Go.E.Spec Try.prog 31 [eL false 1 (cL false 1 cI) l] (fun r _ => r = eL true 1 (cL true 1 cI) (l)) := by
  refine spec_of_awp (E := Ev) evOk Try.func31 (c := _) rfl (by decide) (by simp [Try.ntmps31]) ?_
  rw [Try.ntmps31, entry_mk]
  change awp Ev 1 23 _ _ (mkSt [(0, .v (eL false 1 (cL false 1 cI) l))] [(0, eL false 1 (cL false 1 cI) l)])
  refine a_seq fun K1 hK1 => ?_
  refine a_region rfl fun K2 hK2 => ?_
  refine x_assign ?_
  refine r_nil hK2 ?_
  refine hK1 _ _ (Ghost.refl _) ?_
  refine a_seq fun K3 hK3 => ?_
  refine a_region rfl fun K4 hK4 => ?_
  refine x_move ?_
  refine x_len ?_
  refine x_mk (c := cLo) (z := none) (sz := 1) ?_ ?_ rfl
  ·
    omega
  refine x_assign ?_
  refine r_nil hK4 ?_
  refine hK3 _ _ (Ghost.refl _) ?_
  refine a_seq fun K5 hK5 => ?_
  refine a_seq fun K6 hK6 => ?_
  refine a_region rfl fun K7 hK7 => ?_
  refine x_assign ?_
  refine r_nil hK7 ?_
  refine hK6 _ _ (Ghost.refl _) ?_
  refine a_block fun K8 hK8 => ?_
  refine a_loopM (X := Int × (List (Option (List Int)))) (fun (i, o) => ([(4, .v (.val (.int .i64 i)))] : List (Nat × S))) (fun (i, o) => ([(7, eL true 1 cLo o)] : List (Nat × V))) (fun (i, o) => (0 ≤ i ∧ i ≤ l.length) ∧ (o.length = l.length) ∧ (∀ j : Nat, j < i.toNat → o[j]! = (l.map some)[j]!)) (fun (i, o) => (l.length - i).toNat) [(0, .v _), (3, .ref 7 [])] [(0, _)] (_, _) (Ghost.refl _) ⟨rfl, rfl, rfl, trivial⟩ ⟨rfl, rfl, trivial⟩ (fun ⟨_, _⟩ => rfl) ?_ ?_
  ·
    try dsimp only
    refine ⟨?_, ?_, ?_⟩
    ·
      first | omega | rfl | assumption | (simp; done) | (simp_all; done)
    ·
      first | omega | rfl | assumption | (simp; done) | (simp_all; done)
    ·
      intro j hj; simp at hj
  ·
    rintro ⟨i, o⟩ hI9 K9 hK9
    dsimp only [List.cons_append, List.nil_append] at hI9 ⊢
    obtain ⟨hi, ho, he⟩ := hI9
    refine a_seq fun K10 hK10 => ?_
    refine a_seq fun K11 hK11 => ?_
    refine a_region rfl fun K12 hK12 => ?_
    refine x_move ?_
    refine x_move ?_
    refine x_len ?_
    refine x_bin ?_
    refine r_nil hK12 ?_
    refine hK11 _ _ (Ghost.refl _) ?_
    refine a_condP rfl (by first | exact .beq | exact .bne | exact .dec | exact .not .beq | exact .not .bne | exact .not .dec | exact .not .id | exact .id) (fun h13 => ?_) (fun h13 => ?_)
    · skip
      refine a_skip ?_
      refine hK10 _ _ (Ghost.refl _) ?_
      refine a_seq fun K14 hK14 => ?_
      refine a_block fun K15 hK15 => ?_
      refine a_region rfl fun K16 hK16 => ?_
      refine x_move ?_
      refine x_move ?_
      refine x_move ?_
      refine x_move ?_
      refine x_indexAddr ?_ ?_
      ·
        exact ⟨by omega, by omega⟩
      first | refine x_ldE ?_ ?_ | refine x_ldN ?_ ?_ | refine x_ldO ?_ ?_ | refine x_ldON ?_ ?_ (hf := fun x => (rfl : cN x = List.map V.val [_, _, _, _]))
      ·
        omega
      refine x_call (s_laws_toIntS ?_) ?_ (hl := by first | rfl | (repeat (first | exact lendL_nil | refine lendL_cons (by first | rfl | exact lend_ref rfl (ro_eL (by intro _; first | rfl | exact roL_cL (by intro _; rfl))) | exact lend_refp rfl (ro_eL (by intro _; first | rfl | exact roL_cL (by intro _; rfl))) | exact lend_agg (by repeat (first | exact lendL_nil | refine lendL_cons (by first | rfl | exact lend_ref rfl (ro_eL (by intro _; first | rfl | exact roL_cL (by intro _; rfl))) | exact lend_refp rfl (ro_eL (by intro _; first | rfl | exact roL_cL (by intro _; rfl)))) ?_))) ?_)))
      ·
        exact hb _ (mem_get! (by omega))
      rintro _ _ rfl
      refine x_indexAddr ?_ ?_
      ·
        exact ⟨by omega, by omega⟩
      refine x_stT (c := cLo) (some _) ?_ ?_ rfl
      ·
        omega
      refine r_nil hK16 ?_
      refine hK15 .normal _ ?_
      refine hK14 _ _ (ghost_has (ks := [(0, .v _), (3, .ref 7 []), (4, .v _)]) (km := [(0, _), (7, _)]) ⟨rfl, rfl, rfl, trivial⟩ ⟨rfl, rfl, trivial⟩ rfl) ?_
      refine a_region rfl fun K17 hK17 => ?_
      refine x_move ?_
      refine x_add ?_ ?_
      ·
        exact ⟨by omega, by omega⟩
      refine x_assign ?_
      refine r_nil hK17 ?_
      refine hK9 (_, _) _ _ _ (Ghost.refl _) ⟨rfl, rfl, rfl, trivial⟩ ⟨rfl, rfl, trivial⟩ ?_ ?_
      ·
        first | omega | (dsimp only; omega)
      ·
        try dsimp only
        refine ⟨?_, ?_, ?_⟩
        ·
          first | omega | rfl | assumption | (simp; done) | (simp_all; done)
        ·
          simpa using ho
        ·
          have e2 : some l[i.toNat]! = (l.map some)[i.toNat]! := by rw [getElem!_pos (l.map some) i.toNat (by simp; omega), getElem!_pos l i.toNat (by omega)]; simp
          rw [e2]
          exact set_upto (by omega) (by omega) he rfl
    · skip
      refine a_exit ?_
      refine then_exit ?_
      refine then_exit ?_
      refine hK8 (.exit 0) _ (in_exit ?_)
      refine hK5 _ _ (Ghost.refl _) ?_
      refine a_seq fun K18 hK18 => ?_
      refine a_region rfl fun K19 hK19 => ?_
      refine x_move ?_
      refine x_assign ?_
      refine r_nil hK19 ?_
      refine hK18 _ _ (Ghost.refl _) ?_
      refine a_ret ?_
      have e3 : o = l.map some := upto_all (by simpa using ho) (fun j hj => he j (by simp at hj; omega))
      refine leave_own (.inr rfl) rfl rfl rfl rfl (free_eL freeL_cLo) rfl ?_
      show eL true 1 cLo o = _
      rw [e3]; exact eLo_map l
end Go.T
namespace Go.T
open Go Go.E Go.Proofs
set_option maxHeartbeats 8000000 in
theorem s_laws_toModel {m : Md} (hf : m.facts.length ≤ 1073741824) (hl : m.blocks.length ≤ 1073741824) (hb : ∀ b ∈ m.blocks, b.length ≤ 1073741824) : Go.E.Spec Try.prog 12 [.agg (cM false m)] (fun r _ => r = .agg (cM true m)) := by
  refine spec_of_awp (E := Ev) evOk Try.func12 (c := _) rfl (by decide) (by simp [Try.ntmps12]) ?_
  rw [Try.ntmps12, entry_mk]
  change awp Ev 1 16 _ _ (mkSt [(0, .agg [.v (eL false 1 cI m.facts), .v (eL false 1 (cL false 1 cI) m.blocks), .v (.val (.int .i64 m.actual))])] [(0, .agg (cM false m))])
  refine a_seq fun K1 hK1 => ?_
  refine a_region rfl fun K2 hK2 => ?_
  first | refine x_boxVal ?_ | refine x_boxAgg' ?_ | refine x_boxT ?_
  refine x_alloc ?_
  refine r_nil hK2 ?_
  refine hK1 _ _ (Ghost.refl _) ?_
  refine a_seq fun K3 hK3 => ?_
  refine a_region rfl fun K4 hK4 => ?_
  refine x_alloc ?_
  refine r_nil hK4 ?_
  refine hK3 _ _ (Ghost.refl _) ?_
  refine a_seq fun K5 hK5 => ?_
  refine a_region rfl fun K6 hK6 => ?_
  refine x_fieldAddr ?_
  refine x_load ?_
  refine x_call (s_laws_toIntS ?_) ?_ (hl := by first | rfl | (repeat (first | exact lendL_nil | refine lendL_cons (by first | rfl | exact lend_ref rfl (ro_eL (by intro _; first | rfl | exact roL_cL (by intro _; rfl))) | exact lend_refp rfl (ro_eL (by intro _; first | rfl | exact roL_cL (by intro _; rfl))) | exact lend_agg (by repeat (first | exact lendL_nil | refine lendL_cons (by first | rfl | exact lend_ref rfl (ro_eL (by intro _; first | rfl | exact roL_cL (by intro _; rfl))) | exact lend_refp rfl (ro_eL (by intro _; first | rfl | exact roL_cL (by intro _; rfl)))) ?_))) ?_)))
  ·
    first | omega | rfl | assumption | (simp; done) | (simp_all; done)
  rintro _ _ rfl
  refine x_fieldAddr ?_
  first | refine x_put0 ?_ | refine x_put1 ?_ | refine x_put2 ?_ | refine x_put3 ?_ | refine x_putAll ?_ | refine x_put0R ?_ | refine x_put1R ?_ | refine x_putM ?_ | refine x_put0T ?_ | refine x_put1T ?_ | refine x_putAllT ?_
  refine r_nil hK6 ?_
  refine hK5 _ _ (ghost_has (ks := [(1, .ref 1 []), (2, .ref 2 []), (3, .ref 3 [])]) (km := [(0, _), (1, _), (2, _), (3, _)]) ⟨rfl, rfl, rfl, trivial⟩ ⟨rfl, rfl, rfl, rfl, trivial⟩ rfl) ?_
  refine a_seq fun K7 hK7 => ?_
  refine a_region rfl fun K8 hK8 => ?_
  refine x_fieldAddr ?_
  refine x_load ?_
  refine x_call (s_laws_toIntSS ?_ ?_) ?_ (hl := by first | rfl | (repeat (first | exact lendL_nil | refine lendL_cons (by first | rfl | exact lend_ref rfl (ro_eL (by intro _; first | rfl | exact roL_cL (by intro _; rfl))) | exact lend_refp rfl (ro_eL (by intro _; first | rfl | exact roL_cL (by intro _; rfl))) | exact lend_agg (by repeat (first | exact lendL_nil | refine lendL_cons (by first | rfl | exact lend_ref rfl (ro_eL (by intro _; first | rfl | exact roL_cL (by intro _; rfl))) | exact lend_refp rfl (ro_eL (by intro _; first | rfl | exact roL_cL (by intro _; rfl)))) ?_))) ?_)))
  ·
    first | omega | exact hb
  ·
    first | omega | exact hb
  rintro _ _ rfl
  refine x_fieldAddr ?_
  first | refine x_put0 ?_ | refine x_put1 ?_ | refine x_put2 ?_ | refine x_put3 ?_ | refine x_putAll ?_ | refine x_put0R ?_ | refine x_put1R ?_ | refine x_putM ?_ | refine x_put0T ?_ | refine x_put1T ?_ | refine x_putAllT ?_
  refine r_nil hK8 ?_
  refine hK7 _ _ (Ghost.refl _) ?_
  refine a_seq fun K9 hK9 => ?_
  refine a_region rfl fun K10 hK10 => ?_
  refine x_fieldAddr ?_
  refine x_load ?_
  refine x_fieldAddr ?_
  first | refine x_put0 ?_ | refine x_put1 ?_ | refine x_put2 ?_ | refine x_put3 ?_ | refine x_putAll ?_ | refine x_put0R ?_ | refine x_put1R ?_ | refine x_putM ?_ | refine x_put0T ?_ | refine x_put1T ?_ | refine x_putAllT ?_
  refine r_nil hK10 ?_
  refine hK9 _ _ (ghost_has (ks := [(2, .ref 2 []), (3, .ref 3 [])]) (km := [(0, _), (2, _), (3, _)]) ⟨rfl, rfl, trivial⟩ ⟨rfl, rfl, rfl, trivial⟩ rfl) ?_
  refine a_seq fun K11 hK11 => ?_
  refine a_region rfl fun K12 hK12 => ?_
  first | refine x_ldM ?_ | refine x_ldMR ?_ | refine x_load ?_
  first | refine x_put0 ?_ | refine x_put1 ?_ | refine x_put2 ?_ | refine x_put3 ?_ | refine x_putAll ?_ | refine x_put0R ?_ | refine x_put1R ?_ | refine x_putM ?_ | refine x_put0T ?_ | refine x_put1T ?_ | refine x_putAllT ?_
  refine r_nil hK12 ?_
  refine hK11 _ _ (Ghost.refl _) ?_
  refine a_ret ?_
  exact leave_M (.inr rfl) rfl rfl rfl rfl rfl rfl (freeL_cM m) rfl rfl
end Go.T
namespace Go.T
open Go Go.E Go.Proofs
set_option maxHeartbeats 8000000 in
theorem s_spec_l01In {a : Int} {b : Int} {c : Int}  : Go.E.Spec Try.prog 58 [.val (.int .i64 a), .val (.int .i64 b), .val (.int .i64 c)] (fun r _ => r = .val (.bool (decide (b ≤ a ∧ a ≤ c)))) := by
  refine spec_of_awp (E := Ev) evOk Try.func58 (c := _) rfl (by decide) (by simp [Try.ntmps58]) ?_
  rw [Try.ntmps58, entry_mk]
  change awp Ev 3 15 _ _ (mkSt [(0, .v (.val (.int .i64 a))), (1, .v (.val (.int .i64 b))), (2, .v (.val (.int .i64 c)))] [(0, .val (.int .i64 a)), (1, .val (.int .i64 b)), (2, .val (.int .i64 c))])
  refine a_seq fun K1 hK1 => ?_
  refine a_region rfl fun K2 hK2 => ?_
  refine x_assign ?_
  refine r_nil hK2 ?_
  refine hK1 _ _ (Ghost.refl _) ?_
  refine a_seq fun K3 hK3 => ?_
  refine a_region rfl fun K4 hK4 => ?_
  refine x_move ?_
  refine x_move ?_
  refine x_bin ?_
  refine x_move ?_
  refine x_split 10 rfl (by first | exact .beq | exact .bne | exact .dec | exact .not .beq | exact .not .bne | exact .not .dec | exact .not .id | exact .id) (fun h5 => ?_) (fun h5 => ?_)
  · skip
    refine x_move ?_
    refine x_move ?_
    refine x_bin ?_
    refine x_pickT ?_
    refine x_assign ?_
    refine r_nil hK4 ?_
    refine hK3 _ _ (Ghost.refl _) ?_
    refine a_ret ?_
    refine leave_val (.inr rfl) rfl rfl rfl (congrArg (fun z => V.val (.bool z)) ?_)
    simp; omega
  · skip
    refine x_shut ?_
    refine x_shut ?_
    refine x_shut ?_
    refine x_pickF ?_
    refine x_assign ?_
    refine r_nil hK4 ?_
    refine hK3 _ _ (Ghost.refl _) ?_
    refine a_ret ?_
    refine leave_val (.inr rfl) rfl rfl rfl (congrArg (fun z => V.val (.bool z)) ?_)
    simp; omega
end Go.T
namespace Go.T
open Go Go.E Go.Proofs
set_option maxHeartbeats 8000000 in
theorem s_spec_l03Numbered {l : List Int} (hl : l.length ≤ 1073741824) : Go.E.Spec Try.prog 59 [eL false 1 cI l] (fun r _ => r = .val (.bool (decide (okNum 0 l)))) := by
  refine spec_of_awp (E := Ev) evOk Try.func59 (c := _) rfl (by decide) (by simp [Try.ntmps59]) ?_
  rw [Try.ntmps59, entry_mk]
  change awp Ev 1 21 _ _ (mkSt [(0, .v (eL false 1 cI l))] [(0, eL false 1 cI l)])
  refine a_seq fun K1 hK1 => ?_
  refine a_region rfl fun K2 hK2 => ?_
  refine x_assign ?_
  refine r_nil hK2 ?_
  refine hK1 _ _ (Ghost.refl _) ?_
  refine a_seq fun K3 hK3 => ?_
  refine a_region rfl fun K4 hK4 => ?_
  refine x_assign ?_
  refine r_nil hK4 ?_
  refine hK3 _ _ (Ghost.refl _) ?_
  refine a_seq fun K5 hK5 => ?_
  refine a_seq fun K6 hK6 => ?_
  refine a_region rfl fun K7 hK7 => ?_
  refine x_move ?_
  refine x_len ?_
  refine x_move ?_
  refine r_nil hK7 ?_
  refine hK6 _ _ (Ghost.refl _) ?_
  refine a_block fun K8 hK8 => ?_
  refine a_loopM (X := Int × Int) (fun (n, i) => ([(3, .v (.val (.int .i64 n))), (8, .v (.val (.int .i64 i)))] : List (Nat × S))) (fun (n, i) => ([] : List (Nat × V))) (fun (n, i) => (0 ≤ i ∧ i ≤ l.length) ∧ (n = nextNum 0 (takeI l i) - 1) ∧ (okNum 0 (takeI l i))) (fun (n, i) => (l.length - i).toNat) [(6, .v _), (7, .v _)] [(0, _)] (_, _) (Ghost.refl _) ⟨rfl, rfl, rfl, rfl, trivial⟩ ⟨rfl, trivial⟩ (fun ⟨_, _⟩ => rfl) ?_ ?_
  ·
    try dsimp only
    refine ⟨?_, ?_, ?_⟩
    ·
      first | omega | rfl | assumption | (simp; done) | (simp_all; done)
    ·
      rw [takeI_zero]; rfl
    ·
      rw [takeI_zero]; trivial
  ·
    rintro ⟨n, i⟩ hI9 K9 hK9
    dsimp only [List.cons_append, List.nil_append] at hI9 ⊢
    obtain ⟨hi, hn, hok⟩ := hI9
    have q1 := okNum_next _ _ hok; have q2 := takeI_length (l := l) (i := i) (by omega) (by omega); have q3 := nextNum_ge (takeI l i) 0
    refine a_seq fun K10 hK10 => ?_
    refine a_region rfl fun K11 hK11 => ?_
    refine x_bin ?_
    refine r_nil hK11 ?_
    refine hK10 _ _ (Ghost.refl _) ?_
    refine a_seq fun K12 hK12 => ?_
    refine a_condP rfl (by first | exact .beq | exact .bne | exact .dec | exact .not .beq | exact .not .bne | exact .not .dec | exact .not .id | exact .id) (fun h13 => ?_) (fun h13 => ?_)
    · skip
      refine a_skip ?_
      refine hK12 _ _ (Ghost.refl _) ?_
      refine a_seq fun K14 hK14 => ?_
      refine a_block fun K15 hK15 => ?_
      refine a_seq fun K16 hK16 => ?_
      refine a_region rfl fun K17 hK17 => ?_
      refine x_indexAddr ?_ ?_
      ·
        exact ⟨by omega, by omega⟩
      first | refine x_ldE ?_ ?_ | refine x_ldN ?_ ?_ | refine x_ldO ?_ ?_ | refine x_ldON ?_ ?_ (hf := fun x => (rfl : cN x = List.map V.val [_, _, _, _]))
      ·
        omega
      refine x_assign ?_
      refine r_nil hK17 ?_
      refine hK16 _ _ (Ghost.refl _) ?_
      refine a_seq fun K18 hK18 => ?_
      refine a_seq fun K19 hK19 => ?_
      refine a_region rfl fun K20 hK20 => ?_
      refine x_move ?_
      refine x_move ?_
      refine x_add ?_ ?_
      ·
        exact ⟨by omega, by omega⟩
      refine x_call (s_spec_l01In) ?_ (hl := by first | rfl | (repeat (first | exact lendL_nil | refine lendL_cons (by first | rfl | exact lend_ref rfl (ro_eL (by intro _; first | rfl | exact roL_cL (by intro _; rfl))) | exact lend_refp rfl (ro_eL (by intro _; first | rfl | exact roL_cL (by intro _; rfl))) | exact lend_agg (by repeat (first | exact lendL_nil | refine lendL_cons (by first | rfl | exact lend_ref rfl (ro_eL (by intro _; first | rfl | exact roL_cL (by intro _; rfl))) | exact lend_refp rfl (ro_eL (by intro _; first | rfl | exact roL_cL (by intro _; rfl)))) ?_))) ?_)))
      rintro _ _ rfl
      refine x_un ?_
      refine r_nil hK20 ?_
      refine hK19 _ _ (Ghost.refl _) ?_
      refine a_condP rfl (by first | exact .beq | exact .bne | exact .dec | exact .not .beq | exact .not .bne | exact .not .dec | exact .not .id | exact .id) (fun h21 => ?_) (fun h21 => ?_)
      · skip
        refine a_seq fun K22 hK22 => ?_
        refine a_region rfl fun K23 hK23 => ?_
        refine x_assign ?_
        refine r_nil hK23 ?_
        refine hK22 _ _ (Ghost.refl _) ?_
        refine a_ret ?_
        refine then_ret ?_
        refine hK15 .ret _ (in_ret ?_)
        refine then_ret ?_
        refine then_ret ?_
        refine hK8 .ret _ (in_ret ?_)
        refine then_ret ?_
        refine leave_val (.inr rfl) rfl rfl rfl (congrArg (fun z => V.val (.bool z)) ?_)
        refine (decide_eq_false (fun hh => ?_)).symm
        rw [takeI_split (l := l) (i := i) (by omega) (by omega), okNum_append] at hh
        have q4 := hh.2.1; have q5 := hh.2.2.1; omega
      · skip
        refine a_skip ?_
        refine hK18 _ _ (Ghost.refl _) ?_
        refine a_region rfl fun K24 hK24 => ?_
        refine x_move ?_
        refine x_move ?_
        refine x_minmax ?_
        refine x_assign ?_
        refine r_nil hK24 ?_
        refine hK15 .normal _ ?_
        refine hK14 _ _ (ghost_has (ks := [(3, .v _), (6, .v _), (7, .v _), (8, .v _)]) (km := [(0, _)]) ⟨rfl, rfl, rfl, rfl, trivial⟩ ⟨rfl, trivial⟩ rfl) ?_
        refine a_region rfl fun K25 hK25 => ?_
        refine x_add ?_ ?_
        ·
          exact ⟨by omega, by omega⟩
        refine x_move ?_
        refine r_nil hK25 ?_
        refine hK9 (_, _) _ _ _ (Ghost.refl _) ⟨rfl, rfl, rfl, rfl, trivial⟩ ⟨rfl, trivial⟩ ?_ ?_
        ·
          first | omega | (dsimp only; omega)
        ·
          try dsimp only
          refine ⟨?_, ?_, ?_⟩
          ·
            first | omega | rfl | assumption | (simp; done) | (simp_all; done)
          ·
            rw [takeI_succ (by omega) (by omega), nextNum_snoc]; omega
          ·
            rw [takeI_succ (by omega) (by omega), okNum_append]; exact ⟨hok, ⟨by omega, by omega, trivial⟩⟩
    · skip
      refine a_exit ?_
      refine then_exit ?_
      refine then_exit ?_
      refine hK8 (.exit 0) _ (in_exit ?_)
      refine hK5 _ _ (Ghost.refl _) ?_
      refine a_seq fun K26 hK26 => ?_
      refine a_region rfl fun K27 hK27 => ?_
      refine x_assign ?_
      refine r_nil hK27 ?_
      refine hK26 _ _ (Ghost.refl _) ?_
      refine a_ret ?_
      refine leave_val (.inr rfl) rfl rfl rfl (congrArg (fun z => V.val (.bool z)) ?_)
      rw [takeI_all (by omega)] at hok; exact (decide_eq_true hok).symm
end Go.T
namespace Go.T
open Go Go.E Go.Proofs
set_option maxHeartbeats 8000000 in
theorem s_spec_ModelOk {m : Md} (hf : m.facts.length ≤ 1073741824) (hl : m.blocks.length ≤ 1073741824) (hb : ∀ b ∈ m.blocks, b.length ≤ 1073741824) : Go.E.Spec Try.prog 29 [.agg (cM false m)] (fun r _ => r = .val (.bool (decide m.ok))) := by
  refine spec_of_awp (E := Ev) evOk Try.func29 (c := _) rfl (by decide) (by simp [Try.ntmps29]) ?_
  rw [Try.ntmps29, entry_mk]
  change awp Ev 1 57 _ _ (mkSt [(0, .agg [.v (eL false 1 cI m.facts), .v (eL false 1 (cL false 1 cI) m.blocks), .v (.val (.int .i64 m.actual))])] [(0, .agg (cM false m))])
  refine a_seq fun K1 hK1 => ?_
  refine a_region rfl fun K2 hK2 => ?_
  first | refine x_boxVal ?_ | refine x_boxAgg' ?_ | refine x_boxT ?_
  refine x_assign ?_
  refine r_nil hK2 ?_
  refine hK1 _ _ (Ghost.refl _) ?_
  refine a_seq fun K3 hK3 => ?_
  refine a_region rfl fun K4 hK4 => ?_
  refine x_fieldAddr ?_
  refine x_load ?_
  refine x_len ?_
  refine x_assign ?_
  refine r_nil hK4 ?_
  refine hK3 _ _ (Ghost.refl _) ?_
  refine a_seq fun K5 hK5 => ?_
  refine a_seq fun K6 hK6 => ?_
  refine a_region rfl fun K7 hK7 => ?_
  refine x_move ?_
  refine x_call (s_spec_l01In) ?_ (hl := by first | rfl | (repeat (first | exact lendL_nil | refine lendL_cons (by first | rfl | exact lend_ref rfl (ro_eL (by intro _; first | rfl | exact roL_cL (by intro _; rfl))) | exact lend_refp rfl (ro_eL (by intro _; first | rfl | exact roL_cL (by intro _; rfl))) | exact lend_agg (by repeat (first | exact lendL_nil | refine lendL_cons (by first | rfl | exact lend_ref rfl (ro_eL (by intro _; first | rfl | exact roL_cL (by intro _; rfl))) | exact lend_refp rfl (ro_eL (by intro _; first | rfl | exact roL_cL (by intro _; rfl)))) ?_))) ?_)))
  rintro _ _ rfl
  refine x_un ?_
  refine x_move ?_
  refine x_split 14 rfl (by first | exact .beq | exact .bne | exact .dec | exact .not .beq | exact .not .bne | exact .not .dec | exact .not .id | exact .id) (fun h8 => ?_) (fun h8 => ?_)
  · skip
    refine x_shut ?_
    refine x_shut ?_
    refine x_shut ?_
    refine x_shut ?_
    refine x_shut ?_
    refine x_pickT ?_
    refine x_move ?_
    refine x_shut ?_
    refine x_shut ?_
    refine x_shut ?_
    refine x_shut ?_
    refine x_shut ?_
    refine x_shut ?_
    refine x_pickT ?_
    refine r_nil hK7 ?_
    refine hK6 _ _ (ghost_has (ks := [(1, .ref 1 []), (3, .v _), (28, .v _)]) (km := [(0, _), (1, _)]) ⟨rfl, rfl, rfl, trivial⟩ ⟨rfl, rfl, trivial⟩ rfl) ?_
    refine a_condT rfl ?_
    refine a_seq fun K9 hK9 => ?_
    refine a_region rfl fun K10 hK10 => ?_
    refine x_assign ?_
    refine r_nil hK10 ?_
    refine hK9 _ _ (Ghost.refl _) ?_
    refine a_ret ?_
    refine then_ret ?_
    refine leave_val (.inr rfl) rfl rfl rfl (congrArg (fun z => V.val (.bool z)) ?_)
    first
      | exact (decide_eq_false (fun hh => by unfold Md.ok at hh; omega)).symm
      | exact (decide_eq_false (fun hh => h8 (hh.2.2.2.2.2.2.1 _ (mem_get! (by omega))))).symm
      | exact (decide_eq_false (fun hh => h8 ((hh.2.2.2.2.2.2.2 _ (mem_get! (by omega))).2))).symm
      | exact (decide_eq_false (fun hh => by have := (hh.2.2.2.2.2.2.2 _ (mem_get! (i := i.toNat) (by omega))).1; omega)).symm
      | exact (decide_eq_true ⟨by omega, by omega, by omega, by omega, by omega, by omega, takeI_all_mem (by omega) hq, takeI_all_mem (by omega) hq2⟩).symm
  · skip
    refine x_fieldAddr ?_
    refine x_load ?_
    refine x_len ?_
    refine x_call (s_spec_l01In) ?_ (hl := by first | rfl | (repeat (first | exact lendL_nil | refine lendL_cons (by first | rfl | exact lend_ref rfl (ro_eL (by intro _; first | rfl | exact roL_cL (by intro _; rfl))) | exact lend_refp rfl (ro_eL (by intro _; first | rfl | exact roL_cL (by intro _; rfl))) | exact lend_agg (by repeat (first | exact lendL_nil | refine lendL_cons (by first | rfl | exact lend_ref rfl (ro_eL (by intro _; first | rfl | exact roL_cL (by intro _; rfl))) | exact lend_refp rfl (ro_eL (by intro _; first | rfl | exact roL_cL (by intro _; rfl)))) ?_))) ?_)))
    rintro _ _ rfl
    refine x_un ?_
    refine x_pickF ?_
    refine x_move ?_
    refine x_split 21 rfl (by first | exact .beq | exact .bne | exact .dec | exact .not .beq | exact .not .bne | exact .not .dec | exact .not .id | exact .id) (fun h11 => ?_) (fun h11 => ?_)
    · skip
      refine x_shut ?_
      refine x_shut ?_
      refine x_shut ?_
      refine x_shut ?_
      refine x_shut ?_
      refine x_shut ?_
      refine x_pickT ?_
      refine r_nil hK7 ?_
      refine hK6 _ _ (ghost_has (ks := [(1, .ref 1 []), (3, .v _), (28, .v _)]) (km := [(0, _), (1, _)]) ⟨rfl, rfl, rfl, trivial⟩ ⟨rfl, rfl, trivial⟩ rfl) ?_
      refine a_condT rfl ?_
      refine a_seq fun K12 hK12 => ?_
      refine a_region rfl fun K13 hK13 => ?_
      refine x_assign ?_
      refine r_nil hK13 ?_
      refine hK12 _ _ (Ghost.refl _) ?_
      refine a_ret ?_
      refine then_ret ?_
      refine leave_val (.inr rfl) rfl rfl rfl (congrArg (fun z => V.val (.bool z)) ?_)
      first
        | exact (decide_eq_false (fun hh => by unfold Md.ok at hh; omega)).symm
        | exact (decide_eq_false (fun hh => h11 (hh.2.2.2.2.2.2.1 _ (mem_get! (by omega))))).symm
        | exact (decide_eq_false (fun hh => h11 ((hh.2.2.2.2.2.2.2 _ (mem_get! (by omega))).2))).symm
        | exact (decide_eq_false (fun hh => by have := (hh.2.2.2.2.2.2.2 _ (mem_get! (i := i.toNat) (by omega))).1; omega)).symm
        | exact (decide_eq_true ⟨by omega, by omega, by omega, by omega, by omega, by omega, takeI_all_mem (by omega) hq, takeI_all_mem (by omega) hq2⟩).symm
    · skip
      refine x_fieldAddr ?_
      refine x_load ?_
      refine x_move ?_
      refine x_sub ?_ ?_
      ·
        exact ⟨by omega, by omega⟩
      refine x_call (s_spec_l01In) ?_ (hl := by first | rfl | (repeat (first | exact lendL_nil | refine lendL_cons (by first | rfl | exact lend_ref rfl (ro_eL (by intro _; first | rfl | exact roL_cL (by intro _; rfl))) | exact lend_refp rfl (ro_eL (by intro _; first | rfl | exact roL_cL (by intro _; rfl))) | exact lend_agg (by repeat (first | exact lendL_nil | refine lendL_cons (by first | rfl | exact lend_ref rfl (ro_eL (by intro _; first | rfl | exact roL_cL (by intro _; rfl))) | exact lend_refp rfl (ro_eL (by intro _; first | rfl | exact roL_cL (by intro _; rfl)))) ?_))) ?_)))
      rintro _ _ rfl
      refine x_un ?_
      refine x_pickF ?_
      refine r_nil hK7 ?_
      refine hK6 _ _ (ghost_has (ks := [(1, .ref 1 []), (3, .v _), (28, .v _)]) (km := [(0, _), (1, _)]) ⟨rfl, rfl, rfl, trivial⟩ ⟨rfl, rfl, trivial⟩ rfl) ?_
      refine a_condP rfl (by first | exact .beq | exact .bne | exact .dec | exact .not .beq | exact .not .bne | exact .not .dec | exact .not .id | exact .id) (fun h14 => ?_) (fun h14 => ?_)
      · skip
        refine a_seq fun K15 hK15 => ?_
        refine a_region rfl fun K16 hK16 => ?_
        refine x_assign ?_
        refine r_nil hK16 ?_
        refine hK15 _ _ (Ghost.refl _) ?_
        refine a_ret ?_
        refine then_ret ?_
        refine leave_val (.inr rfl) rfl rfl rfl (congrArg (fun z => V.val (.bool z)) ?_)
        first
          | exact (decide_eq_false (fun hh => by unfold Md.ok at hh; omega)).symm
          | exact (decide_eq_false (fun hh => h14 (hh.2.2.2.2.2.2.1 _ (mem_get! (by omega))))).symm
          | exact (decide_eq_false (fun hh => h14 ((hh.2.2.2.2.2.2.2 _ (mem_get! (by omega))).2))).symm
          | exact (decide_eq_false (fun hh => by have := (hh.2.2.2.2.2.2.2 _ (mem_get! (i := i.toNat) (by omega))).1; omega)).symm
          | exact (decide_eq_true ⟨by omega, by omega, by omega, by omega, by omega, by omega, takeI_all_mem (by omega) hq, takeI_all_mem (by omega) hq2⟩).symm
      · skip
        refine a_skip ?_
        refine hK5 _ _ (Ghost.refl _) ?_
        refine a_seq fun K17 hK17 => ?_
        refine a_seq fun K18 hK18 => ?_
        refine a_region rfl fun K19 hK19 => ?_
        refine x_fieldAddr ?_
        refine x_load ?_
        refine x_len ?_
        refine x_move ?_
        refine r_nil hK19 ?_
        refine hK18 _ _ (Ghost.refl _) ?_
        refine a_block fun K20 hK20 => ?_
        refine a_loopM (X := Int) (fun i => ([(32, .v (.val (.int .i64 i)))] : List (Nat × S))) (fun i => ([] : List (Nat × V))) (fun i => (0 ≤ i ∧ i ≤ m.facts.length) ∧ (∀ x ∈ takeI m.facts i, 0 ≤ x ∧ x ≤ 15)) (fun i => (m.facts.length - i).toNat) [(1, .ref 1 []), (3, .v _), (30, _), (31, .v _)] [(0, _), (1, _)] _ (Ghost.refl _) ⟨rfl, rfl, rfl, rfl, rfl, trivial⟩ ⟨rfl, rfl, trivial⟩ (fun i => rfl) ?_ ?_
        ·
          try dsimp only
          refine ⟨?_, ?_⟩
          ·
            first | omega | rfl | assumption | (simp; done) | (simp_all; done)
          ·
            rw [takeI_zero]; simp
        ·
          rintro i hI21 K21 hK21
          dsimp only [List.cons_append, List.nil_append] at hI21 ⊢
          obtain ⟨hi, hq⟩ := hI21
          refine a_seq fun K22 hK22 => ?_
          refine a_region rfl fun K23 hK23 => ?_
          refine x_bin ?_
          refine r_nil hK23 ?_
          refine hK22 _ _ (Ghost.refl _) ?_
          refine a_seq fun K24 hK24 => ?_
          refine a_condP rfl (by first | exact .beq | exact .bne | exact .dec | exact .not .beq | exact .not .bne | exact .not .dec | exact .not .id | exact .id) (fun h25 => ?_) (fun h25 => ?_)
          · skip
            refine a_skip ?_
            refine hK24 _ _ (Ghost.refl _) ?_
            refine a_seq fun K26 hK26 => ?_
            refine a_block fun K27 hK27 => ?_
            refine a_seq fun K28 hK28 => ?_
            refine a_region rfl fun K29 hK29 => ?_
            refine x_indexAddr ?_ ?_
            ·
              exact ⟨by omega, by omega⟩
            first | refine x_ldE ?_ ?_ | refine x_ldN ?_ ?_ | refine x_ldO ?_ ?_ | refine x_ldON ?_ ?_ (hf := fun x => (rfl : cN x = List.map V.val [_, _, _, _]))
            ·
              omega
            refine x_assign ?_
            refine r_nil hK29 ?_
            refine hK28 _ _ (Ghost.refl _) ?_
            refine a_seq fun K30 hK30 => ?_
            refine a_region rfl fun K31 hK31 => ?_
            refine x_move ?_
            refine x_call (s_spec_l01In) ?_ (hl := by first | rfl | (repeat (first | exact lendL_nil | refine lendL_cons (by first | rfl | exact lend_ref rfl (ro_eL (by intro _; first | rfl | exact roL_cL (by intro _; rfl))) | exact lend_refp rfl (ro_eL (by intro _; first | rfl | exact roL_cL (by intro _; rfl))) | exact lend_agg (by repeat (first | exact lendL_nil | refine lendL_cons (by first | rfl | exact lend_ref rfl (ro_eL (by intro _; first | rfl | exact roL_cL (by intro _; rfl))) | exact lend_refp rfl (ro_eL (by intro _; first | rfl | exact roL_cL (by intro _; rfl)))) ?_))) ?_)))
            rintro _ _ rfl
            refine x_un ?_
            refine r_nil hK31 ?_
            refine hK30 _ _ (Ghost.refl _) ?_
            refine a_condP rfl (by first | exact .beq | exact .bne | exact .dec | exact .not .beq | exact .not .bne | exact .not .dec | exact .not .id | exact .id) (fun h32 => ?_) (fun h32 => ?_)
            · skip
              refine a_seq fun K33 hK33 => ?_
              refine a_region rfl fun K34 hK34 => ?_
              refine x_assign ?_
              refine r_nil hK34 ?_
              refine hK33 _ _ (Ghost.refl _) ?_
              refine a_ret ?_
              refine hK27 .ret _ (in_ret ?_)
              refine then_ret ?_
              refine then_ret ?_
              refine hK20 .ret _ (in_ret ?_)
              refine then_ret ?_
              refine leave_val (.inr rfl) rfl rfl rfl (congrArg (fun z => V.val (.bool z)) ?_)
              first
                | exact (decide_eq_false (fun hh => by unfold Md.ok at hh; omega)).symm
                | exact (decide_eq_false (fun hh => h32 (hh.2.2.2.2.2.2.1 _ (mem_get! (by omega))))).symm
                | exact (decide_eq_false (fun hh => h32 ((hh.2.2.2.2.2.2.2 _ (mem_get! (by omega))).2))).symm
                | exact (decide_eq_false (fun hh => by have := (hh.2.2.2.2.2.2.2 _ (mem_get! (i := i.toNat) (by omega))).1; omega)).symm
                | exact (decide_eq_true ⟨by omega, by omega, by omega, by omega, by omega, by omega, takeI_all_mem (by omega) hq, takeI_all_mem (by omega) hq2⟩).symm
            · skip
              refine a_skip ?_
              refine hK27 .normal _ ?_
              refine hK26 _ _ (Ghost.refl _) ?_
              refine a_region rfl fun K35 hK35 => ?_
              refine x_add ?_ ?_
              ·
                exact ⟨by omega, by omega⟩
              refine x_move ?_
              refine r_nil hK35 ?_
              refine hK21 _ _ _ _ (Ghost.refl _) ⟨rfl, rfl, rfl, rfl, rfl, trivial⟩ ⟨rfl, rfl, trivial⟩ ?_ ?_
              ·
                first | omega | (dsimp only; omega)
              ·
                try dsimp only
                refine ⟨?_, ?_⟩
                ·
                  first | omega | rfl | assumption | (simp; done) | (simp_all; done)
                ·
                  exact takeI_next (by omega) (by omega) hq (by omega)
          · skip
            refine a_exit ?_
            refine then_exit ?_
            refine then_exit ?_
            refine hK20 (.exit 0) _ (in_exit ?_)
            refine hK17 _ _ (Ghost.refl _) ?_
            refine a_seq fun K36 hK36 => ?_
            refine a_seq fun K37 hK37 => ?_
            refine a_region rfl fun K38 hK38 => ?_
            refine x_fieldAddr ?_
            refine x_load ?_
            refine x_len ?_
            refine x_move ?_
            refine r_nil hK38 ?_
            refine hK37 _ _ (Ghost.refl _) ?_
            refine a_block fun K39 hK39 => ?_
            refine a_loopM (X := Int) (fun i => ([(43, .v (.val (.int .i64 i)))] : List (Nat × S))) (fun i => ([] : List (Nat × V))) (fun i => (0 ≤ i ∧ i ≤ m.blocks.length) ∧ (∀ b ∈ takeI m.blocks i, b.length = m.facts.length ∧ okNum 0 b)) (fun i => (m.blocks.length - i).toNat) [(3, .v _), (41, _), (42, .v _)] [(0, _), (1, _)] _ (Ghost.refl _) ⟨rfl, rfl, rfl, rfl, trivial⟩ ⟨rfl, rfl, trivial⟩ (fun i => rfl) ?_ ?_
            ·
              try dsimp only
              refine ⟨?_, ?_⟩
              ·
                first | omega | rfl | assumption | (simp; done) | (simp_all; done)
              ·
                rw [takeI_zero]; simp
            ·
              rintro i hI40 K40 hK40
              dsimp only [List.cons_append, List.nil_append] at hI40 ⊢
              obtain ⟨hi, hq2⟩ := hI40
              refine a_seq fun K41 hK41 => ?_
              refine a_region rfl fun K42 hK42 => ?_
              refine x_bin ?_
              refine r_nil hK42 ?_
              refine hK41 _ _ (Ghost.refl _) ?_
              refine a_seq fun K43 hK43 => ?_
              refine a_condP rfl (by first | exact .beq | exact .bne | exact .dec | exact .not .beq | exact .not .bne | exact .not .dec | exact .not .id | exact .id) (fun h44 => ?_) (fun h44 => ?_)
              · skip
                refine a_skip ?_
                refine hK43 _ _ (Ghost.refl _) ?_
                refine a_seq fun K45 hK45 => ?_
                refine a_block fun K46 hK46 => ?_
                refine a_seq fun K47 hK47 => ?_
                refine a_region rfl fun K48 hK48 => ?_
                refine x_indexAddr ?_ ?_
                ·
                  exact ⟨by omega, by omega⟩
                first | refine x_ldE ?_ ?_ | refine x_ldN ?_ ?_ | refine x_ldO ?_ ?_ | refine x_ldON ?_ ?_ (hf := fun x => (rfl : cN x = List.map V.val [_, _, _, _]))
                ·
                  omega
                refine x_assign ?_
                refine r_nil hK48 ?_
                refine hK47 _ _ (Ghost.refl _) ?_
                refine a_seq fun K49 hK49 => ?_
                refine a_region rfl fun K50 hK50 => ?_
                refine x_move ?_
                refine x_len ?_
                refine x_move ?_
                refine x_bin ?_
                refine x_move ?_
                refine x_split 51 rfl (by first | exact .beq | exact .bne | exact .dec | exact .not .beq | exact .not .bne | exact .not .dec | exact .not .id | exact .id) (fun h51 => ?_) (fun h51 => ?_)
                · skip
                  refine x_shut ?_
                  refine x_shut ?_
                  refine x_shut ?_
                  refine x_pickT ?_
                  refine r_nil hK50 ?_
                  refine hK49 _ _ (Ghost.refl _) ?_
                  refine a_condT rfl ?_
                  refine a_seq fun K52 hK52 => ?_
                  refine a_region rfl fun K53 hK53 => ?_
                  refine x_assign ?_
                  refine r_nil hK53 ?_
                  refine hK52 _ _ (Ghost.refl _) ?_
                  refine a_ret ?_
                  refine hK46 .ret _ (in_ret ?_)
                  refine then_ret ?_
                  refine then_ret ?_
                  refine hK39 .ret _ (in_ret ?_)
                  refine then_ret ?_
                  refine leave_val (.inr rfl) rfl rfl rfl (congrArg (fun z => V.val (.bool z)) ?_)
                  first
                    | exact (decide_eq_false (fun hh => by unfold Md.ok at hh; omega)).symm
                    | exact (decide_eq_false (fun hh => h51 (hh.2.2.2.2.2.2.1 _ (mem_get! (by omega))))).symm
                    | exact (decide_eq_false (fun hh => h51 ((hh.2.2.2.2.2.2.2 _ (mem_get! (by omega))).2))).symm
                    | exact (decide_eq_false (fun hh => by have := (hh.2.2.2.2.2.2.2 _ (mem_get! (i := i.toNat) (by omega))).1; omega)).symm
                    | exact (decide_eq_true ⟨by omega, by omega, by omega, by omega, by omega, by omega, takeI_all_mem (by omega) hq, takeI_all_mem (by omega) hq2⟩).symm
                · skip
                  refine x_move ?_
                  refine x_call (s_spec_l03Numbered ?_) ?_ (hl := by first | rfl | (repeat (first | exact lendL_nil | refine lendL_cons (by first | rfl | exact lend_ref rfl (ro_eL (by intro _; first | rfl | exact roL_cL (by intro _; rfl))) | exact lend_refp rfl (ro_eL (by intro _; first | rfl | exact roL_cL (by intro _; rfl))) | exact lend_agg (by repeat (first | exact lendL_nil | refine lendL_cons (by first | rfl | exact lend_ref rfl (ro_eL (by intro _; first | rfl | exact roL_cL (by intro _; rfl))) | exact lend_refp rfl (ro_eL (by intro _; first | rfl | exact roL_cL (by intro _; rfl)))) ?_))) ?_)))
                  ·
                    exact hb _ (mem_get! (by omega))
                  rintro _ _ rfl
                  refine x_un ?_
                  refine x_pickF ?_
                  refine r_nil hK50 ?_
                  refine hK49 _ _ (ghost_has (ks := [(3, .v _), (41, _), (42, .v _), (43, .v _), (52, _), (53, .v _), (54, .v _), (55, .v _)]) (km := [(0, _), (1, _), (53, _)]) ⟨rfl, rfl, rfl, rfl, rfl, rfl, rfl, rfl, trivial⟩ ⟨rfl, rfl, rfl, trivial⟩ rfl) ?_
                  refine a_condP rfl (by first | exact .beq | exact .bne | exact .dec | exact .not .beq | exact .not .bne | exact .not .dec | exact .not .id | exact .id) (fun h54 => ?_) (fun h54 => ?_)
                  · skip
                    refine a_seq fun K55 hK55 => ?_
                    refine a_region rfl fun K56 hK56 => ?_
                    refine x_assign ?_
                    refine r_nil hK56 ?_
                    refine hK55 _ _ (Ghost.refl _) ?_
                    refine a_ret ?_
                    refine hK46 .ret _ (in_ret ?_)
                    refine then_ret ?_
                    refine then_ret ?_
                    refine hK39 .ret _ (in_ret ?_)
                    refine then_ret ?_
                    refine leave_val (.inr rfl) rfl rfl rfl (congrArg (fun z => V.val (.bool z)) ?_)
                    first
                      | exact (decide_eq_false (fun hh => by unfold Md.ok at hh; omega)).symm
                      | exact (decide_eq_false (fun hh => h54 (hh.2.2.2.2.2.2.1 _ (mem_get! (by omega))))).symm
                      | exact (decide_eq_false (fun hh => h54 ((hh.2.2.2.2.2.2.2 _ (mem_get! (by omega))).2))).symm
                      | exact (decide_eq_false (fun hh => by have := (hh.2.2.2.2.2.2.2 _ (mem_get! (i := i.toNat) (by omega))).1; omega)).symm
                      | exact (decide_eq_true ⟨by omega, by omega, by omega, by omega, by omega, by omega, takeI_all_mem (by omega) hq, takeI_all_mem (by omega) hq2⟩).symm
                  · skip
                    refine a_skip ?_
                    refine hK46 .normal _ ?_
                    refine hK45 _ _ (Ghost.refl _) ?_
                    refine a_region rfl fun K57 hK57 => ?_
                    refine x_add ?_ ?_
                    ·
                      exact ⟨by omega, by omega⟩
                    refine x_move ?_
                    refine r_nil hK57 ?_
                    refine hK40 _ _ _ _ (Ghost.refl _) ⟨rfl, rfl, rfl, rfl, trivial⟩ ⟨rfl, rfl, trivial⟩ ?_ ?_
                    ·
                      first | omega | (dsimp only; omega)
                    ·
                      try dsimp only
                      refine ⟨?_, ?_⟩
                      ·
                        first | omega | rfl | assumption | (simp; done) | (simp_all; done)
                      ·
                        exact takeI_next (by omega) (by omega) hq2 ⟨by omega, by simp_all⟩
              · skip
                refine a_exit ?_
                refine then_exit ?_
                refine then_exit ?_
                refine hK39 (.exit 2) _ (in_exit ?_)
                refine hK36 _ _ (Ghost.refl _) ?_
                refine a_seq fun K58 hK58 => ?_
                refine a_region rfl fun K59 hK59 => ?_
                refine x_assign ?_
                refine r_nil hK59 ?_
                refine hK58 _ _ (Ghost.refl _) ?_
                refine a_ret ?_
                refine leave_val (.inr rfl) rfl rfl rfl (congrArg (fun z => V.val (.bool z)) ?_)
                first
                  | exact (decide_eq_false (fun hh => by unfold Md.ok at hh; omega)).symm
                  | exact (decide_eq_false (fun hh => h44 (hh.2.2.2.2.2.2.1 _ (mem_get! (by omega))))).symm
                  | exact (decide_eq_false (fun hh => h44 ((hh.2.2.2.2.2.2.2 _ (mem_get! (by omega))).2))).symm
                  | exact (decide_eq_false (fun hh => by have := (hh.2.2.2.2.2.2.2 _ (mem_get! (i := i.toNat) (by omega))).1; omega)).symm
                  | exact (decide_eq_true ⟨by omega, by omega, by omega, by omega, by omega, by omega, takeI_all_mem (by omega) hq, takeI_all_mem (by omega) hq2⟩).symm
end Go.T
namespace Go.T
open Go Go.E Go.Proofs
set_option maxHeartbeats 8000000 in
theorem s_spec_KnowsWhich {m : Md} {a : Int} (hf : m.facts.length ≤ 1073741824) (hl : m.blocks.length ≤ 1073741824) (hb : ∀ b ∈ m.blocks, b.length ≤ 1073741824) : Go.E.Spec Try.prog 15 [.agg (cM false m), .val (.int .i64 a)] (fun r _ => r = .val (.bool (decide (m.ok ∧ (0 ≤ a ∧ a < m.blocks.length) ∧ m.knows a)))) := by
  refine spec_of_awp (E := Ev) evOk Try.func15 (c := _) rfl (by decide) (by simp [Try.ntmps15]) ?_
  rw [Try.ntmps15, entry_mk]
  change awp Ev 2 56 _ _ (mkSt [(0, .agg [.v (eL false 1 cI m.facts), .v (eL false 1 (cL false 1 cI) m.blocks), .v (.val (.int .i64 m.actual))]), (1, .v (.val (.int .i64 a)))] [(0, .agg (cM false m)), (1, .val (.int .i64 a))])
  refine a_seq fun K1 hK1 => ?_
  refine a_region rfl fun K2 hK2 => ?_
  first | refine x_boxVal ?_ | refine x_boxAgg' ?_ | refine x_boxT ?_
  refine x_assign ?_
  refine r_nil hK2 ?_
  refine hK1 _ _ (Ghost.refl _) ?_
  refine a_seq fun K3 hK3 => ?_
  refine a_seq fun K4 hK4 => ?_
  refine a_region rfl fun K5 hK5 => ?_
  first | refine x_ldM ?_ | refine x_ldMR ?_ | refine x_load ?_
  refine x_call (s_spec_ModelOk ?_ ?_ ?_) ?_ (hl := by first | rfl | (repeat (first | exact lendL_nil | refine lendL_cons (by first | rfl | exact lend_ref rfl (ro_eL (by intro _; first | rfl | exact roL_cL (by intro _; rfl))) | exact lend_refp rfl (ro_eL (by intro _; first | rfl | exact roL_cL (by intro _; rfl))) | exact lend_agg (by repeat (first | exact lendL_nil | refine lendL_cons (by first | rfl | exact lend_ref rfl (ro_eL (by intro _; first | rfl | exact roL_cL (by intro _; rfl))) | exact lend_refp rfl (ro_eL (by intro _; first | rfl | exact roL_cL (by intro _; rfl)))) ?_))) ?_)))
  ·
    first | omega | exact hb
  ·
    first | omega | exact hb
  ·
    first | omega | exact hb
  rintro _ _ rfl
  refine x_un ?_
  refine x_move ?_
  refine x_split 11 rfl (by first | exact .beq | exact .bne | exact .dec | exact .not .beq | exact .not .bne | exact .not .dec | exact .not .id | exact .id) (fun h6 => ?_) (fun h6 => ?_)
  · skip
    refine x_shut ?_
    refine x_shut ?_
    refine x_pickT ?_
    refine x_move ?_
    refine x_shut ?_
    refine x_shut ?_
    refine x_shut ?_
    refine x_shut ?_
    refine x_shut ?_
    refine x_pickT ?_
    refine r_nil hK5 ?_
    refine hK4 _ _ (Ghost.refl _) ?_
    refine a_condT rfl ?_
    refine a_seq fun K7 hK7 => ?_
    refine a_region rfl fun K8 hK8 => ?_
    refine x_assign ?_
    refine r_nil hK8 ?_
    refine hK7 _ _ (Ghost.refl _) ?_
    refine a_ret ?_
    refine then_ret ?_
    refine leave_val (.inr rfl) rfl rfl rfl (congrArg (fun z => V.val (.bool z)) ?_)
    first
      | (symm; rw [decide_eq_false_iff_not]; intro hh; first | exact h6 hh.1 | (have h1 := hh.2.1; omega) | exact h6 (hh.2.2 i.toNat (by omega) h))
      | (symm; rw [decide_eq_true_iff]; exact ⟨hok, hag, fun j hj => hq j (by omega)⟩)
  · skip
    refine x_move ?_
    refine x_bin ?_
    refine x_pickF ?_
    refine x_move ?_
    refine x_split 15 rfl (by first | exact .beq | exact .bne | exact .dec | exact .not .beq | exact .not .bne | exact .not .dec | exact .not .id | exact .id) (fun h9 => ?_) (fun h9 => ?_)
    · skip
      refine x_shut ?_
      refine x_shut ?_
      refine x_shut ?_
      refine x_shut ?_
      refine x_shut ?_
      refine x_pickT ?_
      refine r_nil hK5 ?_
      refine hK4 _ _ (ghost_has (ks := [(1, .v _), (2, .ref 2 []), (21, .v _)]) (km := [(0, _), (1, _), (2, _)]) ⟨rfl, rfl, rfl, trivial⟩ ⟨rfl, rfl, rfl, trivial⟩ rfl) ?_
      refine a_condT rfl ?_
      refine a_seq fun K10 hK10 => ?_
      refine a_region rfl fun K11 hK11 => ?_
      refine x_assign ?_
      refine r_nil hK11 ?_
      refine hK10 _ _ (Ghost.refl _) ?_
      refine a_ret ?_
      refine then_ret ?_
      refine leave_val (.inr rfl) rfl rfl rfl (congrArg (fun z => V.val (.bool z)) ?_)
      first
        | (symm; rw [decide_eq_false_iff_not]; intro hh; first | exact h9 hh.1 | (have h1 := hh.2.1; omega) | exact h9 (hh.2.2 i.toNat (by omega) h6))
        | (symm; rw [decide_eq_true_iff]; exact ⟨hok, hag, fun j hj => hq j (by omega)⟩)
    · skip
      refine x_move ?_
      refine x_fieldAddr ?_
      refine x_load ?_
      refine x_len ?_
      refine x_bin ?_
      refine x_pickF ?_
      refine r_nil hK5 ?_
      refine hK4 _ _ (ghost_has (ks := [(1, .v _), (2, .ref 2 []), (21, .v _)]) (km := [(0, _), (1, _), (2, _)]) ⟨rfl, rfl, rfl, trivial⟩ ⟨rfl, rfl, rfl, trivial⟩ rfl) ?_
      refine a_condP rfl (by first | exact .beq | exact .bne | exact .dec | exact .not .beq | exact .not .bne | exact .not .dec | exact .not .id | exact .id) (fun h12 => ?_) (fun h12 => ?_)
      · skip
        refine a_seq fun K13 hK13 => ?_
        refine a_region rfl fun K14 hK14 => ?_
        refine x_assign ?_
        refine r_nil hK14 ?_
        refine hK13 _ _ (Ghost.refl _) ?_
        refine a_ret ?_
        refine then_ret ?_
        refine leave_val (.inr rfl) rfl rfl rfl (congrArg (fun z => V.val (.bool z)) ?_)
        first
          | (symm; rw [decide_eq_false_iff_not]; intro hh; first | exact h12 hh.1 | (have h1 := hh.2.1; omega) | exact h12 (hh.2.2 i.toNat (by omega) h9))
          | (symm; rw [decide_eq_true_iff]; exact ⟨hok, hag, fun j hj => hq j (by omega)⟩)
      · skip
        refine a_skip ?_
        refine hK3 _ _ (Ghost.refl _) ?_
        refine a_seq fun K15 hK15 => ?_
        refine a_region rfl fun K16 hK16 => ?_
        refine x_fieldAddr ?_
        refine x_load ?_
        refine x_move ?_
        refine x_indexAddr ?_ ?_
        ·
          exact ⟨by omega, by omega⟩
        first | refine x_ldE ?_ ?_ | refine x_ldN ?_ ?_ | refine x_ldO ?_ ?_ | refine x_ldON ?_ ?_ (hf := fun x => (rfl : cN x = List.map V.val [_, _, _, _]))
        ·
          omega
        refine x_assign ?_
        refine r_nil hK16 ?_
        refine hK15 _ _ (Ghost.refl _) ?_
        refine a_seq fun K17 hK17 => ?_
        refine a_seq fun K18 hK18 => ?_
        refine a_region rfl fun K19 hK19 => ?_
        refine x_fieldAddr ?_
        refine x_load ?_
        refine x_len ?_
        refine x_move ?_
        refine r_nil hK19 ?_
        refine hK18 _ _ (Ghost.refl _) ?_
        refine a_block fun K20 hK20 => ?_
        refine a_loopM (X := Int) (fun i => ([(30, .v (.val (.int .i64 i)))] : List (Nat × S))) (fun i => ([] : List (Nat × V))) (fun i => (0 ≤ i ∧ i ≤ m.facts.length) ∧ (∀ j : Nat, j < i.toNat → (m.blocks[a.toNat]!)[j]! = (m.blocks[a.toNat]!)[m.actual.toNat]! → m.facts[j]! = m.facts[m.actual.toNat]!)) (fun i => (m.facts.length - i).toNat) [(2, .ref 2 []), (5, _), (28, _), (29, .v _)] [(0, _), (1, _), (2, _)] _ (Ghost.refl _) ⟨rfl, rfl, rfl, rfl, rfl, trivial⟩ ⟨rfl, rfl, rfl, trivial⟩ (fun i => rfl) ?_ ?_
        ·
          try dsimp only
          refine ⟨?_, ?_⟩
          ·
            first | omega | rfl | assumption | (simp; done) | (simp_all; done)
          ·
            intro j hj; simp at hj
        ·
          rintro i hI21 K21 hK21
          dsimp only [List.cons_append, List.nil_append] at hI21 ⊢
          obtain ⟨hi, hq⟩ := hI21
          have hok : m.ok := (by first | assumption | exact Decidable.not_not.1 (by assumption) | exact (Decidable.not_not.1 (‹¬¬(m.ok ∧ 0 ≤ a ∧ a < ↑m.blocks.length)›)).1)
          have hag : 0 ≤ a ∧ a < m.blocks.length := (by first | exact ⟨by omega, by omega⟩ | exact (Decidable.not_not.1 (‹¬¬(m.ok ∧ 0 ≤ a ∧ a < ↑m.blocks.length)›)).2)
          have hlen := Md.ok_len hok hag.1 hag.2
          have hac : 0 ≤ m.actual ∧ m.actual < m.facts.length := ⟨hok.2.2.2.2.1, hok.2.2.2.2.2.1⟩
          refine a_seq fun K22 hK22 => ?_
          refine a_region rfl fun K23 hK23 => ?_
          refine x_bin ?_
          refine r_nil hK23 ?_
          refine hK22 _ _ (Ghost.refl _) ?_
          refine a_seq fun K24 hK24 => ?_
          refine a_condP rfl (by first | exact .beq | exact .bne | exact .dec | exact .not .beq | exact .not .bne | exact .not .dec | exact .not .id | exact .id) (fun h25 => ?_) (fun h25 => ?_)
          · skip
            refine a_skip ?_
            refine hK24 _ _ (Ghost.refl _) ?_
            refine a_seq fun K26 hK26 => ?_
            refine a_block fun K27 hK27 => ?_
            refine a_seq fun K28 hK28 => ?_
            refine a_region rfl fun K29 hK29 => ?_
            refine x_move ?_
            refine x_indexAddr ?_ ?_
            ·
              exact ⟨by omega, by omega⟩
            first | refine x_ldE ?_ ?_ | refine x_ldN ?_ ?_ | refine x_ldO ?_ ?_ | refine x_ldON ?_ ?_ (hf := fun x => (rfl : cN x = List.map V.val [_, _, _, _]))
            ·
              omega
            refine x_assign ?_
            refine x_assign ?_
            refine r_nil hK29 ?_
            refine hK28 _ _ (Ghost.refl _) ?_
            refine a_seq fun K30 hK30 => ?_
            refine a_drawnG (ms := [524287, 262143, 129023, 63487, 18431, 2047, 6143, 2047, 2047, 1023, 511, 240, 112, 32, 0, 0, 7, 3, 0, 0]) (by decide +kernel) (by decide +kernel) rfl (by decide +kernel) fun K31 hK31 => ?_
            refine x_move ?_
            refine x_move ?_
            refine x_indexAddr ?_ ?_
            ·
              exact ⟨by omega, by omega⟩
            first | refine x_ldE ?_ ?_ | refine x_ldN ?_ ?_ | refine x_ldO ?_ ?_ | refine x_ldON ?_ ?_ (hf := fun x => (rfl : cN x = List.map V.val [_, _, _, _]))
            ·
              omega
            refine x_move ?_
            refine x_fieldAddr ?_
            refine x_load ?_
            refine x_indexAddr ?_ ?_
            ·
              exact ⟨by omega, by omega⟩
            first | refine x_ldE ?_ ?_ | refine x_ldN ?_ ?_ | refine x_ldO ?_ ?_ | refine x_ldON ?_ ?_ (hf := fun x => (rfl : cN x = List.map V.val [_, _, _, _]))
            ·
              omega
            refine x_bin ?_
            refine x_move ?_
            refine x_split 45 rfl (by first | exact .beq | exact .bne | exact .dec | exact .not .beq | exact .not .bne | exact .not .dec | exact .not .id | exact .id) (fun h32 => ?_) (fun h32 => ?_)
            · skip
              refine x_move ?_
              refine x_fieldAddr ?_
              refine x_load ?_
              refine x_fieldAddr ?_
              refine x_load ?_
              refine x_indexAddr ?_ ?_
              ·
                exact ⟨by omega, by omega⟩
              first | refine x_ldE ?_ ?_ | refine x_ldN ?_ ?_ | refine x_ldO ?_ ?_ | refine x_ldON ?_ ?_ (hf := fun x => (rfl : cN x = List.map V.val [_, _, _, _]))
              ·
                omega
              refine x_bin ?_
              refine x_pickT ?_
              refine r_nil hK31 ?_
              refine hK30 _ _ (ghost_has (ks := [(2, .ref 2 []), (5, _), (28, _), (29, .v _), (30, .v _), (46, .v _), (47, _), (48, _), (49, _), (50, .v _), (51, _), (52, .v _), (53, .v _), (54, .v _)]) (km := [(0, _), (1, _), (2, _)]) ⟨rfl, rfl, rfl, rfl, rfl, rfl, rfl, rfl, rfl, rfl, rfl, rfl, rfl, rfl, trivial⟩ ⟨rfl, rfl, rfl, trivial⟩ rfl) ?_
              refine a_condP rfl (by first | exact .beq | exact .bne | exact .dec | exact .not .beq | exact .not .bne | exact .not .dec | exact .not .id | exact .id) (fun h33 => ?_) (fun h33 => ?_)
              · skip
                refine a_seq fun K34 hK34 => ?_
                refine a_region rfl fun K35 hK35 => ?_
                refine x_assign ?_
                refine r_nil hK35 ?_
                refine hK34 _ _ (Ghost.refl _) ?_
                refine a_ret ?_
                refine hK27 .ret _ (in_ret ?_)
                refine then_ret ?_
                refine then_ret ?_
                refine hK20 .ret _ (in_ret ?_)
                refine then_ret ?_
                refine leave_val (.inr rfl) rfl rfl rfl (congrArg (fun z => V.val (.bool z)) ?_)
                first
                  | (symm; rw [decide_eq_false_iff_not]; intro hh; first | exact h33 hh.1 | (have h1 := hh.2.1; omega) | exact h33 (hh.2.2 i.toNat (by omega) h32))
                  | (symm; rw [decide_eq_true_iff]; exact ⟨hok, hag, fun j hj => hq j (by omega)⟩)
              · skip
                refine a_skip ?_
                refine hK27 .normal _ ?_
                refine hK26 _ _ (Ghost.refl _) ?_
                refine a_region rfl fun K36 hK36 => ?_
                refine x_add ?_ ?_
                ·
                  exact ⟨by omega, by omega⟩
                refine x_move ?_
                refine r_nil hK36 ?_
                refine hK21 _ _ _ _ (Ghost.refl _) ⟨rfl, rfl, rfl, rfl, rfl, trivial⟩ ⟨rfl, rfl, rfl, trivial⟩ ?_ ?_
                ·
                  first | omega | (dsimp only; omega)
                ·
                  try dsimp only
                  refine ⟨?_, ?_⟩
                  ·
                    first | omega | rfl | assumption | (simp; done) | (simp_all; done)
                  ·
                    intro j hj
                    by_cases e : j = i.toNat
                    · subst e; intro heq; first | exact Decidable.not_not.1 h33 | exact absurd heq h33
                    · exact hq j (by omega)
            · skip
              refine x_shut ?_
              refine x_shut ?_
              refine x_shut ?_
              refine x_shut ?_
              refine x_shut ?_
              refine x_shut ?_
              refine x_shut ?_
              refine x_shut ?_
              refine x_pickF ?_
              refine r_nil hK31 ?_
              refine hK30 _ _ (ghost_has (ks := [(2, .ref 2 []), (5, _), (28, _), (29, .v _), (30, .v _), (46, .v _), (47, .v _), (48, .v _), (49, .v _), (50, .v _), (51, .v _), (52, .v _), (53, .v _), (54, .v _)]) (km := [(0, _), (1, _), (2, _)]) ⟨rfl, rfl, rfl, rfl, rfl, rfl, rfl, rfl, rfl, rfl, rfl, rfl, rfl, rfl, trivial⟩ ⟨rfl, rfl, rfl, trivial⟩ rfl) ?_
              refine a_condF rfl ?_
              refine a_skip ?_
              refine hK27 .normal _ ?_
              refine hK26 _ _ (Ghost.refl _) ?_
              refine a_region rfl fun K37 hK37 => ?_
              refine x_add ?_ ?_
              ·
                exact ⟨by omega, by omega⟩
              refine x_move ?_
              refine r_nil hK37 ?_
              refine hK21 _ _ _ _ (Ghost.refl _) ⟨rfl, rfl, rfl, rfl, rfl, trivial⟩ ⟨rfl, rfl, rfl, trivial⟩ ?_ ?_
              ·
                first | omega | (dsimp only; omega)
              ·
                try dsimp only
                refine ⟨?_, ?_⟩
                ·
                  first | omega | rfl | assumption | (simp; done) | (simp_all; done)
                ·
                  intro j hj
                  by_cases e : j = i.toNat
                  · subst e; intro heq; first | exact Decidable.not_not.1 h32 | exact absurd heq h32
                  · exact hq j (by omega)
          · skip
            refine a_exit ?_
            refine then_exit ?_
            refine then_exit ?_
            refine hK20 (.exit 0) _ (in_exit ?_)
            refine hK17 _ _ (Ghost.refl _) ?_
            refine a_seq fun K38 hK38 => ?_
            refine a_region rfl fun K39 hK39 => ?_
            refine x_assign ?_
            refine r_nil hK39 ?_
            refine hK38 _ _ (Ghost.refl _) ?_
            refine a_ret ?_
            refine leave_val (.inr rfl) rfl rfl rfl (congrArg (fun z => V.val (.bool z)) ?_)
            first
              | (symm; rw [decide_eq_false_iff_not]; intro hh; first | exact h25 hh.1 | (have h1 := hh.2.1; omega) | exact h25 (hh.2.2 i.toNat (by omega) h12))
              | (symm; rw [decide_eq_true_iff]; exact ⟨hok, hag, fun j hj => hq j (by omega)⟩)
end Go.T
namespace Go.T
open Go Go.E Go.Proofs
set_option maxHeartbeats 8000000 in
theorem s_impl_within {a : Int} {b : Int} {c : Int}  : Go.E.Spec Try.prog 62 [.val (.int .i64 a), .val (.int .i64 b), .val (.int .i64 c)] (fun r _ => r = .val (.bool (decide (b ≤ a ∧ a ≤ c)))) := by
  refine spec_of_awp (E := Ev) evOk Try.func62 (c := _) rfl (by decide) (by simp [Try.ntmps62]) ?_
  rw [Try.ntmps62, entry_mk]
  change awp Ev 3 15 _ _ (mkSt [(0, .v (.val (.int .i64 a))), (1, .v (.val (.int .i64 b))), (2, .v (.val (.int .i64 c)))] [(0, .val (.int .i64 a)), (1, .val (.int .i64 b)), (2, .val (.int .i64 c))])
  refine a_seq fun K1 hK1 => ?_
  refine a_region rfl fun K2 hK2 => ?_
  refine x_assign ?_
  refine r_nil hK2 ?_
  refine hK1 _ _ (Ghost.refl _) ?_
  refine a_seq fun K3 hK3 => ?_
  refine a_region rfl fun K4 hK4 => ?_
  refine x_move ?_
  refine x_move ?_
  refine x_bin ?_
  refine x_move ?_
  refine x_split 10 rfl (by first | exact .beq | exact .bne | exact .dec | exact .not .beq | exact .not .bne | exact .not .dec | exact .not .id | exact .id) (fun h5 => ?_) (fun h5 => ?_)
  · skip
    refine x_move ?_
    refine x_move ?_
    refine x_bin ?_
    refine x_pickT ?_
    refine x_assign ?_
    refine r_nil hK4 ?_
    refine hK3 _ _ (Ghost.refl _) ?_
    refine a_ret ?_
    refine leave_val (.inr rfl) rfl rfl rfl (congrArg (fun z => V.val (.bool z)) ?_)
    simp; omega
  · skip
    refine x_shut ?_
    refine x_shut ?_
    refine x_shut ?_
    refine x_pickF ?_
    refine x_assign ?_
    refine r_nil hK4 ?_
    refine hK3 _ _ (Ghost.refl _) ?_
    refine a_ret ?_
    refine leave_val (.inr rfl) rfl rfl rfl (congrArg (fun z => V.val (.bool z)) ?_)
    simp; omega
end Go.T
namespace Go.T
open Go Go.E Go.Proofs
set_option maxHeartbeats 8000000 in
theorem s_slices_IndexFunc_Lint_int {l : List Int} {F : Nat} {caps : List V} {p : Int → Bool} (hro : caps.all V.roB = true) (hF : ∀ x ∈ l, Go.E.Spec Try.prog F ((.val (.int .i64 x)) :: caps) (fun r _ => r = .val (.bool (p x)))) (hl : l.length ≤ 9223372036854775807) : Go.E.Spec Try.prog 81 [eL false 1 cI l, .fn F caps] (fun r _ => r = .val (.int .i64 (idxF l p))) := by
  refine spec_of_awp (E := Ev) evOk Try.func81 (c := _) rfl (by decide) (by simp [Try.ntmps81]) ?_
  rw [Try.ntmps81, entry_mk]
  change awp Ev 2 19 _ _ (mkSt [(0, .v (eL false 1 cI l)), (1, viewR 1 (.fn F caps))] [(0, eL false 1 cI l), (1, .fn F caps)])
  rw [viewR_fn (d := 1) (F := F) hro]
  refine a_seq fun K1 hK1 => ?_
  refine a_region rfl fun K2 hK2 => ?_
  refine x_assign ?_
  refine r_nil hK2 ?_
  refine hK1 _ _ (Ghost.refl _) ?_
  refine a_seq fun K3 hK3 => ?_
  refine a_seq fun K4 hK4 => ?_
  refine a_region rfl fun K5 hK5 => ?_
  refine x_move ?_
  refine x_len ?_
  refine x_move ?_
  refine r_nil hK5 ?_
  refine hK4 _ _ (Ghost.refl _) ?_
  refine a_block fun K6 hK6 => ?_
  refine a_loopM (X := Int) (fun i => ([(8, .v (.val (.int .i64 i)))] : List (Nat × S))) (fun i => ([] : List (Nat × V))) (fun i => (0 ≤ i ∧ i ≤ l.length) ∧ (∀ j : Nat, j < i.toNat → ¬ p l[j]! = true)) (fun i => (l.length - i).toNat) [(0, .v _), (1, .fn _ (List.map S.v _)), (7, .v _)] [(0, _), (1, _)] _ (Ghost.refl _) ⟨rfl, rfl, (by first | rfl | exact congrArg (fun z => some (1, z)) (kill_fn _)), rfl, trivial⟩ ⟨rfl, rfl, trivial⟩ (by intro i; simp [rooted, S.rootsIn, rootsInL_vs]) ?_ ?_
  ·
    try dsimp only
    refine ⟨?_, ?_⟩
    ·
      first | omega | rfl | assumption | (simp; done) | (simp_all; done)
    ·
      intro j hj; simp at hj
  ·
    rintro i hI7 K7 hK7
    dsimp only [List.cons_append, List.nil_append] at hI7 ⊢
    obtain ⟨hi, hno⟩ := hI7
    refine a_seq fun K8 hK8 => ?_
    refine a_region rfl fun K9 hK9 => ?_
    refine x_bin ?_
    refine r_nil hK9 ?_
    refine hK8 _ _ (Ghost.refl _) ?_
    refine a_seq fun K10 hK10 => ?_
    refine a_condP rfl (by first | exact .beq | exact .bne | exact .dec | exact .not .beq | exact .not .bne | exact .not .dec | exact .not .id | exact .id) (fun h11 => ?_) (fun h11 => ?_)
    · skip
      refine a_skip ?_
      refine hK10 _ _ (Ghost.refl _) ?_
      refine a_seq fun K12 hK12 => ?_
      refine a_block fun K13 hK13 => ?_
      refine a_seq fun K14 hK14 => ?_
      refine a_region rfl fun K15 hK15 => ?_
      refine x_move ?_
      refine x_assign ?_
      refine r_nil hK15 ?_
      refine hK14 _ _ (Ghost.refl _) ?_
      refine a_seq fun K16 hK16 => ?_
      refine a_region rfl fun K17 hK17 => ?_
      refine x_move ?_
      refine x_move ?_
      refine x_move ?_
      refine x_indexAddr ?_ ?_
      ·
        exact ⟨by omega, by omega⟩
      first | refine x_ldE ?_ ?_ | refine x_ldN ?_ ?_ | refine x_ldO ?_ ?_ | refine x_ldON ?_ ?_ (hf := fun x => (rfl : cN x = List.map V.val [_, _, _, _]))
      ·
        omega
      refine x_callF (hF _ (mem_get! (i := i.toNat) (by omega))) ?_ (hl := lendL_cons rfl (lendL_vs _))
      rintro _ _ rfl
      refine r_nil hK17 ?_
      refine hK16 _ _ (Ghost.refl _) ?_
      refine a_condP rfl (by first | exact .beq | exact .bne | exact .dec | exact .not .beq | exact .not .bne | exact .not .dec | exact .not .id | exact .id) (fun h18 => ?_) (fun h18 => ?_)
      · skip
        refine a_seq fun K19 hK19 => ?_
        refine a_region rfl fun K20 hK20 => ?_
        refine x_move ?_
        refine x_assign ?_
        refine r_nil hK20 ?_
        refine hK19 _ _ (Ghost.refl _) ?_
        refine a_ret ?_
        refine hK13 .ret _ (in_ret ?_)
        refine then_ret ?_
        refine then_ret ?_
        refine hK6 .ret _ (in_ret ?_)
        refine then_ret ?_
        refine leave_val (.inr rfl) rfl rfl (freeL_skip rfl (freeL_fn hro rfl)) (congrArg (fun z => V.val (.int .i64 z)) ?_)
        rw [idxF_first (i := i.toNat) (by omega) h18 hno]; omega
      · skip
        refine a_skip ?_
        refine hK13 .normal _ ?_
        refine hK12 _ _ (Ghost.refl _) ?_
        refine a_region rfl fun K21 hK21 => ?_
        refine x_add ?_ ?_
        ·
          exact ⟨by omega, by omega⟩
        refine x_move ?_
        refine r_nil hK21 ?_
        refine hK7 _ _ _ _ (Ghost.refl _) ⟨rfl, rfl, (by first | rfl | exact congrArg (fun z => some (1, z)) (kill_fn _)), rfl, trivial⟩ ⟨rfl, rfl, trivial⟩ ?_ ?_
        ·
          first | omega | (dsimp only; omega)
        ·
          try dsimp only
          refine ⟨?_, ?_⟩
          ·
            first | omega | rfl | assumption | (simp; done) | (simp_all; done)
          ·
            intro j hj
            by_cases e : j = i.toNat
            · subst e; exact h18
            · exact hno j (by omega)
    · skip
      refine a_exit ?_
      refine then_exit ?_
      refine then_exit ?_
      refine hK6 (.exit 0) _ (in_exit ?_)
      refine hK3 _ _ (Ghost.refl _) ?_
      refine a_seq fun K22 hK22 => ?_
      refine a_region rfl fun K23 hK23 => ?_
      refine x_assign ?_
      refine r_nil hK23 ?_
      refine hK22 _ _ (Ghost.refl _) ?_
      refine a_ret ?_
      refine leave_val (.inr rfl) rfl rfl (freeL_skip rfl (freeL_fn hro rfl)) (congrArg (fun z => V.val (.int .i64 z)) ?_)
      exact (idxF_none (fun j hj => hno j (by omega))).symm
end Go.T
namespace Go.T
open Go Go.E Go.Proofs
set_option maxHeartbeats 8000000 in
theorem s_slices_ContainsFunc_Lint_int {l : List Int} {F : Nat} {caps : List V} {p : Int → Bool} (hro : caps.all V.roB = true) (hF : ∀ x ∈ l, Go.E.Spec Try.prog F ((.val (.int .i64 x)) :: caps) (fun r _ => r = .val (.bool (p x)))) (hl : l.length ≤ 9223372036854775807) : Go.E.Spec Try.prog 74 [eL false 1 cI l, .fn F caps] (fun r _ => r = .val (.bool (l.any p))) := by
  refine spec_of_awp (E := Ev) evOk Try.func74 (c := _) rfl (by decide) (by simp [Try.ntmps74]) ?_
  rw [Try.ntmps74, entry_mk]
  change awp Ev 2 9 _ _ (mkSt [(0, .v (eL false 1 cI l)), (1, viewR 1 (.fn F caps))] [(0, eL false 1 cI l), (1, .fn F caps)])
  rw [viewR_fn (d := 1) (F := F) hro]
  refine a_seq fun K1 hK1 => ?_
  refine a_region rfl fun K2 hK2 => ?_
  refine x_assign ?_
  refine r_nil hK2 ?_
  refine hK1 _ _ (Ghost.refl _) ?_
  refine a_seq fun K3 hK3 => ?_
  refine a_region rfl fun K4 hK4 => ?_
  refine x_move ?_
  refine x_move ?_
  refine x_call (s_slices_IndexFunc_Lint_int hro hF hl) ?_ (hl := lendL_cons rfl lendL_fn1)
  rintro _ _ rfl
  refine x_bin ?_
  refine x_assign ?_
  refine r_nil hK4 ?_
  refine hK3 _ _ (Ghost.refl _) ?_
  refine a_ret ?_
  refine leave_val (.inr rfl) rfl rfl (freeL_skip rfl (freeL_fn hro rfl)) (congrArg (fun z => V.val (.bool z)) ?_)
  rw [Bool.eq_iff_iff]; exact (decide_eq_true_iff).trans idxF_any
end Go.T
namespace Go.T
open Go Go.E Go.Proofs
set_option maxHeartbeats 8000000 in
theorem s_impl_areFacts_1 {n : Int}  : Go.E.Spec Try.prog 75 [.val (.int .i64 n)] (fun r _ => r = .val (.bool (!decide (0 ≤ n ∧ n ≤ 15)))) := by
  refine spec_of_awp (E := Ev) evOk Try.func75 (c := _) rfl (by decide) (by simp [Try.ntmps75]) ?_
  rw [Try.ntmps75, entry_mk]
  change awp Ev 1 6 _ _ (mkSt [(0, .v (.val (.int .i64 n)))] [(0, .val (.int .i64 n))])
  refine a_seq fun K1 hK1 => ?_
  refine a_region rfl fun K2 hK2 => ?_
  refine x_assign ?_
  refine r_nil hK2 ?_
  refine hK1 _ _ (Ghost.refl _) ?_
  refine a_seq fun K3 hK3 => ?_
  refine a_region rfl fun K4 hK4 => ?_
  refine x_move ?_
  refine x_call (s_impl_within) ?_ (hl := by first | rfl | (repeat (first | exact lendL_nil | refine lendL_cons (by first | rfl | exact lend_ref rfl (ro_eL (by intro _; first | rfl | exact roL_cL (by intro _; rfl))) | exact lend_refp rfl (ro_eL (by intro _; first | rfl | exact roL_cL (by intro _; rfl))) | exact lend_agg (by repeat (first | exact lendL_nil | refine lendL_cons (by first | rfl | exact lend_ref rfl (ro_eL (by intro _; first | rfl | exact roL_cL (by intro _; rfl))) | exact lend_refp rfl (ro_eL (by intro _; first | rfl | exact roL_cL (by intro _; rfl)))) ?_))) ?_)))
  rintro _ _ rfl
  refine x_un ?_
  refine x_assign ?_
  refine r_nil hK4 ?_
  refine hK3 _ _ (Ghost.refl _) ?_
  refine a_ret ?_
  refine leave_val (.inr rfl) rfl rfl rfl (congrArg (fun z => V.val (.bool z)) ?_)
  first | rfl | omega | assumption | (simp; done) | (simp_all; done)
end Go.T
namespace Go.T
open Go Go.E Go.Proofs
set_option maxHeartbeats 8000000 in
theorem s_impl_areFacts {l : List Int} (hl : l.length ≤ 9223372036854775807) : Go.E.Spec Try.prog 60 [eL false 1 cI l] (fun r _ => r = .val (.bool (decide (1 ≤ l.length ∧ l.length ≤ 16 ∧ ∀ x ∈ l, 0 ≤ x ∧ x ≤ 15)))) := by
  refine spec_of_awp (E := Ev) evOk Try.func60 (c := _) rfl (by decide) (by simp [Try.ntmps60]) ?_
  rw [Try.ntmps60, entry_mk]
  change awp Ev 1 11 _ _ (mkSt [(0, .v (eL false 1 cI l))] [(0, eL false 1 cI l)])
  refine a_seq fun K1 hK1 => ?_
  refine a_region rfl fun K2 hK2 => ?_
  refine x_assign ?_
  refine r_nil hK2 ?_
  refine hK1 _ _ (Ghost.refl _) ?_
  refine a_seq fun K3 hK3 => ?_
  refine a_region rfl fun K4 hK4 => ?_
  refine x_move ?_
  refine x_len ?_
  refine x_call (s_impl_within) ?_ (hl := by first | rfl | (repeat (first | exact lendL_nil | refine lendL_cons (by first | rfl | exact lend_ref rfl (ro_eL (by intro _; first | rfl | exact roL_cL (by intro _; rfl))) | exact lend_refp rfl (ro_eL (by intro _; first | rfl | exact roL_cL (by intro _; rfl))) | exact lend_agg (by repeat (first | exact lendL_nil | refine lendL_cons (by first | rfl | exact lend_ref rfl (ro_eL (by intro _; first | rfl | exact roL_cL (by intro _; rfl))) | exact lend_refp rfl (ro_eL (by intro _; first | rfl | exact roL_cL (by intro _; rfl)))) ?_))) ?_)))
  rintro _ _ rfl
  refine x_move ?_
  refine x_split 6 rfl (by first | exact .beq | exact .bne | exact .dec | exact .not .beq | exact .not .bne | exact .not .dec | exact .not .id | exact .id) (fun h5 => ?_) (fun h5 => ?_)
  · skip
    refine x_move ?_
    refine x_call (s_slices_ContainsFunc_Lint_int (p := fun x => !decide (0 ≤ x ∧ x ≤ 15)) rfl (fun x _ => s_impl_areFacts_1) (by omega)) ?_
    rintro _ _ rfl
    refine x_un ?_
    refine x_pickT ?_
    refine x_assign ?_
    refine r_nil hK4 ?_
    refine hK3 _ _ (Ghost.refl _) ?_
    refine a_ret ?_
    refine leave_val (.inr rfl) rfl rfl rfl (congrArg (fun z => V.val (.bool z)) ?_)
    have q1 : 1 ≤ l.length ∧ l.length ≤ 16 := by omega
    rw [notany]; exact decide_eq_decide.2 ⟨fun h => ⟨q1.1, q1.2, h⟩, fun h => h.2.2⟩
  · skip
    refine x_shut ?_
    refine x_shut ?_
    refine x_shut ?_
    refine x_pickF ?_
    refine x_assign ?_
    refine r_nil hK4 ?_
    refine hK3 _ _ (Ghost.refl _) ?_
    refine a_ret ?_
    refine leave_val (.inr rfl) rfl rfl rfl (congrArg (fun z => V.val (.bool z)) ?_)
    exact (decide_eq_false (fun hh => by omega)).symm
end Go.T
namespace Go.T
open Go Go.E Go.Proofs
set_option maxHeartbeats 8000000 in
theorem s_slices_IndexFunc_LLint_Lint {l : List ((List Int))} {F : Nat} {caps : List V} {p : (List Int) → Bool} (hro : caps.all V.roB = true) (hF : ∀ x ∈ l, Go.E.Spec Try.prog F ((eL false 1 cI x) :: caps) (fun r _ => r = .val (.bool (p x)))) (hl : l.length ≤ 9223372036854775807) : Go.E.Spec Try.prog 82 [eL false 1 (cL false 1 cI) l, .fn F caps] (fun r _ => r = .val (.int .i64 (idxF l p))) := by
  refine spec_of_awp (E := Ev) evOk Try.func82 (c := _) rfl (by decide) (by simp [Try.ntmps82]) ?_
  rw [Try.ntmps82, entry_mk]
  change awp Ev 2 19 _ _ (mkSt [(0, .v (eL false 1 (cL false 1 cI) l)), (1, viewR 1 (.fn F caps))] [(0, eL false 1 (cL false 1 cI) l), (1, .fn F caps)])
  rw [viewR_fn (d := 1) (F := F) hro]
  refine a_seq fun K1 hK1 => ?_
  refine a_region rfl fun K2 hK2 => ?_
  refine x_assign ?_
  refine r_nil hK2 ?_
  refine hK1 _ _ (Ghost.refl _) ?_
  refine a_seq fun K3 hK3 => ?_
  refine a_seq fun K4 hK4 => ?_
  refine a_region rfl fun K5 hK5 => ?_
  refine x_move ?_
  refine x_len ?_
  refine x_move ?_
  refine r_nil hK5 ?_
  refine hK4 _ _ (Ghost.refl _) ?_
  refine a_block fun K6 hK6 => ?_
  refine a_loopM (X := Int) (fun i => ([(8, .v (.val (.int .i64 i)))] : List (Nat × S))) (fun i => ([] : List (Nat × V))) (fun i => (0 ≤ i ∧ i ≤ l.length) ∧ (∀ j : Nat, j < i.toNat → ¬ p l[j]! = true)) (fun i => (l.length - i).toNat) [(0, .v _), (1, .fn _ (List.map S.v _)), (7, .v _)] [(0, _), (1, _)] _ (Ghost.refl _) ⟨rfl, rfl, (by first | rfl | exact congrArg (fun z => some (1, z)) (kill_fn _)), rfl, trivial⟩ ⟨rfl, rfl, trivial⟩ (by intro i; simp [rooted, S.rootsIn, rootsInL_vs]) ?_ ?_
  ·
    try dsimp only
    refine ⟨?_, ?_⟩
    ·
      first | omega | rfl | assumption | (simp; done) | (simp_all; done)
    ·
      intro j hj; simp at hj
  ·
    rintro i hI7 K7 hK7
    dsimp only [List.cons_append, List.nil_append] at hI7 ⊢
    obtain ⟨hi, hno⟩ := hI7
    refine a_seq fun K8 hK8 => ?_
    refine a_region rfl fun K9 hK9 => ?_
    refine x_bin ?_
    refine r_nil hK9 ?_
    refine hK8 _ _ (Ghost.refl _) ?_
    refine a_seq fun K10 hK10 => ?_
    refine a_condP rfl (by first | exact .beq | exact .bne | exact .dec | exact .not .beq | exact .not .bne | exact .not .dec | exact .not .id | exact .id) (fun h11 => ?_) (fun h11 => ?_)
    · skip
      refine a_skip ?_
      refine hK10 _ _ (Ghost.refl _) ?_
      refine a_seq fun K12 hK12 => ?_
      refine a_block fun K13 hK13 => ?_
      refine a_seq fun K14 hK14 => ?_
      refine a_region rfl fun K15 hK15 => ?_
      refine x_move ?_
      refine x_assign ?_
      refine r_nil hK15 ?_
      refine hK14 _ _ (Ghost.refl _) ?_
      refine a_seq fun K16 hK16 => ?_
      refine a_region rfl fun K17 hK17 => ?_
      refine x_move ?_
      refine x_move ?_
      refine x_move ?_
      refine x_indexAddr ?_ ?_
      ·
        exact ⟨by omega, by omega⟩
      first | refine x_ldE ?_ ?_ | refine x_ldN ?_ ?_ | refine x_ldO ?_ ?_ | refine x_ldON ?_ ?_ (hf := fun x => (rfl : cN x = List.map V.val [_, _, _, _]))
      ·
        omega
      refine x_callF (hF _ (mem_get! (i := i.toNat) (by omega))) ?_ (hl := lendL_cons rfl (lendL_vs _))
      rintro _ _ rfl
      refine r_nil hK17 ?_
      refine hK16 _ _ (Ghost.refl _) ?_
      refine a_condP rfl (by first | exact .beq | exact .bne | exact .dec | exact .not .beq | exact .not .bne | exact .not .dec | exact .not .id | exact .id) (fun h18 => ?_) (fun h18 => ?_)
      · skip
        refine a_seq fun K19 hK19 => ?_
        refine a_region rfl fun K20 hK20 => ?_
        refine x_move ?_
        refine x_assign ?_
        refine r_nil hK20 ?_
        refine hK19 _ _ (Ghost.refl _) ?_
        refine a_ret ?_
        refine hK13 .ret _ (in_ret ?_)
        refine then_ret ?_
        refine then_ret ?_
        refine hK6 .ret _ (in_ret ?_)
        refine then_ret ?_
        refine leave_val (.inr rfl) rfl rfl (freeL_skip rfl (freeL_fn hro rfl)) (congrArg (fun z => V.val (.int .i64 z)) ?_)
        rw [idxF_first (i := i.toNat) (by omega) h18 hno]; omega
      · skip
        refine a_skip ?_
        refine hK13 .normal _ ?_
        refine hK12 _ _ (Ghost.refl _) ?_
        refine a_region rfl fun K21 hK21 => ?_
        refine x_add ?_ ?_
        ·
          exact ⟨by omega, by omega⟩
        refine x_move ?_
        refine r_nil hK21 ?_
        refine hK7 _ _ _ _ (Ghost.refl _) ⟨rfl, rfl, (by first | rfl | exact congrArg (fun z => some (1, z)) (kill_fn _)), rfl, trivial⟩ ⟨rfl, rfl, trivial⟩ ?_ ?_
        ·
          first | omega | (dsimp only; omega)
        ·
          try dsimp only
          refine ⟨?_, ?_⟩
          ·
            first | omega | rfl | assumption | (simp; done) | (simp_all; done)
          ·
            intro j hj
            by_cases e : j = i.toNat
            · subst e; exact h18
            · exact hno j (by omega)
    · skip
      refine a_exit ?_
      refine then_exit ?_
      refine then_exit ?_
      refine hK6 (.exit 0) _ (in_exit ?_)
      refine hK3 _ _ (Ghost.refl _) ?_
      refine a_seq fun K22 hK22 => ?_
      refine a_region rfl fun K23 hK23 => ?_
      refine x_assign ?_
      refine r_nil hK23 ?_
      refine hK22 _ _ (Ghost.refl _) ?_
      refine a_ret ?_
      refine leave_val (.inr rfl) rfl rfl (freeL_skip rfl (freeL_fn hro rfl)) (congrArg (fun z => V.val (.int .i64 z)) ?_)
      exact (idxF_none (fun j hj => hno j (by omega))).symm
end Go.T
namespace Go.T
open Go Go.E Go.Proofs
set_option maxHeartbeats 8000000 in
theorem s_slices_ContainsFunc_LLint_Lint {l : List ((List Int))} {F : Nat} {caps : List V} {p : (List Int) → Bool} (hro : caps.all V.roB = true) (hF : ∀ x ∈ l, Go.E.Spec Try.prog F ((eL false 1 cI x) :: caps) (fun r _ => r = .val (.bool (p x)))) (hl : l.length ≤ 9223372036854775807) : Go.E.Spec Try.prog 76 [eL false 1 (cL false 1 cI) l, .fn F caps] (fun r _ => r = .val (.bool (l.any p))) := by
  refine spec_of_awp (E := Ev) evOk Try.func76 (c := _) rfl (by decide) (by simp [Try.ntmps76]) ?_
  rw [Try.ntmps76, entry_mk]
  change awp Ev 2 9 _ _ (mkSt [(0, .v (eL false 1 (cL false 1 cI) l)), (1, viewR 1 (.fn F caps))] [(0, eL false 1 (cL false 1 cI) l), (1, .fn F caps)])
  rw [viewR_fn (d := 1) (F := F) hro]
  refine a_seq fun K1 hK1 => ?_
  refine a_region rfl fun K2 hK2 => ?_
  refine x_assign ?_
  refine r_nil hK2 ?_
  refine hK1 _ _ (Ghost.refl _) ?_
  refine a_seq fun K3 hK3 => ?_
  refine a_region rfl fun K4 hK4 => ?_
  refine x_move ?_
  refine x_move ?_
  refine x_call (s_slices_IndexFunc_LLint_Lint hro hF hl) ?_ (hl := lendL_cons rfl lendL_fn1)
  rintro _ _ rfl
  refine x_bin ?_
  refine x_assign ?_
  refine r_nil hK4 ?_
  refine hK3 _ _ (Ghost.refl _) ?_
  refine a_ret ?_
  refine leave_val (.inr rfl) rfl rfl (freeL_skip rfl (freeL_fn hro rfl)) (congrArg (fun z => V.val (.bool z)) ?_)
  rw [Bool.eq_iff_iff]; exact (decide_eq_true_iff).trans idxF_any
end Go.T
namespace Go.T
open Go Go.E Go.Proofs
set_option maxHeartbeats 8000000 in
theorem s_impl_isNumbered {l : List Int} (hl : l.length ≤ 1073741824) : Go.E.Spec Try.prog 78 [eL false 1 cI l] (fun r _ => r = .val (.bool (decide (okNum 0 l)))) := by
  refine spec_of_awp (E := Ev) evOk Try.func78 (c := _) rfl (by decide) (by simp [Try.ntmps78]) ?_
  rw [Try.ntmps78, entry_mk]
  change awp Ev 1 21 _ _ (mkSt [(0, .v (eL false 1 cI l))] [(0, eL false 1 cI l)])
  refine a_seq fun K1 hK1 => ?_
  refine a_region rfl fun K2 hK2 => ?_
  refine x_assign ?_
  refine r_nil hK2 ?_
  refine hK1 _ _ (Ghost.refl _) ?_
  refine a_seq fun K3 hK3 => ?_
  refine a_region rfl fun K4 hK4 => ?_
  refine x_assign ?_
  refine r_nil hK4 ?_
  refine hK3 _ _ (Ghost.refl _) ?_
  refine a_seq fun K5 hK5 => ?_
  refine a_seq fun K6 hK6 => ?_
  refine a_region rfl fun K7 hK7 => ?_
  refine x_move ?_
  refine x_len ?_
  refine x_move ?_
  refine r_nil hK7 ?_
  refine hK6 _ _ (Ghost.refl _) ?_
  refine a_block fun K8 hK8 => ?_
  refine a_loopM (X := Int × Int) (fun (n, i) => ([(3, .v (.val (.int .i64 n))), (8, .v (.val (.int .i64 i)))] : List (Nat × S))) (fun (n, i) => ([] : List (Nat × V))) (fun (n, i) => (0 ≤ i ∧ i ≤ l.length) ∧ (n = nextNum 0 (takeI l i)) ∧ (okNum 0 (takeI l i))) (fun (n, i) => (l.length - i).toNat) [(6, .v _), (7, .v _)] [(0, _)] (_, _) (Ghost.refl _) ⟨rfl, rfl, rfl, rfl, trivial⟩ ⟨rfl, trivial⟩ (fun ⟨_, _⟩ => rfl) ?_ ?_
  ·
    try dsimp only
    refine ⟨?_, ?_, ?_⟩
    ·
      first | omega | rfl | assumption | (simp; done) | (simp_all; done)
    ·
      rw [takeI_zero]; rfl
    ·
      rw [takeI_zero]; trivial
  ·
    rintro ⟨n, i⟩ hI9 K9 hK9
    dsimp only [List.cons_append, List.nil_append] at hI9 ⊢
    obtain ⟨hi, hn, hok⟩ := hI9
    have q1 := okNum_next _ _ hok; have q2 := takeI_length (l := l) (i := i) (by omega) (by omega); have q3 := nextNum_ge (takeI l i) 0; rw [← hn] at q1 q3
    refine a_seq fun K10 hK10 => ?_
    refine a_region rfl fun K11 hK11 => ?_
    refine x_bin ?_
    refine r_nil hK11 ?_
    refine hK10 _ _ (Ghost.refl _) ?_
    refine a_seq fun K12 hK12 => ?_
    refine a_condP rfl (by first | exact .beq | exact .bne | exact .dec | exact .not .beq | exact .not .bne | exact .not .dec | exact .not .id | exact .id) (fun h13 => ?_) (fun h13 => ?_)
    · skip
      refine a_skip ?_
      refine hK12 _ _ (Ghost.refl _) ?_
      refine a_seq fun K14 hK14 => ?_
      refine a_block fun K15 hK15 => ?_
      refine a_seq fun K16 hK16 => ?_
      refine a_region rfl fun K17 hK17 => ?_
      refine x_indexAddr ?_ ?_
      ·
        exact ⟨by omega, by omega⟩
      first | refine x_ldE ?_ ?_ | refine x_ldN ?_ ?_ | refine x_ldO ?_ ?_ | refine x_ldON ?_ ?_ (hf := fun x => (rfl : cN x = List.map V.val [_, _, _, _]))
      ·
        omega
      refine x_assign ?_
      refine r_nil hK17 ?_
      refine hK16 _ _ (Ghost.refl _) ?_
      refine a_seq fun K18 hK18 => ?_
      refine a_seq fun K19 hK19 => ?_
      refine a_region rfl fun K20 hK20 => ?_
      refine x_move ?_
      refine x_move ?_
      refine x_call (s_impl_within) ?_ (hl := by first | rfl | (repeat (first | exact lendL_nil | refine lendL_cons (by first | rfl | exact lend_ref rfl (ro_eL (by intro _; first | rfl | exact roL_cL (by intro _; rfl))) | exact lend_refp rfl (ro_eL (by intro _; first | rfl | exact roL_cL (by intro _; rfl))) | exact lend_agg (by repeat (first | exact lendL_nil | refine lendL_cons (by first | rfl | exact lend_ref rfl (ro_eL (by intro _; first | rfl | exact roL_cL (by intro _; rfl))) | exact lend_refp rfl (ro_eL (by intro _; first | rfl | exact roL_cL (by intro _; rfl)))) ?_))) ?_)))
      rintro _ _ rfl
      refine x_un ?_
      refine r_nil hK20 ?_
      refine hK19 _ _ (Ghost.refl _) ?_
      refine a_condP rfl (by first | exact .beq | exact .bne | exact .dec | exact .not .beq | exact .not .bne | exact .not .dec | exact .not .id | exact .id) (fun h21 => ?_) (fun h21 => ?_)
      · skip
        refine a_seq fun K22 hK22 => ?_
        refine a_region rfl fun K23 hK23 => ?_
        refine x_assign ?_
        refine r_nil hK23 ?_
        refine hK22 _ _ (Ghost.refl _) ?_
        refine a_ret ?_
        refine then_ret ?_
        refine hK15 .ret _ (in_ret ?_)
        refine then_ret ?_
        refine then_ret ?_
        refine hK8 .ret _ (in_ret ?_)
        refine then_ret ?_
        refine leave_val (.inr rfl) rfl rfl rfl (congrArg (fun z => V.val (.bool z)) ?_)
        refine (decide_eq_false (fun hh => ?_)).symm
        rw [takeI_split (l := l) (i := i) (by omega) (by omega), okNum_append] at hh
        have q4 := hh.2.1; have q5 := hh.2.2.1; rw [← hn] at q5; omega
      · skip
        refine a_skip ?_
        refine hK18 _ _ (Ghost.refl _) ?_
        refine a_region rfl fun K24 hK24 => ?_
        refine x_move ?_
        refine x_move ?_
        refine x_add ?_ ?_
        ·
          exact ⟨by omega, by omega⟩
        refine x_minmax ?_
        refine x_assign ?_
        refine r_nil hK24 ?_
        refine hK15 .normal _ ?_
        refine hK14 _ _ (ghost_has (ks := [(3, .v _), (6, .v _), (7, .v _), (8, .v _)]) (km := [(0, _)]) ⟨rfl, rfl, rfl, rfl, trivial⟩ ⟨rfl, trivial⟩ rfl) ?_
        refine a_region rfl fun K25 hK25 => ?_
        refine x_add ?_ ?_
        ·
          exact ⟨by omega, by omega⟩
        refine x_move ?_
        refine r_nil hK25 ?_
        refine hK9 (_, _) _ _ _ (Ghost.refl _) ⟨rfl, rfl, rfl, rfl, trivial⟩ ⟨rfl, trivial⟩ ?_ ?_
        ·
          first | omega | (dsimp only; omega)
        ·
          try dsimp only
          refine ⟨?_, ?_, ?_⟩
          ·
            first | omega | rfl | assumption | (simp; done) | (simp_all; done)
          ·
            rw [takeI_succ (by omega) (by omega), nextNum_snoc, ← hn]; split <;> omega
          ·
            rw [takeI_succ (by omega) (by omega), okNum_append]; exact ⟨hok, by rw [← hn]; exact ⟨by omega, by omega, trivial⟩⟩
    · skip
      refine a_exit ?_
      refine then_exit ?_
      refine then_exit ?_
      refine hK8 (.exit 0) _ (in_exit ?_)
      refine hK5 _ _ (Ghost.refl _) ?_
      refine a_seq fun K26 hK26 => ?_
      refine a_region rfl fun K27 hK27 => ?_
      refine x_assign ?_
      refine r_nil hK27 ?_
      refine hK26 _ _ (Ghost.refl _) ?_
      refine a_ret ?_
      refine leave_val (.inr rfl) rfl rfl rfl (congrArg (fun z => V.val (.bool z)) ?_)
      rw [takeI_all (by omega)] at hok; exact (decide_eq_true hok).symm
end Go.T
namespace Go.T
open Go Go.E Go.Proofs
set_option maxHeartbeats 8000000 in
theorem s_impl_areBlocks_1 {l : List Int} {k : Int} (hl : l.length ≤ 1073741824) : Go.E.Spec Try.prog 77 [eL false 1 cI l, .ptr .z false [.val (.int .i64 k)]] (fun r _ => r = .val (.bool (!decide ((l.length : Int) = k ∧ okNum 0 l)))) := by
  refine spec_of_awp (E := Ev) evOk Try.func77 (c := _) rfl (by decide) (by simp [Try.ntmps77]) ?_
  rw [Try.ntmps77, entry_mk]
  change awp Ev 2 13 _ _ (mkSt [(0, .v (eL false 1 cI l)), (1, .v (.ptr .z false [.val (.int .i64 k)]))] [(0, eL false 1 cI l), (1, .ptr .z false [.val (.int .i64 k)])])
  refine a_seq fun K1 hK1 => ?_
  refine a_region rfl fun K2 hK2 => ?_
  refine x_assign ?_
  refine r_nil hK2 ?_
  refine hK1 _ _ (Ghost.refl _) ?_
  refine a_seq fun K3 hK3 => ?_
  refine a_region rfl fun K4 hK4 => ?_
  refine x_move ?_
  refine x_len ?_
  refine x_load ?_
  refine x_bin ?_
  refine x_move ?_
  refine x_split 8 rfl (by first | exact .beq | exact .bne | exact .dec | exact .not .beq | exact .not .bne | exact .not .dec | exact .not .id | exact .id) (fun h5 => ?_) (fun h5 => ?_)
  · skip
    refine x_shut ?_
    refine x_shut ?_
    refine x_shut ?_
    refine x_pickT ?_
    refine x_assign ?_
    refine r_nil hK4 ?_
    refine hK3 _ _ (Ghost.refl _) ?_
    refine a_ret ?_
    refine leave_val (.inr rfl) rfl rfl rfl (congrArg (fun z => V.val (.bool z)) ?_)
    have q : ¬ ((l.length : Int) = k ∧ okNum 0 l) := fun hh => h5 hh.1
    simp only [q, decide_false, Bool.not_false]
  · skip
    refine x_move ?_
    refine x_call (s_impl_isNumbered ?_) ?_ (hl := by first | rfl | (repeat (first | exact lendL_nil | refine lendL_cons (by first | rfl | exact lend_ref rfl (ro_eL (by intro _; first | rfl | exact roL_cL (by intro _; rfl))) | exact lend_refp rfl (ro_eL (by intro _; first | rfl | exact roL_cL (by intro _; rfl))) | exact lend_agg (by repeat (first | exact lendL_nil | refine lendL_cons (by first | rfl | exact lend_ref rfl (ro_eL (by intro _; first | rfl | exact roL_cL (by intro _; rfl))) | exact lend_refp rfl (ro_eL (by intro _; first | rfl | exact roL_cL (by intro _; rfl)))) ?_))) ?_)))
    ·
      first | omega | rfl | assumption | (simp; done) | (simp_all; done)
    rintro _ _ rfl
    refine x_un ?_
    refine x_pickF ?_
    refine x_assign ?_
    refine r_nil hK4 ?_
    refine hK3 _ _ (Ghost.refl _) ?_
    refine a_ret ?_
    refine leave_val (.inr rfl) rfl rfl rfl (congrArg (fun z => V.val (.bool z)) ?_)
    have q : (l.length : Int) = k := by omega
    simp [q]
end Go.T
namespace Go.T
open Go Go.E Go.Proofs
set_option maxHeartbeats 8000000 in
theorem s_impl_areBlocks {l : List ((List Int))} {k : Int} (hl : l.length ≤ 9223372036854775807) (hb : ∀ b ∈ l, b.length ≤ 1073741824) : Go.E.Spec Try.prog 61 [eL false 1 (cL false 1 cI) l, .val (.int .i64 k)] (fun r _ => r = .val (.bool (decide (1 ≤ l.length ∧ l.length ≤ 3 ∧ ∀ b ∈ l, (b.length : Int) = k ∧ okNum 0 b)))) := by
  refine spec_of_awp (E := Ev) evOk Try.func61 (c := _) rfl (by decide) (by simp [Try.ntmps61]) ?_
  rw [Try.ntmps61, entry_mk]
  change awp Ev 2 14 _ _ (mkSt [(0, .v (eL false 1 (cL false 1 cI) l)), (1, .v (.val (.int .i64 k)))] [(0, eL false 1 (cL false 1 cI) l), (1, .val (.int .i64 k))])
  refine a_seq fun K1 hK1 => ?_
  refine a_region rfl fun K2 hK2 => ?_
  first | refine x_boxVal ?_ | refine x_boxAgg' ?_ | refine x_boxT ?_
  refine x_assign ?_
  refine r_nil hK2 ?_
  refine hK1 _ _ (Ghost.refl _) ?_
  refine a_seq fun K3 hK3 => ?_
  refine a_region rfl fun K4 hK4 => ?_
  refine x_move ?_
  refine x_len ?_
  refine x_call (s_impl_within) ?_ (hl := by first | rfl | (repeat (first | exact lendL_nil | refine lendL_cons (by first | rfl | exact lend_ref rfl (ro_eL (by intro _; first | rfl | exact roL_cL (by intro _; rfl))) | exact lend_refp rfl (ro_eL (by intro _; first | rfl | exact roL_cL (by intro _; rfl))) | exact lend_agg (by repeat (first | exact lendL_nil | refine lendL_cons (by first | rfl | exact lend_ref rfl (ro_eL (by intro _; first | rfl | exact roL_cL (by intro _; rfl))) | exact lend_refp rfl (ro_eL (by intro _; first | rfl | exact roL_cL (by intro _; rfl)))) ?_))) ?_)))
  rintro _ _ rfl
  refine x_move ?_
  refine x_split 8 rfl (by first | exact .beq | exact .bne | exact .dec | exact .not .beq | exact .not .bne | exact .not .dec | exact .not .id | exact .id) (fun h5 => ?_) (fun h5 => ?_)
  · skip
    refine x_move ?_
    refine x_any ?_
    refine x_call (s_slices_ContainsFunc_LLint_Lint (p := fun x => !decide ((x.length : Int) = k ∧ okNum 0 x)) rfl (fun x hx => s_impl_areBlocks_1 (hb x hx)) (by omega)) ?_
    rintro _ _ rfl
    refine x_un ?_
    refine x_pickT ?_
    refine x_assign ?_
    refine r_nil hK4 ?_
    refine hK3 _ _ (Ghost.refl _) ?_
    refine a_ret ?_
    refine leave_val (.inr rfl) rfl rfl rfl (congrArg (fun z => V.val (.bool z)) ?_)
    have q1 : 1 ≤ l.length ∧ l.length ≤ 3 := by omega
    rw [notany]; exact decide_eq_decide.2 ⟨fun h => ⟨q1.1, q1.2, h⟩, fun h => h.2.2⟩
  · skip
    refine x_shut ?_
    refine x_shut ?_
    refine x_shut ?_
    refine x_shut ?_
    refine x_pickF ?_
    refine x_assign ?_
    refine r_nil hK4 ?_
    refine hK3 _ _ (Ghost.refl _) ?_
    refine a_ret ?_
    refine leave_val (.inr rfl) rfl rfl rfl (congrArg (fun z => V.val (.bool z)) ?_)
    exact (decide_eq_false (fun hh => by omega)).symm
end Go.T
namespace Go.T
open Go Go.E Go.Proofs
set_option maxHeartbeats 8000000 in
theorem s_impl_ModelOk {m : Md} (hf : m.facts.length ≤ 1073741824) (hl : m.blocks.length ≤ 1073741824) (hb : ∀ b ∈ m.blocks, b.length ≤ 1073741824) : Go.E.Spec Try.prog 32 [.agg (cM false m)] (fun r _ => r = .val (.bool (decide m.ok))) := by
  refine spec_of_awp (E := Ev) evOk Try.func32 (c := _) rfl (by decide) (by simp [Try.ntmps32]) ?_
  rw [Try.ntmps32, entry_mk]
  change awp Ev 1 23 _ _ (mkSt [(0, .agg [.v (eL false 1 cI m.facts), .v (eL false 1 (cL false 1 cI) m.blocks), .v (.val (.int .i64 m.actual))])] [(0, .agg (cM false m))])
  refine a_seq fun K1 hK1 => ?_
  refine a_region rfl fun K2 hK2 => ?_
  first | refine x_boxVal ?_ | refine x_boxAgg' ?_ | refine x_boxT ?_
  refine x_assign ?_
  refine r_nil hK2 ?_
  refine hK1 _ _ (Ghost.refl _) ?_
  refine a_seq fun K3 hK3 => ?_
  refine a_region rfl fun K4 hK4 => ?_
  refine x_fieldAddr ?_
  refine x_load ?_
  refine x_call (s_impl_areFacts ?_) ?_ (hl := by first | rfl | (repeat (first | exact lendL_nil | refine lendL_cons (by first | rfl | exact lend_ref rfl (ro_eL (by intro _; first | rfl | exact roL_cL (by intro _; rfl))) | exact lend_refp rfl (ro_eL (by intro _; first | rfl | exact roL_cL (by intro _; rfl))) | exact lend_agg (by repeat (first | exact lendL_nil | refine lendL_cons (by first | rfl | exact lend_ref rfl (ro_eL (by intro _; first | rfl | exact roL_cL (by intro _; rfl))) | exact lend_refp rfl (ro_eL (by intro _; first | rfl | exact roL_cL (by intro _; rfl)))) ?_))) ?_)))
  ·
    omega
  rintro _ _ rfl
  refine x_move ?_
  refine x_split 6 rfl (by first | exact .beq | exact .bne | exact .dec | exact .not .beq | exact .not .bne | exact .not .dec | exact .not .id | exact .id) (fun h5 => ?_) (fun h5 => ?_)
  · skip
    refine x_fieldAddr ?_
    refine x_load ?_
    refine x_fieldAddr ?_
    refine x_load ?_
    refine x_len ?_
    refine x_call (s_impl_areBlocks ?_ ?_) ?_ (hl := by first | rfl | (repeat (first | exact lendL_nil | refine lendL_cons (by first | rfl | exact lend_ref rfl (ro_eL (by intro _; first | rfl | exact roL_cL (by intro _; rfl))) | exact lend_refp rfl (ro_eL (by intro _; first | rfl | exact roL_cL (by intro _; rfl))) | exact lend_agg (by repeat (first | exact lendL_nil | refine lendL_cons (by first | rfl | exact lend_ref rfl (ro_eL (by intro _; first | rfl | exact roL_cL (by intro _; rfl))) | exact lend_refp rfl (ro_eL (by intro _; first | rfl | exact roL_cL (by intro _; rfl)))) ?_))) ?_)))
    ·
      first | omega | exact hb
    ·
      first | omega | exact hb
    rintro _ _ rfl
    refine x_pickT ?_
    refine x_move ?_
    refine x_split 14 rfl (by first | exact .beq | exact .bne | exact .dec | exact .not .beq | exact .not .bne | exact .not .dec | exact .not .id | exact .id) (fun h6 => ?_) (fun h6 => ?_)
    · skip
      refine x_fieldAddr ?_
      refine x_load ?_
      refine x_fieldAddr ?_
      refine x_load ?_
      refine x_len ?_
      refine x_sub ?_ ?_
      ·
        exact ⟨by omega, by omega⟩
      refine x_call (s_impl_within) ?_ (hl := by first | rfl | (repeat (first | exact lendL_nil | refine lendL_cons (by first | rfl | exact lend_ref rfl (ro_eL (by intro _; first | rfl | exact roL_cL (by intro _; rfl))) | exact lend_refp rfl (ro_eL (by intro _; first | rfl | exact roL_cL (by intro _; rfl))) | exact lend_agg (by repeat (first | exact lendL_nil | refine lendL_cons (by first | rfl | exact lend_ref rfl (ro_eL (by intro _; first | rfl | exact roL_cL (by intro _; rfl))) | exact lend_refp rfl (ro_eL (by intro _; first | rfl | exact roL_cL (by intro _; rfl)))) ?_))) ?_)))
      rintro _ _ rfl
      refine x_pickT ?_
      refine x_assign ?_
      refine r_nil hK4 ?_
      refine hK3 _ _ (Ghost.refl _) ?_
      refine a_ret ?_
      refine leave_val (.inr rfl) rfl rfl rfl (congrArg (fun z => V.val (.bool z)) ?_)
      exact decide_eq_decide.2 ⟨fun hh => ⟨by omega, by omega, by omega, by omega, by omega, by omega, (h5).2.2, fun b hb => ⟨by have := ((h6).2.2 b hb).1; omega, ((h6).2.2 b hb).2⟩⟩, fun hh => ⟨hh.2.2.2.2.1, by have := hh.2.2.2.2.2.1; omega⟩⟩
    · skip
      refine x_shut ?_
      refine x_shut ?_
      refine x_shut ?_
      refine x_shut ?_
      refine x_shut ?_
      refine x_shut ?_
      refine x_shut ?_
      refine x_pickF ?_
      refine x_assign ?_
      refine r_nil hK4 ?_
      refine hK3 _ _ (Ghost.refl _) ?_
      refine a_ret ?_
      refine leave_val (.inr rfl) rfl rfl rfl (congrArg (fun z => V.val (.bool z)) ?_)
      exact (decide_eq_false (fun hh => h6 ⟨hh.2.2.1, hh.2.2.2.1, fun b hb => ⟨by have := (hh.2.2.2.2.2.2.2 b hb).1; omega, (hh.2.2.2.2.2.2.2 b hb).2⟩⟩)).symm
  · skip
    refine x_shut ?_
    refine x_shut ?_
    refine x_shut ?_
    refine x_shut ?_
    refine x_shut ?_
    refine x_shut ?_
    refine x_pickF ?_
    refine x_move ?_
    refine x_shut ?_
    refine x_shut ?_
    refine x_shut ?_
    refine x_shut ?_
    refine x_shut ?_
    refine x_shut ?_
    refine x_shut ?_
    refine x_pickF ?_
    refine x_assign ?_
    refine r_nil hK4 ?_
    refine hK3 _ _ (Ghost.refl _) ?_
    refine a_ret ?_
    refine leave_val (.inr rfl) rfl rfl rfl (congrArg (fun z => V.val (.bool z)) ?_)
    exact (decide_eq_false (fun hh => h5 ⟨hh.1, hh.2.1, hh.2.2.2.2.2.2.1⟩)).symm
end Go.T
namespace Go.T
open Go Go.E Go.Proofs
set_option maxHeartbeats 8000000 in
theorem s_impl_isAgent {m : Md} {w : Int} (hf : m.facts.length ≤ 1073741824) (hl : m.blocks.length ≤ 1073741824) (hb : ∀ b ∈ m.blocks, b.length ≤ 1073741824) : Go.E.Spec Try.prog 35 [.agg (cM false m), .val (.int .i64 w)] (fun r _ => r = .val (.bool (decide (m.ok ∧ 0 ≤ w ∧ w < m.blocks.length)))) := by
  refine spec_of_awp (E := Ev) evOk Try.func35 (c := _) rfl (by decide) (by simp [Try.ntmps35]) ?_
  rw [Try.ntmps35, entry_mk]
  change awp Ev 2 15 _ _ (mkSt [(0, .agg [.v (eL false 1 cI m.facts), .v (eL false 1 (cL false 1 cI) m.blocks), .v (.val (.int .i64 m.actual))]), (1, .v (.val (.int .i64 w)))] [(0, .agg (cM false m)), (1, .val (.int .i64 w))])
  refine a_seq fun K1 hK1 => ?_
  refine a_region rfl fun K2 hK2 => ?_
  first | refine x_boxVal ?_ | refine x_boxAgg' ?_ | refine x_boxT ?_
  refine x_assign ?_
  refine r_nil hK2 ?_
  refine hK1 _ _ (Ghost.refl _) ?_
  refine a_seq fun K3 hK3 => ?_
  refine a_region rfl fun K4 hK4 => ?_
  first | refine x_ldM ?_ | refine x_ldMR ?_ | refine x_load ?_
  refine x_call (s_impl_ModelOk ?_ ?_ ?_) ?_ (hl := by first | rfl | (repeat (first | exact lendL_nil | refine lendL_cons (by first | rfl | exact lend_ref rfl (ro_eL (by intro _; first | rfl | exact roL_cL (by intro _; rfl))) | exact lend_refp rfl (ro_eL (by intro _; first | rfl | exact roL_cL (by intro _; rfl))) | exact lend_agg (by repeat (first | exact lendL_nil | refine lendL_cons (by first | rfl | exact lend_ref rfl (ro_eL (by intro _; first | rfl | exact roL_cL (by intro _; rfl))) | exact lend_refp rfl (ro_eL (by intro _; first | rfl | exact roL_cL (by intro _; rfl)))) ?_))) ?_)))
  ·
    first | omega | exact hb
  ·
    first | omega | exact hb
  ·
    first | omega | exact hb
  rintro _ _ rfl
  refine x_move ?_
  refine x_split 7 rfl (by first | exact .beq | exact .bne | exact .dec | exact .not .beq | exact .not .bne | exact .not .dec | exact .not .id | exact .id) (fun h5 => ?_) (fun h5 => ?_)
  · skip
    refine x_move ?_
    refine x_fieldAddr ?_
    refine x_load ?_
    refine x_len ?_
    refine x_sub ?_ ?_
    ·
      exact ⟨by omega, by omega⟩
    refine x_call (s_impl_within) ?_ (hl := by first | rfl | (repeat (first | exact lendL_nil | refine lendL_cons (by first | rfl | exact lend_ref rfl (ro_eL (by intro _; first | rfl | exact roL_cL (by intro _; rfl))) | exact lend_refp rfl (ro_eL (by intro _; first | rfl | exact roL_cL (by intro _; rfl))) | exact lend_agg (by repeat (first | exact lendL_nil | refine lendL_cons (by first | rfl | exact lend_ref rfl (ro_eL (by intro _; first | rfl | exact roL_cL (by intro _; rfl))) | exact lend_refp rfl (ro_eL (by intro _; first | rfl | exact roL_cL (by intro _; rfl)))) ?_))) ?_)))
    rintro _ _ rfl
    refine x_pickT ?_
    refine x_assign ?_
    refine r_nil hK4 ?_
    refine hK3 _ _ (Ghost.refl _) ?_
    refine a_ret ?_
    refine leave_val (.inr rfl) rfl rfl rfl (congrArg (fun z => V.val (.bool z)) ?_)
    exact decide_eq_decide.2 ⟨fun h => ⟨h5, by omega, by omega⟩, fun h => ⟨by omega, by omega⟩⟩
  · skip
    refine x_shut ?_
    refine x_shut ?_
    refine x_shut ?_
    refine x_shut ?_
    refine x_shut ?_
    refine x_shut ?_
    refine x_pickF ?_
    refine x_assign ?_
    refine r_nil hK4 ?_
    refine hK3 _ _ (Ghost.refl _) ?_
    refine a_ret ?_
    refine leave_val (.inr rfl) rfl rfl rfl (congrArg (fun z => V.val (.bool z)) ?_)
    exact (decide_eq_false (fun hh => h5 hh.1)).symm
end Go.T
namespace Go.T
open Go Go.E Go.Proofs
set_option maxHeartbeats 8000000 in
theorem s_impl_isWorld {m : Md} {w : Int} (hf : m.facts.length ≤ 1073741824) (hl : m.blocks.length ≤ 1073741824) (hb : ∀ b ∈ m.blocks, b.length ≤ 1073741824) : Go.E.Spec Try.prog 46 [.agg (cM false m), .val (.int .i64 w)] (fun r _ => r = .val (.bool (decide (m.ok ∧ 0 ≤ w ∧ w < m.facts.length)))) := by
  refine spec_of_awp (E := Ev) evOk Try.func46 (c := _) rfl (by decide) (by simp [Try.ntmps46]) ?_
  rw [Try.ntmps46, entry_mk]
  change awp Ev 2 15 _ _ (mkSt [(0, .agg [.v (eL false 1 cI m.facts), .v (eL false 1 (cL false 1 cI) m.blocks), .v (.val (.int .i64 m.actual))]), (1, .v (.val (.int .i64 w)))] [(0, .agg (cM false m)), (1, .val (.int .i64 w))])
  refine a_seq fun K1 hK1 => ?_
  refine a_region rfl fun K2 hK2 => ?_
  first | refine x_boxVal ?_ | refine x_boxAgg' ?_ | refine x_boxT ?_
  refine x_assign ?_
  refine r_nil hK2 ?_
  refine hK1 _ _ (Ghost.refl _) ?_
  refine a_seq fun K3 hK3 => ?_
  refine a_region rfl fun K4 hK4 => ?_
  first | refine x_ldM ?_ | refine x_ldMR ?_ | refine x_load ?_
  refine x_call (s_impl_ModelOk ?_ ?_ ?_) ?_ (hl := by first | rfl | (repeat (first | exact lendL_nil | refine lendL_cons (by first | rfl | exact lend_ref rfl (ro_eL (by intro _; first | rfl | exact roL_cL (by intro _; rfl))) | exact lend_refp rfl (ro_eL (by intro _; first | rfl | exact roL_cL (by intro _; rfl))) | exact lend_agg (by repeat (first | exact lendL_nil | refine lendL_cons (by first | rfl | exact lend_ref rfl (ro_eL (by intro _; first | rfl | exact roL_cL (by intro _; rfl))) | exact lend_refp rfl (ro_eL (by intro _; first | rfl | exact roL_cL (by intro _; rfl)))) ?_))) ?_)))
  ·
    first | omega | exact hb
  ·
    first | omega | exact hb
  ·
    first | omega | exact hb
  rintro _ _ rfl
  refine x_move ?_
  refine x_split 7 rfl (by first | exact .beq | exact .bne | exact .dec | exact .not .beq | exact .not .bne | exact .not .dec | exact .not .id | exact .id) (fun h5 => ?_) (fun h5 => ?_)
  · skip
    refine x_move ?_
    refine x_fieldAddr ?_
    refine x_load ?_
    refine x_len ?_
    refine x_sub ?_ ?_
    ·
      exact ⟨by omega, by omega⟩
    refine x_call (s_impl_within) ?_ (hl := by first | rfl | (repeat (first | exact lendL_nil | refine lendL_cons (by first | rfl | exact lend_ref rfl (ro_eL (by intro _; first | rfl | exact roL_cL (by intro _; rfl))) | exact lend_refp rfl (ro_eL (by intro _; first | rfl | exact roL_cL (by intro _; rfl))) | exact lend_agg (by repeat (first | exact lendL_nil | refine lendL_cons (by first | rfl | exact lend_ref rfl (ro_eL (by intro _; first | rfl | exact roL_cL (by intro _; rfl))) | exact lend_refp rfl (ro_eL (by intro _; first | rfl | exact roL_cL (by intro _; rfl)))) ?_))) ?_)))
    rintro _ _ rfl
    refine x_pickT ?_
    refine x_assign ?_
    refine r_nil hK4 ?_
    refine hK3 _ _ (Ghost.refl _) ?_
    refine a_ret ?_
    refine leave_val (.inr rfl) rfl rfl rfl (congrArg (fun z => V.val (.bool z)) ?_)
    exact decide_eq_decide.2 ⟨fun h => ⟨h5, by omega, by omega⟩, fun h => ⟨by omega, by omega⟩⟩
  · skip
    refine x_shut ?_
    refine x_shut ?_
    refine x_shut ?_
    refine x_shut ?_
    refine x_shut ?_
    refine x_shut ?_
    refine x_pickF ?_
    refine x_assign ?_
    refine r_nil hK4 ?_
    refine hK3 _ _ (Ghost.refl _) ?_
    refine a_ret ?_
    refine leave_val (.inr rfl) rfl rfl rfl (congrArg (fun z => V.val (.bool z)) ?_)
    exact (decide_eq_false (fun hh => h5 hh.1)).symm
end Go.T
namespace Go.T
open Go Go.E Go.Proofs
set_option maxHeartbeats 8000000 in
theorem s_impl_SameBlock {m : Md} {a : Int} {v : Int} {w : Int} (hf : m.facts.length ≤ 1073741824) (hl : m.blocks.length ≤ 1073741824) (hb : ∀ b ∈ m.blocks, b.length ≤ 1073741824) : Go.E.Spec Try.prog 36 [.agg (cM false m), .val (.int .i64 a), .val (.int .i64 v), .val (.int .i64 w)] (fun r _ => r = .val (.bool (decide (m.ok ∧ (0 ≤ a ∧ a < m.blocks.length) ∧ (0 ≤ v ∧ v < m.facts.length) ∧ (0 ≤ w ∧ w < m.facts.length) ∧ (m.blocks[a.toNat]!)[v.toNat]! = (m.blocks[a.toNat]!)[w.toNat]!)))) := by
  refine spec_of_awp (E := Ev) evOk Try.func36 (c := _) rfl (by decide) (by simp [Try.ntmps36]) ?_
  rw [Try.ntmps36, entry_mk]
  change awp Ev 4 41 _ _ (mkSt [(0, .agg [.v (eL false 1 cI m.facts), .v (eL false 1 (cL false 1 cI) m.blocks), .v (.val (.int .i64 m.actual))]), (1, .v (.val (.int .i64 a))), (2, .v (.val (.int .i64 v))), (3, .v (.val (.int .i64 w)))] [(0, .agg (cM false m)), (1, .val (.int .i64 a)), (2, .val (.int .i64 v)), (3, .val (.int .i64 w))])
  refine a_seq fun K1 hK1 => ?_
  refine a_region rfl fun K2 hK2 => ?_
  first | refine x_boxVal ?_ | refine x_boxAgg' ?_ | refine x_boxT ?_
  refine x_assign ?_
  refine r_nil hK2 ?_
  refine hK1 _ _ (Ghost.refl _) ?_
  refine a_seq fun K3 hK3 => ?_
  refine a_drawnG (ms := [4294967295, 2147483647, 1073741823, 532692991, 264257535, 16383, 62930943, 29376511, 16383, 4210687, 16383, 2097151, 1048575, 16383, 262143, 131071, 16383, 32767, 16383, 8191, 4095, 2047, 511, 511, 255, 127, 63, 15, 15, 7, 3, 0, 0]) (by decide +kernel) (by decide +kernel) rfl (by decide +kernel) fun K4 hK4 => ?_
  first | refine x_ldM ?_ | refine x_ldMR ?_ | refine x_load ?_
  refine x_move ?_
  refine x_call (s_impl_isAgent ?_ ?_ ?_) ?_ (hl := by first | rfl | (repeat (first | exact lendL_nil | refine lendL_cons (by first | rfl | exact lend_ref rfl (ro_eL (by intro _; first | rfl | exact roL_cL (by intro _; rfl))) | exact lend_refp rfl (ro_eL (by intro _; first | rfl | exact roL_cL (by intro _; rfl))) | exact lend_agg (by repeat (first | exact lendL_nil | refine lendL_cons (by first | rfl | exact lend_ref rfl (ro_eL (by intro _; first | rfl | exact roL_cL (by intro _; rfl))) | exact lend_refp rfl (ro_eL (by intro _; first | rfl | exact roL_cL (by intro _; rfl)))) ?_))) ?_)))
  ·
    first | omega | exact hb
  ·
    first | omega | exact hb
  ·
    first | omega | exact hb
  rintro _ _ rfl
  refine x_move ?_
  refine x_split 12 rfl (by first | exact .beq | exact .bne | exact .dec | exact .not .beq | exact .not .bne | exact .not .dec | exact .not .id | exact .id) (fun h5 => ?_) (fun h5 => ?_)
  · skip
    first | refine x_ldM ?_ | refine x_ldMR ?_ | refine x_load ?_
    refine x_move ?_
    refine x_call (s_impl_isWorld ?_ ?_ ?_) ?_ (hl := by first | rfl | (repeat (first | exact lendL_nil | refine lendL_cons (by first | rfl | exact lend_ref rfl (ro_eL (by intro _; first | rfl | exact roL_cL (by intro _; rfl))) | exact lend_refp rfl (ro_eL (by intro _; first | rfl | exact roL_cL (by intro _; rfl))) | exact lend_agg (by repeat (first | exact lendL_nil | refine lendL_cons (by first | rfl | exact lend_ref rfl (ro_eL (by intro _; first | rfl | exact roL_cL (by intro _; rfl))) | exact lend_refp rfl (ro_eL (by intro _; first | rfl | exact roL_cL (by intro _; rfl)))) ?_))) ?_)))
    ·
      first | omega | exact hb
    ·
      first | omega | exact hb
    ·
      first | omega | exact hb
    rintro _ _ rfl
    refine x_pickT ?_
    refine x_move ?_
    refine x_split 17 rfl (by first | exact .beq | exact .bne | exact .dec | exact .not .beq | exact .not .bne | exact .not .dec | exact .not .id | exact .id) (fun h6 => ?_) (fun h6 => ?_)
    · skip
      first | refine x_ldM ?_ | refine x_ldMR ?_ | refine x_load ?_
      refine x_move ?_
      refine x_call (s_impl_isWorld ?_ ?_ ?_) ?_ (hl := by first | rfl | (repeat (first | exact lendL_nil | refine lendL_cons (by first | rfl | exact lend_ref rfl (ro_eL (by intro _; first | rfl | exact roL_cL (by intro _; rfl))) | exact lend_refp rfl (ro_eL (by intro _; first | rfl | exact roL_cL (by intro _; rfl))) | exact lend_agg (by repeat (first | exact lendL_nil | refine lendL_cons (by first | rfl | exact lend_ref rfl (ro_eL (by intro _; first | rfl | exact roL_cL (by intro _; rfl))) | exact lend_refp rfl (ro_eL (by intro _; first | rfl | exact roL_cL (by intro _; rfl)))) ?_))) ?_)))
      ·
        first | omega | exact hb
      ·
        first | omega | exact hb
      ·
        first | omega | exact hb
      rintro _ _ rfl
      refine x_pickT ?_
      refine x_move ?_
      refine x_split 22 rfl (by first | exact .beq | exact .bne | exact .dec | exact .not .beq | exact .not .bne | exact .not .dec | exact .not .id | exact .id) (fun h7 => ?_) (fun h7 => ?_)
      · skip
        refine x_fieldAddr ?_
        refine x_load ?_
        refine x_move ?_
        refine x_indexAddr ?_ ?_
        ·
          first
            | exact ⟨by omega, by omega⟩
            | (have hok : m.ok := (by first | assumption | exact (‹m.ok ∧ 0 ≤ a ∧ a < ↑m.blocks.length›).1); have hlen := (hok.2.2.2.2.2.2.2 (m.blocks[a.toNat]!) (mem_get! (by omega))).1; exact ⟨by omega, by omega⟩)
        first | refine x_ldE ?_ ?_ | refine x_ldN ?_ ?_ | refine x_ldO ?_ ?_ | refine x_ldON ?_ ?_ (hf := fun x => (rfl : cN x = List.map V.val [_, _, _, _]))
        ·
          first
            | omega
            | (have hok : m.ok := (by first | assumption | exact (‹m.ok ∧ 0 ≤ a ∧ a < ↑m.blocks.length›).1); have hlen := (hok.2.2.2.2.2.2.2 (m.blocks[a.toNat]!) (mem_get! (by omega))).1; omega)
        refine x_move ?_
        refine x_indexAddr ?_ ?_
        ·
          first
            | exact ⟨by omega, by omega⟩
            | (have hok : m.ok := (by first | assumption | exact (‹m.ok ∧ 0 ≤ a ∧ a < ↑m.blocks.length›).1); have hlen := (hok.2.2.2.2.2.2.2 (m.blocks[a.toNat]!) (mem_get! (by omega))).1; exact ⟨by omega, by omega⟩)
        first | refine x_ldE ?_ ?_ | refine x_ldN ?_ ?_ | refine x_ldO ?_ ?_ | refine x_ldON ?_ ?_ (hf := fun x => (rfl : cN x = List.map V.val [_, _, _, _]))
        ·
          first
            | omega
            | (have hok : m.ok := (by first | assumption | exact (‹m.ok ∧ 0 ≤ a ∧ a < ↑m.blocks.length›).1); have hlen := (hok.2.2.2.2.2.2.2 (m.blocks[a.toNat]!) (mem_get! (by omega))).1; omega)
        refine x_fieldAddr ?_
        refine x_load ?_
        refine x_move ?_
        refine x_indexAddr ?_ ?_
        ·
          first
            | exact ⟨by omega, by omega⟩
            | (have hok : m.ok := (by first | assumption | exact (‹m.ok ∧ 0 ≤ a ∧ a < ↑m.blocks.length›).1); have hlen := (hok.2.2.2.2.2.2.2 (m.blocks[a.toNat]!) (mem_get! (by omega))).1; exact ⟨by omega, by omega⟩)
        first | refine x_ldE ?_ ?_ | refine x_ldN ?_ ?_ | refine x_ldO ?_ ?_ | refine x_ldON ?_ ?_ (hf := fun x => (rfl : cN x = List.map V.val [_, _, _, _]))
        ·
          first
            | omega
            | (have hok : m.ok := (by first | assumption | exact (‹m.ok ∧ 0 ≤ a ∧ a < ↑m.blocks.length›).1); have hlen := (hok.2.2.2.2.2.2.2 (m.blocks[a.toNat]!) (mem_get! (by omega))).1; omega)
        refine x_move ?_
        refine x_indexAddr ?_ ?_
        ·
          first
            | exact ⟨by omega, by omega⟩
            | (have hok : m.ok := (by first | assumption | exact (‹m.ok ∧ 0 ≤ a ∧ a < ↑m.blocks.length›).1); have hlen := (hok.2.2.2.2.2.2.2 (m.blocks[a.toNat]!) (mem_get! (by omega))).1; exact ⟨by omega, by omega⟩)
        first | refine x_ldE ?_ ?_ | refine x_ldN ?_ ?_ | refine x_ldO ?_ ?_ | refine x_ldON ?_ ?_ (hf := fun x => (rfl : cN x = List.map V.val [_, _, _, _]))
        ·
          first
            | omega
            | (have hok : m.ok := (by first | assumption | exact (‹m.ok ∧ 0 ≤ a ∧ a < ↑m.blocks.length›).1); have hlen := (hok.2.2.2.2.2.2.2 (m.blocks[a.toNat]!) (mem_get! (by omega))).1; omega)
        refine x_bin ?_
        refine x_pickT ?_
        refine x_assign ?_
        refine r_nil hK4 ?_
        refine hK3 _ _ (Ghost.refl _) ?_
        refine a_ret ?_
        refine leave_val (.inr rfl) rfl rfl rfl (congrArg (fun z => V.val (.bool z)) ?_)
        first
          | (have hok : m.ok := (by first | assumption | exact (‹m.ok ∧ 0 ≤ a ∧ a < ↑m.blocks.length›).1); rw [Bool.eq_iff_iff, beq_iff_eq, decide_eq_true_iff]; exact ⟨fun h => ⟨hok, ⟨by omega, by omega⟩, ⟨by omega, by omega⟩, ⟨by omega, by omega⟩, h⟩, fun h => h.2.2.2.2⟩)
          | (symm; rw [decide_eq_false_iff_not]; intro hh; first | exact h7 hh.1 | exact h7 ⟨hh.1, hh.2.1⟩ | exact h7 ⟨hh.1, hh.2.2.1⟩ | exact h7 ⟨hh.1, hh.2.2.2.1⟩ | (have h1 := hh.2.1; have h2 := hh.2.2.1; have h3 := hh.2.2.2.1; omega))
      · skip
        refine x_shut ?_
        refine x_shut ?_
        refine x_shut ?_
        refine x_shut ?_
        refine x_shut ?_
        refine x_shut ?_
        refine x_shut ?_
        refine x_shut ?_
        refine x_shut ?_
        refine x_shut ?_
        refine x_shut ?_
        refine x_shut ?_
        refine x_shut ?_
        refine x_shut ?_
        refine x_shut ?_
        refine x_shut ?_
        refine x_shut ?_
        refine x_pickF ?_
        refine x_assign ?_
        refine r_nil hK4 ?_
        refine hK3 _ _ (Ghost.refl _) ?_
        refine a_ret ?_
        refine leave_val (.inr rfl) rfl rfl rfl (congrArg (fun z => V.val (.bool z)) ?_)
        first
          | (have hok : m.ok := (by first | assumption | exact (‹m.ok ∧ 0 ≤ a ∧ a < ↑m.blocks.length›).1); rw [Bool.eq_iff_iff, beq_iff_eq, decide_eq_true_iff]; exact ⟨fun h => ⟨hok, ⟨by omega, by omega⟩, ⟨by omega, by omega⟩, ⟨by omega, by omega⟩, h⟩, fun h => h.2.2.2.2⟩)
          | (symm; rw [decide_eq_false_iff_not]; intro hh; first | exact h7 hh.1 | exact h7 ⟨hh.1, hh.2.1⟩ | exact h7 ⟨hh.1, hh.2.2.1⟩ | exact h7 ⟨hh.1, hh.2.2.2.1⟩ | (have h1 := hh.2.1; have h2 := hh.2.2.1; have h3 := hh.2.2.2.1; omega))
    · skip
      refine x_shut ?_
      refine x_shut ?_
      refine x_shut ?_
      refine x_pickF ?_
      refine x_move ?_
      refine x_shut ?_
      refine x_shut ?_
      refine x_shut ?_
      refine x_shut ?_
      refine x_shut ?_
      refine x_shut ?_
      refine x_shut ?_
      refine x_shut ?_
      refine x_shut ?_
      refine x_shut ?_
      refine x_shut ?_
      refine x_shut ?_
      refine x_shut ?_
      refine x_shut ?_
      refine x_shut ?_
      refine x_shut ?_
      refine x_shut ?_
      refine x_pickF ?_
      refine x_assign ?_
      refine r_nil hK4 ?_
      refine hK3 _ _ (Ghost.refl _) ?_
      refine a_ret ?_
      refine leave_val (.inr rfl) rfl rfl rfl (congrArg (fun z => V.val (.bool z)) ?_)
      first
        | (have hok : m.ok := (by first | assumption | exact (‹m.ok ∧ 0 ≤ a ∧ a < ↑m.blocks.length›).1); rw [Bool.eq_iff_iff, beq_iff_eq, decide_eq_true_iff]; exact ⟨fun h => ⟨hok, ⟨by omega, by omega⟩, ⟨by omega, by omega⟩, ⟨by omega, by omega⟩, h⟩, fun h => h.2.2.2.2⟩)
        | (symm; rw [decide_eq_false_iff_not]; intro hh; first | exact h6 hh.1 | exact h6 ⟨hh.1, hh.2.1⟩ | exact h6 ⟨hh.1, hh.2.2.1⟩ | exact h6 ⟨hh.1, hh.2.2.2.1⟩ | (have h1 := hh.2.1; have h2 := hh.2.2.1; have h3 := hh.2.2.2.1; omega))
  · skip
    refine x_shut ?_
    refine x_shut ?_
    refine x_shut ?_
    refine x_pickF ?_
    refine x_move ?_
    refine x_shut ?_
    refine x_shut ?_
    refine x_shut ?_
    refine x_pickF ?_
    refine x_move ?_
    refine x_shut ?_
    refine x_shut ?_
    refine x_shut ?_
    refine x_shut ?_
    refine x_shut ?_
    refine x_shut ?_
    refine x_shut ?_
    refine x_shut ?_
    refine x_shut ?_
    refine x_shut ?_
    refine x_shut ?_
    refine x_shut ?_
    refine x_shut ?_
    refine x_shut ?_
    refine x_shut ?_
    refine x_shut ?_
    refine x_shut ?_
    refine x_pickF ?_
    refine x_assign ?_
    refine r_nil hK4 ?_
    refine hK3 _ _ (Ghost.refl _) ?_
    refine a_ret ?_
    refine leave_val (.inr rfl) rfl rfl rfl (congrArg (fun z => V.val (.bool z)) ?_)
    first
      | (have hok : m.ok := (by first | assumption | exact (‹m.ok ∧ 0 ≤ a ∧ a < ↑m.blocks.length›).1); rw [Bool.eq_iff_iff, beq_iff_eq, decide_eq_true_iff]; exact ⟨fun h => ⟨hok, ⟨by omega, by omega⟩, ⟨by omega, by omega⟩, ⟨by omega, by omega⟩, h⟩, fun h => h.2.2.2.2⟩)
      | (symm; rw [decide_eq_false_iff_not]; intro hh; first | exact h5 hh.1 | exact h5 ⟨hh.1, hh.2.1⟩ | exact h5 ⟨hh.1, hh.2.2.1⟩ | exact h5 ⟨hh.1, hh.2.2.2.1⟩ | (have h1 := hh.2.1; have h2 := hh.2.2.1; have h3 := hh.2.2.2.1; omega))
end Go.T
namespace Go.T
open Go Go.E Go.Proofs
set_option maxHeartbeats 8000000 in
theorem s_impl_KnowsWhich {m : Md} {a : Int} (hf : m.facts.length ≤ 1073741824) (hl : m.blocks.length ≤ 1073741824) (hb : ∀ b ∈ m.blocks, b.length ≤ 1073741824) : Go.E.Spec Try.prog 16 [.agg (cM false m), .val (.int .i64 a)] (fun r _ => r = .val (.bool (decide (m.ok ∧ (0 ≤ a ∧ a < m.blocks.length) ∧ m.knows a)))) := by
  refine spec_of_awp (E := Ev) evOk Try.func16 (c := _) rfl (by decide) (by simp [Try.ntmps16]) ?_
  rw [Try.ntmps16, entry_mk]
  change awp Ev 2 36 _ _ (mkSt [(0, .agg [.v (eL false 1 cI m.facts), .v (eL false 1 (cL false 1 cI) m.blocks), .v (.val (.int .i64 m.actual))]), (1, .v (.val (.int .i64 a)))] [(0, .agg (cM false m)), (1, .val (.int .i64 a))])
  refine a_seq fun K1 hK1 => ?_
  refine a_region rfl fun K2 hK2 => ?_
  first | refine x_boxVal ?_ | refine x_boxAgg' ?_ | refine x_boxT ?_
  refine x_assign ?_
  refine r_nil hK2 ?_
  refine hK1 _ _ (Ghost.refl _) ?_
  refine a_seq fun K3 hK3 => ?_
  refine a_seq fun K4 hK4 => ?_
  refine a_region rfl fun K5 hK5 => ?_
  first | refine x_ldM ?_ | refine x_ldMR ?_ | refine x_load ?_
  refine x_move ?_
  refine x_call (s_impl_isAgent ?_ ?_ ?_) ?_ (hl := by first | rfl | (repeat (first | exact lendL_nil | refine lendL_cons (by first | rfl | exact lend_ref rfl (ro_eL (by intro _; first | rfl | exact roL_cL (by intro _; rfl))) | exact lend_refp rfl (ro_eL (by intro _; first | rfl | exact roL_cL (by intro _; rfl))) | exact lend_agg (by repeat (first | exact lendL_nil | refine lendL_cons (by first | rfl | exact lend_ref rfl (ro_eL (by intro _; first | rfl | exact roL_cL (by intro _; rfl))) | exact lend_refp rfl (ro_eL (by intro _; first | rfl | exact roL_cL (by intro _; rfl)))) ?_))) ?_)))
  ·
    first | omega | exact hb
  ·
    first | omega | exact hb
  ·
    first | omega | exact hb
  rintro _ _ rfl
  refine x_un ?_
  refine r_nil hK5 ?_
  refine hK4 _ _ (Ghost.refl _) ?_
  refine a_condP rfl (by first | exact .beq | exact .bne | exact .dec | exact .not .beq | exact .not .bne | exact .not .dec | exact .not .id | exact .id) (fun h6 => ?_) (fun h6 => ?_)
  · skip
    refine a_seq fun K7 hK7 => ?_
    refine a_region rfl fun K8 hK8 => ?_
    refine x_assign ?_
    refine r_nil hK8 ?_
    refine hK7 _ _ (Ghost.refl _) ?_
    refine a_ret ?_
    refine then_ret ?_
    refine leave_val (.inr rfl) rfl rfl rfl (congrArg (fun z => V.val (.bool z)) ?_)
    first
      | (symm; rw [decide_eq_false_iff_not]; intro hh; first | exact h6 ⟨hh.1, hh.2.1⟩ | exact h6 (hh.2.2 i.toNat (by omega) (h).2.2.2.2))
      | (symm; rw [decide_eq_true_iff]; exact ⟨hok, hag, fun j hj => hq j (by omega)⟩)
  · skip
    refine a_skip ?_
    refine hK3 _ _ (Ghost.refl _) ?_
    refine a_seq fun K9 hK9 => ?_
    refine a_seq fun K10 hK10 => ?_
    refine a_region rfl fun K11 hK11 => ?_
    refine x_fieldAddr ?_
    refine x_load ?_
    refine x_len ?_
    refine x_move ?_
    refine r_nil hK11 ?_
    refine hK10 _ _ (ghost_has (ks := [(1, .v _), (2, .ref 2 []), (12, _), (13, .v _), (14, .v _)]) (km := [(0, _), (1, _), (2, _)]) ⟨rfl, rfl, rfl, rfl, rfl, trivial⟩ ⟨rfl, rfl, rfl, trivial⟩ rfl) ?_
    refine a_block fun K12 hK12 => ?_
    refine a_loopM (X := Int) (fun i => ([(14, .v (.val (.int .i64 i)))] : List (Nat × S))) (fun i => ([] : List (Nat × V))) (fun i => (0 ≤ i ∧ i ≤ m.facts.length) ∧ (∀ j : Nat, j < i.toNat → (m.blocks[a.toNat]!)[j]! = (m.blocks[a.toNat]!)[m.actual.toNat]! → m.facts[j]! = m.facts[m.actual.toNat]!)) (fun i => (m.facts.length - i).toNat) [(1, .v _), (2, .ref 2 []), (12, _), (13, .v _)] [(0, _), (1, _), (2, _)] _ (Ghost.refl _) ⟨rfl, rfl, rfl, rfl, rfl, trivial⟩ ⟨rfl, rfl, rfl, trivial⟩ (fun i => rfl) ?_ ?_
    ·
      try dsimp only
      refine ⟨?_, ?_⟩
      ·
        first | omega | rfl | assumption | (simp; done) | (simp_all; done)
      ·
        intro j hj; simp at hj
    ·
      rintro i hI13 K13 hK13
      dsimp only [List.cons_append, List.nil_append] at hI13 ⊢
      obtain ⟨hi, hq⟩ := hI13
      have hok : m.ok := (by first | assumption | exact Decidable.not_not.1 (by assumption) | exact (Decidable.not_not.1 (‹¬¬(m.ok ∧ 0 ≤ a ∧ a < ↑m.blocks.length)›)).1)
      have hag : 0 ≤ a ∧ a < m.blocks.length := (by first | exact ⟨by omega, by omega⟩ | exact (Decidable.not_not.1 (‹¬¬(m.ok ∧ 0 ≤ a ∧ a < ↑m.blocks.length)›)).2)
      have hlen := Md.ok_len hok hag.1 hag.2
      have hac : 0 ≤ m.actual ∧ m.actual < m.facts.length := ⟨hok.2.2.2.2.1, hok.2.2.2.2.2.1⟩
      refine a_seq fun K14 hK14 => ?_
      refine a_region rfl fun K15 hK15 => ?_
      refine x_bin ?_
      refine r_nil hK15 ?_
      refine hK14 _ _ (Ghost.refl _) ?_
      refine a_seq fun K16 hK16 => ?_
      refine a_condP rfl (by first | exact .beq | exact .bne | exact .dec | exact .not .beq | exact .not .bne | exact .not .dec | exact .not .id | exact .id) (fun h17 => ?_) (fun h17 => ?_)
      · skip
        refine a_skip ?_
        refine hK16 _ _ (Ghost.refl _) ?_
        refine a_seq fun K18 hK18 => ?_
        refine a_block fun K19 hK19 => ?_
        refine a_seq fun K20 hK20 => ?_
        refine a_region rfl fun K21 hK21 => ?_
        refine x_move ?_
        refine x_indexAddr ?_ ?_
        ·
          exact ⟨by omega, by omega⟩
        first | refine x_ldE ?_ ?_ | refine x_ldN ?_ ?_ | refine x_ldO ?_ ?_ | refine x_ldON ?_ ?_ (hf := fun x => (rfl : cN x = List.map V.val [_, _, _, _]))
        ·
          omega
        refine x_assign ?_
        refine x_assign ?_
        refine r_nil hK21 ?_
        refine hK20 _ _ (Ghost.refl _) ?_
        refine a_seq fun K22 hK22 => ?_
        refine a_region rfl fun K23 hK23 => ?_
        first | refine x_ldM ?_ | refine x_ldMR ?_ | refine x_load ?_
        refine x_move ?_
        refine x_move ?_
        refine x_fieldAddr ?_
        refine x_load ?_
        refine x_call (s_impl_SameBlock ?_ ?_ ?_) ?_ (hl := by first | rfl | (repeat (first | exact lendL_nil | refine lendL_cons (by first | rfl | exact lend_ref rfl (ro_eL (by intro _; first | rfl | exact roL_cL (by intro _; rfl))) | exact lend_refp rfl (ro_eL (by intro _; first | rfl | exact roL_cL (by intro _; rfl))) | exact lend_agg (by repeat (first | exact lendL_nil | refine lendL_cons (by first | rfl | exact lend_ref rfl (ro_eL (by intro _; first | rfl | exact roL_cL (by intro _; rfl))) | exact lend_refp rfl (ro_eL (by intro _; first | rfl | exact roL_cL (by intro _; rfl)))) ?_))) ?_)))
        ·
          first | omega | exact hb
        ·
          first | omega | exact hb
        ·
          first | omega | exact hb
        rintro _ _ rfl
        refine x_move ?_
        refine x_split 25 rfl (by first | exact .beq | exact .bne | exact .dec | exact .not .beq | exact .not .bne | exact .not .dec | exact .not .id | exact .id) (fun h24 => ?_) (fun h24 => ?_)
        · skip
          refine x_move ?_
          refine x_fieldAddr ?_
          refine x_load ?_
          refine x_fieldAddr ?_
          refine x_load ?_
          refine x_indexAddr ?_ ?_
          ·
            exact ⟨by omega, by omega⟩
          first | refine x_ldE ?_ ?_ | refine x_ldN ?_ ?_ | refine x_ldO ?_ ?_ | refine x_ldON ?_ ?_ (hf := fun x => (rfl : cN x = List.map V.val [_, _, _, _]))
          ·
            omega
          refine x_bin ?_
          refine x_pickT ?_
          refine r_nil hK23 ?_
          refine hK22 _ _ (ghost_has (ks := [(1, .v _), (2, .ref 2 []), (12, _), (13, .v _), (14, .v _), (26, .v _), (27, _), (28, _), (29, _), (30, .v _), (31, _), (32, .v _), (33, .v _), (34, .v _)]) (km := [(0, _), (1, _), (2, _)]) ⟨rfl, rfl, rfl, rfl, rfl, rfl, rfl, rfl, rfl, rfl, rfl, rfl, rfl, rfl, trivial⟩ ⟨rfl, rfl, rfl, trivial⟩ rfl) ?_
          refine a_condP rfl (by first | exact .beq | exact .bne | exact .dec | exact .not .beq | exact .not .bne | exact .not .dec | exact .not .id | exact .id) (fun h25 => ?_) (fun h25 => ?_)
          · skip
            refine a_seq fun K26 hK26 => ?_
            refine a_region rfl fun K27 hK27 => ?_
            refine x_assign ?_
            refine r_nil hK27 ?_
            refine hK26 _ _ (Ghost.refl _) ?_
            refine a_ret ?_
            refine hK19 .ret _ (in_ret ?_)
            refine then_ret ?_
            refine then_ret ?_
            refine hK12 .ret _ (in_ret ?_)
            refine then_ret ?_
            refine leave_val (.inr rfl) rfl rfl rfl (congrArg (fun z => V.val (.bool z)) ?_)
            first
              | (symm; rw [decide_eq_false_iff_not]; intro hh; first | exact h25 ⟨hh.1, hh.2.1⟩ | exact h25 (hh.2.2 i.toNat (by omega) (h24).2.2.2.2))
              | (symm; rw [decide_eq_true_iff]; exact ⟨hok, hag, fun j hj => hq j (by omega)⟩)
          · skip
            refine a_skip ?_
            refine hK19 .normal _ ?_
            refine hK18 _ _ (Ghost.refl _) ?_
            refine a_region rfl fun K28 hK28 => ?_
            refine x_add ?_ ?_
            ·
              exact ⟨by omega, by omega⟩
            refine x_move ?_
            refine r_nil hK28 ?_
            refine hK13 _ _ _ _ (Ghost.refl _) ⟨rfl, rfl, rfl, rfl, rfl, trivial⟩ ⟨rfl, rfl, rfl, trivial⟩ ?_ ?_
            ·
              first | omega | (dsimp only; omega)
            ·
              try dsimp only
              refine ⟨?_, ?_⟩
              ·
                first | omega | rfl | assumption | (simp; done) | (simp_all; done)
              ·
                intro j hj
                by_cases e : j = i.toNat
                · subst e; intro heq; first | exact Decidable.not_not.1 h25 | exact absurd ⟨hok, hag, ⟨by omega, by omega⟩, hac, heq⟩ h25
                · exact hq j (by omega)
        · skip
          refine x_shut ?_
          refine x_shut ?_
          refine x_shut ?_
          refine x_shut ?_
          refine x_shut ?_
          refine x_shut ?_
          refine x_shut ?_
          refine x_shut ?_
          refine x_pickF ?_
          refine r_nil hK23 ?_
          refine hK22 _ _ (ghost_has (ks := [(1, .v _), (2, .ref 2 []), (12, _), (13, .v _), (14, .v _), (26, .v _), (27, .v _), (28, .v _), (29, .v _), (30, .v _), (31, .v _), (32, .v _), (33, .v _), (34, .v _)]) (km := [(0, _), (1, _), (2, _)]) ⟨rfl, rfl, rfl, rfl, rfl, rfl, rfl, rfl, rfl, rfl, rfl, rfl, rfl, rfl, trivial⟩ ⟨rfl, rfl, rfl, trivial⟩ rfl) ?_
          refine a_condF rfl ?_
          refine a_skip ?_
          refine hK19 .normal _ ?_
          refine hK18 _ _ (Ghost.refl _) ?_
          refine a_region rfl fun K29 hK29 => ?_
          refine x_add ?_ ?_
          ·
            exact ⟨by omega, by omega⟩
          refine x_move ?_
          refine r_nil hK29 ?_
          refine hK13 _ _ _ _ (Ghost.refl _) ⟨rfl, rfl, rfl, rfl, rfl, trivial⟩ ⟨rfl, rfl, rfl, trivial⟩ ?_ ?_
          ·
            first | omega | (dsimp only; omega)
          ·
            try dsimp only
            refine ⟨?_, ?_⟩
            ·
              first | omega | rfl | assumption | (simp; done) | (simp_all; done)
            ·
              intro j hj
              by_cases e : j = i.toNat
              · subst e; intro heq; first | exact Decidable.not_not.1 h24 | exact absurd ⟨hok, hag, ⟨by omega, by omega⟩, hac, heq⟩ h24
              · exact hq j (by omega)
      · skip
        refine a_exit ?_
        refine then_exit ?_
        refine then_exit ?_
        refine hK12 (.exit 0) _ (in_exit ?_)
        refine hK9 _ _ (Ghost.refl _) ?_
        refine a_seq fun K30 hK30 => ?_
        refine a_region rfl fun K31 hK31 => ?_
        refine x_assign ?_
        refine r_nil hK31 ?_
        refine hK30 _ _ (Ghost.refl _) ?_
        refine a_ret ?_
        refine leave_val (.inr rfl) rfl rfl rfl (congrArg (fun z => V.val (.bool z)) ?_)
        first
          | (symm; rw [decide_eq_false_iff_not]; intro hh; first | exact h17 ⟨hh.1, hh.2.1⟩ | exact h17 (hh.2.2 i.toNat (by omega) (h6).2.2.2.2))
          | (symm; rw [decide_eq_true_iff]; exact ⟨hok, hag, fun j hj => hq j (by omega)⟩)
end Go.T
namespace Go.T
open Go Go.E Go.Proofs
set_option maxHeartbeats 8000000 in
theorem s_laws_eqIntS {l : List Int} (hl : l.length ≤ 9223372036854775807) : Go.E.Spec Try.prog 33 [eL false 1 cI l, eL false 1 cI l] (fun r _ => r = .val (.bool (true))) := by
  refine spec_of_awp (E := Ev) evOk Try.func33 (c := _) rfl (by decide) (by simp [Try.ntmps33]) ?_
  rw [Try.ntmps33, entry_mk]
  change awp Ev 2 26 _ _ (mkSt [(0, .v (eL false 1 cI l)), (1, .v (eL false 1 cI l))] [(0, eL false 1 cI l), (1, eL false 1 cI l)])
  refine a_seq fun K1 hK1 => ?_
  refine a_region rfl fun K2 hK2 => ?_
  refine x_assign ?_
  refine r_nil hK2 ?_
  refine hK1 _ _ (Ghost.refl _) ?_
  refine a_seq fun K3 hK3 => ?_
  refine a_seq fun K4 hK4 => ?_
  refine a_region rfl fun K5 hK5 => ?_
  refine x_move ?_
  refine x_len ?_
  refine x_move ?_
  refine x_len ?_
  refine x_bin ?_
  refine r_nil hK5 ?_
  refine hK4 _ _ (Ghost.refl _) ?_
  refine a_condP rfl (by first | exact .beq | exact .bne | exact .dec | exact .not .beq | exact .not .bne | exact .not .dec | exact .not .id | exact .id) (fun h6 => ?_) (fun h6 => ?_)
  · skip
    refine a_seq fun K7 hK7 => ?_
    refine a_region rfl fun K8 hK8 => ?_
    refine x_assign ?_
    refine r_nil hK8 ?_
    refine hK7 _ _ (Ghost.refl _) ?_
    refine a_ret ?_
    refine then_ret ?_
    refine leave_val (.inr rfl) rfl rfl rfl (congrArg (fun z => V.val (.bool z)) ?_)
    first | rfl | omega | assumption | (simp; done) | (simp_all; done)
  · skip
    refine a_skip ?_
    refine hK3 _ _ (Ghost.refl _) ?_
    refine a_seq fun K9 hK9 => ?_
    refine a_seq fun K10 hK10 => ?_
    refine a_region rfl fun K11 hK11 => ?_
    refine x_assign ?_
    refine r_nil hK11 ?_
    refine hK10 _ _ (Ghost.refl _) ?_
    refine a_block fun K12 hK12 => ?_
    refine a_loopM (X := Int) (fun i => ([(5, .v (.val (.int .i64 i)))] : List (Nat × S))) (fun i => ([] : List (Nat × V))) (fun i => (0 ≤ i ∧ i ≤ l.length)) (fun i => (l.length - i).toNat) [(0, .v _), (1, .v _)] [(0, _), (1, _)] _ (Ghost.refl _) ⟨rfl, rfl, rfl, trivial⟩ ⟨rfl, rfl, trivial⟩ (fun i => rfl) ?_ ?_
    ·
      try dsimp only
      ·
        first | omega | rfl | assumption | (simp; done) | (simp_all; done)
    ·
      rintro i hI13 K13 hK13
      dsimp only [List.cons_append, List.nil_append] at hI13 ⊢
      have hi := hI13
      refine a_seq fun K14 hK14 => ?_
      refine a_seq fun K15 hK15 => ?_
      refine a_region rfl fun K16 hK16 => ?_
      refine x_move ?_
      refine x_move ?_
      refine x_len ?_
      refine x_bin ?_
      refine r_nil hK16 ?_
      refine hK15 _ _ (Ghost.refl _) ?_
      refine a_condP rfl (by first | exact .beq | exact .bne | exact .dec | exact .not .beq | exact .not .bne | exact .not .dec | exact .not .id | exact .id) (fun h17 => ?_) (fun h17 => ?_)
      · skip
        refine a_skip ?_
        refine hK14 _ _ (Ghost.refl _) ?_
        refine a_seq fun K18 hK18 => ?_
        refine a_block fun K19 hK19 => ?_
        refine a_seq fun K20 hK20 => ?_
        refine a_drawnG (ms := [255, 112, 48, 0, 0, 7, 3, 0, 0]) (by decide +kernel) (by decide +kernel) rfl (by decide +kernel) fun K21 hK21 => ?_
        refine x_move ?_
        refine x_move ?_
        refine x_indexAddr ?_ ?_
        ·
          exact ⟨by omega, by omega⟩
        first | refine x_ldE ?_ ?_ | refine x_ldN ?_ ?_ | refine x_ldO ?_ ?_ | refine x_ldON ?_ ?_ (hf := fun x => (rfl : cN x = List.map V.val [_, _, _, _]))
        ·
          omega
        refine x_move ?_
        refine x_move ?_
        refine x_indexAddr ?_ ?_
        ·
          exact ⟨by omega, by omega⟩
        first | refine x_ldE ?_ ?_ | refine x_ldN ?_ ?_ | refine x_ldO ?_ ?_ | refine x_ldON ?_ ?_ (hf := fun x => (rfl : cN x = List.map V.val [_, _, _, _]))
        ·
          omega
        refine x_bin ?_
        refine r_nil hK21 ?_
        refine hK20 _ _ (ghost_has (ks := [(0, .v _), (1, .v _), (5, .v _), (25, .v _)]) (km := [(0, _), (1, _)]) ⟨rfl, rfl, rfl, rfl, trivial⟩ ⟨rfl, rfl, trivial⟩ rfl) ?_
        refine a_condP rfl (by first | exact .beq | exact .bne | exact .dec | exact .not .beq | exact .not .bne | exact .not .dec | exact .not .id | exact .id) (fun h22 => ?_) (fun h22 => ?_)
        · skip
          refine a_seq fun K23 hK23 => ?_
          refine a_region rfl fun K24 hK24 => ?_
          refine x_assign ?_
          refine r_nil hK24 ?_
          refine hK23 _ _ (Ghost.refl _) ?_
          refine a_ret ?_
          refine hK19 .ret _ (in_ret ?_)
          refine then_ret ?_
          refine then_ret ?_
          refine hK12 .ret _ (in_ret ?_)
          refine then_ret ?_
          refine leave_val (.inr rfl) rfl rfl rfl (congrArg (fun z => V.val (.bool z)) ?_)
          first | rfl | omega | assumption | (simp; done) | (simp_all; done)
        · skip
          refine a_skip ?_
          refine hK19 .normal _ ?_
          refine hK18 _ _ (Ghost.refl _) ?_
          refine a_region rfl fun K25 hK25 => ?_
          refine x_move ?_
          refine x_add ?_ ?_
          ·
            exact ⟨by omega, by omega⟩
          refine x_assign ?_
          refine r_nil hK25 ?_
          refine hK13 _ _ _ _ (Ghost.refl _) ⟨rfl, rfl, rfl, trivial⟩ ⟨rfl, rfl, trivial⟩ ?_ ?_
          ·
            first | omega | (dsimp only; omega)
          ·
            try dsimp only
            ·
              first | omega | rfl | assumption | (simp; done) | (simp_all; done)
      · skip
        refine a_exit ?_
        refine then_exit ?_
        refine then_exit ?_
        refine hK12 (.exit 0) _ (in_exit ?_)
        refine hK9 _ _ (Ghost.refl _) ?_
        refine a_seq fun K26 hK26 => ?_
        refine a_region rfl fun K27 hK27 => ?_
        refine x_assign ?_
        refine r_nil hK27 ?_
        refine hK26 _ _ (Ghost.refl _) ?_
        refine a_ret ?_
        refine leave_val (.inr rfl) rfl rfl rfl (congrArg (fun z => V.val (.bool z)) ?_)
        first | rfl | omega | assumption | (simp; done) | (simp_all; done)
end Go.T
namespace Go.T
open Go Go.E Go.Proofs
set_option maxHeartbeats 8000000 in
theorem s_laws_eqIntSS {l : List ((List Int))} (hl : l.length ≤ 9223372036854775807) (hb : ∀ b ∈ l, b.length ≤ 9223372036854775807) : Go.E.Spec Try.prog 34 [eL false 1 (cL false 1 cI) l, eL false 1 (cL false 1 cI) l] (fun r _ => r = .val (.bool (true))) := by
  refine spec_of_awp (E := Ev) evOk Try.func34 (c := _) rfl (by decide) (by simp [Try.ntmps34]) ?_
  rw [Try.ntmps34, entry_mk]
  change awp Ev 2 27 _ _ (mkSt [(0, .v (eL false 1 (cL false 1 cI) l)), (1, .v (eL false 1 (cL false 1 cI) l))] [(0, eL false 1 (cL false 1 cI) l), (1, eL false 1 (cL false 1 cI) l)])
  refine a_seq fun K1 hK1 => ?_
  refine a_region rfl fun K2 hK2 => ?_
  refine x_assign ?_
  refine r_nil hK2 ?_
  refine hK1 _ _ (Ghost.refl _) ?_
  refine a_seq fun K3 hK3 => ?_
  refine a_seq fun K4 hK4 => ?_
  refine a_region rfl fun K5 hK5 => ?_
  refine x_move ?_
  refine x_len ?_
  refine x_move ?_
  refine x_len ?_
  refine x_bin ?_
  refine r_nil hK5 ?_
  refine hK4 _ _ (Ghost.refl _) ?_
  refine a_condP rfl (by first | exact .beq | exact .bne | exact .dec | exact .not .beq | exact .not .bne | exact .not .dec | exact .not .id | exact .id) (fun h6 => ?_) (fun h6 => ?_)
  · skip
    refine a_seq fun K7 hK7 => ?_
    refine a_region rfl fun K8 hK8 => ?_
    refine x_assign ?_
    refine r_nil hK8 ?_
    refine hK7 _ _ (Ghost.refl _) ?_
    refine a_ret ?_
    refine then_ret ?_
    refine leave_val (.inr rfl) rfl rfl rfl (congrArg (fun z => V.val (.bool z)) ?_)
    first | rfl | omega | assumption | (simp; done) | (simp_all; done)
  · skip
    refine a_skip ?_
    refine hK3 _ _ (Ghost.refl _) ?_
    refine a_seq fun K9 hK9 => ?_
    refine a_seq fun K10 hK10 => ?_
    refine a_region rfl fun K11 hK11 => ?_
    refine x_assign ?_
    refine r_nil hK11 ?_
    refine hK10 _ _ (Ghost.refl _) ?_
    refine a_block fun K12 hK12 => ?_
    refine a_loopM (X := Int) (fun i => ([(5, .v (.val (.int .i64 i)))] : List (Nat × S))) (fun i => ([] : List (Nat × V))) (fun i => (0 ≤ i ∧ i ≤ l.length)) (fun i => (l.length - i).toNat) [(0, .v _), (1, .v _)] [(0, _), (1, _)] _ (Ghost.refl _) ⟨rfl, rfl, rfl, trivial⟩ ⟨rfl, rfl, trivial⟩ (fun i => rfl) ?_ ?_
    ·
      try dsimp only
      ·
        first | omega | rfl | assumption | (simp; done) | (simp_all; done)
    ·
      rintro i hI13 K13 hK13
      dsimp only [List.cons_append, List.nil_append] at hI13 ⊢
      have hi := hI13
      refine a_seq fun K14 hK14 => ?_
      refine a_seq fun K15 hK15 => ?_
      refine a_region rfl fun K16 hK16 => ?_
      refine x_move ?_
      refine x_move ?_
      refine x_len ?_
      refine x_bin ?_
      refine r_nil hK16 ?_
      refine hK15 _ _ (Ghost.refl _) ?_
      refine a_condP rfl (by first | exact .beq | exact .bne | exact .dec | exact .not .beq | exact .not .bne | exact .not .dec | exact .not .id | exact .id) (fun h17 => ?_) (fun h17 => ?_)
      · skip
        refine a_skip ?_
        refine hK14 _ _ (Ghost.refl _) ?_
        refine a_seq fun K18 hK18 => ?_
        refine a_block fun K19 hK19 => ?_
        refine a_seq fun K20 hK20 => ?_
        refine a_drawnG (ms := [511, 255, 112, 48, 0, 0, 7, 3, 0, 0]) (by decide +kernel) (by decide +kernel) rfl (by decide +kernel) fun K21 hK21 => ?_
        refine x_move ?_
        refine x_move ?_
        refine x_indexAddr ?_ ?_
        ·
          exact ⟨by omega, by omega⟩
        first | refine x_ldE ?_ ?_ | refine x_ldN ?_ ?_ | refine x_ldO ?_ ?_ | refine x_ldON ?_ ?_ (hf := fun x => (rfl : cN x = List.map V.val [_, _, _, _]))
        ·
          omega
        refine x_move ?_
        refine x_move ?_
        refine x_indexAddr ?_ ?_
        ·
          exact ⟨by omega, by omega⟩
        first | refine x_ldE ?_ ?_ | refine x_ldN ?_ ?_ | refine x_ldO ?_ ?_ | refine x_ldON ?_ ?_ (hf := fun x => (rfl : cN x = List.map V.val [_, _, _, _]))
        ·
          omega
        refine x_call (s_laws_eqIntS ?_) ?_ (hl := by first | rfl | (repeat (first | exact lendL_nil | refine lendL_cons (by first | rfl | exact lend_ref rfl (ro_eL (by intro _; first | rfl | exact roL_cL (by intro _; rfl))) | exact lend_refp rfl (ro_eL (by intro _; first | rfl | exact roL_cL (by intro _; rfl))) | exact lend_agg (by repeat (first | exact lendL_nil | refine lendL_cons (by first | rfl | exact lend_ref rfl (ro_eL (by intro _; first | rfl | exact roL_cL (by intro _; rfl))) | exact lend_refp rfl (ro_eL (by intro _; first | rfl | exact roL_cL (by intro _; rfl)))) ?_))) ?_)))
        ·
          exact hb _ (mem_get! (by omega))
        rintro _ _ rfl
        refine x_un ?_
        refine r_nil hK21 ?_
        refine hK20 _ _ (ghost_has (ks := [(0, .v _), (1, .v _), (5, .v _), (26, .v _)]) (km := [(0, _), (1, _)]) ⟨rfl, rfl, rfl, rfl, trivial⟩ ⟨rfl, rfl, trivial⟩ rfl) ?_
        refine a_condP rfl (by first | exact .beq | exact .bne | exact .dec | exact .not .beq | exact .not .bne | exact .not .dec | exact .not .id | exact .id) (fun h22 => ?_) (fun h22 => ?_)
        · skip
          refine a_seq fun K23 hK23 => ?_
          refine a_region rfl fun K24 hK24 => ?_
          refine x_assign ?_
          refine r_nil hK24 ?_
          refine hK23 _ _ (Ghost.refl _) ?_
          refine a_ret ?_
          refine hK19 .ret _ (in_ret ?_)
          refine then_ret ?_
          refine then_ret ?_
          refine hK12 .ret _ (in_ret ?_)
          refine then_ret ?_
          refine leave_val (.inr rfl) rfl rfl rfl (congrArg (fun z => V.val (.bool z)) ?_)
          first | rfl | omega | assumption | (simp; done) | (simp_all; done)
        · skip
          refine a_skip ?_
          refine hK19 .normal _ ?_
          refine hK18 _ _ (Ghost.refl _) ?_
          refine a_region rfl fun K25 hK25 => ?_
          refine x_move ?_
          refine x_add ?_ ?_
          ·
            exact ⟨by omega, by omega⟩
          refine x_assign ?_
          refine r_nil hK25 ?_
          refine hK13 _ _ _ _ (Ghost.refl _) ⟨rfl, rfl, rfl, trivial⟩ ⟨rfl, rfl, trivial⟩ ?_ ?_
          ·
            first | omega | (dsimp only; omega)
          ·
            try dsimp only
            ·
              first | omega | rfl | assumption | (simp; done) | (simp_all; done)
      · skip
        refine a_exit ?_
        refine then_exit ?_
        refine then_exit ?_
        refine hK12 (.exit 0) _ (in_exit ?_)
        refine hK9 _ _ (Ghost.refl _) ?_
        refine a_seq fun K26 hK26 => ?_
        refine a_region rfl fun K27 hK27 => ?_
        refine x_assign ?_
        refine r_nil hK27 ?_
        refine hK26 _ _ (Ghost.refl _) ?_
        refine a_ret ?_
        refine leave_val (.inr rfl) rfl rfl rfl (congrArg (fun z => V.val (.bool z)) ?_)
        first | rfl | omega | assumption | (simp; done) | (simp_all; done)
end Go.T
namespace Go.T
open Go Go.E Go.Proofs
set_option maxHeartbeats 8000000 in
theorem s_laws_eqModel {m : Md} (hf : m.facts.length ≤ 9223372036854775807) (hl : m.blocks.length ≤ 9223372036854775807) (hb : ∀ b ∈ m.blocks, b.length ≤ 9223372036854775807) : Go.E.Spec Try.prog 14 [.agg (cM false m), .agg (cM false m)] (fun r _ => r = .val (.bool (true))) := by
  refine spec_of_awp (E := Ev) evOk Try.func14 (c := _) rfl (by decide) (by simp [Try.ntmps14]) ?_
  rw [Try.ntmps14, entry_mk]
  change awp Ev 2 22 _ _ (mkSt [(0, .agg [.v (eL false 1 cI m.facts), .v (eL false 1 (cL false 1 cI) m.blocks), .v (.val (.int .i64 m.actual))]), (1, .agg [.v (eL false 1 cI m.facts), .v (eL false 1 (cL false 1 cI) m.blocks), .v (.val (.int .i64 m.actual))])] [(0, .agg (cM false m)), (1, .agg (cM false m))])
  refine a_seq fun K1 hK1 => ?_
  refine a_region rfl fun K2 hK2 => ?_
  first | refine x_boxVal ?_ | refine x_boxAgg' ?_ | refine x_boxT ?_
  first | refine x_boxVal ?_ | refine x_boxAgg' ?_ | refine x_boxT ?_
  refine x_assign ?_
  refine r_nil hK2 ?_
  refine hK1 _ _ (Ghost.refl _) ?_
  refine a_seq fun K3 hK3 => ?_
  refine a_seq fun K4 hK4 => ?_
  refine a_region rfl fun K5 hK5 => ?_
  refine x_fieldAddr ?_
  refine x_load ?_
  refine x_fieldAddr ?_
  refine x_load ?_
  refine x_call (s_laws_eqIntS ?_) ?_ (hl := by first | rfl | (repeat (first | exact lendL_nil | refine lendL_cons (by first | rfl | exact lend_ref rfl (ro_eL (by intro _; first | rfl | exact roL_cL (by intro _; rfl))) | exact lend_refp rfl (ro_eL (by intro _; first | rfl | exact roL_cL (by intro _; rfl))) | exact lend_agg (by repeat (first | exact lendL_nil | refine lendL_cons (by first | rfl | exact lend_ref rfl (ro_eL (by intro _; first | rfl | exact roL_cL (by intro _; rfl))) | exact lend_refp rfl (ro_eL (by intro _; first | rfl | exact roL_cL (by intro _; rfl)))) ?_))) ?_)))
  ·
    first | omega | rfl | assumption | (simp; done) | (simp_all; done)
  rintro _ _ rfl
  refine x_un ?_
  refine r_nil hK5 ?_
  refine hK4 _ _ (ghost_has (ks := [(2, .ref 2 []), (3, .ref 3 []), (10, .v _)]) (km := [(0, _), (1, _), (2, _), (3, _)]) ⟨rfl, rfl, rfl, trivial⟩ ⟨rfl, rfl, rfl, rfl, trivial⟩ rfl) ?_
  refine a_condP rfl (by first | exact .beq | exact .bne | exact .dec | exact .not .beq | exact .not .bne | exact .not .dec | exact .not .id | exact .id) (fun h6 => ?_) (fun h6 => ?_)
  · skip
    refine a_seq fun K7 hK7 => ?_
    refine a_region rfl fun K8 hK8 => ?_
    refine x_assign ?_
    refine r_nil hK8 ?_
    refine hK7 _ _ (Ghost.refl _) ?_
    refine a_ret ?_
    refine then_ret ?_
    refine leave_val (.inr rfl) rfl rfl rfl (congrArg (fun z => V.val (.bool z)) ?_)
    first | rfl | omega | assumption | (simp; done) | (simp_all; done)
  · skip
    refine a_skip ?_
    refine hK3 _ _ (Ghost.refl _) ?_
    refine a_seq fun K9 hK9 => ?_
    refine a_seq fun K10 hK10 => ?_
    refine a_region rfl fun K11 hK11 => ?_
    refine x_fieldAddr ?_
    refine x_load ?_
    refine x_fieldAddr ?_
    refine x_load ?_
    refine x_call (s_laws_eqIntSS ?_ ?_) ?_ (hl := by first | rfl | (repeat (first | exact lendL_nil | refine lendL_cons (by first | rfl | exact lend_ref rfl (ro_eL (by intro _; first | rfl | exact roL_cL (by intro _; rfl))) | exact lend_refp rfl (ro_eL (by intro _; first | rfl | exact roL_cL (by intro _; rfl))) | exact lend_agg (by repeat (first | exact lendL_nil | refine lendL_cons (by first | rfl | exact lend_ref rfl (ro_eL (by intro _; first | rfl | exact roL_cL (by intro _; rfl))) | exact lend_refp rfl (ro_eL (by intro _; first | rfl | exact roL_cL (by intro _; rfl)))) ?_))) ?_)))
    ·
      first | omega | exact hb
    ·
      first | omega | exact hb
    rintro _ _ rfl
    refine x_un ?_
    refine r_nil hK11 ?_
    refine hK10 _ _ (Ghost.refl _) ?_
    refine a_condP rfl (by first | exact .beq | exact .bne | exact .dec | exact .not .beq | exact .not .bne | exact .not .dec | exact .not .id | exact .id) (fun h12 => ?_) (fun h12 => ?_)
    · skip
      refine a_seq fun K13 hK13 => ?_
      refine a_region rfl fun K14 hK14 => ?_
      refine x_assign ?_
      refine r_nil hK14 ?_
      refine hK13 _ _ (Ghost.refl _) ?_
      refine a_ret ?_
      refine then_ret ?_
      refine leave_val (.inr rfl) rfl rfl rfl (congrArg (fun z => V.val (.bool z)) ?_)
      first | rfl | omega | assumption | (simp; done) | (simp_all; done)
    · skip
      refine a_skip ?_
      refine hK9 _ _ (Ghost.refl _) ?_
      refine a_seq fun K15 hK15 => ?_
      refine a_seq fun K16 hK16 => ?_
      refine a_region rfl fun K17 hK17 => ?_
      refine x_fieldAddr ?_
      refine x_load ?_
      refine x_fieldAddr ?_
      refine x_load ?_
      refine x_bin ?_
      refine r_nil hK17 ?_
      refine hK16 _ _ (ghost_has (ks := [(21, .v _)]) (km := [(0, _), (1, _)]) ⟨rfl, trivial⟩ ⟨rfl, rfl, trivial⟩ rfl) ?_
      refine a_condP rfl (by first | exact .beq | exact .bne | exact .dec | exact .not .beq | exact .not .bne | exact .not .dec | exact .not .id | exact .id) (fun h18 => ?_) (fun h18 => ?_)
      · skip
        refine a_seq fun K19 hK19 => ?_
        refine a_region rfl fun K20 hK20 => ?_
        refine x_assign ?_
        refine r_nil hK20 ?_
        refine hK19 _ _ (Ghost.refl _) ?_
        refine a_ret ?_
        refine then_ret ?_
        refine leave_val (.inr rfl) rfl rfl rfl (congrArg (fun z => V.val (.bool z)) ?_)
        first | rfl | omega | assumption | (simp; done) | (simp_all; done)
      · skip
        refine a_skip ?_
        refine hK15 _ _ (Ghost.refl _) ?_
        refine a_seq fun K21 hK21 => ?_
        refine a_region rfl fun K22 hK22 => ?_
        refine x_assign ?_
        refine r_nil hK22 ?_
        refine hK21 _ _ (Ghost.refl _) ?_
        refine a_ret ?_
        refine leave_val (.inr rfl) rfl rfl rfl (congrArg (fun z => V.val (.bool z)) ?_)
        first | rfl | omega | assumption | (simp; done) | (simp_all; done)
end Go.T
namespace Go.T
open Go Go.E Go.Proofs
set_option maxHeartbeats 8000000 in
theorem s_laws_FnExactKnowsWhich {m : Md} {a : Int} (hf : m.facts.length ≤ 9223372036854775807) (hl : m.blocks.length ≤ 9223372036854775807) (hb : ∀ b ∈ m.blocks, b.length ≤ 9223372036854775807) : Go.E.Spec Try.prog 5 [.agg (cM false m), .val (.int .i64 a)] (fun r _ => r = .val (.bool (true))) := by
  refine spec_of_awp (E := Ev) evOk Try.func5 (c := _) rfl (by decide) (by simp [Try.ntmps5]) ?_
  rw [Try.ntmps5, entry_mk]
  change awp Ev 2 31 _ _ (mkSt [(0, .agg [.v (eL false 1 cI m.facts), .v (eL false 1 (cL false 1 cI) m.blocks), .v (.val (.int .i64 m.actual))]), (1, .v (.val (.int .i64 a)))] [(0, .agg (cM false m)), (1, .val (.int .i64 a))])
  refine a_seq fun K1 hK1 => ?_
  refine a_region rfl fun K2 hK2 => ?_
  first | refine x_boxVal ?_ | refine x_boxAgg' ?_ | refine x_boxT ?_
  refine x_assign ?_
  refine r_nil hK2 ?_
  refine hK1 _ _ (Ghost.refl _) ?_
  refine a_seq fun K3 hK3 => ?_
  refine a_region rfl fun K4 hK4 => ?_
  refine x_assign ?_
  refine r_nil hK4 ?_
  refine hK3 _ _ (Ghost.refl _) ?_
  refine a_seq fun K5 hK5 => ?_
  refine a_region rfl fun K6 hK6 => ?_
  first | refine x_ldM ?_ | refine x_ldMR ?_ | refine x_load ?_
  refine x_move ?_
  refine x_call (s_laws_szModel ?_ ?_ ?_ ?_) ?_ (hl := by first | rfl | (repeat (first | exact lendL_nil | refine lendL_cons (by first | rfl | exact lend_ref rfl (ro_eL (by intro _; first | rfl | exact roL_cL (by intro _; rfl))) | exact lend_refp rfl (ro_eL (by intro _; first | rfl | exact roL_cL (by intro _; rfl))) | exact lend_agg (by repeat (first | exact lendL_nil | refine lendL_cons (by first | rfl | exact lend_ref rfl (ro_eL (by intro _; first | rfl | exact roL_cL (by intro _; rfl))) | exact lend_refp rfl (ro_eL (by intro _; first | rfl | exact roL_cL (by intro _; rfl)))) ?_))) ?_)))
  ·
    first | omega | exact hb
  ·
    first | omega | exact hb
  ·
    first | omega | exact hb
  ·
    first | omega | exact hb
  rintro _ _ ⟨k, rfl, hk0, hk⟩
  refine x_assign ?_
  refine r_nil hK6 ?_
  refine hK5 _ _ (Ghost.refl _) ?_
  refine a_seq fun K7 hK7 => ?_
  refine a_seq fun K8 hK8 => ?_
  refine a_region rfl fun K9 hK9 => ?_
  refine x_move ?_
  refine x_bin ?_
  refine r_nil hK9 ?_
  refine hK8 _ _ (ghost_has (ks := [(1, .v _), (2, .ref 2 []), (13, .v _)]) (km := [(0, _), (1, _), (2, _)]) ⟨rfl, rfl, rfl, trivial⟩ ⟨rfl, rfl, rfl, trivial⟩ rfl) ?_
  refine a_condP rfl (by first | exact .beq | exact .bne | exact .dec | exact .not .beq | exact .not .bne | exact .not .dec | exact .not .id | exact .id) (fun h10 => ?_) (fun h10 => ?_)
  · skip
    refine a_seq fun K11 hK11 => ?_
    refine a_region rfl fun K12 hK12 => ?_
    refine x_assign ?_
    refine r_nil hK12 ?_
    refine hK11 _ _ (Ghost.refl _) ?_
    refine a_ret ?_
    refine then_ret ?_
    refine leave_val (.inr rfl) rfl rfl rfl (congrArg (fun z => V.val (.bool z)) ?_)
    first | rfl | omega | assumption | (simp; done) | (simp_all; done)
  · skip
    refine a_skip ?_
    refine hK7 _ _ (Ghost.refl _) ?_
    refine a_seq fun K13 hK13 => ?_
    refine a_region rfl fun K14 hK14 => ?_
    first | refine x_ldM ?_ | refine x_ldMR ?_ | refine x_load ?_
    refine x_call (s_laws_toModel ?_ ?_ ?_) ?_ (hl := by first | rfl | (repeat (first | exact lendL_nil | refine lendL_cons (by first | rfl | exact lend_ref rfl (ro_eL (by intro _; first | rfl | exact roL_cL (by intro _; rfl))) | exact lend_refp rfl (ro_eL (by intro _; first | rfl | exact roL_cL (by intro _; rfl))) | exact lend_agg (by repeat (first | exact lendL_nil | refine lendL_cons (by first | rfl | exact lend_ref rfl (ro_eL (by intro _; first | rfl | exact roL_cL (by intro _; rfl))) | exact lend_refp rfl (ro_eL (by intro _; first | rfl | exact roL_cL (by intro _; rfl)))) ?_))) ?_)))
    ·
      first | omega | (intro b hbm; have := (hk (by omega)).2.2 b hbm; omega) | (intro b hbm; have := (hk2 (by omega)).2.2 b hbm; omega)
    ·
      first | omega | (intro b hbm; have := (hk (by omega)).2.2 b hbm; omega) | (intro b hbm; have := (hk2 (by omega)).2.2 b hbm; omega)
    ·
      first | omega | (intro b hbm; have := (hk (by omega)).2.2 b hbm; omega) | (intro b hbm; have := (hk2 (by omega)).2.2 b hbm; omega)
    rintro _ _ rfl
    refine x_move ?_
    refine x_call (s_spec_KnowsWhich ?_ ?_ ?_) ?_ (hl := by first | rfl | (repeat (first | exact lendL_nil | refine lendL_cons (by first | rfl | exact lend_ref rfl (ro_eL (by intro _; first | rfl | exact roL_cL (by intro _; rfl))) | exact lend_refp rfl (ro_eL (by intro _; first | rfl | exact roL_cL (by intro _; rfl))) | exact lend_agg (by repeat (first | exact lendL_nil | refine lendL_cons (by first | rfl | exact lend_ref rfl (ro_eL (by intro _; first | rfl | exact roL_cL (by intro _; rfl))) | exact lend_refp rfl (ro_eL (by intro _; first | rfl | exact roL_cL (by intro _; rfl)))) ?_))) ?_)))
    ·
      first | omega | (intro b hbm; have := (hk (by omega)).2.2 b hbm; omega) | (intro b hbm; have := (hk2 (by omega)).2.2 b hbm; omega)
    ·
      first | omega | (intro b hbm; have := (hk (by omega)).2.2 b hbm; omega) | (intro b hbm; have := (hk2 (by omega)).2.2 b hbm; omega)
    ·
      first | omega | (intro b hbm; have := (hk (by omega)).2.2 b hbm; omega) | (intro b hbm; have := (hk2 (by omega)).2.2 b hbm; omega)
    rintro _ _ rfl
    refine x_assign ?_
    refine r_nil hK14 ?_
    refine hK13 _ _ (Ghost.refl _) ?_
    refine a_seq fun K15 hK15 => ?_
    refine a_region rfl fun K16 hK16 => ?_
    first | refine x_ldM ?_ | refine x_ldMR ?_ | refine x_load ?_
    refine x_call (s_laws_toModel ?_ ?_ ?_) ?_ (hl := by first | rfl | (repeat (first | exact lendL_nil | refine lendL_cons (by first | rfl | exact lend_ref rfl (ro_eL (by intro _; first | rfl | exact roL_cL (by intro _; rfl))) | exact lend_refp rfl (ro_eL (by intro _; first | rfl | exact roL_cL (by intro _; rfl))) | exact lend_agg (by repeat (first | exact lendL_nil | refine lendL_cons (by first | rfl | exact lend_ref rfl (ro_eL (by intro _; first | rfl | exact roL_cL (by intro _; rfl))) | exact lend_refp rfl (ro_eL (by intro _; first | rfl | exact roL_cL (by intro _; rfl)))) ?_))) ?_)))
    ·
      first | omega | (intro b hbm; have := (hk (by omega)).2.2 b hbm; omega) | (intro b hbm; have := (hk2 (by omega)).2.2 b hbm; omega)
    ·
      first | omega | (intro b hbm; have := (hk (by omega)).2.2 b hbm; omega) | (intro b hbm; have := (hk2 (by omega)).2.2 b hbm; omega)
    ·
      first | omega | (intro b hbm; have := (hk (by omega)).2.2 b hbm; omega) | (intro b hbm; have := (hk2 (by omega)).2.2 b hbm; omega)
    rintro _ _ rfl
    refine x_alloc ?_
    first | refine x_put0 ?_ | refine x_put1 ?_ | refine x_put2 ?_ | refine x_put3 ?_ | refine x_putAll ?_ | refine x_put0R ?_ | refine x_put1R ?_ | refine x_putM ?_ | refine x_put0T ?_ | refine x_put1T ?_ | refine x_putAllT ?_
    refine r_nil hK16 ?_
    refine hK15 _ _ (ghost_has (ks := [(1, .v _), (2, .ref 2 []), (6, .v _), (7, .ref 7 [])]) (km := [(0, _), (1, _), (2, _), (7, _), (17, _)]) ⟨rfl, rfl, rfl, rfl, trivial⟩ ⟨rfl, rfl, rfl, rfl, rfl, trivial⟩ rfl) ?_
    refine a_seq fun K17 hK17 => ?_
    refine a_region rfl fun K18 hK18 => ?_
    first | refine x_ldM ?_ | refine x_ldMR ?_ | refine x_load ?_
    refine x_move ?_
    refine x_call (s_impl_KnowsWhich ?_ ?_ ?_) ?_ (hl := by first | rfl | (repeat (first | exact lendL_nil | refine lendL_cons (by first | rfl | exact lend_ref rfl (ro_eL (by intro _; first | rfl | exact roL_cL (by intro _; rfl))) | exact lend_refp rfl (ro_eL (by intro _; first | rfl | exact roL_cL (by intro _; rfl))) | exact lend_agg (by repeat (first | exact lendL_nil | refine lendL_cons (by first | rfl | exact lend_ref rfl (ro_eL (by intro _; first | rfl | exact roL_cL (by intro _; rfl))) | exact lend_refp rfl (ro_eL (by intro _; first | rfl | exact roL_cL (by intro _; rfl)))) ?_))) ?_)))
    ·
      first | omega | (intro b hbm; have := (hk (by omega)).2.2 b hbm; omega) | (intro b hbm; have := (hk2 (by omega)).2.2 b hbm; omega)
    ·
      first | omega | (intro b hbm; have := (hk (by omega)).2.2 b hbm; omega) | (intro b hbm; have := (hk2 (by omega)).2.2 b hbm; omega)
    ·
      first | omega | (intro b hbm; have := (hk (by omega)).2.2 b hbm; omega) | (intro b hbm; have := (hk2 (by omega)).2.2 b hbm; omega)
    rintro _ _ rfl
    refine x_assign ?_
    refine r_nil hK18 ?_
    refine hK17 _ _ (Ghost.refl _) ?_
    refine a_seq fun K19 hK19 => ?_
    refine a_seq fun K20 hK20 => ?_
    refine a_region rfl fun K21 hK21 => ?_
    refine x_move ?_
    refine x_move ?_
    refine x_bin ?_
    refine r_nil hK21 ?_
    refine hK20 _ _ (Ghost.refl _) ?_
    refine a_condP rfl (by first | exact .beq | exact .bne | exact .dec | exact .not .beq | exact .not .bne | exact .not .dec | exact .not .id | exact .id) (fun h22 => ?_) (fun h22 => ?_)
    · skip
      refine a_seq fun K23 hK23 => ?_
      refine a_region rfl fun K24 hK24 => ?_
      refine x_assign ?_
      refine r_nil hK24 ?_
      refine hK23 _ _ (Ghost.refl _) ?_
      refine a_ret ?_
      refine then_ret ?_
      refine leave_val (.inr rfl) rfl rfl rfl (congrArg (fun z => V.val (.bool z)) ?_)
      first | rfl | omega | assumption | (simp; done) | (simp_all; done)
    · skip
      refine a_skip ?_
      refine hK19 _ _ (Ghost.refl _) ?_
      refine a_seq fun K25 hK25 => ?_
      refine a_seq fun K26 hK26 => ?_
      refine a_drawAllG (n := 5) (ms := [15, 7, 2, 0, 0]) rfl (by decide +kernel) (by decide +kernel) (by decide +kernel) fun K27 hK27 => ?_
      refine w_allG (l := [0, 1]) (by decide +kernel) ⟨?_, ?_, trivial⟩
      · skip
        first | refine x_ldM ?_ | refine x_ldMR ?_ | refine x_load ?_
        refine w_end ?_
        refine w_allG (l := [1]) (by decide +kernel) ⟨?_, trivial⟩
        first | refine x_ldM ?_ | refine x_ldMR ?_ | refine x_load ?_
        refine w_end ?_
        refine w_allG (l := [2]) (by decide +kernel) ⟨?_, trivial⟩
        refine x_call (s_laws_toModel ?_ ?_ ?_) ?_ (hl := by first | rfl | (repeat (first | exact lendL_nil | refine lendL_cons (by first | rfl | exact lend_ref rfl (ro_eL (by intro _; first | rfl | exact roL_cL (by intro _; rfl))) | exact lend_refp rfl (ro_eL (by intro _; first | rfl | exact roL_cL (by intro _; rfl))) | exact lend_agg (by repeat (first | exact lendL_nil | refine lendL_cons (by first | rfl | exact lend_ref rfl (ro_eL (by intro _; first | rfl | exact roL_cL (by intro _; rfl))) | exact lend_refp rfl (ro_eL (by intro _; first | rfl | exact roL_cL (by intro _; rfl)))) ?_))) ?_)))
        ·
          first | omega | (intro b hbm; have := (hk (by omega)).2.2 b hbm; omega) | (intro b hbm; have := (hk2 (by omega)).2.2 b hbm; omega)
        ·
          first | omega | (intro b hbm; have := (hk (by omega)).2.2 b hbm; omega) | (intro b hbm; have := (hk2 (by omega)).2.2 b hbm; omega)
        ·
          first | omega | (intro b hbm; have := (hk (by omega)).2.2 b hbm; omega) | (intro b hbm; have := (hk2 (by omega)).2.2 b hbm; omega)
        rintro _ _ rfl
        refine w_end ?_
        refine w_allG (l := [3]) (by decide +kernel) ⟨?_, trivial⟩
        refine x_call (s_laws_eqModel ?_ ?_ ?_) ?_ (hl := by first | rfl | (repeat (first | exact lendL_nil | refine lendL_cons (by first | rfl | exact lend_ref rfl (ro_eL (by intro _; first | rfl | exact roL_cL (by intro _; rfl))) | exact lend_refp rfl (ro_eL (by intro _; first | rfl | exact roL_cL (by intro _; rfl))) | exact lend_agg (by repeat (first | exact lendL_nil | refine lendL_cons (by first | rfl | exact lend_ref rfl (ro_eL (by intro _; first | rfl | exact roL_cL (by intro _; rfl))) | exact lend_refp rfl (ro_eL (by intro _; first | rfl | exact roL_cL (by intro _; rfl)))) ?_))) ?_)))
        ·
          first | omega | (intro b hbm; have := (hk (by omega)).2.2 b hbm; omega) | (intro b hbm; have := (hk2 (by omega)).2.2 b hbm; omega)
        ·
          first | omega | (intro b hbm; have := (hk (by omega)).2.2 b hbm; omega) | (intro b hbm; have := (hk2 (by omega)).2.2 b hbm; omega)
        ·
          first | omega | (intro b hbm; have := (hk (by omega)).2.2 b hbm; omega) | (intro b hbm; have := (hk2 (by omega)).2.2 b hbm; omega)
        rintro _ _ rfl
        refine w_end ?_
        refine w_allG (l := [4]) (by decide +kernel) ⟨?_, trivial⟩
        refine x_un ?_
        refine w_end ?_
        refine w_doneG hK27 ?_
        refine hK26 _ _ (ghost_has (ks := [(30, .v _)]) (km := [(0, _), (1, _)]) ⟨rfl, trivial⟩ ⟨rfl, rfl, trivial⟩ rfl) ?_
        refine a_condP rfl (by first | exact .beq | exact .bne | exact .dec | exact .not .beq | exact .not .bne | exact .not .dec | exact .not .id | exact .id) (fun h28 => ?_) (fun h28 => ?_)
        · skip
          refine a_seq fun K29 hK29 => ?_
          refine a_region rfl fun K30 hK30 => ?_
          refine x_assign ?_
          refine r_nil hK30 ?_
          refine hK29 _ _ (Ghost.refl _) ?_
          refine a_ret ?_
          refine then_ret ?_
          refine leave_val (.inr rfl) rfl rfl rfl (congrArg (fun z => V.val (.bool z)) ?_)
          first | rfl | omega | assumption | (simp; done) | (simp_all; done)
        · skip
          refine a_skip ?_
          refine hK25 _ _ (Ghost.refl _) ?_
          refine a_seq fun K31 hK31 => ?_
          refine a_region rfl fun K32 hK32 => ?_
          refine x_assign ?_
          refine r_nil hK32 ?_
          refine hK31 _ _ (Ghost.refl _) ?_
          refine a_ret ?_
          refine leave_val (.inr rfl) rfl rfl rfl (congrArg (fun z => V.val (.bool z)) ?_)
          first | rfl | omega | assumption | (simp; done) | (simp_all; done)
      · skip
        first | refine x_ldM ?_ | refine x_ldMR ?_ | refine x_load ?_
        refine w_end ?_
        refine w_allG (l := [2]) (by decide +kernel) ⟨?_, trivial⟩
        refine x_call (s_laws_toModel ?_ ?_ ?_) ?_ (hl := by first | rfl | (repeat (first | exact lendL_nil | refine lendL_cons (by first | rfl | exact lend_ref rfl (ro_eL (by intro _; first | rfl | exact roL_cL (by intro _; rfl))) | exact lend_refp rfl (ro_eL (by intro _; first | rfl | exact roL_cL (by intro _; rfl))) | exact lend_agg (by repeat (first | exact lendL_nil | refine lendL_cons (by first | rfl | exact lend_ref rfl (ro_eL (by intro _; first | rfl | exact roL_cL (by intro _; rfl))) | exact lend_refp rfl (ro_eL (by intro _; first | rfl | exact roL_cL (by intro _; rfl)))) ?_))) ?_)))
        ·
          first | omega | (intro b hbm; have := (hk (by omega)).2.2 b hbm; omega) | (intro b hbm; have := (hk2 (by omega)).2.2 b hbm; omega)
        ·
          first | omega | (intro b hbm; have := (hk (by omega)).2.2 b hbm; omega) | (intro b hbm; have := (hk2 (by omega)).2.2 b hbm; omega)
        ·
          first | omega | (intro b hbm; have := (hk (by omega)).2.2 b hbm; omega) | (intro b hbm; have := (hk2 (by omega)).2.2 b hbm; omega)
        rintro _ _ rfl
        refine w_end ?_
        refine w_allG (l := [0]) (by decide +kernel) ⟨?_, trivial⟩
        first | refine x_ldM ?_ | refine x_ldMR ?_ | refine x_load ?_
        refine w_end ?_
        refine w_allG (l := [3]) (by decide +kernel) ⟨?_, trivial⟩
        refine x_call (s_laws_eqModel ?_ ?_ ?_) ?_ (hl := by first | rfl | (repeat (first | exact lendL_nil | refine lendL_cons (by first | rfl | exact lend_ref rfl (ro_eL (by intro _; first | rfl | exact roL_cL (by intro _; rfl))) | exact lend_refp rfl (ro_eL (by intro _; first | rfl | exact roL_cL (by intro _; rfl))) | exact lend_agg (by repeat (first | exact lendL_nil | refine lendL_cons (by first | rfl | exact lend_ref rfl (ro_eL (by intro _; first | rfl | exact roL_cL (by intro _; rfl))) | exact lend_refp rfl (ro_eL (by intro _; first | rfl | exact roL_cL (by intro _; rfl)))) ?_))) ?_)))
        ·
          first | omega | (intro b hbm; have := (hk (by omega)).2.2 b hbm; omega) | (intro b hbm; have := (hk2 (by omega)).2.2 b hbm; omega)
        ·
          first | omega | (intro b hbm; have := (hk (by omega)).2.2 b hbm; omega) | (intro b hbm; have := (hk2 (by omega)).2.2 b hbm; omega)
        ·
          first | omega | (intro b hbm; have := (hk (by omega)).2.2 b hbm; omega) | (intro b hbm; have := (hk2 (by omega)).2.2 b hbm; omega)
        rintro _ _ rfl
        refine w_end ?_
        refine w_allG (l := [4]) (by decide +kernel) ⟨?_, trivial⟩
        refine x_un ?_
        refine w_end ?_
        refine w_doneG hK27 ?_
        refine hK26 _ _ (ghost_has (ks := [(30, .v _)]) (km := [(0, _), (1, _)]) ⟨rfl, trivial⟩ ⟨rfl, rfl, trivial⟩ rfl) ?_
        refine a_condP rfl (by first | exact .beq | exact .bne | exact .dec | exact .not .beq | exact .not .bne | exact .not .dec | exact .not .id | exact .id) (fun h33 => ?_) (fun h33 => ?_)
        · skip
          refine a_seq fun K34 hK34 => ?_
          refine a_region rfl fun K35 hK35 => ?_
          refine x_assign ?_
          refine r_nil hK35 ?_
          refine hK34 _ _ (Ghost.refl _) ?_
          refine a_ret ?_
          refine then_ret ?_
          refine leave_val (.inr rfl) rfl rfl rfl (congrArg (fun z => V.val (.bool z)) ?_)
          first | rfl | omega | assumption | (simp; done) | (simp_all; done)
        · skip
          refine a_skip ?_
          refine hK25 _ _ (Ghost.refl _) ?_
          refine a_seq fun K36 hK36 => ?_
          refine a_region rfl fun K37 hK37 => ?_
          refine x_assign ?_
          refine r_nil hK37 ?_
          refine hK36 _ _ (Ghost.refl _) ?_
          refine a_ret ?_
          refine leave_val (.inr rfl) rfl rfl rfl (congrArg (fun z => V.val (.bool z)) ?_)
          first | rfl | omega | assumption | (simp; done) | (simp_all; done)
end Go.T
