import Derived.Test.YtnebclliacjjkaaChecked
import Derived.Shelf.Strings.Builder1
import Derived.Shelf.Strings.Builder2
import Derived.Shelf.Strings.OnBuilder
import Derived.Shelf.Strings.BuilderF
import Derived.Shelf.Strings.Builder2Cap
import Derived.Shelf.Slices.Equal
import Derived.Test.YtnebclliacjjkaaPlain
/- What the functions that the law reaches compute. -/
set_option linter.unusedVariables false
set_option linter.unusedSimpArgs false
namespace Go.T
open Go Go.E Go.Proofs
theorem tabOk : [2, 3, 4, 5, 9, 21, 22, 23, 25, 31, 37, 41, 44, 60, 61, 64, 69, 70, 82, 94].map (TI.of Try.prog) = [⟨.int .i64, 1, 8, [.int .i64 0]⟩, ⟨.int .i64, 1, 8, [.int .i64 0]⟩, ⟨.bool, 1, 1, [.bool false]⟩, ⟨.int .u8, 1, 1, [.int .u8 0]⟩, ⟨.string, 1, 16, [.string ByteArray.empty]⟩, ⟨.int .i32, 1, 4, [.int .i32 0]⟩, ⟨.slice 3, 1, 24, [.slice none 0 0]⟩, ⟨.slice 22, 1, 24, [.slice none 0 0]⟩, ⟨.strct [(0, 22), (1, 23), (2, 3)], 3, 56, [.slice none 0 0, .slice none 0 0, .int .i64 0]⟩, ⟨.slice 9, 1, 24, [.slice none 0 0]⟩, ⟨.strct [(0, 22), (1, 23), (2, 3)], 3, 56, [.slice none 0 0, .slice none 0 0, .int .i64 0]⟩, ⟨.slice 64, 1, 24, [.slice none 0 0]⟩, ⟨.slice 61, 1, 24, [.slice none 0 0]⟩, ⟨.strct [(0, 3), (1, 3), (2, 3), (3, 3)], 4, 32, [.int .i64 0, .int .i64 0, .int .i64 0, .int .i64 0]⟩, ⟨.strct [(0, 3), (1, 3), (2, 3), (3, 3)], 4, 32, [.int .i64 0, .int .i64 0, .int .i64 0, .int .i64 0]⟩, ⟨.strct [(0, 3), (1, 3), (2, 3), (3, 3)], 4, 32, [.int .i64 0, .int .i64 0, .int .i64 0, .int .i64 0]⟩, ⟨.ptr, 1, 8, [.pointer none]⟩, ⟨.slice 5, 1, 24, [.slice none 0 0]⟩, ⟨.ptr, 1, 8, [.pointer none]⟩, ⟨.int .u32, 1, 4, [.int .u32 0]⟩].map some := by kernel_rfl
noncomputable def tab : List (Nat × TI) := [(2, ⟨.int .i64, 1, 8, [.int .i64 0]⟩), (3, ⟨.int .i64, 1, 8, [.int .i64 0]⟩), (4, ⟨.bool, 1, 1, [.bool false]⟩), (5, ⟨.int .u8, 1, 1, [.int .u8 0]⟩), (9, ⟨.string, 1, 16, [.string ByteArray.empty]⟩), (21, ⟨.int .i32, 1, 4, [.int .i32 0]⟩), (22, ⟨.slice 3, 1, 24, [.slice none 0 0]⟩), (23, ⟨.slice 22, 1, 24, [.slice none 0 0]⟩), (25, ⟨.strct [(0, 22), (1, 23), (2, 3)], 3, 56, [.slice none 0 0, .slice none 0 0, .int .i64 0]⟩), (31, ⟨.slice 9, 1, 24, [.slice none 0 0]⟩), (37, ⟨.strct [(0, 22), (1, 23), (2, 3)], 3, 56, [.slice none 0 0, .slice none 0 0, .int .i64 0]⟩), (41, ⟨.slice 64, 1, 24, [.slice none 0 0]⟩), (44, ⟨.slice 61, 1, 24, [.slice none 0 0]⟩), (60, ⟨.strct [(0, 3), (1, 3), (2, 3), (3, 3)], 4, 32, [.int .i64 0, .int .i64 0, .int .i64 0, .int .i64 0]⟩), (61, ⟨.strct [(0, 3), (1, 3), (2, 3), (3, 3)], 4, 32, [.int .i64 0, .int .i64 0, .int .i64 0, .int .i64 0]⟩), (64, ⟨.strct [(0, 3), (1, 3), (2, 3), (3, 3)], 4, 32, [.int .i64 0, .int .i64 0, .int .i64 0, .int .i64 0]⟩), (69, ⟨.ptr, 1, 8, [.pointer none]⟩), (70, ⟨.slice 5, 1, 24, [.slice none 0 0]⟩), (82, ⟨.ptr, 1, 8, [.pointer none]⟩), (94, ⟨.int .u32, 1, 4, [.int .u32 0]⟩)]
noncomputable def Ev : Env := ⟨Try.prog, tabOf tab⟩
theorem evOk : Ev.Ok := Env.ok_of (tab_ok tabOk)
end Go.T
namespace Go.T
open Go Go.E Go.Proofs
set_option maxHeartbeats 8000000 in
theorem s_laws_szStringS {l : List ByteArray} {n : Int} (hl : l.length ≤ 9223372036854775807) (hs : ∀ s ∈ l, s.size ≤ 9223372036854775807) (hn : 0 ≤ n ∧ n ≤ 9223372036854775807) : Go.E.Spec Try.prog 14 [eL false 1 cS l, .val (.int .i64 n)] (fun r _ => ∃ k : Int, r = .val (.int .i64 k) ∧ (0 ≤ k → (l.length : Int) + totalS l ≤ n)) := by
  refine spec_of_awp (E := Ev) evOk Try.func14 (c := _) rfl (by decide) (by simp [Try.ntmps14]) ?_
  rw [Try.ntmps14, entry_mk]
  change awp Ev 2 28 _ _ (mkSt [(0, .v (eL false 1 cS l)), (1, .v (.val (.int .i64 n)))] [(0, eL false 1 cS l), (1, .val (.int .i64 n))])
  refine a_seq fun K1 hK1 => ?_
  refine a_region rfl fun K2 hK2 => ?_
  refine x_assign ?_
  refine r_nil hK2 ?_
  refine hK1 _ _ (Ghost.refl _) ?_
  refine a_seq fun K3 hK3 => ?_
  refine a_region rfl fun K4 hK4 => ?_
  refine x_move ?_
  refine x_move ?_
  refine x_len ?_
  refine x_sub ?_ ?_
  ·
    first
      | exact ⟨by omega, by omega⟩
      | (have q := hs l[i.toNat]! (mem_get! (by omega)); exact ⟨by omega, by omega⟩)
  refine x_assign ?_
  refine r_nil hK4 ?_
  refine hK3 _ _ (Ghost.refl _) ?_
  refine a_seq fun K5 hK5 => ?_
  refine a_seq fun K6 hK6 => ?_
  refine a_region rfl fun K7 hK7 => ?_
  refine x_move ?_
  refine x_bin ?_
  refine r_nil hK7 ?_
  refine hK6 _ _ (Ghost.refl _) ?_
  refine a_condS 11 rfl (by first | exact .beq | exact .bne | exact .dec | exact .not .beq | exact .not .bne | exact .not .dec | exact .not .id | exact .id) (fun h8 => ?_) (fun h8 => ?_)
  · skip
    refine a_seq fun K9 hK9 => ?_
    refine a_region rfl fun K10 hK10 => ?_
    refine x_assign ?_
    refine r_nil hK10 ?_
    refine hK9 _ _ (Ghost.refl _) ?_
    refine a_ret ?_
    refine then_ret ?_
    exact leave_val (.inr rfl) rfl rfl rfl ⟨_, rfl, fun h => by omega⟩
  · skip
    refine a_skip ?_
    refine hK5 _ _ (Ghost.refl _) ?_
    refine a_seq fun K11 hK11 => ?_
    refine a_seq fun K12 hK12 => ?_
    refine a_region rfl fun K13 hK13 => ?_
    refine x_assign ?_
    refine r_nil hK13 ?_
    refine hK12 _ _ (Ghost.refl _) ?_
    refine a_block fun K14 hK14 => ?_
    refine a_loopM (X := Int × Int) (fun (c, i) => ([(1, .v (.val (.int .i64 c))), (5, .v (.val (.int .i64 i)))] : List (Nat × S))) (fun (c, i) => ([] : List (Nat × V))) (fun (c, i) => (0 ≤ i ∧ i ≤ l.length) ∧ (0 ≤ c ∧ c + (l.length : Int) + totalS (takeI l i) = n)) (fun (c, i) => (l.length - i).toNat) [(0, .v _)] [(0, _), (1, _)] (_, _) (Ghost.refl _) ⟨rfl, rfl, rfl, trivial⟩ ⟨rfl, rfl, trivial⟩ (fun ⟨_, _⟩ => rfl) ?_ ?_
    ·
      try dsimp only
      refine ⟨?_, ?_⟩
      ·
        first | omega | rfl | assumption | (simp; done) | (simp_all; done)
      ·
        rw [takeI_zero]; exact ⟨by omega, by show _ + ((0 : Nat) : Int) = _; omega⟩
    ·
      rintro ⟨c, i⟩ hI15 K15 hK15
      dsimp only [List.cons_append, List.nil_append] at hI15 ⊢
      obtain ⟨hi, hc⟩ := hI15
      have hsz := hs
      refine a_seq fun K16 hK16 => ?_
      refine a_seq fun K17 hK17 => ?_
      refine a_region rfl fun K18 hK18 => ?_
      refine x_move ?_
      refine x_move ?_
      refine x_len ?_
      refine x_bin ?_
      refine r_nil hK18 ?_
      refine hK17 _ _ (Ghost.refl _) ?_
      refine a_condS 15 rfl (by first | exact .beq | exact .bne | exact .dec | exact .not .beq | exact .not .bne | exact .not .dec | exact .not .id | exact .id) (fun h19 => ?_) (fun h19 => ?_)
      · skip
        refine a_skip ?_
        refine hK16 _ _ (Ghost.refl _) ?_
        refine a_seq fun K20 hK20 => ?_
        refine a_block fun K21 hK21 => ?_
        refine a_seq fun K22 hK22 => ?_
        refine a_region rfl fun K23 hK23 => ?_
        refine x_move ?_
        refine x_move ?_
        refine x_move ?_
        refine x_indexAddr ?_ ?_
        ·
          exact ⟨by omega, by omega⟩
        first | refine x_ldE ?_ ?_ | refine x_ldN ?_ ?_ | refine x_ldO ?_ ?_ | refine x_ldON ?_ ?_ (hf := fun x => (rfl : cN x = List.map V.val [_, _, _, _]))
        ·
          omega
        refine x_len ?_
        refine x_sub ?_ ?_
        ·
          first
            | exact ⟨by omega, by omega⟩
            | (have q := hs l[i.toNat]! (mem_get! (by omega)); exact ⟨by omega, by omega⟩)
        refine x_assign ?_
        refine r_nil hK23 ?_
        refine hK22 _ _ (ghost_has (ks := [(0, .v _), (1, .v _), (5, .v _)]) (km := [(0, _), (1, _)]) ⟨rfl, rfl, rfl, trivial⟩ ⟨rfl, rfl, trivial⟩ rfl) ?_
        refine a_seq fun K24 hK24 => ?_
        refine a_region rfl fun K25 hK25 => ?_
        refine x_move ?_
        refine x_bin ?_
        refine r_nil hK25 ?_
        refine hK24 _ _ (Ghost.refl _) ?_
        refine a_condS 26 rfl (by first | exact .beq | exact .bne | exact .dec | exact .not .beq | exact .not .bne | exact .not .dec | exact .not .id | exact .id) (fun h26 => ?_) (fun h26 => ?_)
        · skip
          refine a_seq fun K27 hK27 => ?_
          refine a_region rfl fun K28 hK28 => ?_
          refine x_assign ?_
          refine r_nil hK28 ?_
          refine hK27 _ _ (Ghost.refl _) ?_
          refine a_ret ?_
          refine hK21 .ret _ (in_ret ?_)
          refine then_ret ?_
          refine then_ret ?_
          refine hK14 .ret _ (in_ret ?_)
          refine then_ret ?_
          exact leave_val (.inr rfl) rfl rfl rfl ⟨_, rfl, fun h => by omega⟩
        · skip
          refine a_skip ?_
          refine hK21 .normal _ ?_
          refine hK20 _ _ (Ghost.refl _) ?_
          refine a_region rfl fun K29 hK29 => ?_
          refine x_move ?_
          refine x_add ?_ ?_
          ·
            first
              | exact ⟨by omega, by omega⟩
              | (have q := hs l[i.toNat]! (mem_get! (by omega)); exact ⟨by omega, by omega⟩)
          refine x_assign ?_
          refine r_nil hK29 ?_
          refine hK15 (_, _) _ _ _ (Ghost.refl _) ⟨rfl, rfl, rfl, trivial⟩ ⟨rfl, rfl, trivial⟩ ?_ ?_
          ·
            first | omega | (dsimp only; omega)
          ·
            try dsimp only
            refine ⟨?_, ?_⟩
            ·
              first | omega | rfl | assumption | (simp; done) | (simp_all; done)
            ·
              rw [takeI_succ (by omega) (by omega), totalS_append]; exact ⟨by omega, by simp only [totalS, List.map_cons, List.map_nil, List.sum_cons, List.sum_nil] at hc ⊢; omega⟩
      · skip
        refine a_exit ?_
        refine then_exit ?_
        refine then_exit ?_
        refine hK14 (.exit 0) _ (in_exit ?_)
        refine hK11 _ _ (Ghost.refl _) ?_
        refine a_seq fun K30 hK30 => ?_
        refine a_region rfl fun K31 hK31 => ?_
        refine x_move ?_
        refine x_assign ?_
        refine r_nil hK31 ?_
        refine hK30 _ _ (Ghost.refl _) ?_
        refine a_ret ?_
        exact leave_val (.inr rfl) rfl rfl rfl ⟨_, rfl, fun _ => by rw [takeI_all (by omega)] at hc; omega⟩
end Go.T
namespace Go.T
open Go Go.E Go.Proofs
set_option maxHeartbeats 8000000 in
theorem s_laws_toStringS {l : List ByteArray} (hl : l.length ≤ 1073741824) : Go.E.Spec Try.prog 16 [eL false 1 cS l] (fun r _ => r = eL true 1 cS (l)) := by
  refine spec_of_awp (E := Ev) evOk Try.func16 (c := _) rfl (by decide) (by simp [Try.ntmps16]) ?_
  rw [Try.ntmps16, entry_mk]
  change awp Ev 1 22 _ _ (mkSt [(0, .v (eL false 1 cS l))] [(0, eL false 1 cS l)])
  refine a_seq fun K1 hK1 => ?_
  refine a_region rfl fun K2 hK2 => ?_
  refine x_assign ?_
  refine r_nil hK2 ?_
  refine hK1 _ _ (Ghost.refl _) ?_
  refine a_seq fun K3 hK3 => ?_
  refine a_region rfl fun K4 hK4 => ?_
  refine x_move ?_
  refine x_len ?_
  refine x_mk (c := cS) (z := ByteArray.empty) (sz := 1) ?_ ?_ rfl
  ·
    omega
  refine x_assign ?_
  refine r_nil hK4 ?_
  refine hK3 _ _ (Ghost.refl _) ?_
  refine a_seq fun K5 hK5 => ?_
  refine a_seq fun K6 hK6 => ?_
  refine a_region rfl fun K7 hK7 => ?_
  refine x_assign ?_
  refine r_nil hK7 ?_
  refine hK6 _ _ (Ghost.refl _) ?_
  refine a_block fun K8 hK8 => ?_
  refine a_loopM (X := Int × (List ByteArray)) (fun (i, o) => ([(4, .v (.val (.int .i64 i)))] : List (Nat × S))) (fun (i, o) => ([(7, eL true 1 cS o)] : List (Nat × V))) (fun (i, o) => (0 ≤ i ∧ i ≤ l.length) ∧ (o.length = l.length) ∧ (∀ j : Nat, j < i.toNat → o[j]! = l[j]!)) (fun (i, o) => (l.length - i).toNat) [(0, .v _), (3, .ref 7 [])] [(0, _)] (_, _) (Ghost.refl _) ⟨rfl, rfl, rfl, trivial⟩ ⟨rfl, rfl, trivial⟩ (fun ⟨_, _⟩ => rfl) ?_ ?_
  ·
    try dsimp only
    refine ⟨?_, ?_, ?_⟩
    ·
      first | omega | rfl | assumption | (simp; done) | (simp_all; done)
    ·
      first | omega | rfl | assumption | (simp; done) | (simp_all; done)
    ·
      intro j hj; simp at hj
  ·
    rintro ⟨i, o⟩ hI9 K9 hK9
    dsimp only [List.cons_append, List.nil_append] at hI9 ⊢
    obtain ⟨hi, ho, he⟩ := hI9
    refine a_seq fun K10 hK10 => ?_
    refine a_seq fun K11 hK11 => ?_
    refine a_region rfl fun K12 hK12 => ?_
    refine x_move ?_
    refine x_move ?_
    refine x_len ?_
    refine x_bin ?_
    refine r_nil hK12 ?_
    refine hK11 _ _ (Ghost.refl _) ?_
    refine a_condS 11 rfl (by first | exact .beq | exact .bne | exact .dec | exact .not .beq | exact .not .bne | exact .not .dec | exact .not .id | exact .id) (fun h13 => ?_) (fun h13 => ?_)
    · skip
      refine a_skip ?_
      refine hK10 _ _ (Ghost.refl _) ?_
      refine a_seq fun K14 hK14 => ?_
      refine a_block fun K15 hK15 => ?_
      refine a_region rfl fun K16 hK16 => ?_
      refine x_move ?_
      refine x_move ?_
      refine x_move ?_
      refine x_move ?_
      refine x_indexAddr ?_ ?_
      ·
        exact ⟨by omega, by omega⟩
      first | refine x_ldE ?_ ?_ | refine x_ldN ?_ ?_ | refine x_ldO ?_ ?_ | refine x_ldON ?_ ?_ (hf := fun x => (rfl : cN x = List.map V.val [_, _, _, _]))
      ·
        omega
      refine x_indexAddr ?_ ?_
      ·
        exact ⟨by omega, by omega⟩
      first | refine x_stE ?_ ?_ | refine x_stN' ?_ ?_
      ·
        omega
      refine r_nil hK16 ?_
      refine hK15 .normal _ ?_
      refine hK14 _ _ (ghost_has (ks := [(0, .v _), (3, .ref 7 []), (4, .v _)]) (km := [(0, _), (7, _)]) ⟨rfl, rfl, rfl, trivial⟩ ⟨rfl, rfl, trivial⟩ rfl) ?_
      refine a_region rfl fun K17 hK17 => ?_
      refine x_move ?_
      refine x_add ?_ ?_
      ·
        exact ⟨by omega, by omega⟩
      refine x_assign ?_
      refine r_nil hK17 ?_
      refine hK9 (_, _) _ _ _ (Ghost.refl _) ⟨rfl, rfl, rfl, trivial⟩ ⟨rfl, rfl, trivial⟩ ?_ ?_
      ·
        first | omega | (dsimp only; omega)
      ·
        try dsimp only
        refine ⟨?_, ?_, ?_⟩
        ·
          first | omega | rfl | assumption | (simp; done) | (simp_all; done)
        ·
          simpa using ho
        ·
          exact set_upto (by omega) (by omega) he (by omega)
    · skip
      refine a_exit ?_
      refine then_exit ?_
      refine then_exit ?_
      refine hK8 (.exit 0) _ (in_exit ?_)
      refine hK5 _ _ (Ghost.refl _) ?_
      refine a_seq fun K18 hK18 => ?_
      refine a_region rfl fun K19 hK19 => ?_
      refine x_move ?_
      refine x_assign ?_
      refine r_nil hK19 ?_
      refine hK18 _ _ (Ghost.refl _) ?_
      refine a_ret ?_
      refine leave_own (.inr rfl) rfl rfl rfl rfl (free_eL (by intro _; first | rfl | exact freeL_cL (by intro _; rfl))) rfl (congrArg (eL true 1 cS) ?_)
      exact upto_all ho (fun j hj => he j (by omega))
end Go.T
namespace Go.T
open Go Go.E Go.Proofs
set_option maxHeartbeats 8000000 in
theorem s_spec_Join {l : List ByteArray} {y : ByteArray} (hl : l.length ≤ 1048576) (ht : totalS l ≤ 1048576) (hy : y.size ≤ 1048576) : Go.E.Spec Try.prog 15 [eL false 1 cS l, .val (.string y)] (fun r _ => r = .val (.string (joinB l y))) := by
  refine spec_of_awp (E := Ev) evOk Try.func15 (c := _) rfl (by decide) (by simp [Try.ntmps15]) ?_
  rw [Try.ntmps15, entry_mk]
  change awp Ev 2 25 _ _ (mkSt [(0, .v (eL false 1 cS l)), (1, .v (.val (.string y)))] [(0, eL false 1 cS l), (1, .val (.string y))])
  refine a_seq fun K1 hK1 => ?_
  refine a_region rfl fun K2 hK2 => ?_
  refine x_assign ?_
  refine r_nil hK2 ?_
  refine hK1 _ _ (Ghost.refl _) ?_
  refine a_seq fun K3 hK3 => ?_
  refine a_region rfl fun K4 hK4 => ?_
  refine x_assign ?_
  refine r_nil hK4 ?_
  refine hK3 _ _ (Ghost.refl _) ?_
  refine a_seq fun K5 hK5 => ?_
  refine a_seq fun K6 hK6 => ?_
  refine a_region rfl fun K7 hK7 => ?_
  refine x_move ?_
  refine x_len ?_
  refine x_move ?_
  refine r_nil hK7 ?_
  refine hK6 _ _ (Ghost.refl _) ?_
  refine a_block fun K8 hK8 => ?_
  refine a_loopM (X := ByteArray × Int) (fun (c, i) => ([(5, .v (.val (.string c))), (10, .v (.val (.int .i64 i)))] : List (Nat × S))) (fun (c, i) => ([] : List (Nat × V))) (fun (c, i) => (0 ≤ i ∧ i ≤ l.length) ∧ (c = joinB (takeI l i) y)) (fun (c, i) => (l.length - i).toNat) [(1, .v _), (8, .v _), (9, .v _)] [(0, _), (1, _)] (_, _) (Ghost.refl _) ⟨rfl, rfl, rfl, rfl, rfl, trivial⟩ ⟨rfl, rfl, trivial⟩ (fun ⟨_, _⟩ => rfl) ?_ ?_
  ·
    try dsimp only
    refine ⟨?_, ?_⟩
    ·
      first | omega | rfl | assumption | (simp; done) | (simp_all; done)
    ·
      rw [takeI_zero]; rfl
  ·
    rintro ⟨c, i⟩ hI9 K9 hK9
    dsimp only [List.cons_append, List.nil_append] at hI9 ⊢
    obtain ⟨hi, hc⟩ := hI9
    have hb := joinB_bound hl ht hy i; rw [← (by assumption : c = joinB (takeI l i) y)] at hb
    have q3 := takeI_length (l := l) (i := i) (by omega) (by omega)
    refine a_seq fun K10 hK10 => ?_
    refine a_region rfl fun K11 hK11 => ?_
    refine x_bin ?_
    refine r_nil hK11 ?_
    refine hK10 _ _ (Ghost.refl _) ?_
    refine a_seq fun K12 hK12 => ?_
    refine a_condS 11 rfl (by first | exact .beq | exact .bne | exact .dec | exact .not .beq | exact .not .bne | exact .not .dec | exact .not .id | exact .id) (fun h13 => ?_) (fun h13 => ?_)
    · skip
      refine a_skip ?_
      refine hK12 _ _ (Ghost.refl _) ?_
      refine a_seq fun K14 hK14 => ?_
      refine a_block fun K15 hK15 => ?_
      refine a_seq fun K16 hK16 => ?_
      refine a_region rfl fun K17 hK17 => ?_
      refine x_move ?_
      refine x_indexAddr ?_ ?_
      ·
        exact ⟨by omega, by omega⟩
      first | refine x_ldE ?_ ?_ | refine x_ldN ?_ ?_ | refine x_ldO ?_ ?_ | refine x_ldON ?_ ?_ (hf := fun x => (rfl : cN x = List.map V.val [_, _, _, _]))
      ·
        omega
      refine x_assign ?_
      refine x_assign ?_
      refine r_nil hK17 ?_
      refine hK16 _ _ (Ghost.refl _) ?_
      refine a_seq fun K18 hK18 => ?_
      refine a_seq fun K19 hK19 => ?_
      refine a_region rfl fun K20 hK20 => ?_
      refine x_move ?_
      refine x_bin ?_
      refine r_nil hK20 ?_
      refine hK19 _ _ (Ghost.refl _) ?_
      refine a_condS 16 rfl (by first | exact .beq | exact .bne | exact .dec | exact .not .beq | exact .not .bne | exact .not .dec | exact .not .id | exact .id) (fun h21 => ?_) (fun h21 => ?_)
      · skip
        refine a_region rfl fun K22 hK22 => ?_
        refine x_move ?_
        refine x_move ?_
        refine x_cat ?_ ?_
        ·
          have q4 := mem_total (l := l) (mem_get! (i := i.toNat) (by omega))
          first
            | omega
            | (rw [ByteArray.size_append]; omega)
        refine x_assign ?_
        refine r_nil hK22 ?_
        refine hK18 _ _ (ghost_has (ks := [(1, .v _), (5, .v _), (7, .v _), (8, .v _), (9, .v _), (10, .v _)]) (km := [(0, _), (1, _)]) ⟨rfl, rfl, rfl, rfl, rfl, rfl, trivial⟩ ⟨rfl, rfl, trivial⟩ rfl) ?_
        refine a_region rfl fun K23 hK23 => ?_
        refine x_move ?_
        refine x_move ?_
        refine x_cat ?_ ?_
        ·
          have q4 := mem_total (l := l) (mem_get! (i := i.toNat) (by omega))
          first
            | omega
            | (rw [ByteArray.size_append]; omega)
        refine x_assign ?_
        refine r_nil hK23 ?_
        refine hK15 .normal _ ?_
        refine hK14 _ _ (Ghost.refl _) ?_
        refine a_region rfl fun K24 hK24 => ?_
        refine x_add ?_ ?_
        ·
          exact ⟨by omega, by omega⟩
        refine x_move ?_
        refine r_nil hK24 ?_
        refine hK9 (_, _) _ _ _ (Ghost.refl _) ⟨rfl, rfl, rfl, rfl, rfl, trivial⟩ ⟨rfl, rfl, trivial⟩ ?_ ?_
        ·
          first | omega | (dsimp only; omega)
        ·
          try dsimp only
          refine ⟨?_, ?_⟩
          ·
            first | omega | rfl | assumption | (simp; done) | (simp_all; done)
          ·
            rw [takeI_succ (by omega) (by omega), joinB_snoc (fun e => by rw [e] at q3; simp at q3; omega), ← hc]
      · skip
        refine a_skip ?_
        refine hK18 _ _ (Ghost.refl _) ?_
        refine a_region rfl fun K25 hK25 => ?_
        refine x_move ?_
        refine x_move ?_
        refine x_cat ?_ ?_
        ·
          have q4 := mem_total (l := l) (mem_get! (i := i.toNat) (by omega))
          first
            | omega
            | (rw [ByteArray.size_append]; omega)
        refine x_assign ?_
        refine r_nil hK25 ?_
        refine hK15 .normal _ ?_
        refine hK14 _ _ (ghost_has (ks := [(1, .v _), (5, .v _), (8, .v _), (9, .v _), (10, .v _)]) (km := [(0, _), (1, _)]) ⟨rfl, rfl, rfl, rfl, rfl, trivial⟩ ⟨rfl, rfl, trivial⟩ rfl) ?_
        refine a_region rfl fun K26 hK26 => ?_
        refine x_add ?_ ?_
        ·
          exact ⟨by omega, by omega⟩
        refine x_move ?_
        refine r_nil hK26 ?_
        refine hK9 (_, _) _ _ _ (Ghost.refl _) ⟨rfl, rfl, rfl, rfl, rfl, trivial⟩ ⟨rfl, rfl, trivial⟩ ?_ ?_
        ·
          first | omega | (dsimp only; omega)
        ·
          try dsimp only
          refine ⟨?_, ?_⟩
          ·
            first | omega | rfl | assumption | (simp; done) | (simp_all; done)
          ·
            obtain rfl : i = 0 := by omega
            rw [takeI_succ (by omega) (by omega), hc, takeI_zero, List.nil_append, joinB_one, joinB_nil]; exact zeros_zero _
    · skip
      refine a_exit ?_
      refine then_exit ?_
      refine then_exit ?_
      refine hK8 (.exit 0) _ (in_exit ?_)
      refine hK5 _ _ (Ghost.refl _) ?_
      refine a_seq fun K27 hK27 => ?_
      refine a_region rfl fun K28 hK28 => ?_
      refine x_move ?_
      refine x_assign ?_
      refine r_nil hK28 ?_
      refine hK27 _ _ (Ghost.refl _) ?_
      refine a_ret ?_
      refine leave_val (.inr rfl) rfl rfl rfl (congrArg (fun z => V.val (.string z)) ?_)
      rw [takeI_all (by omega)] at hc; exact hc
end Go.T
namespace Go.Proofs
open Go.Shelf
def Try.lays156_ren : Go.Shelf.Ren := ⟨fun | 156 => 40 | 165 => 61 | 166 => 62 | 169 => 63 | 240 => 69 | 241 => 70 | 276 => 73 | 277 => 74 | n => n, fun | 31 => 31 | 9 => 9 | 3 => 3 | 4 => 4 | 0 => 0 | 20 => 20 | 72 => 72 | 76 => 76 | 70 => 69 | 37 => 70 | 75 => 75 | 127 => 82 | 164 => 85 | 5 => 5 | 80 => 78 | n => n, fun | n => n⟩
theorem Try.lays156 : Go.Proofs.Lays.n156 Try.prog Try.lays156_ren := {
  mixed := by kernel_rfl
  f156 := Try.func40.trans (congrArg some (by kernel_rfl))
  f165 := Try.func61.trans (congrArg some (by kernel_rfl))
  f166 := Try.func62.trans (congrArg some (by kernel_rfl))
  f169 := Try.func63.trans (congrArg some (by kernel_rfl))
  f240 := Try.func69.trans (congrArg some (by kernel_rfl))
  f241 := Try.func70.trans (congrArg some (by kernel_rfl))
  f276 := Try.func73.trans (congrArg some (by kernel_rfl))
  f277 := Try.func74.trans (congrArg some (by kernel_rfl))
  t0 := Try.underlying0
  a0 := Try.isAgg0
  z0 := Try.sizeOf0
  v0 := Try.zeroValue0
  t3 := Try.underlying3
  a3 := Try.isAgg3
  z3 := Try.sizeOf3
  v3 := Try.zeroValue3
  t4 := Try.underlying4
  a4 := Try.isAgg4
  z4 := Try.sizeOf4
  v4 := Try.zeroValue4
  t9 := Try.underlying9
  a9 := Try.isAgg9
  z9 := Try.sizeOf9
  v9 := Try.zeroValue9
  t20 := Try.underlying20
  a20 := Try.isAgg20
  z20 := Try.sizeOf20
  v20 := Try.zeroValue20
  t31 := Try.underlying31
  a31 := Try.isAgg31
  z31 := Try.sizeOf31
  v31 := Try.zeroValue31
  t37 := Try.underlying70
  a37 := Try.isAgg70
  z37 := Try.sizeOf70
  v37 := Try.zeroValue70
  t70 := Try.underlying69
  a70 := Try.isAgg69
  z70 := Try.sizeOf69
  v70 := Try.zeroValue69
  t72 := Try.underlying72
  a72 := Try.isAgg72
  z72 := Try.sizeOf72
  v72 := Try.zeroValue72
  t75 := Try.underlying75
  a75 := Try.isAgg75
  z75 := Try.sizeOf75
  v75 := Try.zeroValue75
  t76 := Try.underlying76
  a76 := Try.isAgg76
  z76 := Try.sizeOf76
  v76 := Try.zeroValue76
  t127 := Try.underlying82
  a127 := Try.isAgg82
  z127 := Try.sizeOf82
  v127 := Try.zeroValue82
  t164 := Try.underlying85
  a164 := Try.isAgg85
  z164 := Try.sizeOf85
  v164 := Try.zeroValue85 }
theorem Try.Builder_Extra_156 : Builder.Extra Try.prog Try.lays156_ren := {
  sizeBuilder := by kernel_rfl
  liesBuilder := by kernel_rfl
  t5 := Try.underlying5
  a5 := Try.isAgg5
  z5 := Try.sizeOf5
  v5 := Try.zeroValue5
  infoByte := by kernel_rfl
  cellsByte := by kernel_rfl
  sizeByte := by kernel_rfl
  neB5 := by decide }
open Go.RowKit in
/-- strings.Join: "Join concatenates the elements of its first argument to create a single string. The separator string sep is placed between elements in the resulting string.": HOWEVER MANY ELEMENTS. Below the heap's end the world is as it was. (LAID: no walk: one application.) -/
theorem Try.strings_Join (bk o c : Nat) (xs : List ByteArray) (sep : ByteArray) (w : World) (hcells : ∀ (j : Nat) x, xs[j]? = some x → w.cell? ⟨bk, o + j, none⟩ = some (.string x)) (hbk : bk < w.heap.size) (hN : xs.length ≤ 140737488355328) (hcap : xs.length ≤ c) (hlen : (Lib.join (xs.map (·.data.toList)) sep.data.toList).length ≤ 140737488355328) :
    Calls Try.prog 40 #[.slice (some ⟨bk, o, none⟩) xs.length c, .string sep] w fun e w' => e = .returned (.string ⟨(Lib.join (xs.map (·.data.toList)) sep.data.toList).toArray⟩) ∧ Below w.heap.size w w' := Any.strings_Join Try.lays156 Try.Builder_Extra_156 bk o c xs sep w hcells hbk hN hcap hlen
end Go.Proofs
namespace Go.T
open Go Go.E Go.Proofs
theorem s_strings_Join {l : List ByteArray} {y : ByteArray} (hl : l.length ≤ 1048576) (ht : totalS l ≤ 1048576) (hy : y.size ≤ 1048576) : Go.E.Spec Try.prog 40 [eL false 1 cS l, .val (.string y)] (fun r _ => r = .val (.string (joinB l y))) := by
  refine spec_of_calls ⟨Try.f40, Try.func40, by kernel_rfl, by kernel_rfl⟩ rfl fun ro w vs he hok hr => ?_
  rcases vs with _ | ⟨v0, _ | ⟨v1, _ | ⟨v2, vs⟩⟩⟩
  · simp [V.eraseL] at he
  · simp [V.eraseL] at he
  · simp only [V.eraseL, List.cons.injEq, and_true] at he
    obtain ⟨h0, h1⟩ := he
    cases v0 with
    | sl g o sz n cs =>
      simp only [eL, V.erase, V.sl.injEq, true_and] at h0
      obtain ⟨rfl, rfl, rfl, hcs⟩ := h0
      have hcs2 : cs = (l.map fun s => Value.string s).map V.val := vals_erase _ _ (by rw [hcs, flat_one (c := cS) (f := fun s => V.val (.string s)) (fun _ => rfl), List.map_map]; rfl)
      subst hcs2
      cases v1 with
      | val x =>
        simp only [V.erase, V.val.injEq] at h1
        subst h1
        obtain ⟨hk, _⟩ := hok
        simp only [V.Ok, Bool.false_eq_true, if_false] at hk
        obtain ⟨hk1, hk2, hk3, ⟨hk4, _⟩, _⟩ := hk
        show Calls Try.prog 40 #[.slice g.addr l.length g.cap, .string y] w _
        rcases hk4 with hk4 | ⟨a, ha, hra, hs, hrun⟩
        · have : l = [] := by simpa using hk4
          subst this
          exact (Any.strings_Join_none Try.lays156 Try.Builder_Extra_156 g.addr g.cap y w).mono fun e w' ⟨h1, h2⟩ => ⟨h1, h2 ▸ Go.RowKit.Below.refl _ _⟩
        · have ea : a = ⟨a.block, a.off, none⟩ := by cases a; simp at hs; rw [hs]
          rw [ha, ea]
          have hj := joinB_size _ l y rfl
          have hm : l.length * y.size ≤ 1048576 * 1048576 := Nat.mul_le_mul hl hy
          refine Try.strings_Join a.block a.off g.cap l y w (fun j x hx => ?_) (hr _ hra) (by omega) hk2 ?_
          · have hjl : j < l.length := (List.getElem?_eq_some_iff.1 hx).1
            have := hrun j (by simpa using hjl)
            rw [this]
            simp only [List.map_map, List.getElem?_map, hx]; rfl
          · have : (Lib.join (l.map fun s => s.data.toList) y.data.toList).length = (joinB l y).size := by
              show _ = (Lib.join (l.map fun s => s.data.toList) y.data.toList).toArray.size
              simp
            rw [this]; omega
      | _ => simp [V.erase] at h1
    | _ => simp [eL, V.erase] at h0
  · simp [V.eraseL] at he
end Go.T
namespace Go.T
open Go Go.E Go.Proofs
set_option maxHeartbeats 8000000 in
theorem s_impl_Join {l : List ByteArray} {y : ByteArray} (hl : l.length ≤ 1048576) (ht : totalS l ≤ 1048576) (hy : y.size ≤ 1048576) : Go.E.Spec Try.prog 17 [eL false 1 cS l, .val (.string y)] (fun r _ => r = .val (.string (joinB l y))) := by
  refine spec_of_awp (E := Ev) evOk Try.func17 (c := _) rfl (by decide) (by simp [Try.ntmps17]) ?_
  rw [Try.ntmps17, entry_mk]
  change awp Ev 2 8 _ _ (mkSt [(0, .v (eL false 1 cS l)), (1, .v (.val (.string y)))] [(0, eL false 1 cS l), (1, .val (.string y))])
  refine a_seq fun K1 hK1 => ?_
  refine a_region rfl fun K2 hK2 => ?_
  refine x_assign ?_
  refine r_nil hK2 ?_
  refine hK1 _ _ (Ghost.refl _) ?_
  refine a_seq fun K3 hK3 => ?_
  refine a_region rfl fun K4 hK4 => ?_
  refine x_move ?_
  refine x_move ?_
  refine x_call (s_strings_Join ?_ ?_ ?_) ?_ (hl := by first | rfl | (repeat (first | exact lendL_nil | refine lendL_cons (by first | rfl | exact lend_ref rfl (ro_eL (by intro _; first | rfl | exact roL_cL (by intro _; rfl))) | exact lend_refp rfl (ro_eL (by intro _; first | rfl | exact roL_cL (by intro _; rfl))) | exact lend_agg (by repeat (first | exact lendL_nil | refine lendL_cons (by first | rfl | exact lend_ref rfl (ro_eL (by intro _; first | rfl | exact roL_cL (by intro _; rfl))) | exact lend_refp rfl (ro_eL (by intro _; first | rfl | exact roL_cL (by intro _; rfl)))) ?_))) ?_)))
  ·
    first | omega | rfl | assumption | (simp; done) | (simp_all; done)
  ·
    first | omega | rfl | assumption | (simp; done) | (simp_all; done)
  ·
    first | omega | rfl | assumption | (simp; done) | (simp_all; done)
  rintro _ _ rfl
  refine x_assign ?_
  refine r_nil hK4 ?_
  refine hK3 _ _ (Ghost.refl _) ?_
  refine a_ret ?_
  refine leave_val (.inr rfl) rfl rfl rfl (congrArg (fun z => V.val (.string z)) ?_)
  first | rfl | omega | assumption | (simp; done) | (simp_all; done)
end Go.T
namespace Go.T
open Go Go.E Go.Proofs
set_option maxHeartbeats 8000000 in
theorem s_laws_eqStringS {l : List ByteArray} (hl : l.length ≤ 9223372036854775807) : Go.E.Spec Try.prog 18 [eL false 1 cS l, eL false 1 cS l] (fun r _ => r = .val (.bool (true))) := by
  refine spec_of_awp (E := Ev) evOk Try.func18 (c := _) rfl (by decide) (by simp [Try.ntmps18]) ?_
  rw [Try.ntmps18, entry_mk]
  change awp Ev 2 26 _ _ (mkSt [(0, .v (eL false 1 cS l)), (1, .v (eL false 1 cS l))] [(0, eL false 1 cS l), (1, eL false 1 cS l)])
  refine a_seq fun K1 hK1 => ?_
  refine a_region rfl fun K2 hK2 => ?_
  refine x_assign ?_
  refine r_nil hK2 ?_
  refine hK1 _ _ (Ghost.refl _) ?_
  refine a_seq fun K3 hK3 => ?_
  refine a_seq fun K4 hK4 => ?_
  refine a_region rfl fun K5 hK5 => ?_
  refine x_move ?_
  refine x_len ?_
  refine x_move ?_
  refine x_len ?_
  refine x_bin ?_
  refine r_nil hK5 ?_
  refine hK4 _ _ (Ghost.refl _) ?_
  refine a_condS 10 rfl (by first | exact .beq | exact .bne | exact .dec | exact .not .beq | exact .not .bne | exact .not .dec | exact .not .id | exact .id) (fun h6 => ?_) (fun h6 => ?_)
  · skip
    refine a_seq fun K7 hK7 => ?_
    refine a_region rfl fun K8 hK8 => ?_
    refine x_assign ?_
    refine r_nil hK8 ?_
    refine hK7 _ _ (Ghost.refl _) ?_
    refine a_ret ?_
    refine then_ret ?_
    refine leave_val (.inr rfl) rfl rfl rfl (congrArg (fun z => V.val (.bool z)) ?_)
    first | rfl | omega | assumption | (simp; done) | (simp_all; done)
  · skip
    refine a_skip ?_
    refine hK3 _ _ (Ghost.refl _) ?_
    refine a_seq fun K9 hK9 => ?_
    refine a_seq fun K10 hK10 => ?_
    refine a_region rfl fun K11 hK11 => ?_
    refine x_assign ?_
    refine r_nil hK11 ?_
    refine hK10 _ _ (Ghost.refl _) ?_
    refine a_block fun K12 hK12 => ?_
    refine a_loopM (X := Int) (fun i => ([(5, .v (.val (.int .i64 i)))] : List (Nat × S))) (fun i => ([] : List (Nat × V))) (fun i => (0 ≤ i ∧ i ≤ l.length)) (fun i => (l.length - i).toNat) [(0, .v _), (1, .v _)] [(0, _), (1, _)] _ (Ghost.refl _) ⟨rfl, rfl, rfl, trivial⟩ ⟨rfl, rfl, trivial⟩ (fun i => rfl) ?_ ?_
    ·
      try dsimp only
      ·
        first | omega | rfl | assumption | (simp; done) | (simp_all; done)
    ·
      rintro i hI13 K13 hK13
      dsimp only [List.cons_append, List.nil_append] at hI13 ⊢
      have hi := hI13
      refine a_seq fun K14 hK14 => ?_
      refine a_seq fun K15 hK15 => ?_
      refine a_region rfl fun K16 hK16 => ?_
      refine x_move ?_
      refine x_move ?_
      refine x_len ?_
      refine x_bin ?_
      refine r_nil hK16 ?_
      refine hK15 _ _ (Ghost.refl _) ?_
      refine a_condS 14 rfl (by first | exact .beq | exact .bne | exact .dec | exact .not .beq | exact .not .bne | exact .not .dec | exact .not .id | exact .id) (fun h17 => ?_) (fun h17 => ?_)
      · skip
        refine a_skip ?_
        refine hK14 _ _ (Ghost.refl _) ?_
        refine a_seq fun K18 hK18 => ?_
        refine a_block fun K19 hK19 => ?_
        refine a_seq fun K20 hK20 => ?_
        refine a_drawnG (ms := [255, 112, 48, 0, 0, 7, 3, 0, 0]) (by decide +kernel) (by decide +kernel) rfl (by decide +kernel) fun K21 hK21 => ?_
        refine x_move ?_
        refine x_move ?_
        refine x_indexAddr ?_ ?_
        ·
          exact ⟨by omega, by omega⟩
        first | refine x_ldE ?_ ?_ | refine x_ldN ?_ ?_ | refine x_ldO ?_ ?_ | refine x_ldON ?_ ?_ (hf := fun x => (rfl : cN x = List.map V.val [_, _, _, _]))
        ·
          omega
        refine x_move ?_
        refine x_move ?_
        refine x_indexAddr ?_ ?_
        ·
          exact ⟨by omega, by omega⟩
        first | refine x_ldE ?_ ?_ | refine x_ldN ?_ ?_ | refine x_ldO ?_ ?_ | refine x_ldON ?_ ?_ (hf := fun x => (rfl : cN x = List.map V.val [_, _, _, _]))
        ·
          omega
        refine x_bin ?_
        refine r_nil hK21 ?_
        refine hK20 _ _ (ghost_has (ks := [(0, .v _), (1, .v _), (5, .v _), (25, .v _)]) (km := [(0, _), (1, _)]) ⟨rfl, rfl, rfl, rfl, trivial⟩ ⟨rfl, rfl, trivial⟩ rfl) ?_
        refine a_condS 25 rfl (by first | exact .beq | exact .bne | exact .dec | exact .not .beq | exact .not .bne | exact .not .dec | exact .not .id | exact .id) (fun h22 => ?_) (fun h22 => ?_)
        · skip
          refine a_seq fun K23 hK23 => ?_
          refine a_region rfl fun K24 hK24 => ?_
          refine x_assign ?_
          refine r_nil hK24 ?_
          refine hK23 _ _ (Ghost.refl _) ?_
          refine a_ret ?_
          refine hK19 .ret _ (in_ret ?_)
          refine then_ret ?_
          refine then_ret ?_
          refine hK12 .ret _ (in_ret ?_)
          refine then_ret ?_
          refine leave_val (.inr rfl) rfl rfl rfl (congrArg (fun z => V.val (.bool z)) ?_)
          first | rfl | omega | assumption | (simp; done) | (simp_all; done)
        · skip
          refine a_skip ?_
          refine hK19 .normal _ ?_
          refine hK18 _ _ (Ghost.refl _) ?_
          refine a_region rfl fun K25 hK25 => ?_
          refine x_move ?_
          refine x_add ?_ ?_
          ·
            exact ⟨by omega, by omega⟩
          refine x_assign ?_
          refine r_nil hK25 ?_
          refine hK13 _ _ _ _ (Ghost.refl _) ⟨rfl, rfl, rfl, trivial⟩ ⟨rfl, rfl, trivial⟩ ?_ ?_
          ·
            first | omega | (dsimp only; omega)
          ·
            try dsimp only
            ·
              first | omega | rfl | assumption | (simp; done) | (simp_all; done)
      · skip
        refine a_exit ?_
        refine then_exit ?_
        refine then_exit ?_
        refine hK12 (.exit 0) _ (in_exit ?_)
        refine hK9 _ _ (Ghost.refl _) ?_
        refine a_seq fun K26 hK26 => ?_
        refine a_region rfl fun K27 hK27 => ?_
        refine x_assign ?_
        refine r_nil hK27 ?_
        refine hK26 _ _ (Ghost.refl _) ?_
        refine a_ret ?_
        refine leave_val (.inr rfl) rfl rfl rfl (congrArg (fun z => V.val (.bool z)) ?_)
        first | rfl | omega | assumption | (simp; done) | (simp_all; done)
end Go.T
namespace Go.T
open Go Go.E Go.Proofs
set_option maxHeartbeats 8000000 in
theorem s_laws_FnExactJoin {l : List ByteArray} {y : ByteArray} (hl : l.length ≤ 9223372036854775807) (hs : ∀ s ∈ l, s.size ≤ 9223372036854775807) : Go.E.Spec Try.prog 4 [eL false 1 cS l, .val (.string y)] (fun r _ => r = .val (.bool (true))) := by
  refine spec_of_awp (E := Ev) evOk Try.func4 (c := _) rfl (by decide) (by simp [Try.ntmps4]) ?_
  rw [Try.ntmps4, entry_mk]
  change awp Ev 2 34 _ _ (mkSt [(0, .v (eL false 1 cS l)), (1, .v (.val (.string y)))] [(0, eL false 1 cS l), (1, .val (.string y))])
  refine a_seq fun K1 hK1 => ?_
  refine a_region rfl fun K2 hK2 => ?_
  refine x_assign ?_
  refine r_nil hK2 ?_
  refine hK1 _ _ (Ghost.refl _) ?_
  refine a_seq fun K3 hK3 => ?_
  refine a_seq fun K4 hK4 => ?_
  refine a_region rfl fun K5 hK5 => ?_
  refine x_move ?_
  refine x_len ?_
  refine x_bin ?_
  refine r_nil hK5 ?_
  refine hK4 _ _ (Ghost.refl _) ?_
  refine a_condS 11 rfl (by first | exact .beq | exact .bne | exact .dec | exact .not .beq | exact .not .bne | exact .not .dec | exact .not .id | exact .id) (fun h6 => ?_) (fun h6 => ?_)
  · skip
    refine a_seq fun K7 hK7 => ?_
    refine a_region rfl fun K8 hK8 => ?_
    refine x_assign ?_
    refine r_nil hK8 ?_
    refine hK7 _ _ (Ghost.refl _) ?_
    refine a_ret ?_
    refine then_ret ?_
    refine leave_val (.inr rfl) rfl rfl rfl (congrArg (fun z => V.val (.bool z)) ?_)
    first | rfl | omega | assumption | (simp; done) | (simp_all; done)
  · skip
    refine a_skip ?_
    refine hK3 _ _ (Ghost.refl _) ?_
    refine a_seq fun K9 hK9 => ?_
    refine a_region rfl fun K10 hK10 => ?_
    refine x_assign ?_
    refine r_nil hK10 ?_
    refine hK9 _ _ (Ghost.refl _) ?_
    refine a_seq fun K11 hK11 => ?_
    refine a_region rfl fun K12 hK12 => ?_
    refine x_move ?_
    refine x_move ?_
    refine x_call (s_laws_szStringS ?_ ?_ ?_) ?_ (hl := by first | rfl | (repeat (first | exact lendL_nil | refine lendL_cons (by first | rfl | exact lend_ref rfl (ro_eL (by intro _; first | rfl | exact roL_cL (by intro _; rfl))) | exact lend_refp rfl (ro_eL (by intro _; first | rfl | exact roL_cL (by intro _; rfl))) | exact lend_agg (by repeat (first | exact lendL_nil | refine lendL_cons (by first | rfl | exact lend_ref rfl (ro_eL (by intro _; first | rfl | exact roL_cL (by intro _; rfl))) | exact lend_refp rfl (ro_eL (by intro _; first | rfl | exact roL_cL (by intro _; rfl)))) ?_))) ?_)))
    ·
      first | omega | exact hs
    ·
      first | omega | exact hs
    ·
      first | omega | exact hs
    rintro _ _ ⟨k, rfl, hk⟩
    refine x_assign ?_
    refine r_nil hK12 ?_
    refine hK11 _ _ (Ghost.refl _) ?_
    refine a_seq fun K13 hK13 => ?_
    refine a_seq fun K14 hK14 => ?_
    refine a_region rfl fun K15 hK15 => ?_
    refine x_move ?_
    refine x_bin ?_
    refine r_nil hK15 ?_
    refine hK14 _ _ (ghost_has (ks := [(0, .v _), (1, .v _), (16, .v _)]) (km := [(0, _), (1, _)]) ⟨rfl, rfl, rfl, trivial⟩ ⟨rfl, rfl, trivial⟩ rfl) ?_
    refine a_condS 16 rfl (by first | exact .beq | exact .bne | exact .dec | exact .not .beq | exact .not .bne | exact .not .dec | exact .not .id | exact .id) (fun h16 => ?_) (fun h16 => ?_)
    · skip
      refine a_seq fun K17 hK17 => ?_
      refine a_region rfl fun K18 hK18 => ?_
      refine x_assign ?_
      refine r_nil hK18 ?_
      refine hK17 _ _ (Ghost.refl _) ?_
      refine a_ret ?_
      refine then_ret ?_
      refine leave_val (.inr rfl) rfl rfl rfl (congrArg (fun z => V.val (.bool z)) ?_)
      first | rfl | omega | assumption | (simp; done) | (simp_all; done)
    · skip
      refine a_skip ?_
      refine hK13 _ _ (Ghost.refl _) ?_
      refine a_seq fun K19 hK19 => ?_
      refine a_region rfl fun K20 hK20 => ?_
      refine x_move ?_
      refine x_call (s_laws_toStringS ?_) ?_ (hl := by first | rfl | (repeat (first | exact lendL_nil | refine lendL_cons (by first | rfl | exact lend_ref rfl (ro_eL (by intro _; first | rfl | exact roL_cL (by intro _; rfl))) | exact lend_refp rfl (ro_eL (by intro _; first | rfl | exact roL_cL (by intro _; rfl))) | exact lend_agg (by repeat (first | exact lendL_nil | refine lendL_cons (by first | rfl | exact lend_ref rfl (ro_eL (by intro _; first | rfl | exact roL_cL (by intro _; rfl))) | exact lend_refp rfl (ro_eL (by intro _; first | rfl | exact roL_cL (by intro _; rfl)))) ?_))) ?_)))
      ·
        first | omega | rfl | assumption | (simp; done) | (simp_all; done)
      rintro _ _ rfl
      refine x_move ?_
      refine x_call (s_spec_Join ?_ ?_ ?_) ?_ (hl := by first | rfl | (repeat (first | exact lendL_nil | refine lendL_cons (by first | rfl | exact lend_ref rfl (ro_eL (by intro _; first | rfl | exact roL_cL (by intro _; rfl))) | exact lend_refp rfl (ro_eL (by intro _; first | rfl | exact roL_cL (by intro _; rfl))) | exact lend_agg (by repeat (first | exact lendL_nil | refine lendL_cons (by first | rfl | exact lend_ref rfl (ro_eL (by intro _; first | rfl | exact roL_cL (by intro _; rfl))) | exact lend_refp rfl (ro_eL (by intro _; first | rfl | exact roL_cL (by intro _; rfl)))) ?_))) ?_)))
      ·
        first | omega | rfl | assumption | (simp; done) | (simp_all; done)
      ·
        first | omega | rfl | assumption | (simp; done) | (simp_all; done)
      ·
        first | omega | rfl | assumption | (simp; done) | (simp_all; done)
      rintro _ _ rfl
      refine x_assign ?_
      refine r_nil hK20 ?_
      refine hK19 _ _ (Ghost.refl _) ?_
      refine a_seq fun K21 hK21 => ?_
      refine a_region rfl fun K22 hK22 => ?_
      refine x_move ?_
      refine x_call (s_laws_toStringS ?_) ?_ (hl := by first | rfl | (repeat (first | exact lendL_nil | refine lendL_cons (by first | rfl | exact lend_ref rfl (ro_eL (by intro _; first | rfl | exact roL_cL (by intro _; rfl))) | exact lend_refp rfl (ro_eL (by intro _; first | rfl | exact roL_cL (by intro _; rfl))) | exact lend_agg (by repeat (first | exact lendL_nil | refine lendL_cons (by first | rfl | exact lend_ref rfl (ro_eL (by intro _; first | rfl | exact roL_cL (by intro _; rfl))) | exact lend_refp rfl (ro_eL (by intro _; first | rfl | exact roL_cL (by intro _; rfl)))) ?_))) ?_)))
      ·
        first | omega | rfl | assumption | (simp; done) | (simp_all; done)
      rintro _ _ rfl
      refine x_assign ?_
      refine r_nil hK22 ?_
      refine hK21 _ _ (ghost_has (ks := [(0, .v _), (1, .v _), (6, .v _), (7, .ref 22 [])]) (km := [(0, _), (1, _), (20, _), (22, _)]) ⟨rfl, rfl, rfl, rfl, trivial⟩ ⟨rfl, rfl, rfl, rfl, trivial⟩ rfl) ?_
      refine a_seq fun K23 hK23 => ?_
      refine a_region rfl fun K24 hK24 => ?_
      refine x_move ?_
      refine x_move ?_
      refine x_call (s_impl_Join ?_ ?_ ?_) ?_ (hl := by first | rfl | (repeat (first | exact lendL_nil | refine lendL_cons (by first | rfl | exact lend_ref rfl (ro_eL (by intro _; first | rfl | exact roL_cL (by intro _; rfl))) | exact lend_refp rfl (ro_eL (by intro _; first | rfl | exact roL_cL (by intro _; rfl))) | exact lend_agg (by repeat (first | exact lendL_nil | refine lendL_cons (by first | rfl | exact lend_ref rfl (ro_eL (by intro _; first | rfl | exact roL_cL (by intro _; rfl))) | exact lend_refp rfl (ro_eL (by intro _; first | rfl | exact roL_cL (by intro _; rfl)))) ?_))) ?_)))
      ·
        first | omega | rfl | assumption | (simp; done) | (simp_all; done)
      ·
        first | omega | rfl | assumption | (simp; done) | (simp_all; done)
      ·
        first | omega | rfl | assumption | (simp; done) | (simp_all; done)
      rintro _ _ rfl
      refine x_assign ?_
      refine r_nil hK24 ?_
      refine hK23 _ _ (Ghost.refl _) ?_
      refine a_seq fun K25 hK25 => ?_
      refine a_seq fun K26 hK26 => ?_
      refine a_region rfl fun K27 hK27 => ?_
      refine x_move ?_
      refine x_move ?_
      refine x_bin ?_
      refine r_nil hK27 ?_
      refine hK26 _ _ (Ghost.refl _) ?_
      refine a_condS 28 rfl (by first | exact .beq | exact .bne | exact .dec | exact .not .beq | exact .not .bne | exact .not .dec | exact .not .id | exact .id) (fun h28 => ?_) (fun h28 => ?_)
      · skip
        refine a_seq fun K29 hK29 => ?_
        refine a_region rfl fun K30 hK30 => ?_
        refine x_assign ?_
        refine r_nil hK30 ?_
        refine hK29 _ _ (Ghost.refl _) ?_
        refine a_ret ?_
        refine then_ret ?_
        refine leave_val (.inr rfl) rfl rfl rfl (congrArg (fun z => V.val (.bool z)) ?_)
        first | rfl | omega | assumption | (simp; done) | (simp_all; done)
      · skip
        refine a_skip ?_
        refine hK25 _ _ (Ghost.refl _) ?_
        refine a_seq fun K31 hK31 => ?_
        refine a_seq fun K32 hK32 => ?_
        refine a_region rfl fun K33 hK33 => ?_
        refine x_move ?_
        refine x_move ?_
        refine x_call (s_laws_toStringS ?_) ?_ (hl := by first | rfl | (repeat (first | exact lendL_nil | refine lendL_cons (by first | rfl | exact lend_ref rfl (ro_eL (by intro _; first | rfl | exact roL_cL (by intro _; rfl))) | exact lend_refp rfl (ro_eL (by intro _; first | rfl | exact roL_cL (by intro _; rfl))) | exact lend_agg (by repeat (first | exact lendL_nil | refine lendL_cons (by first | rfl | exact lend_ref rfl (ro_eL (by intro _; first | rfl | exact roL_cL (by intro _; rfl))) | exact lend_refp rfl (ro_eL (by intro _; first | rfl | exact roL_cL (by intro _; rfl)))) ?_))) ?_)))
        ·
          first | omega | rfl | assumption | (simp; done) | (simp_all; done)
        rintro _ _ rfl
        refine x_call (s_laws_eqStringS ?_) ?_ (hl := by first | rfl | (repeat (first | exact lendL_nil | refine lendL_cons (by first | rfl | exact lend_ref rfl (ro_eL (by intro _; first | rfl | exact roL_cL (by intro _; rfl))) | exact lend_refp rfl (ro_eL (by intro _; first | rfl | exact roL_cL (by intro _; rfl))) | exact lend_agg (by repeat (first | exact lendL_nil | refine lendL_cons (by first | rfl | exact lend_ref rfl (ro_eL (by intro _; first | rfl | exact roL_cL (by intro _; rfl))) | exact lend_refp rfl (ro_eL (by intro _; first | rfl | exact roL_cL (by intro _; rfl)))) ?_))) ?_)))
        ·
          first | omega | rfl | assumption | (simp; done) | (simp_all; done)
        rintro _ _ rfl
        refine x_un ?_
        refine r_nil hK33 ?_
        refine hK32 _ _ (ghost_has (ks := [(33, .v _)]) (km := [(0, _), (1, _)]) ⟨rfl, trivial⟩ ⟨rfl, rfl, trivial⟩ rfl) ?_
        refine a_condS 33 rfl (by first | exact .beq | exact .bne | exact .dec | exact .not .beq | exact .not .bne | exact .not .dec | exact .not .id | exact .id) (fun h34 => ?_) (fun h34 => ?_)
        · skip
          refine a_seq fun K35 hK35 => ?_
          refine a_region rfl fun K36 hK36 => ?_
          refine x_assign ?_
          refine r_nil hK36 ?_
          refine hK35 _ _ (Ghost.refl _) ?_
          refine a_ret ?_
          refine then_ret ?_
          refine leave_val (.inr rfl) rfl rfl rfl (congrArg (fun z => V.val (.bool z)) ?_)
          first | rfl | omega | assumption | (simp; done) | (simp_all; done)
        · skip
          refine a_skip ?_
          refine hK31 _ _ (Ghost.refl _) ?_
          refine a_seq fun K37 hK37 => ?_
          refine a_region rfl fun K38 hK38 => ?_
          refine x_assign ?_
          refine r_nil hK38 ?_
          refine hK37 _ _ (Ghost.refl _) ?_
          refine a_ret ?_
          refine leave_val (.inr rfl) rfl rfl rfl (congrArg (fun z => V.val (.bool z)) ?_)
          first | rfl | omega | assumption | (simp; done) | (simp_all; done)
end Go.T
