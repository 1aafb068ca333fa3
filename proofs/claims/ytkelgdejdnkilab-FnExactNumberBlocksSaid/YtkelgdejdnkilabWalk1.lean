import Derived.Test.YtkelgdejdnkilabChecked
import Derived.Test.YtkelgdejdnkilabPlain
/- What the functions that the law reaches compute. -/
set_option linter.unusedVariables false
set_option linter.unusedSimpArgs false
namespace Go.T
open Go Go.E Go.Proofs
theorem tabOk : [2, 3, 4, 5, 9, 21, 22, 23, 24, 26, 28, 34, 43, 58, 60, 69, 74, 79, 80, 101, 104, 117].map (TI.of Try.prog) = [⟨.int .i64, 1, 8, [.int .i64 0]⟩, ⟨.int .i64, 1, 8, [.int .i64 0]⟩, ⟨.bool, 1, 1, [.bool false]⟩, ⟨.int .u8, 1, 1, [.int .u8 0]⟩, ⟨.string, 1, 16, [.string ByteArray.empty]⟩, ⟨.int .i32, 1, 4, [.int .i32 0]⟩, ⟨.slice 5, 1, 24, [.slice none 0 0]⟩, ⟨.slice 3, 1, 24, [.slice none 0 0]⟩, ⟨.slice 23, 1, 24, [.slice none 0 0]⟩, ⟨.strct [(0, 23), (1, 24), (2, 3)], 3, 56, [.slice none 0 0, .slice none 0 0, .int .i64 0]⟩, ⟨.slice 80, 1, 24, [.slice none 0 0]⟩, ⟨.slice 28, 1, 24, [.slice none 0 0]⟩, ⟨.ptr, 1, 8, [.pointer none]⟩, ⟨.ptr, 1, 8, [.pointer none]⟩, ⟨.strct [(0, 3), (1, 3), (2, 58), (3, 58)], 4, 32, [.int .i64 0, .int .i64 0, .pointer none, .pointer none]⟩, ⟨.slice 4, 1, 24, [.slice none 0 0]⟩, ⟨.strct [(0, 22), (1, 3), (2, 3)], 3, 40, [.slice none 0 0, .int .i64 0, .int .i64 0]⟩, ⟨.strct [(0, 3), (1, 3), (2, 3), (3, 3)], 4, 32, [.int .i64 0, .int .i64 0, .int .i64 0, .int .i64 0]⟩, ⟨.strct [(0, 3), (1, 3), (2, 3), (3, 3)], 4, 32, [.int .i64 0, .int .i64 0, .int .i64 0, .int .i64 0]⟩, ⟨.int .u32, 1, 4, [.int .u32 0]⟩, ⟨.int .u64, 1, 8, [.int .u64 0]⟩, ⟨.ptr, 1, 8, [.pointer none]⟩].map some := by kernel_rfl
noncomputable def tab : List (Nat × TI) := [(2, ⟨.int .i64, 1, 8, [.int .i64 0]⟩), (3, ⟨.int .i64, 1, 8, [.int .i64 0]⟩), (4, ⟨.bool, 1, 1, [.bool false]⟩), (5, ⟨.int .u8, 1, 1, [.int .u8 0]⟩), (9, ⟨.string, 1, 16, [.string ByteArray.empty]⟩), (21, ⟨.int .i32, 1, 4, [.int .i32 0]⟩), (22, ⟨.slice 5, 1, 24, [.slice none 0 0]⟩), (23, ⟨.slice 3, 1, 24, [.slice none 0 0]⟩), (24, ⟨.slice 23, 1, 24, [.slice none 0 0]⟩), (26, ⟨.strct [(0, 23), (1, 24), (2, 3)], 3, 56, [.slice none 0 0, .slice none 0 0, .int .i64 0]⟩), (28, ⟨.slice 80, 1, 24, [.slice none 0 0]⟩), (34, ⟨.slice 28, 1, 24, [.slice none 0 0]⟩), (43, ⟨.ptr, 1, 8, [.pointer none]⟩), (58, ⟨.ptr, 1, 8, [.pointer none]⟩), (60, ⟨.strct [(0, 3), (1, 3), (2, 58), (3, 58)], 4, 32, [.int .i64 0, .int .i64 0, .pointer none, .pointer none]⟩), (69, ⟨.slice 4, 1, 24, [.slice none 0 0]⟩), (74, ⟨.strct [(0, 22), (1, 3), (2, 3)], 3, 40, [.slice none 0 0, .int .i64 0, .int .i64 0]⟩), (79, ⟨.strct [(0, 3), (1, 3), (2, 3), (3, 3)], 4, 32, [.int .i64 0, .int .i64 0, .int .i64 0, .int .i64 0]⟩), (80, ⟨.strct [(0, 3), (1, 3), (2, 3), (3, 3)], 4, 32, [.int .i64 0, .int .i64 0, .int .i64 0, .int .i64 0]⟩), (101, ⟨.int .u32, 1, 4, [.int .u32 0]⟩), (104, ⟨.int .u64, 1, 8, [.int .u64 0]⟩), (117, ⟨.ptr, 1, 8, [.pointer none]⟩)]
noncomputable def Ev : Env := ⟨Try.prog, tabOf tab⟩
theorem evOk : Ev.Ok := Env.ok_of (tab_ok tabOk)
end Go.T
namespace Go.T
open Go Go.E Go.Proofs
set_option maxHeartbeats 8000000 in
theorem s_laws_toIntS {l : List Int} (hl : l.length ≤ 1073741824) : Go.E.Spec Try.prog 13 [eL false 1 cI l] (fun r _ => r = eL true 1 cI (l)) := by
  refine spec_of_awp (E := Ev) evOk Try.func13 (c := _) rfl (by decide) (by simp [Try.ntmps13]) ?_
  rw [Try.ntmps13, entry_mk]
  change awp Ev 1 22 _ _ (mkSt [(0, .v (eL false 1 cI l))] [(0, eL false 1 cI l)])
  refine a_seq fun K1 hK1 => ?_
  refine a_region rfl fun K2 hK2 => ?_
  refine x_assign ?_
  refine r_nil hK2 ?_
  refine hK1 _ _ (Ghost.refl _) ?_
  refine a_seq fun K3 hK3 => ?_
  refine a_region rfl fun K4 hK4 => ?_
  refine x_move ?_
  refine x_len ?_
  refine x_mk (c := cI) (z := 0) (sz := 1) ?_ ?_ rfl
  ·
    omega
  refine x_assign ?_
  refine r_nil hK4 ?_
  refine hK3 _ _ (Ghost.refl _) ?_
  refine a_seq fun K5 hK5 => ?_
  refine a_seq fun K6 hK6 => ?_
  refine a_region rfl fun K7 hK7 => ?_
  refine x_assign ?_
  refine r_nil hK7 ?_
  refine hK6 _ _ (Ghost.refl _) ?_
  refine a_block fun K8 hK8 => ?_
  refine a_loopM (X := Int × (List Int)) (fun (i, o) => ([(4, .v (.val (.int .i64 i)))] : List (Nat × S))) (fun (i, o) => ([(7, eL true 1 cI o)] : List (Nat × V))) (fun (i, o) => (0 ≤ i ∧ i ≤ l.length) ∧ (o.length = l.length) ∧ (∀ j : Nat, j < i.toNat → o[j]! = l[j]!)) (fun (i, o) => (l.length - i).toNat) [(0, .v _), (3, .ref 7 [])] [(0, _)] (_, _) (Ghost.refl _) ⟨rfl, rfl, rfl, trivial⟩ ⟨rfl, rfl, trivial⟩ (fun ⟨_, _⟩ => rfl) ?_ ?_
  ·
    try dsimp only
    refine ⟨?_, ?_, ?_⟩
    ·
      first | omega | rfl | assumption | (simp; done) | (simp_all; done)
    ·
      first | omega | rfl | assumption | (simp; done) | (simp_all; done)
    ·
      intro j hj; simp at hj
  ·
    rintro ⟨i, o⟩ hI9 K9 hK9
    dsimp only [List.cons_append, List.nil_append] at hI9 ⊢
    obtain ⟨hi, ho, he⟩ := hI9
    refine a_seq fun K10 hK10 => ?_
    refine a_seq fun K11 hK11 => ?_
    refine a_region rfl fun K12 hK12 => ?_
    refine x_move ?_
    refine x_move ?_
    refine x_len ?_
    refine x_bin ?_
    refine r_nil hK12 ?_
    refine hK11 _ _ (Ghost.refl _) ?_
    refine a_condP rfl (by first | exact .beq | exact .bne | exact .dec | exact .not .beq | exact .not .bne | exact .not .dec | exact .not .id | exact .id) (fun h13 => ?_) (fun h13 => ?_)
    · skip
      refine a_skip ?_
      refine hK10 _ _ (Ghost.refl _) ?_
      refine a_seq fun K14 hK14 => ?_
      refine a_block fun K15 hK15 => ?_
      refine a_region rfl fun K16 hK16 => ?_
      refine x_move ?_
      refine x_move ?_
      refine x_move ?_
      refine x_move ?_
      refine x_indexAddr ?_ ?_
      ·
        exact ⟨by omega, by omega⟩
      first | refine x_ldE ?_ ?_ | refine x_ldN ?_ ?_ | refine x_ldO ?_ ?_ | refine x_ldON ?_ ?_ (hf := fun x => (rfl : cN x = List.map V.val [_, _, _, _]))
      ·
        omega
      refine x_indexAddr ?_ ?_
      ·
        exact ⟨by omega, by omega⟩
      first | refine x_stE ?_ ?_ | refine x_stN' ?_ ?_
      ·
        omega
      refine r_nil hK16 ?_
      refine hK15 .normal _ ?_
      refine hK14 _ _ (ghost_has (ks := [(0, .v _), (3, .ref 7 []), (4, .v _)]) (km := [(0, _), (7, _)]) ⟨rfl, rfl, rfl, trivial⟩ ⟨rfl, rfl, trivial⟩ rfl) ?_
      refine a_region rfl fun K17 hK17 => ?_
      refine x_move ?_
      refine x_add ?_ ?_
      ·
        exact ⟨by omega, by omega⟩
      refine x_assign ?_
      refine r_nil hK17 ?_
      refine hK9 (_, _) _ _ _ (Ghost.refl _) ⟨rfl, rfl, rfl, trivial⟩ ⟨rfl, rfl, trivial⟩ ?_ ?_
      ·
        first | omega | (dsimp only; omega)
      ·
        try dsimp only
        refine ⟨?_, ?_, ?_⟩
        ·
          first | omega | rfl | assumption | (simp; done) | (simp_all; done)
        ·
          simpa using ho
        ·
          exact set_upto (by omega) (by omega) he (by omega)
    · skip
      refine a_exit ?_
      refine then_exit ?_
      refine then_exit ?_
      refine hK8 (.exit 0) _ (in_exit ?_)
      refine hK5 _ _ (Ghost.refl _) ?_
      refine a_seq fun K18 hK18 => ?_
      refine a_region rfl fun K19 hK19 => ?_
      refine x_move ?_
      refine x_assign ?_
      refine r_nil hK19 ?_
      refine hK18 _ _ (Ghost.refl _) ?_
      refine a_ret ?_
      refine leave_own (.inr rfl) rfl rfl rfl rfl (free_eL (by intro _; first | rfl | exact freeL_cL (by intro _; rfl))) rfl (congrArg (eL true 1 cI) ?_)
      exact upto_all ho (fun j hj => he j (by omega))
end Go.T
namespace Go.T
open Go Go.E Go.Proofs
set_option maxHeartbeats 8000000 in
theorem s_spec_l03Number {l : List Int} (hl : l.length ≤ 1073741823) : Go.E.Spec Try.prog 29 [eL false 1 cI l] (fun r _ => r = eL true 1 cI (numL l)) := by
  refine spec_of_awp (E := Ev) evOk Try.func29 (c := _) rfl (by decide) (by simp [Try.ntmps29]) ?_
  rw [Try.ntmps29, entry_mk]
  change awp Ev 1 46 _ _ (mkSt [(0, .v (eL false 1 cI l))] [(0, eL false 1 cI l)])
  refine a_seq fun K1 hK1 => ?_
  refine a_region rfl fun K2 hK2 => ?_
  refine x_assign ?_
  refine r_nil hK2 ?_
  refine hK1 _ _ (Ghost.refl _) ?_
  refine a_seq fun K3 hK3 => ?_
  refine a_region rfl fun K4 hK4 => ?_
  refine x_bv0 cI ?_
  refine x_assign ?_
  refine r_nil hK4 ?_
  refine hK3 _ _ (Ghost.refl _) ?_
  refine a_seq fun K5 hK5 => ?_
  refine a_region rfl fun K6 hK6 => ?_
  refine x_assign ?_
  refine r_nil hK6 ?_
  refine hK5 _ _ (Ghost.refl _) ?_
  refine a_seq fun K7 hK7 => ?_
  refine a_seq fun K8 hK8 => ?_
  refine a_region rfl fun K9 hK9 => ?_
  refine x_move ?_
  refine x_len ?_
  refine x_move ?_
  refine r_nil hK9 ?_
  refine hK8 _ _ (Ghost.refl _) ?_
  refine a_block fun K10 hK10 => ?_
  refine a_loopM (X := (List Int) × Int × Int) (fun (o, c, i) => ([(3, .ref 3 []), (4, .v (.val (.int .i64 c))), (13, .v (.val (.int .i64 i)))] : List (Nat × S))) (fun (o, c, i) => ([(3, eL true 1 cI o)] : List (Nat × V))) (fun (o, c, i) => (0 ≤ i ∧ i ≤ l.length) ∧ (o = numL (takeI l i)) ∧ (c = (met (takeI l i)).length)) (fun (o, c, i) => (l.length - i).toNat) [(0, .v _), (11, .v _), (12, .v _)] [(0, _)] (_, _, _) (ghost_ren (d := 10) (e := 3) (by decide) (by decide) rfl) ⟨rfl, rfl, rfl, rfl, rfl, rfl, trivial⟩ ⟨rfl, rfl, trivial⟩ (fun ⟨_, _, _⟩ => rfl) ?_ ?_
  ·
    try dsimp only
    refine ⟨?_, ?_, ?_⟩
    ·
      first | omega | rfl | assumption | (simp; done) | (simp_all; done)
    ·
      rw [takeI_zero]; rfl
    ·
      rw [takeI_zero]; rfl
  ·
    rintro ⟨o, c, i⟩ hI11 K11 hK11
    dsimp only [List.cons_append, List.nil_append] at hI11 ⊢
    obtain ⟨hi, ho, hc⟩ := hI11
    have q1 := met_length (takeI l i); have q2 := takeI_length (l := l) (i := i) (by omega) (by omega); have q3 := numL_length (l := takeI l i); rw [← ho] at q3
    refine a_seq fun K12 hK12 => ?_
    refine a_region rfl fun K13 hK13 => ?_
    refine x_bin ?_
    refine r_nil hK13 ?_
    refine hK12 _ _ (Ghost.refl _) ?_
    refine a_seq fun K14 hK14 => ?_
    refine a_condP rfl (by first | exact .beq | exact .bne | exact .dec | exact .not .beq | exact .not .bne | exact .not .dec | exact .not .id | exact .id) (fun h15 => ?_) (fun h15 => ?_)
    · skip
      refine a_skip ?_
      refine hK14 _ _ (Ghost.refl _) ?_
      refine a_seq fun K16 hK16 => ?_
      refine a_block fun K17 hK17 => ?_
      refine a_seq fun K18 hK18 => ?_
      refine a_region rfl fun K19 hK19 => ?_
      refine x_move ?_
      refine x_indexAddr ?_ ?_
      ·
        exact ⟨by omega, by omega⟩
      first | refine x_ldE ?_ ?_ | refine x_ldN ?_ ?_ | refine x_ldO ?_ ?_ | refine x_ldON ?_ ?_ (hf := fun x => (rfl : cN x = List.map V.val [_, _, _, _]))
      ·
        omega
      refine x_assign ?_
      refine x_assign ?_
      refine r_nil hK19 ?_
      refine hK18 _ _ (Ghost.refl _) ?_
      refine a_seq fun K20 hK20 => ?_
      refine a_region rfl fun K21 hK21 => ?_
      refine x_assign ?_
      refine r_nil hK21 ?_
      refine hK20 _ _ (Ghost.refl _) ?_
      refine a_seq fun K22 hK22 => ?_
      refine a_seq fun K23 hK23 => ?_
      refine a_region rfl fun K24 hK24 => ?_
      refine x_move ?_
      refine x_move ?_
      first | refine x_cutL ?_ ?_ | refine x_cutO ?_ ?_
      ·
        exact ⟨by omega, by omega⟩
      simp only [List.drop_zero, Nat.sub_zero]
      rw [show List.take i.toNat l = takeI l i from rfl]
      refine x_len ?_
      refine x_move ?_
      refine r_nil hK24 ?_
      refine hK23 _ _ (ghost_has (ks := [(0, .v _), (3, .ref 3 []), (4, .v _), (6, .v _), (7, .v _), (11, .v _), (12, .v _), (13, .v _), (20, _), (21, .v _), (22, .v _)]) (km := [(0, _), (3, _)]) ⟨rfl, rfl, rfl, rfl, rfl, rfl, rfl, rfl, rfl, rfl, rfl, trivial⟩ ⟨rfl, rfl, trivial⟩ rfl) ?_
      refine a_block fun K25 hK25 => ?_
      refine a_loopM (X := Int × Int) (fun (k, j) => ([(7, .v (.val (.int .i64 k))), (22, .v (.val (.int .i64 j)))] : List (Nat × S))) (fun (k, j) => ([] : List (Nat × V))) (fun (k, j) => (0 ≤ j ∧ j ≤ i) ∧ ((k = -1 ∧ ∀ q : Nat, q < j.toNat → l[q]! ≠ l[i.toNat]!) ∨ (k = ((met (takeI l i)).idxOf l[i.toNat]! : Int) ∧ l[i.toNat]! ∈ takeI l i))) (fun (k, j) => (i - j).toNat) [(0, .v _), (3, .ref 3 []), (4, .v _), (6, .v _), (11, .v _), (12, .v _), (13, .v _), (20, _), (21, .v _)] [(0, _), (3, _)] (_, _) (Ghost.refl _) ⟨rfl, rfl, rfl, rfl, rfl, rfl, rfl, rfl, rfl, rfl, rfl, trivial⟩ ⟨rfl, rfl, trivial⟩ (fun ⟨_, _⟩ => rfl) ?_ ?_
      ·
        try dsimp only
        refine ⟨?_, ?_⟩
        ·
          first | omega | rfl | assumption | (simp; done) | (simp_all; done)
        ·
          left; exact ⟨rfl, fun q hq => by simp at hq⟩
      ·
        rintro ⟨k, j⟩ hI26 K26 hK26
        dsimp only [List.cons_append, List.nil_append] at hI26 ⊢
        obtain ⟨hj, hk⟩ := hI26
        refine a_seq fun K27 hK27 => ?_
        refine a_region rfl fun K28 hK28 => ?_
        refine x_bin ?_
        refine r_nil hK28 ?_
        refine hK27 _ _ (Ghost.refl _) ?_
        refine a_seq fun K29 hK29 => ?_
        refine a_condP rfl (by first | exact .beq | exact .bne | exact .dec | exact .not .beq | exact .not .bne | exact .not .dec | exact .not .id | exact .id) (fun h30 => ?_) (fun h30 => ?_)
        · skip
          refine a_skip ?_
          refine hK29 _ _ (Ghost.refl _) ?_
          refine a_seq fun K31 hK31 => ?_
          refine a_block fun K32 hK32 => ?_
          refine a_seq fun K33 hK33 => ?_
          refine a_region rfl fun K34 hK34 => ?_
          refine x_move ?_
          refine x_indexAddr ?_ ?_
          ·
            exact ⟨by omega, by omega⟩
          first | refine x_ldE ?_ ?_ | refine x_ldN ?_ ?_ | refine x_ldO ?_ ?_ | refine x_ldON ?_ ?_ (hf := fun x => (rfl : cN x = List.map V.val [_, _, _, _]))
          ·
            omega
          refine x_assign ?_
          refine x_assign ?_
          refine r_nil hK34 ?_
          refine hK33 _ _ (Ghost.refl _) ?_
          refine a_seq fun K35 hK35 => ?_
          refine a_region rfl fun K36 hK36 => ?_
          refine x_move ?_
          refine x_move ?_
          refine x_bin ?_
          refine r_nil hK36 ?_
          refine hK35 _ _ (Ghost.refl _) ?_
          refine a_condP rfl (by first | exact .beq | exact .bne | exact .dec | exact .not .beq | exact .not .bne | exact .not .dec | exact .not .id | exact .id) (fun h37 => ?_) (fun h37 => ?_)
          · skip
            refine a_region rfl fun K38 hK38 => ?_
            refine x_move ?_
            refine x_move ?_
            refine x_indexAddr ?_ ?_
            ·
              exact ⟨by omega, by omega⟩
            first | refine x_ldE ?_ ?_ | refine x_ldN ?_ ?_ | refine x_ldO ?_ ?_ | refine x_ldON ?_ ?_ (hf := fun x => (rfl : cN x = List.map V.val [_, _, _, _]))
            ·
              omega
            refine x_assign ?_
            refine r_nil hK38 ?_
            refine hK32 .normal _ ?_
            refine hK31 _ _ (ghost_has (ks := [(0, .v _), (3, .ref 3 []), (4, .v _), (6, .v _), (7, .v _), (11, .v _), (12, .v _), (13, .v _), (20, _), (21, .v _), (22, .v _)]) (km := [(0, _), (3, _)]) ⟨rfl, rfl, rfl, rfl, rfl, rfl, rfl, rfl, rfl, rfl, rfl, trivial⟩ ⟨rfl, rfl, trivial⟩ rfl) ?_
            refine a_region rfl fun K39 hK39 => ?_
            refine x_add ?_ ?_
            ·
              exact ⟨by omega, by omega⟩
            refine x_move ?_
            refine r_nil hK39 ?_
            have hget : (takeI l i)[j.toNat]! = l[j.toNat]! := takeI_get (by omega) (by omega)
            have hhit : o[j.toNat]! = ((met (takeI l i)).idxOf l[i.toNat]! : Int) ∧ l[i.toNat]! ∈ takeI l i := by
              have e1 : l[j.toNat]! = l[i.toNat]! := by rw [← hget]; exact h37
              refine ⟨?_, takeI_mem.2 ⟨j.toNat, by omega, by omega, e1⟩⟩
              rw [ho, numL_get (by omega), hget, e1]
            refine hK26 (_, _) _ _ _ (Ghost.refl _) ⟨rfl, rfl, rfl, rfl, rfl, rfl, rfl, rfl, rfl, rfl, rfl, trivial⟩ ⟨rfl, rfl, trivial⟩ ?_ ?_
            ·
              first | omega | (dsimp only; omega)
            ·
              try dsimp only
              refine ⟨?_, ?_⟩
              ·
                first | omega | rfl | assumption | (simp; done) | (simp_all; done)
              ·
                right; exact hhit
          · skip
            refine a_skip ?_
            refine hK32 .normal _ ?_
            refine hK31 _ _ (Ghost.refl _) ?_
            refine a_region rfl fun K40 hK40 => ?_
            refine x_add ?_ ?_
            ·
              exact ⟨by omega, by omega⟩
            refine x_move ?_
            refine r_nil hK40 ?_
            have hget : (takeI l i)[j.toNat]! = l[j.toNat]! := takeI_get (by omega) (by omega)
            have hmiss : l[j.toNat]! ≠ l[i.toNat]! := by rw [← hget]; exact h37
            refine hK26 (_, _) _ _ _ (Ghost.refl _) ⟨rfl, rfl, rfl, rfl, rfl, rfl, rfl, rfl, rfl, rfl, rfl, trivial⟩ ⟨rfl, rfl, trivial⟩ ?_ ?_
            ·
              first | omega | (dsimp only; omega)
            ·
              try dsimp only
              refine ⟨?_, ?_⟩
              ·
                first | omega | rfl | assumption | (simp; done) | (simp_all; done)
              ·
                rcases hk with ⟨e, hk⟩ | hk
                · left; refine ⟨e, fun q hq => ?_⟩
                  by_cases e2 : q = j.toNat
                  · subst e2; exact hmiss
                  · exact hk q (by omega)
                · right; exact hk
        · skip
          refine a_exit ?_
          refine then_exit ?_
          refine then_exit ?_
          refine hK25 (.exit 2) _ (in_exit ?_)
          refine hK22 _ _ (Ghost.refl _) ?_
          refine a_seq fun K41 hK41 => ?_
          refine a_seq fun K42 hK42 => ?_
          refine a_region rfl fun K43 hK43 => ?_
          refine x_move ?_
          refine x_bin ?_
          refine r_nil hK43 ?_
          refine hK42 _ _ (Ghost.refl _) ?_
          refine a_condP rfl (by first | exact .beq | exact .bne | exact .dec | exact .not .beq | exact .not .bne | exact .not .dec | exact .not .id | exact .id) (fun h44 => ?_) (fun h44 => ?_)
          · skip
            refine a_seq fun K45 hK45 => ?_
            refine a_region rfl fun K46 hK46 => ?_
            refine x_move ?_
            refine x_assign ?_
            refine r_nil hK46 ?_
            refine hK45 _ _ (Ghost.refl _) ?_
            refine a_region rfl fun K47 hK47 => ?_
            refine x_move ?_
            refine x_add ?_ ?_
            ·
              exact ⟨by omega, by omega⟩
            refine x_assign ?_
            refine r_nil hK47 ?_
            refine hK41 _ _ (Ghost.refl _) ?_
            refine a_region rfl fun K48 hK48 => ?_
            refine x_move ?_
            refine x_move ?_
            first | refine x_bv ?_ | refine x_build1 ?_
            first | refine x_app1 ?_ ?_ | refine x_app1t ?_ ?_
            ·
              omega
            refine x_assign ?_
            refine r_nil hK48 ?_
            refine hK17 .normal _ ?_
            refine hK16 _ _ (ghost_has (ks := [(0, .v _), (3, .ref 43 []), (4, .v _), (11, .v _), (12, .v _), (13, .v _)]) (km := [(0, _), (43, _)]) ⟨rfl, rfl, rfl, rfl, rfl, rfl, trivial⟩ ⟨rfl, rfl, trivial⟩ rfl) ?_
            refine a_region rfl fun K49 hK49 => ?_
            refine x_add ?_ ?_
            ·
              exact ⟨by omega, by omega⟩
            refine x_move ?_
            refine r_nil hK49 ?_
            have hnew : l[i.toNat]! ∉ takeI l i := by
              rcases hk with ⟨e, hk⟩ | ⟨e, _⟩
              · intro hm; obtain ⟨q, h1, h2, h3⟩ := takeI_mem.1 hm; exact hk q (by omega) h3
              · omega
            refine hK11 (_, _, _) _ _ _ (ghost_ren (d := 43) (e := 3) (by decide) (by decide) rfl) ⟨rfl, rfl, rfl, rfl, rfl, rfl, trivial⟩ ⟨rfl, rfl, trivial⟩ ?_ ?_
            ·
              first | omega | (dsimp only; omega)
            ·
              try dsimp only
              refine ⟨?_, ?_, ?_⟩
              ·
                first | omega | rfl | assumption | (simp; done) | (simp_all; done)
              ·
                rw [takeI_succ (by omega) (by omega), numL_new hnew, ← ho, hc]
              ·
                rw [takeI_succ (by omega) (by omega), met_new hnew, hc]; simp
          · skip
            refine a_skip ?_
            refine hK41 _ _ (Ghost.refl _) ?_
            refine a_region rfl fun K50 hK50 => ?_
            refine x_move ?_
            refine x_move ?_
            first | refine x_bv ?_ | refine x_build1 ?_
            first | refine x_app1 ?_ ?_ | refine x_app1t ?_ ?_
            ·
              omega
            refine x_assign ?_
            refine r_nil hK50 ?_
            refine hK17 .normal _ ?_
            refine hK16 _ _ (ghost_has (ks := [(0, .v _), (3, .ref 43 []), (4, .v _), (11, .v _), (12, .v _), (13, .v _)]) (km := [(0, _), (43, _)]) ⟨rfl, rfl, rfl, rfl, rfl, rfl, trivial⟩ ⟨rfl, rfl, trivial⟩ rfl) ?_
            refine a_region rfl fun K51 hK51 => ?_
            refine x_add ?_ ?_
            ·
              exact ⟨by omega, by omega⟩
            refine x_move ?_
            refine r_nil hK51 ?_
            have hk3 : k = ((met (takeI l i)).idxOf l[i.toNat]! : Int) ∧ l[i.toNat]! ∈ takeI l i := by
              rcases hk with ⟨e, _⟩ | hk
              · omega
              · exact hk
            obtain ⟨hk2, hold⟩ := hk3
            refine hK11 (_, _, _) _ _ _ (ghost_ren (d := 43) (e := 3) (by decide) (by decide) rfl) ⟨rfl, rfl, rfl, rfl, rfl, rfl, trivial⟩ ⟨rfl, rfl, trivial⟩ ?_ ?_
            ·
              first | omega | (dsimp only; omega)
            ·
              try dsimp only
              refine ⟨?_, ?_, ?_⟩
              ·
                first | omega | rfl | assumption | (simp; done) | (simp_all; done)
              ·
                rw [takeI_succ (by omega) (by omega), numL_old hold, ← ho, hk2]
              ·
                rw [takeI_succ (by omega) (by omega), met_old hold, hc]
    · skip
      refine a_exit ?_
      refine then_exit ?_
      refine then_exit ?_
      refine hK10 (.exit 0) _ (in_exit ?_)
      refine hK7 _ _ (Ghost.refl _) ?_
      refine a_seq fun K52 hK52 => ?_
      refine a_region rfl fun K53 hK53 => ?_
      refine x_move ?_
      refine x_assign ?_
      refine r_nil hK53 ?_
      refine hK52 _ _ (Ghost.refl _) ?_
      refine a_ret ?_
      refine leave_own (.inr rfl) rfl rfl rfl rfl (free_eL (by intro _; first | rfl | exact freeL_cL (by intro _; rfl))) rfl (congrArg (eL true 1 cI) ?_)
      rw [takeI_all (by omega)] at ho; exact ho
end Go.T
namespace Go.T
open Go Go.E Go.Proofs
set_option maxHeartbeats 8000000 in
theorem s_spec_NumberBlocks {l : List Int} (hl : l.length ≤ 1073741823) : Go.E.Spec Try.prog 12 [eL false 1 cI l] (fun r _ => r = eL true 1 cI (numB l)) := by
  refine spec_of_awp (E := Ev) evOk Try.func12 (c := _) rfl (by decide) (by simp [Try.ntmps12]) ?_
  rw [Try.ntmps12, entry_mk]
  change awp Ev 1 8 _ _ (mkSt [(0, .v (eL false 1 cI l))] [(0, eL false 1 cI l)])
  refine a_seq fun K1 hK1 => ?_
  refine a_region rfl fun K2 hK2 => ?_
  refine x_assign ?_
  refine r_nil hK2 ?_
  refine hK1 _ _ (Ghost.refl _) ?_
  refine a_seq fun K3 hK3 => ?_
  refine a_seq fun K4 hK4 => ?_
  refine a_region rfl fun K5 hK5 => ?_
  refine x_move ?_
  refine x_len ?_
  refine x_bin ?_
  refine r_nil hK5 ?_
  refine hK4 _ _ (Ghost.refl _) ?_
  refine a_condP rfl (by first | exact .beq | exact .bne | exact .dec | exact .not .beq | exact .not .bne | exact .not .dec | exact .not .id | exact .id) (fun h6 => ?_) (fun h6 => ?_)
  · skip
    refine a_seq fun K7 hK7 => ?_
    refine a_region rfl fun K8 hK8 => ?_
    refine x_assign ?_
    refine r_nil hK8 ?_
    refine hK7 _ _ (ghost_nil (t := 2) (e := 2) (sz := 1) cI (by decide) rfl) ?_
    refine a_ret ?_
    refine then_ret ?_
    refine leave_own (.inr rfl) rfl rfl rfl rfl (free_eL (by intro _; first | rfl | exact freeL_cL (by intro _; rfl))) rfl (congrArg (eL true 1 cI) ?_)
    unfold numB; rw [if_pos (by omega)]
  · skip
    refine a_skip ?_
    refine hK3 _ _ (Ghost.refl _) ?_
    refine a_seq fun K9 hK9 => ?_
    refine a_region rfl fun K10 hK10 => ?_
    refine x_move ?_
    refine x_call (s_spec_l03Number ?_) ?_ (hl := by first | rfl | (repeat (first | exact lendL_nil | refine lendL_cons (by first | rfl | exact lend_ref rfl (ro_eL (by intro _; first | rfl | exact roL_cL (by intro _; rfl)))) ?_)))
    ·
      first | omega | rfl | assumption | (simp; done) | (simp_all; done)
    rintro _ _ rfl
    refine x_assign ?_
    refine r_nil hK10 ?_
    refine hK9 _ _ (Ghost.refl _) ?_
    refine a_ret ?_
    refine leave_own (.inr rfl) rfl rfl rfl rfl (free_eL (by intro _; first | rfl | exact freeL_cL (by intro _; rfl))) rfl (congrArg (eL true 1 cI) ?_)
    unfold numB; rw [if_neg (by omega)]
end Go.T
namespace Go.T
open Go Go.E Go.Proofs
set_option maxHeartbeats 8000000 in
theorem s_slices_Index_int_int {l : List Int} {x : Int} (hl : l.length ≤ 9223372036854775807) : Go.E.Spec Try.prog 49 [eL false 1 cI l, .val (.int .i64 x)] (fun r _ => r = .val (.int .i64 (idxI l x))) := by
  refine spec_of_awp (E := Ev) evOk Try.func49 (c := _) rfl (by decide) (by simp [Try.ntmps49]) ?_
  rw [Try.ntmps49, entry_mk]
  change awp Ev 2 19 _ _ (mkSt [(0, .v (eL false 1 cI l)), (1, .v (.val (.int .i64 x)))] [(0, eL false 1 cI l), (1, .val (.int .i64 x))])
  refine a_seq fun K1 hK1 => ?_
  refine a_region rfl fun K2 hK2 => ?_
  refine x_assign ?_
  refine r_nil hK2 ?_
  refine hK1 _ _ (Ghost.refl _) ?_
  refine a_seq fun K3 hK3 => ?_
  refine a_seq fun K4 hK4 => ?_
  refine a_region rfl fun K5 hK5 => ?_
  refine x_move ?_
  refine x_len ?_
  refine x_move ?_
  refine r_nil hK5 ?_
  refine hK4 _ _ (Ghost.refl _) ?_
  refine a_block fun K6 hK6 => ?_
  refine a_loopM (X := Int) (fun i => ([(8, .v (.val (.int .i64 i)))] : List (Nat × S))) (fun i => ([] : List (Nat × V))) (fun i => (0 ≤ i ∧ i ≤ l.length) ∧ (∀ j : Nat, j < i.toNat → l[j]! ≠ x)) (fun i => (l.length - i).toNat) [(0, .v _), (1, .v _), (7, .v _)] [(0, _), (1, _)] _ (Ghost.refl _) ⟨rfl, rfl, rfl, rfl, trivial⟩ ⟨rfl, rfl, trivial⟩ (fun i => rfl) ?_ ?_
  ·
    try dsimp only
    refine ⟨?_, ?_⟩
    ·
      first | omega | rfl | assumption | (simp; done) | (simp_all; done)
    ·
      intro j hj; simp at hj
  ·
    rintro i hI7 K7 hK7
    dsimp only [List.cons_append, List.nil_append] at hI7 ⊢
    obtain ⟨hi, hno⟩ := hI7
    refine a_seq fun K8 hK8 => ?_
    refine a_region rfl fun K9 hK9 => ?_
    refine x_bin ?_
    refine r_nil hK9 ?_
    refine hK8 _ _ (Ghost.refl _) ?_
    refine a_seq fun K10 hK10 => ?_
    refine a_condP rfl (by first | exact .beq | exact .bne | exact .dec | exact .not .beq | exact .not .bne | exact .not .dec | exact .not .id | exact .id) (fun h11 => ?_) (fun h11 => ?_)
    · skip
      refine a_skip ?_
      refine hK10 _ _ (Ghost.refl _) ?_
      refine a_seq fun K12 hK12 => ?_
      refine a_block fun K13 hK13 => ?_
      refine a_seq fun K14 hK14 => ?_
      refine a_region rfl fun K15 hK15 => ?_
      refine x_move ?_
      refine x_assign ?_
      refine r_nil hK15 ?_
      refine hK14 _ _ (Ghost.refl _) ?_
      refine a_seq fun K16 hK16 => ?_
      refine a_region rfl fun K17 hK17 => ?_
      refine x_move ?_
      refine x_move ?_
      refine x_move ?_
      refine x_indexAddr ?_ ?_
      ·
        exact ⟨by omega, by omega⟩
      first | refine x_ldE ?_ ?_ | refine x_ldN ?_ ?_ | refine x_ldO ?_ ?_ | refine x_ldON ?_ ?_ (hf := fun x => (rfl : cN x = List.map V.val [_, _, _, _]))
      ·
        omega
      refine x_bin ?_
      refine r_nil hK17 ?_
      refine hK16 _ _ (Ghost.refl _) ?_
      refine a_condP rfl (by first | exact .beq | exact .bne | exact .dec | exact .not .beq | exact .not .bne | exact .not .dec | exact .not .id | exact .id) (fun h18 => ?_) (fun h18 => ?_)
      · skip
        refine a_seq fun K19 hK19 => ?_
        refine a_region rfl fun K20 hK20 => ?_
        refine x_move ?_
        refine x_assign ?_
        refine r_nil hK20 ?_
        refine hK19 _ _ (Ghost.refl _) ?_
        refine a_ret ?_
        refine hK13 .ret _ (in_ret ?_)
        refine then_ret ?_
        refine then_ret ?_
        refine hK6 .ret _ (in_ret ?_)
        refine then_ret ?_
        refine leave_val (.inr rfl) rfl rfl rfl (congrArg (fun z => V.val (.int .i64 z)) ?_)
        rw [idxI_first (i := i.toNat) (by omega) (h18).symm hno]; omega
      · skip
        refine a_skip ?_
        refine hK13 .normal _ ?_
        refine hK12 _ _ (Ghost.refl _) ?_
        refine a_region rfl fun K21 hK21 => ?_
        refine x_add ?_ ?_
        ·
          exact ⟨by omega, by omega⟩
        refine x_move ?_
        refine r_nil hK21 ?_
        refine hK7 _ _ _ _ (Ghost.refl _) ⟨rfl, rfl, rfl, rfl, trivial⟩ ⟨rfl, rfl, trivial⟩ ?_ ?_
        ·
          first | omega | (dsimp only; omega)
        ·
          try dsimp only
          refine ⟨?_, ?_⟩
          ·
            first | omega | rfl | assumption | (simp; done) | (simp_all; done)
          ·
            intro j hj
            by_cases e : j = i.toNat
            · subst e; exact fun e2 => h18 e2.symm
            · exact hno j (by omega)
    · skip
      refine a_exit ?_
      refine then_exit ?_
      refine then_exit ?_
      refine hK6 (.exit 0) _ (in_exit ?_)
      refine hK3 _ _ (Ghost.refl _) ?_
      refine a_seq fun K22 hK22 => ?_
      refine a_region rfl fun K23 hK23 => ?_
      refine x_assign ?_
      refine r_nil hK23 ?_
      refine hK22 _ _ (Ghost.refl _) ?_
      refine a_ret ?_
      refine leave_val (.inr rfl) rfl rfl rfl (congrArg (fun z => V.val (.int .i64 z)) ?_)
      exact (idxI_none (fun j hj => hno j (by omega))).symm
end Go.T
namespace Go.T
open Go Go.E Go.Proofs
set_option maxHeartbeats 8000000 in
theorem s_slices_Contains_int_int {l : List Int} {x : Int} (hl : l.length ≤ 9223372036854775807) : Go.E.Spec Try.prog 44 [eL false 1 cI l, .val (.int .i64 x)] (fun r _ => r = .val (.bool (decide (x ∈ l)))) := by
  refine spec_of_awp (E := Ev) evOk Try.func44 (c := _) rfl (by decide) (by simp [Try.ntmps44]) ?_
  rw [Try.ntmps44, entry_mk]
  change awp Ev 2 9 _ _ (mkSt [(0, .v (eL false 1 cI l)), (1, .v (.val (.int .i64 x)))] [(0, eL false 1 cI l), (1, .val (.int .i64 x))])
  refine a_seq fun K1 hK1 => ?_
  refine a_region rfl fun K2 hK2 => ?_
  refine x_assign ?_
  refine r_nil hK2 ?_
  refine hK1 _ _ (Ghost.refl _) ?_
  refine a_seq fun K3 hK3 => ?_
  refine a_region rfl fun K4 hK4 => ?_
  refine x_move ?_
  refine x_move ?_
  refine x_call (s_slices_Index_int_int ?_) ?_ (hl := by first | rfl | (repeat (first | exact lendL_nil | refine lendL_cons (by first | rfl | exact lend_ref rfl (ro_eL (by intro _; first | rfl | exact roL_cL (by intro _; rfl)))) ?_)))
  ·
    first | omega | rfl | assumption | (simp; done) | (simp_all; done)
  rintro _ _ rfl
  refine x_bin ?_
  refine x_assign ?_
  refine r_nil hK4 ?_
  refine hK3 _ _ (Ghost.refl _) ?_
  refine a_ret ?_
  refine leave_val (.inr rfl) rfl rfl rfl (congrArg (fun z => V.val (.bool z)) ?_)
  exact decide_eq_decide.2 idxI_mem
end Go.T
namespace Go.T
open Go Go.E Go.Proofs
set_option maxHeartbeats 8000000 in
theorem s_impl_numbered {l : List Int} (hl : l.length ≤ 1073741823) : Go.E.Spec Try.prog 30 [eL false 1 cI l] (fun r _ => r = eL true 1 cI (numL l)) := by
  refine spec_of_awp (E := Ev) evOk Try.func30 (c := _) rfl (by decide) (by simp [Try.ntmps30]) ?_
  rw [Try.ntmps30, entry_mk]
  change awp Ev 1 31 _ _ (mkSt [(0, .v (eL false 1 cI l))] [(0, eL false 1 cI l)])
  refine a_seq fun K1 hK1 => ?_
  refine a_region rfl fun K2 hK2 => ?_
  refine x_assign ?_
  refine r_nil hK2 ?_
  refine hK1 _ _ (Ghost.refl _) ?_
  refine a_seq fun K3 hK3 => ?_
  refine a_region rfl fun K4 hK4 => ?_
  refine x_bv0 cI ?_
  refine x_bv0 cI ?_
  refine x_assign ?_
  refine x_assign ?_
  refine r_nil hK4 ?_
  refine hK3 _ _ (Ghost.refl _) ?_
  refine a_seq fun K5 hK5 => ?_
  refine a_seq fun K6 hK6 => ?_
  refine a_region rfl fun K7 hK7 => ?_
  refine x_move ?_
  refine x_len ?_
  refine x_move ?_
  refine r_nil hK7 ?_
  refine hK6 _ _ (ghost_has (ks := [(3, .ref 7 []), (4, .ref 8 []), (9, .v _), (10, .v _), (11, .v _)]) (km := [(0, _), (7, _), (8, _)]) ⟨rfl, rfl, rfl, rfl, rfl, trivial⟩ ⟨rfl, rfl, rfl, trivial⟩ rfl) ?_
  refine a_block fun K8 hK8 => ?_
  refine a_loopM (X := (List Int) × (List Int) × Int) (fun (o, m, i) => ([(3, .ref 3 []), (4, .ref 4 []), (11, .v (.val (.int .i64 i)))] : List (Nat × S))) (fun (o, m, i) => ([(3, eL true 1 cI o), (4, eL true 1 cI m)] : List (Nat × V))) (fun (o, m, i) => (0 ≤ i ∧ i ≤ l.length) ∧ (o = numL (takeI l i)) ∧ (m = met (takeI l i))) (fun (o, m, i) => (l.length - i).toNat) [(9, .v _), (10, .v _)] [(0, _)] (_, _, _) (Ghost.trans (ghost_ren (d := 7) (e := 3) (by decide) (by decide) rfl) (ghost_ren (d := 8) (e := 4) (by decide) (by decide) rfl)) ⟨rfl, rfl, rfl, rfl, rfl, trivial⟩ ⟨rfl, rfl, rfl, trivial⟩ (fun ⟨_, _, _⟩ => rfl) ?_ ?_
  ·
    try dsimp only
    refine ⟨?_, ?_, ?_⟩
    ·
      first | omega | rfl | assumption | (simp; done) | (simp_all; done)
    ·
      rw [takeI_zero]; rfl
    ·
      rw [takeI_zero]; rfl
  ·
    rintro ⟨o, m, i⟩ hI9 K9 hK9
    dsimp only [List.cons_append, List.nil_append] at hI9 ⊢
    obtain ⟨hi, ho, hm⟩ := hI9
    refine a_seq fun K10 hK10 => ?_
    refine a_region rfl fun K11 hK11 => ?_
    refine x_bin ?_
    refine r_nil hK11 ?_
    refine hK10 _ _ (Ghost.refl _) ?_
    refine a_seq fun K12 hK12 => ?_
    refine a_condP rfl (by first | exact .beq | exact .bne | exact .dec | exact .not .beq | exact .not .bne | exact .not .dec | exact .not .id | exact .id) (fun h13 => ?_) (fun h13 => ?_)
    · skip
      refine a_skip ?_
      refine hK12 _ _ (Ghost.refl _) ?_
      refine a_seq fun K14 hK14 => ?_
      refine a_block fun K15 hK15 => ?_
      refine a_seq fun K16 hK16 => ?_
      refine a_region rfl fun K17 hK17 => ?_
      refine x_indexAddr ?_ ?_
      ·
        exact ⟨by omega, by omega⟩
      first | refine x_ldE ?_ ?_ | refine x_ldN ?_ ?_ | refine x_ldO ?_ ?_ | refine x_ldON ?_ ?_ (hf := fun x => (rfl : cN x = List.map V.val [_, _, _, _]))
      ·
        omega
      refine x_assign ?_
      refine r_nil hK17 ?_
      refine hK16 _ _ (Ghost.refl _) ?_
      refine a_seq fun K18 hK18 => ?_
      refine a_seq fun K19 hK19 => ?_
      refine a_region rfl fun K20 hK20 => ?_
      refine x_move ?_
      refine x_move ?_
      refine x_call (s_slices_Contains_int_int ?_) ?_ (hl := by first | rfl | (repeat (first | exact lendL_nil | refine lendL_cons (by first | rfl | exact lend_ref rfl (ro_eL (by intro _; first | rfl | exact roL_cL (by intro _; rfl)))) ?_)))
      ·
        have q1 := met_length (takeI l i); have q2 := takeI_length (l := l) (i := i) (by omega) (by omega); rw [← hm] at q1; omega
      rintro _ _ rfl
      refine x_un ?_
      refine r_nil hK20 ?_
      refine hK19 _ _ (Ghost.refl _) ?_
      refine a_condP rfl (by first | exact .beq | exact .bne | exact .dec | exact .not .beq | exact .not .bne | exact .not .dec | exact .not .id | exact .id) (fun h21 => ?_) (fun h21 => ?_)
      · skip
        refine a_region rfl fun K22 hK22 => ?_
        refine x_move ?_
        refine x_move ?_
        first | refine x_bv ?_ | refine x_build1 ?_
        first | refine x_app1 ?_ ?_ | refine x_app1t ?_ ?_
        ·
          have q1 := met_length (takeI l i); have q2 := takeI_length (l := l) (i := i) (by omega) (by omega); have q3 := numL_length (l := takeI l i); rw [← hm] at q1; rw [← ho] at q3; omega
        refine x_assign ?_
        refine r_nil hK22 ?_
        refine hK18 _ _ (ghost_has (ks := [(3, .ref 3 []), (4, .ref 22 []), (6, .v _), (9, .v _), (10, .v _), (11, .v _)]) (km := [(0, _), (3, _), (22, _)]) ⟨rfl, rfl, rfl, rfl, rfl, rfl, trivial⟩ ⟨rfl, rfl, rfl, trivial⟩ rfl) ?_
        refine a_region rfl fun K23 hK23 => ?_
        refine x_move ?_
        refine x_move ?_
        refine x_move ?_
        refine x_call (s_slices_Index_int_int ?_) ?_ (hl := by first | rfl | (repeat (first | exact lendL_nil | refine lendL_cons (by first | rfl | exact lend_ref rfl (ro_eL (by intro _; first | rfl | exact roL_cL (by intro _; rfl)))) ?_)))
        ·
          have q1 := met_length (takeI l i); have q2 := takeI_length (l := l) (i := i) (by omega) (by omega); rw [← hm] at q1; first | (simp only [List.length_append, List.length_cons, List.length_nil]; omega) | omega
        rintro _ _ rfl
        first | refine x_bv ?_ | refine x_build1 ?_
        first | refine x_app1 ?_ ?_ | refine x_app1t ?_ ?_
        ·
          have q1 := met_length (takeI l i); have q2 := takeI_length (l := l) (i := i) (by omega) (by omega); have q3 := numL_length (l := takeI l i); rw [← hm] at q1; rw [← ho] at q3; omega
        refine x_assign ?_
        refine r_nil hK23 ?_
        refine hK15 .normal _ ?_
        refine hK14 _ _ (ghost_has (ks := [(3, .ref 28 []), (4, .ref 22 []), (9, .v _), (10, .v _), (11, .v _)]) (km := [(0, _), (22, _), (28, _)]) ⟨rfl, rfl, rfl, rfl, rfl, trivial⟩ ⟨rfl, rfl, rfl, trivial⟩ rfl) ?_
        refine a_region rfl fun K24 hK24 => ?_
        refine x_add ?_ ?_
        ·
          exact ⟨by omega, by omega⟩
        refine x_move ?_
        refine r_nil hK24 ?_
        have hnew : l[i.toNat]! ∉ m := by simpa using h21
        refine hK9 (_, _, _) _ _ _ (Ghost.trans (ghost_ren (d := 28) (e := 3) (by decide) (by decide) rfl) (ghost_ren (d := 22) (e := 4) (by decide) (by decide) rfl)) ⟨rfl, rfl, rfl, rfl, rfl, trivial⟩ ⟨rfl, rfl, rfl, trivial⟩ ?_ ?_
        ·
          first | omega | (dsimp only; omega)
        ·
          try dsimp only
          refine ⟨?_, ?_, ?_⟩
          ·
            first | omega | rfl | assumption | (simp; done) | (simp_all; done)
          ·
            rw [takeI_succ (by omega) (by omega), numL_new (fun k => hnew (by rw [hm]; exact (met_mem _ _).2 k)), ← ho, hm]
            rw [hm] at hnew
            generalize l[i.toNat]! = y at hnew ⊢
            simp [idxI, List.idxOf_append, hnew]
          ·
            rw [takeI_succ (by omega) (by omega), met_new (fun k => hnew (by rw [hm]; exact (met_mem _ _).2 k)), hm]
      · skip
        refine a_skip ?_
        refine hK18 _ _ (Ghost.refl _) ?_
        refine a_region rfl fun K25 hK25 => ?_
        refine x_move ?_
        refine x_move ?_
        refine x_move ?_
        refine x_call (s_slices_Index_int_int ?_) ?_ (hl := by first | rfl | (repeat (first | exact lendL_nil | refine lendL_cons (by first | rfl | exact lend_ref rfl (ro_eL (by intro _; first | rfl | exact roL_cL (by intro _; rfl)))) ?_)))
        ·
          have q1 := met_length (takeI l i); have q2 := takeI_length (l := l) (i := i) (by omega) (by omega); rw [← hm] at q1; first | (simp only [List.length_append, List.length_cons, List.length_nil]; omega) | omega
        rintro _ _ rfl
        first | refine x_bv ?_ | refine x_build1 ?_
        first | refine x_app1 ?_ ?_ | refine x_app1t ?_ ?_
        ·
          have q1 := met_length (takeI l i); have q2 := takeI_length (l := l) (i := i) (by omega) (by omega); have q3 := numL_length (l := takeI l i); rw [← hm] at q1; rw [← ho] at q3; omega
        refine x_assign ?_
        refine r_nil hK25 ?_
        refine hK15 .normal _ ?_
        refine hK14 _ _ (ghost_has (ks := [(3, .ref 28 []), (4, .ref 4 []), (9, .v _), (10, .v _), (11, .v _)]) (km := [(0, _), (4, _), (28, _)]) ⟨rfl, rfl, rfl, rfl, rfl, trivial⟩ ⟨rfl, rfl, rfl, trivial⟩ rfl) ?_
        refine a_region rfl fun K26 hK26 => ?_
        refine x_add ?_ ?_
        ·
          exact ⟨by omega, by omega⟩
        refine x_move ?_
        refine r_nil hK26 ?_
        have hold : l[i.toNat]! ∈ m := by simpa using h21
        refine hK9 (_, _, _) _ _ _ (ghost_ren (d := 28) (e := 3) (by decide) (by decide) rfl) ⟨rfl, rfl, rfl, rfl, rfl, trivial⟩ ⟨rfl, rfl, rfl, trivial⟩ ?_ ?_
        ·
          first | omega | (dsimp only; omega)
        ·
          try dsimp only
          refine ⟨?_, ?_, ?_⟩
          ·
            first | omega | rfl | assumption | (simp; done) | (simp_all; done)
          ·
            rw [takeI_succ (by omega) (by omega), numL_old ((met_mem _ _).1 (by rw [← hm]; exact hold)), ← ho, hm]
            rw [hm] at hold
            generalize l[i.toNat]! = y at hold ⊢
            simp [idxI, hold]
          ·
            rw [takeI_succ (by omega) (by omega), met_old ((met_mem _ _).1 (by rw [← hm]; exact hold)), hm]
    · skip
      refine a_exit ?_
      refine then_exit ?_
      refine then_exit ?_
      refine hK8 (.exit 0) _ (in_exit ?_)
      refine hK5 _ _ (Ghost.refl _) ?_
      refine a_seq fun K27 hK27 => ?_
      refine a_region rfl fun K28 hK28 => ?_
      refine x_move ?_
      refine x_assign ?_
      refine r_nil hK28 ?_
      refine hK27 _ _ (Ghost.refl _) ?_
      refine a_ret ?_
      refine leave_own (.inr rfl) rfl rfl rfl rfl (free_eL (by intro _; first | rfl | exact freeL_cL (by intro _; rfl))) rfl (congrArg (eL true 1 cI) ?_)
      rw [takeI_all (by omega)] at ho; exact ho
end Go.T
namespace Go.T
open Go Go.E Go.Proofs
set_option maxHeartbeats 8000000 in
theorem s_impl_NumberBlocks {l : List Int} (hl : l.length ≤ 1073741823) : Go.E.Spec Try.prog 14 [eL false 1 cI l] (fun r _ => r = eL true 1 cI (numB l)) := by
  refine spec_of_awp (E := Ev) evOk Try.func14 (c := _) rfl (by decide) (by simp [Try.ntmps14]) ?_
  rw [Try.ntmps14, entry_mk]
  change awp Ev 1 8 _ _ (mkSt [(0, .v (eL false 1 cI l))] [(0, eL false 1 cI l)])
  refine a_seq fun K1 hK1 => ?_
  refine a_region rfl fun K2 hK2 => ?_
  refine x_assign ?_
  refine r_nil hK2 ?_
  refine hK1 _ _ (Ghost.refl _) ?_
  refine a_seq fun K3 hK3 => ?_
  refine a_seq fun K4 hK4 => ?_
  refine a_region rfl fun K5 hK5 => ?_
  refine x_move ?_
  refine x_len ?_
  refine x_bin ?_
  refine r_nil hK5 ?_
  refine hK4 _ _ (Ghost.refl _) ?_
  refine a_condP rfl (by first | exact .beq | exact .bne | exact .dec | exact .not .beq | exact .not .bne | exact .not .dec | exact .not .id | exact .id) (fun h6 => ?_) (fun h6 => ?_)
  · skip
    refine a_seq fun K7 hK7 => ?_
    refine a_region rfl fun K8 hK8 => ?_
    refine x_assign ?_
    refine r_nil hK8 ?_
    refine hK7 _ _ (ghost_nil (t := 2) (e := 2) (sz := 1) cI (by decide) rfl) ?_
    refine a_ret ?_
    refine then_ret ?_
    refine leave_own (.inr rfl) rfl rfl rfl rfl (free_eL (by intro _; first | rfl | exact freeL_cL (by intro _; rfl))) rfl (congrArg (eL true 1 cI) ?_)
    unfold numB; rw [if_pos (by omega)]
  · skip
    refine a_skip ?_
    refine hK3 _ _ (Ghost.refl _) ?_
    refine a_seq fun K9 hK9 => ?_
    refine a_region rfl fun K10 hK10 => ?_
    refine x_move ?_
    refine x_call (s_impl_numbered ?_) ?_ (hl := by first | rfl | (repeat (first | exact lendL_nil | refine lendL_cons (by first | rfl | exact lend_ref rfl (ro_eL (by intro _; first | rfl | exact roL_cL (by intro _; rfl)))) ?_)))
    ·
      first | omega | rfl | assumption | (simp; done) | (simp_all; done)
    rintro _ _ rfl
    refine x_assign ?_
    refine r_nil hK10 ?_
    refine hK9 _ _ (Ghost.refl _) ?_
    refine a_ret ?_
    refine leave_own (.inr rfl) rfl rfl rfl rfl (free_eL (by intro _; first | rfl | exact freeL_cL (by intro _; rfl))) rfl (congrArg (eL true 1 cI) ?_)
    unfold numB; rw [if_neg (by omega)]
end Go.T
namespace Go.T
open Go Go.E Go.Proofs
set_option maxHeartbeats 8000000 in
theorem s_laws_eqIntS {l : List Int} (hl : l.length ≤ 9223372036854775807) : Go.E.Spec Try.prog 15 [eL false 1 cI l, eL false 1 cI l] (fun r _ => r = .val (.bool (true))) := by
  refine spec_of_awp (E := Ev) evOk Try.func15 (c := _) rfl (by decide) (by simp [Try.ntmps15]) ?_
  rw [Try.ntmps15, entry_mk]
  change awp Ev 2 26 _ _ (mkSt [(0, .v (eL false 1 cI l)), (1, .v (eL false 1 cI l))] [(0, eL false 1 cI l), (1, eL false 1 cI l)])
  refine a_seq fun K1 hK1 => ?_
  refine a_region rfl fun K2 hK2 => ?_
  refine x_assign ?_
  refine r_nil hK2 ?_
  refine hK1 _ _ (Ghost.refl _) ?_
  refine a_seq fun K3 hK3 => ?_
  refine a_seq fun K4 hK4 => ?_
  refine a_region rfl fun K5 hK5 => ?_
  refine x_move ?_
  refine x_len ?_
  refine x_move ?_
  refine x_len ?_
  refine x_bin ?_
  refine r_nil hK5 ?_
  refine hK4 _ _ (Ghost.refl _) ?_
  refine a_condP rfl (by first | exact .beq | exact .bne | exact .dec | exact .not .beq | exact .not .bne | exact .not .dec | exact .not .id | exact .id) (fun h6 => ?_) (fun h6 => ?_)
  · skip
    refine a_seq fun K7 hK7 => ?_
    refine a_region rfl fun K8 hK8 => ?_
    refine x_assign ?_
    refine r_nil hK8 ?_
    refine hK7 _ _ (Ghost.refl _) ?_
    refine a_ret ?_
    refine then_ret ?_
    refine leave_val (.inr rfl) rfl rfl rfl (congrArg (fun z => V.val (.bool z)) ?_)
    first | rfl | omega | assumption | (simp; done) | (simp_all; done)
  · skip
    refine a_skip ?_
    refine hK3 _ _ (Ghost.refl _) ?_
    refine a_seq fun K9 hK9 => ?_
    refine a_seq fun K10 hK10 => ?_
    refine a_region rfl fun K11 hK11 => ?_
    refine x_assign ?_
    refine r_nil hK11 ?_
    refine hK10 _ _ (Ghost.refl _) ?_
    refine a_block fun K12 hK12 => ?_
    refine a_loopM (X := Int) (fun i => ([(5, .v (.val (.int .i64 i)))] : List (Nat × S))) (fun i => ([] : List (Nat × V))) (fun i => (0 ≤ i ∧ i ≤ l.length)) (fun i => (l.length - i).toNat) [(0, .v _), (1, .v _)] [(0, _), (1, _)] _ (Ghost.refl _) ⟨rfl, rfl, rfl, trivial⟩ ⟨rfl, rfl, trivial⟩ (fun i => rfl) ?_ ?_
    ·
      try dsimp only
      ·
        first | omega | rfl | assumption | (simp; done) | (simp_all; done)
    ·
      rintro i hI13 K13 hK13
      dsimp only [List.cons_append, List.nil_append] at hI13 ⊢
      have hi := hI13
      refine a_seq fun K14 hK14 => ?_
      refine a_seq fun K15 hK15 => ?_
      refine a_region rfl fun K16 hK16 => ?_
      refine x_move ?_
      refine x_move ?_
      refine x_len ?_
      refine x_bin ?_
      refine r_nil hK16 ?_
      refine hK15 _ _ (Ghost.refl _) ?_
      refine a_condP rfl (by first | exact .beq | exact .bne | exact .dec | exact .not .beq | exact .not .bne | exact .not .dec | exact .not .id | exact .id) (fun h17 => ?_) (fun h17 => ?_)
      · skip
        refine a_skip ?_
        refine hK14 _ _ (Ghost.refl _) ?_
        refine a_seq fun K18 hK18 => ?_
        refine a_block fun K19 hK19 => ?_
        refine a_seq fun K20 hK20 => ?_
        refine a_drawn rfl rfl rfl fun K21 hK21 => ?_
        refine x_move ?_
        refine x_move ?_
        refine x_indexAddr ?_ ?_
        ·
          exact ⟨by omega, by omega⟩
        first | refine x_ldE ?_ ?_ | refine x_ldN ?_ ?_ | refine x_ldO ?_ ?_ | refine x_ldON ?_ ?_ (hf := fun x => (rfl : cN x = List.map V.val [_, _, _, _]))
        ·
          omega
        refine x_move ?_
        refine x_move ?_
        refine x_indexAddr ?_ ?_
        ·
          exact ⟨by omega, by omega⟩
        first | refine x_ldE ?_ ?_ | refine x_ldN ?_ ?_ | refine x_ldO ?_ ?_ | refine x_ldON ?_ ?_ (hf := fun x => (rfl : cN x = List.map V.val [_, _, _, _]))
        ·
          omega
        refine x_bin ?_
        refine r_nil hK21 ?_
        refine hK20 _ _ (ghost_has (ks := [(0, .v _), (1, .v _), (5, .v _), (25, .v _)]) (km := [(0, _), (1, _)]) ⟨rfl, rfl, rfl, rfl, trivial⟩ ⟨rfl, rfl, trivial⟩ rfl) ?_
        refine a_condP rfl (by first | exact .beq | exact .bne | exact .dec | exact .not .beq | exact .not .bne | exact .not .dec | exact .not .id | exact .id) (fun h22 => ?_) (fun h22 => ?_)
        · skip
          refine a_seq fun K23 hK23 => ?_
          refine a_region rfl fun K24 hK24 => ?_
          refine x_assign ?_
          refine r_nil hK24 ?_
          refine hK23 _ _ (Ghost.refl _) ?_
          refine a_ret ?_
          refine hK19 .ret _ (in_ret ?_)
          refine then_ret ?_
          refine then_ret ?_
          refine hK12 .ret _ (in_ret ?_)
          refine then_ret ?_
          refine leave_val (.inr rfl) rfl rfl rfl (congrArg (fun z => V.val (.bool z)) ?_)
          first | rfl | omega | assumption | (simp; done) | (simp_all; done)
        · skip
          refine a_skip ?_
          refine hK19 .normal _ ?_
          refine hK18 _ _ (Ghost.refl _) ?_
          refine a_region rfl fun K25 hK25 => ?_
          refine x_move ?_
          refine x_add ?_ ?_
          ·
            exact ⟨by omega, by omega⟩
          refine x_assign ?_
          refine r_nil hK25 ?_
          refine hK13 _ _ _ _ (Ghost.refl _) ⟨rfl, rfl, rfl, trivial⟩ ⟨rfl, rfl, trivial⟩ ?_ ?_
          ·
            first | omega | (dsimp only; omega)
          ·
            try dsimp only
            ·
              first | omega | rfl | assumption | (simp; done) | (simp_all; done)
      · skip
        refine a_exit ?_
        refine then_exit ?_
        refine then_exit ?_
        refine hK12 (.exit 0) _ (in_exit ?_)
        refine hK9 _ _ (Ghost.refl _) ?_
        refine a_seq fun K26 hK26 => ?_
        refine a_region rfl fun K27 hK27 => ?_
        refine x_assign ?_
        refine r_nil hK27 ?_
        refine hK26 _ _ (Ghost.refl _) ?_
        refine a_ret ?_
        refine leave_val (.inr rfl) rfl rfl rfl (congrArg (fun z => V.val (.bool z)) ?_)
        first | rfl | omega | assumption | (simp; done) | (simp_all; done)
end Go.T
namespace Go.T
open Go Go.E Go.Proofs
set_option maxHeartbeats 8000000 in
theorem s_laws_markIntS {l : List Int} {k : Int} (hl : l.length ≤ 1073741824) (hk : 0 ≤ k ∧ k ≤ 1073741824) : Go.E.Spec Try.prog 16 [eL true 1 cI l, .val (.int .i64 k)] (fun r outs => r = .val (.int .i64 (k + l.length)) ∧ outs.head? = some (eL true 1 cI (marksI k l.length))) := by
  refine spec_of_awp (E := Ev) evOk Try.func16 (c := _) rfl (by decide) (by simp [Try.ntmps16]) ?_
  rw [Try.ntmps16, entry_mk]
  change awp Ev 2 19 _ _ (mkSt [(0, .ref 0 []), (1, .v (.val (.int .i64 k)))] [(0, eL true 1 cI l), (1, .val (.int .i64 k))])
  refine a_seq fun K1 hK1 => ?_
  refine a_region rfl fun K2 hK2 => ?_
  refine x_assign ?_
  refine r_nil hK2 ?_
  refine hK1 _ _ (Ghost.refl _) ?_
  refine a_seq fun K3 hK3 => ?_
  refine a_seq fun K4 hK4 => ?_
  refine a_region rfl fun K5 hK5 => ?_
  refine x_assign ?_
  refine r_nil hK5 ?_
  refine hK4 _ _ (Ghost.refl _) ?_
  refine a_block fun K6 hK6 => ?_
  refine a_loopM (X := Int × Int × (List Int)) (fun (k1, i, o) => ([(1, .v (.val (.int .i64 k1))), (5, .v (.val (.int .i64 i)))] : List (Nat × S))) (fun (k1, i, o) => ([(0, eL true 1 cI o)] : List (Nat × V))) (fun (k1, i, o) => (0 ≤ i ∧ i ≤ l.length) ∧ (o.length = l.length) ∧ (k1 = k + i) ∧ (∀ j : Nat, j < i.toNat → o[j]! = (marksI k l.length)[j]!)) (fun (k1, i, o) => (l.length - i).toNat) [(0, .ref 0 [])] [(1, _)] (_, _, _) (Ghost.refl _) ⟨rfl, rfl, rfl, trivial⟩ ⟨rfl, rfl, trivial⟩ (fun ⟨_, _, _⟩ => rfl) ?_ ?_
  ·
    try dsimp only
    refine ⟨?_, ?_, ?_, ?_⟩
    ·
      first | omega | rfl | assumption | (simp; done) | (simp_all; done)
    ·
      first | omega | rfl | assumption | (simp; done) | (simp_all; done)
    ·
      first | omega | rfl | assumption | (simp; done) | (simp_all; done)
    ·
      intro j hj; simp at hj
  ·
    rintro ⟨k1, i, o⟩ hI7 K7 hK7
    dsimp only [List.cons_append, List.nil_append] at hI7 ⊢
    obtain ⟨hi, ho, hk1, he⟩ := hI7
    refine a_seq fun K8 hK8 => ?_
    refine a_seq fun K9 hK9 => ?_
    refine a_region rfl fun K10 hK10 => ?_
    refine x_move ?_
    refine x_move ?_
    refine x_len ?_
    refine x_bin ?_
    refine r_nil hK10 ?_
    refine hK9 _ _ (Ghost.refl _) ?_
    refine a_condP rfl (by first | exact .beq | exact .bne | exact .dec | exact .not .beq | exact .not .bne | exact .not .dec | exact .not .id | exact .id) (fun h11 => ?_) (fun h11 => ?_)
    · skip
      refine a_skip ?_
      refine hK8 _ _ (Ghost.refl _) ?_
      refine a_seq fun K12 hK12 => ?_
      refine a_block fun K13 hK13 => ?_
      refine a_seq fun K14 hK14 => ?_
      refine a_region rfl fun K15 hK15 => ?_
      refine x_move ?_
      refine x_move ?_
      refine x_move ?_
      refine x_indexAddr ?_ ?_
      ·
        exact ⟨by omega, by omega⟩
      first | refine x_stE ?_ ?_ | refine x_stN' ?_ ?_
      ·
        omega
      refine r_nil hK15 ?_
      refine hK14 _ _ (Ghost.refl _) ?_
      refine a_region rfl fun K16 hK16 => ?_
      refine x_move ?_
      refine x_add ?_ ?_
      ·
        exact ⟨by omega, by omega⟩
      refine x_assign ?_
      refine r_nil hK16 ?_
      refine hK13 .normal _ ?_
      refine hK12 _ _ (ghost_has (ks := [(0, .ref 0 []), (1, .v _), (5, .v _)]) (km := [(0, _), (1, _)]) ⟨rfl, rfl, rfl, trivial⟩ ⟨rfl, rfl, trivial⟩ rfl) ?_
      refine a_region rfl fun K17 hK17 => ?_
      refine x_move ?_
      refine x_add ?_ ?_
      ·
        exact ⟨by omega, by omega⟩
      refine x_assign ?_
      refine r_nil hK17 ?_
      refine hK7 (_, _, _) _ _ _ (Ghost.refl _) ⟨rfl, rfl, rfl, trivial⟩ ⟨rfl, rfl, trivial⟩ ?_ ?_
      ·
        first | omega | (dsimp only; omega)
      ·
        try dsimp only
        refine ⟨?_, ?_, ?_, ?_⟩
        ·
          first | omega | rfl | assumption | (simp; done) | (simp_all; done)
        ·
          simpa using ho
        ·
          first | omega | rfl | assumption | (simp; done) | (simp_all; done)
        ·
          have e2 : k1 = (marksI k l.length)[i.toNat]! := by rw [marksI_get (by omega)]; omega
          rw [e2]
          exact set_upto (by omega) (by omega) he rfl
    · skip
      refine a_exit ?_
      refine then_exit ?_
      refine then_exit ?_
      refine hK6 (.exit 0) _ (in_exit ?_)
      refine hK3 _ _ (Ghost.refl _) ?_
      refine a_seq fun K18 hK18 => ?_
      refine a_region rfl fun K19 hK19 => ?_
      refine x_move ?_
      refine x_assign ?_
      refine r_nil hK19 ?_
      refine hK18 _ _ (Ghost.refl _) ?_
      refine a_ret ?_
      refine leave_val (.inr rfl) rfl rfl (freeL_out (o := 0) (by intro _; rfl) (by intro _; rfl) rfl) ⟨congrArg (fun z => V.val (.int .i64 z)) (by omega), head_out (by intro _; rfl) (upto_all (by rw [marksI_length]; exact ho) (fun j hj => he j (by rw [marksI_length] at hj; omega)))⟩
end Go.T
namespace Go.T
open Go Go.E Go.Proofs
set_option maxHeartbeats 8000000 in
theorem s_laws_heldIntS {l : List Int} {k : Int} (hl : l.length ≤ 1073741824) (hk : 0 ≤ k ∧ k ≤ 1073741824) (hm : l = marksI k l.length) : Go.E.Spec Try.prog 17 [eL false 1 cI l, .val (.int .i64 k)] (fun r _ => r = .val (.int .i64 (k + l.length))) := by
  refine spec_of_awp (E := Ev) evOk Try.func17 (c := _) rfl (by decide) (by simp [Try.ntmps17]) ?_
  rw [Try.ntmps17, entry_mk]
  change awp Ev 2 21 _ _ (mkSt [(0, .v (eL false 1 cI l)), (1, .v (.val (.int .i64 k)))] [(0, eL false 1 cI l), (1, .val (.int .i64 k))])
  refine a_seq fun K1 hK1 => ?_
  refine a_region rfl fun K2 hK2 => ?_
  refine x_assign ?_
  refine r_nil hK2 ?_
  refine hK1 _ _ (Ghost.refl _) ?_
  refine a_seq fun K3 hK3 => ?_
  refine a_seq fun K4 hK4 => ?_
  refine a_region rfl fun K5 hK5 => ?_
  refine x_assign ?_
  refine r_nil hK5 ?_
  refine hK4 _ _ (Ghost.refl _) ?_
  refine a_block fun K6 hK6 => ?_
  refine a_loopM (X := Int × Int) (fun (k1, i) => ([(1, .v (.val (.int .i64 k1))), (5, .v (.val (.int .i64 i)))] : List (Nat × S))) (fun (k1, i) => ([] : List (Nat × V))) (fun (k1, i) => (0 ≤ i ∧ i ≤ l.length) ∧ (k1 = k + i)) (fun (k1, i) => (l.length - i).toNat) [(0, .v _)] [(0, _), (1, _)] (_, _) (Ghost.refl _) ⟨rfl, rfl, rfl, trivial⟩ ⟨rfl, rfl, trivial⟩ (fun ⟨_, _⟩ => rfl) ?_ ?_
  ·
    try dsimp only
    refine ⟨?_, ?_⟩
    ·
      first | omega | rfl | assumption | (simp; done) | (simp_all; done)
    ·
      first | omega | rfl | assumption | (simp; done) | (simp_all; done)
  ·
    rintro ⟨k1, i⟩ hI7 K7 hK7
    dsimp only [List.cons_append, List.nil_append] at hI7 ⊢
    obtain ⟨hi, hk1⟩ := hI7
    refine a_seq fun K8 hK8 => ?_
    refine a_seq fun K9 hK9 => ?_
    refine a_region rfl fun K10 hK10 => ?_
    refine x_move ?_
    refine x_move ?_
    refine x_len ?_
    refine x_bin ?_
    refine r_nil hK10 ?_
    refine hK9 _ _ (Ghost.refl _) ?_
    refine a_condP rfl (by first | exact .beq | exact .bne | exact .dec | exact .not .beq | exact .not .bne | exact .not .dec | exact .not .id | exact .id) (fun h11 => ?_) (fun h11 => ?_)
    · skip
      refine a_skip ?_
      refine hK8 _ _ (Ghost.refl _) ?_
      refine a_seq fun K12 hK12 => ?_
      refine a_block fun K13 hK13 => ?_
      refine a_seq fun K14 hK14 => ?_
      refine a_seq fun K15 hK15 => ?_
      refine a_region rfl fun K16 hK16 => ?_
      refine x_move ?_
      refine x_move ?_
      refine x_indexAddr ?_ ?_
      ·
        exact ⟨by omega, by omega⟩
      first | refine x_ldE ?_ ?_ | refine x_ldN ?_ ?_ | refine x_ldO ?_ ?_ | refine x_ldON ?_ ?_ (hf := fun x => (rfl : cN x = List.map V.val [_, _, _, _]))
      ·
        omega
      refine x_move ?_
      refine x_bin ?_
      refine r_nil hK16 ?_
      refine hK15 _ _ (Ghost.refl _) ?_
      refine a_condP rfl (by first | exact .beq | exact .bne | exact .dec | exact .not .beq | exact .not .bne | exact .not .dec | exact .not .id | exact .id) (fun h17 => ?_) (fun h17 => ?_)
      · skip
        refine a_seq fun K18 hK18 => ?_
        refine a_region rfl fun K19 hK19 => ?_
        refine x_assign ?_
        refine r_nil hK19 ?_
        refine hK18 _ _ (Ghost.refl _) ?_
        refine a_ret ?_
        refine then_ret ?_
        refine hK13 .ret _ (in_ret ?_)
        refine then_ret ?_
        refine then_ret ?_
        refine hK6 .ret _ (in_ret ?_)
        refine then_ret ?_
        refine leave_val (.inr rfl) rfl rfl rfl (congrArg (fun z => V.val (.int .i64 z)) ?_)
        first | omega | (exfalso; apply h17; rw [hm, marksI_get (by omega)]; omega)
      · skip
        refine a_skip ?_
        refine hK14 _ _ (Ghost.refl _) ?_
        refine a_region rfl fun K20 hK20 => ?_
        refine x_move ?_
        refine x_add ?_ ?_
        ·
          exact ⟨by omega, by omega⟩
        refine x_assign ?_
        refine r_nil hK20 ?_
        refine hK13 .normal _ ?_
        refine hK12 _ _ (ghost_has (ks := [(0, .v _), (1, .v _), (5, .v _)]) (km := [(0, _), (1, _)]) ⟨rfl, rfl, rfl, trivial⟩ ⟨rfl, rfl, trivial⟩ rfl) ?_
        refine a_region rfl fun K21 hK21 => ?_
        refine x_move ?_
        refine x_add ?_ ?_
        ·
          exact ⟨by omega, by omega⟩
        refine x_assign ?_
        refine r_nil hK21 ?_
        refine hK7 (_, _) _ _ _ (Ghost.refl _) ⟨rfl, rfl, rfl, trivial⟩ ⟨rfl, rfl, trivial⟩ ?_ ?_
        ·
          first | omega | (dsimp only; omega)
        ·
          try dsimp only
          refine ⟨?_, ?_⟩
          ·
            first | omega | rfl | assumption | (simp; done) | (simp_all; done)
          ·
            first | omega | rfl | assumption | (simp; done) | (simp_all; done)
    · skip
      refine a_exit ?_
      refine then_exit ?_
      refine then_exit ?_
      refine hK6 (.exit 0) _ (in_exit ?_)
      refine hK3 _ _ (Ghost.refl _) ?_
      refine a_seq fun K22 hK22 => ?_
      refine a_region rfl fun K23 hK23 => ?_
      refine x_move ?_
      refine x_assign ?_
      refine r_nil hK23 ?_
      refine hK22 _ _ (Ghost.refl _) ?_
      refine a_ret ?_
      refine leave_val (.inr rfl) rfl rfl rfl (congrArg (fun z => V.val (.int .i64 z)) ?_)
      first | omega | (exfalso; apply h11; rw [hm, marksI_get (by omega)]; omega)
end Go.T
namespace Go.T
open Go Go.E Go.Proofs
set_option maxHeartbeats 8000000 in
theorem s_laws_FnExactNumberBlocks {l : List Int}  : Go.E.Spec Try.prog 4 [eL false 1 cI l] (fun r _ => r = .val (.bool (true))) := by
  refine spec_of_awp (E := Ev) evOk Try.func4 (c := _) rfl (by decide) (by simp [Try.ntmps4]) ?_
  rw [Try.ntmps4, entry_mk]
  change awp Ev 1 66 _ _ (mkSt [(0, .v (eL false 1 cI l))] [(0, eL false 1 cI l)])
  have hlen : (numB l).length ≤ 16 := by
    unfold numB; split
    · simp
    · rw [numL_length]; omega
  refine a_seq fun K1 hK1 => ?_
  refine a_region rfl fun K2 hK2 => ?_
  refine x_assign ?_
  refine r_nil hK2 ?_
  refine hK1 _ _ (Ghost.refl _) ?_
  refine a_seq fun K3 hK3 => ?_
  refine a_seq fun K4 hK4 => ?_
  refine a_region rfl fun K5 hK5 => ?_
  refine x_move ?_
  refine x_len ?_
  refine x_bin ?_
  refine r_nil hK5 ?_
  refine hK4 _ _ (Ghost.refl _) ?_
  refine a_condP rfl (by first | exact .beq | exact .bne | exact .dec | exact .not .beq | exact .not .bne | exact .not .dec | exact .not .id | exact .id) (fun h6 => ?_) (fun h6 => ?_)
  · skip
    refine a_seq fun K7 hK7 => ?_
    refine a_region rfl fun K8 hK8 => ?_
    refine x_assign ?_
    refine r_nil hK8 ?_
    refine hK7 _ _ (Ghost.refl _) ?_
    refine a_ret ?_
    refine then_ret ?_
    refine leave_val (.inr rfl) rfl rfl rfl (congrArg (fun z => V.val (.bool z)) ?_)
    first | rfl | (simp_all [marksI_length]; done) | (exfalso; simp only [marksI_length] at *; omega)
  · skip
    refine a_skip ?_
    refine hK3 _ _ (Ghost.refl _) ?_
    refine a_seq fun K9 hK9 => ?_
    refine a_region rfl fun K10 hK10 => ?_
    refine x_move ?_
    refine x_call (s_laws_toIntS ?_) ?_ (hl := by first | rfl | (repeat (first | exact lendL_nil | refine lendL_cons (by first | rfl | exact lend_ref rfl (ro_eL (by intro _; first | rfl | exact roL_cL (by intro _; rfl)))) ?_)))
    ·
      first | omega | rfl | assumption | (simp; done) | (simp_all; done)
    rintro _ _ rfl
    refine x_call (s_spec_NumberBlocks ?_) ?_ (hl := by first | rfl | (repeat (first | exact lendL_nil | refine lendL_cons (by first | rfl | exact lend_ref rfl (ro_eL (by intro _; first | rfl | exact roL_cL (by intro _; rfl)))) ?_)))
    ·
      first | omega | rfl | assumption | (simp; done) | (simp_all; done)
    rintro _ _ rfl
    refine x_assign ?_
    refine r_nil hK10 ?_
    refine hK9 _ _ (ghost_has (ks := [(0, .v _), (3, .ref 15 [])]) (km := [(0, _), (15, _)]) ⟨rfl, rfl, trivial⟩ ⟨rfl, rfl, trivial⟩ rfl) ?_
    refine a_seq fun K11 hK11 => ?_
    refine a_region rfl fun K12 hK12 => ?_
    refine x_move ?_
    refine x_call (s_laws_toIntS ?_) ?_ (hl := by first | rfl | (repeat (first | exact lendL_nil | refine lendL_cons (by first | rfl | exact lend_ref rfl (ro_eL (by intro _; first | rfl | exact roL_cL (by intro _; rfl)))) ?_)))
    ·
      first | omega | rfl | assumption | (simp; done) | (simp_all; done)
    rintro _ _ rfl
    refine x_assign ?_
    refine r_nil hK12 ?_
    refine hK11 _ _ (Ghost.refl _) ?_
    refine a_seq fun K13 hK13 => ?_
    refine a_region rfl fun K14 hK14 => ?_
    refine x_move ?_
    refine x_call (s_impl_NumberBlocks ?_) ?_ (hl := by first | rfl | (repeat (first | exact lendL_nil | refine lendL_cons (by first | rfl | exact lend_ref rfl (ro_eL (by intro _; first | rfl | exact roL_cL (by intro _; rfl)))) ?_)))
    ·
      first | omega | rfl | assumption | (simp; done) | (simp_all; done)
    rintro _ _ rfl
    refine x_assign ?_
    refine r_nil hK14 ?_
    refine hK13 _ _ (Ghost.refl _) ?_
    refine a_seq fun K15 hK15 => ?_
    refine a_seq fun K16 hK16 => ?_
    refine a_region rfl fun K17 hK17 => ?_
    refine x_move ?_
    refine x_move ?_
    refine x_call (s_laws_eqIntS ?_) ?_ (hl := by first | rfl | (repeat (first | exact lendL_nil | refine lendL_cons (by first | rfl | exact lend_ref rfl (ro_eL (by intro _; first | rfl | exact roL_cL (by intro _; rfl)))) ?_)))
    ·
      first | omega | rfl | assumption | (simp; done) | (simp_all; done)
    rintro _ _ rfl
    refine x_un ?_
    refine r_nil hK17 ?_
    refine hK16 _ _ (ghost_has (ks := [(0, .v _), (3, .ref 15 []), (4, .ref 17 []), (5, .ref 19 []), (23, .v _)]) (km := [(0, _), (15, _), (17, _), (19, _)]) ⟨rfl, rfl, rfl, rfl, rfl, trivial⟩ ⟨rfl, rfl, rfl, rfl, trivial⟩ rfl) ?_
    refine a_condP rfl (by first | exact .beq | exact .bne | exact .dec | exact .not .beq | exact .not .bne | exact .not .dec | exact .not .id | exact .id) (fun h18 => ?_) (fun h18 => ?_)
    · skip
      refine a_seq fun K19 hK19 => ?_
      refine a_region rfl fun K20 hK20 => ?_
      refine x_assign ?_
      refine r_nil hK20 ?_
      refine hK19 _ _ (Ghost.refl _) ?_
      refine a_ret ?_
      refine then_ret ?_
      refine leave_val (.inr rfl) rfl rfl rfl (congrArg (fun z => V.val (.bool z)) ?_)
      first | rfl | (simp_all [marksI_length]; done) | (exfalso; simp only [marksI_length] at *; omega)
    · skip
      refine a_skip ?_
      refine hK15 _ _ (Ghost.refl _) ?_
      refine a_seq fun K21 hK21 => ?_
      refine a_seq fun K22 hK22 => ?_
      refine a_region rfl fun K23 hK23 => ?_
      refine x_move ?_
      refine x_move ?_
      refine x_call (s_laws_toIntS ?_) ?_ (hl := by first | rfl | (repeat (first | exact lendL_nil | refine lendL_cons (by first | rfl | exact lend_ref rfl (ro_eL (by intro _; first | rfl | exact roL_cL (by intro _; rfl)))) ?_)))
      ·
        first | omega | rfl | assumption | (simp; done) | (simp_all; done)
      rintro _ _ rfl
      refine x_call (s_laws_eqIntS ?_) ?_ (hl := by first | rfl | (repeat (first | exact lendL_nil | refine lendL_cons (by first | rfl | exact lend_ref rfl (ro_eL (by intro _; first | rfl | exact roL_cL (by intro _; rfl)))) ?_)))
      ·
        first | omega | rfl | assumption | (simp; done) | (simp_all; done)
      rintro _ _ rfl
      refine x_un ?_
      refine r_nil hK23 ?_
      refine hK22 _ _ (Ghost.refl _) ?_
      refine a_condP rfl (by first | exact .beq | exact .bne | exact .dec | exact .not .beq | exact .not .bne | exact .not .dec | exact .not .id | exact .id) (fun h24 => ?_) (fun h24 => ?_)
      · skip
        refine a_seq fun K25 hK25 => ?_
        refine a_region rfl fun K26 hK26 => ?_
        refine x_assign ?_
        refine r_nil hK26 ?_
        refine hK25 _ _ (Ghost.refl _) ?_
        refine a_ret ?_
        refine then_ret ?_
        refine leave_val (.inr rfl) rfl rfl rfl (congrArg (fun z => V.val (.bool z)) ?_)
        first | rfl | (simp_all [marksI_length]; done) | (exfalso; simp only [marksI_length] at *; omega)
      · skip
        refine a_skip ?_
        refine hK21 _ _ (Ghost.refl _) ?_
        refine a_seq fun K27 hK27 => ?_
        refine a_region rfl fun K28 hK28 => ?_
        refine x_assign ?_
        refine r_nil hK28 ?_
        refine hK27 _ _ (Ghost.refl _) ?_
        refine a_seq fun K29 hK29 => ?_
        refine a_region rfl fun K30 hK30 => ?_
        refine x_move ?_
        refine x_move ?_
        refine x_callO (s_laws_markIntS ?_ ?_) ?_ (hl := by first | rfl | (repeat (first | exact lendL_nil | refine lendL_cons (by first | rfl | exact lend_ref rfl (ro_eL (by intro _; first | rfl | exact roL_cL (by intro _; rfl)))) ?_)))
        ·
          first | omega | rfl | assumption | (simp; done) | (simp_all; done)
        ·
          first | omega | rfl | assumption | (simp; done) | (simp_all; done)
        rintro _ _ ⟨rfl, ho⟩; refine ⟨_, ho, rfl, ?_⟩
        refine x_assign ?_
        refine r_nil hK30 ?_
        refine hK29 _ _ (ghost_has (ks := [(0, .v _), (3, .ref 15 []), (5, .ref 19 []), (6, .v _)]) (km := [(0, _), (15, _), (19, _), (31, _)]) ⟨rfl, rfl, rfl, rfl, trivial⟩ ⟨rfl, rfl, rfl, rfl, trivial⟩ rfl) ?_
        refine a_seq fun K31 hK31 => ?_
        refine a_seq fun K32 hK32 => ?_
        refine a_region rfl fun K33 hK33 => ?_
        refine x_move ?_
        refine x_bin ?_
        refine x_move ?_
        refine x_split 34 rfl (by first | exact .beq | exact .bne | exact .dec | exact .not .beq | exact .not .bne | exact .not .dec | exact .not .id | exact .id) (fun h34 => ?_) (fun h34 => ?_)
        · skip
          refine x_shut ?_
          refine x_shut ?_
          refine x_shut ?_
          refine x_shut ?_
          refine x_pickT ?_
          refine r_nil hK33 ?_
          refine hK32 _ _ (Ghost.refl _) ?_
          refine a_condT rfl ?_
          refine a_seq fun K35 hK35 => ?_
          refine a_region rfl fun K36 hK36 => ?_
          refine x_assign ?_
          refine r_nil hK36 ?_
          refine hK35 _ _ (Ghost.refl _) ?_
          refine a_ret ?_
          refine then_ret ?_
          refine leave_val (.inr rfl) rfl rfl rfl (congrArg (fun z => V.val (.bool z)) ?_)
          first | rfl | (simp_all [marksI_length]; done) | (exfalso; simp only [marksI_length] at *; omega)
        · skip
          refine x_move ?_
          refine x_move ?_
          refine x_call (s_laws_eqIntS ?_) ?_ (hl := by first | rfl | (repeat (first | exact lendL_nil | refine lendL_cons (by first | rfl | exact lend_ref rfl (ro_eL (by intro _; first | rfl | exact roL_cL (by intro _; rfl)))) ?_)))
          ·
            first | omega | rfl | assumption | (simp; done) | (simp_all; done)
          rintro _ _ rfl
          refine x_un ?_
          refine x_pickF ?_
          refine r_nil hK33 ?_
          refine hK32 _ _ (Ghost.refl _) ?_
          refine a_condP rfl (by first | exact .beq | exact .bne | exact .dec | exact .not .beq | exact .not .bne | exact .not .dec | exact .not .id | exact .id) (fun h37 => ?_) (fun h37 => ?_)
          · skip
            refine a_seq fun K38 hK38 => ?_
            refine a_region rfl fun K39 hK39 => ?_
            refine x_assign ?_
            refine r_nil hK39 ?_
            refine hK38 _ _ (Ghost.refl _) ?_
            refine a_ret ?_
            refine then_ret ?_
            refine leave_val (.inr rfl) rfl rfl rfl (congrArg (fun z => V.val (.bool z)) ?_)
            first | rfl | (simp_all [marksI_length]; done) | (exfalso; simp only [marksI_length] at *; omega)
          · skip
            refine a_skip ?_
            refine hK31 _ _ (Ghost.refl _) ?_
            refine a_seq fun K40 hK40 => ?_
            refine a_region rfl fun K41 hK41 => ?_
            refine x_assign ?_
            refine r_nil hK41 ?_
            refine hK40 _ _ (Ghost.refl _) ?_
            refine a_seq fun K42 hK42 => ?_
            refine a_region rfl fun K43 hK43 => ?_
            refine x_move ?_
            refine x_move ?_
            refine x_callO (s_laws_markIntS ?_ ?_) ?_ (hl := by first | rfl | (repeat (first | exact lendL_nil | refine lendL_cons (by first | rfl | exact lend_ref rfl (ro_eL (by intro _; first | rfl | exact roL_cL (by intro _; rfl)))) ?_)))
            ·
              first | omega | rfl | assumption | (simp; done) | (simp_all; done)
            ·
              first | omega | rfl | assumption | (simp; done) | (simp_all; done)
            rintro _ _ ⟨rfl, ho⟩; refine ⟨_, ho, rfl, ?_⟩
            refine x_assign ?_
            refine r_nil hK43 ?_
            refine hK42 _ _ (ghost_has (ks := [(0, .v _), (3, .ref 15 []), (5, .ref 19 []), (7, .v _)]) (km := [(0, _), (15, _), (19, _), (42, _)]) ⟨rfl, rfl, rfl, rfl, trivial⟩ ⟨rfl, rfl, rfl, rfl, trivial⟩ rfl) ?_
            refine a_seq fun K44 hK44 => ?_
            refine a_region rfl fun K45 hK45 => ?_
            refine x_assign ?_
            refine r_nil hK45 ?_
            refine hK44 _ _ (Ghost.refl _) ?_
            refine a_seq fun K46 hK46 => ?_
            refine a_region rfl fun K47 hK47 => ?_
            refine x_move ?_
            refine x_move ?_
            refine x_call (s_laws_heldIntS ?_ ?_ ?_) ?_ (hl := by first | rfl | (repeat (first | exact lendL_nil | refine lendL_cons (by first | rfl | exact lend_ref rfl (ro_eL (by intro _; first | rfl | exact roL_cL (by intro _; rfl)))) ?_)))
            ·
              first | omega | (simp only [marksI_length]; done) | (simp only [marksI_length]; omega)
            ·
              first | omega | (simp only [marksI_length]; done) | (simp only [marksI_length]; omega)
            ·
              first | omega | (simp only [marksI_length]; done) | (simp only [marksI_length]; omega)
            rintro _ _ rfl
            refine x_assign ?_
            refine r_nil hK47 ?_
            refine hK46 _ _ (Ghost.refl _) ?_
            refine a_seq fun K48 hK48 => ?_
            refine a_seq fun K49 hK49 => ?_
            refine a_region rfl fun K50 hK50 => ?_
            refine x_move ?_
            refine x_bin ?_
            refine r_nil hK50 ?_
            refine hK49 _ _ (Ghost.refl _) ?_
            refine a_condP rfl (by first | exact .beq | exact .bne | exact .dec | exact .not .beq | exact .not .bne | exact .not .dec | exact .not .id | exact .id) (fun h51 => ?_) (fun h51 => ?_)
            · skip
              refine a_seq fun K52 hK52 => ?_
              refine a_region rfl fun K53 hK53 => ?_
              refine x_assign ?_
              refine r_nil hK53 ?_
              refine hK52 _ _ (Ghost.refl _) ?_
              refine a_ret ?_
              refine then_ret ?_
              refine leave_val (.inr rfl) rfl rfl rfl (congrArg (fun z => V.val (.bool z)) ?_)
              first | rfl | (simp_all [marksI_length]; done) | (exfalso; simp only [marksI_length] at *; omega)
            · skip
              refine a_skip ?_
              refine hK48 _ _ (Ghost.refl _) ?_
              refine a_seq fun K54 hK54 => ?_
              refine a_seq fun K55 hK55 => ?_
              refine a_region rfl fun K56 hK56 => ?_
              refine x_move ?_
              refine x_move ?_
              refine x_bin ?_
              refine r_nil hK56 ?_
              refine hK55 _ _ (ghost_has (ks := [(0, .v _), (3, .ref 15 []), (5, .ref 19 []), (7, .v _), (50, .v _)]) (km := [(0, _), (15, _), (19, _), (42, _)]) ⟨rfl, rfl, rfl, rfl, rfl, trivial⟩ ⟨rfl, rfl, rfl, rfl, trivial⟩ rfl) ?_
              refine a_condP rfl (by first | exact .beq | exact .bne | exact .dec | exact .not .beq | exact .not .bne | exact .not .dec | exact .not .id | exact .id) (fun h57 => ?_) (fun h57 => ?_)
              · skip
                refine a_seq fun K58 hK58 => ?_
                refine a_region rfl fun K59 hK59 => ?_
                refine x_assign ?_
                refine r_nil hK59 ?_
                refine hK58 _ _ (Ghost.refl _) ?_
                refine a_ret ?_
                refine then_ret ?_
                refine leave_val (.inr rfl) rfl rfl rfl (congrArg (fun z => V.val (.bool z)) ?_)
                first | rfl | (simp_all [marksI_length]; done) | (exfalso; simp only [marksI_length] at *; omega)
              · skip
                refine a_skip ?_
                refine hK54 _ _ (Ghost.refl _) ?_
                refine a_seq fun K60 hK60 => ?_
                refine a_region rfl fun K61 hK61 => ?_
                refine x_move ?_
                refine x_call (s_laws_toIntS ?_) ?_ (hl := by first | rfl | (repeat (first | exact lendL_nil | refine lendL_cons (by first | rfl | exact lend_ref rfl (ro_eL (by intro _; first | rfl | exact roL_cL (by intro _; rfl)))) ?_)))
                ·
                  first | omega | rfl | assumption | (simp; done) | (simp_all; done)
                rintro _ _ rfl
                refine x_call (s_impl_NumberBlocks ?_) ?_ (hl := by first | rfl | (repeat (first | exact lendL_nil | refine lendL_cons (by first | rfl | exact lend_ref rfl (ro_eL (by intro _; first | rfl | exact roL_cL (by intro _; rfl)))) ?_)))
                ·
                  first | omega | rfl | assumption | (simp; done) | (simp_all; done)
                rintro _ _ rfl
                refine x_assign ?_
                refine r_nil hK61 ?_
                refine hK60 _ _ (Ghost.refl _) ?_
                refine a_seq fun K62 hK62 => ?_
                refine a_seq fun K63 hK63 => ?_
                refine a_region rfl fun K64 hK64 => ?_
                refine x_move ?_
                refine x_move ?_
                refine x_call (s_laws_eqIntS ?_) ?_ (hl := by first | rfl | (repeat (first | exact lendL_nil | refine lendL_cons (by first | rfl | exact lend_ref rfl (ro_eL (by intro _; first | rfl | exact roL_cL (by intro _; rfl)))) ?_)))
                ·
                  first | omega | rfl | assumption | (simp; done) | (simp_all; done)
                rintro _ _ rfl
                refine x_un ?_
                refine r_nil hK64 ?_
                refine hK63 _ _ (ghost_has (ks := [(5, .ref 19 []), (7, .v _), (57, .v _)]) (km := [(0, _), (19, _), (42, _)]) ⟨rfl, rfl, rfl, trivial⟩ ⟨rfl, rfl, rfl, trivial⟩ rfl) ?_
                refine a_condP rfl (by first | exact .beq | exact .bne | exact .dec | exact .not .beq | exact .not .bne | exact .not .dec | exact .not .id | exact .id) (fun h65 => ?_) (fun h65 => ?_)
                · skip
                  refine a_seq fun K66 hK66 => ?_
                  refine a_region rfl fun K67 hK67 => ?_
                  refine x_assign ?_
                  refine r_nil hK67 ?_
                  refine hK66 _ _ (Ghost.refl _) ?_
                  refine a_ret ?_
                  refine then_ret ?_
                  refine leave_val (.inr rfl) rfl rfl rfl (congrArg (fun z => V.val (.bool z)) ?_)
                  first | rfl | (simp_all [marksI_length]; done) | (exfalso; simp only [marksI_length] at *; omega)
                · skip
                  refine a_skip ?_
                  refine hK62 _ _ (Ghost.refl _) ?_
                  refine a_seq fun K68 hK68 => ?_
                  refine a_region rfl fun K69 hK69 => ?_
                  refine x_assign ?_
                  refine r_nil hK69 ?_
                  refine hK68 _ _ (Ghost.refl _) ?_
                  refine a_seq fun K70 hK70 => ?_
                  refine a_region rfl fun K71 hK71 => ?_
                  refine x_move ?_
                  refine x_move ?_
                  refine x_call (s_laws_heldIntS ?_ ?_ ?_) ?_ (hl := by first | rfl | (repeat (first | exact lendL_nil | refine lendL_cons (by first | rfl | exact lend_ref rfl (ro_eL (by intro _; first | rfl | exact roL_cL (by intro _; rfl)))) ?_)))
                  ·
                    first | omega | (simp only [marksI_length]; done) | (simp only [marksI_length]; omega)
                  ·
                    first | omega | (simp only [marksI_length]; done) | (simp only [marksI_length]; omega)
                  ·
                    first | omega | (simp only [marksI_length]; done) | (simp only [marksI_length]; omega)
                  rintro _ _ rfl
                  refine x_assign ?_
                  refine r_nil hK71 ?_
                  refine hK70 _ _ (Ghost.refl _) ?_
                  refine a_seq fun K72 hK72 => ?_
                  refine a_seq fun K73 hK73 => ?_
                  refine a_region rfl fun K74 hK74 => ?_
                  refine x_move ?_
                  refine x_bin ?_
                  refine r_nil hK74 ?_
                  refine hK73 _ _ (Ghost.refl _) ?_
                  refine a_condP rfl (by first | exact .beq | exact .bne | exact .dec | exact .not .beq | exact .not .bne | exact .not .dec | exact .not .id | exact .id) (fun h75 => ?_) (fun h75 => ?_)
                  · skip
                    refine a_seq fun K76 hK76 => ?_
                    refine a_region rfl fun K77 hK77 => ?_
                    refine x_assign ?_
                    refine r_nil hK77 ?_
                    refine hK76 _ _ (Ghost.refl _) ?_
                    refine a_ret ?_
                    refine then_ret ?_
                    refine leave_val (.inr rfl) rfl rfl rfl (congrArg (fun z => V.val (.bool z)) ?_)
                    first | rfl | (simp_all [marksI_length]; done) | (exfalso; simp only [marksI_length] at *; omega)
                  · skip
                    refine a_skip ?_
                    refine hK72 _ _ (Ghost.refl _) ?_
                    refine a_seq fun K78 hK78 => ?_
                    refine a_seq fun K79 hK79 => ?_
                    refine a_region rfl fun K80 hK80 => ?_
                    refine x_move ?_
                    refine x_move ?_
                    refine x_bin ?_
                    refine r_nil hK80 ?_
                    refine hK79 _ _ (ghost_has (ks := [(65, .v _)]) (km := [(0, _)]) ⟨rfl, trivial⟩ ⟨rfl, trivial⟩ rfl) ?_
                    refine a_condP rfl (by first | exact .beq | exact .bne | exact .dec | exact .not .beq | exact .not .bne | exact .not .dec | exact .not .id | exact .id) (fun h81 => ?_) (fun h81 => ?_)
                    · skip
                      refine a_seq fun K82 hK82 => ?_
                      refine a_region rfl fun K83 hK83 => ?_
                      refine x_assign ?_
                      refine r_nil hK83 ?_
                      refine hK82 _ _ (Ghost.refl _) ?_
                      refine a_ret ?_
                      refine then_ret ?_
                      refine leave_val (.inr rfl) rfl rfl rfl (congrArg (fun z => V.val (.bool z)) ?_)
                      first | rfl | (simp_all [marksI_length]; done) | (exfalso; simp only [marksI_length] at *; omega)
                    · skip
                      refine a_skip ?_
                      refine hK78 _ _ (Ghost.refl _) ?_
                      refine a_seq fun K84 hK84 => ?_
                      refine a_region rfl fun K85 hK85 => ?_
                      refine x_assign ?_
                      refine r_nil hK85 ?_
                      refine hK84 _ _ (Ghost.refl _) ?_
                      refine a_ret ?_
                      refine leave_val (.inr rfl) rfl rfl rfl (congrArg (fun z => V.val (.bool z)) ?_)
                      first | rfl | (simp_all [marksI_length]; done) | (exfalso; simp only [marksI_length] at *; omega)
end Go.T
