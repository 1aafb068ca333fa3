import Derived.Test.YtkelgdejdnkilaaChecked
import Derived.Test.YtkelgdejdnkilaaPlain
/- What the functions that the law reaches compute. -/
set_option linter.unusedVariables false
set_option linter.unusedSimpArgs false
namespace Go.T
open Go Go.E Go.Proofs
theorem tabOk : [2, 3, 4, 5, 9, 15, 16, 17, 21, 24, 27, 31, 38, 39, 41, 45, 53, 57].map (TI.of Try.prog) = [some ⟨.int .i64, 1, 8, [.int .i64 0]⟩, some ⟨.int .i64, 1, 8, [.int .i64 0]⟩, some ⟨.bool, 1, 1, [.bool false]⟩, some ⟨.int .u8, 1, 1, [.int .u8 0]⟩, some ⟨.string, 1, 16, [.string ByteArray.empty]⟩, some ⟨.ptr, 1, 8, [.pointer none]⟩, some ⟨.ptr, 1, 8, [.pointer none]⟩, some ⟨.ptr, 1, 8, [.pointer none]⟩, some ⟨.int .i32, 1, 4, [.int .i32 0]⟩, some ⟨.slice 41, 1, 24, [.slice none 0 0]⟩, some ⟨.slice 39, 1, 24, [.slice none 0 0]⟩, some ⟨.slice 9, 1, 24, [.slice none 0 0]⟩, some ⟨.strct [(0, 3), (1, 3), (2, 3), (3, 3)], 4, 32, [.int .i64 0, .int .i64 0, .int .i64 0, .int .i64 0]⟩, some ⟨.strct [(0, 3), (1, 3), (2, 3), (3, 3)], 4, 32, [.int .i64 0, .int .i64 0, .int .i64 0, .int .i64 0]⟩, some ⟨.strct [(0, 3), (1, 3), (2, 3), (3, 3)], 4, 32, [.int .i64 0, .int .i64 0, .int .i64 0, .int .i64 0]⟩, some ⟨.slice 5, 1, 24, [.slice none 0 0]⟩, some ⟨.int .u32, 1, 4, [.int .u32 0]⟩, some ⟨.ptr, 1, 8, [.pointer none]⟩] := by kernel_rfl
noncomputable def tab : List (Nat × TI) := [(2, ⟨.int .i64, 1, 8, [.int .i64 0]⟩), (3, ⟨.int .i64, 1, 8, [.int .i64 0]⟩), (4, ⟨.bool, 1, 1, [.bool false]⟩), (5, ⟨.int .u8, 1, 1, [.int .u8 0]⟩), (9, ⟨.string, 1, 16, [.string ByteArray.empty]⟩), (15, ⟨.ptr, 1, 8, [.pointer none]⟩), (16, ⟨.ptr, 1, 8, [.pointer none]⟩), (17, ⟨.ptr, 1, 8, [.pointer none]⟩), (21, ⟨.int .i32, 1, 4, [.int .i32 0]⟩), (24, ⟨.slice 41, 1, 24, [.slice none 0 0]⟩), (27, ⟨.slice 39, 1, 24, [.slice none 0 0]⟩), (31, ⟨.slice 9, 1, 24, [.slice none 0 0]⟩), (38, ⟨.strct [(0, 3), (1, 3), (2, 3), (3, 3)], 4, 32, [.int .i64 0, .int .i64 0, .int .i64 0, .int .i64 0]⟩), (39, ⟨.strct [(0, 3), (1, 3), (2, 3), (3, 3)], 4, 32, [.int .i64 0, .int .i64 0, .int .i64 0, .int .i64 0]⟩), (41, ⟨.strct [(0, 3), (1, 3), (2, 3), (3, 3)], 4, 32, [.int .i64 0, .int .i64 0, .int .i64 0, .int .i64 0]⟩), (45, ⟨.slice 5, 1, 24, [.slice none 0 0]⟩), (53, ⟨.int .u32, 1, 4, [.int .u32 0]⟩), (57, ⟨.ptr, 1, 8, [.pointer none]⟩)]
noncomputable def Ev : Env := ⟨Try.prog, tabOf tab⟩
theorem evOk : Ev.Ok := Env.ok_of (by
  intro x hx
  have h := tabOk
  simp only [List.map_cons, List.map_nil, List.cons.injEq, and_true] at h
  obtain ⟨h0, h1, h2, h3, h4, h5, h6, h7, h8, h9, h10, h11, h12, h13, h14, h15, h16, h17⟩ := h
  simp only [tab, List.mem_cons, List.not_mem_nil, or_false] at hx
  rcases hx with rfl | rfl | rfl | rfl | rfl | rfl | rfl | rfl | rfl | rfl | rfl | rfl | rfl | rfl | rfl | rfl | rfl | rfl <;> assumption)
end Go.T
namespace Go.T
open Go Go.E Go.Proofs
theorem s_spec_SplitAny {s : ByteArray} {y : ByteArray} (hs : s.size ≤ 1073741823) (hy : y.size ≤ 1073741823) : Go.E.Spec Try.prog 18 [.val (.string s), .val (.string y)] (fun r _ => r = eL true 1 cS (splitAny s y)) := by
  refine spec_of_awp (E := Ev) evOk Try.func18 (c := _) rfl (by decide) (by simp [Try.ntmps18]) ?_
  rw [Try.ntmps18, entry_mk]
  change awp Ev 2 44 _ _ (mkSt [(0, .v (.val (.string s))), (1, .v (.val (.string y)))] [(0, .val (.string s)), (1, .val (.string y))])
  refine a_seq fun K1 hK1 => ?_
  refine a_region rfl fun K2 hK2 => ?_
  refine x_assign ?_
  refine r_nil hK2 ?_
  refine hK1 _ _ (Ghost.refl _) ?_
  refine a_seq fun K3 hK3 => ?_
  refine a_region rfl fun K4 hK4 => ?_
  refine x_bv0 cS ?_
  refine x_assign ?_
  refine r_nil hK4 ?_
  refine hK3 _ _ (Ghost.refl _) ?_
  refine a_seq fun K5 hK5 => ?_
  refine a_region rfl fun K6 hK6 => ?_
  refine x_assign ?_
  refine r_nil hK6 ?_
  refine hK5 _ _ (Ghost.refl _) ?_
  refine a_seq fun K7 hK7 => ?_
  refine a_seq fun K8 hK8 => ?_
  refine a_region rfl fun K9 hK9 => ?_
  refine x_assign ?_
  refine r_nil hK9 ?_
  refine hK8 _ _ (Ghost.refl _) ?_
  refine a_block fun K10 hK10 => ?_
  refine a_loopM (X := (List ByteArray) × Int × Int) (fun (o, f, i) => ([(5, .ref 5 []), (6, .v (.val (.int .i64 f))), (7, .v (.val (.int .i64 i)))] : List (Nat × S))) (fun (o, f, i) => ([(5, eL true 1 cS o)] : List (Nat × V))) (fun (o, f, i) => (0 ≤ i ∧ i ≤ s.size) ∧ (splitSt s y i.toNat = (o, f)) ∧ (0 ≤ f ∧ f ≤ i ∧ o.length ≤ i)) (fun (o, f, i) => (s.size - i).toNat) [(0, _), (1, _)] [(0, _), (1, _)] (_, _, _) (ghost_ren (d := 9) (e := 5) (by decide) (by decide) rfl) ⟨rfl, rfl, rfl, rfl, rfl, trivial⟩ ⟨rfl, rfl, rfl, trivial⟩ (fun ⟨_, _, _⟩ => rfl) ?_ ?_
  ·
    try dsimp only
    refine ⟨?_, ?_, ?_⟩
    ·
      first | omega | rfl | assumption | (simp; done) | (simp_all; done)
    ·
      rfl
    ·
      first | omega | rfl | assumption | (simp; done) | (simp_all; done)
  ·
    rintro ⟨o, f, i⟩ hI11 K11 hK11
    dsimp only [List.cons_append, List.nil_append] at hI11 ⊢
    obtain ⟨hi, hst, hf⟩ := hI11
    refine a_seq fun K12 hK12 => ?_
    refine a_seq fun K13 hK13 => ?_
    refine a_region rfl fun K14 hK14 => ?_
    refine x_move ?_
    refine x_move ?_
    refine x_len ?_
    refine x_bin ?_
    refine r_nil hK14 ?_
    refine hK13 _ _ (Ghost.refl _) ?_
    refine a_condP rfl (by first | exact .beq | exact .bne | exact .dec | exact .not .beq | exact .not .bne | exact .not .dec | exact .not .id | exact .id) (fun h15 => ?_) (fun h15 => ?_)
    · skip
      refine a_skip ?_
      refine hK12 _ _ (Ghost.refl _) ?_
      refine a_seq fun K16 hK16 => ?_
      refine a_block fun K17 hK17 => ?_
      refine a_seq fun K18 hK18 => ?_
      refine a_region rfl fun K19 hK19 => ?_
      refine x_assign ?_
      refine r_nil hK19 ?_
      refine hK18 _ _ (Ghost.refl _) ?_
      refine a_block fun K20 hK20 => ?_
      refine a_loopM (X := (List ByteArray) × Int × Int) (fun (o1, f1, k) => ([(5, .ref 5 []), (6, .v (.val (.int .i64 f1))), (8, .v (.val (.int .i64 k)))] : List (Nat × S))) (fun (o1, f1, k) => ([(5, eL true 1 cS o1)] : List (Nat × V))) (fun (o1, f1, k) => (o1 = o) ∧ (f1 = f) ∧ (0 ≤ k ∧ k ≤ y.size) ∧ (∀ j : Nat, j < k.toNat → bt y j ≠ bt s i)) (fun (o1, f1, k) => (y.size - k).toNat) [(0, _), (1, _), (7, _)] [(0, _), (1, _)] (_, _, _) (Ghost.refl _) ⟨rfl, rfl, rfl, rfl, rfl, rfl, trivial⟩ ⟨rfl, rfl, rfl, trivial⟩ (fun ⟨_, _, _⟩ => rfl) ?_ ?_
      ·
        try dsimp only
        refine ⟨?_, ?_, ?_, ?_⟩
        ·
          first | omega | rfl | assumption | (simp; done) | (simp_all; done)
        ·
          first | omega | rfl | assumption | (simp; done) | (simp_all; done)
        ·
          first | omega | rfl | assumption | (simp; done) | (simp_all; done)
        ·
          intro j hj; simp at hj
      ·
        rintro ⟨o1, f1, k⟩ hI21 K21 hK21
        dsimp only [List.cons_append, List.nil_append] at hI21 ⊢
        obtain ⟨e5, e6, hk, hno⟩ := hI21
        subst e5 e6
        refine a_seq fun K22 hK22 => ?_
        refine a_seq fun K23 hK23 => ?_
        refine a_region rfl fun K24 hK24 => ?_
        refine x_move ?_
        refine x_move ?_
        refine x_len ?_
        refine x_bin ?_
        refine r_nil hK24 ?_
        refine hK23 _ _ (Ghost.refl _) ?_
        refine a_condP rfl (by first | exact .beq | exact .bne | exact .dec | exact .not .beq | exact .not .bne | exact .not .dec | exact .not .id | exact .id) (fun h25 => ?_) (fun h25 => ?_)
        · skip
          refine a_skip ?_
          refine hK22 _ _ (Ghost.refl _) ?_
          refine a_seq fun K26 hK26 => ?_
          refine a_block fun K27 hK27 => ?_
          refine a_seq fun K28 hK28 => ?_
          refine a_drawn rfl rfl rfl fun K29 hK29 => ?_
          refine x_move ?_
          refine x_move ?_
          refine x_index ?_ ?_
          ·
            exact ⟨by omega, by omega⟩
          refine x_move ?_
          refine x_move ?_
          refine x_index ?_ ?_
          ·
            exact ⟨by omega, by omega⟩
          refine x_bin ?_
          refine r_nil hK29 ?_
          refine hK28 _ _ (Ghost.refl _) ?_
          refine a_condP rfl (by first | exact .beq | exact .bne | exact .dec | exact .not .beq | exact .not .bne | exact .not .dec | exact .not .id | exact .id) (fun h30 => ?_) (fun h30 => ?_)
          · skip
            refine a_seq fun K31 hK31 => ?_
            refine a_region rfl fun K32 hK32 => ?_
            refine x_move ?_
            refine x_move ?_
            refine x_move ?_
            refine x_move ?_
            refine x_cut2 ?_ ?_
            ·
              exact ⟨by omega, by omega⟩
            first | refine x_bv ?_ | refine x_build1 ?_
            first | refine x_app1 ?_ ?_ | refine x_app1t ?_ ?_
            ·
              omega
            refine x_assign ?_
            refine r_nil hK32 ?_
            refine hK31 _ _ (Ghost.refl _) ?_
            refine a_seq fun K33 hK33 => ?_
            refine a_region rfl fun K34 hK34 => ?_
            refine x_move ?_
            refine x_add ?_ ?_
            ·
              exact ⟨by omega, by omega⟩
            refine x_assign ?_
            refine r_nil hK34 ?_
            refine hK33 _ _ (Ghost.refl _) ?_
            refine a_exit ?_
            refine hK27 (.exit 2) _ (in_other (by decide) ?_)
            refine then_exit ?_
            refine then_exit ?_
            refine hK20 (.exit 2) _ (in_exit ?_)
            refine hK17 .normal _ ?_
            refine hK16 _ _ (Ghost.refl _) ?_
            refine a_region rfl fun K35 hK35 => ?_
            refine x_move ?_
            refine x_add ?_ ?_
            ·
              exact ⟨by omega, by omega⟩
            refine x_assign ?_
            refine r_nil hK35 ?_
            have hsep : isSep y (bt s i) = true := isSep_iff.2 ⟨k.toNat, by omega, by rw [show ((k.toNat : Nat) : Int) = k by omega]; exact (h30).symm⟩
            refine hK11 (_, _, _) _ _ _ (ghost_ren (d := 35) (e := 5) (by decide) (by decide) rfl) ⟨rfl, rfl, rfl, rfl, rfl, trivial⟩ ⟨rfl, rfl, rfl, trivial⟩ ?_ ?_
            ·
              first | omega | (dsimp only; omega)
            ·
              try dsimp only
              refine ⟨?_, ?_, ?_⟩
              ·
                first | omega | rfl | assumption | (simp; done) | (simp_all; done)
              ·
                first | (rw [splitSt_yes (by omega) hsep, hst]) | (rw [splitSt_no (by omega) hsep, hst])
              ·
                first | (simp only [List.length_append, List.length_cons, List.length_nil]; omega) | omega
          · skip
            refine a_skip ?_
            refine hK27 .normal _ ?_
            refine hK26 _ _ (Ghost.refl _) ?_
            refine a_region rfl fun K36 hK36 => ?_
            refine x_move ?_
            refine x_add ?_ ?_
            ·
              exact ⟨by omega, by omega⟩
            refine x_assign ?_
            refine r_nil hK36 ?_
            refine hK21 (_, _, _) _ _ _ (Ghost.refl _) ⟨rfl, rfl, rfl, rfl, rfl, rfl, trivial⟩ ⟨rfl, rfl, rfl, trivial⟩ ?_ ?_
            ·
              first | omega | (dsimp only; omega)
            ·
              try dsimp only
              refine ⟨?_, ?_, ?_, ?_⟩
              ·
                first | omega | rfl | assumption | (simp; done) | (simp_all; done)
              ·
                first | omega | rfl | assumption | (simp; done) | (simp_all; done)
              ·
                first | omega | rfl | assumption | (simp; done) | (simp_all; done)
              ·
                intro j hj
                by_cases e : j = k.toNat
                · subst e; intro e2; apply h30; show bt s i = bt y k; rw [← e2]; congr 1; omega
                · exact hno j (by omega)
        · skip
          refine a_exit ?_
          refine then_exit ?_
          refine then_exit ?_
          refine hK20 (.exit 2) _ (in_exit ?_)
          refine hK17 .normal _ ?_
          refine hK16 _ _ (Ghost.refl _) ?_
          refine a_region rfl fun K37 hK37 => ?_
          refine x_move ?_
          refine x_add ?_ ?_
          ·
            exact ⟨by omega, by omega⟩
          refine x_assign ?_
          refine r_nil hK37 ?_
          have hsep : ¬ isSep y (bt s i) = true := fun q => by obtain ⟨j, hj, hb⟩ := isSep_iff.1 q; exact hno j (by omega) hb
          refine hK11 (_, _, _) _ _ _ (Ghost.refl _) ⟨rfl, rfl, rfl, rfl, rfl, trivial⟩ ⟨rfl, rfl, rfl, trivial⟩ ?_ ?_
          ·
            first | omega | (dsimp only; omega)
          ·
            try dsimp only
            refine ⟨?_, ?_, ?_⟩
            ·
              first | omega | rfl | assumption | (simp; done) | (simp_all; done)
            ·
              first | (rw [splitSt_yes (by omega) hsep, hst]) | (rw [splitSt_no (by omega) hsep, hst])
            ·
              first | (simp only [List.length_append, List.length_cons, List.length_nil]; omega) | omega
    · skip
      refine a_exit ?_
      refine then_exit ?_
      refine then_exit ?_
      refine hK10 (.exit 0) _ (in_exit ?_)
      refine hK7 _ _ (Ghost.refl _) ?_
      refine a_seq fun K38 hK38 => ?_
      refine a_region rfl fun K39 hK39 => ?_
      refine x_move ?_
      refine x_move ?_
      refine x_move ?_
      refine x_cut2 ?_ ?_
      ·
        exact ⟨by omega, by omega⟩
      first | refine x_bv ?_ | refine x_build1 ?_
      first | refine x_app1 ?_ ?_ | refine x_app1t ?_ ?_
      ·
        omega
      refine x_assign ?_
      refine r_nil hK39 ?_
      refine hK38 _ _ (Ghost.refl _) ?_
      refine a_ret ?_
      refine leave_own (.inr rfl) rfl rfl rfl rfl (free_eL (by intro _; first | rfl | exact freeL_cL (by intro _; rfl))) rfl (congrArg (eL true 1 cS) ?_)
      have hi2 : i.toNat = s.size := by omega
      rw [hi2] at hst; unfold splitAny; rw [hst]
end Go.T
namespace Go.T
open Go Go.E Go.Proofs
theorem ext_IndexByte (s : ByteArray) (c : Int) (w : World) : (callFunc 32 [.string s, .int .u8 c].toArray).run Try.prog w = .ok (.value (.int .i64 (firstIdx s c.toNat.toUInt8))) w := by
  rw [run_callFunc_extern (fn := Try.f32) (e := Extern.BytealgIndexByte.indexByte) Try.func32 (by kernel_rfl) (by kernel_rfl) (by kernel_rfl) (by kernel_rfl)]
  show ((Extern.BytealgIndexByte.indexByte #[.string s, .int .u8 c]).run Try.prog w).andThen _ = _
  rw [run_indexByte_string]; rfl
end Go.T
namespace Go.T
open Go Go.E Go.Proofs
theorem s_internal_stringslite_IndexByte {s : ByteArray} {c : Int}  : Go.E.Spec Try.prog 31 [.val (.string s), .val (.int .u8 c)] (fun r _ => r = .val (.int .i64 (firstIdx s c.toNat.toUInt8))) := by
  refine spec_of_awp (E := Ev) evOk Try.func31 (c := _) rfl (by decide) (by simp [Try.ntmps31]) ?_
  rw [Try.ntmps31, entry_mk]
  change awp Ev 2 8 _ _ (mkSt [(0, .v (.val (.string s))), (1, .v (.val (.int .u8 c)))] [(0, .val (.string s)), (1, .val (.int .u8 c))])
  refine a_seq fun K1 hK1 => ?_
  refine a_region rfl fun K2 hK2 => ?_
  refine x_assign ?_
  refine r_nil hK2 ?_
  refine hK1 _ _ (Ghost.refl _) ?_
  refine a_seq fun K3 hK3 => ?_
  refine a_region rfl fun K4 hK4 => ?_
  refine x_move ?_
  refine x_move ?_
  refine x_ext (ext_IndexByte _ _) ?_
  refine x_assign ?_
  refine r_nil hK4 ?_
  refine hK3 _ _ (Ghost.refl _) ?_
  refine a_ret ?_
  refine leave_val (.inr rfl) rfl rfl rfl (congrArg (fun z => V.val (.int .i64 z)) ?_)
  first | rfl | omega | assumption | (simp; done) | (simp_all; done)
end Go.T
namespace Go.T
open Go Go.E Go.Proofs
theorem s_strings_IndexByte {s : ByteArray} {c : Int}  : Go.E.Spec Try.prog 29 [.val (.string s), .val (.int .u8 c)] (fun r _ => r = .val (.int .i64 (firstIdx s c.toNat.toUInt8))) := by
  refine spec_of_awp (E := Ev) evOk Try.func29 (c := _) rfl (by decide) (by simp [Try.ntmps29]) ?_
  rw [Try.ntmps29, entry_mk]
  change awp Ev 2 8 _ _ (mkSt [(0, .v (.val (.string s))), (1, .v (.val (.int .u8 c)))] [(0, .val (.string s)), (1, .val (.int .u8 c))])
  refine a_seq fun K1 hK1 => ?_
  refine a_region rfl fun K2 hK2 => ?_
  refine x_assign ?_
  refine r_nil hK2 ?_
  refine hK1 _ _ (Ghost.refl _) ?_
  refine a_seq fun K3 hK3 => ?_
  refine a_region rfl fun K4 hK4 => ?_
  refine x_move ?_
  refine x_move ?_
  refine x_call (s_internal_stringslite_IndexByte) ?_ (hl := by first | rfl | (repeat (first | exact lendL_nil | refine lendL_cons (by first | rfl | exact lend_ref rfl (ro_eL (by intro _; first | rfl | exact roL_cL (by intro _; rfl)))) ?_)))
  rintro _ _ rfl
  refine x_assign ?_
  refine r_nil hK4 ?_
  refine hK3 _ _ (Ghost.refl _) ?_
  refine a_ret ?_
  refine leave_val (.inr rfl) rfl rfl rfl (congrArg (fun z => V.val (.int .i64 z)) ?_)
  first | rfl | omega | assumption | (simp; done) | (simp_all; done)
end Go.T
namespace Go.T
open Go Go.E Go.Proofs
theorem s_impl_SplitAny {s : ByteArray} {y : ByteArray} (hs : s.size ≤ 1073741823) : Go.E.Spec Try.prog 19 [.val (.string s), .val (.string y)] (fun r _ => r = eL true 1 cS (splitAny s y)) := by
  refine spec_of_awp (E := Ev) evOk Try.func19 (c := _) rfl (by decide) (by simp [Try.ntmps19]) ?_
  rw [Try.ntmps19, entry_mk]
  change awp Ev 2 36 _ _ (mkSt [(0, .v (.val (.string s))), (1, .v (.val (.string y)))] [(0, .val (.string s)), (1, .val (.string y))])
  refine a_seq fun K1 hK1 => ?_
  refine a_region rfl fun K2 hK2 => ?_
  refine x_assign ?_
  refine r_nil hK2 ?_
  refine hK1 _ _ (Ghost.refl _) ?_
  refine a_seq fun K3 hK3 => ?_
  refine a_region rfl fun K4 hK4 => ?_
  refine x_bv0 cS ?_
  refine x_assign ?_
  refine x_assign ?_
  refine r_nil hK4 ?_
  refine hK3 _ _ (Ghost.refl _) ?_
  refine a_seq fun K5 hK5 => ?_
  refine a_seq fun K6 hK6 => ?_
  refine a_region rfl fun K7 hK7 => ?_
  refine x_move ?_
  refine x_len ?_
  refine x_move ?_
  refine r_nil hK7 ?_
  refine hK6 _ _ (Ghost.refl _) ?_
  refine a_block fun K8 hK8 => ?_
  refine a_loopM (X := (List ByteArray) × Int × Int) (fun (o, f, i) => ([(5, .ref 5 []), (6, .v (.val (.int .i64 f))), (11, .v (.val (.int .i64 i)))] : List (Nat × S))) (fun (o, f, i) => ([(5, eL true 1 cS o)] : List (Nat × V))) (fun (o, f, i) => (0 ≤ i ∧ i ≤ s.size) ∧ (splitSt s y i.toNat = (o, f)) ∧ (0 ≤ f ∧ f ≤ i ∧ o.length ≤ i)) (fun (o, f, i) => (s.size - i).toNat) [(0, _), (1, _), (10, _)] [(0, _), (1, _)] (_, _, _) (ghost_ren (d := 8) (e := 5) (by decide) (by decide) rfl) ⟨rfl, rfl, rfl, rfl, rfl, rfl, trivial⟩ ⟨rfl, rfl, rfl, trivial⟩ (fun ⟨_, _, _⟩ => rfl) ?_ ?_
  ·
    try dsimp only
    refine ⟨?_, ?_, ?_⟩
    ·
      first | omega | rfl | assumption | (simp; done) | (simp_all; done)
    ·
      rfl
    ·
      first | omega | rfl | assumption | (simp; done) | (simp_all; done)
  ·
    rintro ⟨o, f, i⟩ hI9 K9 hK9
    dsimp only [List.cons_append, List.nil_append] at hI9 ⊢
    obtain ⟨hi, hst, hf⟩ := hI9
    refine a_seq fun K10 hK10 => ?_
    refine a_region rfl fun K11 hK11 => ?_
    refine x_bin ?_
    refine r_nil hK11 ?_
    refine hK10 _ _ (Ghost.refl _) ?_
    refine a_seq fun K12 hK12 => ?_
    refine a_condP rfl (by first | exact .beq | exact .bne | exact .dec | exact .not .beq | exact .not .bne | exact .not .dec | exact .not .id | exact .id) (fun h13 => ?_) (fun h13 => ?_)
    · skip
      refine a_skip ?_
      refine hK12 _ _ (Ghost.refl _) ?_
      refine a_seq fun K14 hK14 => ?_
      refine a_block fun K15 hK15 => ?_
      refine a_seq fun K16 hK16 => ?_
      refine a_region rfl fun K17 hK17 => ?_
      refine x_move ?_
      refine x_assign ?_
      refine r_nil hK17 ?_
      refine hK16 _ _ (Ghost.refl _) ?_
      refine a_seq fun K18 hK18 => ?_
      refine a_region rfl fun K19 hK19 => ?_
      refine x_move ?_
      refine x_move ?_
      refine x_move ?_
      refine x_index ?_ ?_
      ·
        exact ⟨by omega, by omega⟩
      refine x_call (s_strings_IndexByte) ?_ (hl := by first | rfl | (repeat (first | exact lendL_nil | refine lendL_cons (by first | rfl | exact lend_ref rfl (ro_eL (by intro _; first | rfl | exact roL_cL (by intro _; rfl)))) ?_)))
      rintro _ _ rfl
      refine x_bin ?_
      refine r_nil hK19 ?_
      refine hK18 _ _ (Ghost.refl _) ?_
      refine a_condP rfl (by first | exact .beq | exact .bne | exact .dec | exact .not .beq | exact .not .bne | exact .not .dec | exact .not .id | exact .id) (fun h20 => ?_) (fun h20 => ?_)
      · skip
        refine a_seq fun K21 hK21 => ?_
        refine a_region rfl fun K22 hK22 => ?_
        refine x_move ?_
        refine x_move ?_
        refine x_move ?_
        refine x_move ?_
        refine x_cut2 ?_ ?_
        ·
          exact ⟨by omega, by omega⟩
        first | refine x_bv ?_ | refine x_build1 ?_
        first | refine x_app1 ?_ ?_ | refine x_app1t ?_ ?_
        ·
          omega
        refine x_assign ?_
        refine r_nil hK22 ?_
        refine hK21 _ _ (Ghost.refl _) ?_
        refine a_region rfl fun K23 hK23 => ?_
        refine x_move ?_
        refine x_add ?_ ?_
        ·
          exact ⟨by omega, by omega⟩
        refine x_assign ?_
        refine r_nil hK23 ?_
        refine hK15 .normal _ ?_
        refine hK14 _ _ (Ghost.refl _) ?_
        refine a_region rfl fun K24 hK24 => ?_
        refine x_add ?_ ?_
        ·
          exact ⟨by omega, by omega⟩
        refine x_move ?_
        refine r_nil hK24 ?_
        have hsep : isSep y (bt s i) = true := firstIdx_sep.1 (by simpa using h20)
        refine hK9 (_, _, _) _ _ _ (ghost_ren (d := 26) (e := 5) (by decide) (by decide) rfl) ⟨rfl, rfl, rfl, rfl, rfl, rfl, trivial⟩ ⟨rfl, rfl, rfl, trivial⟩ ?_ ?_
        ·
          first | omega | (dsimp only; omega)
        ·
          try dsimp only
          refine ⟨?_, ?_, ?_⟩
          ·
            first | omega | rfl | assumption | (simp; done) | (simp_all; done)
          ·
            first | (rw [splitSt_yes (by omega) hsep, hst]) | (rw [splitSt_no (by omega) hsep, hst])
          ·
            first | (simp only [List.length_append, List.length_cons, List.length_nil]; omega) | omega
      · skip
        refine a_skip ?_
        refine hK15 .normal _ ?_
        refine hK14 _ _ (Ghost.refl _) ?_
        refine a_region rfl fun K25 hK25 => ?_
        refine x_add ?_ ?_
        ·
          exact ⟨by omega, by omega⟩
        refine x_move ?_
        refine r_nil hK25 ?_
        have hsep : ¬ isSep y (bt s i) = true := fun k => h20 (by simpa using firstIdx_sep.2 k)
        refine hK9 (_, _, _) _ _ _ (Ghost.refl _) ⟨rfl, rfl, rfl, rfl, rfl, rfl, trivial⟩ ⟨rfl, rfl, rfl, trivial⟩ ?_ ?_
        ·
          first | omega | (dsimp only; omega)
        ·
          try dsimp only
          refine ⟨?_, ?_, ?_⟩
          ·
            first | omega | rfl | assumption | (simp; done) | (simp_all; done)
          ·
            first | (rw [splitSt_yes (by omega) hsep, hst]) | (rw [splitSt_no (by omega) hsep, hst])
          ·
            first | (simp only [List.length_append, List.length_cons, List.length_nil]; omega) | omega
    · skip
      refine a_exit ?_
      refine then_exit ?_
      refine then_exit ?_
      refine hK8 (.exit 0) _ (in_exit ?_)
      refine hK5 _ _ (Ghost.refl _) ?_
      refine a_seq fun K26 hK26 => ?_
      refine a_region rfl fun K27 hK27 => ?_
      refine x_move ?_
      refine x_move ?_
      refine x_move ?_
      refine x_cut2 ?_ ?_
      ·
        exact ⟨by omega, by omega⟩
      first | refine x_bv ?_ | refine x_build1 ?_
      first | refine x_app1 ?_ ?_ | refine x_app1t ?_ ?_
      ·
        omega
      refine x_assign ?_
      refine r_nil hK27 ?_
      refine hK26 _ _ (Ghost.refl _) ?_
      refine a_ret ?_
      refine leave_own (.inr rfl) rfl rfl rfl rfl (free_eL (by intro _; first | rfl | exact freeL_cL (by intro _; rfl))) rfl (congrArg (eL true 1 cS) ?_)
      have hi2 : i.toNat = s.size := by omega
      rw [hi2] at hst; unfold splitAny; rw [hst]
end Go.T
namespace Go.T
open Go Go.E Go.Proofs
theorem s_laws_eqStringS {l : List ByteArray} (hl : l.length ≤ 9223372036854775807) : Go.E.Spec Try.prog 20 [eL false 1 cS l, eL false 1 cS l] (fun r _ => r = .val (.bool (true))) := by
  refine spec_of_awp (E := Ev) evOk Try.func20 (c := _) rfl (by decide) (by simp [Try.ntmps20]) ?_
  rw [Try.ntmps20, entry_mk]
  change awp Ev 2 26 _ _ (mkSt [(0, .v (eL false 1 cS l)), (1, .v (eL false 1 cS l))] [(0, eL false 1 cS l), (1, eL false 1 cS l)])
  refine a_seq fun K1 hK1 => ?_
  refine a_region rfl fun K2 hK2 => ?_
  refine x_assign ?_
  refine r_nil hK2 ?_
  refine hK1 _ _ (Ghost.refl _) ?_
  refine a_seq fun K3 hK3 => ?_
  refine a_seq fun K4 hK4 => ?_
  refine a_region rfl fun K5 hK5 => ?_
  refine x_move ?_
  refine x_len ?_
  refine x_move ?_
  refine x_len ?_
  refine x_bin ?_
  refine r_nil hK5 ?_
  refine hK4 _ _ (Ghost.refl _) ?_
  refine a_condP rfl (by first | exact .beq | exact .bne | exact .dec | exact .not .beq | exact .not .bne | exact .not .dec | exact .not .id | exact .id) (fun h6 => ?_) (fun h6 => ?_)
  · skip
    refine a_seq fun K7 hK7 => ?_
    refine a_region rfl fun K8 hK8 => ?_
    refine x_assign ?_
    refine r_nil hK8 ?_
    refine hK7 _ _ (Ghost.refl _) ?_
    refine a_ret ?_
    refine then_ret ?_
    refine leave_val (.inr rfl) rfl rfl rfl (congrArg (fun z => V.val (.bool z)) ?_)
    first | rfl | omega | assumption | (simp; done) | (simp_all; done)
  · skip
    refine a_skip ?_
    refine hK3 _ _ (Ghost.refl _) ?_
    refine a_seq fun K9 hK9 => ?_
    refine a_seq fun K10 hK10 => ?_
    refine a_region rfl fun K11 hK11 => ?_
    refine x_assign ?_
    refine r_nil hK11 ?_
    refine hK10 _ _ (Ghost.refl _) ?_
    refine a_block fun K12 hK12 => ?_
    refine a_loopM (X := Int) (fun i => ([(5, .v (.val (.int .i64 i)))] : List (Nat × S))) (fun i => ([] : List (Nat × V))) (fun i => (0 ≤ i ∧ i ≤ l.length)) (fun i => (l.length - i).toNat) [(0, _), (1, _)] [(0, _), (1, _)] _ (Ghost.refl _) ⟨rfl, rfl, rfl, trivial⟩ ⟨rfl, rfl, trivial⟩ (fun i => rfl) ?_ ?_
    ·
      try dsimp only
      ·
        first | omega | rfl | assumption | (simp; done) | (simp_all; done)
    ·
      rintro i hI13 K13 hK13
      dsimp only [List.cons_append, List.nil_append] at hI13 ⊢
      have hi := hI13
      refine a_seq fun K14 hK14 => ?_
      refine a_seq fun K15 hK15 => ?_
      refine a_region rfl fun K16 hK16 => ?_
      refine x_move ?_
      refine x_move ?_
      refine x_len ?_
      refine x_bin ?_
      refine r_nil hK16 ?_
      refine hK15 _ _ (Ghost.refl _) ?_
      refine a_condP rfl (by first | exact .beq | exact .bne | exact .dec | exact .not .beq | exact .not .bne | exact .not .dec | exact .not .id | exact .id) (fun h17 => ?_) (fun h17 => ?_)
      · skip
        refine a_skip ?_
        refine hK14 _ _ (Ghost.refl _) ?_
        refine a_seq fun K18 hK18 => ?_
        refine a_block fun K19 hK19 => ?_
        refine a_seq fun K20 hK20 => ?_
        refine a_drawn rfl rfl rfl fun K21 hK21 => ?_
        refine x_move ?_
        refine x_move ?_
        refine x_indexAddr ?_ ?_
        ·
          exact ⟨by omega, by omega⟩
        first | refine x_ldE ?_ ?_ | refine x_ldN ?_ ?_ | refine x_ldO ?_ ?_ | refine x_ldON ?_ ?_ (hf := fun x => (rfl : cN x = List.map V.val [_, _, _, _]))
        ·
          omega
        refine x_move ?_
        refine x_move ?_
        refine x_indexAddr ?_ ?_
        ·
          exact ⟨by omega, by omega⟩
        first | refine x_ldE ?_ ?_ | refine x_ldN ?_ ?_ | refine x_ldO ?_ ?_ | refine x_ldON ?_ ?_ (hf := fun x => (rfl : cN x = List.map V.val [_, _, _, _]))
        ·
          omega
        refine x_bin ?_
        refine r_nil hK21 ?_
        refine hK20 _ _ (Ghost.refl _) ?_
        refine a_condP rfl (by first | exact .beq | exact .bne | exact .dec | exact .not .beq | exact .not .bne | exact .not .dec | exact .not .id | exact .id) (fun h22 => ?_) (fun h22 => ?_)
        · skip
          refine a_seq fun K23 hK23 => ?_
          refine a_region rfl fun K24 hK24 => ?_
          refine x_assign ?_
          refine r_nil hK24 ?_
          refine hK23 _ _ (Ghost.refl _) ?_
          refine a_ret ?_
          refine hK19 .ret _ (in_ret ?_)
          refine then_ret ?_
          refine then_ret ?_
          refine hK12 .ret _ (in_ret ?_)
          refine then_ret ?_
          refine leave_val (.inr rfl) rfl rfl rfl (congrArg (fun z => V.val (.bool z)) ?_)
          first | rfl | omega | assumption | (simp; done) | (simp_all; done)
        · skip
          refine a_skip ?_
          refine hK19 .normal _ ?_
          refine hK18 _ _ (Ghost.refl _) ?_
          refine a_region rfl fun K25 hK25 => ?_
          refine x_move ?_
          refine x_add ?_ ?_
          ·
            exact ⟨by omega, by omega⟩
          refine x_assign ?_
          refine r_nil hK25 ?_
          refine hK13 _ _ _ _ (Ghost.refl _) ⟨rfl, rfl, rfl, trivial⟩ ⟨rfl, rfl, trivial⟩ ?_ ?_
          ·
            first | omega | (dsimp only; omega)
          ·
            try dsimp only
            ·
              first | omega | rfl | assumption | (simp; done) | (simp_all; done)
      · skip
        refine a_exit ?_
        refine then_exit ?_
        refine then_exit ?_
        refine hK12 (.exit 0) _ (in_exit ?_)
        refine hK9 _ _ (Ghost.refl _) ?_
        refine a_seq fun K26 hK26 => ?_
        refine a_region rfl fun K27 hK27 => ?_
        refine x_assign ?_
        refine r_nil hK27 ?_
        refine hK26 _ _ (Ghost.refl _) ?_
        refine a_ret ?_
        refine leave_val (.inr rfl) rfl rfl rfl (congrArg (fun z => V.val (.bool z)) ?_)
        first | rfl | omega | assumption | (simp; done) | (simp_all; done)
end Go.T
namespace Go.T
open Go Go.E Go.Proofs
theorem s_laws_markText {k : Int} (hk : k ≤ 4611686018427387904) : Go.E.Spec Try.prog 30 [.val (.int .i64 k)] (fun r _ => r = .val (.string (mtext k))) := by
  refine spec_of_awp (E := Ev) evOk Try.func30 (c := _) rfl (by decide) (by simp [Try.ntmps30]) ?_
  rw [Try.ntmps30, entry_mk]
  change awp Ev 1 20 _ _ (mkSt [(0, .v (.val (.int .i64 k)))] [(0, .val (.int .i64 k))])
  refine a_seq fun K1 hK1 => ?_
  refine a_region rfl fun K2 hK2 => ?_
  refine x_assign ?_
  refine r_nil hK2 ?_
  refine hK1 _ _ (Ghost.refl _) ?_
  refine a_seq fun K3 hK3 => ?_
  refine a_seq fun K4 hK4 => ?_
  refine a_region rfl fun K5 hK5 => ?_
  refine x_move ?_
  refine x_bin ?_
  refine r_nil hK5 ?_
  refine hK4 _ _ (Ghost.refl _) ?_
  refine a_condP rfl (by first | exact .beq | exact .bne | exact .dec | exact .not .beq | exact .not .bne | exact .not .dec | exact .not .id | exact .id) (fun h6 => ?_) (fun h6 => ?_)
  · skip
    refine a_seq fun K7 hK7 => ?_
    refine a_region rfl fun K8 hK8 => ?_
    refine x_assign ?_
    refine r_nil hK8 ?_
    refine hK7 _ _ (Ghost.refl _) ?_
    refine a_ret ?_
    refine then_ret ?_
    refine leave_val (.inr rfl) rfl rfl rfl (congrArg (fun z => V.val (.string z)) ?_)
    unfold mtext; rw [if_pos h6]
  · skip
    refine a_skip ?_
    refine hK3 _ _ (Ghost.refl _) ?_
    refine a_seq fun K9 hK9 => ?_
    refine a_region rfl fun K10 hK10 => ?_
    refine x_assign ?_
    refine r_nil hK10 ?_
    refine hK9 _ _ (Ghost.refl _) ?_
    refine a_seq fun K11 hK11 => ?_
    refine a_block fun K12 hK12 => ?_
    refine a_loopM (X := Int × ByteArray) (fun (n, o) => ([(0, .v (.val (.int .i64 n))), (3, .v (.val (.string o)))] : List (Nat × S))) (fun (n, o) => ([] : List (Nat × V))) (fun (n, o) => (0 ≤ n ∧ n ≤ k) ∧ ((o.size : Int) + n ≤ k) ∧ (mdig n.toNat o = mdig k.toNat ⟨#[]⟩)) (fun (n, o) => n.toNat) [] [(0, _)] (_, _) (Ghost.refl _) ⟨rfl, rfl, trivial⟩ ⟨rfl, trivial⟩ (fun ⟨_, _⟩ => rfl) ?_ ?_
    ·
      try dsimp only
      refine ⟨?_, ?_, ?_⟩
      ·
        first | omega | rfl | assumption | (simp; done) | (simp_all; done)
      ·
        show ((0 : Nat) : Int) + k ≤ k; omega
      ·
        first | omega | rfl | assumption | (simp; done) | (simp_all; done)
    ·
      rintro ⟨n, o⟩ hI13 K13 hK13
      dsimp only [List.cons_append, List.nil_append] at hI13 ⊢
      obtain ⟨hn, ho, hm⟩ := hI13
      refine a_seq fun K14 hK14 => ?_
      refine a_seq fun K15 hK15 => ?_
      refine a_region rfl fun K16 hK16 => ?_
      refine x_move ?_
      refine x_bin ?_
      refine r_nil hK16 ?_
      refine hK15 _ _ (Ghost.refl _) ?_
      refine a_condP rfl (by first | exact .beq | exact .bne | exact .dec | exact .not .beq | exact .not .bne | exact .not .dec | exact .not .id | exact .id) (fun h17 => ?_) (fun h17 => ?_)
      · skip
        refine a_skip ?_
        refine hK14 _ _ (Ghost.refl _) ?_
        refine a_block fun K18 hK18 => ?_
        refine a_seq fun K19 hK19 => ?_
        refine a_region rfl fun K20 hK20 => ?_
        refine x_move ?_
        refine x_rem' ?_
        refine x_add ?_ ?_
        ·
          have hr : n.tmod 10 = n % 10 := Int.tmod_eq_emod_of_nonneg (by omega)
          exact ⟨by omega, by omega⟩
        refine x_conv ?_
        first | refine x_bv ?_ | refine x_build1 ?_
        refine x_conv ?_
        refine x_move ?_
        refine x_cat ?_ ?_
        ·
          show 1 + o.size ≤ _; omega
        refine x_assign ?_
        refine r_nil hK20 ?_
        refine hK19 _ _ (Ghost.refl _) ?_
        refine a_region rfl fun K21 hK21 => ?_
        refine x_move ?_
        refine x_quo' ?_ ?_
        ·
          rw [Int.tdiv_eq_ediv_of_nonneg (by omega)]; omega
        refine x_assign ?_
        refine r_nil hK21 ?_
        refine hK18 .normal _ ?_
        have hq : n.tdiv 10 = n / 10 := Int.tdiv_eq_ediv_of_nonneg (by omega)
        refine hK13 (_, _) _ _ _ (Ghost.refl _) ⟨rfl, rfl, trivial⟩ ⟨rfl, trivial⟩ ?_ ?_
        ·
          first | omega | (dsimp only; omega)
        ·
          try dsimp only
          refine ⟨?_, ?_, ?_⟩
          ·
            omega
          ·
            have h1 : ((strOf [IntKind.u8.wrap (48 + n.tmod 10)] ++ o).size) = 1 + o.size := by rw [ByteArray.size_append]; rfl
            omega
          ·
            rw [← hm]; exact (mdig_step (by omega) o).symm
      · skip
        refine a_exit ?_
        refine then_exit ?_
        refine then_exit ?_
        refine hK12 (.exit 0) _ (in_exit ?_)
        refine hK11 _ _ (Ghost.refl _) ?_
        refine a_seq fun K22 hK22 => ?_
        refine a_region rfl fun K23 hK23 => ?_
        refine x_move ?_
        refine x_cat ?_ ?_
        ·
          show 1 + o.size ≤ _; omega
        refine x_assign ?_
        refine r_nil hK23 ?_
        refine hK22 _ _ (Ghost.refl _) ?_
        refine a_ret ?_
        refine leave_val (.inr rfl) rfl rfl rfl (congrArg (fun z => V.val (.string z)) ?_)
        unfold mtext; rw [if_neg (by omega), ← hm]; have : n.toNat = 0 := by omega
        rw [this, mdig_zero]
end Go.T
namespace Go.T
open Go Go.E Go.Proofs
theorem s_laws_markStringS {l : List ByteArray} {k : Int} (hl : l.length ≤ 1073741824) (hk : 0 ≤ k ∧ k ≤ 1073741824) : Go.E.Spec Try.prog 21 [eL true 1 cS l, .val (.int .i64 k)] (fun r outs => r = .val (.int .i64 (k + l.length)) ∧ outs.head? = some (eL true 1 cS (marksS k l.length))) := by
  refine spec_of_awp (E := Ev) evOk Try.func21 (c := _) rfl (by decide) (by simp [Try.ntmps21]) ?_
  rw [Try.ntmps21, entry_mk]
  change awp Ev 2 20 _ _ (mkSt [(0, .ref 0 []), (1, .v (.val (.int .i64 k)))] [(0, eL true 1 cS l), (1, .val (.int .i64 k))])
  refine a_seq fun K1 hK1 => ?_
  refine a_region rfl fun K2 hK2 => ?_
  refine x_assign ?_
  refine r_nil hK2 ?_
  refine hK1 _ _ (Ghost.refl _) ?_
  refine a_seq fun K3 hK3 => ?_
  refine a_seq fun K4 hK4 => ?_
  refine a_region rfl fun K5 hK5 => ?_
  refine x_assign ?_
  refine r_nil hK5 ?_
  refine hK4 _ _ (Ghost.refl _) ?_
  refine a_block fun K6 hK6 => ?_
  refine a_loopM (X := Int × Int × (List ByteArray)) (fun (k1, i, o) => ([(1, .v (.val (.int .i64 k1))), (5, .v (.val (.int .i64 i)))] : List (Nat × S))) (fun (k1, i, o) => ([(0, eL true 1 cS o)] : List (Nat × V))) (fun (k1, i, o) => (0 ≤ i ∧ i ≤ l.length) ∧ (o.length = l.length) ∧ (k1 = k + i) ∧ (∀ j : Nat, j < i.toNat → o[j]! = (marksS k l.length)[j]!)) (fun (k1, i, o) => (l.length - i).toNat) [(0, _)] [(1, _)] (_, _, _) (Ghost.refl _) ⟨rfl, rfl, rfl, trivial⟩ ⟨rfl, rfl, trivial⟩ (fun ⟨_, _, _⟩ => rfl) ?_ ?_
  ·
    try dsimp only
    refine ⟨?_, ?_, ?_, ?_⟩
    ·
      first | omega | rfl | assumption | (simp; done) | (simp_all; done)
    ·
      first | omega | rfl | assumption | (simp; done) | (simp_all; done)
    ·
      first | omega | rfl | assumption | (simp; done) | (simp_all; done)
    ·
      intro j hj; simp at hj
  ·
    rintro ⟨k1, i, o⟩ hI7 K7 hK7
    dsimp only [List.cons_append, List.nil_append] at hI7 ⊢
    obtain ⟨hi, ho, hk1, he⟩ := hI7
    refine a_seq fun K8 hK8 => ?_
    refine a_seq fun K9 hK9 => ?_
    refine a_region rfl fun K10 hK10 => ?_
    refine x_move ?_
    refine x_move ?_
    refine x_len ?_
    refine x_bin ?_
    refine r_nil hK10 ?_
    refine hK9 _ _ (Ghost.refl _) ?_
    refine a_condP rfl (by first | exact .beq | exact .bne | exact .dec | exact .not .beq | exact .not .bne | exact .not .dec | exact .not .id | exact .id) (fun h11 => ?_) (fun h11 => ?_)
    · skip
      refine a_skip ?_
      refine hK8 _ _ (Ghost.refl _) ?_
      refine a_seq fun K12 hK12 => ?_
      refine a_block fun K13 hK13 => ?_
      refine a_seq fun K14 hK14 => ?_
      refine a_region rfl fun K15 hK15 => ?_
      refine x_move ?_
      refine x_move ?_
      refine x_move ?_
      refine x_call (s_laws_markText ?_) ?_ (hl := by first | rfl | (repeat (first | exact lendL_nil | refine lendL_cons (by first | rfl | exact lend_ref rfl (ro_eL (by intro _; first | rfl | exact roL_cL (by intro _; rfl)))) ?_)))
      ·
        first | omega | rfl | assumption | (simp; done) | (simp_all; done)
      rintro _ _ rfl
      refine x_indexAddr ?_ ?_
      ·
        exact ⟨by omega, by omega⟩
      first | refine x_stE ?_ ?_ | refine x_stN' ?_ ?_
      ·
        omega
      refine r_nil hK15 ?_
      refine hK14 _ _ (Ghost.refl _) ?_
      refine a_region rfl fun K16 hK16 => ?_
      refine x_move ?_
      refine x_add ?_ ?_
      ·
        exact ⟨by omega, by omega⟩
      refine x_assign ?_
      refine r_nil hK16 ?_
      refine hK13 .normal _ ?_
      refine hK12 _ _ (Ghost.refl _) ?_
      refine a_region rfl fun K17 hK17 => ?_
      refine x_move ?_
      refine x_add ?_ ?_
      ·
        exact ⟨by omega, by omega⟩
      refine x_assign ?_
      refine r_nil hK17 ?_
      refine hK7 (_, _, _) _ _ _ (Ghost.refl _) ⟨rfl, rfl, rfl, trivial⟩ ⟨rfl, rfl, trivial⟩ ?_ ?_
      ·
        first | omega | (dsimp only; omega)
      ·
        try dsimp only
        refine ⟨?_, ?_, ?_, ?_⟩
        ·
          first | omega | rfl | assumption | (simp; done) | (simp_all; done)
        ·
          simpa using ho
        ·
          first | omega | rfl | assumption | (simp; done) | (simp_all; done)
        ·
          have e2 : mtext k1 = (marksS k l.length)[i.toNat]! := by rw [marksS_get (by omega)]; congr 1; omega
          rw [e2]
          exact set_upto (by omega) (by omega) he rfl
    · skip
      refine a_exit ?_
      refine then_exit ?_
      refine then_exit ?_
      refine hK6 (.exit 0) _ (in_exit ?_)
      refine hK3 _ _ (Ghost.refl _) ?_
      refine a_seq fun K18 hK18 => ?_
      refine a_region rfl fun K19 hK19 => ?_
      refine x_move ?_
      refine x_assign ?_
      refine r_nil hK19 ?_
      refine hK18 _ _ (Ghost.refl _) ?_
      refine a_ret ?_
      refine leave_val (.inr rfl) rfl rfl (freeL_out (o := 0) (by intro _; rfl) (by intro _; rfl) rfl) ⟨congrArg (fun z => V.val (.int .i64 z)) (by omega), head_out (by intro _; rfl) (upto_all (by rw [marksS_length]; exact ho) (fun j hj => he j (by rw [marksS_length] at hj; omega)))⟩
end Go.T
namespace Go.T
open Go Go.E Go.Proofs
theorem s_laws_heldStringS {l : List ByteArray} {k : Int} (hl : l.length ≤ 1073741824) (hk : 0 ≤ k ∧ k ≤ 1073741824) (hm : l = marksS k l.length) : Go.E.Spec Try.prog 22 [eL false 1 cS l, .val (.int .i64 k)] (fun r _ => r = .val (.int .i64 (k + l.length))) := by
  refine spec_of_awp (E := Ev) evOk Try.func22 (c := _) rfl (by decide) (by simp [Try.ntmps22]) ?_
  rw [Try.ntmps22, entry_mk]
  change awp Ev 2 22 _ _ (mkSt [(0, .v (eL false 1 cS l)), (1, .v (.val (.int .i64 k)))] [(0, eL false 1 cS l), (1, .val (.int .i64 k))])
  refine a_seq fun K1 hK1 => ?_
  refine a_region rfl fun K2 hK2 => ?_
  refine x_assign ?_
  refine r_nil hK2 ?_
  refine hK1 _ _ (Ghost.refl _) ?_
  refine a_seq fun K3 hK3 => ?_
  refine a_seq fun K4 hK4 => ?_
  refine a_region rfl fun K5 hK5 => ?_
  refine x_assign ?_
  refine r_nil hK5 ?_
  refine hK4 _ _ (Ghost.refl _) ?_
  refine a_block fun K6 hK6 => ?_
  refine a_loopM (X := Int × Int) (fun (k1, i) => ([(1, .v (.val (.int .i64 k1))), (5, .v (.val (.int .i64 i)))] : List (Nat × S))) (fun (k1, i) => ([] : List (Nat × V))) (fun (k1, i) => (0 ≤ i ∧ i ≤ l.length) ∧ (k1 = k + i)) (fun (k1, i) => (l.length - i).toNat) [(0, _)] [(0, _), (1, _)] (_, _) (Ghost.refl _) ⟨rfl, rfl, rfl, trivial⟩ ⟨rfl, rfl, trivial⟩ (fun ⟨_, _⟩ => rfl) ?_ ?_
  ·
    try dsimp only
    refine ⟨?_, ?_⟩
    ·
      first | omega | rfl | assumption | (simp; done) | (simp_all; done)
    ·
      first | omega | rfl | assumption | (simp; done) | (simp_all; done)
  ·
    rintro ⟨k1, i⟩ hI7 K7 hK7
    dsimp only [List.cons_append, List.nil_append] at hI7 ⊢
    obtain ⟨hi, hk1⟩ := hI7
    refine a_seq fun K8 hK8 => ?_
    refine a_seq fun K9 hK9 => ?_
    refine a_region rfl fun K10 hK10 => ?_
    refine x_move ?_
    refine x_move ?_
    refine x_len ?_
    refine x_bin ?_
    refine r_nil hK10 ?_
    refine hK9 _ _ (Ghost.refl _) ?_
    refine a_condP rfl (by first | exact .beq | exact .bne | exact .dec | exact .not .beq | exact .not .bne | exact .not .dec | exact .not .id | exact .id) (fun h11 => ?_) (fun h11 => ?_)
    · skip
      refine a_skip ?_
      refine hK8 _ _ (Ghost.refl _) ?_
      refine a_seq fun K12 hK12 => ?_
      refine a_block fun K13 hK13 => ?_
      refine a_seq fun K14 hK14 => ?_
      refine a_seq fun K15 hK15 => ?_
      refine a_drawAll (n := 7) rfl rfl rfl fun K16 hK16 => ?_
      refine w_all rfl ⟨?_, ?_, ?_, trivial⟩
      · skip
        refine x_move ?_
        refine w_end ?_
        refine w_all rfl ⟨?_, ?_, trivial⟩
        · skip
          refine x_move ?_
          refine w_end ?_
          refine w_all rfl ⟨?_, ?_, trivial⟩
          · skip
            refine x_indexAddr ?_ ?_
            ·
              exact ⟨by omega, by omega⟩
            refine w_end ?_
            refine w_all rfl ⟨?_, ?_, trivial⟩
            · skip
              first | refine x_ldE ?_ ?_ | refine x_ldN ?_ ?_ | refine x_ldO ?_ ?_ | refine x_ldON ?_ ?_ (hf := fun x => (rfl : cN x = List.map V.val [_, _, _, _]))
              ·
                omega
              refine w_end ?_
              refine w_all rfl ⟨?_, trivial⟩
              refine x_move ?_
              refine w_end ?_
              refine w_all rfl ⟨?_, trivial⟩
              refine x_call (s_laws_markText ?_) ?_ (hl := by first | rfl | (repeat (first | exact lendL_nil | refine lendL_cons (by first | rfl | exact lend_ref rfl (ro_eL (by intro _; first | rfl | exact roL_cL (by intro _; rfl)))) ?_)))
              ·
                first | omega | rfl | assumption | (simp; done) | (simp_all; done)
              rintro _ _ rfl
              refine w_end ?_
              refine w_all rfl ⟨?_, trivial⟩
              refine x_bin ?_
              refine w_end ?_
              refine w_done hK16 ?_
              refine hK15 _ _ (Ghost.refl _) ?_
              refine a_condP rfl (by first | exact .beq | exact .bne | exact .dec | exact .not .beq | exact .not .bne | exact .not .dec | exact .not .id | exact .id) (fun h17 => ?_) (fun h17 => ?_)
              · skip
                refine a_seq fun K18 hK18 => ?_
                refine a_region rfl fun K19 hK19 => ?_
                refine x_assign ?_
                refine r_nil hK19 ?_
                refine hK18 _ _ (Ghost.refl _) ?_
                refine a_ret ?_
                refine then_ret ?_
                refine hK13 .ret _ (in_ret ?_)
                refine then_ret ?_
                refine then_ret ?_
                refine hK6 .ret _ (in_ret ?_)
                refine then_ret ?_
                refine leave_val (.inr rfl) rfl rfl rfl (congrArg (fun z => V.val (.int .i64 z)) ?_)
                first | omega | (exfalso; apply h17; rw [hm, marksS_get (by omega)]; congr 2; omega)
              · skip
                refine a_skip ?_
                refine hK14 _ _ (Ghost.refl _) ?_
                refine a_region rfl fun K20 hK20 => ?_
                refine x_move ?_
                refine x_add ?_ ?_
                ·
                  exact ⟨by omega, by omega⟩
                refine x_assign ?_
                refine r_nil hK20 ?_
                refine hK13 .normal _ ?_
                refine hK12 _ _ (Ghost.refl _) ?_
                refine a_region rfl fun K21 hK21 => ?_
                refine x_move ?_
                refine x_add ?_ ?_
                ·
                  exact ⟨by omega, by omega⟩
                refine x_assign ?_
                refine r_nil hK21 ?_
                refine hK7 (_, _) _ _ _ (Ghost.refl _) ⟨rfl, rfl, rfl, trivial⟩ ⟨rfl, rfl, trivial⟩ ?_ ?_
                ·
                  first | omega | (dsimp only; omega)
                ·
                  try dsimp only
                  refine ⟨?_, ?_⟩
                  ·
                    first | omega | rfl | assumption | (simp; done) | (simp_all; done)
                  ·
                    first | omega | rfl | assumption | (simp; done) | (simp_all; done)
            · skip
              refine x_move ?_
              refine w_end ?_
              refine w_all rfl ⟨?_, trivial⟩
              refine x_call (s_laws_markText ?_) ?_ (hl := by first | rfl | (repeat (first | exact lendL_nil | refine lendL_cons (by first | rfl | exact lend_ref rfl (ro_eL (by intro _; first | rfl | exact roL_cL (by intro _; rfl)))) ?_)))
              ·
                first | omega | rfl | assumption | (simp; done) | (simp_all; done)
              rintro _ _ rfl
              refine w_end ?_
              refine w_all rfl ⟨?_, trivial⟩
              first | refine x_ldE ?_ ?_ | refine x_ldN ?_ ?_ | refine x_ldO ?_ ?_ | refine x_ldON ?_ ?_ (hf := fun x => (rfl : cN x = List.map V.val [_, _, _, _]))
              ·
                omega
              refine w_end ?_
              refine w_all rfl ⟨?_, trivial⟩
              refine x_bin ?_
              refine w_end ?_
              refine w_done hK16 ?_
              refine hK15 _ _ (Ghost.refl _) ?_
              refine a_condP rfl (by first | exact .beq | exact .bne | exact .dec | exact .not .beq | exact .not .bne | exact .not .dec | exact .not .id | exact .id) (fun h22 => ?_) (fun h22 => ?_)
              · skip
                refine a_seq fun K23 hK23 => ?_
                refine a_region rfl fun K24 hK24 => ?_
                refine x_assign ?_
                refine r_nil hK24 ?_
                refine hK23 _ _ (Ghost.refl _) ?_
                refine a_ret ?_
                refine then_ret ?_
                refine hK13 .ret _ (in_ret ?_)
                refine then_ret ?_
                refine then_ret ?_
                refine hK6 .ret _ (in_ret ?_)
                refine then_ret ?_
                refine leave_val (.inr rfl) rfl rfl rfl (congrArg (fun z => V.val (.int .i64 z)) ?_)
                first | omega | (exfalso; apply h22; rw [hm, marksS_get (by omega)]; congr 2; omega)
              · skip
                refine a_skip ?_
                refine hK14 _ _ (Ghost.refl _) ?_
                refine a_region rfl fun K25 hK25 => ?_
                refine x_move ?_
                refine x_add ?_ ?_
                ·
                  exact ⟨by omega, by omega⟩
                refine x_assign ?_
                refine r_nil hK25 ?_
                refine hK13 .normal _ ?_
                refine hK12 _ _ (Ghost.refl _) ?_
                refine a_region rfl fun K26 hK26 => ?_
                refine x_move ?_
                refine x_add ?_ ?_
                ·
                  exact ⟨by omega, by omega⟩
                refine x_assign ?_
                refine r_nil hK26 ?_
                refine hK7 (_, _) _ _ _ (Ghost.refl _) ⟨rfl, rfl, rfl, trivial⟩ ⟨rfl, rfl, trivial⟩ ?_ ?_
                ·
                  first | omega | (dsimp only; omega)
                ·
                  try dsimp only
                  refine ⟨?_, ?_⟩
                  ·
                    first | omega | rfl | assumption | (simp; done) | (simp_all; done)
                  ·
                    first | omega | rfl | assumption | (simp; done) | (simp_all; done)
          · skip
            refine x_move ?_
            refine w_end ?_
            refine w_all rfl ⟨?_, trivial⟩
            refine x_call (s_laws_markText ?_) ?_ (hl := by first | rfl | (repeat (first | exact lendL_nil | refine lendL_cons (by first | rfl | exact lend_ref rfl (ro_eL (by intro _; first | rfl | exact roL_cL (by intro _; rfl)))) ?_)))
            ·
              first | omega | rfl | assumption | (simp; done) | (simp_all; done)
            rintro _ _ rfl
            refine w_end ?_
            refine w_all rfl ⟨?_, trivial⟩
            refine x_indexAddr ?_ ?_
            ·
              exact ⟨by omega, by omega⟩
            refine w_end ?_
            refine w_all rfl ⟨?_, trivial⟩
            first | refine x_ldE ?_ ?_ | refine x_ldN ?_ ?_ | refine x_ldO ?_ ?_ | refine x_ldON ?_ ?_ (hf := fun x => (rfl : cN x = List.map V.val [_, _, _, _]))
            ·
              omega
            refine w_end ?_
            refine w_all rfl ⟨?_, trivial⟩
            refine x_bin ?_
            refine w_end ?_
            refine w_done hK16 ?_
            refine hK15 _ _ (Ghost.refl _) ?_
            refine a_condP rfl (by first | exact .beq | exact .bne | exact .dec | exact .not .beq | exact .not .bne | exact .not .dec | exact .not .id | exact .id) (fun h27 => ?_) (fun h27 => ?_)
            · skip
              refine a_seq fun K28 hK28 => ?_
              refine a_region rfl fun K29 hK29 => ?_
              refine x_assign ?_
              refine r_nil hK29 ?_
              refine hK28 _ _ (Ghost.refl _) ?_
              refine a_ret ?_
              refine then_ret ?_
              refine hK13 .ret _ (in_ret ?_)
              refine then_ret ?_
              refine then_ret ?_
              refine hK6 .ret _ (in_ret ?_)
              refine then_ret ?_
              refine leave_val (.inr rfl) rfl rfl rfl (congrArg (fun z => V.val (.int .i64 z)) ?_)
              first | omega | (exfalso; apply h27; rw [hm, marksS_get (by omega)]; congr 2; omega)
            · skip
              refine a_skip ?_
              refine hK14 _ _ (Ghost.refl _) ?_
              refine a_region rfl fun K30 hK30 => ?_
              refine x_move ?_
              refine x_add ?_ ?_
              ·
                exact ⟨by omega, by omega⟩
              refine x_assign ?_
              refine r_nil hK30 ?_
              refine hK13 .normal _ ?_
              refine hK12 _ _ (Ghost.refl _) ?_
              refine a_region rfl fun K31 hK31 => ?_
              refine x_move ?_
              refine x_add ?_ ?_
              ·
                exact ⟨by omega, by omega⟩
              refine x_assign ?_
              refine r_nil hK31 ?_
              refine hK7 (_, _) _ _ _ (Ghost.refl _) ⟨rfl, rfl, rfl, trivial⟩ ⟨rfl, rfl, trivial⟩ ?_ ?_
              ·
                first | omega | (dsimp only; omega)
              ·
                try dsimp only
                refine ⟨?_, ?_⟩
                ·
                  first | omega | rfl | assumption | (simp; done) | (simp_all; done)
                ·
                  first | omega | rfl | assumption | (simp; done) | (simp_all; done)
        · skip
          refine x_move ?_
          refine w_end ?_
          refine w_all rfl ⟨?_, trivial⟩
          refine x_call (s_laws_markText ?_) ?_ (hl := by first | rfl | (repeat (first | exact lendL_nil | refine lendL_cons (by first | rfl | exact lend_ref rfl (ro_eL (by intro _; first | rfl | exact roL_cL (by intro _; rfl)))) ?_)))
          ·
            first | omega | rfl | assumption | (simp; done) | (simp_all; done)
          rintro _ _ rfl
          refine w_end ?_
          refine w_all rfl ⟨?_, trivial⟩
          refine x_move ?_
          refine w_end ?_
          refine w_all rfl ⟨?_, trivial⟩
          refine x_indexAddr ?_ ?_
          ·
            exact ⟨by omega, by omega⟩
          refine w_end ?_
          refine w_all rfl ⟨?_, trivial⟩
          first | refine x_ldE ?_ ?_ | refine x_ldN ?_ ?_ | refine x_ldO ?_ ?_ | refine x_ldON ?_ ?_ (hf := fun x => (rfl : cN x = List.map V.val [_, _, _, _]))
          ·
            omega
          refine w_end ?_
          refine w_all rfl ⟨?_, trivial⟩
          refine x_bin ?_
          refine w_end ?_
          refine w_done hK16 ?_
          refine hK15 _ _ (Ghost.refl _) ?_
          refine a_condP rfl (by first | exact .beq | exact .bne | exact .dec | exact .not .beq | exact .not .bne | exact .not .dec | exact .not .id | exact .id) (fun h32 => ?_) (fun h32 => ?_)
          · skip
            refine a_seq fun K33 hK33 => ?_
            refine a_region rfl fun K34 hK34 => ?_
            refine x_assign ?_
            refine r_nil hK34 ?_
            refine hK33 _ _ (Ghost.refl _) ?_
            refine a_ret ?_
            refine then_ret ?_
            refine hK13 .ret _ (in_ret ?_)
            refine then_ret ?_
            refine then_ret ?_
            refine hK6 .ret _ (in_ret ?_)
            refine then_ret ?_
            refine leave_val (.inr rfl) rfl rfl rfl (congrArg (fun z => V.val (.int .i64 z)) ?_)
            first | omega | (exfalso; apply h32; rw [hm, marksS_get (by omega)]; congr 2; omega)
          · skip
            refine a_skip ?_
            refine hK14 _ _ (Ghost.refl _) ?_
            refine a_region rfl fun K35 hK35 => ?_
            refine x_move ?_
            refine x_add ?_ ?_
            ·
              exact ⟨by omega, by omega⟩
            refine x_assign ?_
            refine r_nil hK35 ?_
            refine hK13 .normal _ ?_
            refine hK12 _ _ (Ghost.refl _) ?_
            refine a_region rfl fun K36 hK36 => ?_
            refine x_move ?_
            refine x_add ?_ ?_
            ·
              exact ⟨by omega, by omega⟩
            refine x_assign ?_
            refine r_nil hK36 ?_
            refine hK7 (_, _) _ _ _ (Ghost.refl _) ⟨rfl, rfl, rfl, trivial⟩ ⟨rfl, rfl, trivial⟩ ?_ ?_
            ·
              first | omega | (dsimp only; omega)
            ·
              try dsimp only
              refine ⟨?_, ?_⟩
              ·
                first | omega | rfl | assumption | (simp; done) | (simp_all; done)
              ·
                first | omega | rfl | assumption | (simp; done) | (simp_all; done)
      · skip
        refine x_move ?_
        refine w_end ?_
        refine w_all rfl ⟨?_, trivial⟩
        refine x_move ?_
        refine w_end ?_
        refine w_all rfl ⟨?_, trivial⟩
        refine x_call (s_laws_markText ?_) ?_ (hl := by first | rfl | (repeat (first | exact lendL_nil | refine lendL_cons (by first | rfl | exact lend_ref rfl (ro_eL (by intro _; first | rfl | exact roL_cL (by intro _; rfl)))) ?_)))
        ·
          first | omega | rfl | assumption | (simp; done) | (simp_all; done)
        rintro _ _ rfl
        refine w_end ?_
        refine w_all rfl ⟨?_, trivial⟩
        refine x_move ?_
        refine w_end ?_
        refine w_all rfl ⟨?_, trivial⟩
        refine x_indexAddr ?_ ?_
        ·
          exact ⟨by omega, by omega⟩
        refine w_end ?_
        refine w_all rfl ⟨?_, trivial⟩
        first | refine x_ldE ?_ ?_ | refine x_ldN ?_ ?_ | refine x_ldO ?_ ?_ | refine x_ldON ?_ ?_ (hf := fun x => (rfl : cN x = List.map V.val [_, _, _, _]))
        ·
          omega
        refine w_end ?_
        refine w_all rfl ⟨?_, trivial⟩
        refine x_bin ?_
        refine w_end ?_
        refine w_done hK16 ?_
        refine hK15 _ _ (Ghost.refl _) ?_
        refine a_condP rfl (by first | exact .beq | exact .bne | exact .dec | exact .not .beq | exact .not .bne | exact .not .dec | exact .not .id | exact .id) (fun h37 => ?_) (fun h37 => ?_)
        · skip
          refine a_seq fun K38 hK38 => ?_
          refine a_region rfl fun K39 hK39 => ?_
          refine x_assign ?_
          refine r_nil hK39 ?_
          refine hK38 _ _ (Ghost.refl _) ?_
          refine a_ret ?_
          refine then_ret ?_
          refine hK13 .ret _ (in_ret ?_)
          refine then_ret ?_
          refine then_ret ?_
          refine hK6 .ret _ (in_ret ?_)
          refine then_ret ?_
          refine leave_val (.inr rfl) rfl rfl rfl (congrArg (fun z => V.val (.int .i64 z)) ?_)
          first | omega | (exfalso; apply h37; rw [hm, marksS_get (by omega)]; congr 2; omega)
        · skip
          refine a_skip ?_
          refine hK14 _ _ (Ghost.refl _) ?_
          refine a_region rfl fun K40 hK40 => ?_
          refine x_move ?_
          refine x_add ?_ ?_
          ·
            exact ⟨by omega, by omega⟩
          refine x_assign ?_
          refine r_nil hK40 ?_
          refine hK13 .normal _ ?_
          refine hK12 _ _ (Ghost.refl _) ?_
          refine a_region rfl fun K41 hK41 => ?_
          refine x_move ?_
          refine x_add ?_ ?_
          ·
            exact ⟨by omega, by omega⟩
          refine x_assign ?_
          refine r_nil hK41 ?_
          refine hK7 (_, _) _ _ _ (Ghost.refl _) ⟨rfl, rfl, rfl, trivial⟩ ⟨rfl, rfl, trivial⟩ ?_ ?_
          ·
            first | omega | (dsimp only; omega)
          ·
            try dsimp only
            refine ⟨?_, ?_⟩
            ·
              first | omega | rfl | assumption | (simp; done) | (simp_all; done)
            ·
              first | omega | rfl | assumption | (simp; done) | (simp_all; done)
      · skip
        refine x_move ?_
        refine w_end ?_
        refine w_all rfl ⟨?_, trivial⟩
        refine x_call (s_laws_markText ?_) ?_ (hl := by first | rfl | (repeat (first | exact lendL_nil | refine lendL_cons (by first | rfl | exact lend_ref rfl (ro_eL (by intro _; first | rfl | exact roL_cL (by intro _; rfl)))) ?_)))
        ·
          first | omega | rfl | assumption | (simp; done) | (simp_all; done)
        rintro _ _ rfl
        refine w_end ?_
        refine w_all rfl ⟨?_, ?_, trivial⟩
        · skip
          refine x_move ?_
          refine w_end ?_
          refine w_all rfl ⟨?_, trivial⟩
          refine x_move ?_
          refine w_end ?_
          refine w_all rfl ⟨?_, trivial⟩
          refine x_indexAddr ?_ ?_
          ·
            exact ⟨by omega, by omega⟩
          refine w_end ?_
          refine w_all rfl ⟨?_, trivial⟩
          first | refine x_ldE ?_ ?_ | refine x_ldN ?_ ?_ | refine x_ldO ?_ ?_ | refine x_ldON ?_ ?_ (hf := fun x => (rfl : cN x = List.map V.val [_, _, _, _]))
          ·
            omega
          refine w_end ?_
          refine w_all rfl ⟨?_, trivial⟩
          refine x_bin ?_
          refine w_end ?_
          refine w_done hK16 ?_
          refine hK15 _ _ (Ghost.refl _) ?_
          refine a_condP rfl (by first | exact .beq | exact .bne | exact .dec | exact .not .beq | exact .not .bne | exact .not .dec | exact .not .id | exact .id) (fun h42 => ?_) (fun h42 => ?_)
          · skip
            refine a_seq fun K43 hK43 => ?_
            refine a_region rfl fun K44 hK44 => ?_
            refine x_assign ?_
            refine r_nil hK44 ?_
            refine hK43 _ _ (Ghost.refl _) ?_
            refine a_ret ?_
            refine then_ret ?_
            refine hK13 .ret _ (in_ret ?_)
            refine then_ret ?_
            refine then_ret ?_
            refine hK6 .ret _ (in_ret ?_)
            refine then_ret ?_
            refine leave_val (.inr rfl) rfl rfl rfl (congrArg (fun z => V.val (.int .i64 z)) ?_)
            first | omega | (exfalso; apply h42; rw [hm, marksS_get (by omega)]; congr 2; omega)
          · skip
            refine a_skip ?_
            refine hK14 _ _ (Ghost.refl _) ?_
            refine a_region rfl fun K45 hK45 => ?_
            refine x_move ?_
            refine x_add ?_ ?_
            ·
              exact ⟨by omega, by omega⟩
            refine x_assign ?_
            refine r_nil hK45 ?_
            refine hK13 .normal _ ?_
            refine hK12 _ _ (Ghost.refl _) ?_
            refine a_region rfl fun K46 hK46 => ?_
            refine x_move ?_
            refine x_add ?_ ?_
            ·
              exact ⟨by omega, by omega⟩
            refine x_assign ?_
            refine r_nil hK46 ?_
            refine hK7 (_, _) _ _ _ (Ghost.refl _) ⟨rfl, rfl, rfl, trivial⟩ ⟨rfl, rfl, trivial⟩ ?_ ?_
            ·
              first | omega | (dsimp only; omega)
            ·
              try dsimp only
              refine ⟨?_, ?_⟩
              ·
                first | omega | rfl | assumption | (simp; done) | (simp_all; done)
              ·
                first | omega | rfl | assumption | (simp; done) | (simp_all; done)
        · skip
          refine x_move ?_
          refine w_end ?_
          exact w_all rfl trivial
    · skip
      refine a_exit ?_
      refine then_exit ?_
      refine then_exit ?_
      refine hK6 (.exit 0) _ (in_exit ?_)
      refine hK3 _ _ (Ghost.refl _) ?_
      refine a_seq fun K47 hK47 => ?_
      refine a_region rfl fun K48 hK48 => ?_
      refine x_move ?_
      refine x_assign ?_
      refine r_nil hK48 ?_
      refine hK47 _ _ (Ghost.refl _) ?_
      refine a_ret ?_
      refine leave_val (.inr rfl) rfl rfl rfl (congrArg (fun z => V.val (.int .i64 z)) ?_)
      first | omega | (exfalso; apply h11; rw [hm, marksS_get (by omega)]; congr 2; omega)
end Go.T
namespace Go.T
open Go Go.E Go.Proofs
theorem s_laws_FnExactSplitAny {s : ByteArray} {y : ByteArray}  : Go.E.Spec Try.prog 7 [.val (.string s), .val (.string y)] (fun r _ => r = .val (.bool (true))) := by
  refine spec_of_awp (E := Ev) evOk Try.func7 (c := _) rfl (by decide) (by simp [Try.ntmps7]) ?_
  rw [Try.ntmps7, entry_mk]
  change awp Ev 2 52 _ _ (mkSt [(0, .v (.val (.string s))), (1, .v (.val (.string y)))] [(0, .val (.string s)), (1, .val (.string y))])
  have hlen := splitAny_length (s := s) (by_ := y)
  refine a_seq fun K1 hK1 => ?_
  refine a_region rfl fun K2 hK2 => ?_
  refine x_assign ?_
  refine r_nil hK2 ?_
  refine hK1 _ _ (Ghost.refl _) ?_
  refine a_seq fun K3 hK3 => ?_
  refine a_seq fun K4 hK4 => ?_
  refine a_region rfl fun K5 hK5 => ?_
  refine x_move ?_
  refine x_len ?_
  refine x_bin ?_
  refine r_nil hK5 ?_
  refine hK4 _ _ (Ghost.refl _) ?_
  refine a_condP rfl (by first | exact .beq | exact .bne | exact .dec | exact .not .beq | exact .not .bne | exact .not .dec | exact .not .id | exact .id) (fun h6 => ?_) (fun h6 => ?_)
  · skip
    refine a_seq fun K7 hK7 => ?_
    refine a_region rfl fun K8 hK8 => ?_
    refine x_assign ?_
    refine r_nil hK8 ?_
    refine hK7 _ _ (Ghost.refl _) ?_
    refine a_ret ?_
    refine then_ret ?_
    refine leave_val (.inr rfl) rfl rfl rfl (congrArg (fun z => V.val (.bool z)) ?_)
    first | rfl | (simp_all [marksS_length]; done) | (exfalso; simp only [marksS_length] at *; omega)
  · skip
    refine a_skip ?_
    refine hK3 _ _ (Ghost.refl _) ?_
    refine a_seq fun K9 hK9 => ?_
    refine a_seq fun K10 hK10 => ?_
    refine a_region rfl fun K11 hK11 => ?_
    refine x_move ?_
    refine x_len ?_
    refine x_bin ?_
    refine r_nil hK11 ?_
    refine hK10 _ _ (Ghost.refl _) ?_
    refine a_condP rfl (by first | exact .beq | exact .bne | exact .dec | exact .not .beq | exact .not .bne | exact .not .dec | exact .not .id | exact .id) (fun h12 => ?_) (fun h12 => ?_)
    · skip
      refine a_seq fun K13 hK13 => ?_
      refine a_region rfl fun K14 hK14 => ?_
      refine x_assign ?_
      refine r_nil hK14 ?_
      refine hK13 _ _ (Ghost.refl _) ?_
      refine a_ret ?_
      refine then_ret ?_
      refine leave_val (.inr rfl) rfl rfl rfl (congrArg (fun z => V.val (.bool z)) ?_)
      first | rfl | (simp_all [marksS_length]; done) | (exfalso; simp only [marksS_length] at *; omega)
    · skip
      refine a_skip ?_
      refine hK9 _ _ (Ghost.refl _) ?_
      refine a_seq fun K15 hK15 => ?_
      refine a_region rfl fun K16 hK16 => ?_
      refine x_move ?_
      refine x_move ?_
      refine x_call (s_spec_SplitAny ?_ ?_) ?_ (hl := by first | rfl | (repeat (first | exact lendL_nil | refine lendL_cons (by first | rfl | exact lend_ref rfl (ro_eL (by intro _; first | rfl | exact roL_cL (by intro _; rfl)))) ?_)))
      ·
        first | omega | rfl | assumption | (simp; done) | (simp_all; done)
      ·
        first | omega | rfl | assumption | (simp; done) | (simp_all; done)
      rintro _ _ rfl
      refine x_assign ?_
      refine r_nil hK16 ?_
      refine hK15 _ _ (Ghost.refl _) ?_
      refine a_seq fun K17 hK17 => ?_
      refine a_region rfl fun K18 hK18 => ?_
      refine x_move ?_
      refine x_move ?_
      refine x_call (s_impl_SplitAny ?_) ?_ (hl := by first | rfl | (repeat (first | exact lendL_nil | refine lendL_cons (by first | rfl | exact lend_ref rfl (ro_eL (by intro _; first | rfl | exact roL_cL (by intro _; rfl)))) ?_)))
      ·
        first | omega | rfl | assumption | (simp; done) | (simp_all; done)
      rintro _ _ rfl
      refine x_assign ?_
      refine r_nil hK18 ?_
      refine hK17 _ _ (Ghost.refl _) ?_
      refine a_seq fun K19 hK19 => ?_
      refine a_seq fun K20 hK20 => ?_
      refine a_region rfl fun K21 hK21 => ?_
      refine x_move ?_
      refine x_move ?_
      refine x_call (s_laws_eqStringS ?_) ?_ (hl := by first | rfl | (repeat (first | exact lendL_nil | refine lendL_cons (by first | rfl | exact lend_ref rfl (ro_eL (by intro _; first | rfl | exact roL_cL (by intro _; rfl)))) ?_)))
      ·
        first | omega | rfl | assumption | (simp; done) | (simp_all; done)
      rintro _ _ rfl
      refine x_un ?_
      refine r_nil hK21 ?_
      refine hK20 _ _ (Ghost.refl _) ?_
      refine a_condP rfl (by first | exact .beq | exact .bne | exact .dec | exact .not .beq | exact .not .bne | exact .not .dec | exact .not .id | exact .id) (fun h22 => ?_) (fun h22 => ?_)
      · skip
        refine a_seq fun K23 hK23 => ?_
        refine a_region rfl fun K24 hK24 => ?_
        refine x_assign ?_
        refine r_nil hK24 ?_
        refine hK23 _ _ (Ghost.refl _) ?_
        refine a_ret ?_
        refine then_ret ?_
        refine leave_val (.inr rfl) rfl rfl rfl (congrArg (fun z => V.val (.bool z)) ?_)
        first | rfl | (simp_all [marksS_length]; done) | (exfalso; simp only [marksS_length] at *; omega)
      · skip
        refine a_skip ?_
        refine hK19 _ _ (Ghost.refl _) ?_
        refine a_seq fun K25 hK25 => ?_
        refine a_region rfl fun K26 hK26 => ?_
        refine x_assign ?_
        refine r_nil hK26 ?_
        refine hK25 _ _ (Ghost.refl _) ?_
        refine a_seq fun K27 hK27 => ?_
        refine a_region rfl fun K28 hK28 => ?_
        refine x_move ?_
        refine x_move ?_
        refine x_callO (s_laws_markStringS ?_ ?_) ?_ (hl := by first | rfl | (repeat (first | exact lendL_nil | refine lendL_cons (by first | rfl | exact lend_ref rfl (ro_eL (by intro _; first | rfl | exact roL_cL (by intro _; rfl)))) ?_)))
        ·
          first | omega | rfl | assumption | (simp; done) | (simp_all; done)
        ·
          first | omega | rfl | assumption | (simp; done) | (simp_all; done)
        rintro _ _ ⟨rfl, ho⟩; refine ⟨_, ho, rfl, ?_⟩
        refine x_assign ?_
        refine r_nil hK28 ?_
        refine hK27 _ _ (Ghost.refl _) ?_
        refine a_seq fun K29 hK29 => ?_
        refine a_region rfl fun K30 hK30 => ?_
        refine x_assign ?_
        refine r_nil hK30 ?_
        refine hK29 _ _ (Ghost.refl _) ?_
        refine a_seq fun K31 hK31 => ?_
        refine a_region rfl fun K32 hK32 => ?_
        refine x_move ?_
        refine x_move ?_
        refine x_call (s_laws_heldStringS ?_ ?_ ?_) ?_ (hl := by first | rfl | (repeat (first | exact lendL_nil | refine lendL_cons (by first | rfl | exact lend_ref rfl (ro_eL (by intro _; first | rfl | exact roL_cL (by intro _; rfl)))) ?_)))
        ·
          first | omega | (simp only [marksS_length]; done) | (simp only [marksS_length]; omega)
        ·
          first | omega | (simp only [marksS_length]; done) | (simp only [marksS_length]; omega)
        ·
          first | omega | (simp only [marksS_length]; done) | (simp only [marksS_length]; omega)
        rintro _ _ rfl
        refine x_assign ?_
        refine r_nil hK32 ?_
        refine hK31 _ _ (Ghost.refl _) ?_
        refine a_seq fun K33 hK33 => ?_
        refine a_seq fun K34 hK34 => ?_
        refine a_region rfl fun K35 hK35 => ?_
        refine x_move ?_
        refine x_bin ?_
        refine r_nil hK35 ?_
        refine hK34 _ _ (Ghost.refl _) ?_
        refine a_condP rfl (by first | exact .beq | exact .bne | exact .dec | exact .not .beq | exact .not .bne | exact .not .dec | exact .not .id | exact .id) (fun h36 => ?_) (fun h36 => ?_)
        · skip
          refine a_seq fun K37 hK37 => ?_
          refine a_region rfl fun K38 hK38 => ?_
          refine x_assign ?_
          refine r_nil hK38 ?_
          refine hK37 _ _ (Ghost.refl _) ?_
          refine a_ret ?_
          refine then_ret ?_
          refine leave_val (.inr rfl) rfl rfl rfl (congrArg (fun z => V.val (.bool z)) ?_)
          first | rfl | (simp_all [marksS_length]; done) | (exfalso; simp only [marksS_length] at *; omega)
        · skip
          refine a_skip ?_
          refine hK33 _ _ (Ghost.refl _) ?_
          refine a_seq fun K39 hK39 => ?_
          refine a_seq fun K40 hK40 => ?_
          refine a_region rfl fun K41 hK41 => ?_
          refine x_move ?_
          refine x_move ?_
          refine x_bin ?_
          refine r_nil hK41 ?_
          refine hK40 _ _ (Ghost.refl _) ?_
          refine a_condP rfl (by first | exact .beq | exact .bne | exact .dec | exact .not .beq | exact .not .bne | exact .not .dec | exact .not .id | exact .id) (fun h42 => ?_) (fun h42 => ?_)
          · skip
            refine a_seq fun K43 hK43 => ?_
            refine a_region rfl fun K44 hK44 => ?_
            refine x_assign ?_
            refine r_nil hK44 ?_
            refine hK43 _ _ (Ghost.refl _) ?_
            refine a_ret ?_
            refine then_ret ?_
            refine leave_val (.inr rfl) rfl rfl rfl (congrArg (fun z => V.val (.bool z)) ?_)
            first | rfl | (simp_all [marksS_length]; done) | (exfalso; simp only [marksS_length] at *; omega)
          · skip
            refine a_skip ?_
            refine hK39 _ _ (Ghost.refl _) ?_
            refine a_seq fun K45 hK45 => ?_
            refine a_region rfl fun K46 hK46 => ?_
            refine x_move ?_
            refine x_move ?_
            refine x_call (s_impl_SplitAny ?_) ?_ (hl := by first | rfl | (repeat (first | exact lendL_nil | refine lendL_cons (by first | rfl | exact lend_ref rfl (ro_eL (by intro _; first | rfl | exact roL_cL (by intro _; rfl)))) ?_)))
            ·
              first | omega | rfl | assumption | (simp; done) | (simp_all; done)
            rintro _ _ rfl
            refine x_assign ?_
            refine r_nil hK46 ?_
            refine hK45 _ _ (Ghost.refl _) ?_
            refine a_seq fun K47 hK47 => ?_
            refine a_seq fun K48 hK48 => ?_
            refine a_region rfl fun K49 hK49 => ?_
            refine x_move ?_
            refine x_move ?_
            refine x_call (s_laws_eqStringS ?_) ?_ (hl := by first | rfl | (repeat (first | exact lendL_nil | refine lendL_cons (by first | rfl | exact lend_ref rfl (ro_eL (by intro _; first | rfl | exact roL_cL (by intro _; rfl)))) ?_)))
            ·
              first | omega | rfl | assumption | (simp; done) | (simp_all; done)
            rintro _ _ rfl
            refine x_un ?_
            refine r_nil hK49 ?_
            refine hK48 _ _ (Ghost.refl _) ?_
            refine a_condP rfl (by first | exact .beq | exact .bne | exact .dec | exact .not .beq | exact .not .bne | exact .not .dec | exact .not .id | exact .id) (fun h50 => ?_) (fun h50 => ?_)
            · skip
              refine a_seq fun K51 hK51 => ?_
              refine a_region rfl fun K52 hK52 => ?_
              refine x_assign ?_
              refine r_nil hK52 ?_
              refine hK51 _ _ (Ghost.refl _) ?_
              refine a_ret ?_
              refine then_ret ?_
              refine leave_val (.inr rfl) rfl rfl rfl (congrArg (fun z => V.val (.bool z)) ?_)
              first | rfl | (simp_all [marksS_length]; done) | (exfalso; simp only [marksS_length] at *; omega)
            · skip
              refine a_skip ?_
              refine hK47 _ _ (Ghost.refl _) ?_
              refine a_seq fun K53 hK53 => ?_
              refine a_region rfl fun K54 hK54 => ?_
              refine x_assign ?_
              refine r_nil hK54 ?_
              refine hK53 _ _ (Ghost.refl _) ?_
              refine a_seq fun K55 hK55 => ?_
              refine a_region rfl fun K56 hK56 => ?_
              refine x_move ?_
              refine x_move ?_
              refine x_call (s_laws_heldStringS ?_ ?_ ?_) ?_ (hl := by first | rfl | (repeat (first | exact lendL_nil | refine lendL_cons (by first | rfl | exact lend_ref rfl (ro_eL (by intro _; first | rfl | exact roL_cL (by intro _; rfl)))) ?_)))
              ·
                first | omega | (simp only [marksS_length]; done) | (simp only [marksS_length]; omega)
              ·
                first | omega | (simp only [marksS_length]; done) | (simp only [marksS_length]; omega)
              ·
                first | omega | (simp only [marksS_length]; done) | (simp only [marksS_length]; omega)
              rintro _ _ rfl
              refine x_assign ?_
              refine r_nil hK56 ?_
              refine hK55 _ _ (Ghost.refl _) ?_
              refine a_seq fun K57 hK57 => ?_
              refine a_seq fun K58 hK58 => ?_
              refine a_region rfl fun K59 hK59 => ?_
              refine x_move ?_
              refine x_bin ?_
              refine r_nil hK59 ?_
              refine hK58 _ _ (Ghost.refl _) ?_
              refine a_condP rfl (by first | exact .beq | exact .bne | exact .dec | exact .not .beq | exact .not .bne | exact .not .dec | exact .not .id | exact .id) (fun h60 => ?_) (fun h60 => ?_)
              · skip
                refine a_seq fun K61 hK61 => ?_
                refine a_region rfl fun K62 hK62 => ?_
                refine x_assign ?_
                refine r_nil hK62 ?_
                refine hK61 _ _ (Ghost.refl _) ?_
                refine a_ret ?_
                refine then_ret ?_
                refine leave_val (.inr rfl) rfl rfl rfl (congrArg (fun z => V.val (.bool z)) ?_)
                first | rfl | (simp_all [marksS_length]; done) | (exfalso; simp only [marksS_length] at *; omega)
              · skip
                refine a_skip ?_
                refine hK57 _ _ (Ghost.refl _) ?_
                refine a_seq fun K63 hK63 => ?_
                refine a_seq fun K64 hK64 => ?_
                refine a_region rfl fun K65 hK65 => ?_
                refine x_move ?_
                refine x_move ?_
                refine x_bin ?_
                refine r_nil hK65 ?_
                refine hK64 _ _ (Ghost.refl _) ?_
                refine a_condP rfl (by first | exact .beq | exact .bne | exact .dec | exact .not .beq | exact .not .bne | exact .not .dec | exact .not .id | exact .id) (fun h66 => ?_) (fun h66 => ?_)
                · skip
                  refine a_seq fun K67 hK67 => ?_
                  refine a_region rfl fun K68 hK68 => ?_
                  refine x_assign ?_
                  refine r_nil hK68 ?_
                  refine hK67 _ _ (Ghost.refl _) ?_
                  refine a_ret ?_
                  refine then_ret ?_
                  refine leave_val (.inr rfl) rfl rfl rfl (congrArg (fun z => V.val (.bool z)) ?_)
                  first | rfl | (simp_all [marksS_length]; done) | (exfalso; simp only [marksS_length] at *; omega)
                · skip
                  refine a_skip ?_
                  refine hK63 _ _ (Ghost.refl _) ?_
                  refine a_seq fun K69 hK69 => ?_
                  refine a_region rfl fun K70 hK70 => ?_
                  refine x_assign ?_
                  refine r_nil hK70 ?_
                  refine hK69 _ _ (Ghost.refl _) ?_
                  refine a_ret ?_
                  refine leave_val (.inr rfl) rfl rfl rfl (congrArg (fun z => V.val (.bool z)) ?_)
                  first | rfl | (simp_all [marksS_length]; done) | (exfalso; simp only [marksS_length] at *; omega)
end Go.T
