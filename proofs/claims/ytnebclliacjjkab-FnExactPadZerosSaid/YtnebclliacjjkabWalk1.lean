import Derived.Test.YtnebclliacjjkabChecked
import Derived.Shelf.Strings.Builder1
import Derived.Shelf.Strings.Builder2
import Derived.Shelf.Strings.BuilderF
import Derived.Shelf.Strings.Builder2Cap
import Derived.Shelf.Strings.Prefix
import Derived.Shelf.Bits.Mul64
import Derived.Shelf.Strings.Repeat
import Derived.Ground.Names2Prog
import Derived.Shelf.Slices.Clone
import Derived.Ground.SlgnProg
import Derived.Shelf.SlicesE.Clone
import Derived.Test.YtnebclliacjjkabPlain
/- What the functions that the law reaches compute. -/
set_option linter.unusedVariables false
set_option linter.unusedSimpArgs false
namespace Go.T
open Go Go.E Go.Proofs
theorem tabOk : [2, 3, 4, 5, 9, 21, 24, 25, 27, 30, 36, 39, 56, 57, 59, 60, 69, 70, 85, 86, 89, 92].map (TI.of Try.prog) = [⟨.int .i64, 1, 8, [.int .i64 0]⟩, ⟨.int .i64, 1, 8, [.int .i64 0]⟩, ⟨.bool, 1, 1, [.bool false]⟩, ⟨.int .u8, 1, 1, [.int .u8 0]⟩, ⟨.string, 1, 16, [.string ByteArray.empty]⟩, ⟨.int .i32, 1, 4, [.int .i32 0]⟩, ⟨.slice 3, 1, 24, [.slice none 0 0]⟩, ⟨.slice 24, 1, 24, [.slice none 0 0]⟩, ⟨.strct [(0, 24), (1, 25), (2, 3)], 3, 56, [.slice none 0 0, .slice none 0 0, .int .i64 0]⟩, ⟨.strct [(0, 24), (1, 25), (2, 3)], 3, 56, [.slice none 0 0, .slice none 0 0, .int .i64 0]⟩, ⟨.slice 59, 1, 24, [.slice none 0 0]⟩, ⟨.slice 57, 1, 24, [.slice none 0 0]⟩, ⟨.strct [(0, 3), (1, 3), (2, 3), (3, 3)], 4, 32, [.int .i64 0, .int .i64 0, .int .i64 0, .int .i64 0]⟩, ⟨.strct [(0, 3), (1, 3), (2, 3), (3, 3)], 4, 32, [.int .i64 0, .int .i64 0, .int .i64 0, .int .i64 0]⟩, ⟨.strct [(0, 3), (1, 3), (2, 3), (3, 3)], 4, 32, [.int .i64 0, .int .i64 0, .int .i64 0, .int .i64 0]⟩, ⟨.ptr, 1, 8, [.pointer none]⟩, ⟨.ptr, 1, 8, [.pointer none]⟩, ⟨.slice 5, 1, 24, [.slice none 0 0]⟩, ⟨.strct [(0, 3), (1, 3), (2, 60), (3, 60)], 4, 32, [.int .i64 0, .int .i64 0, .pointer none, .pointer none]⟩, ⟨.int .u32, 1, 4, [.int .u32 0]⟩, ⟨.int .u64, 1, 8, [.int .u64 0]⟩, ⟨.ptr, 1, 8, [.pointer none]⟩].map some := by kernel_rfl
noncomputable def tab : List (Nat × TI) := [(2, ⟨.int .i64, 1, 8, [.int .i64 0]⟩), (3, ⟨.int .i64, 1, 8, [.int .i64 0]⟩), (4, ⟨.bool, 1, 1, [.bool false]⟩), (5, ⟨.int .u8, 1, 1, [.int .u8 0]⟩), (9, ⟨.string, 1, 16, [.string ByteArray.empty]⟩), (21, ⟨.int .i32, 1, 4, [.int .i32 0]⟩), (24, ⟨.slice 3, 1, 24, [.slice none 0 0]⟩), (25, ⟨.slice 24, 1, 24, [.slice none 0 0]⟩), (27, ⟨.strct [(0, 24), (1, 25), (2, 3)], 3, 56, [.slice none 0 0, .slice none 0 0, .int .i64 0]⟩), (30, ⟨.strct [(0, 24), (1, 25), (2, 3)], 3, 56, [.slice none 0 0, .slice none 0 0, .int .i64 0]⟩), (36, ⟨.slice 59, 1, 24, [.slice none 0 0]⟩), (39, ⟨.slice 57, 1, 24, [.slice none 0 0]⟩), (56, ⟨.strct [(0, 3), (1, 3), (2, 3), (3, 3)], 4, 32, [.int .i64 0, .int .i64 0, .int .i64 0, .int .i64 0]⟩), (57, ⟨.strct [(0, 3), (1, 3), (2, 3), (3, 3)], 4, 32, [.int .i64 0, .int .i64 0, .int .i64 0, .int .i64 0]⟩), (59, ⟨.strct [(0, 3), (1, 3), (2, 3), (3, 3)], 4, 32, [.int .i64 0, .int .i64 0, .int .i64 0, .int .i64 0]⟩), (60, ⟨.ptr, 1, 8, [.pointer none]⟩), (69, ⟨.ptr, 1, 8, [.pointer none]⟩), (70, ⟨.slice 5, 1, 24, [.slice none 0 0]⟩), (85, ⟨.strct [(0, 3), (1, 3), (2, 60), (3, 60)], 4, 32, [.int .i64 0, .int .i64 0, .pointer none, .pointer none]⟩), (86, ⟨.int .u32, 1, 4, [.int .u32 0]⟩), (89, ⟨.int .u64, 1, 8, [.int .u64 0]⟩), (92, ⟨.ptr, 1, 8, [.pointer none]⟩)]
noncomputable def Ev : Env := ⟨Try.prog, tabOf tab⟩
theorem evOk : Ev.Ok := Env.ok_of (tab_ok tabOk)
end Go.T
namespace Go.T
open Go Go.E Go.Proofs
set_option maxHeartbeats 8000000 in
theorem s_spec_PadZeros {s : ByteArray} {n : Int} (hs : s.size ≤ 1048576) : Go.E.Spec Try.prog 8 [.val (.string s), .val (.int .i64 n)] (fun r _ => r = .val (.string (padZ s n))) := by
  refine spec_of_awp (E := Ev) evOk Try.func8 (c := _) rfl (by decide) (by simp [Try.ntmps8]) ?_
  rw [Try.ntmps8, entry_mk]
  change awp Ev 2 15 _ _ (mkSt [(0, .v (.val (.string s))), (1, .v (.val (.int .i64 n)))] [(0, .val (.string s)), (1, .val (.int .i64 n))])
  refine a_seq fun K1 hK1 => ?_
  refine a_region rfl fun K2 hK2 => ?_
  refine x_assign ?_
  refine r_nil hK2 ?_
  refine hK1 _ _ (Ghost.refl _) ?_
  refine a_seq fun K3 hK3 => ?_
  refine a_seq fun K4 hK4 => ?_
  refine a_region rfl fun K5 hK5 => ?_
  refine x_move ?_
  refine x_bin ?_
  refine r_nil hK5 ?_
  refine hK4 _ _ (Ghost.refl _) ?_
  refine a_condS 6 rfl (by first | exact .beq | exact .bne | exact .dec | exact .not .beq | exact .not .bne | exact .not .dec | exact .not .id | exact .id) (fun h6 => ?_) (fun h6 => ?_)
  · skip
    refine a_seq fun K7 hK7 => ?_
    refine a_region rfl fun K8 hK8 => ?_
    refine x_move ?_
    refine x_assign ?_
    refine r_nil hK8 ?_
    refine hK7 _ _ (Ghost.refl _) ?_
    refine a_ret ?_
    refine then_ret ?_
    refine leave_val (.inr rfl) rfl rfl rfl (congrArg (fun z => V.val (.string z)) ?_)
    unfold padZ; rw [if_pos h6]
  · skip
    refine a_skip ?_
    refine hK3 _ _ (Ghost.refl _) ?_
    refine a_seq fun K9 hK9 => ?_
    refine a_block fun K10 hK10 => ?_
    refine a_loopM (X := ByteArray × Nat) (fun (c, j) => ([(0, .v (.val (.string c)))] : List (Nat × S))) (fun (c, j) => ([] : List (Nat × V))) (fun (c, j) => (c = zeros j ++ s) ∧ (c.size = j + s.size) ∧ ((j : Int) ≤ max 0 (n - s.size))) (fun (c, j) => (n - s.size - j).toNat) [(1, .v _)] [(0, _), (1, _)] (_, 0) (Ghost.refl _) ⟨rfl, rfl, trivial⟩ ⟨rfl, rfl, trivial⟩ (fun ⟨_, _⟩ => rfl) ?_ ?_
    ·
      try dsimp only
      refine ⟨?_, ?_, ?_⟩
      ·
        exact (zeros_zero s).symm
      ·
        omega
      ·
        omega
    ·
      rintro ⟨c, j⟩ hI11 K11 hK11
      dsimp only [List.cons_append, List.nil_append] at hI11 ⊢
      obtain ⟨hc, hz, hj⟩ := hI11
      refine a_seq fun K12 hK12 => ?_
      refine a_seq fun K13 hK13 => ?_
      refine a_region rfl fun K14 hK14 => ?_
      refine x_move ?_
      refine x_len ?_
      refine x_move ?_
      refine x_bin ?_
      refine r_nil hK14 ?_
      refine hK13 _ _ (Ghost.refl _) ?_
      refine a_condS 11 rfl (by first | exact .beq | exact .bne | exact .dec | exact .not .beq | exact .not .bne | exact .not .dec | exact .not .id | exact .id) (fun h15 => ?_) (fun h15 => ?_)
      · skip
        refine a_skip ?_
        refine hK12 _ _ (Ghost.refl _) ?_
        refine a_block fun K16 hK16 => ?_
        refine a_region rfl fun K17 hK17 => ?_
        refine x_move ?_
        refine x_cat ?_ ?_
        ·
          show 1 + c.size ≤ _; omega
        refine x_assign ?_
        refine r_nil hK17 ?_
        refine hK16 .normal _ ?_
        refine hK11 (_, j + 1) _ _ _ (Ghost.refl _) ⟨rfl, rfl, trivial⟩ ⟨rfl, rfl, trivial⟩ ?_ ?_
        ·
          first | omega | (dsimp only; omega)
        ·
          try dsimp only
          refine ⟨?_, ?_, ?_⟩
          ·
            rw [hc]; exact zeros_succ j s
          ·
            rw [ByteArray.size_append, hz]; show 1 + _ = _; omega
          ·
            omega
      · skip
        refine a_exit ?_
        refine then_exit ?_
        refine then_exit ?_
        refine hK10 (.exit 0) _ (in_exit ?_)
        refine hK9 _ _ (Ghost.refl _) ?_
        refine a_seq fun K18 hK18 => ?_
        refine a_region rfl fun K19 hK19 => ?_
        refine x_move ?_
        refine x_assign ?_
        refine r_nil hK19 ?_
        refine hK18 _ _ (Ghost.refl _) ?_
        refine a_ret ?_
        refine leave_val (.inr rfl) rfl rfl rfl (congrArg (fun z => V.val (.string z)) ?_)
        unfold padZ; rw [if_neg (by omega), hc]; congr 2; omega
end Go.T
namespace Go.Proofs
open Go.Shelf
def Try.lays105_ren : Go.Shelf.Ren := ⟨fun | 105 => 26 | 212 => 52 | 99 => 53 | 165 => 54 | 166 => 55 | 170 => 56 | 169 => 57 | 263 => 69 | 264 => 70 | 206 => 71 | 240 => 72 | 241 => 73 | 276 => 79 | 277 => 80 | n => n, fun | 9 => 9 | 3 => 3 | 4 => 4 | 20 => 20 | 0 => 0 | 46 => 65 | 109 => 66 | 5 => 5 | 72 => 72 | 76 => 76 | 51 => 86 | 146 => 87 | 53 => 89 | 148 => 90 | 70 => 69 | 37 => 70 | 75 => 75 | 127 => 92 | 164 => 96 | 80 => 78 | n => n, fun | n => n⟩
theorem Try.lays105 : Go.Proofs.Lays.n105 Try.prog Try.lays105_ren := {
  mixed := by kernel_rfl
  f99 := Try.func53.trans (congrArg some (by kernel_rfl))
  f105 := Try.func26.trans (congrArg some (by kernel_rfl))
  f165 := Try.func54.trans (congrArg some (by kernel_rfl))
  f166 := Try.func55.trans (congrArg some (by kernel_rfl))
  f169 := Try.func57.trans (congrArg some (by kernel_rfl))
  f170 := Try.func56.trans (congrArg some (by kernel_rfl))
  f206 := Try.func71.trans (congrArg some (by kernel_rfl))
  f212 := Try.func52.trans (congrArg some (by kernel_rfl))
  f240 := Try.func72.trans (congrArg some (by kernel_rfl))
  f241 := Try.func73.trans (congrArg some (by kernel_rfl))
  f263 := Try.func69.trans (congrArg some (by kernel_rfl))
  f264 := Try.func70.trans (congrArg some (by kernel_rfl))
  f276 := Try.func79.trans (congrArg some (by kernel_rfl))
  f277 := Try.func80.trans (congrArg some (by kernel_rfl))
  t0 := Try.underlying0
  a0 := Try.isAgg0
  z0 := Try.sizeOf0
  v0 := Try.zeroValue0
  t3 := Try.underlying3
  a3 := Try.isAgg3
  z3 := Try.sizeOf3
  v3 := Try.zeroValue3
  t4 := Try.underlying4
  a4 := Try.isAgg4
  z4 := Try.sizeOf4
  v4 := Try.zeroValue4
  t5 := Try.underlying5
  a5 := Try.isAgg5
  z5 := Try.sizeOf5
  v5 := Try.zeroValue5
  t9 := Try.underlying9
  a9 := Try.isAgg9
  z9 := Try.sizeOf9
  v9 := Try.zeroValue9
  t20 := Try.underlying20
  a20 := Try.isAgg20
  z20 := Try.sizeOf20
  v20 := Try.zeroValue20
  t37 := Try.underlying70
  a37 := Try.isAgg70
  z37 := Try.sizeOf70
  v37 := Try.zeroValue70
  t46 := Try.underlying65
  a46 := Try.isAgg65
  z46 := Try.sizeOf65
  v46 := Try.zeroValue65
  t51 := Try.underlying86
  a51 := Try.isAgg86
  z51 := Try.sizeOf86
  v51 := Try.zeroValue86
  t53 := Try.underlying89
  a53 := Try.isAgg89
  z53 := Try.sizeOf89
  v53 := Try.zeroValue89
  t70 := Try.underlying69
  a70 := Try.isAgg69
  z70 := Try.sizeOf69
  v70 := Try.zeroValue69
  t72 := Try.underlying72
  a72 := Try.isAgg72
  z72 := Try.sizeOf72
  v72 := Try.zeroValue72
  t75 := Try.underlying75
  a75 := Try.isAgg75
  z75 := Try.sizeOf75
  v75 := Try.zeroValue75
  t76 := Try.underlying76
  a76 := Try.isAgg76
  z76 := Try.sizeOf76
  v76 := Try.zeroValue76
  t109 := Try.underlying66
  a109 := Try.isAgg66
  z109 := Try.sizeOf66
  v109 := Try.zeroValue66
  t127 := Try.underlying92
  a127 := Try.isAgg92
  z127 := Try.sizeOf92
  v127 := Try.zeroValue92
  t146 := Try.underlying87
  a146 := Try.isAgg87
  z146 := Try.sizeOf87
  v146 := Try.zeroValue87
  t148 := Try.underlying90
  a148 := Try.isAgg90
  z148 := Try.sizeOf90
  v148 := Try.zeroValue90
  t164 := Try.underlying96
  a164 := Try.isAgg96
  z164 := Try.sizeOf96
  v164 := Try.zeroValue96 }
theorem Try.Builder_Extra_105 : Builder.Extra Try.prog Try.lays105_ren := {
  sizeBuilder := by kernel_rfl
  liesBuilder := by kernel_rfl
  t5 := Try.underlying5
  a5 := Try.isAgg5
  z5 := Try.sizeOf5
  v5 := Try.zeroValue5
  infoByte := by kernel_rfl
  cellsByte := by kernel_rfl
  sizeByte := by kernel_rfl
  neB5 := by decide }
open Go.RowKit Go.Lib in
/-- **strings.Repeat: count ≥ 0, the result within one allocation: count copies of s.** (LAID: no walk: one application.) -/
theorem Try.strings_Repeat (s : ByteArray) (c : Nat) (w : World) (hc : c ≤ 9223372036854775807) (hlen : s.size * c ≤ 140737488355328) :
    Calls Try.prog 26 #[.string s, .int .i64 c] w fun e w' => e = .returned (.string ⟨(Lib.repeatL s.data.toList c).toArray⟩) ∧ Below w.heap.size w w' := Any.strings_Repeat Try.lays105 Try.Builder_Extra_105 s c w hc hlen
end Go.Proofs
namespace Go.T
open Go Go.E Go.Proofs
theorem s_strings_Repeat {s : ByteArray} {c : Int} (h0 : 0 ≤ c) (hl : s.size * c.toNat ≤ 140737488355328) (hc : c ≤ 9223372036854775807) : Go.E.Spec Try.prog 26 [.val (.string s), .val (.int .i64 c)] (fun r _ => r = .val (.string ⟨(Lib.repeatL s.data.toList c.toNat).toArray⟩)) := by
  have e : c = ((c.toNat : Nat) : Int) := by omega
  refine spec_of_vals (xs := [.string s, .int .i64 c]) ⟨Try.f26, Try.func26, by kernel_rfl, by kernel_rfl⟩ fun w => ?_
  have := Try.strings_Repeat s c.toNat w (by omega) hl
  rw [← e] at this; exact this
theorem repeat_zeros (k : Nat) : (⟨(Lib.repeatL (⟨#[48]⟩ : ByteArray).data.toList k).toArray⟩ : ByteArray) = zeros k := by
  have : Lib.repeatL [48] k = List.replicate k 48 := by
    induction k with
    | zero => rfl
    | succ k ih => rw [Lib.repeatL, ih]; rfl
  unfold zeros; rw [← this]
end Go.T
namespace Go.T
open Go Go.E Go.Proofs
set_option maxHeartbeats 8000000 in
theorem s_impl_PadZeros {s : ByteArray} {n : Int} (hs : s.size ≤ 1048576) (hn : -9223372036854775808 ≤ n ∧ n ≤ 9223372036854775807) : Go.E.Spec Try.prog 9 [.val (.string s), .val (.int .i64 n)] (fun r _ => r = .val (.string (padZ s n))) := by
  refine spec_of_awp (E := Ev) evOk Try.func9 (c := _) rfl (by decide) (by simp [Try.ntmps9]) ?_
  rw [Try.ntmps9, entry_mk]
  change awp Ev 2 21 _ _ (mkSt [(0, .v (.val (.string s))), (1, .v (.val (.int .i64 n)))] [(0, .val (.string s)), (1, .val (.int .i64 n))])
  refine a_seq fun K1 hK1 => ?_
  refine a_region rfl fun K2 hK2 => ?_
  refine x_assign ?_
  refine r_nil hK2 ?_
  refine hK1 _ _ (Ghost.refl _) ?_
  refine a_seq fun K3 hK3 => ?_
  refine a_seq fun K4 hK4 => ?_
  refine a_region rfl fun K5 hK5 => ?_
  refine x_move ?_
  refine x_bin ?_
  refine x_move ?_
  refine x_split 7 rfl (by first | exact .beq | exact .bne | exact .dec | exact .not .beq | exact .not .bne | exact .not .dec | exact .not .id | exact .id) (fun h6 => ?_) (fun h6 => ?_)
  · skip
    refine x_shut ?_
    refine x_shut ?_
    refine x_shut ?_
    refine x_shut ?_
    refine x_pickT ?_
    refine r_nil hK5 ?_
    refine hK4 _ _ (Ghost.refl _) ?_
    refine a_condT rfl ?_
    refine a_seq fun K7 hK7 => ?_
    refine a_region rfl fun K8 hK8 => ?_
    refine x_move ?_
    refine x_assign ?_
    refine r_nil hK8 ?_
    refine hK7 _ _ (Ghost.refl _) ?_
    refine a_ret ?_
    refine then_ret ?_
    refine leave_val (.inr rfl) rfl rfl rfl (congrArg (fun z => V.val (.string z)) ?_)
    first
      | (unfold padZ; rw [if_pos (by omega)])
      | (unfold padZ; rw [if_neg (by omega), show n - (s.size : Int) = n - s.size from rfl, repeat_zeros])
      | (unfold padZ; rw [if_neg (by omega)]; rw [show (n - (s.size : Int)).toNat = 0 by omega]; exact (zeros_zero s).symm)
  · skip
    refine x_move ?_
    refine x_move ?_
    refine x_len ?_
    refine x_bin ?_
    refine x_pickF ?_
    refine r_nil hK5 ?_
    refine hK4 _ _ (Ghost.refl _) ?_
    refine a_condS 12 rfl (by first | exact .beq | exact .bne | exact .dec | exact .not .beq | exact .not .bne | exact .not .dec | exact .not .id | exact .id) (fun h9 => ?_) (fun h9 => ?_)
    · skip
      refine a_seq fun K10 hK10 => ?_
      refine a_region rfl fun K11 hK11 => ?_
      refine x_move ?_
      refine x_assign ?_
      refine r_nil hK11 ?_
      refine hK10 _ _ (Ghost.refl _) ?_
      refine a_ret ?_
      refine then_ret ?_
      refine leave_val (.inr rfl) rfl rfl rfl (congrArg (fun z => V.val (.string z)) ?_)
      first
        | (unfold padZ; rw [if_pos (by omega)])
        | (unfold padZ; rw [if_neg (by omega), show n - (s.size : Int) = n - s.size from rfl, repeat_zeros])
        | (unfold padZ; rw [if_neg (by omega)]; rw [show (n - (s.size : Int)).toNat = 0 by omega]; exact (zeros_zero s).symm)
    · skip
      refine a_skip ?_
      refine hK3 _ _ (Ghost.refl _) ?_
      refine a_seq fun K12 hK12 => ?_
      refine a_region rfl fun K13 hK13 => ?_
      refine x_move ?_
      refine x_move ?_
      refine x_len ?_
      refine x_sub ?_ ?_
      ·
        exact ⟨by omega, by omega⟩
      refine x_call (s_strings_Repeat ?_ ?_ ?_) ?_ (hl := by first | rfl | (repeat (first | exact lendL_nil | refine lendL_cons (by first | rfl | exact lend_ref rfl (ro_eL (by intro _; first | rfl | exact roL_cL (by intro _; rfl))) | exact lend_refp rfl (ro_eL (by intro _; first | rfl | exact roL_cL (by intro _; rfl))) | exact lend_agg (by repeat (first | exact lendL_nil | refine lendL_cons (by first | rfl | exact lend_ref rfl (ro_eL (by intro _; first | rfl | exact roL_cL (by intro _; rfl))) | exact lend_refp rfl (ro_eL (by intro _; first | rfl | exact roL_cL (by intro _; rfl)))) ?_))) ?_)))
      ·
        omega
      ·
        show 1 * _ ≤ _; omega
      ·
        omega
      rintro _ _ rfl
      refine x_move ?_
      refine x_cat ?_ ?_
      ·
        rw [repeat_zeros, zeros_size]; omega
      refine x_assign ?_
      refine r_nil hK13 ?_
      refine hK12 _ _ (Ghost.refl _) ?_
      refine a_ret ?_
      refine leave_val (.inr rfl) rfl rfl rfl (congrArg (fun z => V.val (.string z)) ?_)
      first
        | (unfold padZ; rw [if_pos (by omega)])
        | (unfold padZ; rw [if_neg (by omega), show n - (s.size : Int) = n - s.size from rfl, repeat_zeros])
        | (unfold padZ; rw [if_neg (by omega)]; rw [show (n - (s.size : Int)).toNat = 0 by omega]; exact (zeros_zero s).symm)
end Go.T
namespace Go.T
open Go Go.E Go.Proofs
set_option maxHeartbeats 8000000 in
theorem s_laws_FnExactPadZeros {s : ByteArray} {n : Int} (hn : -9223372036854775808 ≤ n ∧ n ≤ 9223372036854775807) : Go.E.Spec Try.prog 3 [.val (.string s), .val (.int .i64 n)] (fun r _ => r = .val (.bool (true))) := by
  refine spec_of_awp (E := Ev) evOk Try.func3 (c := _) rfl (by decide) (by simp [Try.ntmps3]) ?_
  rw [Try.ntmps3, entry_mk]
  change awp Ev 2 19 _ _ (mkSt [(0, .v (.val (.string s))), (1, .v (.val (.int .i64 n)))] [(0, .val (.string s)), (1, .val (.int .i64 n))])
  refine a_seq fun K1 hK1 => ?_
  refine a_region rfl fun K2 hK2 => ?_
  refine x_assign ?_
  refine r_nil hK2 ?_
  refine hK1 _ _ (Ghost.refl _) ?_
  refine a_seq fun K3 hK3 => ?_
  refine a_seq fun K4 hK4 => ?_
  refine a_region rfl fun K5 hK5 => ?_
  refine x_move ?_
  refine x_len ?_
  refine x_bin ?_
  refine r_nil hK5 ?_
  refine hK4 _ _ (Ghost.refl _) ?_
  refine a_condS 9 rfl (by first | exact .beq | exact .bne | exact .dec | exact .not .beq | exact .not .bne | exact .not .dec | exact .not .id | exact .id) (fun h6 => ?_) (fun h6 => ?_)
  · skip
    refine a_seq fun K7 hK7 => ?_
    refine a_region rfl fun K8 hK8 => ?_
    refine x_assign ?_
    refine r_nil hK8 ?_
    refine hK7 _ _ (Ghost.refl _) ?_
    refine a_ret ?_
    refine then_ret ?_
    refine leave_val (.inr rfl) rfl rfl rfl (congrArg (fun z => V.val (.bool z)) ?_)
    first | rfl | omega | assumption | (simp; done) | (simp_all; done)
  · skip
    refine a_skip ?_
    refine hK3 _ _ (Ghost.refl _) ?_
    refine a_seq fun K9 hK9 => ?_
    refine a_region rfl fun K10 hK10 => ?_
    refine x_move ?_
    refine x_move ?_
    refine x_call (s_spec_PadZeros ?_) ?_ (hl := by first | rfl | (repeat (first | exact lendL_nil | refine lendL_cons (by first | rfl | exact lend_ref rfl (ro_eL (by intro _; first | rfl | exact roL_cL (by intro _; rfl))) | exact lend_refp rfl (ro_eL (by intro _; first | rfl | exact roL_cL (by intro _; rfl))) | exact lend_agg (by repeat (first | exact lendL_nil | refine lendL_cons (by first | rfl | exact lend_ref rfl (ro_eL (by intro _; first | rfl | exact roL_cL (by intro _; rfl))) | exact lend_refp rfl (ro_eL (by intro _; first | rfl | exact roL_cL (by intro _; rfl)))) ?_))) ?_)))
    ·
      first | omega | rfl | assumption | (simp; done) | (simp_all; done)
    rintro _ _ rfl
    refine x_assign ?_
    refine r_nil hK10 ?_
    refine hK9 _ _ (Ghost.refl _) ?_
    refine a_seq fun K11 hK11 => ?_
    refine a_region rfl fun K12 hK12 => ?_
    refine x_move ?_
    refine x_move ?_
    refine x_call (s_impl_PadZeros ?_ ?_) ?_ (hl := by first | rfl | (repeat (first | exact lendL_nil | refine lendL_cons (by first | rfl | exact lend_ref rfl (ro_eL (by intro _; first | rfl | exact roL_cL (by intro _; rfl))) | exact lend_refp rfl (ro_eL (by intro _; first | rfl | exact roL_cL (by intro _; rfl))) | exact lend_agg (by repeat (first | exact lendL_nil | refine lendL_cons (by first | rfl | exact lend_ref rfl (ro_eL (by intro _; first | rfl | exact roL_cL (by intro _; rfl))) | exact lend_refp rfl (ro_eL (by intro _; first | rfl | exact roL_cL (by intro _; rfl)))) ?_))) ?_)))
    ·
      first | omega | rfl | assumption | (simp; done) | (simp_all; done)
    ·
      first | omega | rfl | assumption | (simp; done) | (simp_all; done)
    rintro _ _ rfl
    refine x_assign ?_
    refine r_nil hK12 ?_
    refine hK11 _ _ (ghost_has (ks := [(5, .v _), (6, .v _)]) (km := [(0, _), (1, _), (12, _), (15, _)]) ⟨rfl, rfl, trivial⟩ ⟨rfl, rfl, rfl, rfl, trivial⟩ rfl) ?_
    refine a_seq fun K13 hK13 => ?_
    refine a_seq fun K14 hK14 => ?_
    refine a_region rfl fun K15 hK15 => ?_
    refine x_move ?_
    refine x_move ?_
    refine x_bin ?_
    refine r_nil hK15 ?_
    refine hK14 _ _ (Ghost.refl _) ?_
    refine a_condS 18 rfl (by first | exact .beq | exact .bne | exact .dec | exact .not .beq | exact .not .bne | exact .not .dec | exact .not .id | exact .id) (fun h16 => ?_) (fun h16 => ?_)
    · skip
      refine a_seq fun K17 hK17 => ?_
      refine a_region rfl fun K18 hK18 => ?_
      refine x_assign ?_
      refine r_nil hK18 ?_
      refine hK17 _ _ (Ghost.refl _) ?_
      refine a_ret ?_
      refine then_ret ?_
      refine leave_val (.inr rfl) rfl rfl rfl (congrArg (fun z => V.val (.bool z)) ?_)
      first | rfl | omega | assumption | (simp; done) | (simp_all; done)
    · skip
      refine a_skip ?_
      refine hK13 _ _ (Ghost.refl _) ?_
      refine a_seq fun K19 hK19 => ?_
      refine a_region rfl fun K20 hK20 => ?_
      refine x_assign ?_
      refine r_nil hK20 ?_
      refine hK19 _ _ (Ghost.refl _) ?_
      refine a_ret ?_
      refine leave_val (.inr rfl) rfl rfl rfl (congrArg (fun z => V.val (.bool z)) ?_)
      first | rfl | omega | assumption | (simp; done) | (simp_all; done)
end Go.T
