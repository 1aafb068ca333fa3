/- IsDigits of the program and of the reference answer alike at every string of at most 1<<20 bytes: the pure half. -/
import Derived.Test.YtkelgdejdnkilaaPFnExactIsDigitsx1
import Derived.Laws.Strings
namespace Go.Proofs.Ytkelgdejdnkilaa.Pure
open Go.RowKit Go.Proofs.Ytkelgdejdnkilaa.PFnExactIsDigits Go.Proofs.YtkelgdejdnkilaaW.PrintWords Go.Proofs.YtkelgdejdnkilaaW.PrintLast

namespace IsDigits

/-- Whether p holds at n places from i on. -/
def allFrom (p : Int → Bool) : Nat → Int → Bool
  | 0, _ => true
  | n + 1, i => p i && allFrom p n (i + 1)

theorem wrap_next {i : Int} (h0 : 0 ≤ i) (h1 : i ≤ 1048576) : wrap64 (i + 1) = i + 1 := by
  unfold wrap64; omega

def dig (x : ByteArray) (i : Int) : Bool := decide (48 ≤ bt x i) && decide (bt x i ≤ 57)

theorem spec_loop (x : ByteArray) (hx : (x.size : Int) ≤ 1048576) : ∀ (n : Nat) (i : Int), 0 ≤ i → i + n = x.size →
    spec_IsDigits.l0 (n + 1) x i = some (allFrom (dig x) n i && decide ((x.size : Int) > 0))
  | 0, i, h0, h => by
      have : ¬ i < (x.size : Int) := by omega
      simp only [spec_IsDigits.l0, this, if_false, allFrom, Bool.true_and]
  | n + 1, i, h0, h => by
      have h1 : i < (x.size : Int) := by omega
      have hw := wrap_next h0 (by omega : i ≤ 1048576)
      rw [spec_IsDigits.l0, if_pos h1, if_pos h0]
      by_cases a : bt x i < 48
      · rw [if_pos a]
        have : dig x i = false := by unfold dig; rw [decide_eq_false (by omega)]; rfl
        simp [allFrom, this]
      · rw [if_neg a]
        by_cases b : bt x i > 57
        · rw [if_pos b]
          have : dig x i = false := by unfold dig; rw [decide_eq_false (by omega : ¬ bt x i ≤ 57), Bool.and_false]
          simp [allFrom, this]
        · rw [if_neg b, hw, spec_loop x hx n (i + 1) (by omega) (by omega)]
          have : dig x i = true := by unfold dig; rw [decide_eq_true (by omega), decide_eq_true (by omega : bt x i ≤ 57)]; rfl
          simp [allFrom, this]

theorem has_loop (x r : ByteArray) (p : Int → Bool) (c : Nat) (hx : (x.size : Int) ≤ 1048576)
    (inner : ∀ k i, 0 ≤ i → i < (x.size : Int) → impl_has.l1 (k + c) x r i false 0 x.size i = if p i = true then impl_has.l0 k x r x.size (wrap64 (i + 1)) else some false) :
    ∀ (n : Nat) (i : Int), 0 ≤ i → i + n = x.size →
    impl_has.l0 ((c + 1) * n + 1) x r x.size i = some (allFrom p n i && (x.toList != ([] : List UInt8)))
  | 0, i, h0, h => by
      have : ¬ i < (x.size : Int) := by omega
      simp only [Nat.mul_zero, impl_has.l0, this, if_false, allFrom, Bool.true_and]
  | n + 1, i, h0, h => by
      have h1 : i < (x.size : Int) := by omega
      have hw := wrap_next h0 (by omega : i ≤ 1048576)
      rw [show (c + 1) * (n + 1) + 1 = ((c + 1) * n + 1 + c) + 1 by rw [Nat.mul_succ]; omega, impl_has.l0, if_pos h1, inner _ i h0 h1]
      cases hp : p i with
      | false => simp [allFrom, hp]
      | true => rw [if_pos rfl, hw, has_loop x r p c hx inner n (i + 1) (by omega) (by omega)]; simp [allFrom, hp]

theorem has_digits (x : ByteArray) (k : Nat) (i : Int) (h0 : 0 ≤ i) (h1 : i < (x.size : Int)) :
    impl_has.l1 (k + 2) x (⟨#[48, 57]⟩ : ByteArray) i false 0 x.size i
      = if dig x i = true then impl_has.l0 k x (⟨#[48, 57]⟩ : ByteArray) x.size (wrap64 (i + 1)) else some false := by
  have s : (((⟨#[48, 57]⟩ : ByteArray).size : Nat) : Int) = 2 := rfl
  have b0 : bt (⟨#[48, 57]⟩ : ByteArray) 0 = 48 := rfl
  have b1 : bt (⟨#[48, 57]⟩ : ByteArray) 1 = 57 := rfl
  have w1 : wrap64 (0 + 1) = 1 := by unfold wrap64; omega
  have w2 : wrap64 (0 + 2) = 2 := by unfold wrap64; omega
  rw [impl_has.l1]
  simp only [s, w1, w2, b0, b1, h0, h1, if_true, if_false, Bool.false_eq_true, show (0 : Int) < 2 by decide, show (0 : Int) ≤ 0 by decide, show (0 : Int) ≤ 1 by decide, show (1 : Int) < 2 by decide]
  rw [impl_has.l1, impl_has.l1]
  simp only [s, show ¬ (2 : Int) < 2 by decide, if_false]
  unfold dig
  by_cases a : 48 ≤ bt x i
  · by_cases b : bt x i ≤ 57 <;> simp [a, b]
  · simp [a]

theorem nonempty_bytes (x : ByteArray) : (x.toList != ([] : List UInt8)) = decide ((x.size : Int) > 0) := by
  rw [ByteArray.toList_eq, ← data_length x]
  cases x.data.toList with
  | nil => rfl
  | cons a l => simp

end IsDigits

/-- YOURS: ∀ (a0 : ByteArray), a0.size ≤ 140737488351232 → ∃ k, laws_FnExactIsDigits.f k a0 = some true -/
theorem FnExactIsDigits : laws_FnExactIsDigits.Pure := by
  intro x _
  by_cases big : (x.size : Int) > 1048576
  · exact ⟨0, by unfold laws_FnExactIsDigits.f; rw [if_pos big]⟩
  have hx : (x.size : Int) ≤ 1048576 := by omega
  have hs : spec_IsDigits.f (x.size + 1) x = some (IsDigits.allFrom (IsDigits.dig x) x.size 0 && decide ((x.size : Int) > 0)) :=
    IsDigits.spec_loop x hx x.size 0 (by omega) (by omega)
  have hi : impl_IsDigits.f ((2 + 1) * x.size + 1) x = some (IsDigits.allFrom (IsDigits.dig x) x.size 0 && decide ((x.size : Int) > 0)) := by
    unfold impl_IsDigits.f impl_has.f
    rw [IsDigits.has_loop x _ (IsDigits.dig x) 2 hx (fun k i h0 h1 => IsDigits.has_digits x k i h0 h1) x.size 0 (by omega) (by omega), IsDigits.nonempty_bytes]
    rfl
  obtain ⟨k, e1, e2⟩ := together (fun k => spec_IsDigits.mono x k) (fun k => impl_IsDigits.mono x k) ⟨_, hs⟩ ⟨_, hi⟩
  refine ⟨k, ?_⟩
  unfold laws_FnExactIsDigits.f
  rw [if_neg big, e1, e2]
  simp

end Go.Proofs.Ytkelgdejdnkilaa.Pure
