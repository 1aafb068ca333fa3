/- IsName of the program and of the reference answer alike at every string of at most 1<<20 bytes: the pure half. -/
import Derived.Test.YtkelgdejdnkilaaPFnExactIsNamex1
import Derived.Laws.Strings
namespace Go.Proofs.Ytkelgdejdnkilaa.Pure
open Go.RowKit Go.Proofs.Ytkelgdejdnkilaa.PFnExactIsName Go.Proofs.YtkelgdejdnkilaaW.PrintWords Go.Proofs.YtkelgdejdnkilaaW.PrintLast

namespace IsName

/-- Whether p holds at n places from i on. -/
def allFrom (p : Int → Bool) : Nat → Int → Bool
  | 0, _ => true
  | n + 1, i => p i && allFrom p n (i + 1)

theorem allFrom_iff (p : Int → Bool) : ∀ n i, allFrom p n i = true ↔ ∀ j : Nat, j < n → p (i + j) = true
  | 0, i => by simp [allFrom]
  | n + 1, i => by
      rw [allFrom, Bool.and_eq_true, allFrom_iff p n (i + 1)]
      constructor
      · rintro ⟨h0, h⟩ j hj
        cases j with
        | zero => simpa using h0
        | succ j => have := h j (by omega); rw [show i + ((j + 1 : Nat) : Int) = i + 1 + (j : Int) by omega]; exact this
      · intro h
        refine ⟨by simpa using h 0 (by omega), fun j hj => ?_⟩
        have := h (j + 1) (by omega); rw [show i + ((j + 1 : Nat) : Int) = i + 1 + (j : Int) by omega] at this; exact this

theorem wrap_next {i : Int} (h0 : 0 ≤ i) (h1 : i ≤ 1048576) : wrap64 (i + 1) = i + 1 := by
  unfold wrap64; omega

def low (x : ByteArray) (i : Int) : Bool := decide (97 ≤ bt x i ∧ bt x i ≤ 122)
def dig (x : ByteArray) (i : Int) : Bool := decide (48 ≤ bt x i ∧ bt x i ≤ 57)
def both (x : ByteArray) (i : Int) : Bool := low x i || dig x i
def good (x : ByteArray) (i : Int) : Bool := low x i || (decide (i ≠ 0) && dig x i)

theorem spec_loop (x : ByteArray) (hx : (x.size : Int) ≤ 1048576) : ∀ (n : Nat) (i : Int), 0 ≤ i → i + n = x.size →
    spec_IsName.l0 (n + 1) x i = some (allFrom (good x) n i && decide (1 ≤ (x.size : Int) ∧ (x.size : Int) ≤ 8))
  | 0, i, h0, h => by
      have : ¬ i < (x.size : Int) := by omega
      simp only [spec_IsName.l0, this, if_false, allFrom, Bool.true_and, spec_l01In.f]
      by_cases a : 1 ≤ (x.size : Int)
      · by_cases b : (x.size : Int) ≤ 8 <;> simp [a, b]
      · simp [a]
  | n + 1, i, h0, h => by
      have h1 : i < (x.size : Int) := by omega
      have hw := wrap_next h0 (by omega : i ≤ 1048576)
      have key : spec_IsName.l0 (n + 1 + 1) x i = if good x i = true then spec_IsName.l0 (n + 1) x (i + 1) else some false := by
        rw [spec_IsName.l0, if_pos h1, if_pos h0, hw]
        unfold good low dig
        by_cases a : bt x i ≥ 97
        · by_cases b : bt x i ≤ 122
          · simp [a, b]
          · by_cases c : i = 0
            · subst c; simp [a, b]
            · have d : bt x i > 57 := by omega
              have e : ¬ bt x i ≤ 57 := by omega
              simp [a, b, c, d, e]
        · by_cases c : i = 0
          · subst c; simp [a]
          · by_cases d : bt x i < 48
            · have : ¬ 48 ≤ bt x i := by omega
              simp [a, c, d, this]
            · have d' : 48 ≤ bt x i := by omega
              by_cases e : bt x i > 57
              · have : ¬ bt x i ≤ 57 := by omega
                simp [a, c, d, e, this]
              · have : bt x i ≤ 57 := by omega
                simp [a, c, d, d', e, this]
      rw [key, spec_loop x hx n (i + 1) (by omega) (by omega), allFrom]
      cases good x i <;> simp

theorem has_loop (x r : ByteArray) (p : Int → Bool) (c : Nat) (hx : (x.size : Int) ≤ 1048576)
    (inner : ∀ k i, 0 ≤ i → i < (x.size : Int) → impl_has.l1 (k + c) x r i false 0 x.size i = if p i = true then impl_has.l0 k x r x.size (wrap64 (i + 1)) else some false) :
    ∀ (n : Nat) (i : Int), 0 ≤ i → i + n = x.size →
    impl_has.l0 ((c + 1) * n + 1) x r x.size i = some (allFrom p n i && (x.toList != ([] : List UInt8)))
  | 0, i, h0, h => by
      have : ¬ i < (x.size : Int) := by omega
      simp only [Nat.mul_zero, impl_has.l0, this, if_false, allFrom, Bool.true_and]
  | n + 1, i, h0, h => by
      have h1 : i < (x.size : Int) := by omega
      have hw := wrap_next h0 (by omega : i ≤ 1048576)
      rw [show (c + 1) * (n + 1) + 1 = ((c + 1) * n + 1 + c) + 1 by rw [Nat.mul_succ]; omega, impl_has.l0, if_pos h1, inner _ i h0 h1]
      cases hp : p i with
      | false => simp [allFrom, hp]
      | true => rw [if_pos rfl, hw, has_loop x r p c hx inner n (i + 1) (by omega) (by omega)]; simp [allFrom, hp]

theorem w1 : wrap64 (0 + 1) = 1 := by unfold wrap64; omega
theorem w2 : wrap64 (0 + 2) = 2 := by unfold wrap64; omega
theorem w3 : wrap64 (2 + 1) = 3 := by unfold wrap64; omega
theorem w4 : wrap64 (2 + 2) = 4 := by unfold wrap64; omega

theorem has_low (x : ByteArray) (k : Nat) (i : Int) (h0 : 0 ≤ i) (h1 : i < (x.size : Int)) :
    impl_has.l1 (k + 2) x (⟨#[97, 122]⟩ : ByteArray) i false 0 x.size i
      = if low x i = true then impl_has.l0 k x (⟨#[97, 122]⟩ : ByteArray) x.size (wrap64 (i + 1)) else some false := by
  have s : (((⟨#[97, 122]⟩ : ByteArray).size : Nat) : Int) = 2 := rfl
  have b0 : bt (⟨#[97, 122]⟩ : ByteArray) 0 = 97 := rfl
  have b1 : bt (⟨#[97, 122]⟩ : ByteArray) 1 = 122 := rfl
  rw [impl_has.l1]
  simp only [s, w1, w2, b0, b1, h0, h1, if_true, if_false, Bool.false_eq_true, show (0 : Int) < 2 by decide, show (0 : Int) ≤ 0 by decide, show (0 : Int) ≤ 1 by decide, show (1 : Int) < 2 by decide]
  rw [impl_has.l1, impl_has.l1]
  simp only [s, show ¬ (2 : Int) < 2 by decide, if_false]
  unfold low
  by_cases a : 97 ≤ bt x i
  · by_cases b : bt x i ≤ 122 <;> simp [a, b]
  · simp [a]

theorem has_both (x : ByteArray) (k : Nat) (i : Int) (h0 : 0 ≤ i) (h1 : i < (x.size : Int)) :
    impl_has.l1 (k + 3) x (⟨#[97, 122, 48, 57]⟩ : ByteArray) i false 0 x.size i
      = if both x i = true then impl_has.l0 k x (⟨#[97, 122, 48, 57]⟩ : ByteArray) x.size (wrap64 (i + 1)) else some false := by
  have s : (((⟨#[97, 122, 48, 57]⟩ : ByteArray).size : Nat) : Int) = 4 := rfl
  have b0 : bt (⟨#[97, 122, 48, 57]⟩ : ByteArray) 0 = 97 := rfl
  have b1 : bt (⟨#[97, 122, 48, 57]⟩ : ByteArray) 1 = 122 := rfl
  have b2 : bt (⟨#[97, 122, 48, 57]⟩ : ByteArray) 2 = 48 := rfl
  have b3 : bt (⟨#[97, 122, 48, 57]⟩ : ByteArray) 3 = 57 := rfl
  have last : ∀ b, impl_has.l1 (k + 1) x (⟨#[97, 122, 48, 57]⟩ : ByteArray) i b 4 x.size i = if b = true then impl_has.l0 k x (⟨#[97, 122, 48, 57]⟩ : ByteArray) x.size (wrap64 (i + 1)) else some false := by
    intro b
    rw [impl_has.l1]
    simp only [s, show ¬ (4 : Int) < 4 by decide, if_false]
  have second : ∀ b, impl_has.l1 (k + 2) x (⟨#[97, 122, 48, 57]⟩ : ByteArray) i b 2 x.size i = impl_has.l1 (k + 1) x (⟨#[97, 122, 48, 57]⟩ : ByteArray) i (b || dig x i) 4 x.size i := by
    intro b
    rw [impl_has.l1]
    simp only [s, w3, w4, b2, b3, h0, h1, if_true, show (2 : Int) < 4 by decide, show (0 : Int) ≤ 2 by decide, show (0 : Int) ≤ 3 by decide, show (3 : Int) < 4 by decide]
    unfold dig
    cases b
    · by_cases a : 48 ≤ bt x i
      · by_cases b : bt x i ≤ 57 <;> simp [a, b]
      · simp [a]
    · simp
  rw [impl_has.l1]
  simp only [s, w1, w2, b0, b1, h0, h1, if_true, if_false, Bool.false_eq_true, show (0 : Int) < 4 by decide, show (0 : Int) ≤ 0 by decide, show (0 : Int) ≤ 1 by decide, show (1 : Int) < 4 by decide]
  rw [second, second, last, last]
  unfold both low
  by_cases a : 97 ≤ bt x i
  · by_cases b : bt x i ≤ 122 <;> simp [a, b]
  · simp [a]

theorem nonempty_bytes (x : ByteArray) : (x.toList != ([] : List UInt8)) = decide ((x.size : Int) > 0) := by
  rw [ByteArray.toList_eq, ← data_length x]
  cases x.data.toList with
  | nil => rfl
  | cons a l => simp

theorem bt_first (x : ByteArray) (h : 1 ≤ x.size) : bt (x.extract 0 1) 0 = bt x 0 := by
  have h1 : (x.extract 0 1).size = 1 := by simp; omega
  unfold bt
  rw [dif_pos (by omega), dif_pos (by show (0 : Int).toNat < _; simp; omega)]
  simp [ByteArray.getElem_extract]

end IsName

open IsName in
/-- YOURS: ∀ (a0 : ByteArray), a0.size ≤ 140737488351232 → ∃ k, laws_FnExactIsName.f k a0 = some true -/
theorem FnExactIsName : laws_FnExactIsName.Pure := by
  intro x _
  by_cases big : (x.size : Int) > 1048576
  · exact ⟨0, by unfold laws_FnExactIsName.f; rw [if_pos big]⟩
  have hx : (x.size : Int) ≤ 1048576 := by omega
  have hs : spec_IsName.f (x.size + 1) x = some (allFrom (good x) x.size 0 && decide (1 ≤ (x.size : Int) ∧ (x.size : Int) ≤ 8)) :=
    spec_loop x hx x.size 0 (by omega) (by omega)
  have hi : ∃ k, impl_IsName.f k x = some (allFrom (good x) x.size 0 && decide (1 ≤ (x.size : Int) ∧ (x.size : Int) ≤ 8)) := by
    unfold impl_IsName.f
    by_cases s8 : (x.size : Int) ≤ 8
    · have ha : impl_has.f ((3 + 1) * x.size + 1) x (⟨#[97, 122, 48, 57]⟩ : ByteArray) = some (allFrom (both x) x.size 0 && decide ((x.size : Int) > 0)) := by
        unfold impl_has.f
        rw [has_loop x _ (both x) 3 hx (fun k i h0 h1 => has_both x k i h0 h1) x.size 0 (by omega) (by omega), nonempty_bytes]
      by_cases s0 : 1 ≤ x.size
      · have h1 : (x.extract 0 1).size = 1 := by simp; omega
        have hb : impl_has.f ((2 + 1) * (x.extract 0 1).size + 1) (x.extract 0 1) (⟨#[97, 122]⟩ : ByteArray) = some (low x 0) := by
          unfold impl_has.f
          rw [has_loop (x.extract 0 1) _ (low (x.extract 0 1)) 2 (by omega) (fun k i h0 h1 => has_low _ k i h0 h1) (x.extract 0 1).size 0 (by omega) (by omega), nonempty_bytes, h1]
          simp [allFrom, low, bt_first x s0]
        obtain ⟨k, e1, e2⟩ := together (fun k => impl_has.mono _ _ k) (fun k => impl_has.mono _ _ k) ⟨_, ha⟩ ⟨_, hb⟩
        refine ⟨k, ?_⟩
        rw [if_pos s8, e1, Option.bind_some, e2, if_pos (show (0 : Nat) ≤ 1 by decide), if_pos (show 1 ≤ (x.size : Int) by omega)]
        have p1 : decide ((x.size : Int) > 0) = true := decide_eq_true (by omega)
        have p2 : decide (1 ≤ (x.size : Int) ∧ (x.size : Int) ≤ 8) = true := decide_eq_true (by omega)
        rw [p1, p2, Bool.and_true, Bool.and_true, Option.bind_some]
        have : allFrom (good x) x.size 0 = (allFrom (both x) x.size 0 && low x 0) := by
          rw [Bool.eq_iff_iff, Bool.and_eq_true, allFrom_iff, allFrom_iff]
          constructor
          · intro h
            refine ⟨fun j hj => ?_, ?_⟩
            · have := h j hj
              unfold good at this
              unfold both
              cases hl : low x (0 + (j : Int)) with
              | true => rfl
              | false => rw [hl] at this; simp at this; simpa using this.2
            · have := h 0 (by omega)
              unfold good at this
              simpa using this
          · rintro ⟨h, h0⟩ j hj
            have := h j hj
            unfold both at this
            unfold good
            cases j with
            | zero => simpa using h0
            | succ j => rw [decide_eq_true (by omega : (0 : Int) + ((j + 1 : Nat) : Int) ≠ 0), Bool.true_and]; exact this
        rw [this]
        cases allFrom (both x) x.size 0 <;> simp
      · refine ⟨(3 + 1) * x.size + 1, ?_⟩
        rw [if_pos s8, ha]
        have p1 : decide ((x.size : Int) > 0) = false := decide_eq_false (by omega)
        have p2 : decide (1 ≤ (x.size : Int) ∧ (x.size : Int) ≤ 8) = false := decide_eq_false (by omega)
        rw [p1, p2, Bool.and_false, Bool.and_false, Option.bind_some, if_neg (by decide)]
    · refine ⟨0, ?_⟩
      have p2 : decide (1 ≤ (x.size : Int) ∧ (x.size : Int) ≤ 8) = false := decide_eq_false (by omega)
      rw [if_neg s8, p2, Bool.and_false]
  obtain ⟨k, e1, e2⟩ := together (fun k => spec_IsName.mono x k) (fun k => impl_IsName.mono x k) ⟨_, hs⟩ hi
  refine ⟨k, ?_⟩
  unfold laws_FnExactIsName.f
  rw [if_neg big, e1, e2]
  simp

end Go.Proofs.Ytkelgdejdnkilaa.Pure
