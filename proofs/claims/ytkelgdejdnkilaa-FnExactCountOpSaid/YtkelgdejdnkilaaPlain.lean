import Derived.Test.YtkelgdejdnkilaaE2
/- Laws about lists and numbers, with no program in sight. -/
set_option linter.unusedVariables false
set_option linter.unusedSimpArgs false
namespace Go.T
open Go Go.E
theorem take_succ! {α : Type} [Inhabited α] {l : List α} {i : Nat} (h : i < l.length) : l.take (i + 1) = l.take i ++ [l[i]!] := by
  rw [List.take_succ_eq_append_getElem h, getElem!_pos l i h]
/-- The first elements, up to an integer. -/
def takeI {α : Type} (l : List α) (i : Int) : List α := l.take i.toNat
theorem takeI_zero {α : Type} {l : List α} : takeI l 0 = [] := by simp [takeI]
theorem takeI_all {α : Type} {l : List α} {i : Int} (h : l.length ≤ i) : takeI l i = l := by
  unfold takeI; exact List.take_of_length_le (by omega)
theorem takeI_succ {α : Type} [Inhabited α] {l : List α} {i : Int} (h0 : 0 ≤ i) (h : i < l.length) : takeI l (i + 1) = takeI l i ++ [l[i.toNat]!] := by
  unfold takeI
  rw [show (i + 1).toNat = i.toNat + 1 by omega]
  exact take_succ! (by omega)
theorem takeI_length {α : Type} {l : List α} {i : Int} (h0 : 0 ≤ i) (h : i ≤ l.length) : ((takeI l i).length : Int) = i := by
  unfold takeI; rw [List.length_take]; omega
theorem upto_all {α : Type} [Inhabited α] {o l : List α} (h : o.length = l.length) (he : ∀ j : Nat, j < l.length → o[j]! = l[j]!) : o = l := by
  refine List.ext_getElem h fun j h1 h2 => ?_
  have := he j h2
  rwa [getElem!_pos o j h1, getElem!_pos l j h2] at this
theorem get_set! {α : Type} [Inhabited α] {o : List α} {k j : Nat} {a : α} (hk : k < o.length) : (o.set k a)[j]! = if j = k then a else o[j]! := by
  by_cases h : j = k
  · subst h; rw [getElem!_pos (o.set j a) j (by simpa using hk)]; simp
  · simp only [h, if_false]
    by_cases hj : j < o.length
    · rw [getElem!_pos (o.set k a) j (by simpa using hj), getElem!_pos o j hj, List.getElem_set_ne (Ne.symm h)]
    · rw [getElem!_neg (o.set k a) j (by simpa using hj), getElem!_neg o j hj]
theorem set_upto {α : Type} [Inhabited α] {o l : List α} {i : Int} {k : Nat} (h0 : 0 ≤ i) (hk : k < o.length) (he : ∀ j : Nat, j < i.toNat → o[j]! = l[j]!) (hi : k = i.toNat) : ∀ j : Nat, j < (i + 1).toNat → (o.set k l[k]!)[j]! = l[j]! := by
  intro j hj
  rw [get_set! hk]
  split
  · rename_i h; rw [h]
  · exact he j (by omega)
/-- How many nodes have an operation. -/
def countOp (l : List Nd) (op : Int) : Int := (l.filter fun x => x.op == op).length
theorem countOp_snoc (l : List Nd) (x : Nd) (op : Int) : countOp (l ++ [x]) op = countOp l op + (if x.op = op then 1 else 0) := by
  unfold countOp
  rw [List.filter_append]
  by_cases h : x.op = op <;> simp [h]
theorem countOp_le (l : List Nd) (op : Int) : 0 ≤ countOp l op ∧ countOp l op ≤ l.length := by
  unfold countOp
  have := List.length_filter_le (fun x : Nd => x.op == op) l
  omega
end Go.T
