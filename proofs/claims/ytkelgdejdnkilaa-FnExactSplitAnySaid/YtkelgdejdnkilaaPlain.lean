import Derived.Lib.Strings
import Derived.Test.YtkelgdejdnkilaaE2
/- Laws about lists and numbers, with no program in sight. -/
set_option linter.unusedVariables false
set_option linter.unusedSimpArgs false
namespace Go.T
open Go Go.E
theorem take_succ! {α : Type} [Inhabited α] {l : List α} {i : Nat} (h : i < l.length) : l.take (i + 1) = l.take i ++ [l[i]!] := by
  rw [List.take_succ_eq_append_getElem h, getElem!_pos l i h]
/-- The first elements, up to an integer. -/
def takeI {α : Type} (l : List α) (i : Int) : List α := l.take i.toNat
theorem takeI_zero {α : Type} {l : List α} : takeI l 0 = [] := by simp [takeI]
theorem takeI_all {α : Type} {l : List α} {i : Int} (h : l.length ≤ i) : takeI l i = l := by
  unfold takeI; exact List.take_of_length_le (by omega)
theorem takeI_succ {α : Type} [Inhabited α] {l : List α} {i : Int} (h0 : 0 ≤ i) (h : i < l.length) : takeI l (i + 1) = takeI l i ++ [l[i.toNat]!] := by
  unfold takeI
  rw [show (i + 1).toNat = i.toNat + 1 by omega]
  exact take_succ! (by omega)
theorem takeI_length {α : Type} {l : List α} {i : Int} (h0 : 0 ≤ i) (h : i ≤ l.length) : ((takeI l i).length : Int) = i := by
  unfold takeI; rw [List.length_take]; omega
theorem upto_all {α : Type} [Inhabited α] {o l : List α} (h : o.length = l.length) (he : ∀ j : Nat, j < l.length → o[j]! = l[j]!) : o = l := by
  refine List.ext_getElem h fun j h1 h2 => ?_
  have := he j h2
  rwa [getElem!_pos o j h1, getElem!_pos l j h2] at this
theorem get_set! {α : Type} [Inhabited α] {o : List α} {k j : Nat} {a : α} (hk : k < o.length) : (o.set k a)[j]! = if j = k then a else o[j]! := by
  by_cases h : j = k
  · subst h; rw [getElem!_pos (o.set j a) j (by simpa using hk)]; simp
  · simp only [h, if_false]
    by_cases hj : j < o.length
    · rw [getElem!_pos (o.set k a) j (by simpa using hj), getElem!_pos o j hj, List.getElem_set_ne (Ne.symm h)]
    · rw [getElem!_neg (o.set k a) j (by simpa using hj), getElem!_neg o j hj]
theorem set_upto {α : Type} [Inhabited α] {o l : List α} {i : Int} {k : Nat} (h0 : 0 ≤ i) (hk : k < o.length) (he : ∀ j : Nat, j < i.toNat → o[j]! = l[j]!) (hi : k = i.toNat) : ∀ j : Nat, j < (i + 1).toNat → (o.set k l[k]!)[j]! = l[j]! := by
  intro j hj
  rw [get_set! hk]
  split
  · rename_i h; rw [h]
  · exact he j (by omega)
/-- How many nodes have an operation. -/
def countOp (l : List Nd) (op : Int) : Int := (l.filter fun x => x.op == op).length
theorem countOp_snoc (l : List Nd) (x : Nd) (op : Int) : countOp (l ++ [x]) op = countOp l op + (if x.op = op then 1 else 0) := by
  unfold countOp
  rw [List.filter_append]
  by_cases h : x.op = op <;> simp [h]
theorem countOp_le (l : List Nd) (op : Int) : 0 ≤ countOp l op ∧ countOp l op ≤ l.length := by
  unfold countOp
  have := List.length_filter_le (fun x : Nd => x.op == op) l
  omega
end Go.T
namespace Go.T
open Go Go.E
/-- The bytes of a decimal number, ahead of a text. -/
def mdig (n : Nat) (out : ByteArray) : ByteArray := if n = 0 then out else mdig (n / 10) (strOf [IntKind.u8.wrap (48 + (n : Int).tmod 10)] ++ out)
  termination_by n
  decreasing_by omega
/-- The text that marks a place. -/
def mtext (k : Int) : ByteArray := if k ≤ 0 then ⟨#[109, 48]⟩ else ⟨#[109]⟩ ++ mdig k.toNat ⟨#[]⟩
theorem mdig_step {n : Int} (h : 0 < n) (out : ByteArray) : mdig n.toNat out = mdig (n.tdiv 10).toNat (strOf [IntKind.u8.wrap (48 + n.tmod 10)] ++ out) := by
  rw [mdig, if_neg (by omega)]
  have h1 : ((n.toNat : Int)) = n := by omega
  have h2 : n.tdiv 10 = n / 10 := Int.tdiv_eq_ediv_of_nonneg (by omega)
  rw [h1, h2]
  congr 1
  omega
theorem mdig_zero (out : ByteArray) : mdig 0 out = out := by rw [mdig]; simp
theorem mdig_size : ∀ (n : Nat) (out : ByteArray), (mdig n out).size ≤ n + out.size := by
  intro n
  induction n using Nat.strongRecOn with
  | _ n ih =>
    intro out
    rw [mdig]
    split
    · omega
    · have := ih (n / 10) (by omega) (strOf [IntKind.u8.wrap (48 + (n : Int).tmod 10)] ++ out)
      have h2 : (strOf [IntKind.u8.wrap (48 + (n : Int).tmod 10)] ++ out).size = 1 + out.size := by
        rw [ByteArray.size_append]; rfl
      omega
theorem toList_inj {a b : ByteArray} (h : a.toList = b.toList) : a = b := by
  rw [Lib.toList_data, Lib.toList_data] at h
  cases a; cases b
  simp at h
  rw [h]
/-- The texts that mark the elements of a list of texts. -/
def marksS (k : Int) (n : Nat) : List ByteArray := (List.range n).map fun (i : Nat) => mtext (k + i)
theorem marksS_length {k : Int} {n : Nat} : (marksS k n).length = n := by simp [marksS]
theorem marksS_get {k : Int} {n j : Nat} (h : j < n) : (marksS k n)[j]! = mtext (k + j) := by
  rw [getElem!_pos (marksS k n) j (by simpa [marksS] using h)]
  simp [marksS]
/-- A byte of a text. -/
def bt (s : ByteArray) (i : Int) : Int := ((s.data.getD i.toNat 0).toNat : Int)
/-- A byte is one of some. -/
def isSep (by_ : ByteArray) (b : Int) : Bool := (List.range by_.size).any fun (k : Nat) => bt by_ k == b
theorem isSep_iff {by_ : ByteArray} {b : Int} : isSep by_ b = true ↔ ∃ k : Nat, k < by_.size ∧ bt by_ k = b := by
  simp [isSep]
/-- The parts so far, and where the next one begins. -/
def splitSt (s by_ : ByteArray) : Nat → List ByteArray × Int
  | 0 => ([], 0)
  | i + 1 => if isSep by_ (bt s i) then ((splitSt s by_ i).1 ++ [s.extract (splitSt s by_ i).2.toNat i], (i : Int) + 1) else splitSt s by_ i
theorem splitSt_le (s by_ : ByteArray) : ∀ i, 0 ≤ (splitSt s by_ i).2 ∧ (splitSt s by_ i).2 ≤ i ∧ (splitSt s by_ i).1.length ≤ i := by
  intro i
  induction i with
  | zero => simp [splitSt]
  | succ i ih => simp only [splitSt]; split <;> simp <;> omega
def splitAny (s by_ : ByteArray) : List ByteArray := (splitSt s by_ s.size).1 ++ [s.extract (splitSt s by_ s.size).2.toNat s.size]
theorem splitSt_yes {s by_ : ByteArray} {i : Int} (h0 : 0 ≤ i) (h : isSep by_ (bt s i) = true) : splitSt s by_ (i + 1).toNat = ((splitSt s by_ i.toNat).1 ++ [s.extract (splitSt s by_ i.toNat).2.toNat i.toNat], i + 1) := by
  rw [show (i + 1).toNat = i.toNat + 1 by omega]
  simp only [splitSt]
  have e : ((i.toNat : Nat) : Int) = i := by omega
  rw [e, if_pos h]
theorem splitSt_no {s by_ : ByteArray} {i : Int} (h0 : 0 ≤ i) (h : ¬ isSep by_ (bt s i) = true) : splitSt s by_ (i + 1).toNat = splitSt s by_ i.toNat := by
  rw [show (i + 1).toNat = i.toNat + 1 by omega]
  simp only [splitSt]
  have e : ((i.toNat : Nat) : Int) = i := by omega
  rw [e, if_neg h]
theorem splitAny_length {s by_ : ByteArray} : (splitAny s by_).length ≤ s.size + 1 ∧ 0 < (splitAny s by_).length := by
  have := splitSt_le s by_ s.size
  simp [splitAny]; omega
theorem firstIdx_sep {by_ : ByteArray} {b : UInt8} : 0 ≤ firstIdx by_ b ↔ isSep by_ (b.toNat : Int) = true := by
  rw [isSep_iff]
  unfold firstIdx
  have key : ∀ k : Nat, k < by_.size → (bt by_ k = (b.toNat : Int) ↔ (by_[k]! == b) = true) := by
    intro k hk
    have h1 : by_.data.getD k 0 = by_[k]! := by
      have hk' : k < by_.data.size := hk
      rw [getElem!_pos by_ k hk]
      simp [Array.getD, hk]; rfl
    simp only [bt, Int.toNat_natCast, h1, beq_iff_eq]
    constructor
    · intro h; exact UInt8.toNat_inj.1 (by omega)
    · intro h; rw [h]
  split
  · rename_i i hi
    have h2 := List.find?_some hi
    have h3 := List.mem_of_find?_eq_some hi
    simp only [List.mem_range] at h3
    exact ⟨fun _ => ⟨i, h3, (key i h3).2 h2⟩, fun _ => by omega⟩
  · rename_i hn
    constructor
    · intro h; omega
    · rintro ⟨k, hk, hb⟩
      have := List.find?_eq_none.1 hn k (by simpa using hk)
      exact absurd ((key k hk).1 hb) this
/-- The lines of a text. -/
def splitLines (s : ByteArray) : List ByteArray :=
  if ((splitAny s ⟨#[10]⟩)[(((splitAny s ⟨#[10]⟩).length : Int) - 1).toNat]!).toList = (⟨#[]⟩ : ByteArray).toList then (splitAny s ⟨#[10]⟩).take ((splitAny s ⟨#[10]⟩).length - 1) else splitAny s ⟨#[10]⟩
theorem splitLines_length {s : ByteArray} : (splitLines s).length ≤ s.size + 1 := by
  have := splitAny_length (s := s) (by_ := ⟨#[10]⟩)
  unfold splitLines
  split
  · rw [List.length_take]; omega
  · omega
end Go.T
