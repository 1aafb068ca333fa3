import Derived.Lib.Strings
import Derived.Lib.Join
import Derived.Test.YtnebclliacjjkabE3
/- Laws about lists and numbers, with no program in sight. -/
set_option linter.unusedVariables false
set_option linter.unusedSimpArgs false
namespace Go.T
open Go Go.E
theorem take_succ! {α : Type} [Inhabited α] {l : List α} {i : Nat} (h : i < l.length) : l.take (i + 1) = l.take i ++ [l[i]!] := by
  rw [List.take_succ_eq_append_getElem h, getElem!_pos l i h]
/-- The first elements, up to an integer. -/
def takeI {α : Type} (l : List α) (i : Int) : List α := l.take i.toNat
theorem takeI_zero {α : Type} {l : List α} : takeI l 0 = [] := by simp [takeI]
theorem takeI_all {α : Type} {l : List α} {i : Int} (h : l.length ≤ i) : takeI l i = l := by
  unfold takeI; exact List.take_of_length_le (by omega)
theorem takeI_succ {α : Type} [Inhabited α] {l : List α} {i : Int} (h0 : 0 ≤ i) (h : i < l.length) : takeI l (i + 1) = takeI l i ++ [l[i.toNat]!] := by
  unfold takeI
  rw [show (i + 1).toNat = i.toNat + 1 by omega]
  exact take_succ! (by omega)
theorem takeI_length {α : Type} {l : List α} {i : Int} (h0 : 0 ≤ i) (h : i ≤ l.length) : ((takeI l i).length : Int) = i := by
  unfold takeI; rw [List.length_take]; omega
theorem upto_all {α : Type} [Inhabited α] {o l : List α} (h : o.length = l.length) (he : ∀ j : Nat, j < l.length → o[j]! = l[j]!) : o = l := by
  refine List.ext_getElem h fun j h1 h2 => ?_
  have := he j h2
  rwa [getElem!_pos o j h1, getElem!_pos l j h2] at this
theorem get_set! {α : Type} [Inhabited α] {o : List α} {k j : Nat} {a : α} (hk : k < o.length) : (o.set k a)[j]! = if j = k then a else o[j]! := by
  by_cases h : j = k
  · subst h; rw [getElem!_pos (o.set j a) j (by simpa using hk)]; simp
  · simp only [h, if_false]
    by_cases hj : j < o.length
    · rw [getElem!_pos (o.set k a) j (by simpa using hj), getElem!_pos o j hj, List.getElem_set_ne (Ne.symm h)]
    · rw [getElem!_neg (o.set k a) j (by simpa using hj), getElem!_neg o j hj]
theorem set_upto {α : Type} [Inhabited α] {o l : List α} {i : Int} {k : Nat} (h0 : 0 ≤ i) (hk : k < o.length) (he : ∀ j : Nat, j < i.toNat → o[j]! = l[j]!) (hi : k = i.toNat) : ∀ j : Nat, j < (i + 1).toNat → (o.set k l[k]!)[j]! = l[j]! := by
  intro j hj
  rw [get_set! hk]
  split
  · rename_i h; rw [h]
  · exact he j (by omega)
/-- How many nodes have an operation. -/
def countOp (l : List Nd) (op : Int) : Int := (l.filter fun x => x.op == op).length
theorem countOp_snoc (l : List Nd) (x : Nd) (op : Int) : countOp (l ++ [x]) op = countOp l op + (if x.op = op then 1 else 0) := by
  unfold countOp
  rw [List.filter_append]
  by_cases h : x.op = op <;> simp [h]
theorem countOp_le (l : List Nd) (op : Int) : 0 ≤ countOp l op ∧ countOp l op ≤ l.length := by
  unfold countOp
  have := List.length_filter_le (fun x : Nd => x.op == op) l
  omega
end Go.T
namespace Go.T
open Go Go.E
/-- The bytes of a decimal number, ahead of a text. -/
def mdig (n : Nat) (out : ByteArray) : ByteArray := if n = 0 then out else mdig (n / 10) (strOf [IntKind.u8.wrap (48 + (n : Int).tmod 10)] ++ out)
  termination_by n
  decreasing_by omega
/-- The text that marks a place. -/
def mtext (k : Int) : ByteArray := if k ≤ 0 then ⟨#[109, 48]⟩ else ⟨#[109]⟩ ++ mdig k.toNat ⟨#[]⟩
theorem mdig_step {n : Int} (h : 0 < n) (out : ByteArray) : mdig n.toNat out = mdig (n.tdiv 10).toNat (strOf [IntKind.u8.wrap (48 + n.tmod 10)] ++ out) := by
  rw [mdig, if_neg (by omega)]
  have h1 : ((n.toNat : Int)) = n := by omega
  have h2 : n.tdiv 10 = n / 10 := Int.tdiv_eq_ediv_of_nonneg (by omega)
  rw [h1, h2]
  congr 1
  omega
theorem mdig_zero (out : ByteArray) : mdig 0 out = out := by rw [mdig]; simp
theorem mdig_size : ∀ (n : Nat) (out : ByteArray), (mdig n out).size ≤ n + out.size := by
  intro n
  induction n using Nat.strongRecOn with
  | _ n ih =>
    intro out
    rw [mdig]
    split
    · omega
    · have := ih (n / 10) (by omega) (strOf [IntKind.u8.wrap (48 + (n : Int).tmod 10)] ++ out)
      have h2 : (strOf [IntKind.u8.wrap (48 + (n : Int).tmod 10)] ++ out).size = 1 + out.size := by
        rw [ByteArray.size_append]; rfl
      omega
theorem toList_inj {a b : ByteArray} (h : a.toList = b.toList) : a = b := by
  rw [Lib.toList_data, Lib.toList_data] at h
  cases a; cases b
  simp at h
  rw [h]
/-- The texts that mark the elements of a list of texts. -/
def marksS (k : Int) (n : Nat) : List ByteArray := (List.range n).map fun (i : Nat) => mtext (k + i)
theorem marksS_length {k : Int} {n : Nat} : (marksS k n).length = n := by simp [marksS]
theorem marksS_get {k : Int} {n j : Nat} (h : j < n) : (marksS k n)[j]! = mtext (k + j) := by
  rw [getElem!_pos (marksS k n) j (by simpa [marksS] using h)]
  simp [marksS]
/-- A byte of a text. -/
def bt (s : ByteArray) (i : Int) : Int := ((s.data.getD i.toNat 0).toNat : Int)
/-- A byte is one of some. -/
def isSep (by_ : ByteArray) (b : Int) : Bool := (List.range by_.size).any fun (k : Nat) => bt by_ k == b
theorem isSep_iff {by_ : ByteArray} {b : Int} : isSep by_ b = true ↔ ∃ k : Nat, k < by_.size ∧ bt by_ k = b := by
  simp [isSep]
/-- The parts so far, and where the next one begins. -/
def splitSt (s by_ : ByteArray) : Nat → List ByteArray × Int
  | 0 => ([], 0)
  | i + 1 => if isSep by_ (bt s i) then ((splitSt s by_ i).1 ++ [s.extract (splitSt s by_ i).2.toNat i], (i : Int) + 1) else splitSt s by_ i
theorem splitSt_le (s by_ : ByteArray) : ∀ i, 0 ≤ (splitSt s by_ i).2 ∧ (splitSt s by_ i).2 ≤ i ∧ (splitSt s by_ i).1.length ≤ i := by
  intro i
  induction i with
  | zero => simp [splitSt]
  | succ i ih => simp only [splitSt]; split <;> simp <;> omega
def splitAny (s by_ : ByteArray) : List ByteArray := (splitSt s by_ s.size).1 ++ [s.extract (splitSt s by_ s.size).2.toNat s.size]
theorem splitSt_yes {s by_ : ByteArray} {i : Int} (h0 : 0 ≤ i) (h : isSep by_ (bt s i) = true) : splitSt s by_ (i + 1).toNat = ((splitSt s by_ i.toNat).1 ++ [s.extract (splitSt s by_ i.toNat).2.toNat i.toNat], i + 1) := by
  rw [show (i + 1).toNat = i.toNat + 1 by omega]
  simp only [splitSt]
  have e : ((i.toNat : Nat) : Int) = i := by omega
  rw [e, if_pos h]
theorem splitSt_no {s by_ : ByteArray} {i : Int} (h0 : 0 ≤ i) (h : ¬ isSep by_ (bt s i) = true) : splitSt s by_ (i + 1).toNat = splitSt s by_ i.toNat := by
  rw [show (i + 1).toNat = i.toNat + 1 by omega]
  simp only [splitSt]
  have e : ((i.toNat : Nat) : Int) = i := by omega
  rw [e, if_neg h]
theorem splitAny_length {s by_ : ByteArray} : (splitAny s by_).length ≤ s.size + 1 ∧ 0 < (splitAny s by_).length := by
  have := splitSt_le s by_ s.size
  simp [splitAny]; omega
theorem firstIdx_sep {by_ : ByteArray} {b : UInt8} : 0 ≤ firstIdx by_ b ↔ isSep by_ (b.toNat : Int) = true := by
  rw [isSep_iff]
  unfold firstIdx
  have key : ∀ k : Nat, k < by_.size → (bt by_ k = (b.toNat : Int) ↔ (by_[k]! == b) = true) := by
    intro k hk
    have h1 : by_.data.getD k 0 = by_[k]! := by
      have hk' : k < by_.data.size := hk
      rw [getElem!_pos by_ k hk]
      simp [Array.getD, hk]; rfl
    simp only [bt, Int.toNat_natCast, h1, beq_iff_eq]
    constructor
    · intro h; exact UInt8.toNat_inj.1 (by omega)
    · intro h; rw [h]
  split
  · rename_i i hi
    have h2 := List.find?_some hi
    have h3 := List.mem_of_find?_eq_some hi
    simp only [List.mem_range] at h3
    exact ⟨fun _ => ⟨i, h3, (key i h3).2 h2⟩, fun _ => by omega⟩
  · rename_i hn
    constructor
    · intro h; omega
    · rintro ⟨k, hk, hb⟩
      have := List.find?_eq_none.1 hn k (by simpa using hk)
      exact absurd ((key k hk).1 hb) this
/-- The lines of a text. -/
def splitLines (s : ByteArray) : List ByteArray :=
  if ((splitAny s ⟨#[10]⟩)[(((splitAny s ⟨#[10]⟩).length : Int) - 1).toNat]!).toList = (⟨#[]⟩ : ByteArray).toList then (splitAny s ⟨#[10]⟩).take ((splitAny s ⟨#[10]⟩).length - 1) else splitAny s ⟨#[10]⟩
theorem splitLines_length {s : ByteArray} : (splitLines s).length ≤ s.size + 1 := by
  have := splitAny_length (s := s) (by_ := ⟨#[10]⟩)
  unfold splitLines
  split
  · rw [List.length_take]; omega
  · omega
end Go.T
namespace Go.T
open Go Go.E
/-- The numbers that mark the elements of a list. -/
def marksI (k : Int) (n : Nat) : List Int := (List.range n).map fun (i : Nat) => k + (i : Int)
theorem marksI_length {k : Int} {n : Nat} : (marksI k n).length = n := by simp [marksI]
theorem marksI_get {k : Int} {n j : Nat} (h : j < n) : (marksI k n)[j]! = k + (j : Int) := by
  rw [getElem!_pos (marksI k n) j (by simpa [marksI] using h)]
  simp [marksI]
/-- The place of a number in a list, or -1. -/
def idxI (l : List Int) (x : Int) : Int := if x ∈ l then (l.idxOf x : Int) else -1
theorem idxI_mem {l : List Int} {x : Int} : 0 ≤ idxI l x ↔ x ∈ l := by
  unfold idxI; split
  · rename_i h; simp [h]
  · rename_i h; simp [h]
theorem idxI_lt {l : List Int} {x : Int} : idxI l x < l.length := by
  unfold idxI
  split
  · rename_i h; have := List.idxOf_lt_length_of_mem h; omega
  · omega
theorem idxI_first {l : List Int} {x : Int} {i : Nat} (h : i < l.length) (hx : l[i]! = x) (hno : ∀ j : Nat, j < i → l[j]! ≠ x) : idxI l x = i := by
  rw [getElem!_pos l i h] at hx
  have hm : x ∈ l := hx ▸ List.getElem_mem h
  unfold idxI
  rw [if_pos hm]
  have h1 := List.idxOf_lt_length_of_mem hm
  have h2 : l[l.idxOf x] = x := List.getElem_idxOf h1
  have h3 : ¬ i < l.idxOf x := fun hlt => by
    have h4 := List.not_of_lt_findIdx (p := (· == x)) (xs := l) (i := i) (by simpa [List.idxOf] using hlt)
    simp at h4
    exact h4 hx
  have h4 : ¬ l.idxOf x < i := fun hlt => hno _ hlt (by rw [getElem!_pos l _ h1]; exact h2)
  omega
theorem idxI_none {l : List Int} {x : Int} (hno : ∀ j : Nat, j < l.length → l[j]! ≠ x) : idxI l x = -1 := by
  unfold idxI
  rw [if_neg]
  intro hm
  obtain ⟨j, hj, e⟩ := List.getElem_of_mem hm
  exact hno j hj (by rw [getElem!_pos l j hj]; exact e)
/-- What is met, in its order, each once. -/
def met (l : List Int) : List Int := l.foldl (fun m x => if x ∈ m then m else m ++ [x]) []
theorem met_snoc' (l : List Int) (x : Int) : met (l ++ [x]) = if x ∈ met l then met l else met l ++ [x] := by
  unfold met; rw [List.foldl_append]; rfl
theorem snoc_ind {P : List Int → Prop} (h0 : P []) (h1 : ∀ l x, P l → P (l ++ [x])) : ∀ l, P l := by
  intro l
  have : ∀ n, ∀ l : List Int, l.length = n → P l := by
    intro n
    induction n with
    | zero => intro l hl; rw [List.eq_nil_of_length_eq_zero hl]; exact h0
    | succ n ih =>
      intro l hl
      have hne : l ≠ [] := by intro e; simp [e] at hl
      rw [← List.dropLast_concat_getLast hne]
      exact h1 _ _ (ih _ (by simp [hl]))
  exact this _ l rfl
theorem met_mem (l : List Int) : ∀ x, x ∈ met l ↔ x ∈ l := by
  refine snoc_ind (P := fun l => ∀ x, x ∈ met l ↔ x ∈ l) (by simp [met]) (fun l x ih y => ?_) l
  rw [met_snoc']
  split
  · rename_i h
    rw [ih]; simp
    intro e; subst e; rw [ih] at h; exact h
  · simp [ih]
theorem met_length (l : List Int) : (met l).length ≤ l.length := by
  refine snoc_ind (P := fun l => (met l).length ≤ l.length) (by simp [met]) (fun l x ih => ?_) l
  rw [met_snoc']
  split <;> simp <;> omega
theorem met_old {l : List Int} {x : Int} (h : x ∈ l) : met (l ++ [x]) = met l := by
  rw [met_snoc', if_pos ((met_mem l x).2 h)]
theorem met_new {l : List Int} {x : Int} (h : x ∉ l) : met (l ++ [x]) = met l ++ [x] := by
  rw [met_snoc', if_neg (fun k => h ((met_mem l x).1 k))]
/-- The numbers of blocks in the order in which they are met. -/
def numL (l : List Int) : List Int := l.map fun x => ((met l).idxOf x : Int)
theorem numL_length {l : List Int} : (numL l).length = l.length := by simp [numL]
theorem idxOf_snoc_old {m : List Int} {x y : Int} (h : y ∈ m) : (m ++ [x]).idxOf y = m.idxOf y := by
  rw [List.idxOf_append, if_pos h]
theorem numL_old {l : List Int} {x : Int} (h : x ∈ l) : numL (l ++ [x]) = numL l ++ [((met l).idxOf x : Int)] := by
  unfold numL
  rw [met_old h]; simp
theorem numL_new {l : List Int} {x : Int} (h : x ∉ l) : numL (l ++ [x]) = numL l ++ [((met l).length : Int)] := by
  unfold numL
  rw [met_new h, List.map_append]
  congr 1
  · refine List.map_congr_left fun y hy => ?_
    rw [idxOf_snoc_old ((met_mem l y).2 hy)]
  · have : x ∉ met l := fun k => h ((met_mem l x).1 k)
    simp [List.idxOf_append, this]
theorem numL_get {l : List Int} {j : Nat} (h : j < l.length) : (numL l)[j]! = ((met l).idxOf l[j]! : Int) := by
  rw [getElem!_pos (numL l) j (by simpa [numL_length] using h), getElem!_pos l j h]
  simp [numL]
theorem takeI_mem {l : List Int} {i : Int} {x : Int} : x ∈ takeI l i ↔ ∃ j : Nat, j < i.toNat ∧ j < l.length ∧ l[j]! = x := by
  unfold takeI
  rw [List.mem_take_iff_getElem]
  constructor
  · rintro ⟨j, hj, e⟩
    exact ⟨j, by omega, by omega, by rw [getElem!_pos l j (by omega)]; exact e⟩
  · rintro ⟨j, h1, h2, e⟩
    exact ⟨j, by omega, by rw [getElem!_pos l j h2] at e; exact e⟩
theorem takeI_get {α : Type} [Inhabited α] {l : List α} {i : Int} {j : Nat} (h : j < i.toNat) (h2 : j < l.length) : (takeI l i)[j]! = l[j]! := by
  unfold takeI
  rw [getElem!_pos (l.take i.toNat) j (by rw [List.length_take]; omega), getElem!_pos l j h2]
  simp
/-- .. of a list that isn't too long. -/
def numB (l : List Int) : List Int := if l.length > 16 then [] else numL l
end Go.T
namespace Go.T
open Go Go.E
/-- A model. -/
structure Md where
  facts : List Int
  blocks : List (List Int)
  actual : Int
instance : Inhabited Md := ⟨⟨[], [], 0⟩⟩
def cM (o : Bool) (m : Md) : List V := [eL o 1 cI m.facts, eL o 1 (cL o 1 cI) m.blocks, .val (.int .i64 m.actual)]
/-- Blocks are numbered in the order in which they are met. -/
def okNum : Int → List Int → Prop
  | _, [] => True
  | n, x :: l => 0 ≤ x ∧ x ≤ n ∧ okNum (max n (x + 1)) l
instance okNumD : ∀ (l : List Int) (n : Int), Decidable (okNum n l)
  | [], _ => isTrue trivial
  | x :: l, n => match okNumD l (max n (x + 1)) with
    | isTrue h => if h1 : 0 ≤ x ∧ x ≤ n then isTrue ⟨h1.1, h1.2, h⟩ else isFalse fun k => h1 ⟨k.1, k.2.1⟩
    | isFalse h => isFalse fun k => h k.2.2
/-- The next number behind some. -/
def nextNum (n : Int) (l : List Int) : Int := l.foldl (fun n x => max n (x + 1)) n
theorem okNum_append : ∀ (l r : List Int) (n : Int), okNum n (l ++ r) ↔ okNum n l ∧ okNum (nextNum n l) r := by
  intro l
  induction l with
  | nil => intro r n; simp [okNum, nextNum]
  | cons x l ih => intro r n; simp only [List.cons_append, okNum, ih, nextNum, List.foldl_cons, and_assoc]
theorem nextNum_snoc (n : Int) (l : List Int) (x : Int) : nextNum n (l ++ [x]) = max (nextNum n l) (x + 1) := by simp [nextNum]
theorem nextNum_ge (l : List Int) : ∀ n, n ≤ nextNum n l := by
  induction l with
  | nil => intro n; exact Int.le_refl _
  | cons x l ih => intro n; have := ih (max n (x + 1)); simp only [nextNum, List.foldl_cons] at this ⊢; omega
theorem okNum_next (l : List Int) : ∀ n, okNum n l → nextNum n l ≤ n + l.length := by
  induction l with
  | nil => intro n _; simp [nextNum]
  | cons x l ih =>
    intro n h
    have := ih _ h.2.2
    have h2 := h.2.1
    simp only [nextNum, List.foldl_cons, List.length_cons] at this ⊢
    omega
/-- A model is valid. -/
def Md.ok (m : Md) : Prop := 1 ≤ m.facts.length ∧ m.facts.length ≤ 16 ∧ 1 ≤ m.blocks.length ∧ m.blocks.length ≤ 3 ∧ 0 ≤ m.actual ∧ m.actual < m.facts.length ∧ (∀ x ∈ m.facts, 0 ≤ x ∧ x ≤ 15) ∧ ∀ b ∈ m.blocks, b.length = m.facts.length ∧ okNum 0 b
instance (m : Md) : Decidable m.ok := by unfold Md.ok; infer_instance
theorem drop_cons! {α : Type} [Inhabited α] {l : List α} {i : Nat} (h : i < l.length) : l.drop i = l[i]! :: l.drop (i + 1) := by
  rw [List.drop_eq_getElem_cons h, getElem!_pos l i h]
theorem takeI_split {α : Type} [Inhabited α] {l : List α} {i : Int} (h0 : 0 ≤ i) (h : i < l.length) : l = takeI l i ++ l[i.toNat]! :: l.drop (i.toNat + 1) := by
  unfold takeI
  rw [← drop_cons! (by omega), List.take_append_drop]
end Go.T
namespace Go.T
open Go Go.E
theorem mem_get! {α : Type} [Inhabited α] {l : List α} {i : Nat} (h : i < l.length) : l[i]! ∈ l := by
  rw [getElem!_pos l i h]; exact List.getElem_mem h
theorem takeI_all_mem {α : Type} {l : List α} {i : Int} (h : l.length ≤ i) {P : α → Prop} (hp : ∀ x ∈ takeI l i, P x) : ∀ x ∈ l, P x := by
  rw [takeI_all h] at hp; exact hp
theorem takeI_next {α : Type} [Inhabited α] {l : List α} {i : Int} {P : α → Prop} (h0 : 0 ≤ i) (h : i < l.length) (hp : ∀ x ∈ takeI l i, P x) (hx : P l[i.toNat]!) : ∀ x ∈ takeI l (i + 1), P x := by
  rw [takeI_succ h0 h]
  intro x hm
  rcases List.mem_append.1 hm with hm | hm
  · exact hp x hm
  · simp only [List.mem_singleton] at hm; subst hm; exact hx
/-- The place of the first element that is so, or -1. -/
def idxF {α : Type} (l : List α) (p : α → Bool) : Int := match l.findIdx? p with
  | some i => i
  | none => -1
theorem idxF_any {α : Type} {l : List α} {p : α → Bool} : 0 ≤ idxF l p ↔ l.any p = true := by
  unfold idxF
  cases h : l.findIdx? p with
  | some i =>
    have := List.findIdx?_isSome (xs := l) (p := p)
    rw [h] at this
    simp at this ⊢
    simpa using this
  | none =>
    have := List.findIdx?_isSome (xs := l) (p := p)
    rw [h] at this
    simp at this ⊢
    intro x hx; exact this x hx
theorem idxF_first {α : Type} [Inhabited α] {l : List α} {p : α → Bool} {i : Nat} (h : i < l.length) (hp : p l[i]! = true) (hno : ∀ j : Nat, j < i → ¬ p l[j]! = true) : idxF l p = i := by
  unfold idxF
  have : l.findIdx? p = some i := by
    rw [List.findIdx?_eq_some_iff_getElem]
    refine ⟨h, by rwa [getElem!_pos l i h] at hp, fun j hj => ?_⟩
    have := hno j hj
    rw [getElem!_pos l j (by omega)] at this
    simpa using this
  rw [this]
theorem idxF_none {α : Type} [Inhabited α] {l : List α} {p : α → Bool} (hno : ∀ j : Nat, j < l.length → ¬ p l[j]! = true) : idxF l p = -1 := by
  unfold idxF
  have : l.findIdx? p = none := by
    rw [List.findIdx?_eq_none_iff]
    intro x hx
    obtain ⟨j, hj, rfl⟩ := List.getElem_of_mem hx
    have := hno j hj
    rw [getElem!_pos l j hj] at this
    simpa using this
  rw [this]
/-- Slices that may not be there yet. -/
def cLo : Option (List Int) → List V
  | none => [.val (.slice none 0 0)]
  | some l => cL true 1 cI l
theorem eLo_map (l : List (List Int)) : eL true 1 cLo (l.map some) = eL true 1 (cL true 1 cI) l := by
  simp only [eL, List.length_map, List.flatMap_map]; rfl
theorem freeL_cLo (a : Option (List Int)) : V.freeL (cLo a) = true := by
  cases a with
  | none => rfl
  | some l => exact freeL_cL (by intro _; rfl)
theorem freeL_cM (m : Md) : V.freeL (cM true m) = true := by
  simp only [cM, V.freeL, free_eL (c := cI) (by intro _; rfl), free_eL (c := cL true 1 cI) (fun a => freeL_cL (by intro _; rfl)), V.free, Bool.and_self]
end Go.T
namespace Go.T
theorem notany {α : Type} {l : List α} {P : α → Prop} [DecidablePred P] : (!l.any fun x => !decide (P x)) = decide (∀ x ∈ l, P x) := by
  rw [Bool.eq_iff_iff]
  simp
end Go.T
namespace Go.T
open Go Go.E
/-- An agent knows all facts. -/
def Md.knows (m : Md) (a : Int) : Prop := ∀ j : Nat, j < m.facts.length → (m.blocks[a.toNat]!)[j]! = (m.blocks[a.toNat]!)[m.actual.toNat]! → m.facts[j]! = m.facts[m.actual.toNat]!
instance (m : Md) (a : Int) : Decidable (m.knows a) := by unfold Md.knows; infer_instance
theorem Md.ok_len {m : Md} (h : m.ok) {a : Int} (h0 : 0 ≤ a) (h1 : a < m.blocks.length) : (m.blocks[a.toNat]!).length = m.facts.length := (h.2.2.2.2.2.2.2 _ (mem_get! (by omega))).1
end Go.T
namespace Go.T
open Go Go.E
/-- How many of A and B an operation uses; -1 for none. -/
def usesOf (op : Int) : Int := if op = 1 ∨ op = 2 then 0 else if op = 4 ∨ op = 9 then 2 else if 3 ≤ op ∧ op ≤ 9 then 1 else -1
/-- The greatest N. -/
def mostOf (op : Int) : Int := if op = 1 then 3 else if op = 5 ∨ op = 6 then 2 else 0
/-- A node is right at a place. -/
def nodeOk (i : Int) (x : Nd) : Prop := 0 ≤ usesOf x.op ∧ (0 ≤ x.n ∧ x.n ≤ mostOf x.op) ∧ (usesOf x.op < 1 → x.a = 0) ∧ (usesOf x.op < 2 → x.b = 0) ∧ (0 < usesOf x.op → 0 ≤ x.a ∧ x.a < i) ∧ (1 < usesOf x.op → 0 ≤ x.b ∧ x.b < i)
instance (i : Int) (x : Nd) : Decidable (nodeOk i x) := by unfold nodeOk; infer_instance
/-- How often nodes up to a place use a node. -/
def usedBy (l : List Nd) (j : Int) : Int := match l with
  | [] => 0
  | x :: l => (if 0 < usesOf x.op ∧ x.a = j then 1 else 0) + (if 1 < usesOf x.op ∧ x.b = j then 1 else 0) + usedBy l j
theorem usedBy_append (l r : List Nd) (j : Int) : usedBy (l ++ r) j = usedBy l j + usedBy r j := by
  induction l with
  | nil => simp [usedBy]
  | cons x l ih => simp only [List.cons_append, usedBy, ih]; omega
theorem usedBy_bound (l : List Nd) (j : Int) : 0 ≤ usedBy l j ∧ usedBy l j ≤ 2 * l.length := by
  induction l with
  | nil => simp [usedBy]
  | cons x l ih => simp only [usedBy, List.length_cons]; split <;> split <;> omega
/-- A formula is valid. -/
def fOk (l : List Nd) : Prop := 1 ≤ l.length ∧ l.length ≤ 40 ∧ (∀ i : Nat, i < l.length → nodeOk i l[i]!) ∧ ∀ j : Nat, j < l.length - 1 → usedBy l j = 1
instance (l : List Nd) : Decidable (fOk l) := by unfold fOk; infer_instance
theorem usedBy_out : ∀ (l : List Nd) (k : Nat) (j : Int), (∀ i : Nat, i < l.length → nodeOk ((k : Int) + i) l[i]!) → (k : Int) + l.length - 1 ≤ j → 0 ≤ j → usedBy l j = 0 := by
  intro l
  induction l with
  | nil => intro k j _ _ _; rfl
  | cons x l ih =>
    intro k j h hj hj0
    simp only [List.length_cons] at hj
    have h0' : nodeOk k x := by simpa using h 0 (by simp)
    have h1 := ih (k + 1) j (fun i hi => by
      have := h (i + 1) (by simp; omega)
      have e : ((k + 1 : Nat) : Int) + i = (k : Int) + ((i + 1 : Nat) : Int) := by omega
      rw [e]; simpa using this) (by omega) hj0
    simp only [usedBy, h1]
    obtain ⟨_, _, _, _, h5, h6⟩ := h0'
    rw [if_neg, if_neg]
    · rfl
    · rintro ⟨q1, q2⟩; have := h6 q1; omega
    · rintro ⟨q1, q2⟩; have := h5 q1; omega
theorem fOk_last {l : List Nd} (h : ∀ i : Nat, i < l.length → nodeOk i l[i]!) (hl : 1 ≤ l.length) : usedBy l ((l.length : Int) - 1) = 0 :=
  usedBy_out l 0 _ (fun i hi => by simpa using h i hi) (by simp) (by omega)
end Go.T
namespace Go.T
open Go Go.E
theorem rep_get {n j : Nat} : (List.replicate n (0 : Int))[j]! = 0 := by
  by_cases h : j < n
  · rw [getElem!_pos _ _ (by simpa using h)]; simp
  · rw [getElem!_neg _ _ (by simpa using h)]; rfl
theorem usedBy_snoc (l : List Nd) (x : Nd) (j : Int) : usedBy (l ++ [x]) j = usedBy l j + (if 0 < usesOf x.op ∧ x.a = j then 1 else 0) + (if 1 < usesOf x.op ∧ x.b = j then 1 else 0) := by
  rw [usedBy_append]; simp only [usedBy]; omega
theorem bump {o : List Int} {a : Int} {j : Nat} {p : Prop} [Decidable p] (ha : 0 ≤ a) (hk : a.toNat < o.length) (hp : p) : (o.set a.toNat (o[a.toNat]! + 1))[j]! = o[j]! + (if p ∧ a = (j : Int) then 1 else 0) := by
  rw [get_set! hk]
  by_cases h : j = a.toNat
  · rw [if_pos h, if_pos ⟨hp, by omega⟩, h]
  · rw [if_neg h, if_neg (by rintro ⟨_, q⟩; omega)]; omega
end Go.T
namespace Go.T
open Go Go.E
/-- So many zeros. -/
def zeros (k : Nat) : ByteArray := ⟨(List.replicate k (48 : UInt8)).toArray⟩
theorem zeros_size (k : Nat) : (zeros k).size = k := by
  show (List.replicate k (48 : UInt8)).toArray.size = k
  simp
theorem ba_data_append (a b : ByteArray) : (a ++ b).data = a.data ++ b.data := by
  simp [ByteArray.data_append]
theorem ba_ext {a b : ByteArray} (h : a.data = b.data) : a = b := by cases a; cases b; simp at h; rw [h]
theorem zeros_succ (k : Nat) (s : ByteArray) : (⟨#[48]⟩ : ByteArray) ++ (zeros k ++ s) = zeros (k + 1) ++ s := by
  apply ba_ext
  simp only [ba_data_append, zeros, List.replicate_succ]
  apply Array.toList_inj.1
  simp
theorem zeros_zero (s : ByteArray) : zeros 0 ++ s = s := by
  apply ba_ext
  simp only [ba_data_append, zeros]
  apply Array.toList_inj.1
  simp
/-- Zeros ahead. -/
def padZ (s : ByteArray) (n : Int) : ByteArray := if n > 2000 then s else zeros (n - s.size).toNat ++ s
end Go.T
namespace Go.T
open Go Go.E
/-- Texts with another one between. -/
def joinB (l : List ByteArray) (y : ByteArray) : ByteArray := ⟨(Lib.join (l.map fun s => s.data.toList) y.data.toList).toArray⟩
def totalS (l : List ByteArray) : Nat := (l.map ByteArray.size).sum
theorem totalS_append (a b : List ByteArray) : totalS (a ++ b) = totalS a + totalS b := by simp [totalS]
theorem inter_snoc (y : List UInt8) (x : List UInt8) : ∀ (l : List (List UInt8)), l ≠ [] → y.intercalate (l ++ [x]) = y.intercalate l ++ y ++ x := by
  intro l
  induction l with
  | nil => intro h; exact absurd rfl h
  | cons a l ih =>
    intro _
    cases l with
    | nil => simp [List.intercalate]
    | cons b l =>
      have := ih (by simp)
      simp only [List.intercalate, List.cons_append, List.intersperse_cons_cons, List.flatten_cons] at this ⊢
      rw [this]
      simp
theorem joinB_nil (y : ByteArray) : joinB [] y = ⟨#[]⟩ := rfl
theorem joinB_one (x y : ByteArray) : joinB [x] y = x := by
  apply ba_ext
  simp [joinB, Lib.join_one]
theorem joinB_snoc {l : List ByteArray} {x y : ByteArray} (h : l ≠ []) : joinB (l ++ [x]) y = joinB l y ++ y ++ x := by
  apply ba_ext
  simp only [ba_data_append, joinB, Lib.join, List.map_append, List.map_cons, List.map_nil]
  rw [inter_snoc _ _ _ (by simpa using h)]
  apply Array.toList_inj.1
  simp
theorem joinB_size : ∀ (n : Nat) (l : List ByteArray) (y : ByteArray), l.length = n → (joinB l y).size ≤ totalS l + n * y.size := by
  intro n
  induction n with
  | zero => intro l y h; rw [List.eq_nil_of_length_eq_zero h]; show 0 ≤ _; omega
  | succ n ih =>
    intro l y h
    have hne : l ≠ [] := by intro e; simp [e] at h
    rw [← List.dropLast_concat_getLast hne]
    have h2 := ih l.dropLast y (by simp [h])
    by_cases hd : l.dropLast = []
    · rw [hd, List.nil_append, joinB_one]
      simp only [totalS, List.map_cons, List.map_nil, List.sum_cons, List.sum_nil]; omega
    · rw [joinB_snoc hd, totalS_append, ByteArray.size_append, ByteArray.size_append, Nat.succ_mul]
      simp only [totalS, List.map_cons, List.map_nil, List.sum_cons, List.sum_nil] at h2 ⊢
      omega
theorem totalS_take (l : List ByteArray) (i : Int) : totalS (takeI l i) ≤ totalS l := by
  have : l = takeI l i ++ l.drop i.toNat := by unfold takeI; exact (List.take_append_drop _ _).symm
  conv => rhs; rw [this]
  rw [totalS_append]; omega
theorem joinB_bound {l : List ByteArray} {y : ByteArray} (hl : l.length ≤ 1048576) (ht : totalS l ≤ 1048576) (hy : y.size ≤ 1048576) (i : Int) : (joinB (takeI l i) y).size ≤ 1099512676352 := by
  have h1 := joinB_size _ (takeI l i) y rfl
  have h2 := totalS_take l i
  have h3 : (takeI l i).length ≤ 1048576 := by unfold takeI; rw [List.length_take]; omega
  have h4 : (takeI l i).length * y.size ≤ 1048576 * 1048576 := Nat.mul_le_mul h3 hy
  omega
theorem mem_total {l : List ByteArray} {s : ByteArray} (h : s ∈ l) : s.size ≤ totalS l := by
  induction l with
  | nil => simp at h
  | cons a l ih =>
    simp only [totalS, List.map_cons, List.sum_cons]
    rcases List.mem_cons.1 h with rfl | h
    · omega
    · have := ih h; simp only [totalS] at this; omega
end Go.T
namespace Go.T
open Go Go.E
/-- The tree of a node of a valid formula. -/
def treeI (l : List Nd) (i : Nat) : Tr :=
  .node (l[i]!).op (l[i]!).n (if 0 < usesOf (l[i]!).op ∧ (l[i]!).a.toNat < i then treeI l (l[i]!).a.toNat else .nil) (if 1 < usesOf (l[i]!).op ∧ (l[i]!).b.toNat < i then treeI l (l[i]!).b.toNat else .nil)
  termination_by i
  decreasing_by all_goals omega
def depthT : Tr → Int
  | .nil => 0
  | .node op _ a b => max (depthT a) (depthT b) + (if 5 ≤ op ∧ op ≤ 8 then 1 else 0)
theorem depthT_nonneg : ∀ t, 0 ≤ depthT t
  | .nil => Int.le_refl _
  | .node op n a b => by
    have := depthT_nonneg a
    simp only [depthT]; split <;> omega
theorem treeI_eq (l : List Nd) (i : Nat) : encT (treeI l i) = .ptr .z true [.val (.int .i64 (l[i]!).op), .val (.int .i64 (l[i]!).n), encT (if 0 < usesOf (l[i]!).op ∧ (l[i]!).a.toNat < i then treeI l (l[i]!).a.toNat else .nil), encT (if 1 < usesOf (l[i]!).op ∧ (l[i]!).b.toNat < i then treeI l (l[i]!).b.toNat else .nil)] := by
  conv => lhs; rw [treeI]
  rfl
theorem depth_le (l : List Nd) : ∀ i : Nat, depthT (treeI l i) ≤ i + 1 := by
  intro i
  induction i using Nat.strongRecOn with
  | _ i ih =>
    rw [treeI]
    simp only [depthT]
    have h1 : depthT (if 0 < usesOf (l[i]!).op ∧ (l[i]!).a.toNat < i then treeI l (l[i]!).a.toNat else .nil) ≤ i := by
      split
      · rename_i h; have := ih _ h.2; omega
      · simp only [depthT]; omega
    have h2 : depthT (if 1 < usesOf (l[i]!).op ∧ (l[i]!).b.toNat < i then treeI l (l[i]!).b.toNat else .nil) ≤ i := by
      split
      · rename_i h; have := ih _ h.2; omega
      · simp only [depthT]; omega
    have key : ∀ A B : Int, A ≤ i → B ≤ i → max A B + (if 5 ≤ (l[i]!).op ∧ (l[i]!).op ≤ 8 then 1 else 0) ≤ i + 1 := by
      intro A B hA hB; split <;> omega
    exact key _ _ h1 h2
theorem depth_eq (l : List Nd) (i : Nat) : depthT (treeI l i) = max (if 0 < usesOf (l[i]!).op ∧ (l[i]!).a.toNat < i then depthT (treeI l (l[i]!).a.toNat) else 0) (if 1 < usesOf (l[i]!).op ∧ (l[i]!).b.toNat < i then depthT (treeI l (l[i]!).b.toNat) else 0) + (if 5 ≤ (l[i]!).op ∧ (l[i]!).op ≤ 8 then 1 else 0) := by
  conv => lhs; rw [treeI]
  simp only [depthT]
  congr 1
  congr 1 <;> (split <;> rfl)
theorem fOk_node {l : List Nd} (h : fOk l) {i : Int} (h0 : 0 ≤ i) (h1 : i < l.length) : nodeOk i l[i.toNat]! := by
  have := h.2.2.1 i.toNat (by omega)
  rwa [show ((i.toNat : Nat) : Int) = i by omega] at this
end Go.T
