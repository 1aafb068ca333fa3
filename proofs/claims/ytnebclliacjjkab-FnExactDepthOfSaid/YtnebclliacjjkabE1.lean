import Derived.Below
import Derived.WalkKit
import Derived.Calls
import Derived.Laws.BytesString
import Derived.Laws.CopyRow
import Derived.Laws.AppendOwn
import Derived.Laws.MakeOwn
/- The framework: states of the machine as trees, what the operations do to them, and that this is what the machine does. -/
set_option linter.unusedVariables false
set_option linter.unusedSimpArgs false
namespace Go.E
/-- Where a slice or a pointer leads in the machine; its capacity. -/
structure Gh where
  addr : Option Addr
  cap : Nat
def Gh.z : Gh := ⟨none, 0⟩

/-- Values as trees. 'own': the block belongs to this node alone. -/
inductive V where
  | val (v : Value)
  | junk (v : Value)
  | agg (cs : List V)
  | tup (vs : List V)
  | sl (g : Gh) (own : Bool) (sz n : Nat) (cs : List V)
  | ptr (g : Gh) (own : Bool) (cs : List V)
  | fn (f : FuncId) (caps : List V)

instance : Inhabited V := ⟨.junk undef⟩

mutual
def V.value : V → Value
  | .val v => v
  | .junk v => v
  | .agg cs => .agg (V.values cs).toArray
  | .tup vs => .tuple (V.values vs).toArray
  | .sl g _ _ n _ => .slice g.addr n g.cap
  | .ptr g _ _ => .pointer g.addr
  | .fn f caps => .func (.func f) #[] (V.values caps).toArray
def V.values : List V → List Value
  | [] => []
  | c :: cs => c.value :: V.values cs
end
theorem V.values_map (cs : List V) : V.values cs = cs.map V.value := by
  induction cs with
  | nil => rfl
  | cons c cs ih => simp [V.values, ih]

def Gh.blk (g : Gh) (own : Bool) : List Nat := if own then (match g.addr with | some a => [a.block] | none => []) else []

mutual
/-- The blocks that a tree owns. -/
def V.blks : V → List Nat
  | .val _ => []
  | .junk _ => []
  | .agg cs => V.blksL cs
  | .tup vs => V.blksL vs
  | .sl g own _ _ cs => g.blk own ++ V.blksL cs
  | .ptr g own cs => g.blk own ++ V.blksL cs
  | .fn _ caps => V.blksL caps
def V.blksL : List V → List Nat
  | [] => []
  | c :: cs => c.blks ++ V.blksL cs
end
theorem V.blksL_flatMap (cs : List V) : V.blksL cs = cs.flatMap V.blks := by
  induction cs with
  | nil => rfl
  | cons c cs ih => simp [V.blksL, ih]

mutual
def V.erase : V → V
  | .val v => .val v
  | .junk _ => .junk undef
  | .agg cs => .agg (V.eraseL cs)
  | .tup vs => .tup (V.eraseL vs)
  | .sl _ own sz n cs => .sl .z own sz n (V.eraseL cs)
  | .ptr _ own cs => .ptr .z own (V.eraseL cs)
  | .fn f caps => .fn f (V.eraseL caps)
def V.eraseL : List V → List V
  | [] => []
  | c :: cs => c.erase :: V.eraseL cs
end
theorem V.eraseL_map (cs : List V) : V.eraseL cs = cs.map V.erase := by
  induction cs with
  | nil => rfl
  | cons c cs ih => simp [V.eraseL, ih]

mutual
/-- The same, to be read alone. -/
def V.ro : V → V
  | .val v => .val v
  | .junk v => .junk v
  | .agg cs => .agg (V.roL cs)
  | .tup vs => .tup (V.roL vs)
  | .sl g _ sz n cs => .sl g false sz n (V.roL cs)
  | .ptr g _ cs => .ptr g false (V.roL cs)
  | .fn f caps => .fn f (V.roL caps)
def V.roL : List V → List V
  | [] => []
  | c :: cs => c.ro :: V.roL cs
end
theorem V.roL_map (cs : List V) : V.roL cs = cs.map V.ro := by
  induction cs with
  | nil => rfl
  | cons c cs ih => simp [V.roL, ih]

/-- Cells of a run, at an address. -/
def RunAt (w : World) (a : Addr) (vals : List Value) : Prop := a.spot = none ∧ ∀ k, k < vals.length → w.cell? ⟨a.block, a.off + k, none⟩ = vals[k]?

/-- The memory of an owned run: a block that nobody has frozen, with room for so many cells. -/
def OwnAt (w : World) (g : Gh) (room : Nat) (vals : List Value) : Prop :=
  match g.addr with
  | none => vals = [] ∧ g.cap = 0
  | some a => a.spot = none ∧ ∃ c T, w.heap[a.block]? = some (.cells c T (0, 0)) ∧ a.off + room ≤ c.size ∧ vals.length ≤ room ∧ ∀ k, k < vals.length → c[a.off + k]? = vals[k]?

def RoAt (ro : Nat → Prop) (w : World) (g : Gh) (vals : List Value) : Prop := vals = [] ∨ ∃ a, g.addr = some a ∧ ro a.block ∧ RunAt w a vals

mutual
/-- The world's memory is what the tree says. -/
def V.Ok (ro : Nat → Prop) (w : World) : V → Prop
  | .val _ => True
  | .junk _ => True
  | .agg cs => V.OkL ro w cs
  | .tup vs => V.OkL ro w vs
  | .sl g own sz n cs => cs.length = n * sz ∧ n ≤ g.cap ∧ n ≤ 9223372036854775807 ∧ (if own then OwnAt w g (g.cap * sz) (cs.map V.value) else RoAt ro w g (cs.map V.value) ∧ V.blksL cs = []) ∧ V.OkL ro w cs
  | .ptr g own cs => (if own then g.addr ≠ none ∧ OwnAt w g cs.length (cs.map V.value) else (∃ a, g.addr = some a ∧ a.spot = none) ∧ RoAt ro w g (cs.map V.value) ∧ V.blksL cs = []) ∧ V.OkL ro w cs
  | .fn _ caps => V.OkL ro w caps
def V.OkL (ro : Nat → Prop) (w : World) : List V → Prop
  | [] => True
  | c :: cs => c.Ok ro w ∧ V.OkL ro w cs
end
theorem V.OkL_iff {ro : Nat → Prop} {w : World} (cs : List V) : V.OkL ro w cs ↔ ∀ c ∈ cs, c.Ok ro w := by
  induction cs with
  | nil => simp [V.OkL]
  | cons c cs ih => simp [V.OkL, ih]

/-! ### What the memory of a tree hangs on -/
theorem RunAt.frame {w w' : World} {a : Addr} {vals : List Value} (h : RunAt w a vals) (hb : w'.heap[a.block]? = w.heap[a.block]?) : RunAt w' a vals :=
  ⟨h.1, fun k hk => (World.cell?_of_block (w := w) (w' := w') (a := ⟨a.block, a.off + k, none⟩) hb).trans (h.2 k hk)⟩
theorem OwnAt.frame {w w' : World} {g : Gh} {room : Nat} {vals : List Value} (h : OwnAt w g room vals) (hb : ∀ b ∈ g.blk true, w'.heap[b]? = w.heap[b]?) : OwnAt w' g room vals := by
  unfold OwnAt at *
  cases hg : g.addr with
  | none => rw [hg] at h; exact h
  | some a =>
    rw [hg] at h
    obtain ⟨h0, c, T, hc, h1, h2, h3⟩ := h
    exact ⟨h0, c, T, (hb _ (by simp [Gh.blk, hg])).trans hc, h1, h2, h3⟩
theorem RoAt.frame {ro ro' : Nat → Prop} {w w' : World} {g : Gh} {vals : List Value} (h : RoAt ro w g vals) (hr : ∀ b, ro b → ro' b) (hb : ∀ b, ro b → w'.heap[b]? = w.heap[b]?) : RoAt ro' w' g vals := by
  rcases h with h | ⟨a, ha, hra, hrun⟩
  · exact .inl h
  · exact .inr ⟨a, ha, hr _ hra, hrun.frame (hb _ hra)⟩

mutual
theorem V.Ok.frame {ro ro' : Nat → Prop} {w w' : World} (hr : ∀ b, ro b → ro' b) (hb : ∀ b, ro b → w'.heap[b]? = w.heap[b]?) :
    ∀ (v : V), v.Ok ro w → (∀ b ∈ v.blks, w'.heap[b]? = w.heap[b]?) → v.Ok ro' w'
  | .val _, _, _ => by simp [V.Ok]
  | .junk _, _, _ => by simp [V.Ok]
  | .agg cs, h, k => by simp only [V.Ok, V.blks] at *; exact V.OkL.frame hr hb cs h k
  | .tup cs, h, k => by simp only [V.Ok, V.blks] at *; exact V.OkL.frame hr hb cs h k
  | .fn _ cs, h, k => by simp only [V.Ok, V.blks] at *; exact V.OkL.frame hr hb cs h k
  | .sl g own sz n cs, h, k => by
    simp only [V.Ok, V.blks, List.mem_append] at *
    obtain ⟨h1, h2, h2', h3, h4⟩ := h
    refine ⟨h1, h2, h2', ?_, V.OkL.frame hr hb cs h4 fun b hbb => k b (.inr hbb)⟩
    cases own with
    | true => simp only [if_true] at *; exact h3.frame fun b hbb => k b (.inl hbb)
    | false => simp only [Bool.false_eq_true, if_false] at *; exact ⟨h3.1.frame hr hb, h3.2⟩
  | .ptr g own cs, h, k => by
    simp only [V.Ok, V.blks, List.mem_append] at *
    obtain ⟨h3, h4⟩ := h
    refine ⟨?_, V.OkL.frame hr hb cs h4 fun b hbb => k b (.inr hbb)⟩
    cases own with
    | true => simp only [if_true] at *; exact ⟨h3.1, h3.2.frame fun b hbb => k b (.inl hbb)⟩
    | false => simp only [Bool.false_eq_true, if_false] at *; exact ⟨h3.1, h3.2.1.frame hr hb, h3.2.2⟩
theorem V.OkL.frame {ro ro' : Nat → Prop} {w w' : World} (hr : ∀ b, ro b → ro' b) (hb : ∀ b, ro b → w'.heap[b]? = w.heap[b]?) :
    ∀ (cs : List V), V.OkL ro w cs → (∀ b ∈ V.blksL cs, w'.heap[b]? = w.heap[b]?) → V.OkL ro' w' cs
  | [], _, _ => by simp [V.OkL]
  | c :: cs, h, k => by
    simp only [V.OkL, V.blksL, List.mem_append] at *
    exact ⟨V.Ok.frame hr hb c h.1 fun b hbb => k b (.inl hbb), V.OkL.frame hr hb cs h.2 fun b hbb => k b (.inr hbb)⟩
end

/-! ### Paths: through what is owned alone -/
def V.cells : V → List V
  | .agg cs => cs
  | .tup cs => cs
  | .sl _ true _ _ cs => cs
  | .ptr _ true cs => cs
  | _ => []
def V.withCells : V → List V → V
  | .agg _, cs => .agg cs
  | .tup _, cs => .tup cs
  | .sl g true s n _, cs => .sl g true s n cs
  | .ptr g true _, cs => .ptr g true cs
  | v, _ => v
def V.get (v : V) : List Nat → Option V
  | [] => some v
  | k :: p => match v.cells[k]? with
    | some c => c.get p
    | none => none
def V.set (v : V) : List Nat → V → V
  | [], u => u
  | k :: p, u => match v.cells[k]? with
    | some c => v.withCells (v.cells.set k (c.set p u))
    | none => v
def V.addr : V → Option Addr
  | .sl g _ _ _ _ => g.addr
  | .ptr g _ _ => g.addr
  | _ => none
/-- A node with memory of its own. -/
def V.owned : V → Bool
  | .sl _ o _ _ _ => o
  | .ptr _ o _ => o
  | _ => false
/-- The blocks of a node itself. -/
def V.head : V → List Nat
  | .sl g o _ _ _ => g.blk o
  | .ptr g o _ => g.blk o
  | _ => []
def V.pre (v : V) : List Nat → List Nat
  | [] => []
  | k :: p => v.head ++ V.blksL (v.cells.take k) ++ (match v.cells[k]? with | some c => c.pre p | none => [])
def V.post (v : V) : List Nat → List Nat
  | [] => []
  | k :: p => (match v.cells[k]? with | some c => c.post p | none => []) ++ V.blksL (v.cells.drop (k + 1))

theorem V.blks_cells (v : V) (h : v.cells ≠ []) : v.blks = v.head ++ V.blksL v.cells := by
  unfold V.cells at *; split at h <;> simp_all [V.blks, V.head]
theorem V.blks_withCells (v : V) (cs : List V) (h : v.cells ≠ []) : (v.withCells cs).blks = v.head ++ V.blksL cs := by
  unfold V.cells at *; split at h <;> simp_all [V.blks, V.head, V.withCells]
theorem V.value_withCells (v : V) (cs : List V) (h : cs.map V.value = v.cells.map V.value) : (v.withCells cs).value = v.value := by
  unfold V.cells at *
  split at h <;> simp_all [V.value, V.withCells, V.values_map]
theorem split_at {α : Type} {cs : List α} {k : Nat} {x : α} (hk : cs[k]? = some x) : cs = cs.take k ++ x :: cs.drop (k + 1) := by
  obtain ⟨hl, hx⟩ := List.getElem?_eq_some_iff.1 hk
  rw [← hx, List.getElem_cons_drop, List.take_append_drop]
theorem set_split {α : Type} {cs : List α} {k : Nat} {x : α} (hk : cs[k]? = some x) (u : α) : cs.set k u = cs.take k ++ u :: cs.drop (k + 1) := by
  obtain ⟨hl, hx⟩ := List.getElem?_eq_some_iff.1 hk
  rw [List.set_eq_take_append_cons_drop, if_pos hl]
theorem V.blksL_append (a b : List V) : V.blksL (a ++ b) = V.blksL a ++ V.blksL b := by simp [V.blksL_flatMap]
theorem V.blks_get (p : List Nat) : ∀ {v c : V}, v.get p = some c → v.blks = v.pre p ++ c.blks ++ v.post p := by
  induction p with
  | nil => intro v c h; simp [V.get] at h; subst h; simp [V.pre, V.post]
  | cons k p ih =>
    intro v c h
    simp only [V.get] at h
    cases hk : v.cells[k]? with
    | none => simp [hk] at h
    | some x =>
      simp only [hk] at h
      have hne : v.cells ≠ [] := by intro e; simp [e] at hk
      rw [V.blks_cells v hne]
      conv => lhs; rw [split_at hk]
      simp only [V.pre, V.post, hk, V.blksL_append, V.blksL, ih h, List.append_assoc]
theorem V.blks_set (p : List Nat) : ∀ {v c : V} (u : V), v.get p = some c → (v.set p u).blks = v.pre p ++ u.blks ++ v.post p := by
  induction p with
  | nil => intro v c u h; simp [V.pre, V.post, V.set]
  | cons k p ih =>
    intro v c u h
    simp only [V.get] at h
    cases hk : v.cells[k]? with
    | none => simp [hk] at h
    | some x =>
      simp only [hk] at h
      have hne : v.cells ≠ [] := by intro e; simp [e] at hk
      simp only [V.set, hk]
      rw [V.blks_withCells v _ hne, set_split hk]
      simp only [V.pre, V.post, hk, V.blksL_append, V.blksL, ih u h, List.append_assoc]
theorem map_set_same {α β : Type} (f : α → β) {cs : List α} {k : Nat} {x u : α} (hk : cs[k]? = some x) (e : f u = f x) : (cs.set k u).map f = cs.map f := by
  rw [set_split hk]
  conv => rhs; rw [split_at hk]
  simp [e]
theorem V.value_set (p : List Nat) : ∀ {v c u : V}, v.get p = some c → u.value = c.value → (v.set p u).value = v.value := by
  induction p with
  | nil => intro v c u h e; simp [V.get] at h; subst h; simpa [V.set] using e
  | cons k p ih =>
    intro v c u h e
    simp only [V.get] at h
    cases hk : v.cells[k]? with
    | none => simp [hk] at h
    | some x =>
      simp only [hk] at h
      simp only [V.set, hk]
      exact V.value_withCells _ _ (map_set_same V.value hk (ih h e))
theorem V.Ok.cells {ro : Nat → Prop} {w : World} {v : V} (h : v.Ok ro w) : V.OkL ro w v.cells := by
  unfold V.cells
  split <;> simp_all [V.Ok, V.OkL]
theorem V.Ok.get (p : List Nat) {ro : Nat → Prop} {w : World} : ∀ {v c : V}, v.Ok ro w → v.get p = some c → c.Ok ro w := by
  induction p with
  | nil => intro v c h e; simp [V.get] at e; subst e; exact h
  | cons k p ih =>
    intro v c h e
    simp only [V.get] at e
    cases hk : v.cells[k]? with
    | none => simp [hk] at e
    | some x =>
      simp only [hk] at e
      exact ih ((V.OkL_iff _).1 h.cells x (List.mem_of_getElem? hk)) e
/-- New cells of the same values, where the memory of the node itself is as it was. -/
theorem V.Ok.withCells {ro ro' : Nat → Prop} {w w' : World} {v : V} (h : v.Ok ro w) (cs : List V) (hne : v.cells ≠ []) (hval : cs.map V.value = v.cells.map V.value)
    (hh : ∀ b ∈ v.head, w'.heap[b]? = w.heap[b]?) (hcs : V.OkL ro' w' cs) : (v.withCells cs).Ok ro' w' := by
  unfold V.cells at *
  have hlen : cs.length = v.cells.length := by unfold V.cells; simpa using congrArg List.length hval
  split at hne <;> simp_all [V.Ok, V.withCells, V.head, V.cells]
  · exact h.2.2.2.1.frame hh
  · exact h.1.2.frame hh
/-- The heart: a node's place is filled anew with a tree of the same value; all else stays. -/
theorem V.Ok.set {ro ro' : Nat → Prop} {w w' : World} (hr : ∀ b, ro b → ro' b) (hb : ∀ b, ro b → w'.heap[b]? = w.heap[b]?) (p : List Nat) :
    ∀ {v c u : V}, v.get p = some c → u.value = c.value → v.Ok ro w → u.Ok ro' w' → (∀ b ∈ v.pre p ++ v.post p, w'.heap[b]? = w.heap[b]?) → (v.set p u).Ok ro' w' := by
  induction p with
  | nil => intro v c u h e _ hu _; simpa [V.set] using hu
  | cons k p ih =>
    intro v c u h e hv hu hB
    simp only [V.get] at h
    cases hk : v.cells[k]? with
    | none => simp [hk] at h
    | some x =>
      simp only [hk] at h
      have hne : v.cells ≠ [] := by intro e; simp [e] at hk
      simp only [V.pre, V.post, hk, List.mem_append] at hB
      have hOkL := hv.cells
      have hx : x.Ok ro w := (V.OkL_iff _).1 hOkL x (List.mem_of_getElem? hk)
      have hx' : (x.set p u).Ok ro' w' := ih h e hx hu fun b hbb => by
        simp only [List.mem_append] at hbb
        rcases hbb with hbb | hbb
        · exact hB b (.inl (.inr hbb))
        · exact hB b (.inr (.inl hbb))
      simp only [V.set, hk]
      refine hv.withCells _ hne (map_set_same V.value hk (V.value_set p h e)) (fun b hbb => hB b (.inl (.inl (.inl hbb)))) ?_
      rw [set_split hk, V.OkL_iff]
      rw [V.OkL_iff] at hOkL
      intro y hy
      simp only [List.mem_append, List.mem_cons] at hy
      rcases hy with hy | rfl | hy
      · refine V.Ok.frame hr hb y (hOkL y (List.mem_of_mem_take hy)) fun b hbb => hB b (.inl (.inl (.inr ?_)))
        rw [V.blksL_flatMap]; exact List.mem_flatMap.2 ⟨y, hy, hbb⟩
      · exact hx'
      · refine V.Ok.frame hr hb y (hOkL y (List.mem_of_mem_drop hy)) fun b hbb => hB b (.inr (.inr ?_))
        rw [V.blksL_flatMap]; exact List.mem_flatMap.2 ⟨y, hy, hbb⟩

/-! ### Erasing the machine's addresses -/
theorem V.cells_erase (v : V) : v.erase.cells = v.cells.map V.erase := by
  cases v with
  | sl g o s n cs => cases o <;> simp [V.cells, V.erase, V.eraseL_map]
  | ptr g o cs => cases o <;> simp [V.cells, V.erase, V.eraseL_map]
  | _ => simp [V.cells, V.erase, V.eraseL_map]
theorem V.withCells_erase (v : V) (cs : List V) : (v.withCells cs).erase = v.erase.withCells (cs.map V.erase) := by
  cases v with
  | sl g o s n cs => cases o <;> simp [V.withCells, V.erase, V.eraseL_map]
  | ptr g o cs => cases o <;> simp [V.withCells, V.erase, V.eraseL_map]
  | _ => simp [V.withCells, V.erase, V.eraseL_map]
theorem V.get_erase (p : List Nat) : ∀ (v : V), v.erase.get p = (v.get p).map V.erase := by
  induction p with
  | nil => intro v; rfl
  | cons k p ih =>
    intro v
    simp only [V.get, V.cells_erase, List.getElem?_map]
    cases v.cells[k]? with
    | none => rfl
    | some x => simpa using ih x
theorem V.set_erase (p : List Nat) : ∀ (v u : V), (v.set p u).erase = v.erase.set p u.erase := by
  induction p with
  | nil => intro v u; rfl
  | cons k p ih =>
    intro v u
    simp only [V.set, V.cells_erase, List.getElem?_map]
    cases v.cells[k]? with
    | none => rfl
    | some x => simp [V.withCells_erase, List.map_set, ih]
theorem V.owned_erase (v : V) : v.erase.owned = v.owned := by cases v <;> rfl

/-! ### Lent out: to be read alone -/
mutual
theorem V.ro_value : ∀ (v : V), v.ro.value = v.value
  | .val _ => rfl
  | .junk _ => rfl
  | .agg cs => by simp only [V.ro, V.value, V.roL_value cs]
  | .tup cs => by simp only [V.ro, V.value, V.roL_value cs]
  | .fn _ cs => by simp only [V.ro, V.value, V.roL_value cs]
  | .sl .. => rfl
  | .ptr .. => rfl
theorem V.roL_value : ∀ (cs : List V), V.values (V.roL cs) = V.values cs
  | [] => rfl
  | c :: cs => by simp only [V.roL, V.values, V.ro_value c, V.roL_value cs]
end
mutual
theorem V.ro_blks : ∀ (v : V), v.ro.blks = []
  | .val _ => rfl
  | .junk _ => rfl
  | .agg cs => by simp only [V.ro, V.blks, V.roL_blks cs]
  | .tup cs => by simp only [V.ro, V.blks, V.roL_blks cs]
  | .fn _ cs => by simp only [V.ro, V.blks, V.roL_blks cs]
  | .sl _ _ _ _ cs => by simp only [V.ro, V.blks, V.roL_blks cs, Gh.blk, Bool.false_eq_true, if_false, List.append_nil]
  | .ptr _ _ cs => by simp only [V.ro, V.blks, V.roL_blks cs, Gh.blk, Bool.false_eq_true, if_false, List.append_nil]
theorem V.roL_blks : ∀ (cs : List V), V.blksL (V.roL cs) = []
  | [] => rfl
  | c :: cs => by simp only [V.roL, V.blksL, V.ro_blks c, V.roL_blks cs, List.append_nil]
end
mutual
theorem V.ro_erase : ∀ (v : V), v.ro.erase = v.erase.ro
  | .val _ => rfl
  | .junk _ => rfl
  | .agg cs => by simp only [V.ro, V.erase, V.roL_erase cs]
  | .tup cs => by simp only [V.ro, V.erase, V.roL_erase cs]
  | .fn _ cs => by simp only [V.ro, V.erase, V.roL_erase cs]
  | .sl _ _ _ _ cs => by simp only [V.ro, V.erase, V.roL_erase cs]
  | .ptr _ _ cs => by simp only [V.ro, V.erase, V.roL_erase cs]
theorem V.roL_erase : ∀ (cs : List V), V.eraseL (V.roL cs) = V.roL (V.eraseL cs)
  | [] => rfl
  | c :: cs => by simp only [V.roL, V.eraseL, V.ro_erase c, V.roL_erase cs]
end
theorem V.roL_values_map (cs : List V) : (V.roL cs).map V.value = cs.map V.value := by rw [← V.values_map, ← V.values_map, V.roL_value]
theorem OwnAt.ro {ro : Nat → Prop} {w : World} {g : Gh} {room : Nat} {vals : List Value} (h : OwnAt w g room vals) (hb : ∀ b ∈ g.blk true, ro b) : RoAt ro w g vals := by
  unfold OwnAt at h
  cases hg : g.addr with
  | none => rw [hg] at h; exact .inl h.1
  | some a =>
    rw [hg] at h
    obtain ⟨h0, c, T, hc, h1, h2, h3⟩ := h
    exact .inr ⟨a, hg, hb _ (by simp [Gh.blk, hg]), h0, fun k hk => by simp [World.cell?, hc, h3 k hk]⟩
mutual
theorem V.Ok.ro {ro ro' : Nat → Prop} {w : World} (hr : ∀ b, ro b → ro' b) : ∀ (v : V), v.Ok ro w → (∀ b ∈ v.blks, ro' b) → v.ro.Ok ro' w
  | .val _, _, _ => by simp [V.Ok, V.ro]
  | .junk _, _, _ => by simp [V.Ok, V.ro]
  | .agg cs, h, k => by simp only [V.Ok, V.blks, V.ro] at *; exact V.OkL.ro hr cs h k
  | .tup cs, h, k => by simp only [V.Ok, V.blks, V.ro] at *; exact V.OkL.ro hr cs h k
  | .fn _ cs, h, k => by simp only [V.Ok, V.blks, V.ro] at *; exact V.OkL.ro hr cs h k
  | .sl g own sz n cs, h, k => by
    simp only [V.Ok, V.blks, V.ro, List.mem_append, Bool.false_eq_true, if_false, V.roL_values_map, V.roL_blks] at *
    obtain ⟨h1, h2, h2', h3, h4⟩ := h
    refine ⟨by rw [V.roL_map, List.length_map]; exact h1, h2, h2', ⟨?_, trivial⟩, V.OkL.ro hr cs h4 fun b hbb => k b (.inr hbb)⟩
    cases own with
    | true => simp only [if_true] at *; exact h3.ro fun b hbb => k b (.inl hbb)
    | false => simp only [Bool.false_eq_true, if_false] at *; exact h3.1.frame hr fun _ _ => rfl
  | .ptr g own cs, h, k => by
    simp only [V.Ok, V.blks, V.ro, List.mem_append, Bool.false_eq_true, if_false, V.roL_values_map, V.roL_blks] at *
    obtain ⟨h3, h4⟩ := h
    refine ⟨?_, V.OkL.ro hr cs h4 fun b hbb => k b (.inr hbb)⟩
    cases own with
    | true =>
      simp only [if_true] at *
      refine ⟨?_, h3.2.ro fun b hbb => k b (.inl hbb), trivial⟩
      cases hg : g.addr with
      | none => exact absurd hg h3.1
      | some a => have := h3.2; unfold OwnAt at this; rw [hg] at this; exact ⟨a, rfl, this.1⟩
    | false => simp only [Bool.false_eq_true, if_false] at *; exact ⟨h3.1, h3.2.1.frame hr fun _ _ => rfl, trivial⟩
theorem V.OkL.ro {ro ro' : Nat → Prop} {w : World} (hr : ∀ b, ro b → ro' b) : ∀ (cs : List V), V.OkL ro w cs → (∀ b ∈ V.blksL cs, ro' b) → V.OkL ro' w (V.roL cs)
  | [], _, _ => by simp [V.OkL, V.roL]
  | c :: cs, h, k => by
    simp only [V.OkL, V.blksL, V.roL, List.mem_append] at *
    exact ⟨V.Ok.ro hr c h.1 fun b hbb => k b (.inl hbb), V.OkL.ro hr cs h.2 fun b hbb => k b (.inr hbb)⟩
end

/-! ### What another place's change leaves -/
/-- The same node: its head is the same. -/
def V.Alike (u u' : V) : Prop := u'.owned = u.owned ∧ u'.head = u.head ∧ (u.owned = true → u'.value = u.value ∧ u'.addr = u.addr)
theorem V.Alike.refl (u : V) : u.Alike u := ⟨rfl, rfl, fun _ => ⟨rfl, rfl⟩⟩
theorem V.alike_withCells (u : V) (cs : List V) : u.Alike (u.withCells cs) := by
  unfold V.withCells V.Alike
  split <;> simp [V.owned, V.head, V.value, V.addr]
theorem V.get_set (p : List Nat) : ∀ (v x : V) (q : List Nat), ¬ p <+: q → ∀ u, v.get q = some u → ∃ u', (v.set p x).get q = some u' ∧ u.Alike u' := by
  induction p with
  | nil => intro v x q h; exact absurd (List.nil_prefix) h
  | cons k p ih =>
    intro v x q h u hu
    cases hk : v.cells[k]? with
    | none => exact ⟨u, by simpa [V.set, hk] using hu, .refl u⟩
    | some c =>
      simp only [V.set, hk]
      have hne : v.cells ≠ [] := by intro e; simp [e] at hk
      cases q with
      | nil => simp [V.get] at hu; subst hu; exact ⟨_, rfl, V.alike_withCells _ _⟩
      | cons j q =>
        have hcells : (v.withCells (v.cells.set k (c.set p x))).cells = v.cells.set k (c.set p x) := by
          unfold V.cells V.withCells at *
          split at hne <;> simp_all
        simp only [V.get, hcells, List.getElem?_set] at hu ⊢
        by_cases hkj : k = j
        · subst hkj
          have hlt : k < v.cells.length := (List.getElem?_eq_some_iff.1 hk).1
          simp only [hk] at hu
          simp only [if_pos, hlt]
          exact ih c x q (fun hp => h (by simpa using hp)) u hu
        · rw [if_neg hkj]
          exact ⟨u, hu, .refl u⟩
theorem V.get_set_same (p : List Nat) : ∀ {v c : V} (x : V), v.get p = some c → (v.set p x).get p = some x := by
  induction p with
  | nil => intro v c x _; rfl
  | cons k p ih =>
    intro v c x h
    simp only [V.get] at h
    cases hk : v.cells[k]? with
    | none => simp [hk] at h
    | some y =>
      simp only [hk] at h
      have hne : v.cells ≠ [] := by intro e; simp [e] at hk
      have hlt : k < v.cells.length := (List.getElem?_eq_some_iff.1 hk).1
      have hcells : (v.withCells (v.cells.set k (y.set p x))).cells = v.cells.set k (y.set p x) := by
        unfold V.cells V.withCells at *
        split at hne <;> simp_all
      simp only [V.set, hk, V.get, hcells, List.getElem?_set, if_pos, hlt]
      exact ih x h
theorem V.get_append (p q : List Nat) : ∀ (v : V), v.get (p ++ q) = (v.get p).bind (·.get q) := by
  induction p with
  | nil => intro v; simp [V.get]
  | cons k p ih =>
    intro v
    simp only [List.cons_append, V.get]
    cases v.cells[k]? with
    | none => rfl
    | some c => exact ih c

end Go.E
namespace Go.E

/-- What a slot holds: a value read alone, a place in the call's own memory, an address, or several of these. -/
inductive S where
  | v (u : V)
  | ref (d : Nat) (p : List Nat)
  | adr (d : Nat) (p : List Nat) (k : Nat)
  | radr (g : Gh) (cs : List V) (k : Nat)
  | agg (ss : List S)
  | tup (ss : List S)
  | fn (f : FuncId) (ss : List S)
  | junk

instance : Inhabited S := ⟨.junk⟩

mutual
def S.Rel (m : Nat → V) : S → Value → Prop
  | .v u, x => x = u.value
  | .ref d p, x => ∃ u, (m d).get p = some u ∧ u.owned = true ∧ x = u.value
  | .adr d p k, x => ∃ u a, (m d).get p = some u ∧ u.owned = true ∧ u.addr = some a ∧ x = .pointer (some (a.add k))
  | .radr g _ k, x => ∃ a, g.addr = some a ∧ x = .pointer (some (a.add k))
  | .agg ss, x => ∃ xs : List Value, x = .agg xs.toArray ∧ S.RelL m ss xs
  | .tup ss, x => ∃ xs : List Value, x = .tuple xs.toArray ∧ S.RelL m ss xs
  | .fn f ss, x => ∃ xs : List Value, x = .func (.func f) #[] xs.toArray ∧ S.RelL m ss xs
  | .junk, _ => True
def S.RelL (m : Nat → V) : List S → List Value → Prop
  | [], xs => xs = []
  | s :: ss, xs => ∃ x xs', xs = x :: xs' ∧ s.Rel m x ∧ S.RelL m ss xs'
end
mutual
def S.Inl (ro : Nat → Prop) (w : World) : S → Prop
  | .v u => u.Ok ro w ∧ u.blks = []
  | .radr g cs _ => (V.ptr g false cs).Ok ro w
  | .agg ss => S.InlL ro w ss
  | .tup ss => S.InlL ro w ss
  | .fn _ ss => S.InlL ro w ss
  | _ => True
def S.InlL (ro : Nat → Prop) (w : World) : List S → Prop
  | [] => True
  | s :: ss => s.Inl ro w ∧ S.InlL ro w ss
end
mutual
/-- What led into a place that has turned is forgotten. -/
def S.kill (f : Nat → List Nat → Bool) : S → S
  | .ref e q => if f e q = true then .junk else .ref e q
  | .adr e q k => if f e q = true then .junk else .adr e q k
  | .agg ss => .agg (S.killL f ss)
  | .tup ss => .tup (S.killL f ss)
  | .fn g ss => .fn g (S.killL f ss)
  | .v u => .v u
  | .radr g cs k => .radr g cs k
  | .junk => .junk
def S.killL (f : Nat → List Nat → Bool) : List S → List S
  | [] => []
  | s :: ss => s.kill f :: S.killL f ss
end
mutual
def S.erase : S → S
  | .v u => .v u.erase
  | .radr _ cs k => .radr .z (V.eraseL cs) k
  | .agg ss => .agg (S.eraseL ss)
  | .tup ss => .tup (S.eraseL ss)
  | .fn f ss => .fn f (S.eraseL ss)
  | .ref d p => .ref d p
  | .adr d p k => .adr d p k
  | .junk => .junk
def S.eraseL : List S → List S
  | [] => []
  | s :: ss => s.erase :: S.eraseL ss
end
theorem S.eraseL_map (ss : List S) : S.eraseL ss = ss.map S.erase := by
  induction ss with
  | nil => rfl
  | cons s ss ih => simp [S.eraseL, ih]
/-- What leads to a place or on from it. -/
def at_ (d : Nat) (p : List Nat) (e : Nat) (q : List Nat) : Bool := decide (e = d) && p.isPrefixOf q
/-- What leads on from a place. -/
def in_ (d : Nat) (p : List Nat) (e : Nat) (q : List Nat) : Bool := decide (e = d) && p.isPrefixOf q && !q.isPrefixOf p
theorem S.killL_map (f : Nat → List Nat → Bool) (ss : List S) : S.killL f ss = ss.map (S.kill f) := by
  induction ss with
  | nil => rfl
  | cons s ss ih => simp [S.killL, ih]
mutual
theorem S.kill_erase (f : Nat → List Nat → Bool) : ∀ (s : S), (s.kill f).erase = s.erase.kill f
  | .v _ => rfl
  | .radr .. => rfl
  | .junk => rfl
  | .agg ss => by simp only [S.kill, S.erase, S.killL_erase f ss]
  | .tup ss => by simp only [S.kill, S.erase, S.killL_erase f ss]
  | .fn _ ss => by simp only [S.kill, S.erase, S.killL_erase f ss]
  | .ref e q => by simp only [S.kill, S.erase]; split <;> rfl
  | .adr e q k => by simp only [S.kill, S.erase]; split <;> rfl
theorem S.killL_erase (f : Nat → List Nat → Bool) : ∀ (ss : List S), S.eraseL (S.killL f ss) = S.killL f (S.eraseL ss)
  | [] => rfl
  | s :: ss => by simp only [S.killL, S.eraseL, S.kill_erase f s, S.killL_erase f ss]
end
mutual
theorem S.Rel.kill {m m' : Nat → V} {f : Nat → List Nat → Bool} (h1 : ∀ e q u, f e q = false → (m e).get q = some u → ∃ u', (m' e).get q = some u' ∧ u.Alike u') :
    ∀ (s : S) (x : Value), s.Rel m x → (s.kill f).Rel m' x
  | .v _, _, h => h
  | .radr .., _, h => h
  | .junk, _, _ => trivial
  | .agg ss, x, h => by
    simp only [S.Rel, S.kill] at *
    obtain ⟨xs, hx, hs⟩ := h
    exact ⟨xs, hx, S.RelL.kill h1 ss xs hs⟩
  | .tup ss, x, h => by
    simp only [S.Rel, S.kill] at *
    obtain ⟨xs, hx, hs⟩ := h
    exact ⟨xs, hx, S.RelL.kill h1 ss xs hs⟩
  | .fn _ ss, x, h => by
    simp only [S.Rel, S.kill] at *
    obtain ⟨xs, hx, hs⟩ := h
    exact ⟨xs, hx, S.RelL.kill h1 ss xs hs⟩
  | .ref e q, x, h => by
    simp only [S.kill]
    split
    · trivial
    · rename_i hn
      simp only [S.Rel] at *
      obtain ⟨u, hu, ho, hx⟩ := h
      obtain ⟨u', hu', hal⟩ := h1 e q u (by simpa using hn) hu
      exact ⟨u', hu', hal.1.trans ho, by rw [hx, (hal.2.2 ho).1]⟩
  | .adr e q k, x, h => by
    simp only [S.kill]
    split
    · trivial
    · rename_i hn
      simp only [S.Rel] at *
      obtain ⟨u, a, hu, ho, ha, hx⟩ := h
      obtain ⟨u', hu', hal⟩ := h1 e q u (by simpa using hn) hu
      exact ⟨u', a, hu', hal.1.trans ho, by rw [(hal.2.2 ho).2]; exact ha, hx⟩
theorem S.RelL.kill {m m' : Nat → V} {f : Nat → List Nat → Bool} (h1 : ∀ e q u, f e q = false → (m e).get q = some u → ∃ u', (m' e).get q = some u' ∧ u.Alike u') :
    ∀ (ss : List S) (xs : List Value), S.RelL m ss xs → S.RelL m' (S.killL f ss) xs
  | [], _, h => h
  | s :: ss, xs, h => by
    simp only [S.RelL, S.killL] at *
    obtain ⟨x, xs', hx, h3, h4⟩ := h
    exact ⟨x, xs', hx, S.Rel.kill h1 s x h3, S.RelL.kill h1 ss xs' h4⟩
end
mutual
theorem S.Inl.kill {ro : Nat → Prop} {w : World} (f : Nat → List Nat → Bool) : ∀ (s : S), s.Inl ro w → (s.kill f).Inl ro w
  | .v _, h => h
  | .radr .., h => h
  | .junk, h => h
  | .agg ss, h => by simp only [S.Inl, S.kill] at *; exact S.InlL.kill f ss h
  | .tup ss, h => by simp only [S.Inl, S.kill] at *; exact S.InlL.kill f ss h
  | .fn _ ss, h => by simp only [S.Inl, S.kill] at *; exact S.InlL.kill f ss h
  | .ref e q, h => by simp only [S.kill]; split <;> trivial
  | .adr e q k, h => by simp only [S.kill]; split <;> trivial
theorem S.InlL.kill {ro : Nat → Prop} {w : World} (f : Nat → List Nat → Bool) : ∀ (ss : List S), S.InlL ro w ss → S.InlL ro w (S.killL f ss)
  | [], h => h
  | s :: ss, h => by simp only [S.InlL, S.killL] at *; exact ⟨S.Inl.kill f s h.1, S.InlL.kill f ss h.2⟩
end
mutual
theorem S.Inl.frame {ro ro' : Nat → Prop} {w w' : World} (hr : ∀ b, ro b → ro' b) (hb : ∀ b, ro b → w'.heap[b]? = w.heap[b]?) : ∀ (s : S), s.Inl ro w → s.Inl ro' w'
  | .v u, h => by simp only [S.Inl] at *; exact ⟨h.1.frame hr hb u (by rw [h.2]; simp), h.2⟩
  | .radr g cs k, h => by
    simp only [S.Inl] at *
    have hz : (V.ptr g false cs).blks = [] := by
      simp only [V.Ok, Bool.false_eq_true, if_false] at h
      simp [V.blks, Gh.blk, h.1.2.2]
    exact h.frame hr hb _ (by rw [hz]; simp)
  | .junk, h => trivial
  | .ref .., h => trivial
  | .adr .., h => trivial
  | .agg ss, h => by simp only [S.Inl] at *; exact S.InlL.frame hr hb ss h
  | .tup ss, h => by simp only [S.Inl] at *; exact S.InlL.frame hr hb ss h
  | .fn _ ss, h => by simp only [S.Inl] at *; exact S.InlL.frame hr hb ss h
theorem S.InlL.frame {ro ro' : Nat → Prop} {w w' : World} (hr : ∀ b, ro b → ro' b) (hb : ∀ b, ro b → w'.heap[b]? = w.heap[b]?) : ∀ (ss : List S), S.InlL ro w ss → S.InlL ro' w' ss
  | [], _ => trivial
  | s :: ss, h => by simp only [S.InlL] at *; exact ⟨S.Inl.frame hr hb s h.1, S.InlL.frame hr hb ss h.2⟩
end

/-! ### States -/
structure St where
  slots : Nat → S
  mem : Nat → V
def upd {α : Type} (f : Nat → α) (d : Nat) (x : α) (t : Nat) : α := if t = d then x else f t
theorem upd_same {α : Type} (f : Nat → α) (d : Nat) (x : α) : upd f d x d = x := if_pos rfl
theorem upd_ne {α : Type} (f : Nat → α) {d t : Nat} (x : α) (h : t ≠ d) : upd f d x t = f t := if_neg h
def St.put (σ : St) (d : Nat) (s : S) : St := { σ with slots := upd σ.slots d s }
def St.kill (σ : St) (f : Nat → List Nat → Bool) : St := { σ with slots := fun t => (σ.slots t).kill f }
def St.setMem (σ : St) (d : Nat) (u : V) : St := { σ with mem := upd σ.mem d u }
def St.erase (σ : St) : St := ⟨fun t => (σ.slots t).erase, fun d => (σ.mem d).erase⟩

/-- What is fixed while one call runs: the world at its begin, what is lent to it, the blocks that it was handed, its slots, its parameters' own values. -/
structure Ctx where
  w0 : World
  ro0 : Nat → Prop
  ow : List Nat
  nt : Nat
  np : Nat
  pin : Nat → Value

def Ctx.Own (C : Ctx) (ro : Nat → Prop) (w : World) (b : Nat) : Prop := ¬ ro b ∧ b < w.heap.size ∧ (b ∈ C.ow ∨ C.w0.heap.size ≤ b)

structure Good (C : Ctx) (σ : St) (H : List V) (ro : Nat → Prop) (a : Act) (w : World) : Prop where
  slots : ∀ t, σ.slots t = .junk ∨ ∃ x, a.tmps[t]? = some x ∧ (σ.slots t).Rel σ.mem x
  inl : ∀ t, (σ.slots t).Inl ro w
  mok : ∀ d, (σ.mem d).Ok ro w
  hok : V.OkL ro w H
  mnd : ∀ d, (σ.mem d).blks.Nodup
  hnd : (V.blksL H).Nodup
  mdis : ∀ d e b, d ≠ e → b ∈ (σ.mem d).blks → b ∉ (σ.mem e).blks
  hdis : ∀ d b, b ∈ (σ.mem d).blks → b ∉ V.blksL H
  mown : ∀ d b, b ∈ (σ.mem d).blks → C.Own ro w b
  hown : ∀ b, b ∈ V.blksL H → C.Own ro w b
  rolt : ∀ b, ro b → b < w.heap.size
  roext : ∀ b, C.ro0 b → ro b
  frame : ∀ b, b < C.w0.heap.size → b ∉ C.ow → w.heap[b]? = C.w0.heap[b]?
  size : C.w0.heap.size ≤ w.heap.size
  os : w.os = C.w0.os
  tape : w.tape = C.w0.tape
  output : w.output = C.w0.output
  pins : ∀ i, i < C.np → (σ.mem i).value = C.pin i
  defs : a.defers = []
  nt : a.tmps.size = C.nt

theorem nodup_mid {α : Type} {a b c : List α} (h : (a ++ b ++ c).Nodup) : b.Nodup ∧ (∀ x ∈ b, x ∉ a ∧ x ∉ c) ∧ (a ++ c).Nodup := by
  simp only [List.append_assoc, List.nodup_append, List.mem_append] at *
  obtain ⟨h1, ⟨h2, h3, h4⟩, h5⟩ := h
  refine ⟨h2, fun x hx => ⟨fun hxa => h5 x hxa x (.inl hx) rfl, fun hxc => h4 x hx x hxc rfl⟩, h1, h3, fun x hx y hy => h5 x hx y (.inr hy)⟩

/-- What is in hand, and new blocks, may turn; all else stays. -/
theorem Good.hand {C : Ctx} {σ : St} {H H' : List V} {ro : Nat → Prop} {a : Act} {w w' : World} (h : Good C σ H ro a w)
    (hb : ∀ b, b < w.heap.size → b ∉ V.blksL H → w'.heap[b]? = w.heap[b]?) (hsize : w.heap.size ≤ w'.heap.size) (hos : w'.os = w.os) (htape : w'.tape = w.tape) (hout : w'.output = w.output)
    (hok : V.OkL ro w' H') (hnd : (V.blksL H').Nodup) (hnew : ∀ b ∈ V.blksL H', b ∈ V.blksL H ∨ (w.heap.size ≤ b ∧ b < w'.heap.size)) : Good C σ H' ro a w' where
  slots := h.slots
  inl t := S.Inl.frame (fun _ k => k) (fun b hr => hb b (h.rolt b hr) fun hm => (h.hown b hm).1 hr) _ (h.inl t)
  mok d := V.Ok.frame (fun _ k => k) (fun b hr => hb b (h.rolt b hr) fun hm => (h.hown b hm).1 hr) _ (h.mok d) fun b hm => hb b (h.mown d b hm).2.1 (h.hdis d b hm)
  hok := hok
  mnd := h.mnd
  hnd := hnd
  mdis := h.mdis
  hdis d b hm hh := by
    rcases hnew b hh with k | k
    · exact h.hdis d b hm k
    · have := (h.mown d b hm).2.1; omega
  mown d b hm := let ⟨h1, h2, h3⟩ := h.mown d b hm; ⟨h1, by omega, h3⟩
  hown b hm := by
    rcases hnew b hm with k | k
    · obtain ⟨h1, h2, h3⟩ := h.hown b k; exact ⟨h1, by omega, h3⟩
    · exact ⟨fun hr => by have := h.rolt b hr; omega, k.2, .inr (by have := h.size; omega)⟩
  rolt b hr := by have := h.rolt b hr; omega
  roext := h.roext
  frame b hl hm := by
    rw [hb b (by have := h.size; omega) fun hh => ?_, h.frame b hl hm]
    rcases (h.hown b hh).2.2 with k | k
    · exact hm k
    · omega
  size := by have := h.size; omega
  os := hos.trans h.os
  tape := htape.trans h.tape
  output := hout.trans h.output
  pins := h.pins
  defs := h.defs
  nt := h.nt

theorem Good.put {C : Ctx} {σ : St} {H : List V} {ro : Nat → Prop} {a : Act} {w : World} (h : Good C σ H ro a w) {d : Nat} {s : S} {x : Value} (hd : d < C.nt)
    (hx : s.Rel σ.mem x) (hi : s.Inl ro w) : Good C (σ.put d s) H ro (a.put (some d) x) w :=
  { h with
    slots := fun t => by
      by_cases e : t = d
      · subst e
        refine .inr ⟨x, ?_, ?_⟩
        · simp [Act.put, h.nt, hd]
        · simpa [St.put, upd_same] using hx
      · rcases h.slots t with k | ⟨y, k1, k2⟩
        · exact .inl (by simpa [St.put, upd_ne _ _ e] using k)
        · refine .inr ⟨y, ?_, by simpa [St.put, upd_ne _ _ e] using k2⟩
          simp [Act.put, Ne.symm e, k1]
    inl := fun t => by
      by_cases e : t = d
      · subst e; simpa [St.put, upd_same] using hi
      · simpa [St.put, upd_ne _ _ e] using h.inl t
    mok := h.mok
    mnd := h.mnd
    mdis := h.mdis
    hdis := h.hdis
    mown := h.mown
    pins := h.pins
    defs := by simpa [Act.put] using h.defs
    nt := by simpa [Act.put] using h.nt }

theorem at_false {d e : Nat} {p q : List Nat} (h : at_ d p e q = false) : e ≠ d ∨ ¬ p <+: q := by
  by_cases he : e = d
  · refine .inr fun hp => ?_
    simp [at_, he, List.isPrefixOf_iff_prefix.2 hp] at h
  · exact .inl he

/-- A tree is taken out of its place into the hand. -/
theorem Good.take {C : Ctx} {σ : St} {H : List V} {ro : Nat → Prop} {a : Act} {w : World} (h : Good C σ H ro a w) {d : Nat} {p : List Nat} {u : V} (hu : (σ.mem d).get p = some u) :
    Good C ((σ.kill (at_ d p)).setMem d ((σ.mem d).set p (.junk u.value))) (u :: H) ro a w := by
  have hblk := V.blks_set p (.junk u.value) hu
  have hgo := V.blks_get p hu
  have hsub : ∀ b ∈ ((σ.mem d).set p (.junk u.value)).blks, b ∈ (σ.mem d).blks := fun b hb => by
    rw [hblk] at hb; rw [hgo]; simp only [V.blks, List.append_nil, List.mem_append] at *
    rcases hb with k | k <;> simp [k]
  have hnm := nodup_mid (hgo ▸ h.mnd d)
  have hin : ∀ b ∈ u.blks, b ∈ (σ.mem d).blks := fun b hb => by rw [hgo]; simp [hb]
  have hout : ∀ b ∈ u.blks, b ∉ ((σ.mem d).set p (.junk u.value)).blks := fun b hb hh => by
    rw [hblk] at hh
    have := hnm.2.1 b hb
    simp only [V.blks, List.append_nil, List.mem_append] at hh
    rcases hh with k | k
    · exact this.1 k
    · exact this.2 k
  exact {
    slots := fun t => by
      rcases h.slots t with k | ⟨x, k1, k2⟩
      · left; simp [St.setMem, St.kill, k, S.kill]
      · refine .inr ⟨x, k1, S.Rel.kill (m := σ.mem) ?_ _ _ k2⟩
        intro e q c hf hc
        simp only [St.setMem]
        by_cases he : e = d
        · subst he
          rw [upd_same]
          exact V.get_set p _ _ q ((at_false hf).resolve_left (by simp)) c hc
        · rw [upd_ne _ _ he]; exact ⟨c, hc, .refl c⟩
    inl := fun t => S.Inl.kill _ _ (h.inl t)
    mok := fun e => by
      simp only [St.setMem]
      by_cases he : e = d
      · subst he; rw [upd_same]
        exact V.Ok.set (fun _ k => k) (fun _ _ => rfl) p hu rfl (h.mok e) (by simp [V.Ok]) fun _ _ => rfl
      · rw [upd_ne _ _ he]; exact h.mok e
    hok := ⟨(h.mok d).get p hu, h.hok⟩
    mnd := fun e => by
      simp only [St.setMem]
      by_cases he : e = d
      · subst he; rw [upd_same, hblk]; simpa [V.blks] using hnm.2.2
      · rw [upd_ne _ _ he]; exact h.mnd e
    hnd := by
      simp only [V.blksL, List.nodup_append]
      exact ⟨hnm.1, h.hnd, fun x hx y hy e => h.hdis d x (hin x hx) (e ▸ hy)⟩
    mdis := fun e e' b hne hb hb' => by
      simp only [St.setMem] at hb hb'
      have h1 : b ∈ (σ.mem e).blks := by
        by_cases he : e = d
        · subst he; rw [upd_same] at hb; exact hsub b hb
        · rwa [upd_ne _ _ he] at hb
      have h2 : b ∈ (σ.mem e').blks := by
        by_cases he : e' = d
        · subst he; rw [upd_same] at hb'; exact hsub b hb'
        · rwa [upd_ne _ _ he] at hb'
      exact h.mdis e e' b hne h1 h2
    hdis := fun e b hb hh => by
      simp only [St.setMem] at hb
      simp only [V.blksL, List.mem_append] at hh
      by_cases he : e = d
      · subst he; rw [upd_same] at hb
        rcases hh with k | k
        · exact hout b k hb
        · exact h.hdis e b (hsub b hb) k
      · rw [upd_ne _ _ he] at hb
        rcases hh with k | k
        · exact h.mdis e d b he hb (hin b k)
        · exact h.hdis e b hb k
    mown := fun e b hb => by
      simp only [St.setMem] at hb
      by_cases he : e = d
      · subst he; rw [upd_same] at hb; exact h.mown e b (hsub b hb)
      · rw [upd_ne _ _ he] at hb; exact h.mown e b hb
    hown := fun b hh => by
      simp only [V.blksL, List.mem_append] at hh
      rcases hh with k | k
      · exact h.mown d b (hin b k)
      · exact h.hown b k
    rolt := h.rolt
    roext := h.roext
    frame := h.frame
    size := h.size
    os := h.os
    tape := h.tape
    output := h.output
    pins := fun i hi => by
      simp only [St.setMem]
      by_cases he : i = d
      · subst he; rw [upd_same, V.value_set p hu (u := .junk u.value) rfl]; exact h.pins i hi
      · rw [upd_ne _ _ he]; exact h.pins i hi
    defs := h.defs
    nt := h.nt }

/-- What is in hand becomes a root. -/
theorem Good.root {C : Ctx} {σ : St} {H : List V} {u : V} {ro : Nat → Prop} {a : Act} {w : World} (h : Good C σ (u :: H) ro a w) {d : Nat} (hd : C.np ≤ d) :
    Good C ((σ.kill (at_ d [])).setMem d u) H ro a w := by
  have hok := h.hok
  have hnd := h.hnd
  simp only [V.OkL] at hok
  simp only [V.blksL, List.nodup_append] at hnd
  have hdis := h.hdis
  have hown := h.hown
  simp only [V.blksL, List.mem_append] at hdis hown
  exact {
    slots := fun t => by
      rcases h.slots t with k | ⟨x, k1, k2⟩
      · left; simp [St.setMem, St.kill, k, S.kill]
      · refine .inr ⟨x, k1, S.Rel.kill (m := σ.mem) ?_ _ _ k2⟩
        intro e q c hf hc
        simp only [St.setMem]
        rcases at_false hf with k | k
        · rw [upd_ne _ _ k]; exact ⟨c, hc, .refl c⟩
        · exact absurd List.nil_prefix k
    inl := fun t => S.Inl.kill _ _ (h.inl t)
    mok := fun e => by
      simp only [St.setMem]
      by_cases he : e = d
      · subst he; rw [upd_same]; exact hok.1
      · rw [upd_ne _ _ he]; exact h.mok e
    hok := hok.2
    mnd := fun e => by
      simp only [St.setMem]
      by_cases he : e = d
      · subst he; rw [upd_same]; exact hnd.1
      · rw [upd_ne _ _ he]; exact h.mnd e
    hnd := hnd.2.1
    mdis := fun e e' b hne hb hb' => by
      simp only [St.setMem] at hb hb'
      by_cases he : e = d
      · subst he; rw [upd_same] at hb; rw [upd_ne _ _ (Ne.symm hne)] at hb'; exact hdis e' b hb' (.inl hb)
      · rw [upd_ne _ _ he] at hb
        by_cases he' : e' = d
        · subst he'; rw [upd_same] at hb'; exact hdis e b hb (.inl hb')
        · rw [upd_ne _ _ he'] at hb'; exact h.mdis e e' b hne hb hb'
    hdis := fun e b hb hh => by
      simp only [St.setMem] at hb
      by_cases he : e = d
      · subst he; rw [upd_same] at hb; exact hnd.2.2 b hb b hh rfl
      · rw [upd_ne _ _ he] at hb; exact hdis e b hb (.inr hh)
    mown := fun e b hb => by
      simp only [St.setMem] at hb
      by_cases he : e = d
      · subst he; rw [upd_same] at hb; exact hown b (.inl hb)
      · rw [upd_ne _ _ he] at hb; exact h.mown e b hb
    hown := fun b hh => hown b (.inr hh)
    rolt := h.rolt
    roext := h.roext
    frame := h.frame
    size := h.size
    os := h.os
    tape := h.tape
    output := h.output
    pins := fun i hi => by
      simp only [St.setMem]
      rw [upd_ne _ _ (by omega)]; exact h.pins i hi
    defs := h.defs
    nt := h.nt }

/-- A node in its place turns, with what is in hand, and its head stays. -/
theorem Good.modify {C : Ctx} {σ : St} {H H' : List V} {ro : Nat → Prop} {a : Act} {w w' : World} (h : Good C σ H ro a w) {d : Nat} {p : List Nat} {c c' : V} {f : Nat → List Nat → Bool}
    (hc : (σ.mem d).get p = some c) (hv : c'.value = c.value)
    (hf : ∀ e q u, f e q = false → (σ.mem e).get q = some u → ∃ u', ((σ.setMem d ((σ.mem d).set p c')).mem e).get q = some u' ∧ u.Alike u')
    (hb : ∀ b, b < w.heap.size → b ∉ c.blks → b ∉ V.blksL H → w'.heap[b]? = w.heap[b]?) (hsize : w.heap.size ≤ w'.heap.size) (hos : w'.os = w.os) (htape : w'.tape = w.tape) (hout : w'.output = w.output)
    (hok : V.OkL ro w' (c' :: H')) (hnd : (V.blksL (c' :: H')).Nodup) (hnew : ∀ b ∈ V.blksL (c' :: H'), b ∈ c.blks ∨ b ∈ V.blksL H ∨ (w.heap.size ≤ b ∧ b < w'.heap.size)) :
    Good C ((σ.kill f).setMem d ((σ.mem d).set p c')) H' ro a w' := by
  have hgo := V.blks_get p hc
  have hblk := V.blks_set p c' hc
  have hnm := nodup_mid (hgo ▸ h.mnd d)
  have hcin : ∀ b ∈ c.blks, b ∈ (σ.mem d).blks := fun b hb => by rw [hgo]; simp [hb]
  have hro : ∀ b, ro b → w'.heap[b]? = w.heap[b]? := fun b hr => hb b (h.rolt b hr) (fun k => (h.mown d b (hcin b k)).1 hr) fun k => (h.hown b k).1 hr
  simp only [V.OkL] at hok
  simp only [V.blksL, List.nodup_append, List.mem_append] at hnd hnew
  have hother : ∀ e, e ≠ d → ∀ b ∈ (σ.mem e).blks, w'.heap[b]? = w.heap[b]? := fun e he b hbb =>
    hb b (h.mown e b hbb).2.1 (fun k => h.mdis e d b he hbb (hcin b k)) (h.hdis e b hbb)
  have hpp : ∀ b ∈ (σ.mem d).pre p ++ (σ.mem d).post p, b ∈ (σ.mem d).blks ∧ b ∉ c.blks := fun b hbb => by
    rw [hgo]
    simp only [List.mem_append] at hbb ⊢
    refine ⟨by rcases hbb with k | k <;> simp [k], fun k => ?_⟩
    have := hnm.2.1 b k
    rcases hbb with k | k
    · exact this.1 k
    · exact this.2 k
  have hcl : ∀ b, (b ∈ c'.blks ∨ b ∈ V.blksL H') → ∀ e, b ∈ (σ.mem e).blks → e = d ∧ b ∈ c.blks := fun b hbb e he => by
    rcases hnew b hbb with k | k | k
    · refine ⟨?_, k⟩
      apply Classical.byContradiction
      intro hne
      exact h.mdis e d b hne he (hcin b k)
    · exact absurd k (h.hdis e b he)
    · have := (h.mown e b he).2.1; omega
  have hmem : ∀ b, b ∈ ((σ.mem d).set p c').blks ↔ b ∈ (σ.mem d).pre p ++ (σ.mem d).post p ∨ b ∈ c'.blks := fun b => by rw [hblk]; simp only [List.mem_append]; constructor <;> (intro k; rcases k with (k | k) | k <;> simp [k])
  have hown : ∀ b, (b ∈ c'.blks ∨ b ∈ V.blksL H') → C.Own ro w' b := fun b hbb => by
    rcases hnew b hbb with k | k | k
    · obtain ⟨h1, h2, h3⟩ := h.mown d b (hcin b k); exact ⟨h1, by omega, h3⟩
    · obtain ⟨h1, h2, h3⟩ := h.hown b k; exact ⟨h1, by omega, h3⟩
    · exact ⟨fun hr => by have := h.rolt b hr; omega, k.2, .inr (by have := h.size; omega)⟩
  exact {
    slots := fun t => by
      rcases h.slots t with k | ⟨x, k1, k2⟩
      · left; simp [St.setMem, St.kill, k, S.kill]
      · exact .inr ⟨x, k1, S.Rel.kill (m := σ.mem) hf _ _ k2⟩
    inl := fun t => S.Inl.kill _ _ (S.Inl.frame (fun _ k => k) hro _ (h.inl t))
    mok := fun e => by
      simp only [St.setMem]
      by_cases he : e = d
      · subst he; rw [upd_same]
        exact V.Ok.set (fun _ k => k) hro p hc hv (h.mok e) hok.1 fun b hbb => by
          obtain ⟨k1, k2⟩ := hpp b hbb
          exact hb b (h.mown e b k1).2.1 k2 (h.hdis e b k1)
      · rw [upd_ne _ _ he]; exact V.Ok.frame (fun _ k => k) hro _ (h.mok e) (hother e he)
    hok := hok.2
    mnd := fun e => by
      simp only [St.setMem]
      by_cases he : e = d
      · subst he; rw [upd_same, hblk]
        have hn := hnm.2.2
        simp only [List.append_assoc, List.nodup_append, List.mem_append] at hn ⊢
        refine ⟨hn.1, ⟨hnd.1, hn.2.1, fun x hx y hy e' => ?_⟩, fun x hx y hy e' => ?_⟩
        · subst e'
          obtain ⟨k1, k2⟩ := hpp x (by simp [hy])
          exact k2 (hcl x (.inl hx) _ k1).2
        · subst e'
          rcases hy with hy | hy
          · obtain ⟨k1, k2⟩ := hpp x (by simp [hx])
            exact k2 (hcl x (.inl hy) _ k1).2
          · exact hn.2.2 x hx x hy rfl
      · rw [upd_ne _ _ he]; exact h.mnd e
    hnd := hnd.2.1
    mdis := fun e e' b hne hbe hbe' => by
      simp only [St.setMem] at hbe hbe'
      by_cases he : e = d
      · subst he
        rw [upd_same, hmem] at hbe; rw [upd_ne _ _ (Ne.symm hne)] at hbe'
        rcases hbe with k | k
        · exact h.mdis e e' b hne (hpp b k).1 hbe'
        · exact hne (hcl b (.inl k) e' hbe').1.symm
      · rw [upd_ne _ _ he] at hbe
        by_cases he' : e' = d
        · subst he'; rw [upd_same, hmem] at hbe'
          rcases hbe' with k | k
          · exact h.mdis e e' b hne hbe (hpp b k).1
          · exact he (hcl b (.inl k) e hbe).1
        · rw [upd_ne _ _ he'] at hbe'; exact h.mdis e e' b hne hbe hbe'
    hdis := fun e b hbe hh => by
      simp only [St.setMem] at hbe
      by_cases he : e = d
      · subst he; rw [upd_same, hmem] at hbe
        rcases hbe with k | k
        · exact (hpp b k).2 (hcl b (.inr hh) e (hpp b k).1).2
        · exact hnd.2.2 b k b hh rfl
      · rw [upd_ne _ _ he] at hbe
        exact he (hcl b (.inr hh) e hbe).1
    mown := fun e b hbe => by
      simp only [St.setMem] at hbe
      by_cases he : e = d
      · subst he; rw [upd_same, hmem] at hbe
        rcases hbe with k | k
        · obtain ⟨h1, h2, h3⟩ := h.mown e b (hpp b k).1; exact ⟨h1, by omega, h3⟩
        · exact hown b (.inl k)
      · rw [upd_ne _ _ he] at hbe; obtain ⟨h1, h2, h3⟩ := h.mown e b hbe; exact ⟨h1, by omega, h3⟩
    hown := fun b hh => hown b (.inr hh)
    rolt := fun b hr => by have := h.rolt b hr; omega
    roext := h.roext
    frame := fun b hl hm => by
      rw [hb b (by have := h.size; omega) (fun k => ?_) (fun k => ?_), h.frame b hl hm]
      · rcases (h.mown d b (hcin b k)).2.2 with k | k
        · exact hm k
        · omega
      · rcases (h.hown b k).2.2 with k | k
        · exact hm k
        · omega
    size := by have := h.size; omega
    os := hos.trans h.os
    tape := htape.trans h.tape
    output := hout.trans h.output
    pins := fun i hi => by
      simp only [St.setMem]
      by_cases he : i = d
      · subst he; rw [upd_same, V.value_set p hc hv]; exact h.pins i hi
      · rw [upd_ne _ _ he]; exact h.pins i hi
    defs := h.defs
    nt := h.nt }

/-- What is in hand is made to be read alone, from now on. -/
theorem Good.freeze {C : Ctx} {σ : St} {H : List V} {u : V} {ro : Nat → Prop} {a : Act} {w : World} (h : Good C σ (u :: H) ro a w) :
    Good C σ (u.ro :: H) (fun b => ro b ∨ b ∈ u.blks) a w := by
  have hok := h.hok
  have hnd := h.hnd
  simp only [V.OkL] at hok
  simp only [V.blksL, List.nodup_append] at hnd
  have hdis := h.hdis
  have hown := h.hown
  simp only [V.blksL, List.mem_append] at hdis hown
  exact {
    slots := h.slots
    inl := fun t => S.Inl.frame (fun _ k => .inl k) (fun _ _ => rfl) _ (h.inl t)
    mok := fun e => V.Ok.frame (fun _ k => .inl k) (fun _ _ => rfl) _ (h.mok e) fun _ _ => rfl
    hok := ⟨V.Ok.ro (fun _ k => .inl k) u hok.1 fun b hb => .inr hb, V.OkL.frame (fun _ k => .inl k) (fun _ _ => rfl) _ hok.2 fun _ _ => rfl⟩
    mnd := h.mnd
    hnd := by simpa [V.blksL, V.ro_blks] using hnd.2.1
    mdis := h.mdis
    hdis := fun e b hb hh => by
      simp only [V.blksL, V.ro_blks, List.nil_append] at hh
      exact hdis e b hb (.inr hh)
    mown := fun e b hb => by
      obtain ⟨h1, h2, h3⟩ := h.mown e b hb
      exact ⟨fun k => k.elim h1 fun k => hdis e b hb (.inl k), h2, h3⟩
    hown := fun b hh => by
      simp only [V.blksL, V.ro_blks, List.nil_append] at hh
      obtain ⟨h1, h2, h3⟩ := hown b (.inr hh)
      exact ⟨fun k => k.elim h1 fun k => hnd.2.2 b k b hh rfl, h2, h3⟩
    rolt := fun b hb => hb.elim (h.rolt b) fun k => (hown b (.inl k)).2.1
    roext := fun b hb => .inl (h.roext b hb)
    frame := h.frame
    size := h.size
    os := h.os
    tape := h.tape
    output := h.output
    pins := h.pins
    defs := h.defs
    nt := h.nt }
/-- What is in hand is let go. -/
theorem Good.drop {C : Ctx} {σ : St} {H : List V} {u : V} {ro : Nat → Prop} {a : Act} {w : World} (h : Good C σ (u :: H) ro a w) : Good C σ H ro a w :=
  h.hand (fun _ _ _ => rfl) (Nat.le_refl _) rfl rfl rfl (by have := h.hok; simp only [V.OkL] at this; exact this.2)
    (by have := h.hnd; simp only [V.blksL, List.nodup_append] at this; exact this.2.1) (fun b hb => .inl (by simp [V.blksL, hb]))

end Go.E
namespace Go.E

/-! ### Types -/
inductive TK where
  | int (k : IntKind) | bool | string | ptr | func | slice (e : Nat) | strct (fl : List (Nat × Nat))
structure TI where
  kind : TK
  sz : Nat
  by_ : Nat
  zero : List Value
def TI.agg (t : TI) : Bool := match t.kind with | .strct _ => true | _ => false
def TK.Fits (P : Program) (t : Nat) : TK → Prop
  | .int k => P.underlying t = some (.int k)
  | .bool => P.underlying t = some .bool
  | .string => P.underlying t = some .string
  | .ptr => ∃ e, P.underlying t = some (.pointer e)
  | .func => ∃ a b c, P.underlying t = some (.func a b c)
  | .slice e => P.underlying t = some (.slice e)
  | .strct fl => ∃ fs, P.underlying t = some (.struct fs) ∧ fs.toList.map (fun f => (f.offset, f.type)) = fl ∧ ∀ f ∈ fs.toList, ∃ j, P.info? f.type = some j
structure TI.Fits (P : Program) (t : Nat) (i : TI) : Prop where
  info : ∃ j z, P.info? t = some j ∧ j.size = i.sz ∧ j.bytes = i.by_ ∧ j.zero = some z ∧ z.cells = i.zero.toArray
  len : i.zero.length = i.sz
  kind : i.kind.Fits P t
structure Env where
  P : Program
  tt : Nat → Option TI
def Env.Ok (E : Env) : Prop := ∀ t i, E.tt t = some i → i.Fits E.P t

/-! ### Operands -/
def St.ev (σ : St) : Operand → S
  | .tmp t => σ.slots t
  | .const v => .v (.val v)
  | .func f => .fn f []
  | .global _ => .junk
theorem St.ev_erase (σ : St) (x : Operand) : σ.erase.ev x = (σ.ev x).erase := by
  cases x <;> simp [St.ev, St.erase, S.erase, V.erase, S.eraseL]
theorem Good.ev {C : Ctx} {σ : St} {H : List V} {ro : Nat → Prop} {a : Act} {w : World} (h : Good C σ H ro a w) (x : Operand) (hx : σ.ev x ≠ .junk) : (σ.ev x).Rel σ.mem (a.eval x) := by
  cases x with
  | tmp t =>
    rcases h.slots t with k | ⟨y, k1, k2⟩
    · exact absurd k hx
    · simp only [St.ev, Act.eval, Array.getD_eq_getD_getElem?, k1, Option.getD_some]; exact k2
  | const v => rfl
  | func f => exact ⟨[], rfl, rfl⟩
  | global g => exact absurd rfl hx
theorem Good.evInl {C : Ctx} {σ : St} {H : List V} {ro : Nat → Prop} {a : Act} {w : World} (h : Good C σ H ro a w) (x : Operand) : (σ.ev x).Inl ro w := by
  cases x with
  | tmp t => exact h.inl t
  | const v => exact ⟨trivial, rfl⟩
  | func f => trivial
  | global g => trivial

def S.int? : S → Option (IntKind × Int)
  | .v (.val (.int k n)) => some (k, n)
  | _ => none
def S.bool? : S → Option Bool
  | .v (.val (.bool b)) => some b
  | _ => none
def S.str? : S → Option ByteArray
  | .v (.val (.string s)) => some s
  | _ => none
theorem S.int?_some {s : S} {k : IntKind} {n : Int} (h : s.int? = some (k, n)) : s = .v (.val (.int k n)) := by
  unfold S.int? at h; split at h <;> simp_all
theorem S.bool?_some {s : S} {b : Bool} (h : s.bool? = some b) : s = .v (.val (.bool b)) := by
  unfold S.bool? at h; split at h <;> simp_all
theorem S.str?_some {s : S} {b : ByteArray} (h : s.str? = some b) : s = .v (.val (.string b)) := by
  unfold S.str? at h; split at h <;> simp_all
theorem S.erase_val {s : S} {x : Value} (h : s.erase = .v (.val x)) : s = .v (.val x) := by
  cases s <;> simp [S.erase] at h
  rename_i u
  cases u <;> simp [V.erase] at h
  rw [h]
theorem S.int?_erase (s : S) : s.erase.int? = s.int? := by
  cases h : s.int? with
  | some x => obtain ⟨k, n⟩ := x; rw [S.int?_some h]; rfl
  | none =>
    cases h2 : s.erase.int? with
    | none => rfl
    | some x => obtain ⟨k, n⟩ := x; rw [S.erase_val (S.int?_some h2)] at h; simp [S.int?] at h
theorem S.bool?_erase (s : S) : s.erase.bool? = s.bool? := by
  cases h : s.bool? with
  | some x => rw [S.bool?_some h]; rfl
  | none =>
    cases h2 : s.erase.bool? with
    | none => rfl
    | some x => rw [S.erase_val (S.bool?_some h2)] at h; simp [S.bool?] at h
theorem S.str?_erase (s : S) : s.erase.str? = s.str? := by
  cases h : s.str? with
  | some x => rw [S.str?_some h]; rfl
  | none =>
    cases h2 : s.erase.str? with
    | none => rfl
    | some x => rw [S.erase_val (S.str?_some h2)] at h; simp [S.str?] at h

/-! ### What a slice holds -/
inductive A where
  | own (d : Nat) (p : List Nat) (k : Nat)
  | ro (g : Gh) (cs : List V) (k : Nat)
def A.erase : A → A
  | .own d p k => .own d p k
  | .ro _ cs k => .ro .z (V.eraseL cs) k
/-- A slice: where its cells lie, cells an element, elements. -/
def St.slc (σ : St) : S → Option (A × Nat × Nat)
  | .ref d p => match (σ.mem d).get p with
    | some (.sl _ true sz n _) => some (.own d p 0, sz, n)
    | _ => none
  | .v (.sl g false sz n cs) => some (.ro g cs 0, sz, n)
  | .v (.val (.slice none 0 0)) => some (.ro .z [] 0, 0, 0)
  | _ => none
/-- An address. -/
def St.adr (σ : St) : S → Option A
  | .adr d p k => some (.own d p k)
  | .ref d p => match (σ.mem d).get p with
    | some (.ptr _ true _) => some (.own d p 0)
    | _ => none
  | .radr g cs k => some (.ro g cs k)
  | .v (.ptr g false cs) => some (.ro g cs 0)
  | _ => none
theorem St.get_erase (σ : St) (d : Nat) (p : List Nat) : (σ.erase.mem d).get p = ((σ.mem d).get p).map V.erase := V.get_erase p _
theorem St.slc_erase (σ : St) (s : S) : σ.erase.slc s.erase = (σ.slc s).map fun x => (x.1.erase, x.2) := by
  cases s with
  | ref d p =>
    simp only [S.erase, St.slc, St.get_erase]
    cases (σ.mem d).get p with
    | none => rfl
    | some u =>
      cases u with
      | sl g o s n cs => cases o <;> rfl
      | _ => rfl
  | v u =>
    cases u with
    | sl g o s n cs => cases o <;> rfl
    | val x =>
      simp only [S.erase, V.erase]
      unfold St.slc
      split <;> simp_all <;> rfl
    | _ => rfl
  | _ => rfl
theorem St.adr_erase (σ : St) (s : S) : σ.erase.adr s.erase = (σ.adr s).map A.erase := by
  cases s with
  | ref d p =>
    simp only [S.erase, St.adr, St.get_erase]
    cases (σ.mem d).get p with
    | none => rfl
    | some u =>
      cases u with
      | ptr g o cs => cases o <;> rfl
      | _ => rfl
  | v u =>
    cases u with
    | ptr g o cs => cases o <;> rfl
    | _ => rfl
  | _ => rfl

/-- A cell, as a slot holds it. -/
def view1 (d : Nat) (p : List Nat) : V → S
  | .val x => .v (.val x)
  | .sl g o s n cs => if o then .ref d p else .v (.sl g o s n cs)
  | .ptr g o cs => if o then .ref d p else .v (.ptr g o cs)
  | _ => .junk
def viewL (d : Nat) (p : List Nat) : Nat → List V → List S
  | _, [] => []
  | i, c :: cs => view1 d (p ++ [i]) c :: viewL d p (i + 1) cs
theorem view1_erase (d : Nat) (p : List Nat) (u : V) : (view1 d p u).erase = view1 d p u.erase := by
  cases u with
  | sl g o s n cs => cases o <;> rfl
  | ptr g o cs => cases o <;> rfl
  | _ => rfl
theorem viewL_erase (d : Nat) (p : List Nat) (cs : List V) : ∀ i, S.eraseL (viewL d p i cs) = viewL d p i (V.eraseL cs) := by
  induction cs with
  | nil => intro i; rfl
  | cons c cs ih => intro i; simp only [viewL, S.eraseL, V.eraseL, view1_erase, ih]
/-- A load of one cell, or of some. -/
def St.load (σ : St) (agg : Bool) (n : Nat) : A → Option S
  | .own d p k => match (σ.mem d).get p with
    | some c => if c.owned then (if agg then (if k + n ≤ c.cells.length then some (.agg (viewL d p k ((c.cells.drop k).take n))) else none) else (c.cells[k]?).map (view1 d (p ++ [k]))) else none
    | none => none
  | .ro _ cs k => if agg then (if k + n ≤ cs.length then some (.agg (((cs.drop k).take n).map S.v)) else none) else (cs[k]?).map S.v
theorem St.load_erase (σ : St) (agg : Bool) (n : Nat) (x : A) : σ.erase.load agg n x.erase = (σ.load agg n x).map S.erase := by
  cases x with
  | own d p k =>
    simp only [A.erase, St.load, St.get_erase]
    cases (σ.mem d).get p with
    | none => rfl
    | some c =>
      simp only [Option.map_some, V.owned_erase, V.cells_erase, List.length_map]
      cases c.owned with
      | false => rfl
      | true =>
        cases agg with
        | true =>
          simp only [if_true]
          split
          · simp [S.erase, viewL_erase, V.eraseL_map, List.map_take, List.map_drop]
          · rfl
        | false =>
          simp only [if_true, Bool.false_eq_true, if_false, List.getElem?_map]
          cases c.cells[k]? with
          | none => rfl
          | some u => simp [view1_erase]
  | ro g cs k =>
    simp only [A.erase, St.load]
    cases agg with
    | true =>
      simp only [if_true, V.eraseL_map, List.length_map]
      split
      · simp [S.erase, S.eraseL_map, List.map_take, List.map_drop, Function.comp_def]
      · rfl
    | false =>
      simp only [Bool.false_eq_true, if_false, V.eraseL_map, List.getElem?_map]
      cases cs[k]? with
      | none => rfl
      | some u => rfl

/-! ### What an address is in the machine -/
def A.At (m : Nat → V) (ro : Nat → Prop) (w : World) (x : A) (a : Addr) : Prop :=
  match x with
  | .own d p k => ∃ c a0, (m d).get p = some c ∧ c.owned = true ∧ c.addr = some a0 ∧ a0.spot = none ∧ a = a0.add k
  | .ro g cs k => ∃ a0, g.addr = some a0 ∧ a0.spot = none ∧ a = a0.add k ∧ (V.ptr g false cs).Ok ro w
theorem addr_add {a : Addr} (h : a.spot = none) (k : Nat) : a.add k = ⟨a.block, a.off + k, none⟩ := by
  unfold Addr.add
  split
  · rename_i e; subst e; cases a; simp_all
  · cases a; simp_all
theorem addr_add_add {a : Addr} (h : a.spot = none) (j k : Nat) : (a.add j).add k = a.add (j + k) := by
  rw [addr_add h, addr_add rfl, addr_add h, Nat.add_assoc]
theorem V.Ok.spot {ro : Nat → Prop} {w : World} {c : V} {a : Addr} (h : c.Ok ro w) (ho : c.owned = true) (ha : c.addr = some a) : a.spot = none := by
  cases c <;> simp [V.owned] at ho
  · subst ho; simp only [V.addr] at ha; simp only [V.Ok, if_true] at h; have := h.2.2.2.1; unfold OwnAt at this; rw [ha] at this; exact this.1
  · subst ho; simp only [V.addr] at ha; simp only [V.Ok, if_true] at h; have := h.1.2; unfold OwnAt at this; rw [ha] at this; exact this.1
theorem St.adr_at {C : Ctx} {σ : St} {H : List V} {ro : Nat → Prop} {a : Act} {w : World} (h : Good C σ H ro a w) {s : S} {x : A} {v : Value} (he : σ.adr s = some x) (hr : s.Rel σ.mem v) (hi : s.Inl ro w) :
    ∃ ad, v = .pointer (some ad) ∧ x.At σ.mem ro w ad := by
  unfold St.adr at he
  split at he
  · simp at he; subst he
    obtain ⟨u, a0, h1, h2, h3, h4⟩ := hr
    exact ⟨_, h4, u, a0, h1, h2, h3, ((h.mok _).get _ h1).spot h2 h3, rfl⟩
  · split at he
    · rename_i g cs hg
      simp at he; subst he
      obtain ⟨u, h1, h2, h3⟩ := hr
      rw [hg] at h1; simp at h1; subst h1
      have hok := (h.mok _).get _ hg
      have hok' := hok
      simp only [V.Ok, if_true] at hok
      cases hga : g.addr with
      | none => exact absurd hga hok.1.1
      | some a0 =>
        have hsp := hok'.spot rfl (show V.addr _ = some a0 from hga)
        exact ⟨a0, by rw [h3]; simp [V.value, hga], _, a0, hg, rfl, hga, hsp, by rw [addr_add hsp]; cases a0; simp_all⟩
    · simp at he
  · simp at he; subst he
    obtain ⟨a0, h1, h2⟩ := hr
    have hi' := hi
    simp only [S.Inl, V.Ok, Bool.false_eq_true, if_false] at hi
    obtain ⟨⟨⟨a1, h3, h4⟩, _⟩, _⟩ := hi
    rw [h1] at h3; simp at h3; subst h3
    exact ⟨_, h2, a0, h1, h4, rfl, hi'⟩
  · simp at he; subst he
    have hi' := hi.1
    simp only [S.Inl, V.Ok, Bool.false_eq_true, if_false] at hi
    obtain ⟨⟨⟨⟨a1, h3, h4⟩, _⟩, _⟩, _⟩ := hi
    simp only [S.Rel] at hr
    exact ⟨a1, by rw [hr]; simp [V.value, h3], a1, h3, h4, by rw [addr_add h4]; cases a1; simp_all, hi'⟩
  · simp at he

/-- The cells behind an address. -/
theorem cells_own {ro : Nat → Prop} {w : World} {c : V} {a : Addr} (h : c.Ok ro w) (ho : c.owned = true) (ha : c.addr = some a) : ∀ k u, c.cells[k]? = some u → w.cell? (a.add k) = some u.value := by
  intro k u hk
  have hsp := h.spot ho ha
  rw [addr_add hsp]
  have key : ∀ (g : Gh) (room : Nat) (cs : List V), g.addr = some a → OwnAt w g room (cs.map V.value) → cs[k]? = some u → w.cell? ⟨a.block, a.off + k, none⟩ = some u.value := by
    intro g room cs hg hown hk
    unfold OwnAt at hown; rw [hg] at hown
    obtain ⟨_, c, T, hc, _, _, h3⟩ := hown
    have hlt : k < (cs.map V.value).length := by simpa using (List.getElem?_eq_some_iff.1 hk).1
    simp [World.cell?, hc, h3 k hlt, hk]
  cases c <;> simp [V.owned] at ho
  · subst ho; simp only [V.Ok, if_true] at h; exact key _ _ _ ha h.2.2.2.1 hk
  · subst ho; simp only [V.Ok, if_true] at h; exact key _ _ _ ha h.1.2 hk
theorem cells_ro {ro : Nat → Prop} {w : World} {g : Gh} {cs : List V} {a : Addr} (h : (V.ptr g false cs).Ok ro w) (ha : g.addr = some a) : ∀ k u, cs[k]? = some u → w.cell? (a.add k) = some u.value := by
  intro k u hk
  simp only [V.Ok, Bool.false_eq_true, if_false] at h
  obtain ⟨⟨⟨a1, h1, h2⟩, h3, _⟩, _⟩ := h
  rw [ha] at h1; simp at h1; subst h1
  rcases h3 with h3 | ⟨a2, h4, _, h6⟩
  · simp at h3; subst h3; simp at hk
  · rw [ha] at h4; simp at h4; subst h4
    rw [addr_add h2, h6.2 k (by simpa using (List.getElem?_eq_some_iff.1 hk).1)]
    simp [hk]
theorem view1_rel {m : Nat → V} {d : Nat} {p : List Nat} {u : V} (h : (m d).get p = some u) : view1 d p u = .junk ∨ (view1 d p u).Rel m u.value := by
  cases u with
  | val x => exact .inr rfl
  | sl g o s n cs => cases o with
    | true => exact .inr ⟨_, h, rfl, rfl⟩
    | false => exact .inr rfl
  | ptr g o cs => cases o with
    | true => exact .inr ⟨_, h, rfl, rfl⟩
    | false => exact .inr rfl
  | _ => exact .inl rfl
theorem view1_rel' {m : Nat → V} {d : Nat} {p : List Nat} {u : V} (h : (m d).get p = some u) : (view1 d p u).Rel m u.value := by
  rcases view1_rel h with k | k
  · rw [k]; trivial
  · exact k
theorem view1_inl {ro : Nat → Prop} {w : World} {d : Nat} {p : List Nat} {u : V} (h : u.Ok ro w) : (view1 d p u).Inl ro w := by
  cases u with
  | val x => exact ⟨trivial, rfl⟩
  | sl g o s n cs => cases o with
    | true => trivial
    | false => refine ⟨h, ?_⟩; simp only [V.Ok, Bool.false_eq_true, if_false] at h; simp [V.blks, Gh.blk, h.2.2.2.1.2]
  | ptr g o cs => cases o with
    | true => trivial
    | false => refine ⟨h, ?_⟩; simp only [V.Ok, Bool.false_eq_true, if_false] at h; simp [V.blks, Gh.blk, h.1.2.2]
  | _ => trivial
theorem viewL_rel {m : Nat → V} {d : Nat} {p : List Nat} (cs : List V) : ∀ i, (∀ k u, cs[k]? = some u → (m d).get (p ++ [i + k]) = some u) → S.RelL m (viewL d p i cs) (cs.map V.value) := by
  induction cs with
  | nil => intro i _; rfl
  | cons c cs ih =>
    intro i h
    exact ⟨_, _, rfl, view1_rel' (by simpa using h 0 c rfl), ih (i + 1) fun k u hk => by
      have := h (k + 1) u (by simpa using hk)
      rwa [show i + (k + 1) = i + 1 + k by omega] at this⟩
theorem viewL_inl {ro : Nat → Prop} {w : World} {d : Nat} {p : List Nat} (cs : List V) : ∀ i, V.OkL ro w cs → S.InlL ro w (viewL d p i cs) := by
  induction cs with
  | nil => intro i _; trivial
  | cons c cs ih => intro i h; exact ⟨view1_inl h.1, ih _ h.2⟩

end Go.E
namespace Go.E

theorem getElem?_viewL {α : Type} (cs : List α) (k n i : Nat) : ((cs.drop k).take n)[i]? = if i < n then cs[k + i]? else none := by
  rw [List.getElem?_take]
  split
  · rw [List.getElem?_drop]
  · rfl
/-- A load gives what the machine reads. -/
theorem St.load_ok {C : Ctx} {σ : St} {H : List V} {ro : Nat → Prop} {a : Act} {w : World} (h : Good C σ H ro a w) {x : A} {ad : Addr} (hx : x.At σ.mem ro w ad) {agg : Bool} {n : Nat} {s : S} (hl : σ.load agg n x = some s) :
    ∃ vs : List Value, (∀ i v, vs[i]? = some v → w.cell? (ad.add i) = some v) ∧ (if agg then vs.length = n ∧ s.Rel σ.mem (.agg vs.toArray) else ∃ v, vs = [v] ∧ s.Rel σ.mem v) ∧ s.Inl ro w := by
  cases x with
  | own d p k =>
    obtain ⟨c, a0, h1, h2, h3, h4, rfl⟩ := hx
    have hok := (h.mok d).get p h1
    simp only [St.load, h1, h2, if_true] at hl
    cases agg with
    | true =>
      simp only [if_true] at hl
      split at hl
      · rename_i hle
        simp at hl; subst hl
        refine ⟨((c.cells.drop k).take n).map V.value, fun i v hi => ?_, ?_, viewL_inl _ _ ?_⟩
        · rw [List.getElem?_map, getElem?_viewL] at hi
          split at hi
          · rw [addr_add_add h4]
            cases hu : c.cells[k + i]? with
            | none => simp [hu] at hi
            | some u => simp [hu] at hi; subst hi; exact cells_own hok h2 h3 _ u hu
          · simp at hi
        · refine ⟨by simp; omega, _, rfl, viewL_rel _ _ fun i u hi => ?_⟩
          rw [getElem?_viewL] at hi
          split at hi
          · rw [V.get_append, h1]; simp [V.get, hi]
          · simp at hi
        · have := hok.cells
          rw [V.OkL_iff] at this ⊢
          exact fun u hu => this u (List.mem_of_mem_drop (List.mem_of_mem_take hu))
      · simp at hl
    | false =>
      simp only [Bool.false_eq_true, if_false] at hl
      cases hu : c.cells[k]? with
      | none => simp [hu] at hl
      | some u =>
        simp [hu] at hl; subst hl
        refine ⟨[u.value], fun i v hi => ?_, ⟨_, rfl, view1_rel' ?_⟩, view1_inl ?_⟩
        · cases i with
          | zero => simp at hi; subst hi; rw [addr_add_add h4]; exact cells_own hok h2 h3 _ u hu
          | succ i => simp at hi
        · rw [V.get_append, h1]; simp [V.get, hu]
        · exact (V.OkL_iff _).1 hok.cells u (List.mem_of_getElem? hu)
  | ro g cs k =>
    obtain ⟨a0, h1, h2, rfl, h4⟩ := hx
    have hz : V.blksL cs = [] := by simp only [V.Ok, Bool.false_eq_true, if_false] at h4; exact h4.1.2.2
    have hokl : V.OkL ro w cs := by simp only [V.Ok] at h4; exact h4.2
    have hblk : ∀ u ∈ cs, u.blks = [] := fun u hu => by
      rw [V.blksL_flatMap] at hz
      simp only [List.flatMap_eq_nil_iff] at hz
      exact hz u hu
    simp only [St.load] at hl
    cases agg with
    | true =>
      simp only [if_true] at hl
      split at hl
      · rename_i hle
        simp only [Option.some.injEq] at hl; subst hl
        refine ⟨((cs.drop k).take n).map V.value, fun i v hi => ?_, ?_, ?_⟩
        · rw [List.getElem?_map, getElem?_viewL] at hi
          split at hi
          · rw [addr_add_add h2]
            cases hu : cs[k + i]? with
            | none => simp [hu] at hi
            | some u => simp [hu] at hi; subst hi; exact cells_ro h4 h1 _ u hu
          · simp at hi
        · refine ⟨by simp; omega, _, rfl, ?_⟩
          generalize (cs.drop k).take n = l
          clear hle hokl hz hblk h4
          induction l with
          | nil => rfl
          | cons u l ih => exact ⟨_, _, rfl, rfl, ih⟩
        · have hsub : ∀ u ∈ (cs.drop k).take n, u ∈ cs := fun u hu => List.mem_of_mem_drop (List.mem_of_mem_take hu)
          generalize (cs.drop k).take n = l at hsub ⊢
          simp only [S.Inl]
          induction l with
          | nil => trivial
          | cons u l ih => exact ⟨⟨(V.OkL_iff _).1 hokl u (hsub u (by simp)), hblk u (hsub u (by simp))⟩, ih fun v hv => hsub v (by simp [hv])⟩
      · simp at hl
    | false =>
      simp only [Bool.false_eq_true, if_false] at hl
      cases hu : cs[k]? with
      | none => simp [hu] at hl
      | some u =>
        simp [hu] at hl; subst hl
        have hm := List.mem_of_getElem? hu
        refine ⟨[u.value], fun i v hi => ?_, ⟨_, rfl, rfl⟩, (V.OkL_iff _).1 hokl u hm, hblk u hm⟩
        cases i with
        | zero => simp at hi; subst hi; rw [addr_add_add h2]; exact cells_ro h4 h1 _ u hu
        | succ i => simp at hi

/-! ### Operations that fill their slot alone -/
def A.plus (x : A) (j : Nat) : A := match x with
  | .own d p k => .own d p (k + j)
  | .ro g cs k => .ro g cs (k + j)
def A.toS : A → S
  | .own d p k => .adr d p k
  | .ro g cs k => .radr g cs k
theorem A.plus_erase (x : A) (j : Nat) : (x.plus j).erase = x.erase.plus j := by cases x <;> rfl
theorem A.toS_erase (x : A) : x.toS.erase = x.erase.toS := by cases x <;> rfl
theorem A.plus_at {m : Nat → V} {ro : Nat → Prop} {w : World} {x : A} {a : Addr} (h : x.At m ro w a) (j : Nat) : (x.plus j).At m ro w (a.add j) := by
  cases x with
  | own d p k => obtain ⟨c, a0, h1, h2, h3, h4, rfl⟩ := h; exact ⟨c, a0, h1, h2, h3, h4, addr_add_add h4 _ _⟩
  | ro g cs k => obtain ⟨a0, h1, h2, rfl, h4⟩ := h; exact ⟨a0, h1, h2, addr_add_add h2 _ _, h4⟩
theorem A.toS_rel {m : Nat → V} {ro : Nat → Prop} {w : World} {x : A} {a : Addr} (h : x.At m ro w a) : x.toS.Rel m (.pointer (some a)) ∧ x.toS.Inl ro w := by
  cases x with
  | own d p k => obtain ⟨c, a0, h1, h2, h3, h4, rfl⟩ := h; exact ⟨⟨c, a0, h1, h2, h3, rfl⟩, trivial⟩
  | ro g cs k => obtain ⟨a0, h1, h2, rfl, h4⟩ := h; exact ⟨⟨a0, h1, rfl⟩, h4⟩

def ints (op : BinOp) (k : IntKind) (x y : Int) : Option Value := match op with
  | .add => some (.int k (k.wrap (x + y)))
  | .sub => some (.int k (k.wrap (x - y)))
  | .mul => some (.int k (k.wrap (x * y)))
  | .quo => if y = 0 then none else some (.int k (k.wrap (x.tdiv y)))
  | .rem => if y = 0 then none else some (.int k (x.tmod y))
  | .and => some (.int k (k.wrap ((BitVec.ofInt k.bits x &&& BitVec.ofInt k.bits y).toNat : Int)))
  | .or => some (.int k (k.wrap ((BitVec.ofInt k.bits x ||| BitVec.ofInt k.bits y).toNat : Int)))
  | .xor => some (.int k (k.wrap ((BitVec.ofInt k.bits x ^^^ BitVec.ofInt k.bits y).toNat : Int)))
  | .andNot => some (.int k (k.wrap ((BitVec.ofInt k.bits x &&& ~~~BitVec.ofInt k.bits y).toNat : Int)))
  | .eql => some (.bool (x == y))
  | .neq => some (.bool (x != y))
  | .lss => some (.bool (decide (x < y)))
  | .leq => some (.bool (decide (x ≤ y)))
  | .gtr => some (.bool (decide (x > y)))
  | .geq => some (.bool (decide (x ≥ y)))
  | _ => none
def shifts (op : BinOp) (k : IntKind) (x y : Int) : Option Value := match op with
  | .shl => if y < 0 then none else some (.int k (k.wrap (x * 2 ^ (min y.toNat k.bits))))
  | .shr => if y < 0 then none else some (.int k (x.fdiv (2 ^ (min y.toNat k.bits))))
  | _ => none
def strs (op : BinOp) (x y : ByteArray) : Option Value := match op with
  | .add => if ((x.size + y.size : Nat) : Int) > 9223372036854775807 then none else some (.string (x ++ y))
  | .eql => some (.bool (x.toList == y.toList))
  | .neq => some (.bool !(x.toList == y.toList))
  | .lss => some (.bool (Op.bytesLess x.toList y.toList))
  | _ => none
def S.nil? : S → Bool
  | .v (.val (.pointer none)) => true
  | _ => false
theorem S.nil?_true {s : S} (h : s.nil? = true) : s = .v (.val (.pointer none)) := by
  unfold S.nil? at h; split at h <;> simp_all
theorem S.nil?_erase (s : S) : s.erase.nil? = s.nil? := by
  cases h : s.nil? with
  | true => rw [S.nil?_true h]; rfl
  | false =>
    cases h2 : s.erase.nil? with
    | false => rfl
    | true => rw [S.erase_val (S.nil?_true h2)] at h; simp [S.nil?] at h
/-- A pointer, held against nil. -/
def St.isNil (σ : St) (s : S) : Option Bool := if s.nil? then some true else (σ.adr s).map fun _ => false
theorem St.isNil_erase (σ : St) (s : S) : σ.erase.isNil s.erase = σ.isNil s := by
  unfold St.isNil
  rw [S.nil?_erase, St.adr_erase, Option.map_map]; rfl

def St.bin (E : Env) (σ : St) (op : BinOp) (t : Nat) (x y : S) : Option S :=
  match x.int?, y.int? with
  | some (k, a), some (k', b) => match shifts op k a b with
    | some v => some (.v (.val v))
    | none => if k = k' then (ints op k a b).map fun v => .v (.val v) else none
  | _, _ => match x.str?, y.str? with
    | some a, some b => (strs op a b).map fun v => .v (.val v)
    | _, _ => match E.tt t with
      | some ti => match ti.kind, op, x.bool?, y.bool? with
        | .bool, .eql, some a, some b => some (.v (.val (.bool (a == b))))
        | .bool, .neq, some a, some b => some (.v (.val (.bool (!(a == b)))))
        | .ptr, .eql, none, none => match σ.isNil y with
          | some true => (σ.isNil x).map fun b => .v (.val (.bool b))
          | _ => none
        | .ptr, .neq, none, none => match σ.isNil y with
          | some true => (σ.isNil x).map fun b => .v (.val (.bool (!b)))
          | _ => none
        | _, _, _, _ => none
      | none => none
theorem St.bin_erase (E : Env) (σ : St) (op : BinOp) (t : Nat) (x y : S) : σ.erase.bin E op t x.erase y.erase = (σ.bin E op t x y).map S.erase := by
  unfold St.bin
  simp only [S.int?_erase, S.str?_erase, S.bool?_erase, St.isNil_erase]
  repeat' (first | rfl | split)
  all_goals simp_all [S.erase, V.erase, Function.comp_def]

end Go.E
namespace Go.E

theorem Good.evr {C : Ctx} {σ : St} {H : List V} {ro : Nat → Prop} {a : Act} {w : World} (h : Good C σ H ro a w) (x : Operand) : (σ.ev x).Rel σ.mem (a.eval x) := by
  by_cases hx : σ.ev x = .junk
  · rw [hx]; trivial
  · exact h.ev x hx

theorem ints_ok {P : Program} {w : World} {op : BinOp} {t : Nat} {k : IntKind} {x y : Int} {v : Value} (h : ints op k x y = some v) (hs : op ≠ .shl ∧ op ≠ .shr) : (binOp op t (.int k x) (.int k y)).run P w = .ok v w := by
  obtain ⟨h1, h2⟩ := hs
  cases op <;> simp_all [ints, binOp, Op.intArith, Op.intDiv, Op.intBits, Op.intCmp]
theorem shifts_ok {P : Program} {w : World} {op : BinOp} {t : Nat} {k k' : IntKind} {x y : Int} {v : Value} (h : shifts op k x y = some v) : (binOp op t (.int k x) (.int k' y)).run P w = .ok v w := by
  cases op <;> simp_all [shifts, binOp, Op.shift] <;> (intro h'; omega)
theorem strs_ok {P : Program} {w : World} {op : BinOp} {t : Nat} {x y : ByteArray} {v : Value} (h : strs op x y = some v) : (binOp op t (.string x) (.string y)).run P w = .ok v w := by
  have hm : IntKind.i64.max = 9223372036854775807 := by decide
  cases op <;> simp_all [strs, binOp, Op.stringOp]
theorem run_typeInfo_some {P : Program} {t : TypeId} {info : TypeInfo} (h : P.info? t = some info) (w : World) : (typeInfo t).run P w = .ok info w := by
  simp [typeInfo, program, Sem.run, h]
theorem eqGuard_ok {P : Program} {w : World} {op : BinOp} {t : Nat} {ox oy : Operand} {x y : Value} (h1 : x ≠ .nilIface) (h2 : ∀ cs, x ≠ .agg cs) : (eqGuard op t ox oy x y).run P w = .ok () w := by
  have key : ∀ (r : Sem Unit), r.run P w = .ok () w → ((if !(op matches .eql | .neq) then (pure ()) else r) : Sem Unit).run P w = .ok () w := by
    intro r hr
    split <;> simp_all
  unfold eqGuard
  refine key _ ?_
  split
  · exact absurd rfl h1
  · exact absurd rfl (h2 _)
  · rfl
theorem St.isNil_ok {C : Ctx} {σ : St} {H : List V} {ro : Nat → Prop} {a : Act} {w : World} (h : Good C σ H ro a w) {s : S} {v : Value} {b : Bool} (hn : σ.isNil s = some b) (hr : s.Rel σ.mem v) (hi : s.Inl ro w) :
    (b = true ∧ v = .pointer none) ∨ (b = false ∧ ∃ ad, v = .pointer (some ad)) := by
  unfold St.isNil at hn
  split at hn
  · rename_i hnil
    rw [S.nil?_true hnil] at hr
    simp only [Option.some.injEq] at hn
    exact .inl ⟨hn.symm, hr⟩
  · cases hx : σ.adr s with
    | none => simp [hx] at hn
    | some x =>
      obtain ⟨ad, h1, _⟩ := St.adr_at h hx hr hi
      simp [hx] at hn
      exact .inr ⟨hn, ad, h1⟩
theorem run_equal_ptr {P : Program} {w : World} {t e : Nat} (hu : P.underlying t = some (.pointer e)) (x : Value) (hx : x = .pointer none ∨ ∃ ad, x = .pointer (some ad)) :
    (Op.equal t x (.pointer none)).run P w = .ok (match x with | .pointer none => true | _ => false) w := by
  have hd : Op.maxDepth = 9999 + 1 := rfl
  rcases hx with rfl | ⟨ad, rfl⟩ <;> (unfold Op.equal; rw [hd, Op.equalIn, Sem.run_bind, run_underlying hu]; rfl)
theorem run_equal_bool {P : Program} {w : World} {t : Nat} (hu : P.underlying t = some .bool) (x y : Bool) : (Op.equal t (.bool x) (.bool y)).run P w = .ok (x == y) w := by
  have hd : Op.maxDepth = 9999 + 1 := rfl
  unfold Op.equal; rw [hd, Op.equalIn, Sem.run_bind, run_underlying hu]; rfl

theorem St.bin_ok {E : Env} (hE : E.Ok) {C : Ctx} {σ : St} {H : List V} {ro : Nat → Prop} {a : Act} {w : World} (h : Good C σ H ro a w) {op : BinOp} {t : Nat} {x y s : S} {vx vy : Value} {ox oy : Operand}
    (hb : σ.bin E op t x y = some s) (hx : x.Rel σ.mem vx) (hy : y.Rel σ.mem vy) (ix : x.Inl ro w) (iy : y.Inl ro w) :
    ∃ v, ((do eqGuard op t ox oy vx vy; binOp op t vx vy) : Sem Value).run E.P w = .ok v w ∧ s = .v (.val v) := by
  unfold St.bin at hb
  split at hb
  · rename_i k a1 k' b1 hxi hyi
    rw [S.int?_some hxi] at hx; rw [S.int?_some hyi] at hy
    simp only [S.Rel, V.value] at hx hy; subst hx hy
    have hg := eqGuard_ok (P := E.P) (w := w) (op := op) (t := t) (ox := ox) (oy := oy) (x := .int k a1) (y := .int k' b1) (by simp) (by simp)
    split at hb
    · rename_i v hv
      simp only [Option.some.injEq] at hb
      exact ⟨v, by simp [hg, shifts_ok hv], hb.symm⟩
    · rename_i hv
      split at hb
      · rename_i hk; subst hk
        cases hv2 : ints op k a1 b1 with
        | none => simp [hv2] at hb
        | some v =>
          simp [hv2] at hb
          refine ⟨v, ?_, hb.symm⟩
          have hne : op ≠ .shl ∧ op ≠ .shr := by constructor <;> (rintro rfl; simp [ints] at hv2)
          simp [hg, ints_ok hv2 hne]
      · simp at hb
  · split at hb
    · rename_i a1 b1 hxi hyi
      rw [S.str?_some hxi] at hx; rw [S.str?_some hyi] at hy
      simp only [S.Rel, V.value] at hx hy; subst hx hy
      have hg := eqGuard_ok (P := E.P) (w := w) (op := op) (t := t) (ox := ox) (oy := oy) (x := .string a1) (y := .string b1) (by simp) (by simp)
      cases hv2 : strs op a1 b1 with
      | none => simp [hv2] at hb
      | some v => simp [hv2] at hb; exact ⟨v, by simp [hg, strs_ok hv2], hb.symm⟩
    · split at hb
      · rename_i ti hti
        have hfit := (hE t ti hti).kind
        split at hb
        · rename_i a1 b1 hk hxb hyb
          rw [hk] at hfit; simp only [TK.Fits] at hfit
          rw [S.bool?_some hxb] at hx; rw [S.bool?_some hyb] at hy
          simp only [S.Rel, V.value] at hx hy; subst hx hy
          have hg := eqGuard_ok (P := E.P) (w := w) (op := .eql) (t := t) (ox := ox) (oy := oy) (x := .bool a1) (y := .bool b1) (by simp) (by simp)
          simp only [Option.some.injEq] at hb
          exact ⟨_, by simp [hg, binOp, run_equal_bool hfit], hb.symm⟩
        · rename_i a1 b1 hk hxb hyb
          rw [hk] at hfit; simp only [TK.Fits] at hfit
          rw [S.bool?_some hxb] at hx; rw [S.bool?_some hyb] at hy
          simp only [S.Rel, V.value] at hx hy; subst hx hy
          have hg := eqGuard_ok (P := E.P) (w := w) (op := .neq) (t := t) (ox := ox) (oy := oy) (x := .bool a1) (y := .bool b1) (by simp) (by simp)
          simp only [Option.some.injEq] at hb
          exact ⟨_, by simp [hg, binOp, run_equal_bool hfit], hb.symm⟩
        · rename_i hk _ _
          rw [hk] at hfit; obtain ⟨e, hfit⟩ := hfit
          split at hb
          · rename_i hyn
            have hy' := (St.isNil_ok h hyn hy iy)
            simp at hy'; subst hy'
            cases hxn : σ.isNil x with
            | none => simp [hxn] at hb
            | some b =>
              simp [hxn] at hb
              rcases St.isNil_ok h hxn hx ix with ⟨rfl, rfl⟩ | ⟨rfl, ad, rfl⟩
              · exact ⟨.bool true, by simp [eqGuard_ok, binOp, run_equal_ptr hfit], hb.symm⟩
              · exact ⟨.bool false, by simp [eqGuard_ok, binOp, run_equal_ptr hfit], hb.symm⟩
          · simp at hb
        · rename_i hk _ _
          rw [hk] at hfit; obtain ⟨e, hfit⟩ := hfit
          split at hb
          · rename_i hyn
            have hy' := (St.isNil_ok h hyn hy iy)
            simp at hy'; subst hy'
            cases hxn : σ.isNil x with
            | none => simp [hxn] at hb
            | some b =>
              simp [hxn] at hb
              rcases St.isNil_ok h hxn hx ix with ⟨rfl, rfl⟩ | ⟨rfl, ad, rfl⟩
              · exact ⟨.bool false, by simp [eqGuard_ok, binOp, run_equal_ptr hfit], hb.symm⟩
              · exact ⟨.bool true, by simp [eqGuard_ok, binOp, run_equal_ptr hfit], hb.symm⟩
          · simp at hb
        · simp at hb
      · simp at hb

/-! ### Further operations that fill their slot alone -/
def un (op : UnOp) (s : S) : Option S := match op with
  | .neg => match s.int? with
    | some (k, n) => some (.v (.val (.int k (k.wrap (0 - n)))))
    | none => none
  | .not => match s.bool? with
    | some b => some (.v (.val (.bool (!b))))
    | none => none
  | _ => none
theorem un_erase (op : UnOp) (s : S) : un op s.erase = (un op s).map S.erase := by
  cases op <;> simp only [un, S.int?_erase, S.bool?_erase]
  · cases h : s.int? with
    | none => rfl
    | some x => rfl
  · rfl
  · cases h : s.bool? with
    | none => rfl
    | some x => rfl
  · rfl
theorem un_ok {P : Program} {w : World} {m : Nat → V} {op : UnOp} {s r : S} {v : Value} (h : un op s = some r) (hs : s.Rel m v) : ∃ x, (Op.unary op v).run P w = .ok x w ∧ r = .v (.val x) := by
  cases op <;> simp only [un] at h
  · cases hi : s.int? with
    | none => simp [hi] at h
    | some x =>
      obtain ⟨k, n⟩ := x
      simp [hi] at h
      rw [S.int?_some hi] at hs; simp only [S.Rel, V.value] at hs; subst hs
      exact ⟨.int k (k.wrap (0 - n)), by simp [Op.unary, Op.intArith], by simpa using h.symm⟩
  · simp at h
  · cases hi : s.bool? with
    | none => simp [hi] at h
    | some x =>
      simp [hi] at h
      rw [S.bool?_some hi] at hs; simp only [S.Rel, V.value] at hs; subst hs
      exact ⟨_, by simp [Op.unary], h.symm⟩
  · simp at h

/-- The place of a field. -/
def fieldOf (E : Env) (t k : Nat) : Option (Nat × TI) := match E.tt t with
  | some ti => match ti.kind with
    | .strct fl => match fl[k]? with
      | some (off, ft) => match E.tt ft with
        | some fi => if 0 < fi.sz then some (off, fi) else none
        | none => none
      | none => none
    | _ => none
  | none => none
theorem fieldOf_some {E : Env} (hE : E.Ok) {t k off : Nat} {fi : TI} (h : fieldOf E t k = some (off, fi)) :
    ∃ fs f j, E.P.underlying t = some (.struct fs) ∧ fs[k]? = some f ∧ f.offset = off ∧ fi.Fits E.P f.type ∧ E.P.info? f.type = some j ∧ j.size = fi.sz ∧ 0 < fi.sz := by
  unfold fieldOf at h
  split at h
  · rename_i ti hti
    have hfit := (hE t ti hti).kind
    split at h
    · rename_i fl hk
      rw [hk] at hfit; obtain ⟨fs, hu, hfl, _⟩ := hfit
      split at h
      · rename_i off' ft hf
        split at h
        · rename_i fi' hfi
          split at h
          · rename_i hpos
            simp only [Option.some.injEq, Prod.mk.injEq] at h
            obtain ⟨rfl, rfl⟩ := h
            rw [← hfl, List.getElem?_map] at hf
            cases hff : fs.toList[k]? with
            | none => simp [hff] at hf
            | some f =>
              simp [hff] at hf
              obtain ⟨rfl, rfl⟩ := hf
              have hx := hE _ _ hfi
              obtain ⟨j, z, h1, h2, _⟩ := hx.info
              exact ⟨fs, f, j, hu, by simpa using hff, rfl, hx, h1, h2, hpos⟩
          · simp at h
        · simp at h
      · simp at h
    · simp at h
  · simp at h
theorem run_fieldAt {E : Env} (hE : E.Ok) {t k off : Nat} {fi : TI} (h : fieldOf E t k = some (off, fi)) (a : Addr) (w : World) :
    (Instr.fieldAt t (.pointer (some a)) k).run E.P w = .ok (.pointer (some (a.add off))) w := by
  obtain ⟨fs, f, j, h1, h2, h3, h4, h5, h6, h7⟩ := fieldOf_some hE h
  simp only [Instr.fieldAt, Sem.run_bind, run_underlying h1, Result.andThen_ok, h2, Instr.sureAddr, fieldPlace, sizeOf, run_typeInfo_some h5, Sem.run_pure]
  have : ¬ (j.size = 0) := by omega
  simp [this, h3]
def St.fieldAddr (E : Env) (σ : St) (t k : Nat) (s : S) : Option S := match σ.adr s, fieldOf E t k with
  | some x, some (off, _) => some (x.plus off).toS
  | _, _ => none
theorem St.fieldAddr_erase (E : Env) (σ : St) (t k : Nat) (s : S) : σ.erase.fieldAddr E t k s.erase = (σ.fieldAddr E t k s).map S.erase := by
  simp only [St.fieldAddr, St.adr_erase]
  cases σ.adr s with
  | none => rfl
  | some x => cases fieldOf E t k with
    | none => rfl
    | some y => simp [A.toS_erase, A.plus_erase]
theorem St.fieldAddr_ok {E : Env} (hE : E.Ok) {C : Ctx} {σ : St} {H : List V} {ro : Nat → Prop} {a : Act} {w : World} (h : Good C σ H ro a w) {t k : Nat} {s r : S} {v : Value}
    (hf : σ.fieldAddr E t k s = some r) (hr : s.Rel σ.mem v) (hi : s.Inl ro w) : ∃ x, (Instr.fieldAt t v k).run E.P w = .ok x w ∧ r.Rel σ.mem x ∧ r.Inl ro w := by
  unfold St.fieldAddr at hf
  split at hf
  · rename_i x off fi hx hfo
    simp only [Option.some.injEq] at hf; subst hf
    obtain ⟨ad, rfl, hat⟩ := St.adr_at h hx hr hi
    have := A.plus_at hat off
    exact ⟨_, run_fieldAt hE hfo _ _, A.toS_rel this⟩
  · simp at hf

/-- The elements' type of a slice type: its number, its cells, its bytes. -/
def elemOf (E : Env) (t : Nat) : Option (Nat × TI) := match E.tt t with
  | some ti => match ti.kind with
    | .slice e => match E.tt e with
      | some ei => if 0 < ei.sz then some (e, ei) else none
      | none => none
    | _ => none
  | none => none
theorem elemOf_some {E : Env} (hE : E.Ok) {t e : Nat} {ei : TI} (h : elemOf E t = some (e, ei)) : E.P.underlying t = some (.slice e) ∧ ei.Fits E.P e ∧ 0 < ei.sz := by
  unfold elemOf at h
  split at h
  · rename_i ti hti
    have hfit := (hE t ti hti).kind
    split at h
    · rename_i e' hk
      rw [hk] at hfit
      split at h
      · rename_i ei' hei
        split at h
        · rename_i hpos
          simp only [Option.some.injEq, Prod.mk.injEq] at h
          obtain ⟨rfl, rfl⟩ := h
          exact ⟨hfit, hE _ _ hei, hpos⟩
        · simp at h
      · simp at h
    · simp at h
  · simp at h
def St.indexAddr (E : Env) (σ : St) (t : Nat) (s i : S) : Option S := match σ.slc s, i.int?, elemOf E t with
  | some (x, sz, n), some (_, i), some (_, ei) => if ei.sz = sz ∧ 0 ≤ i ∧ i < n then some (x.plus (i.toNat * sz)).toS else none
  | _, _, _ => none
theorem St.indexAddr_erase (E : Env) (σ : St) (t : Nat) (s i : S) : σ.erase.indexAddr E t s.erase i.erase = (σ.indexAddr E t s i).map S.erase := by
  simp only [St.indexAddr, St.slc_erase, S.int?_erase]
  cases σ.slc s with
  | none => rfl
  | some x =>
    cases i.int? with
    | none => rfl
    | some y =>
      cases elemOf E t with
      | none => rfl
      | some z =>
        simp only [Option.map_some]
        split <;> simp [A.toS_erase, A.plus_erase]
/-- What a slice that can be told is in the machine. -/
theorem St.slc_at {C : Ctx} {σ : St} {H : List V} {ro : Nat → Prop} {a : Act} {w : World} (h : Good C σ H ro a w) {s : S} {x : A} {sz n : Nat} {v : Value} (he : σ.slc s = some (x, sz, n)) (hr : s.Rel σ.mem v) (hi : s.Inl ro w) :
    ∃ ad cap, v = .slice ad n cap ∧ n ≤ cap ∧ n ≤ 9223372036854775807 ∧ (0 < n → 0 < sz → ∃ a0, ad = some a0 ∧ x.At σ.mem ro w a0) := by
  unfold St.slc at he
  split at he
  · split at he
    · rename_i d p g sz' n' cs hg
      simp at he; obtain ⟨rfl, rfl, rfl⟩ := he
      obtain ⟨u, h1, h2, h3⟩ := hr
      rw [hg] at h1; simp at h1; subst h1
      have hok := (h.mok _).get _ hg
      have hok' := hok
      simp only [V.Ok, if_true] at hok
      refine ⟨g.addr, g.cap, h3, hok.2.1, hok.2.2.1, fun hn hs => ?_⟩
      have hown := hok.2.2.2.1
      cases hga : g.addr with
      | none => unfold OwnAt at hown; rw [hga] at hown; have := hok.2.1; omega
      | some a0 =>
        have hsp := hok'.spot rfl (show V.addr _ = some a0 from hga)
        exact ⟨a0, rfl, _, a0, hg, rfl, hga, hsp, by rw [addr_add hsp]; cases a0; simp_all⟩
    · simp at he
  · rename_i g sz' n' cs
    simp at he; obtain ⟨rfl, rfl, rfl⟩ := he
    have hok := hi.1
    simp only [V.Ok, Bool.false_eq_true, if_false] at hok
    refine ⟨g.addr, g.cap, hr, hok.2.1, hok.2.2.1, fun hn hs => ?_⟩
    rcases hok.2.2.2.1.1 with k | ⟨a0, k1, k2, k3⟩
    · have hl := congrArg List.length k
      rw [List.length_map, hok.1] at hl
      have : 0 < n' * sz' := Nat.mul_pos hn hs
      simp at hl; omega
    · refine ⟨a0, k1, a0, k1, k3.1, by rw [addr_add k3.1]; have := k3.1; cases a0; simp_all, ?_⟩
      simp only [V.Ok, Bool.false_eq_true, if_false]
      exact ⟨⟨⟨a0, k1, k3.1⟩, .inr ⟨a0, k1, k2, k3⟩, hok.2.2.2.1.2⟩, hok.2.2.2.2⟩
  · simp at he; obtain ⟨rfl, rfl, rfl⟩ := he
    exact ⟨none, 0, hr, by omega, by omega, fun h => by omega⟩
  · simp at he
theorem St.indexAddr_ok {E : Env} (hE : E.Ok) {C : Ctx} {σ : St} {H : List V} {ro : Nat → Prop} {a : Act} {w : World} (h : Good C σ H ro a w) {t : Nat} {s i r : S} {v vi : Value}
    (hf : σ.indexAddr E t s i = some r) (hr : s.Rel σ.mem v) (hi : s.Inl ro w) (hri : i.Rel σ.mem vi) : ∃ x, (Instr.indexAt t v vi).run E.P w = .ok x w ∧ r.Rel σ.mem x ∧ r.Inl ro w := by
  unfold St.indexAddr at hf
  split at hf
  · rename_i x sz n k ix e ei hx hix hel
    split at hf
    · rename_i hc
      obtain ⟨hsz, h0, h1⟩ := hc
      simp only [Option.some.injEq] at hf; subst hf
      rw [S.int?_some hix] at hri; simp only [S.Rel, V.value] at hri; subst hri
      obtain ⟨hu, hfit, hpos⟩ := elemOf_some hE hel
      obtain ⟨ad, cap, rfl, hcap, _, hat⟩ := St.slc_at h hx hr hi
      obtain ⟨a0, rfl, hat1⟩ := hat (by omega) (by omega)
      obtain ⟨j, z, hj1, hj2, _⟩ := hfit.info
      refine ⟨_, ?_, A.toS_rel (A.plus_at hat1 (ix.toNat * sz))⟩
      simp only [Instr.indexAt, Sem.run_bind, asIntOf, Sem.run_pure, Result.andThen_ok, run_underlying hu, h0, h1, and_self, if_true, sizeOf, run_typeInfo_some hj1, hj2, hsz]
    · simp at hf
  · simp at hf

end Go.E
namespace Go.E

/-! ### Loads -/
theorem run_loadVar {E : Env} {t : Nat} {ti : TI} (hf : ti.Fits E.P t) {w : World} {a : Addr} {vs : List Value} (h : ∀ i v, vs[i]? = some v → w.cell? (a.add i) = some v)
    (hl : if ti.agg then vs.length = ti.sz else vs.length = 1) : (loadVar t a).run E.P w = .ok (if ti.agg then .agg vs.toArray else vs.getD 0 undef) w := by
  obtain ⟨j, z, h1, h2, _⟩ := hf.info
  have hk := hf.kind
  have hagg : (isAgg t).run E.P w = .ok ti.agg w := by
    simp only [isAgg, Sem.run_bind]
    unfold TI.agg
    cases hkk : ti.kind <;> simp only [hkk, TK.Fits] at hk
    case int k => simp [run_underlying hk]
    case bool => simp [run_underlying hk]
    case string => simp [run_underlying hk]
    case ptr => obtain ⟨e, hk⟩ := hk; simp [run_underlying hk]
    case func => obtain ⟨e, e1, e2, hk⟩ := hk; simp [run_underlying hk]
    case slice e => simp [run_underlying hk]
    case strct fl => obtain ⟨fs, hk, _⟩ := hk; simp [run_underlying hk]
  simp only [loadVar, Sem.run_bind, hagg, Result.andThen_ok]
  cases ha : ti.agg with
  | true =>
    rw [ha] at hl; simp only [if_true] at hl ⊢
    simp only [Sem.run_bind, sizeOf, run_typeInfo_some h1, Sem.run_pure, Result.andThen_ok, h2, ← hl, run_loadCells_list w a vs h]
  | false =>
    rw [ha] at hl; simp only [Bool.false_eq_true, if_false] at hl ⊢
    match vs, hl with
    | [v], _ =>
      have := h 0 v rfl
      rw [show a.add 0 = a from by simp [Addr.add]] at this
      simp [run_load, this]
def St.ld (E : Env) (σ : St) (t : Nat) (s : S) : Option S := match E.tt t, σ.adr s with
  | some ti, some x => σ.load ti.agg ti.sz x
  | _, _ => none
theorem St.ld_erase (E : Env) (σ : St) (t : Nat) (s : S) : σ.erase.ld E t s.erase = (σ.ld E t s).map S.erase := by
  simp only [St.ld, St.adr_erase]
  cases E.tt t with
  | none => rfl
  | some ti => cases σ.adr s with
    | none => rfl
    | some x => simp [St.load_erase]
theorem St.ld_ok {E : Env} (hE : E.Ok) {C : Ctx} {σ : St} {H : List V} {ro : Nat → Prop} {a : Act} {w : World} (h : Good C σ H ro a w) {t : Nat} {s r : S} {v : Value}
    (hf : σ.ld E t s = some r) (hr : s.Rel σ.mem v) (hi : s.Inl ro w) : ∃ x, (Instr.loadAt t v).run E.P w = .ok x w ∧ r.Rel σ.mem x ∧ r.Inl ro w := by
  unfold St.ld at hf
  split at hf
  · rename_i ti x hti hx
    obtain ⟨ad, rfl, hat⟩ := St.adr_at h hx hr hi
    obtain ⟨vs, h1, h2, h3⟩ := St.load_ok h hat hf
    have hfit := hE t ti hti
    refine ⟨if ti.agg then .agg vs.toArray else vs.getD 0 undef, ?_, ?_, h3⟩
    · simp only [Instr.loadAt, Sem.run_bind, Instr.sureAddr, Sem.run_pure, Result.andThen_ok]
      refine run_loadVar hfit h1 ?_
      cases ha : ti.agg with
      | true => rw [ha] at h2; simp only [if_true] at h2 ⊢; exact h2.1
      | false => rw [ha] at h2; simp only [Bool.false_eq_true, if_false] at h2 ⊢; obtain ⟨v, rfl, _⟩ := h2; rfl
    · cases ha : ti.agg with
      | true => rw [ha] at h2; simp only [if_true] at h2 ⊢; exact h2.2
      | false => rw [ha] at h2; simp only [Bool.false_eq_true, if_false] at h2 ⊢; obtain ⟨v, rfl, hv⟩ := h2; exact hv
  · simp at hf

/-! ### Parts of values -/
theorem S.RelL.get {m : Nat → V} : ∀ {ss : List S} {xs : List Value}, S.RelL m ss xs → ∀ {k : Nat} {s : S}, ss[k]? = some s → ∃ x, xs[k]? = some x ∧ s.Rel m x := by
  intro ss
  induction ss with
  | nil => intro xs h k s hk; simp at hk
  | cons t ss ih =>
    intro xs h k s hk
    obtain ⟨x, xs', rfl, h1, h2⟩ := h
    cases k with
    | zero => simp at hk; subst hk; exact ⟨x, rfl, h1⟩
    | succ k => simpa using ih h2 (by simpa using hk)
theorem S.InlL.get {ro : Nat → Prop} {w : World} : ∀ {ss : List S}, S.InlL ro w ss → ∀ {k : Nat} {s : S}, ss[k]? = some s → s.Inl ro w := by
  intro ss
  induction ss with
  | nil => intro h k s hk; simp at hk
  | cons t ss ih =>
    intro h k s hk
    cases k with
    | zero => simp at hk; subst hk; exact h.1
    | succ k => exact ih h.2 (by simpa using hk)
theorem S.RelL.length {m : Nat → V} : ∀ {ss : List S} {xs : List Value}, S.RelL m ss xs → xs.length = ss.length := by
  intro ss
  induction ss with
  | nil => intro xs h; simp only [S.RelL] at h; subst h; rfl
  | cons t ss ih => intro xs h; obtain ⟨x, xs', rfl, h1, h2⟩ := h; simp [ih h2]
theorem S.RelL.iff {m : Nat → V} : ∀ {ss : List S} {xs : List Value}, S.RelL m ss xs ↔ xs.length = ss.length ∧ ∀ (k : Nat) (s : S) (x : Value), ss[k]? = some s → xs[k]? = some x → s.Rel m x := by
  intro ss
  induction ss with
  | nil => intro xs; simp [S.RelL]
  | cons t ss ih =>
    intro xs
    cases xs with
    | nil => simp [S.RelL]
    | cons y ys =>
      simp only [S.RelL, List.cons.injEq, List.length_cons]
      constructor
      · rintro ⟨x, xs', ⟨rfl, rfl⟩, h1, h2⟩
        have := ih.1 h2
        refine ⟨by omega, fun k s x hk hx => ?_⟩
        cases k with
        | zero => simp at hk hx; subst hk hx; exact h1
        | succ k => exact this.2 k s x (by simpa using hk) (by simpa using hx)
      · rintro ⟨h1, h2⟩
        exact ⟨y, ys, ⟨rfl, rfl⟩, h2 0 t y rfl rfl, ih.2 ⟨by omega, fun k s x hk hx => h2 (k + 1) s x (by simpa using hk) (by simpa using hx)⟩⟩
theorem S.InlL.iff {ro : Nat → Prop} {w : World} : ∀ {ss : List S}, S.InlL ro w ss ↔ ∀ s ∈ ss, s.Inl ro w := by
  intro ss
  induction ss with
  | nil => simp [S.InlL]
  | cons t ss ih => simp [S.InlL, ih]
def partOf (E : Env) (t k : Nat) (s : S) : Option S := match s, fieldOf E t k with
  | .agg ss, some (off, fi) => if fi.agg then (if off + fi.sz ≤ ss.length then some (.agg ((ss.drop off).take fi.sz)) else none) else ss[off]?
  | _, _ => none
theorem partOf_erase (E : Env) (t k : Nat) (s : S) : partOf E t k s.erase = (partOf E t k s).map S.erase := by
  cases s with
  | agg ss =>
    simp only [partOf, S.erase]
    cases fieldOf E t k with
    | none => rfl
    | some x =>
      simp only [S.eraseL_map, List.length_map]
      split
      · split
        · simp [S.erase, S.eraseL_map, List.map_take, List.map_drop]
        · rfl
      · simp
  | _ => rfl
theorem run_part {E : Env} {t : Nat} {ti : TI} (hf : ti.Fits E.P t) {w : World} {cs : Array Value} {off : Nat} (h : if ti.agg then True else off < cs.size) :
    (part t cs off).run E.P w = .ok (if ti.agg then .agg (cs.extract off (off + ti.sz)) else cs.getD off undef) w := by
  obtain ⟨j, z, h1, h2, _⟩ := hf.info
  have hk := hf.kind
  have hagg : (isAgg t).run E.P w = .ok ti.agg w := by
    simp only [isAgg, Sem.run_bind]
    unfold TI.agg
    cases hkk : ti.kind <;> simp only [hkk, TK.Fits] at hk
    case int k => simp [run_underlying hk]
    case bool => simp [run_underlying hk]
    case string => simp [run_underlying hk]
    case ptr => obtain ⟨e, hk⟩ := hk; simp [run_underlying hk]
    case func => obtain ⟨e, e1, e2, hk⟩ := hk; simp [run_underlying hk]
    case slice e => simp [run_underlying hk]
    case strct fl => obtain ⟨fs, hk, _⟩ := hk; simp [run_underlying hk]
  simp only [part, Sem.run_bind, hagg, Result.andThen_ok]
  cases ha : ti.agg with
  | true => simp [sizeOf, run_typeInfo_some h1, h2]
  | false =>
    rw [ha] at h; simp only [Bool.false_eq_true, if_false] at h ⊢
    simp [Array.getD, h]
theorem partOf_ok {E : Env} (hE : E.Ok) {m : Nat → V} {ro : Nat → Prop} {w : World} {t k : Nat} {s r : S} {v : Value} (hf : partOf E t k s = some r) (hr : s.Rel m v) (hi : s.Inl ro w) :
    ∃ x, (Instr.field t v k).run E.P w = .ok x w ∧ r.Rel m x ∧ r.Inl ro w := by
  cases s with
  | agg ss =>
    simp only [partOf] at hf
    cases hfo : fieldOf E t k with
    | none => simp [hfo] at hf
    | some x =>
      obtain ⟨off, fi⟩ := x
      simp only [hfo] at hf
      obtain ⟨fs, f, j, h1, h2, h3, h4, h5, h6, h7⟩ := fieldOf_some hE hfo
      obtain ⟨xs, rfl, hrel⟩ := hr
      have hlen := hrel.length
      simp only [S.Inl] at hi
      cases ha : fi.agg with
      | true =>
        rw [ha] at hf; simp only [if_true] at hf
        split at hf
        · rename_i hle
          simp only [Option.some.injEq] at hf; subst hf
          refine ⟨.agg (xs.toArray.extract off (off + fi.sz)), ?_, ⟨(xs.drop off).take fi.sz, ?_, ?_⟩, ?_⟩
          · have hp := run_part (E := E) h4 (w := w) (cs := xs.toArray) (off := off) (by rw [ha]; simp)
            rw [ha] at hp; simp only [if_true] at hp
            simp only [Instr.field, Sem.run_bind, run_underlying h1, Result.andThen_ok, h2, asAgg, Sem.run_pure, h3, hp]
          · simp
          · rw [S.RelL.iff] at hrel ⊢
            refine ⟨by simp [hlen], fun i s x hs hx => ?_⟩
            rw [getElem?_viewL] at hs hx
            split at hs
            · rename_i hlt; rw [if_pos hlt] at hx; exact hrel.2 _ _ _ hs hx
            · simp at hs
          · simp only [S.Inl]
            rw [S.InlL.iff] at hi ⊢
            exact fun s hs => hi s (List.mem_of_mem_drop (List.mem_of_mem_take hs))
        · simp at hf
      | false =>
        rw [ha] at hf; simp only [Bool.false_eq_true, if_false] at hf
        obtain ⟨x, hx, hxr⟩ := hrel.get hf
        refine ⟨x, ?_, hxr, S.InlL.get hi hf⟩
        have hlt : off < xs.length := (List.getElem?_eq_some_iff.1 hx).1
        have hp := run_part (E := E) h4 (w := w) (cs := xs.toArray) (off := off) (by rw [ha]; simpa using hlt)
        rw [ha] at hp; simp only [Bool.false_eq_true, if_false] at hp
        simp only [Instr.field, Sem.run_bind, run_underlying h1, Result.andThen_ok, h2, asAgg, Sem.run_pure, h3, hp]
        have := (List.getElem?_eq_some_iff.1 hx).2
        simp [Array.getD, hlt, this]
  | _ => simp [partOf] at hf
def S.comp (s : S) (k : Nat) : Option S := match s with
  | .tup ss => ss[k]?
  | _ => none
theorem S.comp_erase (s : S) (k : Nat) : s.erase.comp k = (s.comp k).map S.erase := by
  cases s with
  | tup ss => simp [S.comp, S.erase, S.eraseL_map]
  | _ => rfl
theorem comp_ok {P : Program} {m : Nat → V} {ro : Nat → Prop} {w : World} {k : Nat} {s r : S} {v : Value} (hf : s.comp k = some r) (hr : s.Rel m v) (hi : s.Inl ro w) :
    ∃ x, (Instr.extract v k).run P w = .ok x w ∧ r.Rel m x ∧ r.Inl ro w := by
  cases s with
  | tup ss =>
    simp only [S.comp] at hf
    obtain ⟨xs, rfl, hrel⟩ := hr
    obtain ⟨x, hx, hxr⟩ := hrel.get hf
    exact ⟨x, by simp [Instr.extract, hx], hxr, S.InlL.get hi hf⟩
  | _ => simp [S.comp] at hf

/-! ### Strings, lengths -/
def byteAt (s i : S) : Option S := match s.str?, i.int? with
  | some b, some (_, i) => if 0 ≤ i ∧ i < b.size then some (.v (.val (.int .u8 ((b.data.getD i.toNat 0).toNat : Int)))) else none
  | _, _ => none
theorem byteAt_erase (s i : S) : byteAt s.erase i.erase = (byteAt s i).map S.erase := by
  simp only [byteAt, S.str?_erase, S.int?_erase]
  cases s.str? with
  | none => rfl
  | some b => cases i.int? with
    | none => rfl
    | some x => simp only; split <;> rfl
theorem byteAt_ok {E : Env} (hE : E.Ok) {m : Nat → V} {ro : Nat → Prop} {w : World} {t : Nat} {ti : TI} (ht : E.tt t = some ti) (hk : ti.kind = .string) {s i r : S} {v vi : Value} (hf : byteAt s i = some r) (hr : s.Rel m v) (hri : i.Rel m vi) :
    ∃ x, (Instr.index t v vi).run E.P w = .ok x w ∧ r.Rel m x ∧ r.Inl ro w := by
  unfold byteAt at hf
  split at hf
  · rename_i b k i' hs hi
    split at hf
    · rename_i hc
      simp only [Option.some.injEq] at hf; subst hf
      rw [S.str?_some hs] at hr; rw [S.int?_some hi] at hri
      simp only [S.Rel, V.value] at hr hri; subst hr hri
      have hu := (hE t ti ht).kind; rw [hk] at hu
      refine ⟨_, ?_, rfl, trivial, rfl⟩
      have hlt : i'.toNat < b.size := by omega
      have hb : b[i'.toNat]? = some (b.data.getD i'.toNat 0) := by
        have : b.data.size = b.size := rfl
        rw [getElem?_pos b _ hlt]; simp [Array.getD, this, hlt]; rfl
      simp only [Instr.index, asIntOf, Sem.run_bind, Sem.run_pure, Result.andThen_ok, run_underlying hu, hc.1, if_true, hb]
      rfl
    · simp at hf
  · simp at hf

def St.len (σ : St) (s : S) : Option S := match s.str? with
  | some b => some (.v (.val (.int .i64 b.size)))
  | none => match σ.slc s with
    | some (_, _, n) => some (.v (.val (.int .i64 n)))
    | none => none
theorem St.len_erase (σ : St) (s : S) : σ.erase.len s.erase = (σ.len s).map S.erase := by
  simp only [St.len, S.str?_erase, St.slc_erase]
  cases s.str? with
  | some b => rfl
  | none => cases σ.slc s with
    | none => rfl
    | some x => rfl
theorem St.len_ok {E : Env} (hE : E.Ok) {C : Ctx} {σ : St} {H : List V} {ro : Nat → Prop} {a : Act} {w : World} (h : Good C σ H ro a w) {t ty : Nat} {ti : TI} (ht : E.tt t = some ti) (hk : ti.kind = .string ∨ ∃ e, ti.kind = .slice e) {s r : S} {v : Value}
    (hf : σ.len s = some r) (hr : s.Rel σ.mem v) (hi : s.Inl ro w) (hs : s.str? = none ↔ ti.kind ≠ .string) : ∃ x, (Builtin.len_ #[t] ty #[v]).run E.P w = .ok x w ∧ r.Rel σ.mem x ∧ r.Inl ro w := by
  have hu := (hE t ti ht).kind
  unfold St.len at hf
  split at hf
  · rename_i b hb
    simp only [Option.some.injEq] at hf; subst hf
    rw [S.str?_some hb] at hr; simp only [S.Rel, V.value] at hr; subst hr
    have hk' : ti.kind = .string := by
      apply Classical.byContradiction; intro hne; rw [hs.2 hne] at hb; simp at hb
    rw [hk'] at hu
    exact ⟨.int .i64 b.size, by simp [Builtin.len_, run_underlying hu, goInt], rfl, trivial, rfl⟩
  · rename_i hb
    have hk' : ∃ e, ti.kind = .slice e := hk.resolve_left (hs.1 hb)
    obtain ⟨e, hk'⟩ := hk'
    rw [hk'] at hu
    split at hf
    · rename_i x sz n hx
      simp only [Option.some.injEq] at hf; subst hf
      obtain ⟨ad, cap, rfl, _⟩ := St.slc_at h hx hr hi
      exact ⟨.int .i64 n, by simp [Builtin.len_, run_underlying hu, goInt], rfl, trivial, rfl⟩
    · simp at hf
/-- A cut of a string, or of a slice that is read alone. -/
def bound (lo : Option S) (d : Nat) : Option Nat := match lo with
  | none => some d
  | some s => match s.int? with
    | some (_, i) => if 0 ≤ i then some i.toNat else none
    | none => none
theorem bound_erase (lo : Option S) (d : Nat) : bound (lo.map S.erase) d = bound lo d := by
  cases lo with
  | none => rfl
  | some s => simp [bound, S.int?_erase]
/-- Where a slice leads whose first elements are cut off. -/
def Gh.cut (g : Gh) (l sz : Nat) : Gh := ⟨if g.cap = l then g.addr else g.addr.map (·.add (l * sz)), g.cap - l⟩
theorem Gh.cut_z (l sz : Nat) : Gh.z.cut l sz = .z := by by_cases h : 0 = l <;> simp [Gh.cut, Gh.z, h]
def cutS (s : S) (lo hi : Option S) : Option S := match s.str? with
  | some b => match bound lo 0, bound hi b.size with
    | some l, some h => if l ≤ h ∧ h ≤ b.size then some (.v (.val (.string (b.extract l h)))) else none
    | _, _ => none
  | none => match s with
    | .v (.sl g false sz n cs) => match bound lo 0, bound hi n with
      | some l, some h => if l ≤ h ∧ h ≤ n then some (.v (.sl (g.cut l sz) false sz (h - l) ((cs.drop (l * sz)).take ((h - l) * sz)))) else none
      | _, _ => none
    | _ => none
theorem cutS_erase (s : S) (lo hi : Option S) : cutS s.erase (lo.map S.erase) (hi.map S.erase) = (cutS s lo hi).map S.erase := by
  simp only [cutS, S.str?_erase, bound_erase]
  cases s.str? with
  | some b =>
    simp only
    cases bound lo 0 with
    | none => rfl
    | some l => cases bound hi b.size with
      | none => rfl
      | some h => simp only; split <;> rfl
  | none =>
    cases s with
    | v u =>
      cases u with
      | sl g o sz n cs =>
        cases o with
        | true => rfl
        | false =>
          simp only [S.erase, V.erase]
          cases bound lo 0 with
          | none => rfl
          | some l => cases bound hi n with
            | none => rfl
            | some h =>
              simp only
              split
              · simp [S.erase, V.erase, V.eraseL_map, Gh.cut_z, List.map_take, List.map_drop]
              · rfl
      | _ => rfl
    | _ => rfl
theorem V.erase_str (u : V) : (S.v u.erase).str? = (S.v u).str? := S.str?_erase (.v u)
theorem bound_run {P : Program} {w : World} {m : Nat → V} {s : S} {v : Value} {y n d : Nat} {code : BoundsCode} (hb : bound (some s) d = some n) (hr : s.Rel m v) (hy : n ≤ y) : (Instr.sliceBound v y code).run P w = .ok n w := by
  simp only [bound] at hb
  split at hb
  · rename_i k i hi
    split at hb
    · rename_i h0
      simp only [Option.some.injEq] at hb; subst hb
      rw [S.int?_some hi] at hr; simp only [S.Rel, V.value] at hr; subst hr
      have : i ≤ (y : Int) := by omega
      simp [Instr.sliceBound, asIntOf, h0, this]
    · simp at hb
  · simp at hb
theorem bounds_run {P : Program} {w : World} {m : Nat → V} {lo hi : Option S} {vlo vhi : Option Value} {isS : Bool} {len cap l h : Nat} (hlo : bound lo 0 = some l) (hhi : bound hi len = some h) (hle : l ≤ h) (hh : h ≤ len) (hc : len ≤ cap)
    (rlo : ∀ s, lo = some s → ∃ v, vlo = some v ∧ s.Rel m v) (rlo' : lo = none → vlo = none) (rhi : ∀ s, hi = some s → ∃ v, vhi = some v ∧ s.Rel m v) (rhi' : hi = none → vhi = none) :
    (Instr.sliceBounds isS len cap vlo vhi none).run P w = .ok (l, h, cap) w := by
  have e1 : ((match vhi with | some v => Instr.sliceBound v cap (if isS then .sliceAcap else .sliceAlen) | none => pure len) : Sem Nat).run P w = .ok h w := by
    cases hi with
    | none => obtain rfl := rhi' rfl; simp [bound] at hhi; simp [hhi]
    | some s => obtain ⟨v, rfl, hv⟩ := rhi s rfl; exact bound_run hhi hv (by omega)
  have e2 : ((match vlo with | some v => Instr.sliceBound v h .sliceB | none => pure 0) : Sem Nat).run P w = .ok l w := by
    cases lo with
    | none => obtain rfl := rlo' rfl; simp [bound] at hlo; simp [hlo]
    | some s => obtain ⟨v, rfl, hv⟩ := rlo s rfl; exact bound_run hlo hv hle
  unfold Instr.sliceBounds
  cases vhi with
  | none => cases vlo with
    | none => simp_all
    | some v => simp_all
  | some u => cases vlo with
    | none => simp_all
    | some v => simp_all

theorem RoAt.cut {ro : Nat → Prop} {w : World} {g : Gh} {vals : List Value} (h : RoAt ro w g vals) {l h' sz : Nat} (hl : l ≤ h') (hc : h' ≤ g.cap) : RoAt ro w (g.cut l sz) ((vals.drop (l * sz)).take ((h' - l) * sz)) := by
  rcases h with h | ⟨a, ha, hra, hsp, hrun⟩
  · left; simp [h]
  · by_cases he : h' = l
    · left; simp [he]
    · have hne : ¬ g.cap = l := by omega
      refine .inr ⟨a.add (l * sz), by simp [Gh.cut, hne, ha], ?_, ?_, fun k hk => ?_⟩
      · rw [addr_add hsp]; exact hra
      · rw [addr_add hsp]
      · rw [addr_add hsp]
        rw [List.length_take, List.length_drop] at hk
        have := hrun (l * sz + k) (by omega)
        rw [getElem?_viewL, if_pos (by omega)]
        rw [← this]
        simp [Nat.add_assoc]
theorem blksL_sub {cs ds : List V} (h : V.blksL cs = []) (hs : ∀ d ∈ ds, d ∈ cs) : V.blksL ds = [] := by
  rw [V.blksL_flatMap, List.flatMap_eq_nil_iff] at *
  exact fun d hd => h d (hs d hd)
theorem map_value_cut (cs : List V) (i n : Nat) : ((cs.drop i).take n).map V.value = ((cs.map V.value).drop i).take n := by simp [List.map_take, List.map_drop]
theorem cut_ok {ro : Nat → Prop} {w : World} {g : Gh} {sz n l h' : Nat} {cs : List V} (h : (V.sl g false sz n cs).Ok ro w) (hl : l ≤ h') (hn : h' ≤ n) :
    (V.sl (g.cut l sz) false sz (h' - l) ((cs.drop (l * sz)).take ((h' - l) * sz))).Ok ro w ∧ (V.sl (g.cut l sz) false sz (h' - l) ((cs.drop (l * sz)).take ((h' - l) * sz))).blks = [] := by
  simp only [V.Ok, Bool.false_eq_true, if_false] at h ⊢
  obtain ⟨h1, h2, h3, ⟨h4, h5⟩, h6⟩ := h
  have hmem : ∀ d ∈ (cs.drop (l * sz)).take ((h' - l) * sz), d ∈ cs := fun d hd => List.mem_of_mem_drop (List.mem_of_mem_take hd)
  have hb := blksL_sub h5 hmem
  refine ⟨⟨?_, ?_, by omega, ⟨?_, hb⟩, ?_⟩, by simp [V.blks, Gh.blk, hb]⟩
  · rw [List.length_take, List.length_drop, h1, Nat.sub_mul]
    have : l * sz ≤ n * sz := Nat.mul_le_mul_right _ (by omega)
    have : h' * sz ≤ n * sz := Nat.mul_le_mul_right _ hn
    omega
  · simp only [Gh.cut]; omega
  · rw [map_value_cut]; exact h4.cut hl (by omega)
  · rw [V.OkL_iff] at *; exact fun d hd => h6 d (hmem d hd)
theorem cutS_ok {E : Env} (hE : E.Ok) {σ : St} {ro : Nat → Prop} {w : World} {t : Nat} {ti : TI} (ht : E.tt t = some ti) {s r : S} {lo hi : Option S} {v : Value} {vlo vhi : Option Value}
    (hk : (ti.kind = .string ∧ s.str? ≠ none) ∨ ∃ e ei, elemOf E t = some (e, ei) ∧ s.str? = none ∧ (∀ g o sz n cs, s = .v (.sl g o sz n cs) → ei.sz = sz))
    (hf : cutS s lo hi = some r) (hr : s.Rel σ.mem v) (hi' : s.Inl ro w)
    (rlo : ∀ s, lo = some s → ∃ v, vlo = some v ∧ s.Rel σ.mem v) (rlo' : lo = none → vlo = none) (rhi : ∀ s, hi = some s → ∃ v, vhi = some v ∧ s.Rel σ.mem v) (rhi' : hi = none → vhi = none) :
    ∃ x, (Instr.sliceAt t v vlo vhi none).run E.P w = .ok x w ∧ r.Rel σ.mem x ∧ r.Inl ro w := by
  unfold cutS at hf
  split at hf
  · rename_i b hb
    have hks : ti.kind = .string := by
      rcases hk with k | ⟨e, ei, _, k, _⟩
      · exact k.1
      · rw [hb] at k; simp at k
    have hu := (hE t ti ht).kind; rw [hks] at hu
    rw [S.str?_some hb] at hr; simp only [S.Rel, V.value] at hr; subst hr
    split at hf
    · rename_i l h' hlo hhi
      split at hf
      · rename_i hc
        simp only [Option.some.injEq] at hf; subst hf
        have hrun := bounds_run (P := E.P) (w := w) (isS := false) (cap := b.size) hlo hhi hc.1 hc.2 (Nat.le_refl _) rlo rlo' rhi rhi'
        refine ⟨_, ?_, rfl, trivial, rfl⟩
        simp [Instr.sliceAt, Instr.slice, run_underlying hu, hrun, V.value]
      · simp at hf
    · simp at hf
  · rename_i hb
    have hks : ∃ e ei, elemOf E t = some (e, ei) ∧ (∀ g o sz n cs, s = .v (.sl g o sz n cs) → ei.sz = sz) := by
      rcases hk with k | ⟨e, ei, k1, _, k2⟩
      · exact absurd hb k.2
      · exact ⟨e, ei, k1, k2⟩
    obtain ⟨e, ei, hel, hsz⟩ := hks
    obtain ⟨hu, hfit, hpos⟩ := elemOf_some hE hel
    obtain ⟨j, z, hj1, hj2, _⟩ := hfit.info
    split at hf
    · rename_i g sz n cs
      split at hf
      · rename_i l h' hlo hhi
        split at hf
        · rename_i hc
          simp only [Option.some.injEq] at hf; subst hf
          simp only [S.Rel, V.value] at hr; subst hr
          have hok := hi'.1
          have hn : n ≤ g.cap := by simp only [V.Ok] at hok; exact hok.2.1
          have hrun := bounds_run (P := E.P) (w := w) (isS := true) (cap := g.cap) hlo hhi hc.1 hc.2 hn rlo rlo' rhi rhi'
          refine ⟨_, ?_, rfl, cut_ok hok hc.1 hc.2⟩
          simp [Instr.sliceAt, Instr.slice, run_underlying hu, hrun, V.value, sizeOf, run_typeInfo_some hj1, hj2, hsz _ _ _ _ _ rfl, Gh.cut]
        · simp at hf
      · simp at hf
    · simp at hf

end Go.E
namespace Go.E

/-! ### Structs built, functions' values, the greater and the smaller, conversions -/
/-- The cells of a value. -/
def S.flat : S → List S
  | .agg ss => ss
  | s => [s]
theorem S.flat_erase (s : S) : s.erase.flat = s.flat.map S.erase := by
  cases s <;> simp [S.flat, S.erase, S.eraseL_map]
def putAt (cs : List S) (off : Nat) (ss : List S) : List S := cs.take off ++ ss ++ cs.drop (off + ss.length)
def buildS (E : Env) (t : Nat) : List S → List (Nat × S) → Option (List S)
  | cs, [] => some cs
  | cs, (k, s) :: ps => match fieldOf E t k with
    | some (off, fi) => if s.flat.length = fi.sz ∧ off + fi.sz ≤ cs.length then buildS E t (putAt cs off s.flat) ps else none
    | none => none
theorem buildS_erase (E : Env) (t : Nat) (ps : List (Nat × S)) : ∀ cs, buildS E t (cs.map S.erase) (ps.map fun x => (x.1, x.2.erase)) = (buildS E t cs ps).map (List.map S.erase) := by
  induction ps with
  | nil => intro cs; rfl
  | cons p ps ih =>
    intro cs
    obtain ⟨k, s⟩ := p
    simp only [List.map_cons, buildS]
    cases fieldOf E t k with
    | none => rfl
    | some x =>
      obtain ⟨off, fi⟩ := x
      simp only [S.flat_erase, List.length_map]
      split
      · rw [← ih]; simp [putAt, List.map_take, List.map_drop]
      · rfl
def zeroS (i : TI) : List S := i.zero.map fun x => .v (.val x)
def buildOf (E : Env) (t : Nat) (ps : List (Nat × S)) : Option S := match E.tt t with
  | some ti => if ti.agg then (buildS E t (zeroS ti) ps).map S.agg else none
  | none => none
theorem buildOf_erase (E : Env) (t : Nat) (ps : List (Nat × S)) : buildOf E t (ps.map fun x => (x.1, x.2.erase)) = (buildOf E t ps).map S.erase := by
  simp only [buildOf]
  cases E.tt t with
  | none => rfl
  | some ti =>
    simp only
    split
    · have : zeroS ti = (zeroS ti).map S.erase := by simp [zeroS, S.erase, V.erase, Function.comp_def]
      rw [this, buildS_erase]
      simp [Function.comp_def, S.erase, S.eraseL_map, ← this]
    · rfl
theorem S.rel_flat {m : Nat → V} {s : S} {v : Value} (h : s.Rel m v) (hs : s ≠ .junk) (hone : ∀ u cs, s = .v u → u.value ≠ .agg cs) : S.RelL m s.flat v.cells.toList := by
  cases s with
  | agg ss => obtain ⟨xs, rfl, h⟩ := h; exact h
  | junk => exact absurd rfl hs
  | v u =>
    have : v = u.value := h
    subst this
    have hc : u.value.cells = #[u.value] := by
      unfold Value.cells; split
      · rename_i cs hcs; exact absurd hcs (hone u cs rfl)
      · rfl
    rw [hc]; exact ⟨_, _, rfl, rfl, rfl⟩
  | ref d p =>
    obtain ⟨u, h1, h2, rfl⟩ := h
    refine ⟨u.value, [], ?_, ⟨u, h1, h2, rfl⟩, rfl⟩
    cases u <;> simp [V.owned] at h2 <;> rfl
  | adr d p k => obtain ⟨u, a, h1, h2, h3, rfl⟩ := h; exact ⟨_, [], rfl, ⟨u, a, h1, h2, h3, rfl⟩, rfl⟩
  | radr g cs k => obtain ⟨a, h1, rfl⟩ := h; exact ⟨_, [], rfl, ⟨a, h1, rfl⟩, rfl⟩
  | tup ss => obtain ⟨xs, rfl, h⟩ := h; exact ⟨_, [], rfl, ⟨xs, rfl, h⟩, rfl⟩
  | fn f ss => obtain ⟨xs, rfl, h⟩ := h; exact ⟨_, [], rfl, ⟨xs, rfl, h⟩, rfl⟩
/-- A value of one cell, or a struct that is told cell by cell. -/
def S.fine : S → Bool
  | .junk => false
  | .v (.val (.agg _)) => false
  | .v (.val _) => true
  | .v (.sl ..) => true
  | .v (.ptr ..) => true
  | .v _ => false
  | _ => true
theorem S.fine_erase (s : S) : s.erase.fine = s.fine := by
  cases s with
  | v u =>
    cases u with
    | val x => rfl
    | _ => rfl
  | _ => rfl
theorem S.fine_flat {m : Nat → V} {s : S} {v : Value} (h : s.Rel m v) (hs : s.fine = true) : S.RelL m s.flat v.cells.toList := by
  refine S.rel_flat h (by rintro rfl; simp [S.fine] at hs) ?_
  rintro u cs rfl hu
  cases u with
  | val x => simp only [V.value] at hu; subst hu; simp [S.fine] at hs
  | sl => simp [V.value] at hu
  | ptr => simp [V.value] at hu
  | _ => simp [S.fine] at hs
theorem S.inl_flat {ro : Nat → Prop} {w : World} {s : S} (h : s.Inl ro w) : S.InlL ro w s.flat := by
  cases s with
  | agg ss => exact h
  | _ => exact ⟨h, trivial⟩
/-- What the machine's filling makes. -/
theorem fill_get (off : Nat) (vs : List Value) : ∀ (i : Nat) (cells : Array Value) (j : Nat),
    ((vs.zipIdx i).foldl (fun cs (x : Value × Nat) => cs.setIfInBounds (off + x.2) x.1) cells)[j]? = if off + i ≤ j ∧ j < off + i + vs.length ∧ j < cells.size then vs[j - (off + i)]? else cells[j]? := by
  induction vs with
  | nil => intro i cells j; simp; intro h1 h2; omega
  | cons v vs ih =>
    intro i cells j
    simp only [List.zipIdx_cons, List.foldl_cons]
    rw [ih (i + 1)]
    simp only [List.length_cons, Array.size_setIfInBounds, Array.getElem?_setIfInBounds]
    by_cases h : off + i = j
    · subst h
      rw [if_neg (by omega)]
      by_cases h2 : off + i < cells.size
      · simp [h2]
      · simp [h2]
    · rw [if_neg h]
      by_cases h2 : off + i ≤ j ∧ j < off + i + (vs.length + 1) ∧ j < cells.size
      · rw [if_pos (by omega), if_pos h2]
        have : j - (off + i) = (j - (off + (i + 1))) + 1 := by omega
        rw [this, List.getElem?_cons_succ]
      · rw [if_neg (by omega), if_neg h2]
theorem fill_one (cells : Array Value) (off : Nat) (vs : List Value) (h : off + vs.length ≤ cells.size) :
    (vs.toArray.zipIdx.foldl (fun cs (x : Value × Nat) => cs.setIfInBounds (off + x.2) x.1) cells).toList = cells.toList.take off ++ vs ++ cells.toList.drop (off + vs.length) := by
  refine List.ext_getElem? fun j => ?_
  have e : vs.toArray.zipIdx.foldl (fun cs (x : Value × Nat) => cs.setIfInBounds (off + x.2) x.1) cells = (vs.zipIdx 0).foldl (fun cs (x : Value × Nat) => cs.setIfInBounds (off + x.2) x.1) cells := by
    rw [← Array.foldl_toList]; simp
  rw [e, Array.getElem?_toList, fill_get]
  simp only [Nat.add_zero, List.append_assoc, List.getElem?_append, List.length_take, Array.length_toList, List.getElem?_take, List.getElem?_drop, Array.getElem?_toList]
  by_cases h1 : j < off
  · rw [if_neg (by omega), if_pos (by omega), if_pos h1]
  · rw [if_neg (show ¬ j < min off cells.size by omega)]
    have hm : min off cells.size = off := by omega
    rw [hm]
    by_cases h2 : j - off < vs.length
    · rw [if_pos (by omega), if_pos h2]
    · rw [if_neg (by omega), if_neg h2]
      congr 1; omega

theorem putAt_rel {m : Nat → V} {cs ss : List S} {xs ys : List Value} (h1 : S.RelL m cs xs) (h2 : S.RelL m ss ys) (off : Nat) : S.RelL m (putAt cs off ss) (xs.take off ++ ys ++ xs.drop (off + ys.length)) := by
  have l1 := h1.length
  have l2 := h2.length
  have app : ∀ {a b : List S} {x y : List Value}, S.RelL m a x → S.RelL m b y → S.RelL m (a ++ b) (x ++ y) := by
    intro a
    induction a with
    | nil => intro b x y hx hy; simp only [S.RelL] at hx; subst hx; exact hy
    | cons s a ih => intro b x y hx hy; obtain ⟨u, xs', rfl, k1, k2⟩ := hx; exact ⟨u, _, rfl, k1, ih k2 hy⟩
  have tk : ∀ (n : Nat) {a : List S} {x : List Value}, S.RelL m a x → S.RelL m (a.take n) (x.take n) := by
    intro n
    induction n with
    | zero => intro a x _; simp [S.RelL]
    | succ n ih =>
      intro a x h
      cases a with
      | nil => simp only [S.RelL] at h; subst h; simp [S.RelL]
      | cons s a => obtain ⟨u, xs', rfl, k1, k2⟩ := h; exact ⟨u, _, rfl, k1, ih k2⟩
  have dr : ∀ (n : Nat) {a : List S} {x : List Value}, S.RelL m a x → S.RelL m (a.drop n) (x.drop n) := by
    intro n
    induction n with
    | zero => intro a x h; simpa using h
    | succ n ih =>
      intro a x h
      cases a with
      | nil => simp only [S.RelL] at h; subst h; simp [S.RelL]
      | cons s a => obtain ⟨u, xs', rfl, k1, k2⟩ := h; simpa using ih k2
  unfold putAt
  rw [l2]
  exact app (app (tk _ h1) h2) (dr _ h1)
theorem putAt_inl {ro : Nat → Prop} {w : World} {cs ss : List S} (h1 : S.InlL ro w cs) (h2 : S.InlL ro w ss) (off : Nat) : S.InlL ro w (putAt cs off ss) := by
  rw [S.InlL.iff] at *
  intro s hs
  simp only [putAt, List.mem_append] at hs
  rcases hs with (k | k) | k
  · exact h1 s (List.mem_of_mem_take k)
  · exact h2 s k
  · exact h1 s (List.mem_of_mem_drop k)
theorem buildS_ok {E : Env} {m : Nat → V} {ro : Nat → Prop} {w : World} {t : Nat} {places : Array (Nat × Nat)} (hpl : ∀ k off fi, fieldOf E t k = some (off, fi) → places[k]? = some (off, fi.sz)) :
    ∀ (ps : List (Nat × S)) (vs : List (Nat × Value)) (cs rs : List S) (cells : Array Value), S.RelL m cs cells.toList → S.InlL ro w cs → ps.length = vs.length → (∀ (i k : Nat) (s : S), ps[i]? = some (k, s) → s.fine = true ∧ s.Inl ro w ∧ ∃ v, vs[i]? = some (k, v) ∧ s.Rel m v) →
      buildS E t cs ps = some rs → ∃ cells', Instr.fill (places[·]?) cells vs = some cells' ∧ S.RelL m rs cells'.toList ∧ S.InlL ro w rs := by
  intro ps
  induction ps with
  | nil =>
    intro vs cs rs cells h1 h2 hl _ hb
    simp at hl
    have : vs = [] := by cases vs <;> simp_all
    subst this
    simp only [buildS, Option.some.injEq] at hb; subst hb
    exact ⟨cells, rfl, h1, h2⟩
  | cons p ps ih =>
    intro vs cs rs cells h1 h2 hl hp hb
    obtain ⟨k, s⟩ := p
    obtain ⟨hfine, hinl, v, hv, hrel⟩ := hp 0 k s rfl
    cases vs with
    | nil => simp at hl
    | cons q vs =>
      simp at hv; subst hv
      simp only [buildS] at hb
      cases hfo : fieldOf E t k with
      | none => simp [hfo] at hb
      | some x =>
        obtain ⟨off, fi⟩ := x
        simp only [hfo] at hb
        split at hb
        · rename_i hc
          have hfr := S.fine_flat hrel hfine
          have hlen := hfr.length
          have hcl := h1.length
          have hplace := hpl k off fi hfo
          have hsz : v.cells.size = fi.sz := by rw [← Array.length_toList, hlen, hc.1]
          have hcs : cells.size = cs.length := by rw [← Array.length_toList, hcl]
          have hfill : Instr.fill (places[·]?) cells ((k, v) :: vs) = Instr.fill (places[·]?) (v.cells.zipIdx.foldl (fun cs (x : Value × Nat) => cs.setIfInBounds (off + x.2) x.1) cells) vs := by
            simp only [Instr.fill, hplace, hsz]
            rw [if_neg (by simp; omega)]
          rw [hfill]
          have he := fill_one cells off v.cells.toList (by rw [hlen]; omega)
          simp only [Array.toArray_toList] at he
          refine ih vs (putAt cs off s.flat) rs _ ?_ (putAt_inl h2 (S.inl_flat hinl) off) (by simpa using hl) (fun i k' s' hi => ?_) hb
          · rw [he]; exact putAt_rel h1 hfr off
          · have := hp (i + 1) k' s' (by simpa using hi)
            simpa using this
        · simp at hb

theorem run_listMapM {α β : Type} {P : Program} {w : World} {f : α → Sem β} {g : α → β} : ∀ (l : List α), (∀ x ∈ l, (f x).run P w = .ok (g x) w) → (l.mapM f).run P w = .ok (l.map g) w := by
  intro l
  induction l with
  | nil => intro _; simp
  | cons x l ih =>
    intro h
    simp only [List.mapM_cons, Sem.run_bind, h x (by simp), Result.andThen_ok, ih fun y hy => h y (by simp [hy]), Sem.run_pure, List.map_cons]
theorem run_arrayMapM {α β : Type} {P : Program} {w : World} {f : α → Sem β} {g : α → β} (l : Array α) (h : ∀ x ∈ l.toList, (f x).run P w = .ok (g x) w) : (l.mapM f).run P w = .ok (l.map g) w := by
  rw [Array.mapM_eq_mapM_toList]
  simp only [Sem.run_map, run_listMapM l.toList h, Result.andThen_ok]
  congr 1
  apply Array.ext'; simp
theorem zeroS_rel (m : Nat → V) (l : List Value) : S.RelL m (l.map fun x => .v (.val x)) l := by
  induction l with
  | nil => rfl
  | cons x l ih => exact ⟨_, _, rfl, rfl, ih⟩
theorem zeroS_inl (ro : Nat → Prop) (w : World) (l : List Value) : S.InlL ro w (l.map fun x => .v (.val x)) := by
  induction l with
  | nil => trivial
  | cons x l ih => exact ⟨⟨trivial, rfl⟩, ih⟩
theorem build_ok {E : Env} (hE : E.Ok) {m : Nat → V} {ro : Nat → Prop} {w : World} {t : Nat} {ps : List (Nat × S)} {vs : List (Nat × Value)} {r : S} (hb : buildOf E t ps = some r) (hl : ps.length = vs.length)
    (hp : ∀ (i k : Nat) (s : S), ps[i]? = some (k, s) → s.fine = true ∧ s.Inl ro w ∧ ∃ v, vs[i]? = some (k, v) ∧ s.Rel m v) :
    ∃ x, (Instr.build t vs.toArray).run E.P w = .ok x w ∧ r.Rel m x ∧ r.Inl ro w := by
  unfold buildOf at hb
  split at hb
  · rename_i ti hti
    split at hb
    · rename_i hagg
      cases hbs : buildS E t (zeroS ti) ps with
      | none => simp [hbs] at hb
      | some rs =>
        simp [hbs] at hb; subst hb
        have hfit := hE t ti hti
        obtain ⟨j, z, h1, h2, h3, h4, h5⟩ := hfit.info
        have hk := hfit.kind
        cases hkk : ti.kind <;> simp only [hkk, TK.Fits] at hk <;> try (simp [TI.agg, hkk] at hagg; done)
        rename_i fl
        obtain ⟨fs, hu, hfl, hall⟩ := hk
        have hmap := run_arrayMapM (P := E.P) (w := w) (f := fun (f : Field) => (do pure (f.offset, ← sizeOf f.type) : Sem (Nat × Nat))) (g := fun f => (f.offset, E.P.cellsOf f.type)) fs fun f hf => by
          obtain ⟨j, hj⟩ := hall f hf
          simp [sizeOf, run_typeInfo_some hj, Program.cellsOf, hj]
        have hpl : ∀ k off fi, fieldOf E t k = some (off, fi) → (fs.map (fun (f : Field) => (f.offset, E.P.cellsOf f.type)))[k]? = some (off, fi.sz) := fun k off fi hfo => by
          obtain ⟨fs', f, j', k1, k2, k3, k4, k5, k6, k7⟩ := fieldOf_some hE hfo
          rw [hu] at k1; simp at k1; subst k1
          simp [k2, k3, Program.cellsOf, k5, k6]
        have hz : S.RelL m (zeroS ti) z.cells.toList := by rw [h5]; exact zeroS_rel m _
        obtain ⟨cells', hfill, hr1, hr2⟩ := buildS_ok hpl ps vs (zeroS ti) rs z.cells hz (zeroS_inl ro w _) hl hp hbs
        refine ⟨.agg cells', ?_, ⟨cells'.toList, by simp, hr1⟩, hr2⟩
        simp only [Instr.build, zeroValue, Sem.run_bind, run_typeInfo_some h1, Result.andThen_ok, h4, Sem.run_pure, run_underlying hu, hmap]
        rw [hfill]; rfl
    · simp at hb
  · simp at hb

end Go.E
namespace Go.E

/-! ### Bytes to a string -/
def byte? : V → Option Int
  | .val (.int .u8 n) => some n
  | _ => none
def bytes? : List V → Option (List Int)
  | [] => some []
  | c :: cs => match byte? c, bytes? cs with
    | some n, some ns => some (n :: ns)
    | _, _ => none
theorem byte?_erase (c : V) : byte? c.erase = byte? c := by
  cases c <;> rfl
theorem bytes?_erase (cs : List V) : bytes? (V.eraseL cs) = bytes? cs := by
  induction cs with
  | nil => rfl
  | cons c cs ih => simp only [V.eraseL, bytes?, byte?_erase, ih]
theorem bytes?_some {cs : List V} {ns : List Int} (h : bytes? cs = some ns) : cs.map V.value = ns.map (Value.int .u8) := by
  induction cs generalizing ns with
  | nil => simp [bytes?] at h; subst h; rfl
  | cons c cs ih =>
    simp only [bytes?] at h
    split at h
    · rename_i n ns' h1 h2
      simp only [Option.some.injEq] at h; subst h
      simp only [List.map_cons, ih h2]
      congr 1
      unfold byte? at h1
      split at h1 <;> simp_all [V.value]
    · simp at h
def strOf (ns : List Int) : ByteArray := ⟨(ns.map fun n => UInt8.ofNat n.toNat).toArray⟩
theorem strOf_fold (ns : List Int) : ns.foldl (fun (r : ByteArray) n => r.push (UInt8.ofNat n.toNat)) ByteArray.empty = strOf ns := by
  have key : ∀ (ns : List Int) (s : ByteArray), (ns.foldl (fun (r : ByteArray) n => r.push (UInt8.ofNat n.toNat)) s) = ⟨s.data ++ (ns.map fun n => UInt8.ofNat n.toNat).toArray⟩ := by
    intro ns
    induction ns with
    | nil => intro s; simp
    | cons n ns ih => intro s; rw [List.foldl_cons, ih]; simp [ByteArray.push]
  rw [key]; simp [strOf, ByteArray.empty, ByteArray.emptyWithCapacity]; rfl
/-- The cells of a slice. -/
def St.elems (σ : St) : S → Option (Nat × Nat × List V)
  | .ref d p => match (σ.mem d).get p with
    | some (.sl _ true sz n cs) => some (sz, n, cs)
    | _ => none
  | .v (.sl _ false sz n cs) => some (sz, n, cs)
  | .v (.val (.slice none 0 0)) => some (0, 0, [])
  | _ => none
theorem St.elems_erase (σ : St) (s : S) : σ.erase.elems s.erase = (σ.elems s).map fun x => (x.1, x.2.1, V.eraseL x.2.2) := by
  cases s with
  | ref d p =>
    simp only [S.erase, St.elems, St.get_erase]
    cases (σ.mem d).get p with
    | none => rfl
    | some u =>
      cases u with
      | sl g o s n cs => cases o <;> rfl
      | _ => rfl
  | v u =>
    cases u with
    | sl g o s n cs => cases o <;> rfl
    | val x =>
      simp only [S.erase, V.erase]
      unfold St.elems
      split <;> simp_all <;> rfl
    | _ => rfl
  | _ => rfl
theorem St.elems_at {C : Ctx} {σ : St} {H : List V} {ro : Nat → Prop} {a : Act} {w : World} (h : Good C σ H ro a w) {s : S} {sz n : Nat} {cs : List V} {v : Value} (he : σ.elems s = some (sz, n, cs)) (hr : s.Rel σ.mem v) (hi : s.Inl ro w) :
    ∃ ad cap, v = .slice ad n cap ∧ cs.length = n * sz ∧ n ≤ cap ∧ n ≤ 9223372036854775807 ∧ V.OkL ro w cs ∧ (cs = [] ∨ ∃ a0, ad = some a0 ∧ a0.spot = none ∧ ∀ k u, cs[k]? = some u → w.cell? (a0.add k) = some u.value) ∧ (ad = none → n = 0 ∨ cs = []) := by
  unfold St.elems at he
  split at he
  · split at he
    · rename_i d p g sz' n' cs' hg
      simp at he; obtain ⟨rfl, rfl, rfl⟩ := he
      obtain ⟨u, h1, h2, h3⟩ := hr
      rw [hg] at h1; simp at h1; subst h1
      have hok := (h.mok _).get _ hg
      have hok' := hok
      simp only [V.Ok, if_true] at hok
      have hown := hok.2.2.2.1
      refine ⟨g.addr, g.cap, h3, hok.1, hok.2.1, hok.2.2.1, hok.2.2.2.2, ?_, ?_⟩
      · cases hga : g.addr with
        | none => unfold OwnAt at hown; rw [hga] at hown; left; simpa using hown.1
        | some a0 => exact .inr ⟨a0, rfl, hok'.spot rfl hga, cells_own hok' rfl hga⟩
      · intro hga; unfold OwnAt at hown; rw [hga] at hown; right; simpa using hown.1
    · simp at he
  · rename_i g sz' n' cs'
    simp at he; obtain ⟨rfl, rfl, rfl⟩ := he
    have hok := hi.1
    simp only [V.Ok, Bool.false_eq_true, if_false] at hok
    have hro : cs' = [] ∨ ∃ a0, g.addr = some a0 ∧ ro a0.block ∧ RunAt w a0 (cs'.map V.value) := by
      rcases hok.2.2.2.1.1 with k | k
      · left; simpa using k
      · exact .inr k
    refine ⟨g.addr, g.cap, hr, hok.1, hok.2.1, hok.2.2.1, hok.2.2.2.2, ?_, ?_⟩
    · rcases hro with k | ⟨a0, k1, k2, k3⟩
      · exact .inl k
      · refine .inr ⟨a0, k1, k3.1, fun k u hk => ?_⟩
        rw [addr_add k3.1, k3.2 k (by simpa using (List.getElem?_eq_some_iff.1 hk).1)]
        simp [hk]
    · intro hga
      rcases hro with k | ⟨a0, k1, _⟩
      · exact .inr k
      · rw [hga] at k1; simp at k1
  · simp at he; obtain ⟨rfl, rfl, rfl⟩ := he
    exact ⟨none, 0, hr, rfl, by omega, by omega, trivial, .inl rfl, fun _ => .inl rfl⟩
  · simp at he
def St.toStr (σ : St) (s : S) : Option S := match σ.elems s with
  | some (sz, _, cs) => if sz = 1 then (bytes? cs).map fun ns => .v (.val (.string (strOf ns))) else none
  | none => none
theorem St.toStr_erase (σ : St) (s : S) : σ.erase.toStr s.erase = (σ.toStr s).map S.erase := by
  simp only [St.toStr, St.elems_erase]
  cases σ.elems s with
  | none => rfl
  | some x =>
    obtain ⟨sz, n, cs⟩ := x
    simp only [Option.map_some, bytes?_erase]
    split
    · cases bytes? cs <;> rfl
    · rfl
def conv (E : Env) (σ : St) (src dst : Nat) (s : S) : Option S := match E.tt src, E.tt dst with
  | some si, some di => match di.kind with
    | .int k => match s.int? with
      | some (_, n) => some (.v (.val (.int k (k.wrap n))))
      | none => none
    | .string => match si.kind with
      | .slice e => match E.tt e with
        | some ei => match ei.kind with
          | .int .u8 => σ.toStr s
          | _ => none
        | none => none
      | _ => none
    | _ => none
  | _, _ => none
theorem conv_erase (E : Env) (σ : St) (src dst : Nat) (s : S) : conv E σ.erase src dst s.erase = (conv E σ src dst s).map S.erase := by
  simp only [conv, S.int?_erase, St.toStr_erase]
  repeat' (first | rfl | split)
theorem conv_ok {E : Env} (hE : E.Ok) {C : Ctx} {σ : St} {H : List V} {ro : Nat → Prop} {a : Act} {w : World} (h : Good C σ H ro a w) {src dst : Nat} {s r : S} {v : Value} (hf : conv E σ src dst s = some r) (hr : s.Rel σ.mem v) (hi : s.Inl ro w) :
    ∃ x, (convert src dst v).run E.P w = .ok x w ∧ r.Rel σ.mem x ∧ r.Inl ro w := by
  unfold conv at hf
  split at hf
  · rename_i si di hsi hdi
    have hs := hE _ _ hsi
    have hd := (hE _ _ hdi).kind
    split at hf
    · rename_i k hk
      rw [hk] at hd
      split at hf
      · rename_i k' n hn
        simp only [Option.some.injEq] at hf; subst hf
        rw [S.int?_some hn] at hr; simp only [S.Rel, V.value] at hr; subst hr
        refine ⟨.int k (k.wrap n), ?_, rfl, trivial, rfl⟩
        have hsu : ∃ d, E.P.underlying src = some d := by
          have := hs.kind
          cases hkk : si.kind <;> simp only [hkk, TK.Fits] at this
          all_goals first | exact ⟨_, this⟩ | (obtain ⟨_, this, _⟩ := this; exact ⟨_, this⟩) | (obtain ⟨_, this⟩ := this; exact ⟨_, this⟩) | (obtain ⟨_, _, _, this⟩ := this; exact ⟨_, this⟩)
        obtain ⟨d, hsu⟩ := hsu
        simp only [convert, Sem.run_bind, run_underlying hsu, run_underlying hd, Result.andThen_ok, Conv.intToInt, Sem.run_pure]
      · simp at hf
    · rename_i hk
      rw [hk] at hd
      split at hf
      · rename_i e hke
        have hs' := hs.kind; rw [hke] at hs'
        split at hf
        · rename_i ei hei
          split at hf
          · rename_i hkei
            have he := (hE _ _ hei).kind; rw [hkei] at he
            unfold St.toStr at hf
            split at hf
            · rename_i sz n cs hel
              split at hf
              · rename_i hsz
                subst hsz
                obtain ⟨ad, cap, rfl, hlen, _, _, _, hcell, _⟩ := St.elems_at h hel hr hi
                cases hb : bytes? cs with
                | none => simp [hb] at hf
                | some ns =>
                  simp [hb] at hf; subst hf
                  have hv := bytes?_some hb
                  refine ⟨.string (strOf ns), ?_, rfl, trivial, rfl⟩
                  rw [run_convert_bytes_string w src dst e ad n cap hs' he hd]
                  have hnl : ns.length = n := by have := congrArg List.length hv; simp at this; omega
                  cases ad with
                  | none =>
                    have : cs = [] := by
                      rcases hcell with k | ⟨a0, k, _⟩
                      · exact k
                      · simp at k
                    subst this
                    simp [bytes?] at hb; subst hb
                    simp [Conv.bytesToString, strOf]; rfl
                  | some a0 =>
                    have hld : (loadCells a0 n).run E.P w = .ok (ns.map (Value.int .u8)).toArray w := by
                      have := run_loadCells_list (P := E.P) w a0 (cs.map V.value) (fun j v hj => by
                        rcases hcell with k | ⟨a1, k1, _, k2⟩
                        · subst k; simp at hj
                        · simp at k1; subst k1
                          rw [List.getElem?_map] at hj
                          cases hu : cs[j]? with
                          | none => simp [hu] at hj
                          | some u => simp [hu] at hj; subst hj; exact k2 j u hu)
                      rw [List.length_map, hlen, Nat.mul_one] at this
                      rw [this, hv]
                    rw [run_bytesToString w a0 n cap ns hld, strOf_fold]
              · simp at hf
            · simp at hf
          · simp at hf
        · simp at hf
      · simp at hf
    · simp at hf
  · simp at hf

/-! ### All operations that fill their slot alone -/
def mm (b : Builtin) (x y : S) : Option S := match x.int?, y.int? with
  | some (k, m), some (_, n) => match b with
    | .max => some (.v (.val (.int k (if n > m then n else m))))
    | .min => some (.v (.val (.int k (if n < m then n else m))))
    | _ => none
  | _, _ => none
theorem mm_erase (b : Builtin) (x y : S) : mm b x.erase y.erase = (mm b x y).map S.erase := by
  simp only [mm, S.int?_erase]
  repeat' (first | rfl | split)
def bi (E : Env) (σ : St) (b : Builtin) (ts : List Nat) (xs : List S) : Option S := match b, ts, xs with
  | .len, [t], [s] => match E.tt t with
    | some ti => match ti.kind, s.str? with
      | .string, some _ => σ.len s
      | .slice _, none => σ.len s
      | _, _ => none
    | none => none
  | .max, _, [x, y] => mm .max x y
  | .min, _, [x, y] => mm .min x y
  | _, _, _ => none
theorem bi_erase (E : Env) (σ : St) (b : Builtin) (ts : List Nat) (xs : List S) : bi E σ.erase b ts (xs.map S.erase) = (bi E σ b ts xs).map S.erase := by
  cases b <;> try rfl
  · rcases ts with _ | ⟨t, _ | ⟨t', ts⟩⟩ <;> rcases xs with _ | ⟨s, _ | ⟨s', xs⟩⟩ <;> try rfl
    simp only [bi, List.map_cons, List.map_nil, S.str?_erase, St.len_erase]
    repeat' (first | rfl | split)
  · rcases xs with _ | ⟨s, _ | ⟨s', _ | ⟨s'', xs⟩⟩⟩ <;> try rfl
    simp only [bi, List.map_cons, List.map_nil, mm_erase]
  · rcases xs with _ | ⟨s, _ | ⟨s', _ | ⟨s'', xs⟩⟩⟩ <;> try rfl
    simp only [bi, List.map_cons, List.map_nil, mm_erase]
def St.calc (E : Env) (σ : St) : Op → Option S
  | .move x => some (σ.ev x)
  | .assign x => some (σ.ev x)
  | .pick c x y => match (σ.ev c).bool? with
    | some t => some (if t then σ.ev x else σ.ev y)
    | none => none
  | .build t ps => if (ps.toList.map fun q => σ.ev q.2).all S.fine then buildOf E t (ps.toList.map fun q => (q.1, σ.ev q.2)) else none
  | .load t x => σ.ld E t (σ.ev x)
  | .nilCheck x => match σ.adr (σ.ev x) with
    | some _ => some (σ.ev x)
    | none => none
  | .binOp op t x y _ => σ.bin E op t (σ.ev x) (σ.ev y)
  | .unOp op _ x => un op (σ.ev x)
  | .convert s d x => conv E σ s d (σ.ev x)
  | .makeFunc (.func f) first caps => if first = #[] then some (.fn f (caps.toList.map σ.ev)) else none
  | .fieldAddr t x k => σ.fieldAddr E t k (σ.ev x)
  | .field t x k => partOf E t k (σ.ev x)
  | .indexAddr t x i => σ.indexAddr E t (σ.ev x) (σ.ev i)
  | .index t x i => match E.tt t with
    | some ti => match ti.kind with
      | .string => byteAt (σ.ev x) (σ.ev i)
      | _ => none
    | none => none
  | .slice t x lo hi none => match (σ.ev x).str?, E.tt t with
    | some _, some ti => match ti.kind with
      | .string => cutS (σ.ev x) (lo.map σ.ev) (hi.map σ.ev)
      | _ => none
    | none, some _ => match elemOf E t, σ.ev x with
      | some (_, ei), .v (.sl _ false sz _ _) => if ei.sz = sz then cutS (σ.ev x) (lo.map σ.ev) (hi.map σ.ev) else none
      | _, _ => none
    | _, _ => none
  | .extract x k => (σ.ev x).comp k
  | .call c => match c.callee with
    | .builtin b => bi E σ b c.argTypes.toList (c.args.toList.map σ.ev)
    | _ => none
  | _ => none

theorem St.evs_erase (σ : St) (xs : List Operand) : xs.map σ.erase.ev = (xs.map σ.ev).map S.erase := by
  rw [List.map_map]; exact List.map_congr_left fun x _ => St.ev_erase σ x
theorem St.calc_erase (E : Env) (σ : St) (o : Op) : σ.erase.calc E o = (σ.calc E o).map S.erase := by
  cases o with
  | move x => simp [St.calc, St.ev_erase]
  | assign x => simp [St.calc, St.ev_erase]
  | pick c x y =>
    simp only [St.calc, St.ev_erase, S.bool?_erase]
    cases (σ.ev c).bool? with
    | none => rfl
    | some t => cases t <;> rfl
  | build t ps =>
    have e1 : (ps.toList.map fun q => σ.erase.ev q.2) = (ps.toList.map fun q => σ.ev q.2).map S.erase := by
      rw [List.map_map]; exact List.map_congr_left fun x _ => St.ev_erase σ x.2
    have e2 : (ps.toList.map fun q => (q.1, σ.erase.ev q.2)) = (ps.toList.map fun q => (q.1, σ.ev q.2)).map fun x => (x.1, x.2.erase) := by
      rw [List.map_map]; exact List.map_congr_left fun x _ => by simp [St.ev_erase]
    simp only [St.calc, e1, e2, buildOf_erase, List.all_map, Function.comp_def, S.fine_erase]
    split <;> rfl
  | load t x => simp only [St.calc, St.ev_erase, St.ld_erase]
  | nilCheck x =>
    simp only [St.calc, St.ev_erase, St.adr_erase]
    cases σ.adr (σ.ev x) <;> rfl
  | binOp op t x y t' => simp only [St.calc, St.ev_erase, St.bin_erase]
  | unOp op t x => simp only [St.calc, St.ev_erase, un_erase]
  | convert s d x => simp only [St.calc, St.ev_erase, conv_erase]
  | makeFunc f first caps =>
    cases f <;> try rfl
    simp only [St.calc, St.evs_erase]
    split
    · simp [S.erase, S.eraseL_map]
    · rfl
  | fieldAddr t x k => simp only [St.calc, St.ev_erase, St.fieldAddr_erase]
  | field t x k => simp only [St.calc, St.ev_erase, partOf_erase]
  | indexAddr t x i => simp only [St.calc, St.ev_erase, St.indexAddr_erase]
  | index t x i =>
    simp only [St.calc, St.ev_erase, byteAt_erase]
    repeat' (first | rfl | split)
  | slice t x lo hi mx =>
    cases mx with
    | some m => rfl
    | none =>
      have e : ∀ (l : Option Operand), l.map σ.erase.ev = (l.map σ.ev).map S.erase := by intro l; cases l <;> simp [St.ev_erase]
      simp only [St.calc, St.ev_erase, e, S.str?_erase, cutS_erase]
      cases hs : (σ.ev x).str? with
      | some b =>
        cases E.tt t with
        | none => rfl
        | some ti => dsimp only; cases ti.kind <;> rfl
      | none =>
        cases E.tt t with
        | none => rfl
        | some ti =>
          cases elemOf E t with
          | none => rfl
          | some y =>
            cases hx : σ.ev x with
            | v u =>
              cases u with
              | sl g o s n cs =>
                cases o with
                | true => rfl
                | false =>
                  simp only [S.erase, V.erase]
                  rw [← hx]
                  have := cutS_erase (σ.ev x) (lo.map σ.ev) (hi.map σ.ev)
                  split <;> rfl
              | _ => rfl
            | _ => rfl
  | extract x k => simp only [St.calc, St.ev_erase, S.comp_erase]
  | call c =>
    simp only [St.calc]
    cases c.callee with
    | builtin b => simp only [St.evs_erase, bi_erase]
    | _ => rfl
  | _ => rfl

theorem mm_ok {P : Program} {w : World} {m : Nat → V} {ro : Nat → Prop} {b : Builtin} {x y r : S} {vx vy : Value} {ts : Array Nat} {ty : Nat} (hf : mm b x y = some r) (hx : x.Rel m vx) (hy : y.Rel m vy) :
    ∃ v, ((b = .max → (Builtin.max_ ts ty #[vx, vy]).run P w = .ok v w) ∧ (b = .min → (Builtin.min_ ts ty #[vx, vy]).run P w = .ok v w)) ∧ r.Rel m v ∧ r.Inl ro w := by
  unfold mm at hf
  split at hf
  · rename_i k i k' j hi hj
    rw [S.int?_some hi] at hx; rw [S.int?_some hj] at hy
    simp only [S.Rel, V.value] at hx hy; subst hx hy
    split at hf
    · simp only [Option.some.injEq] at hf; subst hf
      exact ⟨_, ⟨fun _ => by simp [Builtin.max_, Builtin.max2, V.value], fun h => by cases h⟩, rfl, trivial, rfl⟩
    · simp only [Option.some.injEq] at hf; subst hf
      exact ⟨_, ⟨(fun h => by cases h), fun _ => by simp [Builtin.min_, Builtin.min2, V.value]⟩, rfl, trivial, rfl⟩
    · simp at hf
  · simp at hf
theorem relL_map {m : Nat → V} {α : Type} (l : List α) (f : α → S) (g : α → Value) (h : ∀ x ∈ l, (f x).Rel m (g x)) : S.RelL m (l.map f) (l.map g) := by
  induction l with
  | nil => rfl
  | cons x l ih => exact ⟨_, _, rfl, h x (by simp), ih fun y hy => h y (by simp [hy])⟩
theorem inlL_map {ro : Nat → Prop} {w : World} {α : Type} (l : List α) (f : α → S) (h : ∀ x ∈ l, (f x).Inl ro w) : S.InlL ro w (l.map f) := by
  rw [S.InlL.iff]
  intro s hs
  obtain ⟨x, hx, rfl⟩ := List.mem_map.1 hs
  exact h x hx
theorem bi_ok {E : Env} (hE : E.Ok) {C : Ctx} {σ : St} {H : List V} {ro : Nat → Prop} {a : Act} {w : World} (h : Good C σ H ro a w) {b : Builtin} {ts : Array Nat} {ty : Nat} {xs : Array Operand} {cs : Array Bool} {r : S}
    (hf : bi E σ b ts.toList (xs.toList.map σ.ev) = some r) : ∃ v, (builtin b ts ty cs (xs.map a.eval)).run E.P w = .ok (.value v) w ∧ r.Rel σ.mem v ∧ r.Inl ro w := by
  obtain ⟨ts⟩ := ts
  obtain ⟨xs⟩ := xs
  simp only at hf
  cases b <;> try (simp [bi] at hf; done)
  · rcases ts with _ | ⟨t, _ | ⟨t', ts⟩⟩ <;> rcases xs with _ | ⟨x, _ | ⟨x', xs⟩⟩ <;> try (simp [bi] at hf; done)
    simp only [bi, List.map_cons, List.map_nil] at hf
    split at hf
    · rename_i ti hti
      split at hf
      · rename_i b hk hs
        obtain ⟨v, h1, h2, h3⟩ := St.len_ok (ty := ty) hE h hti (.inl hk) hf (h.evr x) (h.evInl x) (by rw [hs, hk]; simp)
        exact ⟨v, by simp [builtin, h1], h2, h3⟩
      · rename_i e hk hs
        obtain ⟨v, h1, h2, h3⟩ := St.len_ok (ty := ty) hE h hti (.inr ⟨_, hk⟩) hf (h.evr x) (h.evInl x) (by rw [hs, hk]; simp)
        exact ⟨v, by simp [builtin, h1], h2, h3⟩
      · simp at hf
    · simp at hf
  · rcases xs with _ | ⟨x, _ | ⟨x', _ | ⟨x'', xs⟩⟩⟩ <;> try (simp [bi] at hf; done)
    simp only [bi, List.map_cons, List.map_nil] at hf
    obtain ⟨v, h1, h2, h3⟩ := mm_ok (P := E.P) (w := w) (ro := ro) (ts := ts.toArray) (ty := ty) hf (h.evr x) (h.evr x')
    exact ⟨v, by simp [builtin, h1.1 rfl], h2, h3⟩
  · rcases xs with _ | ⟨x, _ | ⟨x', _ | ⟨x'', xs⟩⟩⟩ <;> try (simp [bi] at hf; done)
    simp only [bi, List.map_cons, List.map_nil] at hf
    obtain ⟨v, h1, h2, h3⟩ := mm_ok (P := E.P) (w := w) (ro := ro) (ts := ts.toArray) (ty := ty) hf (h.evr x) (h.evr x')
    exact ⟨v, by simp [builtin, h1.2 rfl], h2, h3⟩

theorem St.calc_ok {E : Env} (hE : E.Ok) {C : Ctx} {σ : St} {H : List V} {ro : Nat → Prop} {a : Act} {w : World} (h : Good C σ H ro a w) {o : Oper} {r : S} (hf : σ.calc E o.op = some r) :
    ∃ v, (execOp a.eval o).run E.P w = .ok (.value v) w ∧ r.Rel σ.mem v ∧ r.Inl ro w := by
  have lift : ∀ {x : Sem Value} {v : Value}, x.run E.P w = .ok v w → ((do pure (Next.value (← x))) : Sem Next).run E.P w = .ok (.value v) w := fun hx => by simp [hx]
  unfold execOp
  cases ho : o.op <;> rw [ho] at hf <;> simp only [St.calc] at hf <;> try (simp at hf; done)
  case move x => simp at hf; subst hf; exact ⟨_, rfl, h.evr x, h.evInl x⟩
  case assign x => simp at hf; subst hf; exact ⟨_, rfl, h.evr x, h.evInl x⟩
  case pick c x y =>
    split at hf
    · rename_i t ht
      simp only [Option.some.injEq] at hf; subst hf
      have hc := h.evr c
      rw [S.bool?_some ht] at hc; simp only [S.Rel, V.value] at hc
      refine ⟨if t then a.eval x else a.eval y, ?_, ?_, ?_⟩
      · simp [hc, asBool]
      · cases t <;> exact h.evr _
      · cases t <;> exact h.evInl _
    · simp at hf
  case build t ps =>
    split at hf
    · rename_i hall
      rw [List.all_eq_true] at hall
      obtain ⟨v, h1, h2, h3⟩ := build_ok (m := σ.mem) (ro := ro) (w := w) (vs := ps.toList.map fun q => (q.1, a.eval q.2)) hE hf (by simp) (fun i k s hi => by
        rw [List.getElem?_map] at hi
        cases hq : ps.toList[i]? with
        | none => simp [hq] at hi
        | some q =>
          simp [hq] at hi
          obtain ⟨rfl, rfl⟩ := hi
          refine ⟨hall _ (List.mem_map.2 ⟨q, List.mem_of_getElem? hq, rfl⟩), h.evInl _, a.eval q.2, ?_, h.evr _⟩
          rw [List.getElem?_map, hq]; rfl)
      refine ⟨v, lift ?_, h2, h3⟩
      rw [show (ps.map fun (x : Nat × Operand) => (x.1, a.eval x.2)) = (ps.toList.map fun q => (q.1, a.eval q.2)).toArray from by apply Array.ext'; simp]
      exact h1
    · simp at hf
  case load t x =>
    obtain ⟨v, h1, h2, h3⟩ := St.ld_ok hE h hf (h.evr x) (h.evInl x)
    exact ⟨v, lift h1, h2, h3⟩
  case nilCheck x =>
    split at hf
    · rename_i y hy
      simp only [Option.some.injEq] at hf; subst hf
      obtain ⟨ad, h1, _⟩ := St.adr_at h hy (h.evr x) (h.evInl x)
      exact ⟨a.eval x, by simp [h1], h.evr x, h.evInl x⟩
    · simp at hf
  case binOp op t x y t' =>
    obtain ⟨v, h1, rfl⟩ := St.bin_ok (ox := x) (oy := y) hE h hf (h.evr x) (h.evr y) (h.evInl x) (h.evInl y)
    exact ⟨v, lift h1, rfl, trivial, rfl⟩
  case unOp op t x =>
    obtain ⟨v, h1, rfl⟩ := un_ok (P := E.P) (w := w) hf (h.evr x)
    exact ⟨v, lift h1, rfl, trivial, rfl⟩
  case convert s d x =>
    obtain ⟨v, h1, h2, h3⟩ := conv_ok hE h hf (h.evr x) (h.evInl x)
    exact ⟨v, lift h1, h2, h3⟩
  case makeFunc f first caps =>
    cases f <;> simp only at hf <;> try (simp at hf; done)
    rename_i g
    split at hf
    · rename_i hfi
      subst hfi
      simp only [Option.some.injEq] at hf; subst hf
      refine ⟨.func (.func g) #[] (caps.map a.eval), by simp [Instr.makeFunc], ⟨caps.toList.map a.eval, by congr 1; apply Array.ext'; simp, relL_map _ _ _ fun x _ => h.evr x⟩, inlL_map _ _ fun x _ => h.evInl x⟩
    · simp at hf
  case fieldAddr t x k =>
    obtain ⟨v, h1, h2, h3⟩ := St.fieldAddr_ok hE h hf (h.evr x) (h.evInl x)
    exact ⟨v, lift h1, h2, h3⟩
  case field t x k =>
    obtain ⟨v, h1, h2, h3⟩ := partOf_ok hE hf (h.evr x) (h.evInl x)
    exact ⟨v, lift h1, h2, h3⟩
  case indexAddr t x i =>
    obtain ⟨v, h1, h2, h3⟩ := St.indexAddr_ok hE h hf (h.evr x) (h.evInl x) (h.evr i)
    exact ⟨v, lift h1, h2, h3⟩
  case index t x i =>
    split at hf
    · rename_i ti hti
      split at hf
      · rename_i hk
        obtain ⟨v, h1, h2, h3⟩ := byteAt_ok (ro := ro) (w := w) hE hti hk hf (h.evr x) (h.evr i)
        exact ⟨v, lift h1, h2, h3⟩
      · simp at hf
    · simp at hf
  case slice t x lo hi mx =>
    cases mx with
    | some m => simp at hf
    | none =>
      have rr : ∀ (l : Option Operand), (∀ s, l.map σ.ev = some s → ∃ v, l.map a.eval = some v ∧ s.Rel σ.mem v) ∧ (l.map σ.ev = none → l.map a.eval = none) := by
        intro l
        cases l with
        | none => simp
        | some y => simp; exact h.evr y
      simp only at hf
      split at hf
      · rename_i b ti hs hti
        split at hf
        · rename_i hk
          obtain ⟨v, h1, h2, h3⟩ := cutS_ok (ro := ro) (w := w) hE hti (.inl ⟨hk, by rw [hs]; simp⟩) hf (h.evr x) (h.evInl x) (rr lo).1 (rr lo).2 (rr hi).1 (rr hi).2
          exact ⟨v, lift h1, h2, h3⟩
        · simp at hf
      · rename_i ti hs hti
        split at hf
        · rename_i e ei g sz n cs hel hx
          split at hf
          · rename_i hsz
            obtain ⟨v, h1, h2, h3⟩ := cutS_ok (ro := ro) (w := w) hE hti (.inr ⟨e, ei, hel, hs, fun g' o' sz' n' cs' hx' => by rw [hx] at hx'; simp at hx'; rw [← hx'.2.2.1]; exact hsz⟩) hf (h.evr x) (h.evInl x) (rr lo).1 (rr lo).2 (rr hi).1 (rr hi).2
            exact ⟨v, lift h1, h2, h3⟩
          · simp at hf
        · simp at hf
      · simp at hf
  case extract x k =>
    obtain ⟨v, h1, h2, h3⟩ := comp_ok (P := E.P) (ro := ro) (w := w) hf (h.evr x) (h.evInl x)
    exact ⟨v, lift h1, h2, h3⟩
  case call c =>
    split at hf
    · rename_i b hb
      obtain ⟨v, h1, h2, h3⟩ := bi_ok (ty := o.type) (cs := (c.args.map fun | .const _ => true | _ => false)) hE h hf
      refine ⟨v, ?_, h2, h3⟩
      simp only [resolve, hb, invoke, Sem.run_bind, Sem.run_pure, Result.andThen_ok]
      exact h1
    · simp at hf

end Go.E
namespace Go.E

theorem blksL_perm {H H' : List V} (h : H.Perm H') : (V.blksL H).Perm (V.blksL H') := by
  rw [V.blksL_flatMap, V.blksL_flatMap]; exact h.flatMap_right _
theorem Good.perm {C : Ctx} {σ : St} {H H' : List V} {ro : Nat → Prop} {a : Act} {w : World} (h : Good C σ H ro a w) (hp : H.Perm H') : Good C σ H' ro a w :=
  { h with
    hok := by have := h.hok; rw [V.OkL_iff] at *; exact fun c hc => this c (hp.mem_iff.2 hc)
    hnd := (blksL_perm hp).nodup_iff.1 h.hnd
    hdis := fun d b hb hh => h.hdis d b hb ((blksL_perm hp).mem_iff.2 hh)
    hown := fun b hb => h.hown b ((blksL_perm hp).mem_iff.2 hb) }

/-! ### Taking operands into the hand -/
def nokill (_ : Nat) (_ : List Nat) : Bool := false
mutual
theorem S.kill_no : ∀ (s : S), s.kill nokill = s
  | .v _ => rfl
  | .ref .. => rfl
  | .adr .. => rfl
  | .radr .. => rfl
  | .junk => rfl
  | .agg ss => by simp only [S.kill, S.killL_no ss]
  | .tup ss => by simp only [S.kill, S.killL_no ss]
  | .fn _ ss => by simp only [S.kill, S.killL_no ss]
theorem S.killL_no : ∀ (ss : List S), S.killL nokill ss = ss
  | [] => rfl
  | s :: ss => by simp only [S.killL, S.kill_no s, S.killL_no ss]
end
mutual
theorem S.kill_kill (f g : Nat → List Nat → Bool) : ∀ (s : S), (s.kill f).kill g = s.kill (fun e q => f e q || g e q)
  | .v _ => rfl
  | .radr .. => rfl
  | .junk => rfl
  | .ref e q => by simp only [S.kill]; by_cases h1 : f e q = true <;> by_cases h2 : g e q = true <;> simp [h1, h2, S.kill]
  | .adr e q k => by simp only [S.kill]; by_cases h1 : f e q = true <;> by_cases h2 : g e q = true <;> simp [h1, h2, S.kill]
  | .agg ss => by simp only [S.kill, S.killL_kill f g ss]
  | .tup ss => by simp only [S.kill, S.killL_kill f g ss]
  | .fn _ ss => by simp only [S.kill, S.killL_kill f g ss]
theorem S.killL_kill (f g : Nat → List Nat → Bool) : ∀ (ss : List S), S.killL g (S.killL f ss) = S.killL (fun e q => f e q || g e q) ss
  | [] => rfl
  | s :: ss => by simp only [S.killL, S.kill_kill f g s, S.killL_kill f g ss]
end
def St.take1 (σ : St) : S → Option (V × (Nat → List Nat → Bool) × St)
  | .v (.val x) => some (.val x, nokill, σ)
  | .v (.sl g o s n cs) => some (.sl g o s n cs, nokill, σ)
  | .v (.ptr g o cs) => some (.ptr g o cs, nokill, σ)
  | .ref d p => match (σ.mem d).get p with
    | some u => if u.owned then some (u, at_ d p, (σ.kill (at_ d p)).setMem d ((σ.mem d).set p (.junk undef))) else none
    | none => none
  | _ => none
def St.takeL (F : Nat → List Nat → Bool) (σ : St) : List S → Option (List V × St)
  | [] => some ([], σ)
  | s :: ss => match σ.take1 (s.kill F) with
    | some (u, f, σ1) => match St.takeL (fun e q => F e q || f e q) σ1 ss with
      | some (us, σ2) => some (u :: us, σ2)
      | none => none
    | none => none
def St.takeO (σ : St) (x : Operand) : Option (List V × St) := if (σ.ev x).fine then σ.takeL nokill (σ.ev x).flat else none

theorem erase_setMem (σ : St) (d : Nat) (u : V) : (σ.setMem d u).erase = σ.erase.setMem d u.erase := by
  simp only [St.erase, St.setMem, St.mk.injEq, true_and]
  funext e
  by_cases h : e = d
  · subst h; simp [upd_same]
  · simp [upd_ne _ _ h]
theorem erase_kill (σ : St) (f : Nat → List Nat → Bool) : (σ.kill f).erase = σ.erase.kill f := by
  simp only [St.erase, St.kill, St.mk.injEq, and_true]
  funext t; exact S.kill_erase f _
theorem erase_put (σ : St) (d : Nat) (s : S) : (σ.put d s).erase = σ.erase.put d s.erase := by
  simp only [St.erase, St.put, St.mk.injEq, and_true]
  funext e
  by_cases h : e = d
  · subst h; simp [upd_same]
  · simp [upd_ne _ _ h]
/-- What survives a step: whatever a kill leaves stands for what it stood for. -/
def Kept (m m' : Nat → V) (f : Nat → List Nat → Bool) : Prop := ∀ e q u, f e q = false → (m e).get q = some u → ∃ u', (m' e).get q = some u' ∧ u.Alike u'
theorem Kept.rel {m m' : Nat → V} {f : Nat → List Nat → Bool} (h : Kept m m' f) {s : S} {x : Value} (hr : s.Rel m x) : (s.kill f).Rel m' x := S.Rel.kill h s x hr
theorem V.Alike.trans {a b c : V} (h : a.Alike b) (k : b.Alike c) : a.Alike c :=
  ⟨k.1.trans h.1, k.2.1.trans h.2.1, fun ho => by
    obtain ⟨h1, h2⟩ := h.2.2 ho
    obtain ⟨k1, k2⟩ := k.2.2 (h.1.trans ho)
    exact ⟨k1.trans h1, k2.trans h2⟩⟩
theorem Kept.trans {m m' m'' : Nat → V} {f g : Nat → List Nat → Bool} (h : Kept m m' f) (k : Kept m' m'' g) : Kept m m'' (fun e q => f e q || g e q) := by
  intro e q u hf hu
  simp only [Bool.or_eq_false_iff] at hf
  obtain ⟨u1, h1, h2⟩ := h e q u hf.1 hu
  obtain ⟨u2, k1, k2⟩ := k e q u1 hf.2 h1
  exact ⟨u2, k1, h2.trans k2⟩
theorem Kept.refl (m : Nat → V) : Kept m m nokill := fun _ _ u _ hu => ⟨u, hu, .refl u⟩
theorem kept_set (m : Nat → V) (d : Nat) (p : List Nat) (x : V) : Kept m (upd m d ((m d).set p x)) (at_ d p) := by
  intro e q c hf hc
  by_cases he : e = d
  · subst he
    rw [upd_same]
    exact V.get_set p _ _ q ((at_false hf).resolve_left (by simp)) c hc
  · rw [upd_ne _ _ he]; exact ⟨c, hc, .refl c⟩

theorem take1_ok {C : Ctx} {σ : St} {H : List V} {ro : Nat → Prop} {a : Act} {w : World} (h : Good C σ H ro a w) {s : S} {x : Value} {u : V} {f : Nat → List Nat → Bool} {τ : St}
    (ht : σ.erase.take1 s.erase = some (u, f, τ)) (hr : s.Rel σ.mem x) (hi : s.Inl ro w) :
    ∃ û σ', û.erase = u ∧ σ'.erase = τ ∧ Good C σ' (û :: H) ro a w ∧ û.value = x ∧ Kept σ.mem σ'.mem f := by
  have push : ∀ (u : V), u.Ok ro w → u.blks = [] → Good C σ (u :: H) ro a w := fun u h1 h2 =>
    h.hand (fun _ _ _ => rfl) (Nat.le_refl _) rfl rfl rfl ⟨h1, h.hok⟩ (by simp only [V.blksL, h2, List.nil_append]; exact h.hnd) fun b hb => .inl (by simpa [V.blksL, h2] using hb)
  cases s with
  | v u' =>
    simp only [S.erase] at ht
    have hv := hi
    cases u' with
    | val y =>
      simp only [V.erase, St.take1, Option.some.injEq, Prod.mk.injEq] at ht
      obtain ⟨rfl, rfl, rfl⟩ := ht
      exact ⟨.val y, σ, rfl, rfl, push _ hv.1 hv.2, hr.symm, Kept.refl _⟩
    | sl g o s n cs =>
      simp only [V.erase, St.take1, Option.some.injEq, Prod.mk.injEq] at ht
      obtain ⟨rfl, rfl, rfl⟩ := ht
      exact ⟨.sl g o s n cs, σ, rfl, rfl, push _ hv.1 hv.2, hr.symm, Kept.refl _⟩
    | ptr g o cs =>
      simp only [V.erase, St.take1, Option.some.injEq, Prod.mk.injEq] at ht
      obtain ⟨rfl, rfl, rfl⟩ := ht
      exact ⟨.ptr g o cs, σ, rfl, rfl, push _ hv.1 hv.2, hr.symm, Kept.refl _⟩
    | _ => simp [V.erase, St.take1] at ht
  | ref d p =>
    simp only [S.erase, St.take1, St.get_erase] at ht
    cases hg : (σ.mem d).get p with
    | none => simp [hg] at ht
    | some c =>
      simp only [hg, Option.map_some, V.owned_erase] at ht
      cases ho : c.owned with
      | false => simp [ho] at ht
      | true =>
        simp only [ho, if_true, Option.some.injEq, Prod.mk.injEq] at ht
        obtain ⟨rfl, rfl, rfl⟩ := ht
        obtain ⟨c', h1, h2, h3⟩ := hr
        rw [hg] at h1; simp at h1; subst h1
        refine ⟨c, _, rfl, ?_, h.take hg, h3.symm, kept_set _ _ _ _⟩
        rw [erase_setMem, erase_kill, V.set_erase]; rfl
  | _ => simp [S.erase, St.take1] at ht
theorem takeL_ok {C : Ctx} {ro : Nat → Prop} {a : Act} {w : World} : ∀ (ss : List S) {σ σ0 : St} {H : List V} {F : Nat → List Nat → Bool} {xs : List Value} {us : List V} {τ : St}, Good C σ H ro a w → Kept σ0.mem σ.mem F →
    σ.erase.takeL F (S.eraseL ss) = some (us, τ) → S.RelL σ0.mem ss xs → S.InlL ro w ss →
    ∃ (ûs : List V) (σ' : St) (f : Nat → List Nat → Bool), V.eraseL ûs = us ∧ σ'.erase = τ ∧ Good C σ' (ûs ++ H) ro a w ∧ ûs.map V.value = xs ∧ Kept σ.mem σ'.mem f := by
  intro ss
  induction ss with
  | nil =>
    intro σ σ0 H F xs us τ h _ ht hr _
    simp only [S.eraseL, St.takeL, Option.some.injEq, Prod.mk.injEq] at ht
    obtain ⟨rfl, rfl⟩ := ht
    simp only [S.RelL] at hr; subst hr
    exact ⟨[], σ, nokill, rfl, rfl, h, rfl, Kept.refl _⟩
  | cons s ss ih =>
    intro σ σ0 H F xs us τ h hk ht hr hi
    obtain ⟨x, xs', rfl, hr1, hr2⟩ := hr
    simp only [S.eraseL, St.takeL, ← S.kill_erase] at ht
    cases h1 : σ.erase.take1 (s.kill F).erase with
    | none => simp [h1] at ht
    | some y =>
      obtain ⟨u, f, τ1⟩ := y
      simp only [h1] at ht
      obtain ⟨û, σ1, rfl, rfl, hg1, hv1, hk1⟩ := take1_ok h h1 (hk.rel hr1) (S.Inl.kill _ _ hi.1)
      cases h2 : σ1.erase.takeL (fun e q => F e q || f e q) (S.eraseL ss) with
      | none => simp [h2] at ht
      | some y =>
        obtain ⟨us', τ2⟩ := y
        simp only [h2, Option.some.injEq, Prod.mk.injEq] at ht
        obtain ⟨rfl, rfl⟩ := ht
        obtain ⟨ûs, σ2, f2, rfl, rfl, hg2, hv2, hk2⟩ := ih hg1 (hk.trans hk1) h2 hr2 hi.2
        refine ⟨û :: ûs, σ2, _, rfl, rfl, hg2.perm ?_, by simp [hv1, hv2], hk1.trans hk2⟩
        exact List.perm_middle
theorem takeO_ok {C : Ctx} {σ : St} {H : List V} {ro : Nat → Prop} {a : Act} {w : World} (h : Good C σ H ro a w) {x : Operand} {us : List V} {τ : St} (ht : σ.erase.takeO x = some (us, τ)) :
    ∃ (ûs : List V) (σ' : St) (f : Nat → List Nat → Bool), V.eraseL ûs = us ∧ σ'.erase = τ ∧ Good C σ' (ûs ++ H) ro a w ∧ ûs.map V.value = (a.eval x).cells.toList ∧ Kept σ.mem σ'.mem f := by
  simp only [St.takeO, St.ev_erase, S.fine_erase, S.flat_erase, ← S.eraseL_map] at ht
  split at ht
  · rename_i hfine
    exact takeL_ok _ h (Kept.refl _) ht (S.fine_flat (h.evr x) hfine) (S.inl_flat (h.evInl x))
  · simp at ht
def St.takeOs (σ : St) : List Operand → Option (List (List V) × St)
  | [] => some ([], σ)
  | x :: xs => match σ.takeO x with
    | some (u, σ1) => match σ1.takeOs xs with
      | some (us, σ2) => some (u :: us, σ2)
      | none => none
    | none => none
theorem takeOs_ok {C : Ctx} {ro : Nat → Prop} {a : Act} {w : World} : ∀ (xs : List Operand) {σ : St} {H : List V} {us : List (List V)} {τ : St}, Good C σ H ro a w → σ.erase.takeOs xs = some (us, τ) →
    ∃ (ûs : List (List V)) (σ' : St), ûs.map V.eraseL = us ∧ σ'.erase = τ ∧ Good C σ' (ûs.flatten ++ H) ro a w ∧ ûs.map (List.map V.value) = xs.map fun x => (a.eval x).cells.toList := by
  intro xs
  induction xs with
  | nil =>
    intro σ H us τ h ht
    simp only [St.takeOs, Option.some.injEq, Prod.mk.injEq] at ht
    obtain ⟨rfl, rfl⟩ := ht
    exact ⟨[], σ, rfl, rfl, h, rfl⟩
  | cons x xs ih =>
    intro σ H us τ h ht
    simp only [St.takeOs] at ht
    cases h1 : σ.erase.takeO x with
    | none => simp [h1] at ht
    | some y =>
      obtain ⟨u, τ1⟩ := y
      simp only [h1] at ht
      obtain ⟨û, σ1, f, rfl, rfl, hg1, hv1, _⟩ := takeO_ok h h1
      cases h2 : σ1.erase.takeOs xs with
      | none => simp [h2] at ht
      | some y =>
        obtain ⟨us', τ2⟩ := y
        simp only [h2, Option.some.injEq, Prod.mk.injEq] at ht
        obtain ⟨rfl, rfl⟩ := ht
        obtain ⟨ûs, σ2, rfl, rfl, hg2, hv2⟩ := ih hg1 h2
        refine ⟨û :: ûs, σ2, rfl, rfl, hg2.perm ?_, by simp [hv1, hv2]⟩
        simp only [List.flatten_cons, ← List.append_assoc]
        exact List.Perm.append_right _ List.perm_append_comm

/-! ### Roots bound to slots -/
def V.roB : V → Bool
  | .val _ => true
  | .sl _ o _ _ _ => !o
  | .ptr _ o _ => !o
  | _ => false
theorem V.roB_erase (u : V) : u.erase.roB = u.roB := by cases u <;> rfl
theorem V.roB_blks {ro : Nat → Prop} {w : World} {u : V} (h : u.Ok ro w) (hr : u.roB = true) : u.blks = [] := by
  cases u with
  | val x => rfl
  | sl g o s n cs =>
    cases o with
    | true => simp [V.roB] at hr
    | false => simp only [V.Ok, Bool.false_eq_true, if_false] at h; simp [V.blks, Gh.blk, h.2.2.2.1.2]
  | ptr g o cs =>
    cases o with
    | true => simp [V.roB] at hr
    | false => simp only [V.Ok, Bool.false_eq_true, if_false] at h; simp [V.blks, Gh.blk, h.1.2.2]
  | _ => simp [V.roB] at hr
def viewA (d : Nat) (p : List Nat) : V → S
  | .agg cs => .agg (viewL d p 0 cs)
  | .fn f cs => if cs.all V.roB then .fn f (cs.map S.v) else .junk
  | u => view1 d p u
def viewTL (d : Nat) (p : List Nat) : Nat → List V → List S
  | _, [] => []
  | i, c :: cs => viewA d (p ++ [i]) c :: viewTL d p (i + 1) cs
def viewR (d : Nat) : V → S
  | .tup vs => .tup (viewTL d [] 0 vs)
  | u => viewA d [] u
def St.bind (σ : St) (d : Nat) (u : V) : St := ((σ.kill (at_ d [])).setMem d u).put d (viewR d u)
theorem S.eraseL_vs (cs : List V) : S.eraseL (cs.map S.v) = (V.eraseL cs).map S.v := by
  induction cs with
  | nil => rfl
  | cons c cs ih => simp only [List.map_cons, S.eraseL, S.erase, V.eraseL, ih]
theorem viewA_erase (d : Nat) (p : List Nat) (u : V) : (viewA d p u).erase = viewA d p u.erase := by
  cases u with
  | fn f cs =>
    have : (V.eraseL cs).all V.roB = cs.all V.roB := by
      rw [V.eraseL_map, List.all_map]
      congr 1
      funext u; exact V.roB_erase u
    simp only [viewA, V.erase, this]
    split
    · simp only [S.erase, S.eraseL_vs]
    · rfl
  | _ => simp only [viewA, S.erase, V.erase, viewL_erase, view1_erase]
theorem viewTL_erase (d : Nat) (p : List Nat) (cs : List V) : ∀ i, S.eraseL (viewTL d p i cs) = viewTL d p i (V.eraseL cs) := by
  induction cs with
  | nil => intro i; rfl
  | cons c cs ih => intro i; simp only [viewTL, S.eraseL, V.eraseL, viewA_erase, ih]
theorem viewR_erase (d : Nat) (u : V) : (viewR d u).erase = viewR d u.erase := by
  cases u <;> simp only [viewR, S.erase, V.erase, viewTL_erase, viewA_erase]
theorem erase_bind (σ : St) (d : Nat) (u : V) : (σ.bind d u).erase = σ.erase.bind d u.erase := by
  simp only [St.bind, erase_put, erase_setMem, erase_kill, viewR_erase]
theorem viewA_rel {m : Nat → V} {d : Nat} {p : List Nat} {u : V} (h : (m d).get p = some u) : (viewA d p u).Rel m u.value := by
  cases u with
  | agg cs =>
    refine ⟨cs.map V.value, by simp [V.value, V.values_map], viewL_rel cs 0 fun k c hk => ?_⟩
    rw [V.get_append, h]; simp [V.get, V.cells, hk]
  | fn f cs =>
    simp only [viewA]
    split
    · refine ⟨cs.map V.value, by simp [V.value, V.values_map], ?_⟩
      clear h
      induction cs with
      | nil => rfl
      | cons c cs ih =>
        rename_i hall
        simp only [List.all_cons, Bool.and_eq_true] at hall
        exact ⟨_, _, rfl, rfl, ih hall.2⟩
    · trivial
  | _ => exact view1_rel' h
theorem viewA_inl {ro : Nat → Prop} {w : World} {d : Nat} {p : List Nat} {u : V} (h : u.Ok ro w) : (viewA d p u).Inl ro w := by
  cases u with
  | agg cs => exact viewL_inl cs 0 h
  | fn f cs =>
    simp only [viewA]
    split
    · rename_i hall
      simp only [V.Ok] at h
      induction cs with
      | nil => trivial
      | cons c cs ih =>
        simp only [List.all_cons, Bool.and_eq_true] at hall
        exact ⟨⟨h.1, V.roB_blks h.1 hall.1⟩, ih h.2 hall.2⟩
    · trivial
  | _ => exact view1_inl (d := d) (p := p) h
theorem viewTL_rel {m : Nat → V} {d : Nat} {p : List Nat} (cs : List V) : ∀ i, (∀ k u, cs[k]? = some u → (m d).get (p ++ [i + k]) = some u) → S.RelL m (viewTL d p i cs) (cs.map V.value) := by
  induction cs with
  | nil => intro i _; rfl
  | cons c cs ih =>
    intro i h
    exact ⟨_, _, rfl, viewA_rel (by simpa using h 0 c rfl), ih (i + 1) fun k u hk => by
      have := h (k + 1) u (by simpa using hk)
      rwa [show i + (k + 1) = i + 1 + k by omega] at this⟩
theorem viewTL_inl {ro : Nat → Prop} {w : World} {d : Nat} {p : List Nat} (cs : List V) : ∀ i, V.OkL ro w cs → S.InlL ro w (viewTL d p i cs) := by
  induction cs with
  | nil => intro i _; trivial
  | cons c cs ih => intro i h; exact ⟨viewA_inl h.1, ih _ h.2⟩
theorem viewR_rel {m : Nat → V} {d : Nat} : (viewR d (m d)).Rel m (m d).value := by
  cases hu : m d with
  | tup cs =>
    refine ⟨cs.map V.value, by simp [V.value, V.values_map], viewTL_rel cs 0 fun k c hk => ?_⟩
    rw [hu]; simp [V.get, V.cells, hk]
  | _ => rw [← hu]; simp only [viewR, hu]; rw [← hu]; exact viewA_rel (by simp [V.get])
theorem viewR_inl {ro : Nat → Prop} {w : World} {d : Nat} {u : V} (h : u.Ok ro w) : (viewR d u).Inl ro w := by
  cases u with
  | tup cs => exact viewTL_inl cs 0 h
  | _ => exact viewA_inl (d := d) (p := []) h
theorem Good.bind {C : Ctx} {σ : St} {H : List V} {u : V} {ro : Nat → Prop} {a : Act} {w : World} (h : Good C σ (u :: H) ro a w) {d : Nat} (hd : C.np ≤ d) (hd2 : d < C.nt) :
    Good C (σ.bind d u) H ro (a.put (some d) u.value) w := by
  have h1 := h.root hd
  refine h1.put hd2 ?_ (viewR_inl h.hok.1)
  have := viewR_rel (m := ((σ.kill (at_ d [])).setMem d u).mem) (d := d)
  simpa [St.setMem, upd_same] using this

end Go.E
namespace Go.E

/-! ### New blocks -/
def V.one : V → Bool
  | .val x => x.oneCell'
  | .sl .. => true
  | .ptr .. => true
  | _ => false
theorem V.one_erase (v : V) : v.erase.one = v.one := by cases v <;> rfl
theorem V.one_value {v : V} (h : v.one = true) : v.value.oneCell' = true := by
  cases v <;> simp_all [V.one, V.value, Value.oneCell']
def World.more (w : World) (c : Array Value) (T : Nat) : World := { w with heap := w.heap.push (.cells c T) }
theorem more_old (w : World) (c : Array Value) (T : Nat) (b : Nat) (h : b < w.heap.size) : (World.more w c T).heap[b]? = w.heap[b]? := by
  simp only [World.more, Array.getElem?_push]; rw [if_neg (by omega)]
theorem more_new (w : World) (c : Array Value) (T : Nat) : (World.more w c T).heap[w.heap.size]? = some (.cells c T (0, 0)) := by
  show (w.heap.push _)[w.heap.size]? = _
  rw [Array.getElem?_push, if_pos rfl]
theorem more_size (w : World) (c : Array Value) (T : Nat) : (World.more w c T).heap.size = w.heap.size + 1 := by simp [World.more]
theorem ownAt_more (w : World) (c : Array Value) (T cap room : Nat) (vals : List Value) (hc : room ≤ c.size) (hv : vals.length ≤ room) (hp : ∀ k, k < vals.length → c[k]? = vals[k]?) :
    OwnAt (World.more w c T) ⟨some ⟨w.heap.size, 0, none⟩, cap⟩ room vals := by
  refine ⟨rfl, c, T, more_new w c T, by show 0 + room ≤ c.size; omega, hv, fun k hk => by rw [Nat.zero_add]; exact hp k hk⟩
/-- What is in hand is gathered in a new block. -/
theorem Good.new {C : Ctx} {σ : St} {H cs : List V} {ro : Nat → Prop} {a : Act} {w : World} (h : Good C σ (cs ++ H) ro a w) (c : Array Value) (T : Nat) {u : V} (hu : u.blks = w.heap.size :: V.blksL cs)
    (hok : V.OkL ro (World.more w c T) cs → u.Ok ro (World.more w c T)) : Good C σ (u :: H) ro a (World.more w c T) := by
  have hold : ∀ b, b < w.heap.size → (World.more w c T).heap[b]? = w.heap[b]? := fun b hb => more_old w c T b hb
  have hokl := V.OkL.frame (fun _ k => k) (fun b hb => hold b (h.rolt b hb)) _ h.hok fun b hb => hold b (h.hown b hb).2.1
  have hok' : V.OkL ro (World.more w c T) cs ∧ V.OkL ro (World.more w c T) H := by
    rw [V.OkL_iff] at hokl; rw [V.OkL_iff, V.OkL_iff]; exact ⟨fun x hx => hokl x (by simp [hx]), fun x hx => hokl x (by simp [hx])⟩
  have hnd := h.hnd
  have hlt : ∀ b ∈ V.blksL (cs ++ H), b < w.heap.size := fun b hb => (h.hown b hb).2.1
  refine h.hand (fun b hb _ => hold b hb) (by rw [more_size]; omega) rfl rfl rfl ⟨hok hok'.1, hok'.2⟩ ?_ fun b hb => ?_
  · simp only [V.blksL, hu, List.cons_append, ← V.blksL_append]
    rw [List.nodup_cons]
    exact ⟨fun hb => by have := hlt _ hb; omega, hnd⟩
  · simp only [V.blksL, hu, List.cons_append, List.mem_cons, ← V.blksL_append] at hb
    rcases hb with rfl | hb
    · exact .inr ⟨Nat.le_refl _, by rw [more_size]; omega⟩
    · exact .inl hb
theorem Good.newPtr {C : Ctx} {σ : St} {H cs : List V} {ro : Nat → Prop} {a : Act} {w : World} (h : Good C σ (cs ++ H) ro a w) (T : Nat) :
    Good C σ (.ptr ⟨some ⟨w.heap.size, 0, none⟩, 0⟩ true cs :: H) ro a (World.more w (cs.map V.value).toArray T) :=
  h.new _ T (by simp [V.blks, Gh.blk]) fun hcs => by
    simp only [V.Ok, if_true]
    exact ⟨⟨by simp, ownAt_more w _ T _ _ _ (by simp) (by simp) fun k hk => by simp⟩, hcs⟩
theorem Good.newSl {C : Ctx} {σ : St} {H cs : List V} {ro : Nat → Prop} {a : Act} {w : World} (h : Good C σ (cs ++ H) ro a w) (T : Nat) {c : Array Value} {sz n cap : Nat} (hl : cs.length = n * sz) (hn : n ≤ cap) (hm : n ≤ 9223372036854775807)
    (hc : cap * sz ≤ c.size) (hp : ∀ k, k < cs.length → c[k]? = (cs.map V.value)[k]?) :
    Good C σ (.sl ⟨some ⟨w.heap.size, 0, none⟩, cap⟩ true sz n cs :: H) ro a (World.more w c T) :=
  h.new _ T (by simp [V.blks, Gh.blk]) fun hcs => by
    simp only [V.Ok, if_true]
    exact ⟨hl, hn, hm, ownAt_more w _ T _ _ _ hc (by rw [List.length_map, hl]; exact Nat.mul_le_mul_right _ hn) fun k hk => hp k (by simpa using hk), hcs⟩

/-! ### The operations that make memory, on the machine -/
theorem run_newRow {P : Program} (w : World) (T : Nat) (c : Array Value) : (newRow T c).run P w = .ok ⟨w.heap.size, 0, none⟩ (World.more w c T) := by
  simp [newRow, newObj, Sem.run, World.more]
theorem run_alloc {E : Env} {t : Nat} {ti : TI} (hf : ti.Fits E.P t) (w : World) : (Instr.alloc t true (.tuple #[])).run E.P w = .ok (.pointer (some ⟨w.heap.size, 0, none⟩)) (World.more w ti.zero.toArray t) := by
  obtain ⟨j, z, h1, h2, h3, h4, h5⟩ := hf.info
  simp [Instr.alloc, zeroValue, run_typeInfo_some h1, h4, newVar, run_newRow, h5]
theorem run_box {P : Program} (t : Nat) (x : Value) (w : World) : (Instr.box t x).run P w = .ok (.pointer (some ⟨w.heap.size, 0, none⟩)) (World.more w x.cells t) := by
  simp [Instr.box, newVar, run_newRow]
theorem fill_row (sz : Nat) : ∀ (vs : List Value) (i : Nat) (cells : Array Value) (ps : List (Nat × Value)), ps = (vs.zipIdx i).map (fun x => (x.2, x.1)) → (∀ v ∈ vs, v.cells.size = sz) → (i + vs.length) * sz ≤ cells.size →
    ∃ cells', Instr.fill (fun i => some (i * sz, sz)) cells ps = some cells' ∧ cells'.toList = cells.toList.take (i * sz) ++ (vs.map (·.cells.toList)).flatten ++ cells.toList.drop ((i + vs.length) * sz) := by
  intro vs
  induction vs with
  | nil => intro i cells ps hps _ _; subst hps; exact ⟨cells, rfl, by simp⟩
  | cons v vs ih =>
    intro i cells ps hps hsz hle
    subst hps
    have hv := hsz v (by simp)
    simp only [List.length_cons] at hle
    have e1 : (i + 1) * sz = i * sz + sz := Nat.succ_mul i sz
    have e2 : (i + (vs.length + 1)) * sz = (i + 1 + vs.length) * sz := by congr 1; omega
    have e3 : (i + 1) * sz ≤ (i + 1 + vs.length) * sz := Nat.mul_le_mul_right _ (by omega)
    simp only [List.zipIdx_cons, List.map_cons, Instr.fill, hv]
    rw [if_neg (by simp; omega)]
    have he := fill_one cells (i * sz) v.cells.toList (by simp [hv]; omega)
    simp only [Array.toArray_toList] at he
    have hsize : (v.cells.zipIdx.foldl (fun cs (x : Value × Nat) => cs.setIfInBounds (i * sz + x.2) x.1) cells).size = cells.size := by
      have := congrArg List.length he
      simp only [Array.length_toList, List.length_append, List.length_take, List.length_drop, hv] at this
      rw [this]; omega
    obtain ⟨cells', h1, h2⟩ := ih (i + 1) _ _ rfl (fun x hx => hsz x (by simp [hx])) (by rw [hsize, ← e2]; exact hle)
    refine ⟨cells', h1, ?_⟩
    rw [h2, he]
    have hlen : (cells.toList.take (i * sz) ++ v.cells.toList).length = (i + 1) * sz := by simp [hv]; omega
    rw [List.take_append_of_le_length (by rw [hlen]; exact Nat.le_refl _), List.take_of_length_le (by rw [hlen]; exact Nat.le_refl _)]
    rw [List.drop_append, hlen, List.drop_drop]
    have : (i + 1 + vs.length) * sz ≥ (i + 1) * sz := e3
    rw [List.drop_of_length_le (by rw [hlen]; exact e3)]
    simp only [List.flatten_cons, List.nil_append, List.length_cons, List.append_assoc, hv, Array.length_toList]
    congr 3
    congr 1
    rw [e2]; omega
theorem run_buildSlice {E : Env} {t e : Nat} {ei : TI} (hE : E.Ok) (he : elemOf E t = some (e, ei)) (w : World) (vs : List Value) (ps : Array (Nat × Value)) (hps : ps.toList = (vs.zipIdx 0).map (fun x => (x.2, x.1))) (hsz : ∀ v ∈ vs, v.cells.size = ei.sz) (hle : vs.length * ei.sz ≤ 16777216) :
    (Instr.buildSlice t vs.length ps).run E.P w = .ok (.slice (some ⟨w.heap.size, 0, none⟩) vs.length vs.length) (World.more w (vs.map (·.cells.toList)).flatten.toArray e) := by
  obtain ⟨hu, hf, hpos⟩ := elemOf_some hE he
  obtain ⟨j, z, h1, h2, h3, h4, h5⟩ := hf.info
  have hzl : ∀ (A : Array Value), A.size = vs.length * ei.sz → ∃ cells', Instr.fill (fun i => some (i * ei.sz, ei.sz)) A ps.toList = some cells' ∧ cells' = (vs.map (·.cells.toList)).flatten.toArray := by
    intro A hA
    obtain ⟨cells', k1, k2⟩ := fill_row ei.sz vs 0 A _ hps hsz (by rw [hA]; simp)
    refine ⟨cells', k1, ?_⟩
    apply Array.ext'
    rw [k2]
    simp only [Nat.zero_mul, List.take_zero, List.nil_append, Nat.zero_add]
    rw [List.drop_of_length_le (by simp [hA])]
    simp
  simp only [Instr.buildSlice, Sem.run_bind, run_underlying hu, Result.andThen_ok, sizeOf, run_typeInfo_some h1, h2, Sem.run_pure]
  rw [if_neg (by omega)]
  by_cases h0 : vs.length * ei.sz = 0
  · obtain ⟨cells', k1, rfl⟩ := hzl ((Array.range (vs.length * ei.sz)).map (fun i => (#[] : Array Value)[i % (#[] : Array Value).size]!)) (by simp)
    simp only [h0, if_true, Sem.run_pure, Result.andThen_ok, Sem.run_bind] at k1 ⊢
    simp only [k1, Sem.run_bind, run_newRow, Result.andThen_ok, Sem.run_pure]
  · obtain ⟨cells', k1, rfl⟩ := hzl ((Array.range (vs.length * ei.sz)).map (fun i => z.cells[i % z.cells.size]!)) (by simp)
    simp only [h0, if_false, Sem.run_pure, Result.andThen_ok, Sem.run_bind, zeroValue, run_typeInfo_some h1, h4]
    simp only [k1, Sem.run_bind, run_newRow, Result.andThen_ok, Sem.run_pure]

theorem getElem?_rep {α : Type} (l : List α) : ∀ (n k : Nat), k < n * l.length → (List.replicate n l).flatten[k]? = l[k % l.length]? := by
  intro n
  induction n with
  | zero => intro k h; simp at h
  | succ n ih =>
    intro k h
    rw [Nat.succ_mul] at h
    simp only [List.replicate_succ, List.flatten_cons, List.getElem?_append]
    by_cases hk : k < l.length
    · rw [if_pos hk, Nat.mod_eq_of_lt hk]
    · rw [if_neg hk, ih (k - l.length) (by omega), ← Nat.mod_eq_sub_mod (by omega)]
theorem run_makeS {E : Env} {t e : Nat} {ei : TI} (hE : E.Ok) (he : elemOf E t = some (e, ei)) (w : World) (k : IntKind) (n : Nat) (hle : n * ei.by_ ≤ 281474976710656) (hn : n ≤ 9223372036854775807) :
    ∃ c : Array Value, (Instr.makeSlice t (.int k n) (.int k n)).run E.P w = .ok (.slice (some ⟨w.heap.size, 0, none⟩) n n) (World.more w c e) ∧ n * ei.sz ≤ c.size ∧ ∀ k, k < n * ei.sz → c[k]? = (List.replicate n ei.zero).flatten[k]? := by
  obtain ⟨hu, hf, hpos⟩ := elemOf_some hE he
  obtain ⟨j, z, h1, h2, h3, h4, h5⟩ := hf.info
  have hlen := hf.len
  have hb : ((j.bytes : Int) * (n : Int)) ≤ 281474976710656 := by
    have h : ((ei.by_ * n : Nat) : Int) ≤ 281474976710656 := by
      have := Int.ofNat_le.2 (Nat.mul_comm n ei.by_ ▸ hle)
      exact this
    rw [h3, ← Int.natCast_mul]; exact h
  have hr := run_make (P := E.P) w t e j z hu h1 h4 k k n n (by omega) (Int.le_refl _) hb (by omega)
  simp only [Int.toNat_natCast] at hr
  refine ⟨_, hr, by rw [size_madeCells, h2]; exact Nat.le_refl _, fun k hk => ?_⟩
  have hl0 : 0 < ei.zero.length := by omega
  rw [getElem?_rep ei.zero n k (by rw [hlen]; exact hk)]
  have hmod : k % ei.zero.length < ei.zero.length := Nat.mod_lt _ hl0
  have hk' : k < n * j.size := by rw [h2]; exact hk
  simp only [madeCells, Array.getElem?_map, Array.getElem?_range, hk', if_true, Option.map_some, h5, List.size_toArray]
  rw [List.getElem?_eq_getElem hmod]
  simp [hmod]

end Go.E
namespace Go.E

/-! ### Stores -/
def putV {α : Type} (cs : List α) (k : Nat) (us : List α) : List α := cs.take k ++ us ++ cs.drop (k + us.length)
theorem putV_map {α β : Type} (f : α → β) (cs : List α) (k : Nat) (us : List α) : (putV cs k us).map f = putV (cs.map f) k (us.map f) := by simp [putV, List.map_take, List.map_drop]
theorem putV_length {α : Type} {cs : List α} {k : Nat} {us : List α} (h : k + us.length ≤ cs.length) : (putV cs k us).length = cs.length := by simp [putV]; omega
theorem putV_get {α : Type} {cs : List α} {k : Nat} {us : List α} (h : k + us.length ≤ cs.length) (j : Nat) : (putV cs k us)[j]? = if k ≤ j ∧ j < k + us.length then us[j - k]? else cs[j]? := by
  simp only [putV, List.append_assoc, List.getElem?_append, List.length_take, List.getElem?_take, List.getElem?_drop]
  have hm : min k cs.length = k := by omega
  rw [hm]
  by_cases h1 : j < k
  · rw [if_pos h1, if_pos h1, if_neg (by omega)]
  · rw [if_neg h1]
    by_cases h2 : j - k < us.length
    · rw [if_pos h2, if_pos (by omega)]
    · rw [if_neg h2, if_neg (by omega)]; congr 1; omega
/-- What leads into some cells of a node. -/
def on_ (d : Nat) (p : List Nat) (k n : Nat) (e : Nat) (q : List Nat) : Bool := decide (e = d) && p.isPrefixOf q && (match q.drop p.length with | [] => false | j :: _ => decide (k ≤ j) && decide (j < k + n))
theorem prefix_drop {p q : List Nat} (h : p <+: q) : q = p ++ q.drop p.length := by
  obtain ⟨r, rfl⟩ := h; simp
theorem V.cells_withCells (v : V) (cs : List V) (h : v.cells ≠ []) : (v.withCells cs).cells = cs := by
  unfold V.cells V.withCells at *
  split at h <;> simp_all
theorem kept_on {m : Nat → V} {d : Nat} {p : List Nat} {c : V} {k : Nat} {us : List V} (hc : (m d).get p = some c) (hk : k + us.length ≤ c.cells.length) (hne : c.cells ≠ []) :
    Kept m (upd m d ((m d).set p (c.withCells (putV c.cells k us)))) (on_ d p k us.length) := by
  intro e q u hf hu
  by_cases he : e = d
  · subst he
    rw [upd_same]
    by_cases hp : p <+: q
    · have hq := prefix_drop hp
      rw [hq, V.get_append, hc] at hu
      rw [hq, V.get_append, V.get_set_same p _ hc]
      simp only [Option.bind_some] at hu ⊢
      cases hr : q.drop p.length with
      | nil => rw [hr] at hu; simp [V.get] at hu; subst hu; exact ⟨_, rfl, V.alike_withCells _ _⟩
      | cons j r =>
        rw [hr] at hu
        simp only [on_, decide_true, Bool.true_and, List.isPrefixOf_iff_prefix.2 hp, hr] at hf
        simp only [V.get, V.cells_withCells _ _ hne] at hu ⊢
        rw [putV_get hk, if_neg (by simp at hf; omega)]
        exact ⟨u, hu, .refl u⟩
    · exact V.get_set p _ _ q hp u hu
  · rw [upd_ne _ _ he]; exact ⟨u, hu, .refl u⟩
theorem blksL_put (cs : List V) (k : Nat) (us : List V) : V.blksL (putV cs k us) = V.blksL (cs.take k) ++ V.blksL us ++ V.blksL (cs.drop (k + us.length)) := by
  simp [putV, V.blksL_append]
theorem blksL_split (cs : List V) (k n : Nat) : V.blksL cs = V.blksL (cs.take k) ++ V.blksL ((cs.drop k).take n) ++ V.blksL (cs.drop (k + n)) := by
  rw [← V.blksL_append, ← V.blksL_append]
  congr 1
  rw [List.append_assoc, ← List.drop_drop, List.take_append_drop, List.take_append_drop]
/-- An owned node: its memory. -/
theorem own_mem {ro : Nat → Prop} {w : World} {c : V} {a0 : Addr} (h : c.Ok ro w) (ho : c.owned = true) (ha : c.addr = some a0) :
    ∃ cur T room, a0.spot = none ∧ w.heap[a0.block]? = some (.cells cur T (0, 0)) ∧ a0.off + room ≤ cur.size ∧ c.cells.length ≤ room ∧ (∀ k, k < c.cells.length → cur[a0.off + k]? = (c.cells.map V.value)[k]?) ∧
      (∀ (w' : World) (cur' : Array Value) (cs' : List V), w'.heap[a0.block]? = some (.cells cur' T (0, 0)) → cur'.size = cur.size → cs'.length = c.cells.length → (∀ k, k < c.cells.length → cur'[a0.off + k]? = (cs'.map V.value)[k]?) → V.OkL ro w' cs' → (c.withCells cs').Ok ro w') ∧ c.head = [a0.block] := by
  cases c <;> simp [V.owned] at ho
  · rename_i g own sz n cs
    subst ho
    simp only [V.addr] at ha
    simp only [V.Ok, if_true] at h
    obtain ⟨h1, h2, h2', h3, h4⟩ := h
    unfold OwnAt at h3; rw [ha] at h3
    obtain ⟨k0, cur, T, k1, k2, k3, k4⟩ := h3
    refine ⟨cur, T, g.cap * sz, k0, k1, k2, by simpa [V.cells] using k3, by simpa [V.cells] using k4, fun w' cur' cs' e1 e2 e3 e4 e5 => ?_, by simp [V.head, Gh.blk, ha]⟩
    simp only [V.withCells, V.Ok, if_true]
    simp only [V.cells] at e3 e4
    refine ⟨by rw [e3, h1], h2, h2', ?_, e5⟩
    unfold OwnAt; rw [ha]
    exact ⟨k0, cur', T, e1, by omega, by simp at k3 ⊢; omega, fun k hk => e4 k (by simp at hk; omega)⟩
  · rename_i g own cs
    subst ho
    simp only [V.addr] at ha
    simp only [V.Ok, if_true] at h
    obtain ⟨⟨h1, h3⟩, h4⟩ := h
    unfold OwnAt at h3; rw [ha] at h3
    obtain ⟨k0, cur, T, k1, k2, k3, k4⟩ := h3
    refine ⟨cur, T, cs.length, k0, k1, k2, by simp [V.cells], by simpa [V.cells] using k4, fun w' cur' cs' e1 e2 e3 e4 e5 => ?_, by simp [V.head, Gh.blk, ha]⟩
    simp only [V.withCells, V.Ok, if_true]
    simp only [V.cells] at e3 e4
    refine ⟨⟨h1, ?_⟩, e5⟩
    unfold OwnAt; rw [ha]
    exact ⟨k0, cur', T, e1, by omega, by simp [e3], fun k hk => e4 k (by simp at hk; omega)⟩
/-- A store of cells into a node of the call's own. -/
theorem store_ok {C : Ctx} {σ : St} {us : List V} {ro : Nat → Prop} {a : Act} {w : World} (h : Good C σ us ro a w) {d : Nat} {p : List Nat} {k : Nat} {c : V} {a0 : Addr} (hc : (σ.mem d).get p = some c) (ho : c.owned = true) (ha : c.addr = some a0)
    (hk : k + us.length ≤ c.cells.length) (hpos : 0 < us.length) (hone : us.all V.one = true) {P : Program} :
    ∃ w', (storeCells (a0.add k) (us.map V.value)).run P w = .ok () w' ∧ Good C ((σ.kill (on_ d p k us.length)).setMem d ((σ.mem d).set p (c.withCells (putV c.cells k us)))) [] ro a w' := by
  have hok := (h.mok d).get p hc
  have hne : c.cells ≠ [] := by intro e; rw [e, List.length_nil] at hk; omega
  obtain ⟨cur, T, room, hsp, hheap, hfit, hlen, hcells, hback, hhead⟩ := own_mem hok ho ha
  have hst := run_storeCells_at P a0.block (a0.off + k) T (us.map V.value) 0 cur w hheap (by simp; omega) (fun v hv => by
    obtain ⟨u, hu, rfl⟩ := List.mem_map.1 hv
    exact V.one_value (List.all_eq_true.1 hone u hu))
  rw [← addr_add hsp] at hst
  refine ⟨_, hst, ?_⟩
  generalize hcur' : (cur.toList.take (a0.off + k + 0) ++ us.map V.value ++ cur.toList.drop (a0.off + k + 0 + (us.map V.value).length)).toArray = cur'
  have hnew : (w.setRow a0.block cur').heap[a0.block]? = some (.cells cur' T (0, 0)) := setRow_heap w a0.block cur cur' T (0, 0) hheap
  have hother : ∀ b, b ≠ a0.block → (w.setRow a0.block cur').heap[b]? = w.heap[b]? := fun b hb => setRow_other w a0.block b cur' hb
  have hb0 : a0.block ∈ c.blks := by rw [V.blks_cells c hne, hhead]; simp
  have hbm : a0.block ∈ (σ.mem d).blks := by rw [V.blks_get p hc]; simp [hb0]
  have hcnd : c.blks.Nodup := (nodup_mid (V.blks_get p hc ▸ h.mnd d)).1
  have hcsub : ∀ b ∈ c.blks, b ∈ (σ.mem d).blks := fun b hb => by rw [V.blks_get p hc]; simp [hb]
  rw [V.blks_cells c hne, hhead] at hcnd
  simp only [List.singleton_append, List.nodup_cons] at hcnd
  have hcells_sub : ∀ x ∈ putV c.cells k us, x ∈ c.cells ∨ x ∈ us := fun x hx => by
    simp only [putV, List.mem_append] at hx
    rcases hx with (hx | hx) | hx
    · exact .inl (List.mem_of_mem_take hx)
    · exact .inr hx
    · exact .inl (List.mem_of_mem_drop hx)
  have hblk' : (c.withCells (putV c.cells k us)).blks = a0.block :: (V.blksL (c.cells.take k) ++ V.blksL us ++ V.blksL (c.cells.drop (k + us.length))) := by
    rw [V.blks_withCells c _ hne, hhead, blksL_put]; rfl
  have hmemin : ∀ b, b ∈ V.blksL (c.cells.take k) ∨ b ∈ V.blksL (c.cells.drop (k + us.length)) → b ∈ V.blksL c.cells := fun b hb => by
    rw [blksL_split c.cells k us.length]; simp only [List.mem_append]; rcases hb with hb | hb <;> simp [hb]
  have husne : ∀ b ∈ V.blksL us, b ≠ a0.block ∧ b ∉ (σ.mem d).blks := fun b hb => ⟨fun e => h.hdis d b (e ▸ hbm) hb, fun e => h.hdis d b e hb⟩
  have hcok : V.OkL ro (w.setRow a0.block cur') c.cells := by
    have := hok.cells
    refine V.OkL.frame (fun _ k => k) (fun b hr => hother b fun e => (h.mown d a0.block hbm).1 (e ▸ hr)) _ this fun b hb => hother b fun e => hcnd.1 (e ▸ hb)
  have huok : V.OkL ro (w.setRow a0.block cur') us := V.OkL.frame (fun _ k => k) (fun b hr => hother b fun e => (h.mown d a0.block hbm).1 (e ▸ hr)) _ h.hok fun b hb => hother b (husne b hb).1
  refine h.modify hc ?_ (kept_on hc hk hne) (fun b _ hb _ => hother b fun e => hb (e ▸ hb0)) (by rw [size_setRow]; exact Nat.le_refl _) rfl rfl rfl ⟨?_, trivial⟩ ?_ ?_
  · cases c <;> simp [V.owned] at ho <;> subst ho <;> rfl
  · refine hback _ cur' (putV c.cells k us) hnew ?_ (putV_length hk) (fun j hj => ?_) ?_
    · subst hcur'; simp; omega
    · subst hcur'
      rw [putV_map, putV_get (by simpa using hk)]
      simp only [List.getElem?_toArray, Nat.add_zero]
      have := putV_get (cs := cur.toList) (k := a0.off + k) (us := us.map V.value) (by simp; omega) (a0.off + j)
      unfold putV at this
      rw [this]
      simp only [List.length_map]
      by_cases hc1 : k ≤ j ∧ j < k + us.length
      · rw [if_pos (by omega), if_pos hc1]; congr 1; omega
      · rw [if_neg (by omega), if_neg hc1, Array.getElem?_toList, hcells j hj]
    · rw [V.OkL_iff] at hcok huok ⊢
      intro x hx
      rcases hcells_sub x hx with hx | hx
      · exact hcok x hx
      · exact huok x hx
  · simp only [V.blksL, List.append_nil, hblk']
    rw [List.nodup_cons]
    refine ⟨fun hb => ?_, ?_⟩
    · simp only [List.mem_append] at hb
      rcases hb with (hb | hb) | hb
      · exact hcnd.1 (hmemin _ (.inl hb))
      · exact (husne _ hb).1 rfl
      · exact hcnd.1 (hmemin _ (.inr hb))
    · have hn := hcnd.2
      rw [blksL_split c.cells k us.length] at hn
      have hn2 := (nodup_mid hn).2.2
      simp only [List.append_assoc, List.nodup_append, List.mem_append] at hn2 ⊢
      refine ⟨hn2.1, ⟨h.hnd, hn2.2.1, fun x hx y hy e => ?_⟩, fun x hx y hy e => ?_⟩
      · subst e
        have : x ∈ c.blks := by rw [V.blks_cells c hne, List.mem_append]; exact .inr (hmemin x (.inr hy))
        exact (husne x hx).2 (hcsub x this)
      · subst e
        rcases hy with hy | hy
        · have : x ∈ c.blks := by rw [V.blks_cells c hne, List.mem_append]; exact .inr (hmemin x (.inl hx))
          exact (husne x hy).2 (hcsub x this)
        · exact hn2.2.2 x hx x hy rfl
  · intro b hb
    simp only [V.blksL, List.append_nil, hblk', List.mem_cons, List.mem_append] at hb
    rcases hb with rfl | (hb | hb) | hb
    · exact .inl hb0
    · refine .inl ?_; rw [V.blks_cells c hne, List.mem_append]; exact .inr (hmemin b (.inl hb))
    · exact .inr (.inl hb)
    · refine .inl ?_; rw [V.blks_cells c hne, List.mem_append]; exact .inr (hmemin b (.inr hb))

end Go.E
namespace Go.E

/-! ### append -/
theorem run_append_none {P : Program} (w : World) (t ty e : TypeId) (i : TypeInfo) (ht : P.underlying t = some (.slice e)) (hi : P.info? e = some i) (base : Option Addr) (n cap c : Nat) (h : n ≤ cap) :
    (Builtin.append_ #[t, t] ty #[.slice base n cap, .slice none 0 c]).run P w = .ok (.slice base n cap) w := by
  cases base with
  | none => simp [Builtin.append_, run_underlying ht, sizeOf, typeInfo, hi, Builtin.lenOf, h, Builtin.firstCells]
  | some a => simp [Builtin.append_, run_underlying ht, sizeOf, typeInfo, hi, Builtin.lenOf, h, Builtin.firstCells, storeCells]
theorem run_append_zero {P : Program} (w : World) (t ty e : TypeId) (i : TypeInfo) (ht : P.underlying t = some (.slice e)) (hi : P.info? e = some i) (base : Option Addr) (a : Addr) (n cap c : Nat) (h : n ≤ cap) :
    (Builtin.append_ #[t, t] ty #[.slice base n cap, .slice (some a) 0 c]).run P w = .ok (.slice base n cap) w := by
  have hf := run_firstCells_some (P := P) w i.size 0 a 0 c [] (by simp) (by simp)
  cases base with
  | none => simp [Builtin.append_, run_underlying ht, sizeOf, typeInfo, hi, Builtin.lenOf, h, hf]
  | some b => simp [Builtin.append_, run_underlying ht, sizeOf, typeInfo, hi, Builtin.lenOf, h, hf, storeCells]
theorem run_append_room' {P : Program} (w : World) (t ty e : TypeId) (i : TypeInfo) (ht : P.underlying t = some (.slice e)) (hi : P.info? e = some i)
    (g o sLen sCap : Nat) (cur : Array Value) (T : Nat) (hg : w.heap[g]? = some (.cells cur T (0, 0)))
    (a : Addr) (m c : Nat) (news : List Value) (hl : news.length = m * i.size) (hnews : ∀ j u, news[j]? = some u → w.cell? (a.add j) = some u) (h1 : ∀ u ∈ news, u.oneCell' = true)
    (hroom : sLen + m ≤ sCap) (hfit : o + sLen * i.size + news.length ≤ cur.size) :
    (Builtin.append_ #[t, t] ty #[.slice (some ⟨g, o, none⟩) sLen sCap, .slice (some a) m c]).run P w =
      .ok (.slice (some ⟨g, o, none⟩) (sLen + m) sCap) (w.setRow g (cur.toList.take (o + sLen * i.size) ++ news ++ cur.toList.drop (o + sLen * i.size + news.length)).toArray) := by
  have hf := run_firstCells_some (P := P) w i.size m a m c news hl hnews
  have hst := run_storeCells_at P g (o + sLen * i.size) T news 0 cur w hg (by simpa using hfit) h1
  simp only [Nat.add_zero] at hst
  have hadd : (⟨g, o, none⟩ : Addr).add (sLen * i.size) = ⟨g, o + sLen * i.size, none⟩ := addr_add rfl _
  simp [Builtin.append_, run_underlying ht, sizeOf, typeInfo, hi, Builtin.lenOf, hroom, hf, hadd, hst]

theorem V.Ok.slcells {ro : Nat → Prop} {w : World} {g : Gh} {o : Bool} {sz n : Nat} {cs : List V} (h : (V.sl g o sz n cs).Ok ro w) :
    cs.length = n * sz ∧ n ≤ g.cap ∧ n ≤ 9223372036854775807 ∧ V.OkL ro w cs ∧ (g.addr = none → cs = []) ∧ ∀ a, g.addr = some a → cs ≠ [] → a.spot = none ∧ ∀ k u, (cs.map V.value)[k]? = some u → w.cell? (a.add k) = some u := by
  have hh := h
  simp only [V.Ok] at h
  obtain ⟨h1, h2, h3, h4, h5⟩ := h
  refine ⟨h1, h2, h3, h5, fun hg => ?_, fun a hg hne => ?_⟩
  · cases o with
    | true => simp only [if_true] at h4; unfold OwnAt at h4; rw [hg] at h4; simpa using h4.1
    | false =>
      simp only [Bool.false_eq_true, if_false] at h4
      rcases h4.1 with k | ⟨a, k, _⟩
      · simpa using k
      · rw [hg] at k; simp at k
  · cases o with
    | true =>
      refine ⟨hh.spot rfl hg, fun k u hu => ?_⟩
      rw [List.getElem?_map] at hu
      cases hc : cs[k]? with
      | none => simp [hc] at hu
      | some x => simp [hc] at hu; subst hu; exact cells_own hh rfl hg k x hc
    | false =>
      simp only [Bool.false_eq_true, if_false] at h4
      rcases h4.1 with k | ⟨a', k1, k2, k3⟩
      · simp at k; exact absurd k hne
      · rw [hg] at k1; simp at k1; subst k1
        refine ⟨k3.1, fun k u hu => ?_⟩
        rw [addr_add k3.1, k3.2 k (List.getElem?_eq_some_iff.1 hu).1]
        exact hu

/-- A slice in the machine, of m elements of sz cells each: ds. -/
def Reads (w : World) (yv : Value) (sz m : Nat) (ds : List V) : Prop := ∃ gy : Gh, yv = .slice gy.addr m gy.cap ∧ m ≤ gy.cap ∧ ds.length = m * sz ∧ (gy.addr = none → ds = []) ∧
  ∀ ay, gy.addr = some ay → ds ≠ [] → ay.spot = none ∧ ∀ k u, (ds.map V.value)[k]? = some u → w.cell? (ay.add k) = some u
theorem V.Ok.reads {ro : Nat → Prop} {w : World} {g : Gh} {o : Bool} {sz n : Nat} {cs : List V} (h : (V.sl g o sz n cs).Ok ro w) : Reads w (V.sl g o sz n cs).value sz n cs :=
  have ⟨h1, h2, _, _, h5, h6⟩ := h.slcells
  ⟨g, rfl, h2, h1, h5, h6⟩
theorem Good.opened {C : Ctx} {σ : St} {H cs : List V} {g : Gh} {o : Bool} {sz n : Nat} {ro : Nat → Prop} {a : Act} {w : World} (h : Good C σ (.sl g o sz n cs :: H) ro a w) : Good C σ (cs ++ H) ro a w := by
  refine h.hand (fun _ _ _ => rfl) (Nat.le_refl _) rfl rfl rfl ?_ ?_ fun b hb => .inl ?_
  · have h1 := h.hok.1.slcells.2.2.2.1
    have h2 := h.hok.2
    rw [V.OkL_iff] at h1 h2 ⊢
    intro x hx
    rcases List.mem_append.1 hx with hx | hx
    · exact h1 x hx
    · exact h2 x hx
  · have := h.hnd
    simp only [V.blksL, V.blks, List.nodup_append, List.mem_append, V.blksL_append] at this ⊢
    exact ⟨this.1.2.1, this.2.1, fun x hx y hy => this.2.2 x (.inr hx) y hy⟩
  · simp only [V.blksL, V.blks, List.mem_append, V.blksL_append] at hb ⊢
    rcases hb with hb | hb <;> simp [hb]
/-- append, of what is in hand: the slice, and the elements to come. -/
theorem append_hand {E : Env} (hE : E.Ok) {C : Ctx} {σ : St} {ro : Nat → Prop} {a : Act} {w : World} {t e ty : Nat} {ei : TI} (he : elemOf E t = some (e, ei)) {gx : Gh} {yv : Value} {n m : Nat} {cs ds : List V}
    (h : Good C σ (.sl gx true ei.sz n cs :: ds) ro a w) (hyr : Reads w yv ei.sz m ds) (hone : ds.all V.one = true) (hb : (n + m) * ei.by_ ≤ 140737488355328) (hm : n + m ≤ 9223372036854775807) :
    ∃ g w', (Builtin.append_ #[t, t] ty #[(V.sl gx true ei.sz n cs).value, yv]).run E.P w = .ok (V.sl g true ei.sz (n + m) (cs ++ ds)).value w' ∧ Good C σ [.sl g true ei.sz (n + m) (cs ++ ds)] ro a w' := by
  obtain ⟨gy, rfl, y2, y1, y5, y6⟩ := hyr
  obtain ⟨hu, hf, hpos⟩ := elemOf_some hE he
  obtain ⟨j, z, h1, h2, h3, h4, h5⟩ := hf.info
  have hzl : z.cells.size = ei.sz := by rw [h5]; simpa using hf.len
  have hokx := h.hok.1
  have y4 := h.hok.2
  obtain ⟨x1, x2, x3, x4, x5, x6⟩ := hokx.slcells
  have hdl : (ds.map V.value).length = m * j.size := by rw [List.length_map, y1, h2]
  have hcl : (cs.map V.value).length = n * j.size := by rw [List.length_map, x1, h2]
  have hdone : ∀ u ∈ ds.map V.value, u.oneCell' = true := fun u hu => by
    obtain ⟨x, hx, rfl⟩ := List.mem_map.1 hu
    exact V.one_value (List.all_eq_true.1 hone x hx)
  have hlen : (cs ++ ds).length = (n + m) * ei.sz := by rw [List.length_append, x1, y1, Nat.add_mul]
  -- nothing is appended
  by_cases hm0 : m = 0
  · subst hm0
    have hds : ds = [] := List.eq_nil_of_length_eq_zero (by rw [y1]; simp)
    subst hds
    refine ⟨gx, w, ?_, ?_⟩
    · simp only [V.value, Nat.add_zero]
      cases hgy : gy.addr with
      | none => exact run_append_none w t ty e j hu h1 gx.addr n gx.cap gy.cap x2
      | some a' => exact run_append_zero w t ty e j hu h1 gx.addr a' n gx.cap gy.cap x2
    · simpa using h
  have hdne : ds ≠ [] := by
    intro e; rw [e, List.length_nil] at y1
    have := Nat.mul_pos (Nat.pos_of_ne_zero hm0) hpos
    omega
  -- the source lies somewhere
  obtain ⟨ay, hay⟩ : ∃ ay, gy.addr = some ay := by
    cases hgy : gy.addr with
    | none => exact absurd (y5 hgy) hdne
    | some ay => exact ⟨ay, rfl⟩
  obtain ⟨ysp, ycells⟩ := y6 ay hay hdne
  have hnew : ∀ (c : Array Value), c = (cs.map V.value).toArray ++ (ds.map V.value).toArray ++ Builtin.zeroCells z.cells (grownCap w (n + m) gx.cap e - (n + m)) →
      Good C σ [.sl ⟨some ⟨w.heap.size, 0, none⟩, grownCap w (n + m) gx.cap e⟩ true ei.sz (n + m) (cs ++ ds)] ro a (w.drew.alloc (.cells c e)) := by
    intro c hc
    have hge := grownCap_ge w (n + m) gx.cap e
    have hg1 : Good C σ (cs ++ ds ++ []) ro a w.drew := by
      refine h.hand (fun _ _ _ => rfl) (Nat.le_refl _) rfl rfl rfl ?_ ?_ fun b hb => .inl ?_
      · have e1 := V.OkL.frame (ro := ro) (ro' := ro) (w := w) (w' := w.drew) (fun _ k => k) (fun _ _ => rfl) _ x4 fun _ _ => rfl
        have e2 := V.OkL.frame (ro := ro) (ro' := ro) (w := w) (w' := w.drew) (fun _ k => k) (fun _ _ => rfl) _ y4 fun _ _ => rfl
        rw [V.OkL_iff] at e1 e2 ⊢
        intro x hx
        simp only [List.append_nil, List.mem_append] at hx
        rcases hx with hx | hx
        · exact e1 x hx
        · exact e2 x hx
      · have := h.hnd
        simp only [V.blksL, V.blks, List.append_nil, List.nodup_append, List.mem_append, V.blksL_append] at this ⊢
        exact ⟨this.1.2.1, this.2.1, fun x hx y hy => this.2.2 x (.inr hx) y hy⟩
      · simp only [V.blksL, V.blks, List.append_nil, List.mem_append, V.blksL_append] at hb ⊢
        rcases hb with hb | hb <;> simp [hb]
    have hsz : c.size = grownCap w (n + m) gx.cap e * ei.sz := by
      subst hc
      have e1 : (cs.map V.value).length = n * ei.sz := by rw [List.length_map, x1]
      have e2 : (ds.map V.value).length = m * ei.sz := by rw [List.length_map, y1]
      simp only [Array.size_append, List.size_toArray, size_zeroCells, hzl, e1, e2]
      rw [← Nat.add_mul, ← Nat.add_mul]
      congr 1; omega
    exact hg1.newSl (c := c) e hlen hge hm (by rw [hsz]; exact Nat.le_refl _) fun k hk => by
      subst hc
      rw [Array.getElem?_append_left (by simp; simp at hk; omega)]
      simp
  cases hgx : gx.addr with
  | none =>
    have hcs : cs = [] := x5 hgx
    have hcap : gx.cap = 0 := by simp only [V.Ok, if_true] at hokx; have := hokx.2.2.2.1; unfold OwnAt at this; rw [hgx] at this; exact this.2
    subst hcs
    have hn : n = 0 := by omega
    subst hn
    have hr := run_append_nil (P := E.P) w t ty e j z hu h1 h4 ay m gy.cap (ds.map V.value) hdl ycells (by omega) (by omega) (by rw [h3]; simp only [Nat.zero_add] at hb; omega)
    refine ⟨⟨some ⟨w.heap.size, 0, none⟩, grownCap w m 0 e⟩, w.drew.alloc (.cells ((ds.map V.value).toArray ++ Builtin.zeroCells z.cells (grownCap w m 0 e - m)) e), ?_, ?_⟩
    · simp only [V.value, hgx, hay, hcap, Nat.zero_add]; exact hr
    · have := hnew ((ds.map V.value).toArray ++ Builtin.zeroCells z.cells (grownCap w m 0 e - m)) (by simp [hcap])
      simpa [hcap] using this
  | some ax =>
    have hxsp := hokx.spot rfl hgx
    obtain ⟨bx, ox, sx⟩ := ax
    simp only at hxsp; subst hxsp
    by_cases hroom : n + m ≤ gx.cap
    · -- in place
      have hown : OwnAt w gx (gx.cap * ei.sz) (cs.map V.value) := by simp only [V.Ok, if_true] at hokx; exact hokx.2.2.2.1
      unfold OwnAt at hown; rw [hgx] at hown
      obtain ⟨_, cur, T, k1, k2, k3, k4⟩ := hown
      simp only at k1 k2 k4
      have hfit : ox + n * j.size + (ds.map V.value).length ≤ cur.size := by
        rw [hdl, h2]
        have : (n + m) * ei.sz ≤ gx.cap * ei.sz := Nat.mul_le_mul_right _ hroom
        rw [Nat.add_mul] at this; omega
      have hr := run_append_room' (P := E.P) w t ty e j hu h1 bx ox n gx.cap cur T k1 ay m gy.cap (ds.map V.value) hdl ycells hdone hroom hfit
      refine ⟨gx, w.setRow bx (cur.toList.take (ox + n * j.size) ++ ds.map V.value ++ cur.toList.drop (ox + n * j.size + (ds.map V.value).length)).toArray, ?_, ?_⟩
      · simp only [V.value, hgx, hay]; exact hr
      · generalize hcur' : (cur.toList.take (ox + n * j.size) ++ ds.map V.value ++ cur.toList.drop (ox + n * j.size + (ds.map V.value).length)).toArray = cur'
        have hnewh : (w.setRow bx cur').heap[bx]? = some (.cells cur' T (0, 0)) := setRow_heap w bx cur cur' T (0, 0) k1
        have hother : ∀ b, b ≠ bx → (w.setRow bx cur').heap[b]? = w.heap[b]? := fun b hbb => setRow_other w bx b cur' hbb
        have hnd := h.hnd
        simp only [V.blksL, V.blks, Gh.blk, if_true, hgx, List.cons_append, List.nil_append, List.nodup_cons, List.mem_append, List.nodup_append] at hnd
        have hbx : bx ∈ V.blksL (V.sl gx true ei.sz n cs :: ds) := by simp [V.blksL, V.blks, Gh.blk, hgx]
        have hro : ∀ b, ro b → (w.setRow bx cur').heap[b]? = w.heap[b]? := fun b hr => hother b fun e => (h.hown bx hbx).1 (e ▸ hr)
        refine h.hand (fun b _ hbb => hother b fun e => hbb (e ▸ hbx)) (by rw [size_setRow]; exact Nat.le_refl _) rfl rfl rfl ⟨?_, trivial⟩ ?_ fun b hbb => .inl ?_
        · simp only [V.Ok, if_true]
          refine ⟨hlen, hroom, hm, ?_, ?_⟩
          · unfold OwnAt; rw [hgx]
            refine ⟨rfl, cur', T, hnewh, ?_, ?_, fun k hk => ?_⟩
            · subst hcur'; simp at hfit ⊢; omega
            · rw [List.length_map, hlen]; exact Nat.mul_le_mul_right _ hroom
            · subst hcur'
              have hpg := putV_get (cs := cur.toList) (k := ox + n * j.size) (us := ds.map V.value) (by simpa using hfit) (ox + k)
              unfold putV at hpg
              simp only [List.getElem?_toArray]
              rw [hpg, List.map_append, List.getElem?_append]
              have hcl' : (cs.map V.value).length = n * j.size := hcl
              by_cases hk1 : k < n * j.size
              · rw [if_neg (by omega), if_pos (by omega), Array.getElem?_toList, k4 k (by omega)]
              · rw [List.length_map, hlen] at hk
                rw [if_pos (by rw [hdl]; rw [h2] at hk1 ⊢; rw [Nat.add_mul] at hk; omega), if_neg (by omega)]
                congr 1; omega
          · have e1 := V.OkL.frame (ro' := ro) (w' := w.setRow bx cur') (fun _ k => k) hro _ x4 fun b hbb => hother b fun e => hnd.1 (.inl (e ▸ hbb))
            have e2 := V.OkL.frame (ro' := ro) (w' := w.setRow bx cur') (fun _ k => k) hro _ y4 fun b hbb => hother b fun e => hnd.1 (.inr (e ▸ hbb))
            rw [V.OkL_iff] at e1 e2 ⊢
            intro x hx
            rcases List.mem_append.1 hx with hx | hx
            · exact e1 x hx
            · exact e2 x hx
        · simp only [V.blksL, V.blks, Gh.blk, if_true, hgx, List.append_nil, V.blksL_append, List.singleton_append, List.nodup_cons, List.mem_append, List.nodup_append]
          exact ⟨fun hbb => hnd.1 hbb, hnd.2.1, hnd.2.2.1, fun x hx y hy => hnd.2.2.2 x hx y hy⟩
        · simp only [V.blksL, V.blks, Gh.blk, if_true, hgx, List.append_nil, V.blksL_append, List.singleton_append, List.mem_cons, List.mem_append] at hbb ⊢
          rcases hbb with hbb | hbb | hbb <;> simp [hbb]
    · -- a new block
      have xcells : ∀ k u, (cs.map V.value)[k]? = some u → w.cell? ((⟨bx, ox, none⟩ : Addr).add k) = some u := fun k u hu' => by
        have hne : cs ≠ [] := by intro e; subst e; simp at hu'
        exact (x6 _ hgx hne).2 k u hu'
      have hr := run_append_grow (P := E.P) w t ty e j z hu h1 h4 ⟨bx, ox, none⟩ n gx.cap (cs.map V.value) hcl xcells ay m gy.cap (ds.map V.value) hdl ycells (by omega) (by omega) (growslice_fits (by omega) (by rw [h3]; exact hb))
      refine ⟨⟨some ⟨w.heap.size, 0, none⟩, grownCap w (n + m) gx.cap e⟩, w.drew.alloc (.cells ((cs.map V.value).toArray ++ (ds.map V.value).toArray ++ Builtin.zeroCells z.cells (grownCap w (n + m) gx.cap e - (n + m))) e), ?_, hnew _ rfl⟩
      simp only [V.value, hgx, hay]; exact hr

/-! ### What is appended -/
def V.isVal : V → Bool
  | .val _ => true
  | _ => false
theorem V.isVal_erase (v : V) : v.erase.isVal = v.isVal := by cases v <;> rfl
theorem V.all_isVal_erase (cs : List V) : (V.eraseL cs).all V.isVal = cs.all V.isVal := by
  rw [V.eraseL_map, List.all_map]
  induction cs with
  | nil => rfl
  | cons c cs ih => simp only [List.all_cons, Function.comp_apply, V.isVal_erase, ih]
theorem V.isVal_some {v : V} (h : v.isVal = true) : ∃ x, v = .val x := by cases v <;> simp_all [V.isVal]
theorem V.all_isVal {cs : List V} (h : cs.all V.isVal = true) : ∃ l : List Value, cs = l.map V.val := by
  induction cs with
  | nil => exact ⟨[], rfl⟩
  | cons c cs ih =>
    simp only [List.all_cons, Bool.and_eq_true] at h
    obtain ⟨x, rfl⟩ := V.isVal_some h.1
    obtain ⟨l, rfl⟩ := ih h.2
    exact ⟨x :: l, rfl⟩
/-- The elements of a slice, to be appended: copied if they are plain or only lent, else taken. -/
def St.srcs (σ : St) (sz : Nat) : S → Option (Nat × List V × St)
  | .ref d p => match (σ.mem d).get p with
    | some (.sl _ true sz' n cs) => if sz' = sz then (if cs.all V.isVal then some (n, cs, σ) else some (n, cs, (σ.kill (at_ d p)).setMem d ((σ.mem d).set p (.junk undef)))) else none
    | _ => none
  | .v (.sl _ o sz' n cs) => if sz' = sz ∧ o = false then some (n, cs, σ) else none
  | .v (.val (.slice none 0 0)) => some (0, [], σ)
  | _ => none
theorem okL_vals (ro : Nat → Prop) (w : World) (l : List Value) : V.OkL ro w (l.map V.val) := by
  induction l with
  | nil => trivial
  | cons x l ih => exact ⟨trivial, ih⟩
theorem blksL_vals (l : List Value) : V.blksL (l.map V.val) = [] := by
  induction l with
  | nil => rfl
  | cons x l ih => simp [V.blksL, V.blks, ih]
theorem Good.more {C : Ctx} {σ : St} {H cs : List V} {ro : Nat → Prop} {a : Act} {w : World} (h : Good C σ H ro a w) (h1 : V.OkL ro w cs) (h2 : V.blksL cs = []) : Good C σ (cs ++ H) ro a w := by
  refine h.hand (fun _ _ _ => rfl) (Nat.le_refl _) rfl rfl rfl ?_ ?_ fun b hb => .inl ?_
  · have h2 := h.hok
    rw [V.OkL_iff] at h1 h2 ⊢
    intro x hx
    rcases List.mem_append.1 hx with hx | hx
    · exact h1 x hx
    · exact h2 x hx
  · rw [V.blksL_append, h2]; exact h.hnd
  · rw [V.blksL_append, h2] at hb; exact hb
theorem Good.vals {C : Ctx} {σ : St} {H : List V} {ro : Nat → Prop} {a : Act} {w : World} (h : Good C σ H ro a w) (l : List Value) : Good C σ (l.map V.val ++ H) ro a w :=
  h.more (okL_vals ro w l) (blksL_vals l)
theorem srcs_ok {C : Ctx} {σ : St} {H : List V} {ro : Nat → Prop} {a : Act} {w : World} (h : Good C σ H ro a w) {s : S} {x : Value} {sz m : Nat} {ds : List V} {τ : St}
    (ht : σ.erase.srcs sz s.erase = some (m, ds, τ)) (hr : s.Rel σ.mem x) (hi : s.Inl ro w) :
    ∃ cs σ', V.eraseL cs = ds ∧ σ'.erase = τ ∧ Good C σ' (cs ++ H) ro a w ∧ Reads w x sz m cs := by
  cases s with
  | v u =>
    have hv := hi
    cases u with
    | val y =>
      simp only [S.erase, V.erase] at ht
      unfold St.srcs at ht
      split at ht
      · rename_i hh; simp at hh
      · rename_i hh; simp at hh
      · rename_i hh
        simp only [S.v.injEq, V.val.injEq] at hh; subst hh
        simp only [Option.some.injEq, Prod.mk.injEq] at ht
        obtain ⟨rfl, rfl, rfl⟩ := ht
        exact ⟨[], σ, rfl, rfl, h, .z, hr, Nat.le_refl _, by simp, fun _ => rfl, fun ay hay => by simp [Gh.z] at hay⟩
      · simp at ht
    | sl g o sz' n cs =>
      simp only [S.erase, V.erase, St.srcs] at ht
      split at ht
      · rename_i hc
        obtain ⟨rfl, rfl⟩ := hc
        simp only [Option.some.injEq, Prod.mk.injEq] at ht
        obtain ⟨rfl, rfl, rfl⟩ := ht
        have hb : V.blksL cs = [] := by have := hv.2; simp [V.blks] at this; exact this.2
        exact ⟨cs, σ, rfl, rfl, h.more hv.1.slcells.2.2.2.1 hb, hr ▸ hv.1.reads⟩
      · simp at ht
    | _ => simp [S.erase, V.erase, St.srcs] at ht
  | ref d p =>
    simp only [S.erase, St.srcs, St.get_erase] at ht
    obtain ⟨c', g1, g2, g3⟩ := hr
    rw [g1] at ht
    cases c' with
    | sl g o sz' n cs =>
      cases o with
      | false => simp [V.erase] at ht
      | true =>
        simp only [Option.map_some, V.erase, V.all_isVal_erase] at ht
        have hok := (h.mok d).get p g1
        split at ht
        · rename_i hs; subst hs
          split at ht
          · rename_i hall
            simp only [Option.some.injEq, Prod.mk.injEq] at ht
            obtain ⟨rfl, rfl, rfl⟩ := ht
            obtain ⟨l, rfl⟩ := V.all_isVal hall
            exact ⟨_, σ, rfl, rfl, h.vals l, g3 ▸ hok.reads⟩
          · simp only [Option.some.injEq, Prod.mk.injEq] at ht
            obtain ⟨rfl, rfl, rfl⟩ := ht
            refine ⟨cs, _, rfl, ?_, (h.take g1).opened, g3 ▸ hok.reads⟩
            rw [erase_setMem, erase_kill, V.set_erase]; rfl
        · simp at ht
    | _ => simp [V.erase] at ht
  | _ => simp [S.erase, St.srcs] at ht

end Go.E
namespace Go.E

/-! ### One operation -/
/-- An owned slice, taken. -/
def St.takeS (σ : St) (sz : Nat) : S → Option (Nat × List V × St)
  | .ref d p => match (σ.mem d).get p with
    | some (.sl _ true sz' n cs) => if sz' = sz then some (n, cs, (σ.kill (at_ d p)).setMem d ((σ.mem d).set p (.junk undef))) else none
    | _ => none
  | .v (.val (.slice none 0 0)) => some (0, [], σ)
  | _ => none
theorem takeS_ok {C : Ctx} {σ : St} {H : List V} {ro : Nat → Prop} {a : Act} {w : World} (h : Good C σ H ro a w) {s : S} {x : Value} {sz n : Nat} {cs : List V} {τ : St}
    (ht : σ.erase.takeS sz s.erase = some (n, cs, τ)) (hr : s.Rel σ.mem x) :
    ∃ g us σ', V.eraseL us = cs ∧ σ'.erase = τ ∧ Good C σ' (.sl g true sz n us :: H) ro a w ∧ x = (V.sl g true sz n us).value := by
  cases s with
  | v u =>
    cases u with
    | val y =>
      simp only [S.erase, V.erase] at ht
      unfold St.takeS at ht
      split at ht
      · rename_i hh; simp at hh
      · rename_i hh
        simp only [S.v.injEq, V.val.injEq] at hh; subst hh
        simp only [Option.some.injEq, Prod.mk.injEq] at ht
        obtain ⟨rfl, rfl, rfl⟩ := ht
        refine ⟨.z, [], σ, rfl, rfl, ?_, hr⟩
        exact h.hand (fun _ _ _ => rfl) (Nat.le_refl _) rfl rfl rfl ⟨by simp [V.Ok, Gh.z, OwnAt, V.OkL], h.hok⟩ (by simpa [V.blksL, V.blks, Gh.blk, Gh.z] using h.hnd) fun b hb => .inl (by simpa [V.blksL, V.blks, Gh.blk, Gh.z] using hb)
      · simp at ht
    | _ => simp [S.erase, V.erase, St.takeS] at ht
  | ref d p =>
    simp only [S.erase, St.takeS, St.get_erase] at ht
    obtain ⟨c', g1, g2, g3⟩ := hr
    rw [g1] at ht
    cases c' with
    | sl g o sz' n cs =>
      cases o with
      | false => simp [V.erase] at ht
      | true =>
        simp only [Option.map_some, V.erase] at ht
        split at ht
        · rename_i hs; subst hs
          simp only [Option.some.injEq, Prod.mk.injEq] at ht
          obtain ⟨rfl, rfl, rfl⟩ := ht
          refine ⟨g, cs, _, rfl, ?_, h.take g1, g3⟩
          rw [erase_setMem, erase_kill, V.set_erase]; rfl
        · simp at ht
    | _ => simp [V.erase] at ht
  | _ => simp [S.erase, St.takeS] at ht
def calcK (E : Env) (nt : Nat) (o : Oper) (σ : St) (K : St → Prop) : Prop := match o.dst with
  | some d => d < nt ∧ ∃ s, σ.calc E o.op = some s ∧ K (σ.put d s)
  | none => False
/-- An operation that makes memory or changes it. The calls of functions stand apart. -/
def wop (E : Env) (np nt : Nat) (o : Oper) (σ : St) (K : St → Prop) : Prop := match o.op with
  | .alloc t => match o.dst, E.tt t with
    | some d, some ti => np ≤ d ∧ d < nt ∧ K (σ.bind d (.ptr .z true (ti.zero.map V.val)))
    | _, _ => False
  | .box _ x => match o.dst with
    | some d => np ≤ d ∧ d < nt ∧ ∃ cs σ1, σ.takeO x = some (cs, σ1) ∧ K (σ1.bind d (.ptr .z true cs))
    | none => False
  | .buildSlice t n ps => match o.dst, elemOf E t with
    | some d, some (_, ei) => np ≤ d ∧ d < nt ∧ ps.toList.map Prod.fst = List.range n ∧ ∃ css σ1, σ.takeOs (ps.toList.map Prod.snd) = some (css, σ1) ∧ (∀ cs ∈ css, cs.length = ei.sz) ∧ n * ei.sz ≤ 16777216 ∧ K (σ1.bind d (.sl .z true ei.sz n css.flatten))
    | _, _ => False
  | .makeSlice t l c => match o.dst, elemOf E t with
    | some d, some (_, ei) => np ≤ d ∧ d < nt ∧ ∃ k i, (σ.ev l).int? = some (k, i) ∧ (σ.ev c).int? = some (k, i) ∧ 0 ≤ i ∧ i.toNat * ei.by_ ≤ 281474976710656 ∧ i.toNat ≤ 9223372036854775807 ∧ K (σ.bind d (.sl .z true ei.sz i.toNat (List.replicate i.toNat (ei.zero.map V.val)).flatten))
    | _, _ => False
  | .store t x v => match E.tt t with
    | some ti => ∃ us σ1, σ.takeO v = some (us, σ1) ∧ us.length = ti.sz ∧ 0 < ti.sz ∧ us.all V.one = true ∧ ∃ d p k c, σ1.adr (σ1.ev x) = some (.own d p k) ∧ (σ1.mem d).get p = some c ∧ c.owned = true ∧ k + us.length ≤ c.cells.length ∧ o.dst = none ∧
        K ((σ1.kill (on_ d p k us.length)).setMem d ((σ1.mem d).set p (c.withCells (putV c.cells k us))))
    | none => False
  | .call c => match c.callee with
    | .builtin .append => match o.dst, c.args.toList, c.argTypes.toList with
      | some d, [x, y], [t, t'] => match elemOf E t with
        | some (_, ei) => np ≤ d ∧ d < nt ∧ t' = t ∧ ∃ n cs σ1 m ds σ2, σ.takeS ei.sz (σ.ev x) = some (n, cs, σ1) ∧ σ1.srcs ei.sz (σ1.ev y) = some (m, ds, σ2) ∧
            ds.all V.one = true ∧ (n + m) * ei.by_ ≤ 140737488355328 ∧ n + m ≤ 9223372036854775807 ∧ K (σ2.bind d (.sl .z true ei.sz (n + m) (cs ++ ds)))
        | none => False
      | _, _, _ => False
    | _ => calcK E nt o σ K
  | .slice t x lo hi mx => match σ.ev x, mx with
    | .ref _ _, none => match o.dst, elemOf E t with
      | some d, some (_, ei) => np ≤ d ∧ d < nt ∧ ∃ σ1 n cs l h, σ.takeS ei.sz (σ.ev x) = some (n, cs, σ1) ∧ bound (lo.map σ.ev) 0 = some l ∧ bound (hi.map σ.ev) n = some h ∧ l ≤ h ∧ h ≤ n ∧
          K (σ1.bind d (.sl .z true ei.sz (h - l) ((cs.drop (l * ei.sz)).take ((h - l) * ei.sz))))
      | _, _ => False
    | _, _ => calcK E nt o σ K
  | _ => calcK E nt o σ K

/-- What holds behind an operation, of a state that the world fits. -/
def Inv (C : Ctx) (K : St → Prop) (a : Act) (w : World) : Prop := ∃ σ ro, Good C σ [] ro a w ∧ K σ.erase

theorem calcK_ok {E : Env} (hE : E.Ok) {C : Ctx} {σ : St} {ro : Nat → Prop} {a : Act} {w : World} (h : Good C σ [] ro a w) {o : Oper} {K : St → Prop} {Q : Exit → Act → World → Prop} (hw : calcK E C.nt o σ.erase K) :
    o.wp E.P a w (Inv C K) Q := by
  unfold calcK at hw
  split at hw
  · rename_i d hd
    obtain ⟨hlt, s, hs, hK⟩ := hw
    rw [St.calc_erase] at hs
    cases hs' : σ.calc E o.op with
    | none => simp [hs'] at hs
    | some s' =>
      simp [hs'] at hs; subst hs
      obtain ⟨v, h1, h2, h3⟩ := St.calc_ok hE h hs'
      simp only [Oper.wp, h1, Oper.upon_value, hd]
      exact ⟨σ.put d s', ro, h.put hlt h2 h3, by rw [erase_put]; exact hK⟩
  · exact hw.elim

theorem V.erase_vals (l : List Value) : V.eraseL (l.map V.val) = l.map V.val := by
  induction l with
  | nil => rfl
  | cons x l ih => simp [V.eraseL, V.erase, ih]
theorem V.values_vals (l : List Value) : (l.map V.val).map V.value = l := by
  rw [List.map_map]
  conv => rhs; rw [← List.map_id l]
  exact List.map_congr_left fun _ _ => rfl
theorem wop_alloc {E : Env} (hE : E.Ok) {C : Ctx} {σ : St} {ro : Nat → Prop} {a : Act} {w : World} (h : Good C σ [] ro a w) {o : Oper} {K : St → Prop} {Q : Exit → Act → World → Prop} {t : Nat} (ho : o.op = .alloc t) (hw : wop E C.np C.nt o σ.erase K) :
    o.wp E.P a w (Inv C K) Q := by
  unfold wop at hw; rw [ho] at hw; simp only at hw
  split at hw
  · rename_i d ti hd hti
    obtain ⟨hnp, hnt, hK⟩ := hw
    have hf := hE t ti hti
    have hrun : (execOp a.eval o).run E.P w = .ok (.value (.pointer (some ⟨w.heap.size, 0, none⟩))) (World.more w ti.zero.toArray t) := by
      unfold execOp; rw [ho]; simp [run_alloc hf]
    simp only [Oper.wp, hrun, Oper.upon_value, hd]
    have hg := (h.vals ti.zero).newPtr t
    rw [V.values_vals] at hg
    refine ⟨_, ro, hg.bind hnp hnt, ?_⟩
    rw [erase_bind]; simp only [V.erase, V.erase_vals]; exact hK
  · exact hw.elim
theorem wop_box {E : Env} {C : Ctx} {σ : St} {ro : Nat → Prop} {a : Act} {w : World} (h : Good C σ [] ro a w) {o : Oper} {K : St → Prop} {Q : Exit → Act → World → Prop} {t : Nat} {x : Operand} (ho : o.op = .box t x) (hw : wop E C.np C.nt o σ.erase K) :
    o.wp E.P a w (Inv C K) Q := by
  unfold wop at hw; rw [ho] at hw; simp only at hw
  split at hw
  · rename_i d hd
    obtain ⟨hnp, hnt, cs, σ1, htake, hK⟩ := hw
    obtain ⟨ûs, σ', f, rfl, rfl, hg, hv, _⟩ := takeO_ok h htake
    have hrun : (execOp a.eval o).run E.P w = .ok (.value (.pointer (some ⟨w.heap.size, 0, none⟩))) (World.more w (a.eval x).cells t) := by
      unfold execOp; rw [ho]; simp [run_box]
    simp only [Oper.wp, hrun, Oper.upon_value, hd]
    have hg2 := hg.newPtr t
    rw [hv] at hg2
    refine ⟨_, ro, hg2.bind hnp hnt, ?_⟩
    rw [erase_bind]; simp only [V.erase]; exact hK
  · exact hw.elim
theorem flat_len {α : Type} {k : Nat} : ∀ (us : List (List α)), (∀ u ∈ us, u.length = k) → us.flatten.length = us.length * k := by
  intro us
  induction us with
  | nil => intro _; simp
  | cons u us ih =>
    intro h
    have h1 := h u (by simp)
    have h2 := ih fun x hx => h x (by simp [hx])
    rw [List.flatten_cons, List.length_append, List.length_cons, h1, h2, Nat.succ_mul]; omega
theorem zipIdx_of_range {β : Type} : ∀ (ps : List (Nat × β)) (k : Nat), ps.map Prod.fst = List.range' k ps.length → ps = ((ps.map Prod.snd).zipIdx k).map (fun x => (x.2, x.1)) := by
  intro ps
  induction ps with
  | nil => intro k _; rfl
  | cons p ps ih =>
    intro k h
    simp only [List.map_cons, List.length_cons, List.range'_succ, List.cons.injEq] at h
    simp only [List.map_cons, List.zipIdx_cons]
    rw [← ih (k + 1) h.2, ← h.1]
theorem wop_buildSlice {E : Env} (hE : E.Ok) {C : Ctx} {σ : St} {ro : Nat → Prop} {a : Act} {w : World} (h : Good C σ [] ro a w) {o : Oper} {K : St → Prop} {Q : Exit → Act → World → Prop} {t n : Nat} {ps : Array (Nat × Operand)} (ho : o.op = .buildSlice t n ps) (hw : wop E C.np C.nt o σ.erase K) :
    o.wp E.P a w (Inv C K) Q := by
  unfold wop at hw; rw [ho] at hw; simp only at hw
  split at hw
  · rename_i d e ei hd hel
    obtain ⟨hnp, hnt, hfst, css, σ1, htake, hlen, hle, hK⟩ := hw
    obtain ⟨ûs, σ', rfl, rfl, hg, hv⟩ := takeOs_ok _ h htake
    have hn : ps.toList.length = n := by have := congrArg List.length hfst; simpa using this
    have hvl : (ps.toList.map fun x => a.eval x.2).length = n := by simp [hn]
    have hcells : (ps.toList.map fun x => (a.eval x.2).cells.toList) = ûs.map (List.map V.value) := by rw [hv, List.map_map]; rfl
    have hmap : (ps.map fun (i, x) => (i, a.eval x)).toList = ((ps.toList.map fun x => a.eval x.2).zipIdx 0).map (fun x => (x.2, x.1)) := by
      have hq : (ps.toList.map fun q => (q.1, a.eval q.2)).map Prod.fst = List.range' 0 (ps.toList.map fun q => (q.1, a.eval q.2)).length := by
        rw [List.map_map, List.length_map, hn, ← List.range_eq_range', ← hfst]; rfl
      have := zipIdx_of_range _ 0 hq
      rw [List.map_map] at this
      simpa [Function.comp_def] using this
    have hsz : ∀ v ∈ (ps.toList.map fun x => a.eval x.2), v.cells.size = ei.sz := fun v hvm => by
      obtain ⟨q, hq, rfl⟩ := List.mem_map.1 hvm
      have h1 : (a.eval q.2).cells.toList ∈ ûs.map (List.map V.value) := by rw [← hcells]; exact List.mem_map.2 ⟨q, hq, rfl⟩
      obtain ⟨u, hu, hu2⟩ := List.mem_map.1 h1
      have h2 := hlen (V.eraseL u) (List.mem_map.2 ⟨u, hu, rfl⟩)
      rw [← Array.length_toList, ← hu2, List.length_map]
      rwa [V.eraseL_map, List.length_map] at h2
    have hrun := run_buildSlice hE hel w (ps.toList.map fun x => a.eval x.2) (ps.map fun (i, x) => (i, a.eval x)) hmap hsz (by rw [hvl]; exact hle)
    rw [hvl] at hrun
    have hrun' : (execOp a.eval o).run E.P w = .ok (.value (.slice (some ⟨w.heap.size, 0, none⟩) n n)) (World.more w (ûs.flatten.map V.value).toArray e) := by
      unfold execOp; rw [ho]
      simp only [Sem.run_bind, hrun, Result.andThen_ok, Sem.run_pure]
      congr 2
      rw [List.map_map]
      have : (List.map ((fun x => x.cells.toList) ∘ fun (x : Nat × Operand) => a.eval x.2) ps.toList) = ûs.map (List.map V.value) := hcells
      rw [this, List.map_flatten]
    simp only [Oper.wp, hrun', Oper.upon_value, hd]
    have hcl : ûs.flatten.length = n * ei.sz := by
      have h1 : ∀ u ∈ ûs, u.length = ei.sz := fun u hu => by
        have := hlen (V.eraseL u) (List.mem_map.2 ⟨u, hu, rfl⟩)
        rwa [V.eraseL_map, List.length_map] at this
      have h2 : ûs.length = n := by have := congrArg List.length hcells; simp only [List.length_map] at this; rw [← this, ← hn]
      rw [← h2]
      exact flat_len ûs h1
    have hg2 := hg.newSl (c := (ûs.flatten.map V.value).toArray) e hcl (Nat.le_refl n) (by
      obtain ⟨_, _, hpos⟩ := elemOf_some hE hel
      have : n ≤ n * ei.sz := Nat.le_mul_of_pos_right n hpos
      omega) (by rw [List.size_toArray, List.length_map, hcl]; exact Nat.le_refl _) (fun k hk => by simp)
    refine ⟨_, ro, hg2.bind hnp hnt, ?_⟩
    rw [erase_bind]
    simp only [V.erase, V.eraseL_map, List.map_flatten]
    have : (ûs.map V.eraseL) = ûs.map (List.map V.erase) := List.map_congr_left fun u _ => V.eraseL_map u
    rw [← this]; exact hK
  · exact hw.elim
theorem wop_makeSlice {E : Env} (hE : E.Ok) {C : Ctx} {σ : St} {ro : Nat → Prop} {a : Act} {w : World} (h : Good C σ [] ro a w) {o : Oper} {K : St → Prop} {Q : Exit → Act → World → Prop} {t : Nat} {l c : Operand} (ho : o.op = .makeSlice t l c) (hw : wop E C.np C.nt o σ.erase K) :
    o.wp E.P a w (Inv C K) Q := by
  unfold wop at hw; rw [ho] at hw; simp only at hw
  split at hw
  · rename_i d e ei hd hel
    obtain ⟨hnp, hnt, k, i, h1, h2, h0, h3, h4, hK⟩ := hw
    rw [St.ev_erase, S.int?_erase] at h1 h2
    have e1 := h.evr l; rw [S.int?_some h1] at e1; simp only [S.Rel, V.value] at e1
    have e2 := h.evr c; rw [S.int?_some h2] at e2; simp only [S.Rel, V.value] at e2
    obtain ⟨n, rfl⟩ := Int.eq_ofNat_of_zero_le h0
    simp only [Int.toNat_natCast] at *
    obtain ⟨arr, hrun, hs1, hs2⟩ := run_makeS hE hel w k n h3 h4
    have hrun' : (execOp a.eval o).run E.P w = .ok (.value (.slice (some ⟨w.heap.size, 0, none⟩) n n)) (World.more w arr e) := by
      unfold execOp; rw [ho]; simp only [e1, e2, Sem.run_bind, hrun, Result.andThen_ok, Sem.run_pure]
    simp only [Oper.wp, hrun', Oper.upon_value, hd]
    obtain ⟨_, hf, hpos⟩ := elemOf_some hE hel
    have hfl : (List.replicate n (ei.zero.map V.val)).flatten = ((List.replicate n ei.zero).flatten).map V.val := by rw [List.map_flatten, List.map_replicate]
    have hlen : ((List.replicate n ei.zero).flatten).length = n * ei.sz := by rw [← hf.len]; simp
    have hg := (h.vals ((List.replicate n ei.zero).flatten)).newSl (c := arr) e (by rw [List.length_map, hlen]) (Nat.le_refl n) h4 hs1 (fun k hk => by
      rw [List.length_map, hlen] at hk
      rw [V.values_vals]; exact hs2 k hk)
    refine ⟨_, ro, hg.bind hnp hnt, ?_⟩
    rw [erase_bind]; simp only [V.erase, V.erase_vals]
    rw [hfl] at hK; exact hK
  · exact hw.elim
theorem wop_store {E : Env} (hE : E.Ok) {C : Ctx} {σ : St} {ro : Nat → Prop} {a : Act} {w : World} (h : Good C σ [] ro a w) {o : Oper} {K : St → Prop} {Q : Exit → Act → World → Prop} {t : Nat} {x v : Operand} (ho : o.op = .store t x v) (hw : wop E C.np C.nt o σ.erase K) :
    o.wp E.P a w (Inv C K) Q := by
  unfold wop at hw; rw [ho] at hw; simp only at hw
  split at hw
  · rename_i ti hti
    obtain ⟨us, σ1, htake, hlen, hpos, hone, d, p, k, c, hadr, hget, hown, hk, hdst, hK⟩ := hw
    obtain ⟨ûs, σ', f, rfl, rfl, hg, hv, _⟩ := takeO_ok h htake
    rw [List.append_nil] at hg
    rw [St.ev_erase, St.adr_erase] at hadr
    cases hA : σ'.adr (σ'.ev x) with
    | none => simp [hA] at hadr
    | some A0 =>
      simp only [hA, Option.map_some, Option.some.injEq] at hadr
      obtain ⟨ad, hev, hat⟩ := St.adr_at hg hA (hg.evr x) (hg.evInl x)
      cases A0 with
      | ro g cs k' => simp [A.erase] at hadr
      | own d' p' k' =>
        simp only [A.erase, A.own.injEq] at hadr
        obtain ⟨rfl, rfl, rfl⟩ := hadr
        obtain ⟨ĉ, a0, h1, h2, h3, h4, rfl⟩ := hat
        rw [St.get_erase, h1] at hget
        simp only [Option.map_some, Option.some.injEq] at hget; subst hget
        have hl : (V.eraseL ûs).length = ûs.length := by rw [V.eraseL_map, List.length_map]
        rw [hl] at hlen hk hK
        rw [V.cells_erase, List.length_map] at hk
        have hone' : ûs.all V.one = true := by
          rw [V.eraseL_map, List.all_map] at hone
          rw [List.all_eq_true] at hone ⊢
          intro u hu; have := hone u hu; rwa [Function.comp_apply, V.one_erase] at this
        obtain ⟨w', hrun, hg'⟩ := store_ok (P := E.P) hg h1 h2 h3 hk (by omega) hone'
        have hf := hE t ti hti
        obtain ⟨j, z, j1, j2, _⟩ := hf.info
        have hrun' : (execOp a.eval o).run E.P w = .ok .skip w' := by
          unfold execOp; rw [ho]
          have hsz : (a.eval v).cells.size = j.size := by rw [← Array.length_toList, ← hv, List.length_map, j2, hlen]
          simp only [Instr.storeAt, storeVar, Sem.run_bind, hev, Instr.sureAddr, Sem.run_pure, Result.andThen_ok, sizeOf, run_typeInfo_some j1, hsz, ne_eq, not_true_eq_false, if_false]
          rw [← hv, hrun]; rfl
        simp only [Oper.wp, hrun', Oper.upon_skip, hdst]
        refine ⟨_, ro, hg', ?_⟩
        rw [erase_setMem, erase_kill, V.set_erase, V.withCells_erase, putV_map, ← V.cells_erase, ← V.eraseL_map]
        exact hK
  · exact hw.elim

theorem wop_append {E : Env} (hE : E.Ok) {C : Ctx} {σ : St} {ro : Nat → Prop} {a : Act} {w : World} (h : Good C σ [] ro a w) {o : Oper} {K : St → Prop} {Q : Exit → Act → World → Prop} {c : Call} (ho : o.op = .call c) (hc : c.callee = .builtin .append) (hw : wop E C.np C.nt o σ.erase K) :
    o.wp E.P a w (Inv C K) Q := by
  unfold wop at hw; rw [ho] at hw; simp only [hc] at hw
  split at hw
  · rename_i d x y t t' hd hargs hts
    split at hw
    · rename_i e ei hel
      obtain ⟨hnp, hnt, rfl, n, cs, σ1, m, ds, σ2, h1, h2, h5, h6, h7, hK⟩ := hw
      rw [St.ev_erase] at h1
      obtain ⟨g, us, σ1', rfl, rfl, hg1, hv1⟩ := takeS_ok h h1 (h.evr x)
      rw [St.ev_erase] at h2
      obtain ⟨vs, σ2', rfl, rfl, hg2, hrd⟩ := srcs_ok hg1 h2 (hg1.evr y) (hg1.evInl y)
      have hg3 := hg2.perm (List.perm_append_comm (l₁ := vs) (l₂ := [V.sl g true ei.sz n us]))
      have hone : vs.all V.one = true := by
        rw [V.eraseL_map, List.all_map] at h5
        rw [List.all_eq_true] at h5 ⊢
        intro u hu; have := h5 u hu; rwa [Function.comp_apply, V.one_erase] at this
      have hg4 : Good C σ2' (.sl g true ei.sz n us :: vs) ro a w := hg3
      obtain ⟨gr, w', hrun, hgr⟩ := append_hand (ty := o.type) hE hel hg4 hrd hone h6 h7
      have hrun' : (execOp a.eval o).run E.P w = .ok (.value (V.sl gr true ei.sz (n + m) (us ++ vs)).value) w' := by
        have ea : c.args = #[x, y] := Array.toList_inj.1 hargs
        have et : c.argTypes = #[t', t'] := Array.toList_inj.1 hts
        unfold execOp; rw [ho]
        rw [← hv1] at hrun
        simp [resolve, hc, invoke, builtin, ea, et, hrun]
      simp only [Oper.wp, hrun', Oper.upon_value, hd]
      refine ⟨_, ro, hgr.bind hnp hnt, ?_⟩
      rw [erase_bind]; simp only [V.erase]
      have : V.eraseL (us ++ vs) = V.eraseL us ++ V.eraseL vs := by simp [V.eraseL_map]
      rw [this]; exact hK
    · exact hw.elim
  · exact hw.elim

end Go.E
namespace Go.E

/-! ### Cutting an owned slice -/
theorem OwnAt.cut {w : World} {g : Gh} {sz : Nat} {vals : List Value} (h : OwnAt w g (g.cap * sz) vals) {l h' : Nat} (hl : l ≤ h') (hn : h' * sz ≤ vals.length) (hc : h' ≤ g.cap) :
    OwnAt w (g.cut l sz) ((g.cut l sz).cap * sz) ((vals.drop (l * sz)).take ((h' - l) * sz)) := by
  unfold OwnAt at *
  have hls : l * sz ≤ h' * sz := Nat.mul_le_mul_right _ hl
  have hcs : h' * sz ≤ g.cap * sz := Nat.mul_le_mul_right _ hc
  have hsub : (h' - l) * sz = h' * sz - l * sz := Nat.sub_mul ..
  have hsub2 : (g.cap - l) * sz = g.cap * sz - l * sz := Nat.sub_mul ..
  cases hg : g.addr with
  | none =>
    rw [hg] at h
    obtain ⟨rfl, h0⟩ := h
    have : (g.cut l sz).addr = none := by simp [Gh.cut, hg]
    rw [this]
    exact ⟨by simp, by simp [Gh.cut, h0]⟩
  | some a =>
    rw [hg] at h
    obtain ⟨hsp, c, T, k1, k2, k3, k4⟩ := h
    by_cases he : g.cap = l
    · have : (g.cut l sz).addr = some a := by simp [Gh.cut, he, hg]
      rw [this]
      have hz : h' - l = 0 := by omega
      refine ⟨hsp, c, T, k1, ?_, ?_, fun k hk => ?_⟩
      · simp only [Gh.cut, he, Nat.sub_self, Nat.zero_mul]; omega
      · simp [hz]
      · simp [hz] at hk
    · have : (g.cut l sz).addr = some (a.add (l * sz)) := by simp [Gh.cut, he, hg]
      rw [this, addr_add hsp]
      refine ⟨rfl, c, T, k1, ?_, ?_, fun k hk => ?_⟩
      · simp only [Gh.cut, hsub2]; omega
      · rw [List.length_take, List.length_drop, hsub]; simp only [Gh.cut, hsub2]; omega
      · rw [List.length_take, List.length_drop] at hk
        simp only
        rw [getElem?_viewL, if_pos (by omega), Nat.add_assoc, k4 (l * sz + k) (by omega)]
theorem Gh.cut_blk (g : Gh) (l sz : Nat) (hs : ∀ a, g.addr = some a → a.spot = none) : (g.cut l sz).blk true = g.blk true := by
  cases hg : g.addr with
  | none => simp [Gh.blk, Gh.cut, hg]
  | some a =>
    by_cases he : g.cap = l
    · simp [Gh.blk, Gh.cut, hg, he]
    · simp [Gh.blk, Gh.cut, hg, he, addr_add (hs a hg)]
theorem Good.cut {C : Ctx} {σ : St} {H cs : List V} {g : Gh} {sz n : Nat} {ro : Nat → Prop} {a : Act} {w : World} (h : Good C σ (.sl g true sz n cs :: H) ro a w) {l h' : Nat} (hl : l ≤ h') (hn : h' ≤ n) :
    Good C σ (.sl (g.cut l sz) true sz (h' - l) ((cs.drop (l * sz)).take ((h' - l) * sz)) :: H) ro a w := by
  have hok := h.hok.1
  obtain ⟨h1, h2, h3, h4, _, _⟩ := hok.slcells
  have hown : OwnAt w g (g.cap * sz) (cs.map V.value) := by simp only [V.Ok, if_true] at hok; exact hok.2.2.2.1
  have hsp : ∀ a, g.addr = some a → a.spot = none := fun a ha => hok.spot rfl ha
  have hmem : ∀ d ∈ (cs.drop (l * sz)).take ((h' - l) * sz), d ∈ cs := fun d hd => List.mem_of_mem_drop (List.mem_of_mem_take hd)
  have hblk : ∃ xs ys, V.blksL cs = xs ++ V.blksL ((cs.drop (l * sz)).take ((h' - l) * sz)) ++ ys := ⟨_, _, blksL_split cs (l * sz) ((h' - l) * sz)⟩
  obtain ⟨xs, ys, hxy⟩ := hblk
  refine h.hand (fun _ _ _ => rfl) (Nat.le_refl _) rfl rfl rfl ⟨?_, h.hok.2⟩ ?_ fun b hb => .inl ?_
  · simp only [V.Ok, if_true]
    refine ⟨?_, by simp only [Gh.cut]; omega, by omega, ?_, ?_⟩
    · rw [List.length_take, List.length_drop, h1, Nat.sub_mul]
      have : l * sz ≤ n * sz := Nat.mul_le_mul_right _ (by omega)
      have : h' * sz ≤ n * sz := Nat.mul_le_mul_right _ hn
      omega
    · rw [map_value_cut]
      exact hown.cut hl (by rw [List.length_map, h1]; exact Nat.mul_le_mul_right _ hn) (by omega)
    · rw [V.OkL_iff] at *; exact fun d hd => h4 d (hmem d hd)
  · have := h.hnd
    simp only [V.blksL, V.blks, Gh.cut_blk g l sz hsp, hxy, List.nodup_append, List.mem_append] at this ⊢
    exact ⟨⟨this.1.1, this.1.2.1.1.2.1, fun x hx y hy => this.1.2.2 x hx y (.inl (.inr hy))⟩, this.2.1, fun x hx y hy => this.2.2 x (hx.elim .inl fun k => .inr (.inl (.inr k))) y hy⟩
  · simp only [V.blksL, V.blks, Gh.cut_blk g l sz hsp, hxy, List.mem_append] at hb ⊢
    rcases hb with (hb | hb) | hb <;> simp [hb]
theorem wop_slice {E : Env} (hE : E.Ok) {C : Ctx} {σ : St} {ro : Nat → Prop} {a : Act} {w : World} (h : Good C σ [] ro a w) {o : Oper} {K : St → Prop} {Q : Exit → Act → World → Prop} {t : Nat} {x : Operand} {lo hi mx : Option Operand} (ho : o.op = .slice t x lo hi mx) (hw : wop E C.np C.nt o σ.erase K) :
    o.wp E.P a w (Inv C K) Q := by
  unfold wop at hw; rw [ho] at hw; simp only at hw
  split at hw
  · rename_i d' p' hx
    split at hw
    · rename_i d e ei hd hel
      obtain ⟨hnp, hnt, σ1, n, cs, l, h', h1, hlo, hhi, hl, hn, hK⟩ := hw
      rw [St.ev_erase] at h1
      obtain ⟨g, us, σ1', rfl, rfl, hg1, hv1⟩ := takeS_ok h h1 (h.evr x)
      obtain ⟨hu, hfit, hpos⟩ := elemOf_some hE hel
      obtain ⟨j, z, hj1, hj2, _⟩ := hfit.info
      have hcap : n ≤ g.cap := hg1.hok.1.slcells.2.1
      have elo : lo.map σ.erase.ev = (lo.map σ.ev).map S.erase := by cases lo <;> simp [St.ev_erase]
      have ehi : hi.map σ.erase.ev = (hi.map σ.ev).map S.erase := by cases hi <;> simp [St.ev_erase]
      rw [elo, bound_erase] at hlo
      rw [ehi, bound_erase] at hhi
      have rr : ∀ (q : Option Operand), (∀ s, q.map σ.ev = some s → ∃ v, q.map a.eval = some v ∧ s.Rel σ.mem v) ∧ (q.map σ.ev = none → q.map a.eval = none) := fun q => by
        cases q with
        | none => simp
        | some y => simp [h.evr y]
      have hrun := bounds_run (P := E.P) (w := w) (isS := true) (cap := g.cap) hlo hhi hl hn hcap (rr lo).1 (rr lo).2 (rr hi).1 (rr hi).2
      have hrun' : (execOp a.eval o).run E.P w = .ok (.value (V.sl (g.cut l ei.sz) true ei.sz (h' - l) ((us.drop (l * ei.sz)).take ((h' - l) * ei.sz))).value) w := by
        unfold execOp; rw [ho]
        simp [hv1, Instr.sliceAt, Instr.slice, run_underlying hu, hrun, V.value, sizeOf, run_typeInfo_some hj1, hj2, Gh.cut]
      simp only [Oper.wp, hrun', Oper.upon_value, hd]
      refine ⟨_, ro, (hg1.cut hl hn).bind hnp hnt, ?_⟩
      rw [erase_bind]; simp only [V.erase]
      rw [V.eraseL_map, List.map_take, List.map_drop, ← V.eraseL_map]; exact hK
    · exact hw.elim
  · exact calcK_ok hE h hw

theorem wop_ok {E : Env} (hE : E.Ok) {C : Ctx} {σ : St} {ro : Nat → Prop} {a : Act} {w : World} (h : Good C σ [] ro a w) {o : Oper} {K : St → Prop} {Q : Exit → Act → World → Prop} (hw : wop E C.np C.nt o σ.erase K) :
    o.wp E.P a w (Inv C K) Q := by
  have hw' := hw
  unfold wop at hw
  split at hw
  · rename_i t ho; exact wop_alloc hE h ho hw'
  · rename_i t x ho; exact wop_box h ho hw'
  · rename_i t n ps ho; exact wop_buildSlice hE h ho hw'
  · rename_i t l c ho; exact wop_makeSlice hE h ho hw'
  · rename_i t x v ho; exact wop_store hE h ho hw'
  · rename_i c ho
    split at hw
    · rename_i hc; exact wop_append hE h ho hc hw'
    · exact calcK_ok hE h hw
  · rename_i t x lo hi mx ho; exact wop_slice hE h ho hw'
  · exact calcK_ok hE h hw

end Go.E
namespace Go.E

/-! ### Taking several places, and giving them back -/
theorem V.get_set_apart (p : List Nat) : ∀ (v x : V) (q : List Nat), ¬ p <+: q → ¬ q <+: p → (v.set p x).get q = v.get q := by
  induction p with
  | nil => intro v x q h _; exact absurd List.nil_prefix h
  | cons k p ih =>
    intro v x q h1 h2
    cases q with
    | nil => exact absurd List.nil_prefix h2
    | cons j q =>
      simp only [V.set]
      cases hk : v.cells[k]? with
      | none => rfl
      | some c =>
        simp only
        have hne : v.cells ≠ [] := by intro e; rw [e] at hk; simp at hk
        simp only [V.get, V.cells_withCells v _ hne]
        by_cases e : j = k
        · subst e
          rw [List.getElem?_set_self (List.getElem?_eq_some_iff.1 hk).1, hk]
          exact ih c x q (fun h => h1 (by simpa using h)) (fun h => h2 (by simpa using h))
        · rw [List.getElem?_set_ne (fun h => e h.symm)]
def S.apartB : S → S → Bool
  | .ref d p, .ref e q => decide (d ≠ e) || (!p.isPrefixOf q && !q.isPrefixOf p)
  | _, _ => true
def apart : List S → Bool
  | [] => true
  | s :: ss => ss.all (s.apartB ·) && apart ss
theorem S.apartB_erase (s t : S) : s.erase.apartB t.erase = s.apartB t := by cases s <;> cases t <;> rfl
theorem apart_erase (ss : List S) : apart (S.eraseL ss) = apart ss := by
  induction ss with
  | nil => rfl
  | cons s ss ih =>
    simp only [S.eraseL, apart, ih]
    rw [S.eraseL_map, List.all_map]
    simp only [Function.comp_def, S.apartB_erase]
theorem S.apartB_ref {d e : Nat} {p q : List Nat} (h : (S.ref d p).apartB (.ref e q) = true) : d ≠ e ∨ (¬ p <+: q ∧ ¬ q <+: p) := by
  simp only [S.apartB, Bool.or_eq_true, decide_eq_true_eq, Bool.and_eq_true, Bool.not_eq_true'] at h
  refine h.imp id fun k => ⟨fun hh => ?_, fun hh => ?_⟩
  · rw [List.isPrefixOf_iff_prefix.2 hh] at k; simp at k
  · rw [List.isPrefixOf_iff_prefix.2 hh] at k; simp at k
def St.takes (σ : St) : List S → Option (List V × St)
  | [] => some ([], σ)
  | s :: ss => match σ.take1 s with
    | some (u, _, σ1) => match St.takes σ1 ss with
      | some (us, σ2) => some (u :: us, σ2)
      | none => none
    | none => none
def atL (ss : List S) (e : Nat) (q : List Nat) : Bool := ss.any fun s => match s with
  | S.ref d p => at_ d p e q
  | _ => false
theorem Kept.weak {m m' : Nat → V} {f g : Nat → List Nat → Bool} (h : Kept m m' f) (hf : ∀ e q, f e q = true → g e q = true) : Kept m m' g := fun e q u hg hu => h e q u (by
  cases hx : f e q with
  | false => rfl
  | true => rw [hf e q hx] at hg; exact hg) hu
theorem Kept.refl' (m : Nat → V) (f : Nat → List Nat → Bool) : Kept m m f := fun _ _ u _ hu => ⟨u, hu, .refl u⟩
/-- What is left in the places taken, and what is left elsewhere. -/
structure Taken (ss : List S) (us : List V) (m m' : Nat → V) : Prop where
  len : us.length = ss.length
  places : ∀ (i d : Nat) (p : List Nat), ss[i]? = some (S.ref d p) → ∃ u, us[i]? = some u ∧ (m d).get p = some u ∧ u.owned = true ∧ (m' d).get p = some (.junk u.value)
  kept : Kept m m' (atL ss)
  same : ∀ (d : Nat) (p : List Nat), (∀ s ∈ ss, s.apartB (S.ref d p) = true) → (m' d).get p = (m d).get p
theorem apart_sym {s t : S} (h : s.apartB t = true) : t.apartB s = true := by
  cases s <;> cases t <;> try rfl
  rename_i d p e q
  have : decide (d ≠ e) = decide (e ≠ d) := by simp [eq_comm]
  simp only [S.apartB, this, Bool.and_comm] at h ⊢
  exact h
theorem takes_ok {C : Ctx} {ro : Nat → Prop} {a : Act} {w : World} : ∀ (ss : List S) {σ : St} {H us : List V} {xs : List Value} {τ : St}, apart ss = true → Good C σ H ro a w →
    σ.erase.takes (S.eraseL ss) = some (us, τ) → S.RelL σ.mem ss xs → S.InlL ro w ss →
    ∃ ûs σ', V.eraseL ûs = us ∧ σ'.erase = τ ∧ Good C σ' (ûs ++ H) ro a w ∧ ûs.map V.value = xs ∧ Taken ss ûs σ.mem σ'.mem := by
  intro ss
  induction ss with
  | nil =>
    intro σ H us xs τ _ h ht hr _
    simp only [S.eraseL, St.takes, Option.some.injEq, Prod.mk.injEq] at ht
    obtain ⟨rfl, rfl⟩ := ht
    simp only [S.RelL] at hr; subst hr
    exact ⟨[], σ, rfl, rfl, h, rfl, rfl, fun i d p h => by simp at h, Kept.refl' _ _, fun _ _ _ => rfl⟩
  | cons s ss ih =>
    intro σ H us xs τ hap h ht hr hi
    simp only [apart, Bool.and_eq_true, List.all_eq_true] at hap
    obtain ⟨x, xs', rfl, hr1, hr2⟩ := hr
    simp only [S.eraseL, St.takes] at ht
    cases h1 : σ.erase.take1 s.erase with
    | none => simp [h1] at ht
    | some y =>
      obtain ⟨u, f, τ1⟩ := y
      simp only [h1] at ht
      -- the first
      have first : ∃ û σ1, û.erase = u ∧ σ1.erase = τ1 ∧ Good C σ1 (û :: H) ro a w ∧ û.value = x ∧ Taken [s] [û] σ.mem σ1.mem := by
        cases s with
        | v u' =>
          have hpush : Good C σ ([u'] ++ H) ro a w := h.more ⟨hi.1.1, trivial⟩ (by simp [V.blksL, hi.1.2])
          have hu : u'.erase = u ∧ σ.erase = τ1 := by
            cases u' <;> simp_all [S.erase, V.erase, St.take1]
          refine ⟨u', σ, hu.1, hu.2, hpush, hr1.symm, rfl, fun i d p hh => ?_, Kept.refl' _ _, fun _ _ _ => rfl⟩
          cases i <;> simp at hh
        | ref d p =>
          simp only [S.erase, St.take1, St.get_erase] at h1
          cases hg : (σ.mem d).get p with
          | none => simp [hg] at h1
          | some c =>
            simp only [hg, Option.map_some, V.owned_erase] at h1
            cases ho : c.owned with
            | false => simp [ho] at h1
            | true =>
              simp only [ho, if_true, Option.some.injEq, Prod.mk.injEq] at h1
              obtain ⟨rfl, rfl, rfl⟩ := h1
              obtain ⟨c', g1, g2, g3⟩ := hr1
              rw [hg] at g1; simp at g1; subst g1
              refine ⟨c, _, rfl, ?_, h.take hg, g3.symm, rfl, fun i d' p' hh => ?_, ?_, fun e q hh => ?_⟩
              · rw [erase_setMem, erase_kill, V.set_erase]; rfl
              · cases i with
                | zero =>
                  simp only [List.getElem?_cons_zero, Option.some.injEq, S.ref.injEq] at hh
                  obtain ⟨rfl, rfl⟩ := hh
                  exact ⟨c, rfl, hg, ho, by simp only [St.setMem, upd_same]; exact V.get_set_same p _ hg⟩
                | succ i => simp at hh
              · have := kept_set σ.mem d p (.junk c.value)
                intro e q u hf hu
                exact this e q u (by simpa [atL] using hf) hu
              · have := S.apartB_ref (hh _ (List.mem_singleton.2 rfl))
                simp only [St.setMem, St.kill]
                by_cases e1 : e = d
                · subst e1
                  rw [upd_same]
                  exact V.get_set_apart p _ _ q (this.resolve_left (by simp)).1 (this.resolve_left (by simp)).2
                · rw [upd_ne _ _ e1]
        | _ => simp [S.erase, St.take1] at h1
      obtain ⟨û, σ1, rfl, rfl, hg1, hv1, ht1⟩ := first
      have same1 : ∀ t ∈ ss, ∀ d p, t = .ref d p → (σ1.mem d).get p = (σ.mem d).get p := fun t ht' d p e =>
        ht1.same d p fun s' hs' => by rw [List.mem_singleton.1 hs', ← e]; exact hap.1 t ht'
      cases h2 : σ1.erase.takes (S.eraseL ss) with
      | none => simp [h2] at ht
      | some y =>
        obtain ⟨us', τ2⟩ := y
        simp only [h2, Option.some.injEq, Prod.mk.injEq] at ht
        obtain ⟨rfl, rfl⟩ := ht
        have relSame : ∀ (l : List S) (ys : List Value), (∀ t ∈ l, ∀ d p, t = .ref d p → (σ1.mem d).get p = (σ.mem d).get p) → (∀ t ∈ l, (∃ d p, t = .ref d p) ∨ (∃ u, t = .v u)) → S.RelL σ.mem l ys → S.RelL σ1.mem l ys := by
          intro l
          induction l with
          | nil => intro ys _ _ h; exact h
          | cons t l ihl =>
            intro ys h1 h2 h3
            obtain ⟨y, ys', rfl, k1, k2⟩ := h3
            refine ⟨y, ys', rfl, ?_, ihl ys' (fun t' ht' => h1 t' (by simp [ht'])) (fun t' ht' => h2 t' (by simp [ht'])) k2⟩
            rcases h2 t (by simp) with ⟨d, p, rfl⟩ | ⟨u, rfl⟩
            · obtain ⟨c, c1, c2, c3⟩ := k1
              exact ⟨c, by rw [h1 _ (by simp) d p rfl]; exact c1, c2, c3⟩
            · exact k1
        have shape : ∀ (l : List S) (σ : St) (r : List V × St), σ.takes (S.eraseL l) = some r → ∀ t ∈ l, (∃ d p, t = .ref d p) ∨ (∃ u, t = .v u) := by
          intro l
          induction l with
          | nil => intro _ _ _ t ht; simp at ht
          | cons t l ihl =>
            intro σ r hr t' ht'
            simp only [S.eraseL, St.takes] at hr
            cases k : σ.take1 t.erase with
            | none => simp [k] at hr
            | some y =>
              obtain ⟨y1, y2, y3⟩ := y
              simp only [k] at hr
              cases k' : y3.takes (S.eraseL l) with
              | none => simp [k'] at hr
              | some r' =>
                rcases List.mem_cons.1 ht' with rfl | ht''
                · cases t' with
                  | v u => exact .inr ⟨u, rfl⟩
                  | ref d p => exact .inl ⟨d, p, rfl⟩
                  | _ => simp [S.erase, St.take1] at k
                · exact ihl _ _ k' t' ht''
        have hr2' : S.RelL σ1.mem ss xs' := relSame ss xs' same1 (shape ss _ _ h2) hr2
        obtain ⟨ûs, σ2, rfl, rfl, hg2, hv2, ht2⟩ := ih hap.2 hg1 h2 hr2' hi.2
        refine ⟨û :: ûs, σ2, rfl, rfl, hg2.perm List.perm_middle, by simp [hv1, hv2], ?_⟩
        refine ⟨by simp [ht2.len], fun i d p hh => ?_, ?_, fun d p hh => ?_⟩
        · cases i with
          | zero =>
            simp only [List.getElem?_cons_zero, Option.some.injEq] at hh
            obtain ⟨u, k1, k2, k3, k4⟩ := ht1.places 0 d p (by simp [hh])
            simp only [List.getElem?_cons_zero, Option.some.injEq] at k1 ⊢
            subst k1
            refine ⟨û, rfl, k2, k3, ?_⟩
            rw [ht2.same d p fun s' hs' => by rw [← hh]; exact apart_sym (hap.1 s' hs')]
            exact k4
          | succ i =>
            simp only [List.getElem?_cons_succ] at hh ⊢
            obtain ⟨u, k1, k2, k3, k4⟩ := ht2.places i d p hh
            exact ⟨u, k1, by rw [← same1 _ (List.mem_of_getElem? hh) d p rfl]; exact k2, k3, k4⟩
        · exact (ht1.kept.trans ht2.kept).weak fun e q hh => by
            simp only [Bool.or_eq_true, atL, List.any_cons, List.any_nil, Bool.or_false] at hh ⊢
            exact hh
        · rw [ht2.same d p fun s' hs' => hh s' (by simp [hs']), ht1.same d p fun s' hs' => hh s' (by simp at hs'; simp [hs'])]

/-! ### Giving back -/
def V.shape : V → Nat × Nat × Nat
  | .sl _ _ sz n _ => (1, sz, n)
  | .ptr _ _ cs => (2, cs.length, 0)
  | _ => (0, 0, 0)
def V.alikeB (u u' : V) : Bool := u.owned && u'.owned && decide (u.shape.1 = u'.shape.1)
theorem V.alikeB_erase (u u' : V) : u.erase.alikeB u'.erase = u.alikeB u' := by
  cases u <;> cases u' <;> simp [V.alikeB, V.erase, V.owned, V.shape]
theorem V.alikeB_alike {u u' : V} (h : u.alikeB u' = true) (hv : u'.value = u.value) : u.Alike u' := by
  cases u <;> cases u' <;> simp_all [V.alikeB, V.owned, V.shape, V.Alike, V.value, V.addr, V.head, Gh.blk]
/-- The memory when all has been given back. -/
def backM (m : Nat → V) : List S → List V → (Nat → V)
  | .ref d p :: ss, w :: ws => backM (upd m d ((m d).set p w)) ss ws
  | _ :: ss, _ :: ws => backM m ss ws
  | _, _ => m
/-- What is forgotten when all has been given back. -/
def backF : List S → List V → List V → Nat → List Nat → Bool
  | .ref d p :: ss, u :: us, w :: ws, e, q => (at_ d p e q && !(u.alikeB w && decide (e = d) && decide (q = p))) || backF ss us ws e q
  | _ :: ss, _ :: us, _ :: ws, e, q => backF ss us ws e q
  | _, _, _, _, _ => false
theorem backM_same : ∀ (ss : List S) (ws : List V) (m : Nat → V) (d : Nat) (p : List Nat), (∀ s ∈ ss, s.apartB (S.ref d p) = true) → (backM m ss ws d).get p = (m d).get p := by
  intro ss
  induction ss with
  | nil => intro ws m d p _; cases ws <;> rfl
  | cons s ss ih =>
    intro ws m d p h
    cases ws with
    | nil => cases s <;> rfl
    | cons w ws =>
      cases s with
      | ref e q =>
        simp only [backM]
        rw [ih _ _ _ _ fun s hs => h s (by simp [hs])]
        have := S.apartB_ref (h (.ref e q) (by simp))
        by_cases k : d = e
        · subst k
          rw [upd_same]
          exact V.get_set_apart q _ _ p (this.resolve_left (by simp)).1 (this.resolve_left (by simp)).2
        · rw [upd_ne _ _ k]
      | _ => simp only [backM]; exact ih _ _ _ _ fun s hs => h s (by simp [hs])
theorem backM_kept : ∀ (ss : List S) (ws : List V) (m : Nat → V), Kept m (backM m ss ws) (atL ss) := by
  intro ss
  induction ss with
  | nil => intro ws m; cases ws <;> exact Kept.refl' _ _
  | cons s ss ih =>
    intro ws m
    cases ws with
    | nil => cases s <;> exact Kept.refl' _ _
    | cons w ws =>
      cases s with
      | ref e q =>
        simp only [backM]
        exact ((kept_set m e q w).trans (ih _ _)).weak fun e q hh => by simpa [atL] using hh
      | _ => simp only [backM]; exact (ih _ _).weak fun e q hh => by simp only [atL, List.any_cons, Bool.false_or]; exact hh

end Go.E
namespace Go.E

theorem backM_get : ∀ (ss : List S) (ws : List V) (m : Nat → V), apart ss = true → ∀ (i d : Nat) (p : List Nat) (x : V), ss[i]? = some (S.ref d p) → ws[i]? = some x → ((m d).get p).isSome = true → (backM m ss ws d).get p = some x := by
  intro ss
  induction ss with
  | nil => intro ws m _ i d p x h; simp at h
  | cons s ss ih =>
    intro ws m hap i d p x h1 h2 h3
    simp only [apart, Bool.and_eq_true, List.all_eq_true] at hap
    cases ws with
    | nil => simp at h2
    | cons w ws =>
      cases i with
      | zero =>
        simp only [List.getElem?_cons_zero, Option.some.injEq] at h1 h2
        subst h1; subst h2
        simp only [backM]
        rw [backM_same _ _ _ _ _ fun s hs => apart_sym (hap.1 s hs), upd_same]
        obtain ⟨c, hc⟩ := Option.isSome_iff_exists.1 h3
        exact V.get_set_same p _ hc
      | succ i =>
        simp only [List.getElem?_cons_succ] at h1 h2
        cases s with
        | ref e q =>
          simp only [backM]
          refine ih ws _ hap.2 i d p x h1 h2 ?_
          have := S.apartB_ref (hap.1 _ (List.mem_of_getElem? h1))
          by_cases k : d = e
          · subst k
            rw [upd_same, V.get_set_apart q _ _ p (this.resolve_left (by simp)).1 (this.resolve_left (by simp)).2]
            exact h3
          · rw [upd_ne _ _ k]; exact h3
        | _ => simp only [backM]; exact ih ws _ hap.2 i d p x h1 h2 h3
theorem back_kept {ss : List S} {us ws : List V} {m m1 : Nat → V} (hap : apart ss = true) (ht : Taken ss us m m1) (hv : ws.map V.value = us.map V.value) : Kept m (backM m1 ss ws) (backF ss us ws) := by
  intro e q u hf hu
  by_cases hat : atL ss e q = false
  · obtain ⟨u1, k1, k2⟩ := ht.kept e q u hat hu
    obtain ⟨u2, l1, l2⟩ := backM_kept ss ws m1 e q u1 hat k1
    exact ⟨u2, l1, k2.trans l2⟩
  · simp only [Bool.not_eq_false, atL, List.any_eq_true] at hat
    obtain ⟨s, hs, hat⟩ := hat
    cases s with
    | ref d p =>
      obtain ⟨i, hi⟩ := List.getElem?_of_mem hs
      obtain ⟨u', k1, k2, k3, k4⟩ := ht.places i d p hi
      have hwl : ∃ x, ws[i]? = some x ∧ x.value = u'.value := by
        have : (ws.map V.value)[i]? = (us.map V.value)[i]? := by rw [hv]
        simp only [List.getElem?_map, k1, Option.map_some, Option.map_eq_some_iff] at this
        obtain ⟨x, x1, x2⟩ := this
        exact ⟨x, x1, x2⟩
      obtain ⟨x, x1, x2⟩ := hwl
      have key : ∀ (ss : List S) (us ws : List V) (i : Nat), backF ss us ws e q = false → ss[i]? = some (S.ref d p) → us[i]? = some u' → ws[i]? = some x → u'.alikeB x = true ∧ e = d ∧ q = p := by
        intro ss
        induction ss with
        | nil => intro us ws i _ h; simp at h
        | cons t ss ih =>
          intro us ws i hb h1 h2 h3
          cases us with
          | nil => simp at h2
          | cons u1 us =>
            cases ws with
            | nil => simp at h3
            | cons w1 ws =>
              cases i with
              | zero =>
                simp only [List.getElem?_cons_zero, Option.some.injEq] at h1 h2 h3
                subst h1; subst h2; subst h3
                simp only [backF, hat, Bool.true_and, Bool.or_eq_false_iff, Bool.not_eq_false', Bool.and_eq_true, decide_eq_true_eq] at hb
                exact ⟨hb.1.1.1, hb.1.1.2, hb.1.2⟩
              | succ i =>
                simp only [List.getElem?_cons_succ] at h1 h2 h3
                cases t with
                | ref d' p' =>
                  simp only [backF, Bool.or_eq_false_iff] at hb
                  exact ih us ws i hb.2 h1 h2 h3
                | _ => simp only [backF] at hb; exact ih us ws i hb h1 h2 h3
      obtain ⟨h1, rfl, rfl⟩ := key ss us ws i hf hi k1 x1
      rw [k2] at hu; simp at hu; subst hu
      exact ⟨x, backM_get ss ws m1 hap i e q x hi x1 (by rw [k4]; rfl), V.alikeB_alike h1 x2⟩
    | _ => simp at hat
theorem back_good {C : Ctx} {ro : Nat → Prop} {a : Act} {w : World} : ∀ (ss : List S) (ws : List V) {σ : St} {H : List V}, apart ss = true → Good C σ (ws ++ H) ro a w →
    (∀ (i d : Nat) (p : List Nat) (x : V), ss[i]? = some (S.ref d p) → ws[i]? = some x → (σ.mem d).get p = some (.junk x.value)) → ∃ σ', σ'.mem = backM σ.mem ss ws ∧ Good C σ' H ro a w := by
  intro ss
  have dropAll : ∀ (ws : List V) {σ : St} {H : List V}, Good C σ (ws ++ H) ro a w → Good C σ H ro a w := by
    intro ws
    induction ws with
    | nil => intro σ H h; exact h
    | cons x ws ih => intro σ H h; exact ih h.drop
  induction ss with
  | nil => intro ws σ H _ h _; refine ⟨σ, by cases ws <;> rfl, dropAll ws h⟩
  | cons s ss ih =>
    intro ws σ H hap h hj
    simp only [apart, Bool.and_eq_true, List.all_eq_true] at hap
    cases ws with
    | nil => exact ⟨σ, by cases s <;> rfl, h⟩
    | cons x ws =>
      cases s with
      | ref d p =>
        have hg := hj 0 d p x rfl rfl
        have hm := h.modify (H' := ws ++ H) (w' := w) (c' := x) (f := at_ d p) hg rfl (kept_set σ.mem d p x) (fun _ _ _ _ => rfl) (Nat.le_refl _) rfl rfl rfl h.hok h.hnd (fun b hb => .inr (.inl hb))
        obtain ⟨σ', k1, k2⟩ := ih ws hap.2 hm (fun i e q y h1 h2 => by
          have := S.apartB_ref (hap.1 _ (List.mem_of_getElem? h1))
          have old := hj (i + 1) e q y h1 h2
          simp only [St.setMem]
          by_cases k : e = d
          · subst k
            rw [upd_same, V.get_set_apart p _ _ q (this.resolve_left (by simp)).1 (this.resolve_left (by simp)).2]
            exact old
          · rw [upd_ne _ _ k]; exact old)
        exact ⟨σ', k1, k2⟩
      | _ =>
        obtain ⟨σ', k1, k2⟩ := ih ws hap.2 h.drop (fun i e q y h1 h2 => hj (i + 1) e q y h1 h2)
        exact ⟨σ', k1, k2⟩
theorem Good.reslot {C : Ctx} {σ σ' : St} {H0 H : List V} {ro : Nat → Prop} {a : Act} {w w' : World} {f : Nat → List Nat → Bool} (h : Good C σ H0 ro a w) (h' : Good C σ' H ro a w') (hk : Kept σ.mem σ'.mem f)
    (hro : ∀ b, ro b → w'.heap[b]? = w.heap[b]?) : Good C ⟨fun t => (σ.slots t).kill f, σ'.mem⟩ H ro a w' :=
  { h' with
    slots := fun t => by
      rcases h.slots t with k | ⟨x, k1, k2⟩
      · exact .inl (by simp [k, S.kill])
      · exact .inr ⟨x, k1, hk.rel k2⟩
    inl := fun t => S.Inl.kill _ _ (S.Inl.frame (fun _ k => k) hro _ (h.inl t)) }

/-! ### Lending -/
mutual
def St.lend (σ : St) : S → Option V
  | .v u => some u
  | .ref d p => match (σ.mem d).get p with
    | some u => if u.owned then some u.ro else none
    | none => none
  | .agg ss => match St.lendL σ ss with
    | some us => some (.agg us)
    | none => none
  | .tup ss => match St.lendL σ ss with
    | some us => some (.tup us)
    | none => none
  | .fn f ss => match St.lendL σ ss with
    | some us => some (.fn f us)
    | none => none
  | _ => none
def St.lendL (σ : St) : List S → Option (List V)
  | [] => some []
  | s :: ss => match St.lend σ s, St.lendL σ ss with
    | some u, some us => some (u :: us)
    | _, _ => none
end

end Go.E
namespace Go.E

/-! ### Lending: what is lent stands for what it stood for -/
mutual
theorem St.lend_erase (σ : St) : ∀ (s : S), σ.erase.lend s.erase = (σ.lend s).map V.erase
  | .v u => by simp only [S.erase, St.lend, Option.map_some]
  | .ref d p => by
    simp only [S.erase, St.lend, St.get_erase]
    cases (σ.mem d).get p with
    | none => rfl
    | some u =>
      simp only [Option.map_some, V.owned_erase]
      split <;> simp [V.ro_erase]
  | .agg ss => by
    simp only [S.erase, St.lend, St.lendL_erase σ ss]
    cases σ.lendL ss <;> simp [V.erase]
  | .tup ss => by
    simp only [S.erase, St.lend, St.lendL_erase σ ss]
    cases σ.lendL ss <;> simp [V.erase]
  | .fn f ss => by
    simp only [S.erase, St.lend, St.lendL_erase σ ss]
    cases σ.lendL ss <;> simp [V.erase]
  | .adr .. => rfl
  | .radr .. => rfl
  | .junk => rfl
theorem St.lendL_erase (σ : St) : ∀ (ss : List S), σ.erase.lendL (S.eraseL ss) = (σ.lendL ss).map V.eraseL
  | [] => rfl
  | s :: ss => by
    simp only [S.eraseL, St.lendL, St.lend_erase σ s, St.lendL_erase σ ss]
    cases σ.lend s <;> cases σ.lendL ss <;> simp [V.eraseL]
end
/-- What memory a call may look at. -/
def St.lentTo (σ : St) (ro : Nat → Prop) (b : Nat) : Prop := ro b ∨ ∃ d, b ∈ (σ.mem d).blks
section
variable {C : Ctx} {σ σ1 : St} {H H1 us : List V} {own : List S} {ro : Nat → Prop} {a : Act} {w : World}
theorem lent_place (ht : Taken own us σ.mem σ1.mem) {d : Nat} {p : List Nat} {u u1 : V} (hu : (σ.mem d).get p = some u) (h1 : (σ1.mem d).get p = some u1) (ho : u1.owned = true) : u.Alike u1 := by
  by_cases hat : atL own d p = false
  · obtain ⟨u', k1, k2⟩ := ht.kept d p u hat hu
    rw [h1] at k1; simp at k1; subst k1; exact k2
  · exfalso
    simp only [Bool.not_eq_false, atL, List.any_eq_true] at hat
    obtain ⟨s, hs, hat⟩ := hat
    cases s with
    | ref e q =>
      simp only [at_, Bool.and_eq_true, decide_eq_true_eq] at hat
      obtain ⟨rfl, hq⟩ := hat
      obtain ⟨i, hi⟩ := List.getElem?_of_mem hs
      obtain ⟨u', _, _, _, k4⟩ := ht.places i d q hi
      obtain ⟨r, rfl⟩ := List.isPrefixOf_iff_prefix.1 hq
      rw [V.get_append, k4] at h1
      cases r with
      | nil => simp [V.get] at h1; subst h1; simp [V.owned] at ho
      | cons j r => simp [V.get, V.cells] at h1
    | _ => simp at hat
mutual
theorem lend_ok (h : Good C σ H ro a w) (h1 : Good C σ1 H1 ro a w) (ht : Taken own us σ.mem σ1.mem) : ∀ (s : S) {x : Value} {u : V}, σ1.lend s = some u → s.Rel σ.mem x → s.Inl ro w →
    u.value = x ∧ u.Ok (σ1.lentTo ro) w ∧ u.blks = []
  | .v u', x, u, hl, hr, hi => by
    simp only [St.lend, Option.some.injEq] at hl; subst hl
    exact ⟨hr.symm, hi.1.frame (fun b k => .inl k) (fun _ _ => rfl) _ fun _ _ => rfl, hi.2⟩
  | .ref d p, x, u, hl, hr, hi => by
    simp only [St.lend] at hl
    split at hl
    · rename_i u1 hu1
      split at hl
      · rename_i ho
        simp only [Option.some.injEq] at hl; subst hl
        obtain ⟨u0, k1, k2, k3⟩ := hr
        have hal := lent_place ht k1 hu1 ho
        refine ⟨by rw [V.ro_value, (hal.2.2 k2).1, k3], V.Ok.ro (fun b k => .inl k) _ ((h1.mok d).get p hu1) (fun b hb => .inr ⟨d, ?_⟩), V.ro_blks _⟩
        rw [V.blks_get p hu1]; simp [hb]
      · simp at hl
    · simp at hl
  | .agg ss, x, u, hl, hr, hi => by
    simp only [St.lend] at hl
    split at hl
    · rename_i us' hus
      simp only [Option.some.injEq] at hl; subst hl
      obtain ⟨xs, rfl, hr'⟩ := hr
      obtain ⟨k1, k2, k3⟩ := lendL_ok h h1 ht ss hus hr' hi
      exact ⟨by simp only [V.value, V.values_map, k1], k2, k3⟩
    · simp at hl
  | .tup ss, x, u, hl, hr, hi => by
    simp only [St.lend] at hl
    split at hl
    · rename_i us' hus
      simp only [Option.some.injEq] at hl; subst hl
      obtain ⟨xs, rfl, hr'⟩ := hr
      obtain ⟨k1, k2, k3⟩ := lendL_ok h h1 ht ss hus hr' hi
      exact ⟨by simp only [V.value, V.values_map, k1], k2, k3⟩
    · simp at hl
  | .fn f ss, x, u, hl, hr, hi => by
    simp only [St.lend] at hl
    split at hl
    · rename_i us' hus
      simp only [Option.some.injEq] at hl; subst hl
      obtain ⟨xs, rfl, hr'⟩ := hr
      obtain ⟨k1, k2, k3⟩ := lendL_ok h h1 ht ss hus hr' hi
      exact ⟨by simp only [V.value, V.values_map, k1], k2, k3⟩
    · simp at hl
  | .adr .., _, _, hl, _, _ => by simp [St.lend] at hl
  | .radr .., _, _, hl, _, _ => by simp [St.lend] at hl
  | .junk, _, _, hl, _, _ => by simp [St.lend] at hl
theorem lendL_ok (h : Good C σ H ro a w) (h1 : Good C σ1 H1 ro a w) (ht : Taken own us σ.mem σ1.mem) : ∀ (ss : List S) {xs : List Value} {us' : List V}, σ1.lendL ss = some us' → S.RelL σ.mem ss xs → S.InlL ro w ss →
    us'.map V.value = xs ∧ V.OkL (σ1.lentTo ro) w us' ∧ V.blksL us' = []
  | [], xs, us', hl, hr, _ => by
    simp only [St.lendL, Option.some.injEq] at hl; subst hl
    simp only [S.RelL] at hr; subst hr
    exact ⟨rfl, trivial, rfl⟩
  | s :: ss, xs, us', hl, hr, hi => by
    simp only [St.lendL] at hl
    split at hl
    · rename_i u us'' hu hus
      simp only [Option.some.injEq] at hl; subst hl
      obtain ⟨x, xs', rfl, hr1, hr2⟩ := hr
      obtain ⟨k1, k2, k3⟩ := lend_ok h h1 ht s hu hr1 hi.1
      obtain ⟨l1, l2, l3⟩ := lendL_ok h h1 ht ss hus hr2 hi.2
      exact ⟨by simp [k1, l1], ⟨k2, l2⟩, by simp [V.blksL, k3, l3]⟩
    · simp at hl
end
end

/-! ### What a function does -/
/-- The world behind a call. -/
structure After (ro : Nat → Prop) (w w' : World) (vs : List V) (r : V) (outs : List V) : Prop where
  rok : r.Ok (fun _ => False) w'
  ook : V.OkL (fun _ => False) w' outs
  vals : outs.map V.value = vs.map V.value
  nd : (r.blks ++ V.blksL outs).Nodup
  new : ∀ b ∈ r.blks ++ V.blksL outs, b ∈ V.blksL vs ∨ (w.heap.size ≤ b ∧ b < w'.heap.size)
  frame : ∀ b, b < w.heap.size → b ∉ V.blksL vs → w'.heap[b]? = w.heap[b]?
  size : w.heap.size ≤ w'.heap.size
  os : w'.os = w.os
  tape : w'.tape = w.tape
  output : w'.output = w.output
/-- A function with a body. -/
def Enters (P : Program) (f : FuncId) : Prop := ∃ fn, P.funcs[f]? = some fn ∧ fn.body.isNone = false ∧ (fn.name == "runtime.NumGoroutine") = false
/-- A function, called with these arguments (what they own is handed over; the rest is lent): its result, and what it leaves in what it was handed. -/
def Spec (P : Program) (f : FuncId) (args : List V) (post : V → List V → Prop) : Prop :=
  Enters P f ∧ ∀ (ro : Nat → Prop) (w : World) (vs : List V), V.eraseL vs = args → V.OkL ro w vs → (V.blksL vs).Nodup → (∀ b ∈ V.blksL vs, ¬ ro b ∧ b < w.heap.size) → (∀ b, ro b → b < w.heap.size) →
    Calls P f (vs.map V.value).toArray w fun e w' => ∃ r outs, e = .returned r.value ∧ post r.erase (V.eraseL outs) ∧ After ro w w' vs r outs
theorem Spec.mono {P : Program} {f : FuncId} {args : List V} {post post' : V → List V → Prop} (h : Spec P f args post) (hp : ∀ r outs, post r outs → post' r outs) : Spec P f args post' :=
  ⟨h.1, fun ro w vs h1 h2 h3 h4 h5 => (h.2 ro w vs h1 h2 h3 h4 h5).mono fun _ _ ⟨r, outs, k1, k2, k3⟩ => ⟨r, outs, k1, hp _ _ k2, k3⟩⟩

end Go.E
namespace Go.E

/-! ### The arguments of a call -/
/-- The places whose trees are handed over. -/
def ownL : List (Bool × S) → List S
  | [] => []
  | (false, _) :: r => ownL r
  | (true, .agg ss) :: r => ss ++ ownL r
  | (true, s) :: r => s :: ownL r
/-- The arguments' trees: what was taken, and what is lent. -/
def asm (σ : St) : List (Bool × S) → List V → Option (List V)
  | [], us => if us.isEmpty then some [] else none
  | (false, s) :: r, us => match σ.lend s, asm σ r us with
    | some v, some vs => some (v :: vs)
    | _, _ => none
  | (true, s) :: r, us => match s with
    | .agg ss => if ss.length ≤ us.length then (match asm σ r (us.drop ss.length) with
      | some vs => some (.agg (us.take ss.length) :: vs)
      | none => none) else none
    | _ => match us with
      | u :: us => match asm σ r us with
        | some vs => some (u :: vs)
        | none => none
      | [] => none
/-- What comes back, place by place. -/
def dis : List (Bool × S) → List V → Option (List V)
  | [], os => if os.isEmpty then some [] else none
  | (false, _) :: r, os => match os with
    | _ :: os => dis r os
    | [] => none
  | (true, s) :: r, os => match s with
    | .agg ss => match os with
      | .agg ws :: os => if ws.length = ss.length then (match dis r os with
        | some x => some (ws ++ x)
        | none => none) else none
      | _ => none
    | _ => match os with
      | o :: os => match dis r os with
        | some x => some (o :: x)
        | none => none
      | [] => none
def eraseB (ms : List (Bool × S)) : List (Bool × S) := ms.map fun x => (x.1, x.2.erase)
theorem S.eraseL_append (a b : List S) : S.eraseL (a ++ b) = S.eraseL a ++ S.eraseL b := by simp [S.eraseL_map]
theorem V.eraseL_append (a b : List V) : V.eraseL (a ++ b) = V.eraseL a ++ V.eraseL b := by simp [V.eraseL_map]
theorem V.eraseL_length (a : List V) : (V.eraseL a).length = a.length := by simp [V.eraseL_map]
theorem S.eraseL_length (a : List S) : (S.eraseL a).length = a.length := by simp [S.eraseL_map]
theorem ownL_erase : ∀ (ms : List (Bool × S)), ownL (eraseB ms) = S.eraseL (ownL ms) := by
  intro ms
  induction ms with
  | nil => rfl
  | cons m ms ih =>
    obtain ⟨b, s⟩ := m
    have e : eraseB ((b, s) :: ms) = (b, s.erase) :: eraseB ms := rfl
    rw [e]
    cases b with
    | false => simp only [ownL, ih]
    | true => cases s <;> simp only [S.erase, ownL, ih, S.eraseL_append, S.eraseL]
theorem asm_erase (σ : St) : ∀ (ms : List (Bool × S)) (us : List V), asm σ.erase (eraseB ms) (V.eraseL us) = (asm σ ms us).map V.eraseL := by
  intro ms
  induction ms with
  | nil => intro us; cases us <;> rfl
  | cons m ms ih =>
    intro us
    obtain ⟨b, s⟩ := m
    have e : eraseB ((b, s) :: ms) = (b, s.erase) :: eraseB ms := rfl
    rw [e]
    cases b with
    | false =>
      simp only [asm, St.lend_erase, ih]
      cases σ.lend s <;> cases asm σ ms us <;> simp [V.eraseL]
    | true =>
      cases s with
      | agg ss =>
        simp only [S.erase, asm, V.eraseL_length, S.eraseL_length]
        split
        · have : (V.eraseL us).drop ss.length = V.eraseL (us.drop ss.length) := by simp [V.eraseL_map, List.map_drop]
          rw [this, ih]
          cases asm σ ms (us.drop ss.length) with
          | none => rfl
          | some vs => simp [V.eraseL, V.erase, V.eraseL_map, List.map_take]
        · rfl
      | _ =>
        cases us with
        | nil => rfl
        | cons u us =>
          simp only [S.erase, asm, V.eraseL, ih]
          cases asm σ ms us <;> simp [V.eraseL]
theorem dis_erase : ∀ (ms : List (Bool × S)) (os : List V), dis (eraseB ms) (V.eraseL os) = (dis ms os).map V.eraseL := by
  intro ms
  induction ms with
  | nil => intro os; cases os <;> rfl
  | cons m ms ih =>
    intro os
    obtain ⟨b, s⟩ := m
    have e : eraseB ((b, s) :: ms) = (b, s.erase) :: eraseB ms := rfl
    rw [e]
    cases b with
    | false =>
      cases os with
      | nil => rfl
      | cons o os => simp only [dis, V.eraseL, ih]
    | true =>
      cases s with
      | agg ss =>
        cases os with
        | nil => rfl
        | cons o os =>
          cases o with
          | agg ws =>
            simp only [S.erase, V.eraseL, V.erase, dis, V.eraseL_length, S.eraseL_length, ih]
            split
            · cases dis ms os <;> simp [V.eraseL_append]
            · rfl
          | _ => rfl
      | _ =>
        cases os with
        | nil => rfl
        | cons o os =>
          simp only [S.erase, dis, V.eraseL, ih]
          cases dis ms os <;> simp [V.eraseL]
theorem backF_erase : ∀ (ss : List S) (us ws : List V), backF (S.eraseL ss) (V.eraseL us) (V.eraseL ws) = backF ss us ws := by
  intro ss
  induction ss with
  | nil => intro us ws; funext e q; rfl
  | cons s ss ih =>
    intro us ws
    funext e q
    cases us with
    | nil => cases s <;> rfl
    | cons u us =>
      cases ws with
      | nil => cases s <;> rfl
      | cons w ws => cases s <;> simp only [S.eraseL, S.erase, V.eraseL, backF, V.alikeB_erase, ih]
theorem backM_erase : ∀ (ss : List S) (ws : List V) (m : Nat → V), backM (fun d => (m d).erase) (S.eraseL ss) (V.eraseL ws) = fun d => (backM m ss ws d).erase := by
  intro ss
  induction ss with
  | nil => intro ws m; cases ws <;> rfl
  | cons s ss ih =>
    intro ws m
    cases ws with
    | nil => cases s <;> rfl
    | cons w ws =>
      cases s with
      | ref d p =>
        simp only [S.eraseL, S.erase, V.eraseL, backM]
        rw [← ih]
        congr 1
        funext e
        by_cases h : e = d
        · subst h; simp [upd_same, V.set_erase]
        · simp [upd_ne _ _ h]
      | _ => simp only [S.eraseL, S.erase, V.eraseL, backM, ih]
theorem relL_append {m : Nat → V} : ∀ (a b : List S) (x y : List Value), S.RelL m a x → S.RelL m b y → S.RelL m (a ++ b) (x ++ y) := by
  intro a
  induction a with
  | nil => intro b x y h1 h2; simp only [S.RelL] at h1; subst h1; exact h2
  | cons s a ih =>
    intro b x y h1 h2
    obtain ⟨z, zs, rfl, k1, k2⟩ := h1
    exact ⟨z, zs ++ y, rfl, k1, ih b zs y k2 h2⟩
theorem relL_length {m : Nat → V} : ∀ (a : List S) (x : List Value), S.RelL m a x → x.length = a.length := by
  intro a
  induction a with
  | nil => intro x h; simp only [S.RelL] at h; simp [h]
  | cons s a ih => intro x h; obtain ⟨z, zs, rfl, _, k2⟩ := h; simp [ih zs k2]
theorem inlL_append {ro : Nat → Prop} {w : World} : ∀ (a b : List S), S.InlL ro w a → S.InlL ro w b → S.InlL ro w (a ++ b) := by
  intro a
  induction a with
  | nil => intro b _ h; exact h
  | cons s a ih => intro b h1 h2; exact ⟨h1.1, ih b h1.2 h2⟩
theorem own_rel {m : Nat → V} {ro : Nat → Prop} {w : World} : ∀ (ms : List (Bool × S)) (xs : List Value), S.RelL m (ms.map Prod.snd) xs → S.InlL ro w (ms.map Prod.snd) → (∃ ys, S.RelL m (ownL ms) ys) ∧ S.InlL ro w (ownL ms) := by
  intro ms
  induction ms with
  | nil => intro xs _ _; exact ⟨⟨[], rfl⟩, trivial⟩
  | cons x ms ih =>
    intro xs h hi
    obtain ⟨b, s⟩ := x
    obtain ⟨z, zs, rfl, k1, k2⟩ := h
    obtain ⟨⟨ys, l1⟩, l2⟩ := ih zs k2 hi.2
    cases b with
    | false => exact ⟨⟨ys, l1⟩, l2⟩
    | true =>
      cases s with
      | agg ss =>
        obtain ⟨as, rfl, k3⟩ := k1
        exact ⟨⟨as ++ ys, relL_append _ _ _ _ k3 l1⟩, inlL_append _ _ hi.1 l2⟩
      | _ => exact ⟨⟨z :: ys, z, ys, rfl, k1, l1⟩, hi.1, l2⟩

end Go.E
