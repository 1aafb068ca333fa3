import Derived.Test.YtnebclliacjjkabE2
/- The framework: states of the machine as trees, what the operations do to them, and that this is what the machine does. -/
set_option linter.unusedVariables false
set_option linter.unusedSimpArgs false
namespace Go.E

/-! ### Trees in structs -/
/-- Slots that hold trees to read or plain values. -/
def trees? : List S → Option (List V)
  | [] => some []
  | .v (.val v) :: l => (trees? l).map (.val v :: ·)
  | .v (.sl g o s n cs) :: l => (trees? l).map (.sl g o s n cs :: ·)
  | _ :: _ => none
section
variable {E : Env} {np nt : Nat} {ops : Array Oper} {Q : Exit → St → Prop} {i : Nat} {rest : List Nat} {ss ss1 : List (Nat × S)} {ms ms1 : List (Nat × V)} {d : Nat}
variable {ty : TypeId} {pos : String} {af : Array Edge} {gu : Option (Nat × Bool)} {x y : Operand} {sx : S}
theorem takeL_trees {σ : St} : ∀ (l : List S) (us : List V) (F : Nat → List Nat → Bool), trees? l = some us → σ.takeL F l = some (us, σ) := by
  intro l
  induction l with
  | nil => intro us F h; simp [trees?] at h; subst h; rfl
  | cons s l ih =>
    intro us F h
    unfold trees? at h
    split at h
    · rename_i h0; cases h0
    · rename_i v l' h0
      cases h0
      simp only [Option.map_eq_some_iff] at h
      obtain ⟨us', h1, rfl⟩ := h
      simp only [St.takeL, S.kill, St.take1, ih us' _ h1]
    · rename_i g o s n cs l' h0
      cases h0
      simp only [Option.map_eq_some_iff] at h
      obtain ⟨us', h1, rfl⟩ := h
      simp only [St.takeL, S.kill, St.take1, ih us' _ h1]
    · cases h
theorem takeL_nil {σ : St} {F : Nat → List Nat → Bool} : σ.takeL F [] = some ([], σ) := rfl
theorem takeL_val {F : Nat → List Nat → Bool} {v : Value} {l : List S} {us : List V} (h : (mkSt ss ms).takeL (fun e q => F e q || nokill e q) l = some (us, mkSt ss1 ms1)) : (mkSt ss ms).takeL F (.v (.val v) :: l) = some (.val v :: us, mkSt ss1 ms1) := by
  simp only [St.takeL, S.kill, St.take1, h]
theorem takeL_ref {F : Nat → List Nat → Bool} {e : Nat} {p : List Nat} {u u' : V} {l : List S} {us : List V} (hk : F e p = false) (hm : ((mkSt ss ms).mem e).get p = some u) (ho : u.owned = true) (hs : ((mkSt ss ms).mem e).set p (.junk undef) = u')
    (h : (mkSt (killSs (at_ e p) ss) ((e, u') :: ms)).takeL (fun e' q => F e' q || at_ e p e' q) l = some (us, mkSt ss1 ms1)) : (mkSt ss ms).takeL F (.ref e p :: l) = some (u :: us, mkSt ss1 ms1) := by
  simp only [St.takeL, S.kill, hk, Bool.false_eq_true, if_false, St.take1, hm, ho, if_true, hs, mkSt_kill, mkSt_setMem, h]
/-- A struct of trees to read, in cells of its own. -/
theorem x_boxT {t : TypeId} {us : List V} {cells : List S} (k : wops E np nt ops Q rest (mkSt ((d, .ref d []) :: killSs (at_ d []) ss) ((d, .ptr .z true us) :: ms)))
    (ho : ops[i]? = some ⟨some d, .box t x, ty, pos, af, gu⟩ := by rfl) (hop : Open ops ss ⟨some d, .box t x, ty, pos, af, gu⟩ := by first | exact open_none rfl | exact open_some rfl rfl rfl) (hnp : np ≤ d := by decide) (hlt : d < nt := by decide)
    (hx : (mkSt ss ms).ev x = .agg cells := by exact ev_t rfl) (hcs : trees? cells = some us := by rfl) : wops E np nt ops Q (i :: rest) (mkSt ss ms) := by
  refine step_of ho hop (fun d' h => by simp at h; subst h; exact hlt) ?_
  simp only [wstep, wop]
  refine ⟨hnp, hlt, us, mkSt ss ms, ?_, ?_⟩
  · have hf : (S.agg cells).fine = true := rfl
    simp only [St.takeO, hx, hf, if_true, S.flat]
    exact takeL_trees _ _ _ hcs
  · rw [mkSt_bind]; exact k
/-- A struct with trees, stored over the whole of a variable. -/
theorem x_putAllT {t e : Nat} {ti : TI} {cs us : List V} {cells : List S}
    (kk : wops E np nt ops Q rest (mkSt (killSs (on_ e [] 0 us.length) ss1) ((e, .ptr .z true us) :: ms1)))
    (ho : ops[i]? = some ⟨none, .store t x y, ty, pos, af, gu⟩ := by rfl) (hop : Open ops ss ⟨none, .store t x y, ty, pos, af, gu⟩ := by first | exact open_none rfl | exact open_some rfl rfl rfl)
    (hy : (mkSt ss ms).ev y = .agg cells := by exact ev_t rfl)
    (htk : (mkSt ss ms).takeL nokill cells = some (us, mkSt ss1 ms1) := by repeat (first | exact takeL_nil | refine takeL_val ?_ | refine takeL_ref rfl rfl rfl rfl ?_))
    (hx : (mkSt ss1 ms1).ev x = sx := by first | exact ev_t rfl | exact ev_c) (ha : (mkSt ss1 ms1).adr sx = some (.own e [] 0) := by rfl) (ht : E.tt t = some ti := by rfl)
    (hm : ms1.find? (fun x => x.1 == e) = some (e, .ptr .z true cs) := by rfl) (hk : cs.length = us.length := by rfl) (hone : us.all V.one = true := by rfl) (h1 : us.length = ti.sz := by rfl) (h0 : 0 < ti.sz := by decide) : wops E np nt ops Q (i :: rest) (mkSt ss ms) := by
  refine step_of ho hop (fun d' h => by simp at h) ?_
  simp only [wstep, wop, ht]
  refine ⟨us, mkSt ss1 ms1, ?_, h1, h0, hone, e, [], 0, .ptr .z true cs, by rw [hx]; exact ha, by rw [mem_of hm]; rfl, rfl, by show 0 + us.length ≤ cs.length; omega, trivial, ?_⟩
  · have hf : (S.agg cells).fine = true := rfl
    simp only [St.takeO, hy, hf, if_true, S.flat]
    exact htk
  · rw [mkSt_kill, mkSt_setMem]
    have : ((mkSt ss1 ms1).mem e).set [] ((V.ptr .z true cs).withCells (putV (V.ptr .z true cs).cells 0 us)) = .ptr .z true us := by
      show V.ptr .z true (putV cs 0 us) = _
      simp [putV, ← hk]
    rw [this]; exact kk
/-- A tree of the function's own, stored in a cell of a variable. -/
theorem x_putTK {t e k e' : Nat} {p : List Nat} {ti : TI} {u u' : V} {cs cs' : List V} (hput : putV cs k [u] = cs') (hk : k < cs.length)
    (kk : wops E np nt ops Q rest (mkSt (killSs (on_ e [] k 1) (killSs (at_ e' p) ss)) ((e, .ptr .z true cs') :: (e', u') :: ms)))
    (ho : ops[i]? = some ⟨none, .store t x y, ty, pos, af, gu⟩) (hop : Open ops ss ⟨none, .store t x y, ty, pos, af, gu⟩)
    (hy : (mkSt ss ms).ev y = .ref e' p) (hm' : ((mkSt ss ms).mem e').get p = some u) (how : u.owned = true) (hs : ((mkSt ss ms).mem e').set p (.junk undef) = u')
    (hx : (mkSt (killSs (at_ e' p) ss) ((e', u') :: ms)).ev x = sx) (ha : (mkSt (killSs (at_ e' p) ss) ((e', u') :: ms)).adr sx = some (.own e [] k)) (ht : E.tt t = some ti) (h1 : ti.sz = 1)
    (hm : ((e', u') :: ms).find? (fun x => x.1 == e) = some (e, .ptr .z true cs)) (hone : V.one u = true) : wops E np nt ops Q (i :: rest) (mkSt ss ms) := by
  refine step_of ho hop (fun d' h => by simp at h) ?_
  simp only [wstep, wop, ht]
  refine ⟨[u], mkSt (killSs (at_ e' p) ss) ((e', u') :: ms), ?_, by simp [h1], by omega, by simp [hone], e, [], k, .ptr .z true cs, by rw [hx]; exact ha, by rw [mem_of hm]; rfl, rfl, hk, trivial, ?_⟩
  · have hf : (S.ref e' p).fine = true := rfl
    simp only [St.takeO, hy, hf, if_true, S.flat]
    exact takeL_ref rfl hm' how hs takeL_nil
  · simp only [List.length_cons, List.length_nil, Nat.zero_add]
    rw [mkSt_kill, mkSt_setMem]
    have : ((mkSt (killSs (at_ e' p) ss) ((e', u') :: ms)).mem e).set [] ((V.ptr .z true cs).withCells (putV (V.ptr .z true cs).cells k [u])) = .ptr .z true cs' := by
      rw [← hput]; rfl
    rw [this]; exact kk
theorem x_put0T {t e e' : Nat} {p : List Nat} {ti : TI} {u u' a0 : V} {cs : List V}
    (kk : wops E np nt ops Q rest (mkSt (killSs (on_ e [] 0 1) (killSs (at_ e' p) ss)) ((e, .ptr .z true (u :: cs)) :: (e', u') :: ms)))
    (ho : ops[i]? = some ⟨none, .store t x y, ty, pos, af, gu⟩ := by rfl) (hop : Open ops ss ⟨none, .store t x y, ty, pos, af, gu⟩ := by first | exact open_none rfl | exact open_some rfl rfl rfl)
    (hy : (mkSt ss ms).ev y = .ref e' p := by exact ev_t rfl) (hm' : ((mkSt ss ms).mem e').get p = some u := by rfl) (how : u.owned = true := by rfl) (hs : ((mkSt ss ms).mem e').set p (.junk undef) = u' := by rfl)
    (hx : (mkSt (killSs (at_ e' p) ss) ((e', u') :: ms)).ev x = sx := by first | exact ev_t rfl | exact ev_c) (ha : (mkSt (killSs (at_ e' p) ss) ((e', u') :: ms)).adr sx = some (.own e [] 0) := by rfl) (ht : E.tt t = some ti := by rfl) (h1 : ti.sz = 1 := by rfl)
    (hm : ((e', u') :: ms).find? (fun x => x.1 == e) = some (e, .ptr .z true (a0 :: cs)) := by rfl) (hone : V.one u = true := by rfl) : wops E np nt ops Q (i :: rest) (mkSt ss ms) :=
  x_putTK (cs := a0 :: cs) (cs' := u :: cs) rfl (by simp) kk ho hop hy hm' how hs hx ha ht h1 hm hone
theorem x_put1T {t e e' : Nat} {p : List Nat} {ti : TI} {u u' a0 a1 : V} {cs : List V}
    (kk : wops E np nt ops Q rest (mkSt (killSs (on_ e [] 1 1) (killSs (at_ e' p) ss)) ((e, .ptr .z true (a0 :: u :: cs)) :: (e', u') :: ms)))
    (ho : ops[i]? = some ⟨none, .store t x y, ty, pos, af, gu⟩ := by rfl) (hop : Open ops ss ⟨none, .store t x y, ty, pos, af, gu⟩ := by first | exact open_none rfl | exact open_some rfl rfl rfl)
    (hy : (mkSt ss ms).ev y = .ref e' p := by exact ev_t rfl) (hm' : ((mkSt ss ms).mem e').get p = some u := by rfl) (how : u.owned = true := by rfl) (hs : ((mkSt ss ms).mem e').set p (.junk undef) = u' := by rfl)
    (hx : (mkSt (killSs (at_ e' p) ss) ((e', u') :: ms)).ev x = sx := by first | exact ev_t rfl | exact ev_c) (ha : (mkSt (killSs (at_ e' p) ss) ((e', u') :: ms)).adr sx = some (.own e [] 1) := by rfl) (ht : E.tt t = some ti := by rfl) (h1 : ti.sz = 1 := by rfl)
    (hm : ((e', u') :: ms).find? (fun x => x.1 == e) = some (e, .ptr .z true (a0 :: a1 :: cs)) := by rfl) (hone : V.one u = true := by rfl) : wops E np nt ops Q (i :: rest) (mkSt ss ms) :=
  x_putTK (cs := a0 :: a1 :: cs) (cs' := a0 :: u :: cs) rfl (by simp) kk ho hop hy hm' how hs hx ha ht h1 hm hone
/-- A tree stored into a list of the function's own. -/
theorem x_stT {α : Type} {c : α → List V} {li : List α} {t e e' k : Nat} {ti : TI} {u : V} (a : α) (hk : k < li.length)
    (kk : wops E np nt ops Q rest (mkSt (killSs (on_ e [] (0 + k * 1) 1) (killSs (at_ e' []) ss)) ((e, eL true 1 c (li.set k a)) :: (e', .junk undef) :: ms)))
    (hv : c a = [u])
    (ho : ops[i]? = some ⟨none, .store t x y, ty, pos, af, gu⟩ := by rfl) (hop : Open ops ss ⟨none, .store t x y, ty, pos, af, gu⟩ := by first | exact open_none rfl | exact open_some rfl rfl rfl)
    (hy : (mkSt ss ms).ev y = .ref e' [] := by exact ev_t rfl) (hm' : ms.find? (fun x => x.1 == e') = some (e', u) := by rfl) (how : u.owned = true := by rfl)
    (hx : (mkSt (killSs (at_ e' []) ss) ((e', .junk undef) :: ms)).ev x = sx := by first | exact ev_t rfl | exact ev_c) (ha : (mkSt (killSs (at_ e' []) ss) ((e', .junk undef) :: ms)).adr sx = some (.own e [] (0 + k * 1)) := by rfl) (ht : E.tt t = some ti := by rfl) (h1 : ti.sz = 1 := by rfl)
    (hm : ((e', V.junk undef) :: ms).find? (fun x => x.1 == e) = some (e, eL true 1 c li) := by rfl) (hc : ∀ a, (c a).length = 1 := by intro a; first | rfl | (cases a <;> rfl)) (hone : V.one u = true := by rfl) : wops E np nt ops Q (i :: rest) (mkSt ss ms) := by
  refine step_of ho hop (fun d' h => by simp at h) ?_
  simp only [wstep, wop, ht]
  have hlen : (eL true 1 c li).cells.length = li.length * 1 := flat_length hc
  refine ⟨[u], mkSt (killSs (at_ e' []) ss) ((e', .junk undef) :: ms), ?_, by simp [h1], by omega, by simp [hone], e, [], 0 + k * 1, eL true 1 c li, by rw [hx]; exact ha, by rw [mem_of hm]; rfl, rfl, by rw [hlen]; simp; omega, trivial, ?_⟩
  · have hf : (S.ref e' []).fine = true := rfl
    simp only [St.takeO, hy, hf, if_true, S.flat]
    exact takeL_ref rfl (by rw [mem_of hm']; rfl) how (by rw [mem_of hm']; rfl) takeL_nil
  · simp only [List.length_cons, List.length_nil, Nat.zero_add]
    rw [mkSt_kill, mkSt_setMem]
    have : ((mkSt (killSs (at_ e' []) ss) ((e', .junk undef) :: ms)).mem e).set [] ((eL true 1 c li).withCells (putV (eL true 1 c li).cells (k * 1) [u])) = eL true 1 c (li.set k a) := by
      have h2 := flat_put hc hk a
      show V.sl .z true 1 li.length (putV (li.flatMap c) (k * 1) [u]) = _
      rw [hv] at h2
      rw [h2]
      simp only [eL, List.length_set]
    rw [this]
    simpa using kk
end
end Go.E
namespace Go.E
theorem tab_ok {P : Program} : ∀ {ns : List Nat} {tis : List TI}, ns.map (TI.of P) = tis.map some → ∀ x ∈ ns.zip tis, TI.of P x.1 = some x.2 := by
  intro ns
  induction ns with
  | nil => intro tis _ x hx; simp at hx
  | cons n ns ih =>
    intro tis h x hx
    cases tis with
    | nil => simp at hx
    | cons t tis =>
      simp only [List.map_cons, List.cons.injEq] at h
      simp only [List.zip_cons_cons, List.mem_cons] at hx
      rcases hx with rfl | hx
      · exact h.1
      · exact ih h.2 x hx
end Go.E
namespace Go.E
/-! ### What must stand ahead, by masks -/
def maskOf (prev : List Nat) (k : Nat) (ds : List Nat) : Nat := ds.foldl (fun a e => a ||| (2 ^ e ||| prev.getD (k - 1 - e) 0)) 0
def ancM (ops : Array Oper) : Nat → List Nat
  | 0 => []
  | k + 1 => maskOf (ancM ops k) k (depsOf ops k) :: ancM ops k
def ancT (ms : List Nat) (n i j : Nat) : Bool := (ms.getD (n - 1 - j) 0).testBit i
section
variable {E : Env} {np nt : Nat} {ops : Array Oper} {Q : Exit → St → Prop}
theorem ancM_length (k : Nat) : (ancM ops k).length = k := by
  induction k with
  | zero => rfl
  | succ k ih => simp [ancM, ih]
theorem ancM_get {n j : Nat} (h : j < n) : (ancM ops n).getD (n - 1 - j) 0 = maskOf (ancM ops j) j (depsOf ops j) := by
  induction n with
  | zero => omega
  | succ n ih =>
    by_cases e : j = n
    · subst e
      have : j + 1 - 1 - j = 0 := by omega
      rw [this]; rfl
    · have h2 : n + 1 - 1 - j = (n - 1 - j) + 1 := by omega
      rw [h2]
      show (ancM ops n).getD (n - 1 - j) 0 = _
      exact ih (by omega)
theorem mask_bit {prev : List Nat} {k i : Nat} : ∀ (ds : List Nat) (a : Nat), (ds.foldl (fun a e => a ||| (2 ^ e ||| prev.getD (k - 1 - e) 0)) a).testBit i = true → a.testBit i = true ∨ ∃ e ∈ ds, i = e ∨ (prev.getD (k - 1 - e) 0).testBit i = true := by
  intro ds
  induction ds with
  | nil => intro a h; exact .inl h
  | cons d ds ih =>
    intro a h
    rw [List.foldl_cons] at h
    rcases ih _ h with h | ⟨e, he, h⟩
    · rw [Nat.testBit_or, Nat.testBit_or, Bool.or_eq_true, Bool.or_eq_true] at h
      rcases h with h | h | h
      · exact .inl h
      · rw [Nat.testBit_two_pow] at h
        exact .inr ⟨d, by simp, .inl (by have := of_decide_eq_true h; omega)⟩
      · exact .inr ⟨d, by simp, .inr h⟩
    · exact .inr ⟨e, by simp [he], h⟩
theorem ancT_sound {L : Nat → Bool} (hc : ClosedL ops L) (hlt : ∀ j, j < ops.size → ∀ e ∈ depsOf ops j, e < j) : ∀ (j : Nat), j < ops.size → (∀ e ∈ depsOf ops j, L e = true) → ∀ i, (maskOf (ancM ops j) j (depsOf ops j)).testBit i = true → L i = true := by
  intro j
  induction j using Nat.strongRecOn with
  | _ j ih =>
    intro hj h i hi
    rcases mask_bit _ _ hi with h0 | ⟨e, he, h1⟩
    · simp at h0
    · rcases h1 with rfl | h1
      · exact h _ he
      · have hej := hlt j hj e he
        rw [ancM_get hej] at h1
        exact ih e hej (by omega) (hc e (h e he) (by omega)) i h1
def remL (ops : Array Oper) (L : Nat → Bool) : List Nat := (List.range ops.size).filter fun i => !L i
theorem remL_split {L : Nat → Bool} {i : Nat} (hi : i < ops.size) (hl : L i = false) : ∃ l1 l2, remL ops L = l1 ++ i :: l2 ∧ remL ops (updB L i) = l1 ++ l2 ∧ ∀ y ∈ l1, y < i ∧ L y = false := by
  have hr : List.range ops.size = List.range i ++ i :: (List.range' (i + 1) (ops.size - (i + 1))) := by
    rw [List.range_eq_range', List.range_eq_range']
    have : ops.size = i + (1 + (ops.size - (i + 1))) := by omega
    conv => lhs; rw [this]
    rw [← List.range'_append_1, ← List.range'_append_1]
    simp
  refine ⟨(List.range i).filter fun k => !L k, (List.range' (i + 1) (ops.size - (i + 1))).filter fun k => !L k, ?_, ?_, ?_⟩
  · unfold remL
    rw [hr, List.filter_append, List.filter_cons]
    simp [hl]
  · unfold remL
    rw [hr, List.filter_append, List.filter_cons]
    simp only [updB, if_true, Bool.not_true, Bool.false_eq_true, if_false]
    congr 1
    · refine List.filter_congr fun k hk => ?_
      have : k ≠ i := by simp at hk; omega
      simp [this]
    · refine List.filter_congr fun k hk => ?_
      have : k ≠ i := by simp [List.mem_range'] at hk; omega
      simp [this]
  · intro y hy
    simp at hy
    exact ⟨hy.1, by simpa using hy.2⟩
def drawF (ops : Array Oper) (ms : List Nat) : Bool :=
  (List.range ops.size).all fun j => (depsOf ops j).all (fun e => decide (e < j)) && (List.range j).all fun i => ancT ms ops.size i j || commG ops i j
theorem ext_text {ms : List Nat} (hms : ancM ops ops.size = ms) (hb : drawF ops ms = true) : ∀ (l : List Nat) (L : Nat → Bool) (σ : St), Ext ops L l → ClosedL ops L → wops E np nt ops Q (remL ops L) σ → wops E np nt ops Q l σ := by
  subst hms
  simp only [drawF, List.all_eq_true, List.mem_range, Bool.and_eq_true, Bool.or_eq_true, decide_eq_true_eq] at hb
  have hlt : ∀ j, j < ops.size → ∀ e ∈ depsOf ops j, e < j := fun j hj e he => (hb j hj).1 e he
  intro l
  induction l with
  | nil =>
    intro L σ h _ k
    cases h with
    | nil h =>
      have : remL ops L = [] := by
        unfold remL
        rw [List.filter_eq_nil_iff]
        intro i hi
        simp at hi
        simp [h i hi]
      rw [this] at k; exact k
  | cons x l ih =>
    intro L σ h hc k
    cases h with
    | cons hr h =>
      have hr' := readyL_iff.1 hr
      obtain ⟨l1, l2, e1, e2, h3⟩ := remL_split hr'.1 hr'.2.1
      rw [e1] at k
      have hbub := bubble l1 (fun y hy => by
        obtain ⟨hy1, hy2⟩ := h3 y hy
        rcases (hb x hr'.1).2 y hy1 with kk | kk
        · have : L y = true := by
            unfold ancT at kk
            rw [ancM_get hr'.1] at kk
            exact ancT_sound hc hlt x hr'.1 hr'.2.2 y kk
          rw [this] at hy2; simp at hy2
        · exact comm_ofG kk) σ k
      rw [wops_cons] at hbub ⊢
      exact wop1_mono (fun τ hτ => ih _ τ h (hc.upd hr) (by rw [e2]; exact hτ)) hbub
/-- A region whose order is drawn, in the order of its text, guards and all. -/
theorem a_drawnG {id : Nat} {σ : St} {l ms : List Nat} (hms : ancM ops ops.size = ms) (hb : drawF ops ms = true) (hl : List.range ops.size = l) (hd : departsL ops = false) (h : ∀ K : Exit → St → Prop, K .normal = Q .normal → wops E np nt ops K l σ) : awp E np nt (.region id ops true) Q σ := by
  show ∀ t, wops E np nt ops Q (Region.schedule (E.P.follows .mixedOrders) ops t) σ
  intro t
  have hd' := departs_of hd
  have hb' := hb
  simp only [drawF, List.all_eq_true, List.mem_range, Bool.and_eq_true, decide_eq_true_eq] at hb'
  simp only [Region.schedule, hd', Bool.not_false, Bool.or_true, if_true, Region.linearise]
  have hrem : rem ops (Array.replicate ops.size false) = List.range ops.size := by
    unfold rem
    rw [List.filter_eq_self]
    intro i hi
    simp at hi
    simp [Array.getD, hi]
  obtain ⟨k1, _⟩ := ext_go hd' (fun j hj e he => (hb' j hj).1 e he) ops.size t (Array.replicate ops.size false) (fun _ => false) (fun i hi => by simp [Array.getD, hi]) (by simp) (by rw [hrem]; simp)
  refine ext_text hms hb _ _ σ k1 (fun j hj => by simp at hj) ?_
  have : remL ops (fun _ => false) = l := by rw [← hl]; simp [remL]
  rw [this]; exact h Q rfl
end
section
variable {E : Env} {np nt : Nat} {ops : Array Oper} {Q : Exit → St → Prop}
def nextsG (ops : Array Oper) (L : Nat → Bool) (lo : Nat) : List Nat := (List.range ops.size).filter fun i => readyL ops L i && (isD ops i || decide (lo ≤ i))
/-- Everything that may come next, plain operations between two others in the order of the text. -/
def wAllG (E : Env) (np nt : Nat) (ops : Array Oper) (Q : Exit → St → Prop) : Nat → (Nat → Bool) → Nat → St → Prop
  | 0, _, _, σ => Q .normal σ
  | f + 1, L, lo, σ => ∀ y ∈ nextsG ops L lo, wops E np nt ops (fun _ => wAllG E np nt ops Q f (updB L y) (if isD ops y then 0 else y + 1)) [y] σ
theorem w_allG {f lo : Nat} {L : Nat → Bool} {l : List Nat} {σ : St} (hl : nextsG ops L lo = l) (h : AllL (fun y => wops E np nt ops (fun _ => wAllG E np nt ops Q f (updB L y) (if isD ops y then 0 else y + 1)) [y] σ) l) : wAllG E np nt ops Q (f + 1) L lo σ := by
  intro y hy
  rw [hl] at hy
  clear hl
  induction l with
  | nil => simp at hy
  | cons z l ih =>
    rcases List.mem_cons.1 hy with rfl | hy
    · exact h.1
    · exact ih h.2 hy
def drawG (ops : Array Oper) (ms : List Nat) : Bool :=
  (List.range ops.size).all fun j => (depsOf ops j).all (fun e => decide (e < j)) && (List.range j).all fun i => isD ops i || isD ops j || ancT ms ops.size i j || commG ops i j
theorem min_segG (ops : Array Oper) : ∀ (l : List Nat) (x : Nat), isD ops x = false → ∃ l1 p l3, x :: l = l1 ++ p :: l3 ∧ isD ops p = false ∧ (∀ y ∈ l1, isD ops y = false ∧ p ≤ y) ∧ ∀ l4 c l5, l1 ++ l3 = l4 ++ c :: l5 → (∀ y ∈ l4, isD ops y = false) → isD ops c = false → p ≤ c := by
  intro l
  induction l with
  | nil => intro x hx; exact ⟨[], x, [], rfl, hx, by simp, fun l4 c l5 h => by simp at h⟩
  | cons z l ih =>
    intro x hx
    cases hz : isD ops z with
    | true =>
      refine ⟨[], x, z :: l, rfl, hx, by simp, fun l4 c l5 h h1 h2 => ?_⟩
      cases l4 with
      | nil => simp at h; rw [← h.1, hz] at h2; simp at h2
      | cons a l4 =>
        simp at h
        have := h1 a (by simp)
        rw [← h.1, hz] at this; simp at this
    | false =>
      obtain ⟨l1, p, l3, e, hp, h1, h2⟩ := ih z hz
      by_cases hxp : x ≤ p
      · refine ⟨[], x, z :: l, rfl, hx, by simp, fun l4 c l5 h h3 h4 => ?_⟩
        simp only [List.nil_append] at h
        rw [e] at h
        -- c stands in the first run of z :: l
        have key : ∀ (l1 l4 : List Nat), l1 ++ p :: l3 = l4 ++ c :: l5 → (∀ y ∈ l1, p ≤ y) → (∀ y ∈ l4, isD ops y = false) → (∀ l4' c' l5', l1 ++ l3 = l4' ++ c' :: l5' → (∀ y ∈ l4', isD ops y = false) → isD ops c' = false → p ≤ c') → p ≤ c := by
          intro l1
          induction l1 with
          | nil =>
            intro l4 h5 h6 h7 h8
            cases l4 with
            | nil => simp at h5; omega
            | cons a l4 =>
              simp at h5
              exact h8 l4 c l5 (by simpa using h5.2) (fun y hy => h7 y (by simp [hy])) h4
          | cons b l1 ih2 =>
            intro l4 h5 h6 h7 h8
            cases l4 with
            | nil => simp at h5; have := h6 b (by simp); omega
            | cons a l4 =>
              simp at h5
              refine ih2 l4 h5.2 (fun y hy => h6 y (by simp [hy])) (fun y hy => h7 y (by simp [hy])) fun l4' c' l5' h9 h10 h11 => ?_
              refine h8 (b :: l4') c' l5' (by simp [h9]) (fun y hy => ?_) h11
              rcases List.mem_cons.1 hy with rfl | hy
              · rw [h5.1]; exact h7 a (by simp)
              · exact h10 y hy
        exact Nat.le_trans hxp (key l1 l4 h (fun y hy => (h1 y hy).2) h3 h2)
      · refine ⟨x :: l1, p, l3, by rw [e]; rfl, hp, fun y hy => ?_, fun l4 c l5 h h3 h4 => ?_⟩
        · rcases List.mem_cons.1 hy with rfl | hy
          · exact ⟨hx, by omega⟩
          · exact h1 y hy
        · cases l4 with
          | nil => simp at h; omega
          | cons a l4 =>
            simp at h
            exact h2 l4 c l5 h.2 (fun y hy => h3 y (by simp [hy])) h4
theorem wAllG_sound {ms : List Nat} (hms : ancM ops ops.size = ms) (hb : drawG ops ms = true) : ∀ (n : Nat) (l : List Nat) (L : Nat → Bool) (lo : Nat) (σ : St), l.length = n → Ext ops L l → ClosedL ops L → (∀ l4 c l5, l = l4 ++ c :: l5 → (∀ y ∈ l4, isD ops y = false) → isD ops c = false → lo ≤ c) → wAllG E np nt ops Q n L lo σ → wops E np nt ops Q l σ := by
  subst hms
  simp only [drawG, List.all_eq_true, List.mem_range, Bool.and_eq_true, Bool.or_eq_true, decide_eq_true_eq] at hb
  have hlt : ∀ j, j < ops.size → ∀ e ∈ depsOf ops j, e < j := fun j hj e he => (hb j hj).1 e he
  intro n
  induction n with
  | zero =>
    intro l L lo σ hl _ _ _ h
    have : l = [] := List.eq_nil_of_length_eq_zero hl
    subst this; exact h
  | succ n ih =>
    intro l L lo σ hl hext hcl hlo h
    cases l with
    | nil => simp at hl
    | cons x l2 =>
      cases hx : isD ops x with
      | true =>
        cases hext with
        | cons hr hext =>
          have hm : x ∈ nextsG ops L lo := by
            simp only [nextsG, List.mem_filter, List.mem_range, hr, hx, Bool.true_or, Bool.and_self, and_true]
            exact (readyL_iff.1 hr).1
          have h2 := h x hm
          rw [wops_cons] at h2 ⊢
          refine wop1_mono (fun τ hτ => ?_) h2
          have hτ' : wAllG E np nt ops Q n (updB L x) (if isD ops x then 0 else x + 1) τ := hτ
          rw [hx, if_pos rfl] at hτ'
          exact ih l2 (updB L x) 0 τ (by simpa using hl) hext (hcl.upd hr) (fun _ _ _ _ _ _ => Nat.zero_le _) hτ'
      | false =>
        obtain ⟨l1, p, l3, e, hp, h1, hseg⟩ := min_segG ops l2 x hx
        rw [e] at hext hlo hl ⊢
        have hpm := hext.mem p (by simp)
        -- p is ready
        have hready : readyL ops L p = true := by
          rw [readyL_iff]
          refine ⟨hpm.2, hpm.1, fun d hd => ?_⟩
          have hdp := hlt p hpm.2 d hd
          have key : ∀ (l1 : List Nat) (L : Nat → Bool), Ext ops L (l1 ++ p :: l3) → (∀ y ∈ l1, p ≤ y) → L d = true := by
            intro l1
            induction l1 with
            | nil => intro L h _; cases h with | cons hr _ => exact (readyL_iff.1 hr).2.2 d hd
            | cons y l1 ih2 =>
              intro L h h3
              cases h with
              | cons hr h =>
                have := ih2 _ h fun z hz => h3 z (by simp [hz])
                simp only [updB] at this
                have hy := h3 y (by simp)
                rw [if_neg (by omega)] at this
                exact this
          exact key l1 L hext fun y hy => (h1 y hy).2
        have hfront := hext.front l1 hready
        have hlop : lo ≤ p := hlo l1 p l3 rfl (fun y hy => (h1 y hy).1) hp
        have hm : p ∈ nextsG ops L lo := by
          simp only [nextsG, List.mem_filter, List.mem_range, hready, Bool.true_and, Bool.or_eq_true, decide_eq_true_eq]
          exact ⟨hpm.2, .inr hlop⟩
        have h2 := h p hm
        rw [wops_cons] at h2
        have hne : ∀ y ∈ l1 ++ l3, y ≠ p := fun y hy e2 => by
          subst e2
          have := (hfront.mem y hy).1
          simp [updB] at this
        have h3 : wops E np nt ops Q (p :: (l1 ++ l3)) σ := by
          rw [wops_cons]
          refine wop1_mono (fun τ hτ => ?_) h2
          have hτ' : wAllG E np nt ops Q n (updB L p) (if isD ops p then 0 else p + 1) τ := hτ
          rw [hp] at hτ'
          simp only [Bool.false_eq_true, if_false] at hτ'
          refine ih (l1 ++ l3) (updB L p) (p + 1) τ (by simp at hl ⊢; omega) hfront (hcl.upd hready) (fun l4 c l5 h4 h5 h6 => ?_) hτ'
          have := hseg l4 c l5 h4 h5 h6
          have := hne c (by rw [h4]; simp)
          omega
        refine bubbleR l1 (fun y hy => ?_) σ h3
        have hyC := (h1 y hy).1
        have hpy : p < y := by have := (h1 y hy).2; have := hne y (by simp [hy]); omega
        have hys := (hext.mem y (by simp [hy])).2
        rcases (hb y hys).2 p hpy with ((k | k) | k) | k
        · rw [hp] at k; simp at k
        · rw [hyC] at k; simp at k
        · -- p would stand ahead of y
          exfalso
          have key : ∀ (l1 : List Nat) (L : Nat → Bool), Ext ops L (l1 ++ p :: l3) → ClosedL ops L → y ∈ l1 → False := by
            intro l1
            induction l1 with
            | nil => intro L _ _ hy; simp at hy
            | cons z l1 ih2 =>
              intro L h hcl hy
              cases h with
              | cons hr h =>
                rcases List.mem_cons.1 hy with rfl | hy
                · have h5 := ancT_sound hcl hlt y hys (readyL_iff.1 hr).2.2 p (by unfold ancT at k; rw [ancM_get hys] at k; exact k)
                  have h6 := (h.mem p (by simp)).1
                  simp only [updB] at h6
                  split at h6
                  · simp at h6
                  · rw [h5] at h6; simp at h6
                · exact ih2 _ h (hcl.upd hr) hy
          exact key l1 L hext hcl hy
        · exact comm_ofG k
/-- A region whose order is drawn: every order that matters. -/
theorem a_drawAllG {id : Nat} {σ : St} {n : Nat} {ms : List Nat} (hn : ops.size = n) (hd : departsL ops = false) (hms : ancM ops ops.size = ms) (hb : drawG ops ms = true) (h : ∀ K : Exit → St → Prop, K .normal = Q .normal → wAllG E np nt ops K n (fun _ => false) 0 σ) : awp E np nt (.region id ops true) Q σ := by
  show ∀ t, wops E np nt ops Q (Region.schedule (E.P.follows .mixedOrders) ops t) σ
  intro t
  have hd' := departs_of hd
  have hb' := hb
  simp only [drawG, List.all_eq_true, List.mem_range, Bool.and_eq_true, decide_eq_true_eq] at hb'
  simp only [Region.schedule, hd', Bool.not_false, Bool.or_true, if_true, Region.linearise]
  have hrem : rem ops (Array.replicate ops.size false) = List.range ops.size := by
    unfold rem
    rw [List.filter_eq_self]
    intro i hi
    simp at hi
    simp [Array.getD, hi]
  obtain ⟨k1, k2⟩ := ext_go hd' (fun j hj e he => (hb' j hj).1 e he) ops.size t (Array.replicate ops.size false) (fun _ => false) (fun i hi => by simp [Array.getD, hi]) (by simp) (by rw [hrem]; simp)
  exact wAllG_sound hms hb _ _ _ 0 σ (k2.trans hn) k1 (fun j hj => by simp at hj) (fun _ _ _ _ _ _ => Nat.zero_le _) (h Q rfl)
theorem w_doneG {K : Exit → St → Prop} {L : Nat → Bool} {lo : Nat} {σ : St} (hK : K .normal = Q .normal) (h : Q .normal σ) : wAllG E np nt ops K 0 L lo σ := by
  show K .normal σ
  rw [hK]; exact h
end
end Go.E
namespace Go.E
theorem viewR_fn {d F : Nat} {caps : List V} (h : caps.all V.roB = true) : viewR d (.fn F caps) = .fn F (caps.map S.v) := by
  simp only [viewR, viewA, h, if_true]
theorem lendL_vs {σ : St} : ∀ (us : List V), σ.lendL (us.map S.v) = some us := by
  intro us
  induction us with
  | nil => rfl
  | cons u us ih => simp only [List.map_cons, St.lendL, St.lend, ih]
section
variable {E : Env} {np nt : Nat} {ops : Array Oper} {Q : Exit → St → Prop} {i : Nat} {rest : List Nat} {ss : List (Nat × S)} {ms : List (Nat × V)} {d : Nat}
variable {ty : TypeId} {pos : String} {af : Array Edge} {gu : Option (Nat × Bool)}
theorem x_callF {f : FuncId} {y : Operand} {args : Array Operand} {ats : Array TypeId} {vs : List V} {caps : List S} {post : V → List V → Prop} (hS : Spec E.P f vs post)
    (k : ∀ r outs, post r outs → wops E np nt ops Q rest (mkSt ((d, viewR d r) :: ss.map fun x => (x.1, x.2.kill (at_ d []))) ((d, r) :: ms)))
    (ho : ops[i]? = some ⟨some d, .call ⟨.value y, args, ats⟩, ty, pos, af, gu⟩ := by rfl) (hop : Open ops ss ⟨some d, .call ⟨.value y, args, ats⟩, ty, pos, af, gu⟩ := by first | exact open_none rfl | exact open_some rfl rfl rfl)
    (hnp : np ≤ d := by decide) (hlt : d < nt := by decide) (hy : (mkSt ss ms).ev y = .fn f caps := by exact ev_t rfl) (hl : (mkSt ss ms).lendL (args.toList.map (mkSt ss ms).ev ++ caps) = some vs := by rfl) :
    wops E np nt ops Q (i :: rest) (mkSt ss ms) := by
  refine step_of ho hop (fun d' h => by simp at h; subst h; exact hlt) ?_
  simp only [wstep, hy, fnOf]
  refine .inl ?_
  generalize hcs : args.toList.map (mkSt ss ms).ev ++ caps = cells at hl ⊢
  refine ⟨List.replicate cells.length false, [], mkSt ss ms, vs, _, by simp, ?_, ?_, ?_, hS.len, fun r outs hp => ⟨[], ?_, ?_⟩⟩
  · rw [own_false]; rfl
  · rw [own_false]; rfl
  · exact (asm_false (mkSt ss ms) cells).trans hl
  · exact dis_false cells outs (by rw [hp.2, lendL_length _ _ _ hl])
  · rw [own_false, behind_nil]
    refine ⟨hnp, hlt, ?_⟩
    rw [mkSt_bind]
    exact k r outs hp.1
end
theorem typed_listP {E : Env} {F t : Nat} {α : Type} {P : α → Prop} {us : List V} {ti ei : TI} {e : Nat} {c : α → List V} (h : Typed E (F + 1) t us) (ht : E.tt t = some ti) (hk : ti.kind = .slice e) (he : E.tt e = some ei) (hel : ∀ el, Typed E F e el → ∃ a, el = c a ∧ P a) :
    ∃ l : List α, us = cL false ei.sz c l ∧ l.length ≤ maxLen ∧ ∀ a ∈ l, P a := by
  simp only [Typed, ht, hk] at h
  obtain ⟨ei', els, h1, rfl, h2, h3⟩ := h
  rw [he] at h1
  simp only [Option.some.injEq] at h1; subst h1
  have : ∀ els : List (List V), (∀ el ∈ els, Typed E F e el ∧ el.length = ei.sz) → ∃ l : List α, els = l.map c ∧ ∀ a ∈ l, P a := by
    intro els
    induction els with
    | nil => intro _; exact ⟨[], rfl, by simp⟩
    | cons x els ih =>
      intro h
      obtain ⟨a, ha, hp⟩ := hel x (h x (by simp)).1
      obtain ⟨l, hl, hq⟩ := ih fun y hy => h y (by simp [hy])
      refine ⟨a :: l, by rw [ha, hl]; rfl, fun b hb => ?_⟩
      rcases List.mem_cons.1 hb with rfl | hb
      · exact hp
      · exact hq b hb
  obtain ⟨l, rfl, hp⟩ := this els h3
  refine ⟨l, ?_, by simpa using h2, hp⟩
  simp only [cL, eL, List.length_map, List.flatMap_def]
end Go.E
namespace Go.E
section
variable {E : Env} {np nt : Nat} {ops : Array Oper} {Q : Exit → St → Prop} {i : Nat} {rest : List Nat} {ss ss1 : List (Nat × S)} {ms ms1 : List (Nat × V)} {d : Nat}
variable {ty : TypeId} {pos : String} {af : Array Edge} {gu : Option (Nat × Bool)} {x y : Operand} {sx : S}
theorem x_put0R {t e e' : Nat} {ti : TI} {u a0 : V} {cs : List V}
    (kk : wops E np nt ops Q rest (mkSt (killSs (on_ e [] 0 1) (killSs (at_ e' []) ss)) ((e, .ptr .z true (u :: cs)) :: (e', .junk undef) :: ms)))
    (ho : ops[i]? = some ⟨none, .store t x y, ty, pos, af, gu⟩ := by rfl) (hop : Open ops ss ⟨none, .store t x y, ty, pos, af, gu⟩ := by first | exact open_none rfl | exact open_some rfl rfl rfl)
    (hy : (mkSt ss ms).ev y = .ref e' [] := by exact ev_t rfl) (hm' : ms.find? (fun x => x.1 == e') = some (e', u) := by rfl) (how : u.owned = true := by rfl)
    (hx : (mkSt (killSs (at_ e' []) ss) ((e', .junk undef) :: ms)).ev x = sx := by first | exact ev_t rfl | exact ev_c) (ha : (mkSt (killSs (at_ e' []) ss) ((e', .junk undef) :: ms)).adr sx = some (.own e [] 0) := by rfl) (ht : E.tt t = some ti := by rfl) (h1 : ti.sz = 1 := by rfl)
    (hm : ((e', V.junk undef) :: ms).find? (fun x => x.1 == e) = some (e, .ptr .z true (a0 :: cs)) := by rfl) (hone : V.one u = true := by rfl) : wops E np nt ops Q (i :: rest) (mkSt ss ms) :=
  x_putTK (cs := a0 :: cs) (cs' := u :: cs) rfl (by simp) kk ho hop hy (by rw [mem_of hm']; rfl) how (by rw [mem_of hm']; rfl) hx ha ht h1 hm hone
theorem x_put1R {t e e' : Nat} {ti : TI} {u a0 a1 : V} {cs : List V}
    (kk : wops E np nt ops Q rest (mkSt (killSs (on_ e [] 1 1) (killSs (at_ e' []) ss)) ((e, .ptr .z true (a0 :: u :: cs)) :: (e', .junk undef) :: ms)))
    (ho : ops[i]? = some ⟨none, .store t x y, ty, pos, af, gu⟩ := by rfl) (hop : Open ops ss ⟨none, .store t x y, ty, pos, af, gu⟩ := by first | exact open_none rfl | exact open_some rfl rfl rfl)
    (hy : (mkSt ss ms).ev y = .ref e' [] := by exact ev_t rfl) (hm' : ms.find? (fun x => x.1 == e') = some (e', u) := by rfl) (how : u.owned = true := by rfl)
    (hx : (mkSt (killSs (at_ e' []) ss) ((e', .junk undef) :: ms)).ev x = sx := by first | exact ev_t rfl | exact ev_c) (ha : (mkSt (killSs (at_ e' []) ss) ((e', .junk undef) :: ms)).adr sx = some (.own e [] 1) := by rfl) (ht : E.tt t = some ti := by rfl) (h1 : ti.sz = 1 := by rfl)
    (hm : ((e', V.junk undef) :: ms).find? (fun x => x.1 == e) = some (e, .ptr .z true (a0 :: a1 :: cs)) := by rfl) (hone : V.one u = true := by rfl) : wops E np nt ops Q (i :: rest) (mkSt ss ms) :=
  x_putTK (cs := a0 :: a1 :: cs) (cs' := a0 :: u :: cs) rfl (by simp) kk ho hop hy (by rw [mem_of hm']; rfl) how (by rw [mem_of hm']; rfl) hx ha ht h1 hm hone
/-- A model's cells, loaded out of a variable of the function's own: two trees and a number. -/
theorem x_ldM {t e : Nat} {ti : TI} {g0 g1 : Gh} {z0 z1 n0 n1 : Nat} {c0 c1 : List V} {v : Value}
    (kk : wops E np nt ops Q rest (mkSt ((d, .agg [.ref e [0], .ref e [1], .v (.val v)]) :: ss) ms))
    (ho : ops[i]? = some ⟨some d, .load t x, ty, pos, af, gu⟩ := by rfl) (hop : Open ops ss ⟨some d, .load t x, ty, pos, af, gu⟩ := by first | exact open_none rfl | exact open_some rfl rfl rfl) (hlt : d < nt := by decide)
    (hx : (mkSt ss ms).ev x = sx := by first | exact ev_t rfl | exact ev_c) (ha : (mkSt ss ms).adr sx = some (.own e [] 0) := by rfl) (ht : E.tt t = some ti := by rfl) (hg : ti.agg = true := by rfl) (hsz : ti.sz = 3 := by rfl)
    (hm : ms.find? (fun x => x.1 == e) = some (e, .ptr .z true [.sl g0 true z0 n0 c0, .sl g1 true z1 n1 c1, .val v]) := by rfl) : wops E np nt ops Q (i :: rest) (mkSt ss ms) := by
  refine calc_of ho hop rfl hlt ?_ kk
  simp only [St.calc, hx, St.ld, ht, ha, hg, St.load, mem_of hm, V.get, V.owned, V.cells, hsz]
  rfl
/-- .. to be read alone. -/
theorem x_ldMR {t e : Nat} {ti : TI} {g0 g1 : Gh} {z0 z1 n0 n1 : Nat} {c0 c1 : List V} {v : Value}
    (kk : wops E np nt ops Q rest (mkSt ((d, .agg [.v (.sl g0 false z0 n0 c0), .v (.sl g1 false z1 n1 c1), .v (.val v)]) :: ss) ms))
    (ho : ops[i]? = some ⟨some d, .load t x, ty, pos, af, gu⟩ := by rfl) (hop : Open ops ss ⟨some d, .load t x, ty, pos, af, gu⟩ := by first | exact open_none rfl | exact open_some rfl rfl rfl) (hlt : d < nt := by decide)
    (hx : (mkSt ss ms).ev x = sx := by first | exact ev_t rfl | exact ev_c) (ha : (mkSt ss ms).adr sx = some (.own e [] 0) := by rfl) (ht : E.tt t = some ti := by rfl) (hg : ti.agg = true := by rfl) (hsz : ti.sz = 3 := by rfl)
    (hm : ms.find? (fun x => x.1 == e) = some (e, .ptr .z true [.sl g0 false z0 n0 c0, .sl g1 false z1 n1 c1, .val v]) := by rfl) : wops E np nt ops Q (i :: rest) (mkSt ss ms) := by
  refine calc_of ho hop rfl hlt ?_ kk
  simp only [St.calc, hx, St.ld, ht, ha, hg, St.load, mem_of hm, V.get, V.owned, V.cells, hsz]
  rfl
/-- A model of the function's own, stored over the whole of a variable. -/
theorem x_putM {t e e' : Nat} {p0 p1 : List Nat} {ti : TI} {cs : List V} {u0 u1 u2 : V} {v : Value} {w0 w1 : V}
    (kk : wops E np nt ops Q rest (mkSt (killSs (on_ e [] 0 3) (killSs (at_ e' p1) (killSs (at_ e' p0) ss))) ((e, .ptr .z true [u0, u1, .val v]) :: (e', w1) :: (e', w0) :: ms)))
    (ho : ops[i]? = some ⟨none, .store t x y, ty, pos, af, gu⟩ := by rfl) (hop : Open ops ss ⟨none, .store t x y, ty, pos, af, gu⟩ := by first | exact open_none rfl | exact open_some rfl rfl rfl)
    (hy : (mkSt ss ms).ev y = .agg [.ref e' p0, .ref e' p1, .v (.val v)] := by exact ev_t rfl)
    (hap : at_ e' p0 e' p1 = false := by rfl) (hu2 : ms.find? (fun x => x.1 == e') = some (e', u2) := by rfl)
    (h0 : u2.get p0 = some u0 := by rfl) (ho0 : u0.owned = true := by rfl) (hs0 : u2.set p0 (.junk undef) = w0 := by rfl)
    (h1 : w0.get p1 = some u1 := by rfl) (ho1 : u1.owned = true := by rfl) (hs1 : w0.set p1 (.junk undef) = w1 := by rfl)
    (hx : (mkSt (killSs (at_ e' p1) (killSs (at_ e' p0) ss)) ((e', w1) :: (e', w0) :: ms)).ev x = sx := by first | exact ev_t rfl | exact ev_c) (ha : (mkSt (killSs (at_ e' p1) (killSs (at_ e' p0) ss)) ((e', w1) :: (e', w0) :: ms)).adr sx = some (.own e [] 0) := by rfl) (ht : E.tt t = some ti := by rfl)
    (hm : ((e', w1) :: (e', w0) :: ms).find? (fun x => x.1 == e) = some (e, .ptr .z true cs) := by rfl) (hk : cs.length = 3 := by rfl) (hone : [u0, u1, V.val v].all V.one = true := by rfl) (h3 : ti.sz = 3 := by rfl) : wops E np nt ops Q (i :: rest) (mkSt ss ms) := by
  refine x_putAllT (us := [u0, u1, .val v]) (cs := cs) kk ho hop hy ?_ hx ha ht hm hk hone h3.symm (by omega)
  subst hs0; subst hs1
  have e0 : (mkSt ss ms).mem e' = u2 := mem_of hu2
  have e1 : (mkSt (killSs (at_ e' p0) ss) ((e', u2.set p0 (.junk undef)) :: ms)).mem e' = u2.set p0 (.junk undef) := by simp [mkSt, lookM]
  refine takeL_ref (u' := u2.set p0 (.junk undef)) rfl (by rw [e0]; exact h0) ho0 (by rw [e0]) ?_
  refine takeL_ref (u' := (u2.set p0 (.junk undef)).set p1 (.junk undef)) ?_ (by rw [e1]; exact h1) ho1 (by rw [e1]) (takeL_val takeL_nil)
  simp only [nokill, Bool.false_or]; exact hap
end
end Go.E
namespace Go.E
theorem rootsInL_vs (ks : List Nat) (us : List V) : S.rootsInL ks (us.map S.v) = true := by
  induction us with
  | nil => rfl
  | cons u us ih => simp only [List.map_cons, S.rootsInL, S.rootsIn, ih, Bool.and_self]
section
variable {E : Env} {fn : Func} {np : Nat} {post : V → List V → Prop} {ss : List (Nat × S)} {ms : List (Nat × V)} {ex : Exit}
theorem ld_M {t e : Nat} {ti : TI} {ty : Nat} {g0 g1 : Gh} {z0 z1 n0 n1 : Nat} {c0 c1 : List V} {v : Value} (hs : ss.find? (fun x => x.1 == t) = some (t, .ref e [])) (hm : ms.find? (fun x => x.1 == e) = some (e, .ptr .z true [.sl g0 true z0 n0 c0, .sl g1 true z1 n1 c1, .val v]))
    (ht : E.tt ty = some ti) (hg : ti.agg = true) (hsz : ti.sz = 3) : (mkSt ss ms).ld E ty ((mkSt ss ms).slots t) = some (.agg [.ref e [0], .ref e [1], .v (.val v)]) := by
  have h1 : (mkSt ss ms).slots t = .ref e [] := by simp [mkSt, look, hs]
  have h2 := mem_of (ss := ss) hm
  have ha : (mkSt ss ms).adr (.ref e []) = some (.own e [] 0) := by simp [St.adr, h2, V.get, V.owned]
  rw [h1]
  simp only [St.ld, ht, ha, hg, St.load, h2, V.get, V.owned, V.cells, hsz]
  rfl
theorem takes_M {e : Nat} {g0 g1 : Gh} {z0 z1 n0 n1 : Nat} {c0 c1 : List V} {v : Value} {l : List S} {us : List V} {ss1 : List (Nat × S)} {ms1 : List (Nat × V)} (hm : ms.find? (fun x => x.1 == e) = some (e, .ptr .z true [.sl g0 true z0 n0 c0, .sl g1 true z1 n1 c1, .val v]))
    (hr : (mkSt (killSs (at_ e [1]) (killSs (at_ e [0]) ss)) ((e, .ptr .z true [.junk undef, .junk undef, .val v]) :: (e, .ptr .z true [.junk undef, .sl g1 true z1 n1 c1, .val v]) :: ms)).takes l = some (us, mkSt ss1 ms1)) :
    (mkSt ss ms).takes (.ref e [0] :: .ref e [1] :: .v (.val v) :: l) = some (.sl g0 true z0 n0 c0 :: .sl g1 true z1 n1 c1 :: .val v :: us, mkSt ss1 ms1) := by
  refine takes_refp (u' := .ptr .z true [.junk undef, .sl g1 true z1 n1 c1, .val v]) (by rw [mem_of hm]; rfl) rfl (by rw [mem_of hm]; rfl) ?_
  refine takes_refp (u' := .ptr .z true [.junk undef, .junk undef, .val v]) (by simp [mkSt, lookM, V.get, V.cells]) rfl (by simp [mkSt, lookM, V.set, V.cells, V.withCells]) ?_
  exact takes_val hr
/-- The result is a model that lies in a cell. -/
theorem leave_M {t e : Nat} {ti : TI} {ty : Nat} {g0 g1 : Gh} {z0 z1 n0 n1 : Nat} {c0 c1 : List V} {v : Value} (he : ex = .normal ∨ ex = .ret) (hr : fn.results.toList = [.cell t ty]) (hs : ss.find? (fun x => x.1 == t) = some (t, .ref e [])) (hm : ms.find? (fun x => x.1 == e) = some (e, .ptr .z true [.sl g0 true z0 n0 c0, .sl g1 true z1 n1 c1, .val v]))
    (ht : E.tt ty = some ti) (hg : ti.agg = true) (hsz : ti.sz = 3) (hf : V.freeL [.sl g0 true z0 n0 c0, .sl g1 true z1 n1 c1, .val v] = true)
    (ho : V.freeL (outsOf np ((e, .ptr .z true [.junk undef, .junk undef, .val v]) :: (e, .ptr .z true [.junk undef, .sl g1 true z1 n1 c1, .val v]) :: ms)) = true)
    (hp : post (.agg [.sl g0 true z0 n0 c0, .sl g1 true z1 n1 c1, .val v]) (outsOf np ((e, .ptr .z true [.junk undef, .junk undef, .val v]) :: (e, .ptr .z true [.junk undef, .sl g1 true z1 n1 c1, .val v]) :: ms))) : leaveK E fn np post ex (mkSt ss ms) := by
  have hl := ld_M hs hm ht hg hsz
  have hres : resSlots E fn (mkSt ss ms) = [(true, .agg [.ref e [0], .ref e [1], .v (.val v)])] := by simp [resSlots, hr, hl]
  refine leave_of (us := [.sl g0 true z0 n0 c0, .sl g1 true z1 n1 c1, .val v]) (vs := [.agg [.sl g0 true z0 n0 c0, .sl g1 true z1 n1 c1, .val v]]) he (by simp [cellsOk, hr, hl]) hres ?_ (takes_M hm takes_nil) ?_ hf ho hp
  · simp only [ownL, List.append_nil]
    simp [apart, S.apartB, List.isPrefixOf]
  · simp [asm]
/-- The results are a model that lies in a cell, and a truth value. -/
theorem leave_MB {t u e : Nat} {ti : TI} {ty : Nat} {g0 g1 : Gh} {z0 z1 n0 n1 : Nat} {c0 c1 : List V} {v b : Value} (he : ex = .normal ∨ ex = .ret) (hr : fn.results.toList = [.cell t ty, .tmp u]) (hs : ss.find? (fun x => x.1 == t) = some (t, .ref e [])) (hu : ss.find? (fun x => x.1 == u) = some (u, .v (.val b))) (hm : ms.find? (fun x => x.1 == e) = some (e, .ptr .z true [.sl g0 true z0 n0 c0, .sl g1 true z1 n1 c1, .val v]))
    (ht : E.tt ty = some ti) (hg : ti.agg = true) (hsz : ti.sz = 3) (hf : V.freeL [.sl g0 true z0 n0 c0, .sl g1 true z1 n1 c1, .val v] = true)
    (ho : V.freeL (outsOf np ((e, .ptr .z true [.junk undef, .junk undef, .val v]) :: (e, .ptr .z true [.junk undef, .sl g1 true z1 n1 c1, .val v]) :: ms)) = true)
    (hp : post (.tup [.agg [.sl g0 true z0 n0 c0, .sl g1 true z1 n1 c1, .val v], .val b]) (outsOf np ((e, .ptr .z true [.junk undef, .junk undef, .val v]) :: (e, .ptr .z true [.junk undef, .sl g1 true z1 n1 c1, .val v]) :: ms))) : leaveK E fn np post ex (mkSt ss ms) := by
  have hl := ld_M hs hm ht hg hsz
  have hres : resSlots E fn (mkSt ss ms) = [(true, .agg [.ref e [0], .ref e [1], .v (.val v)]), (true, .v (.val b))] := by
    have h2 : (mkSt ss ms).slots u = .v (.val b) := by simp [mkSt, look, hu]
    simp only [resSlots, hr, List.map_cons, List.map_nil, hl, h2, Option.getD_some]
  refine leave_of (us := [.sl g0 true z0 n0 c0, .sl g1 true z1 n1 c1, .val v, .val b]) (vs := [.agg [.sl g0 true z0 n0 c0, .sl g1 true z1 n1 c1, .val v], .val b]) he (by simp [cellsOk, hr, hl]) hres ?_ (takes_M hm (takes_val takes_nil)) ?_ ?_ ho hp
  · simp only [ownL, List.append_nil]
    simp [apart, S.apartB, List.isPrefixOf, ownL]
  · simp [asm]
  · simp only [V.one?, V.free, V.freeL] at hf ⊢
    simpa using hf
end
end Go.E
namespace Go.E
theorem V.free_ro (u : V) (h : u.roB = true) : u.backed.erase.free = true := by
  cases u with
  | val x => rfl
  | sl g o s n cs =>
    cases o with
    | false => simp [V.backed, V.erase, V.free]
    | true => simp [V.roB] at h
  | ptr g o cs =>
    cases o with
    | false => simp [V.backed, V.erase, V.free]
    | true => simp [V.roB] at h
  | _ => simp [V.roB] at h
theorem V.freeL_ro : ∀ (us : List V), us.all V.roB = true → V.freeL (V.eraseL (V.backedL us)) = true
  | [], _ => rfl
  | u :: us, h => by
    simp only [List.all_cons, Bool.and_eq_true] at h
    simp only [V.backedL, V.eraseL, V.freeL, V.free_ro u h.1, V.freeL_ro us h.2, Bool.and_self]
theorem freeL_fn {F : Nat} {caps vs : List V} (h : caps.all V.roB = true) (hv : V.freeL vs = true) : V.freeL ((V.fn F caps).backed.erase :: vs) = true := by
  simp only [V.backed, V.erase, V.freeL, V.free, V.freeL_ro caps h, hv, Bool.and_self]
theorem freeL_skip {u : V} {vs : List V} (h : u.backed.erase = .junk undef) (hv : V.freeL vs = true) : V.freeL (u.backed.erase :: vs) = true := by
  rw [h]; exact hv
end Go.E
namespace Go.E
theorem killL_vs (f : Nat → List Nat → Bool) : ∀ (us : List V), S.killL f (us.map S.v) = us.map S.v
  | [] => rfl
  | u :: us => by simp only [List.map_cons, S.killL, S.kill, killL_vs f us]
theorem kill_fn {F : Nat} {us : List V} (f : Nat → List Nat → Bool) : S.kill f (.fn F (us.map S.v)) = .fn F (us.map S.v) := by
  simp only [S.kill, killL_vs]
end Go.E
namespace Go.E
theorem lendL_fn1 {σ : St} {F : Nat} {us : List V} : σ.lendL [.fn F (us.map S.v)] = some [.fn F us] := by
  simp only [St.lendL, St.lend, lendL_vs]
end Go.E
namespace Go.E
theorem a_condS {E : Env} {np nt : Nat} {Q : Exit → St → Prop} {ss : List (Nat × S)} {ms : List (Nat × V)} {x y : Code} {b : Bool} {p : Prop} (t : Nat) (hf : ss.find? (fun x => x.1 == t) = some (t, .v (.val (.bool b)))) (hb : BP b p)
    (h1 : p → awp E np nt x Q (mkSt ((t, .v (.val (.bool true))) :: ss) ms)) (h2 : ¬ p → awp E np nt y Q (mkSt ((t, .v (.val (.bool false))) :: ss) ms)) : awp E np nt (.cond (.tmp t) x y) Q (mkSt ss ms) := by
  refine a_cond (t := b) (by rw [ev_t hf]; rfl) (fun h => ?_) (fun h => ?_)
  · subst h; rw [mkSt_known hf]; exact h1 (hb.1 rfl)
  · subst h; rw [mkSt_known hf]; exact h2 fun hp => by have := hb.2 hp; cases this
end Go.E
namespace Go.E
open Go.RowKit
theorem roL_blks {ro : Nat → Prop} {w : World} : ∀ (vs : List V), V.OkL ro w vs → vs.all V.roB = true → V.blksL vs = [] := by
  intro vs
  induction vs with
  | nil => intro _ _; rfl
  | cons v vs ih =>
    intro h hr
    simp only [List.all_cons, Bool.and_eq_true] at hr
    simp only [V.blksL, V.roB_blks h.1 hr.1, ih h.2 hr.2, List.append_nil]
theorem backed_ok {w : World} (v : V) (h : v.roB = true) : v.backed.Ok (fun _ => False) w ∧ v.backed.value = v.value ∧ v.backed.blks = [] := by
  cases v with
  | val x => exact ⟨trivial, rfl, rfl⟩
  | sl g o s n cs =>
    cases o with
    | true => simp [V.roB] at h
    | false => exact ⟨trivial, rfl, rfl⟩
  | ptr g o cs =>
    cases o with
    | true => simp [V.roB] at h
    | false => exact ⟨trivial, rfl, rfl⟩
  | _ => simp [V.roB] at h
/-- A function that only reads and hands back a plain value: its contract out of what its calls do. -/
theorem spec_of_calls {P : Program} {f : FuncId} {args : List V} {x : Value} (hE : Enters P f) (hro : args.all V.roB = true)
    (h : ∀ (ro : Nat → Prop) (w : World) (vs : List V), V.eraseL vs = args → V.OkL ro w vs → (∀ b, ro b → b < w.heap.size) → Calls P f (vs.map V.value).toArray w fun e w' => e = .returned x ∧ Below w.heap.size w w') : Spec P f args fun r _ => r = .val x := by
  refine ⟨hE, fun ro w vs he hok _ _ hr => (h ro w vs he hok hr).mono fun e w' ⟨h1, h2⟩ => ?_⟩
  have hrv : vs.all V.roB = true := by
    rw [← he, V.eraseL_map, List.all_map] at hro
    rw [← hro]
    congr 1
    funext v; exact (V.roB_erase v).symm
  have hall : ∀ (l : List V), l.all V.roB = true → V.OkL (fun _ => False) w' (l.map V.backed) ∧ (l.map V.backed).map V.value = l.map V.value ∧ V.blksL (l.map V.backed) = [] := by
    intro l
    induction l with
    | nil => intro _; exact ⟨trivial, rfl, rfl⟩
    | cons v l ih =>
      intro hl
      simp only [List.all_cons, Bool.and_eq_true] at hl
      obtain ⟨a, b, c⟩ := backed_ok (w := w') v hl.1
      obtain ⟨a', b', c'⟩ := ih hl.2
      exact ⟨⟨a, a'⟩, by simp only [List.map_cons, b, b'], by simp only [List.map_cons, V.blksL, c, c', List.append_nil]⟩
  obtain ⟨a, b, c⟩ := hall vs hrv
  refine ⟨.val x, vs.map V.backed, h1, rfl, { rok := trivial, ook := a, vals := b, nd := by simp [V.blks, c], new := by simp [V.blks, c], frame := fun b hb _ => h2.block b hb, size := h2.size, os := h2.os, tape := h2.tape, output := h2.output }⟩
theorem vals_erase : ∀ (vs : List V) (xs : List Value), V.eraseL vs = xs.map V.val → vs = xs.map V.val := by
  intro vs
  induction vs with
  | nil => intro xs h; cases xs <;> simp_all [V.eraseL]
  | cons v vs ih =>
    intro xs h
    cases xs with
    | nil => simp [V.eraseL] at h
    | cons x xs =>
      simp only [V.eraseL, List.map_cons, List.cons.injEq] at h
      rw [ih xs h.2]
      cases v <;> simp [V.erase] at h
      rw [h.1]; rfl
/-- .. of plain values. -/
theorem spec_of_vals {P : Program} {f : FuncId} {xs : List Value} {x : Value} (hE : Enters P f) (h : ∀ w, Calls P f xs.toArray w fun e w' => e = .returned x ∧ Below w.heap.size w w') : Spec P f (xs.map V.val) fun r _ => r = .val x := by
  refine spec_of_calls hE (by simp [V.roB]) fun ro w vs he _ _ => ?_
  rw [vals_erase vs xs he]
  have : (xs.map V.val).map V.value = xs := by
    rw [List.map_map]; exact List.map_id' xs
  rw [this]; exact h w
end Go.E
namespace Go.E
/-! ### Trees of formulas -/
inductive Tr where
  | nil
  | node (op n : Int) (a b : Tr)
/-- A tree of the function's own. -/
def encT : Tr → V
  | .nil => .val (.pointer none)
  | .node op n a b => .ptr .z true [.val (.int .i64 op), .val (.int .i64 n), encT a, encT b]
/-- .. to be read alone. -/
def encR : Tr → V
  | .nil => .val (.pointer none)
  | .node op n a b => .ptr .z false [.val (.int .i64 op), .val (.int .i64 n), encR a, encR b]
theorem ro_encT : ∀ t : Tr, (encT t).ro = encR t
  | .nil => rfl
  | .node op n a b => by simp only [encT, encR, V.ro, V.roL, ro_encT a, ro_encT b]
theorem ro_node (op n : Int) (a b : Tr) : (V.ptr .z true [.val (.int .i64 op), .val (.int .i64 n), encT a, encT b]).ro = encR (.node op n a b) := ro_encT (.node op n a b)
theorem free_encT : ∀ t : Tr, (encT t).free = true
  | .nil => rfl
  | .node op n a b => by simp [encT, V.free, V.freeL, free_encT a, free_encT b]
theorem one_encT : ∀ t : Tr, V.one (encT t) = true
  | .nil => rfl
  | .node op n a b => rfl
section
variable {E : Env} {np nt : Nat} {ops : Array Oper} {Q : Exit → St → Prop} {i : Nat} {rest : List Nat} {ss : List (Nat × S)} {ms : List (Nat × V)} {d : Nat}
variable {ty : TypeId} {pos : String} {af : Array Edge} {gu : Option (Nat × Bool)} {x y : Operand} {sx : S}
/-- A field of an element of a list of structs that is lent. -/
theorem x_ldNF {α : Type} [Inhabited α] {c : α → List V} {sz k j : Nat} {l : List α} {g : Gh} {ti : TI} {t : TypeId} {u : V} (hk : k < l.length)
    (kk : wops E np nt ops Q rest (mkSt ((d, .v u) :: ss) ms))
    (ho : ops[i]? = some ⟨some d, .load t x, ty, pos, af, gu⟩ := by rfl) (hop : Open ops ss ⟨some d, .load t x, ty, pos, af, gu⟩ := by first | exact open_none rfl | exact open_some rfl rfl rfl) (hlt : d < nt := by decide)
    (hx : (mkSt ss ms).ev x = sx := by first | exact ev_t rfl | exact ev_c) (ha : (mkSt ss ms).adr sx = some (.ro g (l.flatMap c) (0 + k * sz + j)) := by rfl) (hc : ∀ a, (c a).length = sz := by intro _; rfl) (hj : j < sz := by decide) (hu : (c l[k]!)[j]? = some u := by rfl) (ht : E.tt t = some ti := by rfl) (hg : ti.agg = false := by rfl) : wops E np nt ops Q (i :: rest) (mkSt ss ms) := by
  refine x_loadRo (g := g) (cs := l.flatMap c) (k := 0 + k * sz + j) (u := u) ?_ kk ho hop hlt hx ha ht hg
  have h2 := congrArg (·[j]?) (flat_at hc hk)
  simp only [List.getElem?_take, List.getElem?_drop, hj, if_true] at h2
  rw [hu] at h2
  rw [Nat.zero_add]; exact h2
theorem x_put2R {t e e' : Nat} {ti : TI} {u a0 a1 a2 : V} {cs : List V}
    (kk : wops E np nt ops Q rest (mkSt (killSs (on_ e [] 2 1) (killSs (at_ e' []) ss)) ((e, .ptr .z true (a0 :: a1 :: u :: cs)) :: (e', .junk undef) :: ms)))
    (ho : ops[i]? = some ⟨none, .store t x y, ty, pos, af, gu⟩ := by rfl) (hop : Open ops ss ⟨none, .store t x y, ty, pos, af, gu⟩ := by first | exact open_none rfl | exact open_some rfl rfl rfl)
    (hy : (mkSt ss ms).ev y = .ref e' [] := by exact ev_t rfl) (hm' : ms.find? (fun x => x.1 == e') = some (e', u) := by rfl) (how : u.owned = true := by rfl)
    (hx : (mkSt (killSs (at_ e' []) ss) ((e', .junk undef) :: ms)).ev x = sx := by first | exact ev_t rfl | exact ev_c) (ha : (mkSt (killSs (at_ e' []) ss) ((e', .junk undef) :: ms)).adr sx = some (.own e [] 2) := by rfl) (ht : E.tt t = some ti := by rfl) (h1 : ti.sz = 1 := by rfl)
    (hm : ((e', V.junk undef) :: ms).find? (fun x => x.1 == e) = some (e, .ptr .z true (a0 :: a1 :: a2 :: cs)) := by rfl) (hone : V.one u = true := by rfl) : wops E np nt ops Q (i :: rest) (mkSt ss ms) :=
  x_putTK (cs := a0 :: a1 :: a2 :: cs) (cs' := a0 :: a1 :: u :: cs) rfl (by simp) kk ho hop hy (by rw [mem_of hm']; rfl) how (by rw [mem_of hm']; rfl) hx ha ht h1 hm hone
theorem x_put3R {t e e' : Nat} {ti : TI} {u a0 a1 a2 a3 : V} {cs : List V}
    (kk : wops E np nt ops Q rest (mkSt (killSs (on_ e [] 3 1) (killSs (at_ e' []) ss)) ((e, .ptr .z true (a0 :: a1 :: a2 :: u :: cs)) :: (e', .junk undef) :: ms)))
    (ho : ops[i]? = some ⟨none, .store t x y, ty, pos, af, gu⟩ := by rfl) (hop : Open ops ss ⟨none, .store t x y, ty, pos, af, gu⟩ := by first | exact open_none rfl | exact open_some rfl rfl rfl)
    (hy : (mkSt ss ms).ev y = .ref e' [] := by exact ev_t rfl) (hm' : ms.find? (fun x => x.1 == e') = some (e', u) := by rfl) (how : u.owned = true := by rfl)
    (hx : (mkSt (killSs (at_ e' []) ss) ((e', .junk undef) :: ms)).ev x = sx := by first | exact ev_t rfl | exact ev_c) (ha : (mkSt (killSs (at_ e' []) ss) ((e', .junk undef) :: ms)).adr sx = some (.own e [] 3) := by rfl) (ht : E.tt t = some ti := by rfl) (h1 : ti.sz = 1 := by rfl)
    (hm : ((e', V.junk undef) :: ms).find? (fun x => x.1 == e) = some (e, .ptr .z true (a0 :: a1 :: a2 :: a3 :: cs)) := by rfl) (hone : V.one u = true := by rfl) : wops E np nt ops Q (i :: rest) (mkSt ss ms) :=
  x_putTK (cs := a0 :: a1 :: a2 :: a3 :: cs) (cs' := a0 :: a1 :: a2 :: u :: cs) rfl (by simp) kk ho hop hy (by rw [mem_of hm']; rfl) how (by rw [mem_of hm']; rfl) hx ha ht h1 hm hone
end
end Go.E
