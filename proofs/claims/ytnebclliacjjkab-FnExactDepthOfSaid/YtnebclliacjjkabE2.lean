import Derived.Deep.LoopGhost
import Derived.ChangeArms
import Derived.DataReads
import Derived.ChangeOld
import Derived.WideShapes
import Derived.Below
import Derived.Orders
import Derived.Test.YtnebclliacjjkabE1
/- The framework: states of the machine as trees, what the operations do to them, and that this is what the machine does. -/
set_option linter.unusedVariables false
set_option linter.unusedSimpArgs false
namespace Go.E

theorem asm_ok {m : Nat → V} {σ1 : St} {ro ro' : Nat → Prop} {w : World} (lend : ∀ (s : S) {x : Value} {u : V}, σ1.lend s = some u → s.Rel m x → s.Inl ro w → u.value = x ∧ u.Ok ro' w ∧ u.blks = []) :
    ∀ (ms : List (Bool × S)) (xs : List Value), S.RelL m (ms.map Prod.snd) xs → S.InlL ro w (ms.map Prod.snd) →
    ∃ ys, S.RelL m (ownL ms) ys ∧ S.InlL ro w (ownL ms) ∧ ∀ (us vs : List V), us.map V.value = ys → V.OkL ro' w us → asm σ1 ms us = some vs → vs.map V.value = xs ∧ V.OkL ro' w vs ∧ V.blksL vs = V.blksL us := by
  intro ms
  induction ms with
  | nil =>
    intro xs h _
    simp only [List.map_nil, S.RelL] at h; subst h
    refine ⟨[], rfl, trivial, fun us vs hu _ ha => ?_⟩
    simp only [List.map_eq_nil_iff] at hu; subst hu
    simp only [asm, List.isEmpty_nil, if_true, Option.some.injEq] at ha; subst ha
    exact ⟨rfl, trivial, rfl⟩
  | cons x ms ih =>
    intro xs h hi
    obtain ⟨b, s⟩ := x
    obtain ⟨z, zs, rfl, k1, k2⟩ := h
    obtain ⟨ys, l1, l2, l3⟩ := ih zs k2 hi.2
    cases b with
    | false =>
      refine ⟨ys, l1, l2, fun us vs hu hok ha => ?_⟩
      simp only [asm] at ha
      split at ha
      · rename_i v vs' hv hvs
        simp only [Option.some.injEq] at ha; subst ha
        obtain ⟨e1, e2, e3⟩ := l3 us vs' hu hok hvs
        obtain ⟨f1, f2, f3⟩ := lend s hv k1 hi.1
        exact ⟨by simp [e1, f1], ⟨f2, e2⟩, by simp [V.blksL, e3, f3]⟩
      · simp at ha
    | true =>
      have single : (∀ ss, s ≠ .agg ss) → ∃ ys, S.RelL m (s :: ownL ms) ys ∧ S.InlL ro w (s :: ownL ms) ∧ ∀ (us vs : List V), us.map V.value = ys → V.OkL ro' w us → (match us with
          | u :: us => match asm σ1 ms us with
            | some vs => some (u :: vs)
            | none => none
          | [] => none) = some vs → vs.map V.value = z :: zs ∧ V.OkL ro' w vs ∧ V.blksL vs = V.blksL us := fun _ => by
        refine ⟨z :: ys, ⟨z, ys, rfl, k1, l1⟩, ⟨hi.1, l2⟩, fun us vs hu hok ha => ?_⟩
        cases us with
        | nil => simp at ha
        | cons u us =>
          simp only at ha
          simp only [List.map_cons, List.cons.injEq] at hu
          cases hvs : asm σ1 ms us with
          | none => simp [hvs] at ha
          | some vs' =>
            simp only [hvs, Option.some.injEq] at ha; subst ha
            obtain ⟨e1, e2, e3⟩ := l3 us vs' hu.2 hok.2 hvs
            exact ⟨by simp [e1, hu.1], ⟨hok.1, e2⟩, by simp [V.blksL, e3]⟩
      cases s with
      | agg ss =>
        obtain ⟨as, rfl, k3⟩ := k1
        refine ⟨as ++ ys, relL_append _ _ _ _ k3 l1, inlL_append _ _ hi.1 l2, fun us vs hu hok ha => ?_⟩
        simp only [asm] at ha
        split at ha
        · rename_i hle
          have hlas := relL_length _ _ k3
          split at ha
          · rename_i vs' hvs
            simp only [Option.some.injEq] at ha; subst ha
            have htd := List.take_append_drop ss.length us
            have hm1 : (us.take ss.length).map V.value = as := by
              rw [List.map_take, hu, ← hlas, List.take_left]
            have hm2 : (us.drop ss.length).map V.value = ys := by
              rw [List.map_drop, hu, ← hlas, List.drop_left]
            have hok' := hok
            rw [V.OkL_iff] at hok'
            have hok1 : V.OkL ro' w (us.take ss.length) := by rw [V.OkL_iff]; exact fun c hc => hok' c (List.mem_of_mem_take hc)
            have hok2 : V.OkL ro' w (us.drop ss.length) := by rw [V.OkL_iff]; exact fun c hc => hok' c (List.mem_of_mem_drop hc)
            obtain ⟨e1, e2, e3⟩ := l3 _ vs' hm2 hok2 hvs
            refine ⟨by simp only [List.map_cons, e1, V.value, V.values_map, hm1], ⟨hok1, e2⟩, ?_⟩
            simp only [V.blksL, V.blks, e3]
            rw [← V.blksL_append, htd]
          · simp at ha
        · simp at ha
      | _ => exact single (fun _ h => by simp at h)
theorem dis_ok : ∀ (ms : List (Bool × S)) (vs us os ws : List V) {σ1 : St}, asm σ1 ms us = some vs → os.map V.value = vs.map V.value → dis ms os = some ws →
    ws.map V.value = us.map V.value ∧ ws.length = (ownL ms).length ∧ (V.blksL ws).Sublist (V.blksL os) ∧ (∀ x ∈ ws, x ∈ os ∨ ∃ cs, V.agg cs ∈ os ∧ x ∈ cs) := by
  intro ms
  induction ms with
  | nil =>
    intro vs us os ws σ1 ha _ hd
    cases us with
    | nil =>
      cases os with
      | nil => simp only [dis, List.isEmpty_nil, if_true, Option.some.injEq] at hd; subst hd; exact ⟨rfl, rfl, List.Sublist.refl _, by simp⟩
      | cons o os => simp [dis] at hd
    | cons u us => simp [asm] at ha
  | cons x ms ih =>
    intro vs us os ws σ1 ha hv hd
    obtain ⟨b, s⟩ := x
    cases b with
    | false =>
      simp only [asm] at ha
      split at ha
      · rename_i v vs' _ hvs
        simp only [Option.some.injEq] at ha; subst ha
        cases os with
        | nil => simp [dis] at hd
        | cons o os =>
          simp only [List.map_cons, List.cons.injEq] at hv
          simp only [dis] at hd
          obtain ⟨e1, e2, e3, e4⟩ := ih vs' us os ws hvs hv.2 hd
          exact ⟨e1, e2, by rw [V.blksL]; exact e3.trans (List.sublist_append_right _ _), fun x hx => (e4 x hx).imp (fun k => by simp [k]) fun ⟨cs, c1, c2⟩ => ⟨cs, by simp [c1], c2⟩⟩
      · simp at ha
    | true =>
      have single : (∀ ss, s ≠ .agg ss) → (∀ us1, us1 = us → (match us1 with
          | u :: us => match asm σ1 ms us with
            | some vs => some (u :: vs)
            | none => none
          | [] => none) = some vs → ∀ os1, os1 = os → (match os1 with
          | o :: os => match dis ms os with
            | some x => some (o :: x)
            | none => none
          | [] => none) = some ws → ws.map V.value = us.map V.value ∧ ws.length = (s :: ownL ms).length ∧ (V.blksL ws).Sublist (V.blksL os) ∧ (∀ x ∈ ws, x ∈ os ∨ ∃ cs, V.agg cs ∈ os ∧ x ∈ cs)) := fun _ us1 hus1 hA os1 hos1 hD => by
        subst hus1; subst hos1
        clear ha hd
        cases us1 with
        | nil => simp at hA
        | cons u us =>
          simp only at hA
          cases hvs : asm σ1 ms us with
          | none => simp [hvs] at hA
          | some vs' =>
            simp only [hvs, Option.some.injEq] at hA; subst hA
            cases os1 with
            | nil => simp at hD
            | cons o os =>
              simp only at hD
              cases hds : dis ms os with
              | none => simp [hds] at hD
              | some ws' =>
                simp only [hds, Option.some.injEq] at hD; subst hD
                simp only [List.map_cons, List.cons.injEq] at hv
                obtain ⟨e1, e2, e3, e4⟩ := ih vs' us os ws' hvs hv.2 hds
                refine ⟨by simp [e1, hv.1], by simp [e2], by simp only [V.blksL]; exact List.Sublist.append (List.Sublist.refl _) e3, fun x hx => ?_⟩
                rcases List.mem_cons.1 hx with rfl | hx
                · exact .inl (by simp)
                · exact (e4 x hx).imp (fun k => by simp [k]) fun ⟨cs, c1, c2⟩ => ⟨cs, by simp [c1], c2⟩
      cases s with
      | agg ss =>
        simp only [asm] at ha
        split at ha
        · rename_i hle
          split at ha
          · rename_i vs' hvs
            simp only [Option.some.injEq] at ha; subst ha
            cases os with
            | nil => simp [dis] at hd
            | cons o os =>
              simp only [List.map_cons, List.cons.injEq] at hv
              simp only [dis] at hd
              cases o with
              | agg ws1 =>
                simp only at hd
                split at hd
                · rename_i hl
                  cases hds : dis ms os with
                  | none => simp [hds] at hd
                  | some ws' =>
                    simp only [hds, Option.some.injEq] at hd; subst hd
                    obtain ⟨e1, e2, e3, e4⟩ := ih vs' _ os ws' hvs hv.2 hds
                    have hv1 : ws1.map V.value = (us.take ss.length).map V.value := by
                      have := hv.1
                      simp only [V.value, V.values_map] at this
                      simpa [Value.agg] using this
                    refine ⟨?_, by simp [ownL, e2, hl], by simp only [V.blksL, V.blks, V.blksL_append]; exact List.Sublist.append (List.Sublist.refl _) e3, fun x hx => ?_⟩
                    · rw [List.map_append, hv1, e1, ← List.map_append, List.take_append_drop]
                    · rcases List.mem_append.1 hx with hx | hx
                      · exact .inr ⟨ws1, by simp, hx⟩
                      · exact (e4 x hx).imp (fun k => by simp [k]) fun ⟨cs, c1, c2⟩ => ⟨cs, by simp [c1], c2⟩
                · simp at hd
              | _ => simp at hd
          · simp at ha
        · simp at ha
      | _ => exact single (fun _ h => by simp at h) us rfl ha os rfl hd

end Go.E
namespace Go.E

/-! ### A call -/
/-- The state behind a call, but for its result. -/
def St.behind (σ σ1 : St) (own : List S) (us ws : List V) : St := ⟨fun t => (σ.slots t).kill (backF own us ws), backM σ1.mem own ws⟩
theorem behind_erase (σ σ1 : St) (own : List S) (us ws : List V) : (σ.behind σ1 own us ws).erase = σ.erase.behind σ1.erase (S.eraseL own) (V.eraseL us) (V.eraseL ws) := by
  simp only [St.behind, St.erase, backF_erase, backM_erase, St.mk.injEq, and_true]
  funext t; exact S.kill_erase _ _
/-- The result of a call goes to its place. -/
def St.res (σ : St) (np nt : Nat) (dst : Option Nat) (r : V) (K : St → Prop) : Prop := match dst with
  | some d => np ≤ d ∧ d < nt ∧ K (σ.bind d r)
  | none => K σ
/-- A call of a function with these arguments. -/
def callK (E : Env) (np nt : Nat) (dst : Option Nat) (f : FuncId) (ss : List S) (σ : St) (K : St → Prop) : Prop :=
  ∃ (bs : List Bool) (us : List V) (σ1 : St) (vs : List V) (post : V → List V → Prop), bs.length = ss.length ∧ apart (ownL (bs.zip ss)) = true ∧ σ.takes (ownL (bs.zip ss)) = some (us, σ1) ∧ asm σ1 (bs.zip ss) us = some vs ∧
    Spec E.P f vs post ∧ ∀ r outs, post r outs → ∃ ws, dis (bs.zip ss) outs = some ws ∧ (σ.behind σ1 (ownL (bs.zip ss)) us ws).res np nt dst r K
theorem zip_erase (bs : List Bool) (ss : List S) : bs.zip (S.eraseL ss) = eraseB (bs.zip ss) := by
  rw [S.eraseL_map, List.zip_map_right]; rfl
theorem zip_snd (bs : List Bool) (ss : List S) (h : bs.length = ss.length) : (bs.zip ss).map Prod.snd = ss := by
  rw [List.map_snd_zip]; omega
theorem V.OkL.ro_mono {ro ro' : Nat → Prop} {w : World} {cs : List V} (h : V.OkL ro w cs) (hr : ∀ b, ro b → ro' b) : V.OkL ro' w cs := V.OkL.frame hr (fun _ _ => rfl) _ h fun _ _ => rfl
theorem callK_ok {E : Env} {C : Ctx} {σ : St} {ro : Nat → Prop} {a : Act} {w : World} (h : Good C σ [] ro a w) {dst : Option Nat} {f : FuncId} {ss : List S} {xs : List Value} {K : St → Prop} (hr : S.RelL σ.mem ss xs) (hi : S.InlL ro w ss)
    (hw : callK E C.np C.nt dst f (S.eraseL ss) σ.erase K) :
    Enters E.P f ∧ Calls E.P f xs.toArray w fun e w' => ∃ v, e = .returned v ∧ Inv C K (a.put dst v) w' := by
  obtain ⟨bs, us, σ1, vs, post, hlen, hap, htake, hasm, hspec, hK⟩ := hw
  rw [S.eraseL_length] at hlen
  rw [zip_erase, ownL_erase] at hap htake
  rw [apart_erase] at hap
  rw [zip_erase] at hasm
  obtain ⟨hent, hsp⟩ := hspec
  refine ⟨hent, ?_⟩
  have hrz : S.RelL σ.mem ((bs.zip ss).map Prod.snd) xs := by rw [zip_snd bs ss hlen]; exact hr
  have hiz : S.InlL ro w ((bs.zip ss).map Prod.snd) := by rw [zip_snd bs ss hlen]; exact hi
  obtain ⟨⟨ys0, hr0⟩, hi0⟩ := own_rel _ _ hrz hiz
  -- what is handed over is taken
  obtain ⟨ûs0, σ10, e1, e2, hg10, hv10, ht10⟩ := takes_ok _ hap h htake hr0 hi0
  obtain ⟨ys, hry, hiy, hasmok⟩ := asm_ok (ro' := σ10.lentTo ro) (fun s x u k1 k2 k3 => lend_ok h hg10 ht10 s k1 k2 k3) _ _ hrz hiz
  have hysys : ys0 = ys := by
    have : ∀ (l : List S) (a b : List Value), (∀ t ∈ l, (∃ d p, t = .ref d p) ∨ (∃ u, t = .v u)) → S.RelL σ.mem l a → S.RelL σ.mem l b → a = b := by
      intro l
      induction l with
      | nil => intro a b _ h1 h2; simp only [S.RelL] at h1 h2; rw [h1, h2]
      | cons t l ih =>
        intro a b ht h1 h2
        obtain ⟨x, xs, rfl, k1, k2⟩ := h1
        obtain ⟨y, ys, rfl, l1, l2⟩ := h2
        rw [ih xs ys (fun t' h' => ht t' (by simp [h'])) k2 l2]
        congr 1
        rcases ht t (by simp) with ⟨d, p, rfl⟩ | ⟨u, rfl⟩
        · obtain ⟨c, c1, _, c3⟩ := k1
          obtain ⟨c', c1', _, c3'⟩ := l1
          rw [c1] at c1'; simp at c1'; subst c1'
          rw [c3, c3']
        · exact k1.trans l1.symm
    have shape : ∀ (l : List S) (σ : St) (r : List V × St), σ.takes (S.eraseL l) = some r → ∀ t ∈ l, (∃ d p, t = .ref d p) ∨ (∃ u, t = .v u) := by
      intro l
      induction l with
      | nil => intro _ _ _ t ht; simp at ht
      | cons t l ihl =>
        intro σ r hr t' ht'
        simp only [S.eraseL, St.takes] at hr
        cases k : σ.take1 t.erase with
        | none => simp [k] at hr
        | some y =>
          obtain ⟨y1, y2, y3⟩ := y
          simp only [k] at hr
          cases k' : y3.takes (S.eraseL l) with
          | none => simp [k'] at hr
          | some r' =>
            rcases List.mem_cons.1 ht' with rfl | ht''
            · cases t' with
              | v u => exact .inr ⟨u, rfl⟩
              | ref d p => exact .inl ⟨d, p, rfl⟩
              | _ => simp [S.erase, St.take1] at k
            · exact ihl _ _ k' t' ht''
    exact this _ _ _ (shape _ _ _ htake) hr0 hry
  subst hysys
  subst e1 e2
  rw [asm_erase] at hasm
  cases hasm' : asm σ10 (bs.zip ss) ûs0 with
  | none => simp [hasm'] at hasm
  | some vs' =>
    simp only [hasm', Option.map_some, Option.some.injEq] at hasm
    have hokus : V.OkL ro w ûs0 := by have := hg10.hok; simpa using this
    obtain ⟨hval, hokv, hblk⟩ := hasmok ûs0 vs' hv10 (hokus.ro_mono fun b k => .inl k) hasm'
    have hnd : (V.blksL ûs0).Nodup := by have := hg10.hnd; simpa using this
    have hin : ∀ b, b ∈ V.blksL ûs0 → b ∈ V.blksL (ûs0 ++ []) := fun b hb => by simpa using hb
    have hcalls := hsp (σ10.lentTo ro) w vs' hasm hokv (by rw [hblk]; exact hnd)
      (fun b hb => by
        rw [hblk] at hb
        refine ⟨fun k => ?_, (hg10.hown b (hin b hb)).2.1⟩
        rcases k with k | ⟨d, k⟩
        · exact (hg10.hown b (hin b hb)).1 k
        · exact hg10.hdis d b k (hin b hb))
      (fun b k => by
        rcases k with k | ⟨d, k⟩
        · exact hg10.rolt b k
        · exact (hg10.mown d b k).2.1)
    rw [hval] at hcalls
    refine hcalls.mono fun e w' hh => ?_
    obtain ⟨r, outs, rfl, hpost, haf⟩ := hh
    refine ⟨r.value, rfl, ?_⟩
    obtain ⟨ws, hdis, hres⟩ := hK _ _ hpost
    rw [zip_erase, dis_erase] at hdis
    cases hdis' : dis (bs.zip ss) outs with
    | none => simp [hdis'] at hdis
    | some ws' =>
      simp only [hdis', Option.map_some, Option.some.injEq] at hdis
      subst hdis
      obtain ⟨d1, d2, d3, d4⟩ := dis_ok _ vs' ûs0 outs ws' hasm' haf.vals hdis'
      have hro : ∀ b, ro b → w'.heap[b]? = w.heap[b]? := fun b k => haf.frame b (h.rolt b k) fun hb => by
        rw [hblk] at hb; exact (hg10.hown b (hin b hb)).1 k
      have hookl : ∀ x ∈ ws', x.Ok ro w' := fun x hx => by
        have hoo := haf.ook
        rw [V.OkL_iff] at hoo
        have : x.Ok (fun _ => False) w' := by
          rcases d4 x hx with k | ⟨cs, k1, k2⟩
          · exact hoo x k
          · have := hoo _ k1
            simp only [V.Ok] at this
            rw [V.OkL_iff] at this
            exact this x k2
        exact this.frame (fun _ k => k.elim) (fun _ _ => rfl) _ fun _ _ => rfl
      have hg : Good C σ10 (r :: ws') ro a w' := by
        refine hg10.hand (fun b hb hbn => haf.frame b hb fun k => hbn (hin b (hblk ▸ k))) haf.size haf.os haf.tape haf.output ⟨haf.rok.frame (fun _ k => k.elim) (fun _ _ => rfl) _ fun _ _ => rfl, by rw [V.OkL_iff]; exact hookl⟩ ?_ fun b hb => ?_
        · rw [V.blksL]
          exact haf.nd.sublist (List.Sublist.append (List.Sublist.refl _) d3)
        · rw [V.blksL] at hb
          have : b ∈ r.blks ++ V.blksL outs := (List.Sublist.append (List.Sublist.refl _) d3).subset hb
          rcases haf.new b this with k | k
          · exact .inl (hin b (hblk ▸ k))
          · exact .inr k
      have hg' : Good C σ10 (ws' ++ [r]) ro a w' := hg.perm (List.perm_append_comm (l₁ := [r]) (l₂ := ws'))
      obtain ⟨σ'', hm'', hgood⟩ := back_good (ownL (bs.zip ss)) ws' hap hg' fun i d p x hi1 hi2 => by
        obtain ⟨u, k1, _, _, k4⟩ := ht10.places i d p hi1
        have : (ws'.map V.value)[i]? = (ûs0.map V.value)[i]? := by rw [d1]
        simp only [List.getElem?_map, hi2, k1, Option.map_some, Option.some.injEq] at this
        rw [k4, this]
      have hkept := back_kept hap ht10 d1
      rw [← hm''] at hkept
      have hfin := h.reslot hgood hkept hro
      rw [hm''] at hfin
      have hst : (⟨fun t => (σ.slots t).kill (backF (ownL (bs.zip ss)) ûs0 ws'), backM σ10.mem (ownL (bs.zip ss)) ws'⟩ : St) = σ.behind σ10 (ownL (bs.zip ss)) ûs0 ws' := rfl
      rw [hst] at hfin
      have heq : σ.erase.behind σ10.erase (ownL (bs.zip (S.eraseL ss))) (V.eraseL ûs0) (V.eraseL ws') = (σ.behind σ10 (ownL (bs.zip ss)) ûs0 ws').erase := by
        rw [behind_erase, zip_erase, ownL_erase]
      rw [heq] at hres
      cases dst with
      | none => exact ⟨_, ro, hfin.drop, hres⟩
      | some d =>
        obtain ⟨k1, k2, k3⟩ := hres
        exact ⟨_, ro, hfin.bind k1 k2, by rw [erase_bind]; exact k3⟩

end Go.E
namespace Go.E

/-! ### One operation, calls too -/
def fnOf : S → Option (FuncId × List S)
  | .fn f caps => some (f, caps)
  | _ => none
theorem fnOf_erase (s : S) : fnOf s.erase = (fnOf s).map fun x => (x.1, S.eraseL x.2) := by cases s <;> rfl
/-- A call of a function that the machine answers itself, of plain values. -/
def extK (E : Env) (nt : Nat) (dst : Option Nat) (f : FuncId) (ss : List S) (σ : St) (K : St → Prop) : Prop :=
  ∃ (xs : List Value) (d : Nat) (v : Value), dst = some d ∧ d < nt ∧ ss = xs.map (fun x => S.v (.val x)) ∧ (∀ w, (callFunc f xs.toArray).run E.P w = .ok (.value v) w) ∧ K (σ.put d (.v (.val v)))
theorem rel_vals {m : Nat → V} : ∀ (xs ys : List Value), S.RelL m (xs.map fun x => S.v (.val x)) ys → ys = xs := by
  intro xs
  induction xs with
  | nil => intro ys h; exact h
  | cons x xs ih =>
    intro ys h
    obtain ⟨y, ys', rfl, h1, h2⟩ := h
    rw [ih ys' h2]
    simp only [S.Rel, V.value] at h1
    rw [h1]
theorem vals_of_erase : ∀ (ss : List S) (xs : List Value), S.eraseL ss = xs.map (fun x => S.v (.val x)) → ss = xs.map (fun x => S.v (.val x)) := by
  intro ss
  induction ss with
  | nil => intro xs h; cases xs <;> simp_all [S.eraseL]
  | cons s ss ih =>
    intro xs h
    cases xs with
    | nil => simp [S.eraseL] at h
    | cons x xs =>
      simp only [S.eraseL, List.map_cons, List.cons.injEq] at h
      rw [ih xs h.2, S.erase_val h.1]; rfl
def wstep (E : Env) (np nt : Nat) (o : Oper) (σ : St) (K : St → Prop) : Prop := match o.op with
  | .call c => match c.callee with
    | .value x => match fnOf (σ.ev x) with
      | some (f, caps) => callK E np nt o.dst f (c.args.toList.map σ.ev ++ caps) σ K ∨ extK E nt o.dst f (c.args.toList.map σ.ev ++ caps) σ K
      | none => False
    | _ => wop E np nt o σ K
  | _ => wop E np nt o σ K
theorem relL_evs {C : Ctx} {σ : St} {H : List V} {ro : Nat → Prop} {a : Act} {w : World} (h : Good C σ H ro a w) (xs : List Operand) : S.RelL σ.mem (xs.map σ.ev) (xs.map a.eval) ∧ S.InlL ro w (xs.map σ.ev) := by
  induction xs with
  | nil => exact ⟨rfl, trivial⟩
  | cons x xs ih => exact ⟨⟨_, _, rfl, h.evr x, ih.1⟩, h.evInl x, ih.2⟩
theorem wstep_ok {E : Env} (hE : E.Ok) {C : Ctx} {σ : St} {ro : Nat → Prop} {a : Act} {w : World} (h : Good C σ [] ro a w) {o : Oper} {K : St → Prop} {Q : Exit → Act → World → Prop} (hw : wstep E C.np C.nt o σ.erase K) :
    o.wp E.P a w (Inv C K) Q := by
  unfold wstep at hw
  split at hw
  · rename_i c ho
    split at hw
    · rename_i x hx
      rw [St.ev_erase, fnOf_erase] at hw
      cases hf : fnOf (σ.ev x) with
      | none => simp [hf] at hw
      | some y =>
        obtain ⟨f, caps⟩ := y
        simp only [hf, Option.map_some] at hw
        have hs : σ.ev x = .fn f caps := by
          unfold fnOf at hf
          split at hf <;> simp_all
        have hr := h.evr x
        have hi := h.evInl x
        rw [hs] at hr hi
        obtain ⟨ys, hev, hcap⟩ := hr
        obtain ⟨h1, h2⟩ := relL_evs h c.args.toList
        have e1 : c.args.toList.map σ.erase.ev ++ S.eraseL caps = S.eraseL (c.args.toList.map σ.ev ++ caps) := by
          rw [S.eraseL_append, St.evs_erase, S.eraseL_map (List.map σ.ev c.args.toList)]
        rw [e1] at hw
        have hargs : (execOp a.eval o).run E.P w = ((callFunc f (c.args.toList.map a.eval ++ ys).toArray).run E.P w) := by
          unfold execOp; rw [ho]
          have : (c.args.map a.eval) ++ ys.toArray = (c.args.toList.map a.eval ++ ys).toArray := by
            apply Array.toList_inj.1; simp
          simp only [resolve, hx, hev, Deferred.ofValue, invoke, Sem.run_bind, Sem.run_pure, Result.andThen_ok, Array.empty_append, this]
        rcases hw with hw | ⟨xs, d, v, hd, hdn, hss, hrun, hK⟩
        case inr =>
          have hss2 := vals_of_erase _ _ hss
          have hall := relL_append _ _ _ _ h1 hcap
          rw [hss2] at hall
          have hys := rel_vals _ _ hall
          rw [hys] at hargs
          simp only [Oper.wp, hargs, hrun w, Oper.upon_value, hd]
          refine ⟨σ.put d (.v (.val v)), ro, h.put hdn rfl ?_, by rw [erase_put]; exact hK⟩
          exact ⟨trivial, rfl⟩
        obtain ⟨⟨fn, hfn, hb, hn⟩, hcalls⟩ := callK_ok h (relL_append _ _ _ _ h1 hcap) (inlL_append _ _ h2 hi) hw
        have hrun : (execOp a.eval o).run E.P w = .ok (.enter f (c.args.toList.map a.eval ++ ys).toArray) w := by
          unfold execOp; rw [ho]
          have : (c.args.map a.eval) ++ ys.toArray = (c.args.toList.map a.eval ++ ys).toArray := by
            apply Array.toList_inj.1; simp
          simp only [resolve, hx, hev, Deferred.ofValue, invoke, Sem.run_bind, Sem.run_pure, Result.andThen_ok, Array.empty_append, this]
          simp only [callFunc, Sem.run_bind, run_program, Result.andThen_ok, hfn, hb, hn, Bool.false_eq_true, if_false, Sem.run_pure]
        simp only [Oper.wp, hrun, Oper.upon_enter]
        exact hcalls.mono fun e w' ⟨v, e1, e2⟩ => by subst e1; exact e2
    · exact wop_ok hE h hw
  · exact wop_ok hE h hw

/-! ### Regions -/
/-- What a guard sees in a slot. -/
def S.yield : S → Option (Option Bool)
  | .v (.val x) => match x with
    | .bool b => some (some b)
    | .tuple _ => some none
    | _ => none
  | _ => none
theorem S.yield_erase (s : S) : s.erase.yield = s.yield := by
  cases s with
  | v u => cases u <;> rfl
  | _ => rfl
def St.skip (σ : St) : Option Nat → St
  | some d => σ.put d (.v (.val undef))
  | none => σ
theorem skip_erase (σ : St) (d : Option Nat) : (σ.skip d).erase = σ.erase.skip d := by
  cases d with
  | none => rfl
  | some d => simp only [St.skip, erase_put]; rfl
def wops (E : Env) (np nt : Nat) (ops : Array Oper) (Q : Exit → St → Prop) : List Nat → St → Prop
  | [], σ => Q .normal σ
  | i :: rest, σ => match ops[i]? with
    | none => wops E np nt ops Q rest σ
    | some o => match o.guard with
      | none => wstep E np nt o σ (wops E np nt ops Q rest)
      | some (j, b) => match (ops[j]?).bind (·.dst), o.dst with
        | some t, some d => d < nt ∧ ∃ y, (σ.slots t).yield = some y ∧ (y = some b → wstep E np nt o σ (wops E np nt ops Q rest)) ∧ (y ≠ some b → wops E np nt ops Q rest (σ.skip (some d)))
        | some t, none => ∃ y, (σ.slots t).yield = some y ∧ (y = some b → wstep E np nt o σ (wops E np nt ops Q rest)) ∧ (y ≠ some b → wops E np nt ops Q rest σ)
        | _, _ => False
theorem yielded_of {C : Ctx} {σ : St} {ro : Nat → Prop} {a : Act} {w : World} (h : Good C σ [] ro a w) {ops : Array Oper} {j t : Nat} (ht : (ops[j]?).bind (·.dst) = some t) {y : Option Bool} (hy : (σ.slots t).yield = some y) : yielded ops a.tmps j = y := by
  rcases h.slots t with k | ⟨x, k1, k2⟩
  · rw [k] at hy; simp [S.yield] at hy
  · unfold yielded
    rw [ht]
    simp only [Option.bind_some, k1]
    unfold S.yield at hy
    split at hy
    · rename_i v hv
      rw [hv] at k2
      simp only [S.Rel, V.value] at k2; subst k2
      split at hy <;> simp_all
    · simp at hy
theorem wops_ok {E : Env} (hE : E.Ok) {C : Ctx} {ops : Array Oper} {Q : Exit → St → Prop} : ∀ (l : List Nat) {σ : St} {ro : Nat → Prop} {a : Act} {w : World}, Good C σ [] ro a w → wops E C.np C.nt ops Q l σ.erase →
    wpOps E.P ops (fun e => Inv C (Q e)) l a w := by
  intro l
  induction l with
  | nil => intro σ ro a w h hw; exact ⟨σ, ro, h, hw⟩
  | cons i rest ih =>
    intro σ ro a w h hw
    have step : ∀ o, wstep E C.np C.nt o σ.erase (wops E C.np C.nt ops Q rest) → o.wp E.P a w (wpOps E.P ops (fun e => Inv C (Q e)) rest) (fun e => Inv C (Q e)) := fun o ho => by
      have := wstep_ok (Q := fun e => Inv C (Q e)) hE h ho
      have mono : ∀ (N N' : Act → World → Prop), (∀ a w, N a w → N' a w) → o.wp E.P a w N (fun e => Inv C (Q e)) → o.wp E.P a w N' (fun e => Inv C (Q e)) := fun N N' hN hh => by
        unfold Oper.wp Oper.upon at *
        split at hh <;> first | exact hN _ _ hh | exact hh | skip
        · refine hh.mono fun e w' k => ?_
          cases e <;> first | exact hN _ _ k | exact k
        · exact hh.mono fun v w' k => hN _ _ k
      exact mono _ _ (fun a w ⟨σ', ro', k1, k2⟩ => ih k1 k2) this
    simp only [wops] at hw
    simp only [wpOps]
    cases ho : ops[i]? with
    | none => simp only [ho] at hw ⊢; exact ih h hw
    | some o =>
      simp only [ho] at hw ⊢
      cases hg : o.guard with
      | none =>
        simp only [hg] at hw
        have : Region.wanted o (yielded ops a.tmps) = true := by simp [Region.wanted, hg]
        rw [if_pos this]
        exact .inl (step o hw)
      | some jb =>
        obtain ⟨j, b⟩ := jb
        simp only [hg] at hw
        split at hw
        · rename_i t d ht hd
          obtain ⟨hlt, y, hy, h1, h2⟩ := hw
          have hy' : (σ.slots t).yield = some y := by rw [← S.yield_erase]; exact hy
          have hyd := yielded_of h ht hy'
          have hwant : Region.wanted o (yielded ops a.tmps) = (y == some b) := by simp [Region.wanted, hg, hyd]
          rw [hwant]
          by_cases hyb : y = some b
          · rw [if_pos (by simp [hyb])]
            exact .inl (step o (h1 hyb))
          · rw [if_neg (by simp [hyb]), hd]
            have hput := h.put (s := .v (.val undef)) (x := undef) hlt rfl ⟨by simp [V.Ok], rfl⟩
            have := h2 hyb
            rw [← skip_erase] at this
            exact ih hput this
        · rename_i t ht hd
          obtain ⟨y, hy, h1, h2⟩ := hw
          have hy' : (σ.slots t).yield = some y := by rw [← S.yield_erase]; exact hy
          have hyd := yielded_of h ht hy'
          have hwant : Region.wanted o (yielded ops a.tmps) = (y == some b) := by simp [Region.wanted, hg, hyd]
          rw [hwant]
          by_cases hyb : y = some b
          · rw [if_pos (by simp [hyb])]
            exact .inl (step o (h1 hyb))
          · rw [if_neg (by simp [hyb]), hd]
            exact ih h (h2 hyb)
        · exact hw.elim

/-! ### Code -/
/-- A step of the proof alone: the same machine, read in another way. -/
def Ghost (np : Nat) (σ τ : St) : Prop := ∀ (C : Ctx) (ρ : St) (ro : Nat → Prop) (a : Act) (w : World), C.np = np → ρ.erase = σ → Good C ρ [] ro a w → ∃ ρ' ro', ρ'.erase = τ ∧ Good C ρ' [] ro' a w
theorem Ghost.refl {np : Nat} (σ : St) : Ghost np σ σ := fun _ ρ ro _ _ _ h1 h2 => ⟨ρ, ro, h1, h2⟩
theorem Ghost.trans {np : Nat} {σ τ υ : St} (h : Ghost np σ τ) (k : Ghost np τ υ) : Ghost np σ υ := fun C ρ ro a w h0 h1 h2 =>
  let ⟨ρ', ro', h3, h4⟩ := h C ρ ro a w h0 h1 h2
  k C ρ' ro' a w h0 h3 h4
def thenE (next : St → Prop) (Q : Exit → St → Prop) : Exit → St → Prop
  | .normal, σ => next σ
  | e, σ => Q e σ
def inBlockE (id : Nat) (Q : Exit → St → Prop) : Exit → St → Prop
  | .exit id', σ => if id' = id then Q .normal σ else Q (.exit id') σ
  | e, σ => Q e σ
def awp (E : Env) (np nt : Nat) : Code → (Exit → St → Prop) → St → Prop
  | .skip, Q, σ => Q .normal σ
  | .label _, Q, σ => Q .normal σ
  | .region _ ops draw, Q, σ => if draw then ∀ t, wops E np nt ops Q (Region.schedule (E.P.follows .mixedOrders) ops t) σ else wops E np nt ops Q (List.range ops.size) σ
  | .seq x y, Q, σ => awp E np nt x (thenE (fun σ' => ∃ τ, Ghost np σ' τ ∧ awp E np nt y Q τ) Q) σ
  | .cond c x y, Q, σ => ∃ t, (σ.ev c).bool? = some t ∧ (t = true → awp E np nt x Q σ) ∧ (t = false → awp E np nt y Q σ)
  | .block id c, Q, σ => awp E np nt c (inBlockE id Q) σ
  | .loop c, Q, σ => ∃ I : Nat → St → Prop, (∃ n τ, Ghost np σ τ ∧ I n τ) ∧ ∀ n σ, I n σ → awp E np nt c (thenE (fun σ' => ∃ n', n' < n ∧ ∃ τ, Ghost np σ' τ ∧ I n' τ) Q) σ
  | .exit id, Q, σ => Q (.exit id) σ
  | .ret, Q, σ => Q .ret σ
  | _, _, _ => False
theorem Good.drew {C : Ctx} {σ : St} {H : List V} {ro : Nat → Prop} {a : Act} {w : World} (h : Good C σ H ro a w) : Good C σ H ro a { w with drawn := w.drawn + 1 } :=
  h.hand (fun _ _ _ => rfl) (Nat.le_refl _) rfl rfl rfl (V.OkL.frame (ro := ro) (ro' := ro) (w := w) (w' := { w with drawn := w.drawn + 1 }) (fun _ k => k) (fun _ _ => rfl) _ h.hok fun _ _ => rfl) h.hnd fun _ hb => .inl hb
theorem awp_ok {E : Env} (hE : E.Ok) {C : Ctx} : ∀ (c : Code) {Q : Exit → St → Prop} {σ : St} {ro : Nat → Prop} {a : Act} {w : World}, Good C σ [] ro a w → awp E C.np C.nt c Q σ.erase →
    c.wp E.P (fun e => Inv C (Q e)) a w := by
  intro c
  induction c with
  | skip => intro Q σ ro a w h hw; exact wp_skip ⟨σ, ro, h, hw⟩
  | label l => intro Q σ ro a w h hw; exact wp_label ⟨σ, ro, h, hw⟩
  | region id ops draw =>
    intro Q σ ro a w h hw
    cases draw with
    | false => exact wp_region (wops_ok hE _ h hw)
    | true => exact wp_region_draw fun t => wops_ok hE _ h.drew (hw t)
  | seq x y ihx ihy =>
    intro Q σ ro a w h hw
    refine wp_seq (wp_mono (ihx h hw) fun e a w ⟨σ', ro', k1, k2⟩ => ?_)
    cases e with
    | normal =>
      obtain ⟨τ, hg, hy⟩ := k2
      obtain ⟨ρ', ro3, e3, h3⟩ := hg C σ' ro' a w rfl rfl k1
      exact ihy h3 (e3 ▸ hy)
    | _ => exact ⟨σ', ro', k1, k2⟩
  | cond c x y ihx ihy =>
    intro Q σ ro a w h hw
    obtain ⟨t, ht, h1, h2⟩ := hw
    rw [St.ev_erase, S.bool?_erase] at ht
    have hr := h.evr c
    rw [S.bool?_some ht] at hr
    simp only [S.Rel, V.value] at hr
    cases t with
    | true => exact wp_cond_true hr (ihx h (h1 rfl))
    | false => exact wp_cond_false hr (ihy h (h2 rfl))
  | block id c ih =>
    intro Q σ ro a w h hw
    refine wp_block (wp_mono (ih h hw) fun e a w ⟨σ', ro', k1, k2⟩ => ?_)
    cases e with
    | exit id' =>
      simp only [Exit.inBlock]
      simp only [inBlockE] at k2
      split
      · rename_i he; rw [if_pos he] at k2; exact ⟨σ', ro', k1, k2⟩
      · rename_i he; rw [if_neg he] at k2; exact ⟨σ', ro', k1, k2⟩
    | _ => exact ⟨σ', ro', k1, k2⟩
  | loop c ih =>
    intro Q σ ro a w h hw
    obtain ⟨I, ⟨n, τ, hg, hI⟩, hround⟩ := hw
    obtain ⟨ρ, ro1, e1, h1⟩ := hg C σ ro a w rfl rfl h
    refine wp_loop_ghost (fun n a w => Inv C (I n) a w) n ⟨ρ, ro1, h1, e1 ▸ hI⟩ fun n a w ⟨σ1, ro1, k1, k2⟩ => ?_
    refine wp_mono (ih k1 (hround n _ k2)) fun e a w ⟨σ2, ro2, l1, l2⟩ => ?_
    cases e with
    | normal =>
      obtain ⟨n', hn, τ', hg', hI'⟩ := l2
      obtain ⟨ρ', ro3, e3, h3⟩ := hg' C σ2 ro2 a w rfl rfl l1
      exact ⟨n', hn, ρ', ro3, h3, e3 ▸ hI'⟩
    | _ => exact ⟨σ2, ro2, l1, l2⟩
  | exit id => intro Q σ ro a w h hw; exact wp_exit ⟨σ, ro, h, hw⟩
  | ret => intro Q σ ro a w h hw; exact wp_ret ⟨σ, ro, h, hw⟩
  | _ => intro Q σ ro a w h hw; exact hw.elim

end Go.E
namespace Go.E

/-! ### A function's body -/
mutual
/-- No memory but its own. -/
def V.free : V → Bool
  | .val _ => true
  | .junk _ => true
  | .agg cs => V.freeL cs
  | .tup cs => V.freeL cs
  | .fn _ cs => V.freeL cs
  | .sl _ o _ _ cs => (o || cs.isEmpty) && V.freeL cs
  | .ptr _ o cs => o && V.freeL cs
def V.freeL : List V → Bool
  | [] => true
  | c :: cs => c.free && V.freeL cs
end
mutual
theorem V.free_erase : ∀ (u : V), u.erase.free = u.free
  | .val _ => rfl
  | .junk _ => rfl
  | .agg cs => by simp only [V.erase, V.free, V.freeL_erase cs]
  | .tup cs => by simp only [V.erase, V.free, V.freeL_erase cs]
  | .fn _ cs => by simp only [V.erase, V.free, V.freeL_erase cs]
  | .sl _ o _ _ cs => by
    simp only [V.erase, V.free, V.freeL_erase cs]
    cases cs <;> rfl
  | .ptr _ o cs => by simp only [V.erase, V.free, V.freeL_erase cs]
theorem V.freeL_erase : ∀ (cs : List V), V.freeL (V.eraseL cs) = V.freeL cs
  | [] => rfl
  | c :: cs => by simp only [V.eraseL, V.freeL, V.free_erase c, V.freeL_erase cs]
end
mutual
theorem V.free_ok {ro : Nat → Prop} {w : World} : ∀ (u : V), u.free = true → u.Ok ro w → u.Ok (fun _ => False) w
  | .val _, _, _ => trivial
  | .junk _, _, _ => trivial
  | .agg cs, h, k => by simp only [V.free, V.Ok] at *; exact V.freeL_ok cs h k
  | .tup cs, h, k => by simp only [V.free, V.Ok] at *; exact V.freeL_ok cs h k
  | .fn _ cs, h, k => by simp only [V.free, V.Ok] at *; exact V.freeL_ok cs h k
  | .sl g o s n cs, h, k => by
    simp only [V.free, Bool.and_eq_true] at h
    simp only [V.Ok] at k ⊢
    refine ⟨k.1, k.2.1, k.2.2.1, ?_, V.freeL_ok cs h.2 k.2.2.2.2⟩
    cases o with
    | true => have := k.2.2.2.1; simp only [if_true] at this ⊢; exact this
    | false =>
      have := k.2.2.2.1
      simp only [Bool.false_eq_true, if_false, Bool.false_or, List.isEmpty_iff] at this h ⊢
      exact ⟨.inl (by simp [h.1]), this.2⟩
  | .ptr g o cs, h, k => by
    simp only [V.free, Bool.and_eq_true] at h
    obtain ⟨rfl, h⟩ := h
    simp only [V.Ok, if_true] at k ⊢
    exact ⟨k.1, V.freeL_ok cs h k.2⟩
theorem V.freeL_ok {ro : Nat → Prop} {w : World} : ∀ (cs : List V), V.freeL cs = true → V.OkL ro w cs → V.OkL (fun _ => False) w cs
  | [], _, _ => trivial
  | c :: cs, h, k => by
    simp only [V.freeL, Bool.and_eq_true] at h
    exact ⟨V.free_ok c h.1 k.1, V.freeL_ok cs h.2 k.2⟩
end
mutual
/-- What goes back to the caller: what was lent is left out. -/
def V.backed : V → V
  | .val v => .val v
  | .junk v => .junk v
  | .agg cs => .agg (V.backedL cs)
  | .tup cs => .tup (V.backedL cs)
  | .fn f cs => .fn f (V.backedL cs)
  | .sl g o s n cs => if o then .sl g o s n cs else .junk (.slice g.addr n g.cap)
  | .ptr g o cs => if o then .ptr g o cs else .junk (.pointer g.addr)
def V.backedL : List V → List V
  | [] => []
  | c :: cs => c.backed :: V.backedL cs
end
mutual
theorem V.backed_value : ∀ (u : V), u.backed.value = u.value
  | .val _ => rfl
  | .junk _ => rfl
  | .agg cs => by simp only [V.backed, V.value, V.backedL_values cs]
  | .tup cs => by simp only [V.backed, V.value, V.backedL_values cs]
  | .fn _ cs => by simp only [V.backed, V.value, V.backedL_values cs]
  | .sl _ o _ _ cs => by cases o <;> simp [V.backed, V.value]
  | .ptr _ o cs => by cases o <;> simp [V.backed, V.value]
theorem V.backedL_values : ∀ (cs : List V), V.values (V.backedL cs) = V.values cs
  | [] => rfl
  | c :: cs => by simp only [V.backedL, V.values, V.backed_value c, V.backedL_values cs]
end
mutual
theorem V.erase_erase : ∀ (u : V), u.erase.erase = u.erase
  | .val _ => rfl
  | .junk _ => rfl
  | .agg cs => by simp only [V.erase, V.eraseL_eraseL cs]
  | .tup cs => by simp only [V.erase, V.eraseL_eraseL cs]
  | .fn _ cs => by simp only [V.erase, V.eraseL_eraseL cs]
  | .sl _ _ _ _ cs => by simp only [V.erase, V.eraseL_eraseL cs]
  | .ptr _ _ cs => by simp only [V.erase, V.eraseL_eraseL cs]
theorem V.eraseL_eraseL : ∀ (cs : List V), V.eraseL (V.eraseL cs) = V.eraseL cs
  | [] => rfl
  | c :: cs => by simp only [V.eraseL, V.erase_erase c, V.eraseL_eraseL cs]
end
mutual
theorem V.backed_erase : ∀ (u : V), u.backed.erase = u.erase.backed.erase
  | .val _ => rfl
  | .junk _ => rfl
  | .agg cs => by simp only [V.backed, V.erase, V.backedL_erase cs]
  | .tup cs => by simp only [V.backed, V.erase, V.backedL_erase cs]
  | .fn _ cs => by simp only [V.backed, V.erase, V.backedL_erase cs]
  | .sl _ o _ _ cs => by cases o <;> simp [V.backed, V.erase, V.eraseL_eraseL]
  | .ptr _ o cs => by cases o <;> simp [V.backed, V.erase, V.eraseL_eraseL]
theorem V.backedL_erase : ∀ (cs : List V), V.eraseL (V.backedL cs) = V.eraseL (V.backedL (V.eraseL cs))
  | [] => rfl
  | c :: cs => by simp only [V.backedL, V.eraseL, V.backed_erase c, V.backedL_erase cs]
end
mutual
theorem V.backed_ok {ro : Nat → Prop} {w : World} : ∀ (u : V), u.Ok ro w → u.backed.Ok ro w ∧ u.backed.blks.Sublist u.blks
  | .val _, _ => ⟨trivial, List.Sublist.refl _⟩
  | .junk _, _ => ⟨trivial, List.Sublist.refl _⟩
  | .agg cs, h => by simp only [V.backed, V.Ok, V.blks] at *; exact V.backedL_ok cs h
  | .tup cs, h => by simp only [V.backed, V.Ok, V.blks] at *; exact V.backedL_ok cs h
  | .fn _ cs, h => by simp only [V.backed, V.Ok, V.blks] at *; exact V.backedL_ok cs h
  | .sl g o s n cs, h => by
    cases o with
    | true => simp only [V.backed, if_true]; exact ⟨h, List.Sublist.refl _⟩
    | false => simp only [V.backed, Bool.false_eq_true, if_false]; exact ⟨trivial, by simp [V.blks]⟩
  | .ptr g o cs, h => by
    cases o with
    | true => simp only [V.backed, if_true]; exact ⟨h, List.Sublist.refl _⟩
    | false => simp only [V.backed, Bool.false_eq_true, if_false]; exact ⟨trivial, by simp [V.blks]⟩
theorem V.backedL_ok {ro : Nat → Prop} {w : World} : ∀ (cs : List V), V.OkL ro w cs → V.OkL ro w (V.backedL cs) ∧ (V.blksL (V.backedL cs)).Sublist (V.blksL cs)
  | [], _ => ⟨trivial, List.Sublist.refl _⟩
  | c :: cs, h => by
    obtain ⟨h1, h2⟩ := V.backed_ok c h.1
    obtain ⟨k1, k2⟩ := V.backedL_ok cs h.2
    exact ⟨⟨h1, k1⟩, by simp only [V.backedL, V.blksL]; exact List.Sublist.append h2 k2⟩
end

/-- Where a function begins. -/
def entry (args : List V) : St := ⟨fun t => match args[t]? with | some u => viewR t u | none => .junk, fun t => (args[t]?).getD (.junk undef)⟩
theorem entry_erase (args : List V) : (entry args).erase = entry (V.eraseL args) := by
  simp only [entry, St.erase, St.mk.injEq]
  constructor
  · funext t
    rw [V.eraseL_map, List.getElem?_map]
    cases args[t]? with
    | none => rfl
    | some u => simp [viewR_erase]
  · funext t
    rw [V.eraseL_map, List.getElem?_map]
    cases args[t]? <;> rfl


/-- The result, of what was returned. -/
def V.one? (vs : List V) : V := match vs with
  | [v] => v
  | vs => .tup vs
/-- The results' slots; a result that lies in a cell is loaded. -/
def resSlots (E : Env) (fn : Func) (σ : St) : List (Bool × S) := fn.results.toList.map fun r => match r with
  | .tmp t => (true, σ.slots t)
  | .cell a t => (true, (σ.ld E t (σ.slots a)).getD .junk)
def cellsOk (E : Env) (fn : Func) (σ : St) : Bool := fn.results.toList.all fun r => match r with
  | .tmp _ => true
  | .cell a t => (σ.ld E t (σ.slots a)).isSome
/-- What holds when a function is left. -/
def leaveK (E : Env) (fn : Func) (np : Nat) (post : V → List V → Prop) (e : Exit) (σ : St) : Prop :=
  (e = .normal ∨ e = .ret) ∧ cellsOk E fn σ = true ∧ ∃ us σ1 vs, apart (ownL (resSlots E fn σ)) = true ∧ σ.takes (ownL (resSlots E fn σ)) = some (us, σ1) ∧ asm σ1 (resSlots E fn σ) us = some vs ∧
    (V.one? vs).free = true ∧ ∃ outs, (List.range np).map (fun i => (σ1.mem i).backed.erase) = outs ∧ V.freeL outs = true ∧ post (V.one? vs) outs
def oneV : List Value → Value
  | [v] => v
  | vs => .tuple vs.toArray
theorem mapM_res {P : Program} {w : World} {m : Nat → V} {ro : Nat → Prop} (F : ResultVar → Sem Value) (G : ResultVar → S) : ∀ (l : List ResultVar), (∀ r ∈ l, ∃ x, (F r).run P w = .ok x w ∧ (G r).Rel m x ∧ (G r).Inl ro w) →
    ∃ xs, (l.mapM F).run P w = .ok xs w ∧ S.RelL m (l.map G) xs ∧ S.InlL ro w (l.map G) := by
  intro l
  induction l with
  | nil => intro _; exact ⟨[], by simp, rfl, trivial⟩
  | cons r l ih =>
    intro h
    obtain ⟨x, h1, h2, h3⟩ := h r (by simp)
    obtain ⟨xs, k1, k2, k3⟩ := ih fun r' hr => h r' (by simp [hr])
    refine ⟨x :: xs, ?_, ⟨x, xs, rfl, h2, k2⟩, h3, k3⟩
    rw [List.mapM_cons]
    simp only [Sem.run_bind, h1, Result.andThen_ok, k1, Sem.run_pure]
theorem results_list {E : Env} (hE : E.Ok) {C : Ctx} {σ : St} {ro : Nat → Prop} {a : Act} {w : World} (h : Good C σ [] ro a w) {fn : Func} (hc : cellsOk E fn σ = true) (F : ResultVar → Sem Value)
    (hF1 : ∀ t, F (.tmp t) = pure (a.tmps.getD t undef)) (hF2 : ∀ a' t, F (.cell a' t) = (do loadVar t (← asAddr (a.tmps.getD a' undef)))) :
    ∃ xs, (fn.results.toList.mapM F).run E.P w = .ok xs w ∧ S.RelL σ.mem ((resSlots E fn σ).map Prod.snd) xs ∧ S.InlL ro w ((resSlots E fn σ).map Prod.snd) := by
  have hs : (resSlots E fn σ).map Prod.snd = fn.results.toList.map fun r => match r with
      | .tmp t => σ.slots t
      | .cell a t => (σ.ld E t (σ.slots a)).getD .junk := by
    simp only [resSlots, List.map_map]
    refine List.map_congr_left fun r _ => ?_
    cases r <;> rfl
  rw [hs]
  simp only [cellsOk, List.all_eq_true] at hc
  refine mapM_res F _ fn.results.toList fun r hr => ?_
  cases r with
  | tmp t => exact ⟨_, by rw [hF1]; rfl, h.evr (.tmp t), h.evInl (.tmp t)⟩
  | cell a' t =>
    have := hc _ hr
    simp only at this
    obtain ⟨s, hsl⟩ := Option.isSome_iff_exists.1 this
    obtain ⟨x, h1, h2, h3⟩ := St.ld_ok hE h hsl (h.evr (.tmp a')) (h.evInl (.tmp a'))
    refine ⟨x, ?_, by simpa [hsl] using h2, by simpa [hsl] using h3⟩
    rw [hF2]
    have hev : a.eval (.tmp a') = a.tmps.getD a' undef := rfl
    rw [hev] at h1
    unfold Instr.loadAt at h1
    cases hv : a.tmps.getD a' undef with
    | pointer o =>
      cases o with
      | none => rw [hv] at h1; simp [Instr.sureAddr, stuck] at h1
      | some ad => rw [hv] at h1; simpa [Instr.sureAddr, asAddr] using h1
    | _ => rw [hv] at h1; simp [Instr.sureAddr, stuck] at h1
def resF (tmps : Array Value) : ResultVar → Sem Value
  | .tmp t => pure (tmps.getD t undef)
  | .cell a t => do loadVar t (← asAddr (tmps.getD a undef))
theorem results_eq (fn : Func) (tmps : Array Value) : results fn tmps = (do
    let vs ← fn.results.mapM (resF tmps)
    pure (if h : vs.size = 1 then vs[0] else .tuple vs)) := by
  unfold results
  congr 1
theorem results_ok {E : Env} (hE : E.Ok) {C : Ctx} {σ : St} {ro : Nat → Prop} {a : Act} {w : World} (h : Good C σ [] ro a w) {fn : Func} (hc : cellsOk E fn σ = true) :
    ∃ xs, (results fn a.tmps).run E.P w = .ok (oneV xs) w ∧ S.RelL σ.mem ((resSlots E fn σ).map Prod.snd) xs ∧ S.InlL ro w ((resSlots E fn σ).map Prod.snd) := by
  rw [results_eq, Array.mapM_eq_mapM_toList]
  obtain ⟨xs, k1, k2, k3⟩ := results_list hE h hc (resF a.tmps) (fun _ => rfl) (fun _ _ => rfl)
  refine ⟨xs, ?_, k2, k3⟩
  simp only [Sem.run_bind, Sem.run_map, k1]
  rcases xs with _ | ⟨a, _ | ⟨b, vs⟩⟩
  · rfl
  · rfl
  · simp [oneV]

end Go.E
namespace Go.E

theorem blksL_get {vs : List V} {i : Nat} {u : V} (h : vs[i]? = some u) : ∀ b ∈ u.blks, b ∈ V.blksL vs := fun b hb => by
  rw [V.blksL_flatMap]
  exact List.mem_flatMap.2 ⟨u, List.mem_of_getElem? h, hb⟩
theorem blksL_nodup {vs : List V} {u : V} (hnd : (V.blksL vs).Nodup) (h : u ∈ vs) : u.blks.Nodup := by
  induction vs with
  | nil => simp at h
  | cons x vs ih =>
    simp only [V.blksL, List.nodup_append] at hnd
    rcases List.mem_cons.1 h with rfl | h
    · exact hnd.1
    · exact ih hnd.2.1 h
theorem blksL_dis {vs : List V} (hnd : (V.blksL vs).Nodup) {i j : Nat} {u v : V} (hi : vs[i]? = some u) (hj : vs[j]? = some v) (hij : i ≠ j) : ∀ b ∈ u.blks, b ∉ v.blks := by
  induction vs generalizing i j with
  | nil => simp at hi
  | cons x vs ih =>
    simp only [V.blksL, List.nodup_append] at hnd
    intro b hb hb'
    cases i with
    | zero =>
      cases j with
      | zero => exact hij rfl
      | succ j =>
        simp only [List.getElem?_cons_zero, Option.some.injEq, List.getElem?_cons_succ] at hi hj
        subst hi
        exact hnd.2.2 b hb b (blksL_get hj b hb') rfl
    | succ i =>
      cases j with
      | zero =>
        simp only [List.getElem?_cons_zero, Option.some.injEq, List.getElem?_cons_succ] at hi hj
        subst hj
        exact hnd.2.2 b hb' b (blksL_get hi b hb) rfl
      | succ j =>
        simp only [List.getElem?_cons_succ] at hi hj
        exact ih hnd.2.1 hi hj (by omega) b hb hb'
theorem entry_good {ro : Nat → Prop} {w : World} {vs : List V} {nt : Nat} (hok : V.OkL ro w vs) (hnd : (V.blksL vs).Nodup) (hown : ∀ b ∈ V.blksL vs, ¬ ro b ∧ b < w.heap.size) (hro : ∀ b, ro b → b < w.heap.size) (hnt : vs.length ≤ nt) :
    Good ⟨w, ro, V.blksL vs, nt, vs.length, fun i => ((vs[i]?).getD (.junk undef)).value⟩ (entry vs) [] ro { tmps := (vs.map V.value).toArray ++ Array.replicate (nt - (vs.map V.value).toArray.size) undef, defers := [] } w where
  slots t := by
    cases h : vs[t]? with
    | none => exact .inl (by simp [entry, h])
    | some u =>
      refine .inr ⟨u.value, ?_, ?_⟩
      · have : t < vs.length := (List.getElem?_eq_some_iff.1 h).1
        rw [Array.getElem?_append_left (by simpa using this)]
        simp [h]
      · have := viewR_rel (m := (entry vs).mem) (d := t)
        simp only [entry, h, Option.getD_some] at this ⊢
        exact this
  inl t := by
    cases h : vs[t]? with
    | none => simp [entry, h, S.Inl]
    | some u =>
      simp only [entry, h]
      rw [V.OkL_iff] at hok
      exact viewR_inl (hok u (List.mem_of_getElem? h))
  mok d := by
    rw [V.OkL_iff] at hok
    simp only [entry]
    cases h : vs[d]? with
    | none => simp [V.Ok]
    | some u => exact hok u (List.mem_of_getElem? h)
  hok := trivial
  mnd d := by
    simp only [entry]
    cases h : vs[d]? with
    | none => simp [V.blks]
    | some u =>
      simp only [Option.getD_some]
      exact blksL_nodup hnd (List.mem_of_getElem? h)
  hnd := by simp [V.blksL]
  mdis d e b hde hb := by
    simp only [entry] at hb ⊢
    cases h : vs[d]? with
    | none => simp [h, V.blks] at hb
    | some u =>
      cases k : vs[e]? with
      | none => simp [V.blks]
      | some v => simp only [h, Option.getD_some] at hb ⊢; exact blksL_dis hnd h k hde b hb
  hdis d b _ := by simp [V.blksL]
  mown d b hb := by
    simp only [entry] at hb
    cases h : vs[d]? with
    | none => simp [h, V.blks] at hb
    | some u =>
      simp only [h, Option.getD_some] at hb
      have := blksL_get h b hb
      exact ⟨(hown b this).1, (hown b this).2, .inl this⟩
  hown b hb := by simp [V.blksL] at hb
  rolt := hro
  roext _ h := h
  frame _ _ _ := rfl
  size := Nat.le_refl _
  os := rfl
  tape := rfl
  output := rfl
  pins i hi := by simp [entry]
  defs := rfl
  nt := by simp; omega

theorem blksL_range {f : Nat → V} {ms : Nat → List Nat} (hs : ∀ i, (f i).blks.Sublist (ms i)) (hn : ∀ i, (ms i).Nodup) (hd : ∀ i j b, i ≠ j → b ∈ ms i → b ∉ ms j) : ∀ n, (V.blksL ((List.range n).map f)).Nodup ∧ ∀ b ∈ V.blksL ((List.range n).map f), ∃ i, i < n ∧ b ∈ ms i := by
  intro n
  induction n with
  | zero => simp [V.blksL]
  | succ n ih =>
    rw [List.range_succ, List.map_append, V.blksL_append]
    simp only [List.map_cons, List.map_nil, V.blksL, List.append_nil, List.nodup_append, List.mem_append]
    refine ⟨⟨ih.1, (hn n).sublist (hs n), fun x hx y hy e => ?_⟩, fun b hb => ?_⟩
    · subst e
      obtain ⟨i, hi, hb⟩ := ih.2 x hx
      exact hd i n x (by omega) hb ((hs n).subset hy)
    · rcases hb with hb | hb
      · obtain ⟨i, hi, h⟩ := ih.2 b hb; exact ⟨i, by omega, h⟩
      · exact ⟨n, by omega, (hs n).subset hb⟩
theorem one_value (vs : List V) : (V.one? vs).value = oneV (vs.map V.value) := by
  rcases vs with _ | ⟨x, _ | ⟨y, vs⟩⟩
  · simp [V.one?, V.value, V.values, oneV]
  · rfl
  · simp [V.one?, V.value, V.values, V.values_map, oneV]
theorem one_blks (vs : List V) : (V.one? vs).blks = V.blksL vs := by
  rcases vs with _ | ⟨x, _ | ⟨y, vs⟩⟩
  · rfl
  · simp [V.one?, V.blksL]
  · rfl
theorem one_ok {ro : Nat → Prop} {w : World} (vs : List V) (h : V.OkL ro w vs) : (V.one? vs).Ok ro w := by
  rcases vs with _ | ⟨x, _ | ⟨y, vs⟩⟩
  · exact h
  · exact h.1
  · exact h
theorem one_erase (vs : List V) : (V.one? vs).erase = V.one? (V.eraseL vs) := by
  rcases vs with _ | ⟨x, _ | ⟨y, vs⟩⟩ <;> rfl

theorem took_ok {C : Ctx} {σ : St} {ro : Nat → Prop} {a : Act} {w : World} (h : Good C σ [] ro a w) {ms : List (Bool × S)} {xs : List Value} (hrz : S.RelL σ.mem (ms.map Prod.snd) xs) (hiz : S.InlL ro w (ms.map Prod.snd))
    {us vs : List V} {σ1 : St} (hap : apart (ownL ms) = true) (htake : σ.erase.takes (S.eraseL (ownL ms)) = some (us, σ1)) (hasm : asm σ1 (eraseB ms) us = some vs) :
    ∃ us' σ1' vs', V.eraseL us' = us ∧ σ1'.erase = σ1 ∧ V.eraseL vs' = vs ∧ Good C σ1' us' ro a w ∧ vs'.map V.value = xs ∧ V.OkL (σ1'.lentTo ro) w vs' ∧ V.blksL vs' = V.blksL us' := by
  obtain ⟨⟨ys0, hr0⟩, hi0⟩ := own_rel _ _ hrz hiz
  obtain ⟨us', σ10, e1, e2, hg10, hv10, ht10⟩ := takes_ok _ hap h htake hr0 hi0
  obtain ⟨ys, hry, hiy, hasmok⟩ := asm_ok (ro' := σ10.lentTo ro) (fun s x u k1 k2 k3 => lend_ok h hg10 ht10 s k1 k2 k3) _ _ hrz hiz
  have hysys : ys0 = ys := by
    have : ∀ (l : List S) (a b : List Value), (∀ t ∈ l, (∃ d p, t = .ref d p) ∨ (∃ u, t = .v u)) → S.RelL σ.mem l a → S.RelL σ.mem l b → a = b := by
      intro l
      induction l with
      | nil => intro a b _ h1 h2; simp only [S.RelL] at h1 h2; rw [h1, h2]
      | cons t l ih =>
        intro a b ht h1 h2
        obtain ⟨x, xs, rfl, k1, k2⟩ := h1
        obtain ⟨y, ys, rfl, l1, l2⟩ := h2
        rw [ih xs ys (fun t' h' => ht t' (by simp [h'])) k2 l2]
        congr 1
        rcases ht t (by simp) with ⟨d, p, rfl⟩ | ⟨u, rfl⟩
        · obtain ⟨c, c1, _, c3⟩ := k1
          obtain ⟨c', c1', _, c3'⟩ := l1
          rw [c1] at c1'; simp at c1'; subst c1'
          rw [c3, c3']
        · exact k1.trans l1.symm
    have shape : ∀ (l : List S) (σ : St) (r : List V × St), σ.takes (S.eraseL l) = some r → ∀ t ∈ l, (∃ d p, t = .ref d p) ∨ (∃ u, t = .v u) := by
      intro l
      induction l with
      | nil => intro _ _ _ t ht; simp at ht
      | cons t l ihl =>
        intro σ r hr t' ht'
        simp only [S.eraseL, St.takes] at hr
        cases k : σ.take1 t.erase with
        | none => simp [k] at hr
        | some y =>
          obtain ⟨y1, y2, y3⟩ := y
          simp only [k] at hr
          cases k' : y3.takes (S.eraseL l) with
          | none => simp [k'] at hr
          | some r' =>
            rcases List.mem_cons.1 ht' with rfl | ht''
            · cases t' with
              | v u => exact .inr ⟨u, rfl⟩
              | ref d p => exact .inl ⟨d, p, rfl⟩
              | _ => simp [S.erase, St.take1] at k
            · exact ihl _ _ k' t' ht''
    exact this _ _ _ (shape _ _ _ htake) hr0 hry
  subst hysys
  subst e1 e2
  rw [asm_erase] at hasm
  cases hasm' : asm σ10 ms us' with
  | none => simp [hasm'] at hasm
  | some vs' =>
    simp only [hasm', Option.map_some, Option.some.injEq] at hasm
    have hokus : V.OkL ro w us' := by have := hg10.hok; simpa using this
    obtain ⟨hval, hokv, hblk⟩ := hasmok us' vs' hv10 (hokus.ro_mono fun b k => .inl k) hasm'
    exact ⟨us', σ10, vs', rfl, rfl, hasm, by simpa using hg10, hval, hokv, hblk⟩

/-- A FUNCTION DOES WHAT ITS BODY DOES. -/
theorem spec_of_awp {E : Env} (hE : E.Ok) {f : FuncId} {fn : Func} {c : Code} {args : List V} {post : V → List V → Prop} (hf : E.P.funcs[f]? = some fn) (hb : fn.body = some c) (hname : (fn.name == "runtime.NumGoroutine") = false)
    (hnt : args.length ≤ fn.ntmps) (h : awp E args.length fn.ntmps c (leaveK E fn args.length post) (entry args)) : Spec E.P f args post := by
  refine ⟨⟨fn, hf, by simp [hb], hname⟩, fun ro w vs hvs hok hnd hown hro => ?_⟩
  subst hvs
  rw [V.eraseL_length] at hnt h
  have hg := entry_good (nt := fn.ntmps) hok hnd hown hro hnt
  rw [← entry_erase] at h
  refine calls_of_wp hf hb (wp_mono (awp_ok hE c hg h) fun e a w' hq => ?_)
  obtain ⟨σ, ro', hgood, hleave, hcells, us, σ1, vs1, hap, htake, hasm, hfree, outs, houts, hofree, hpost⟩ := hq
  have hslots : resSlots E fn σ.erase = eraseB (resSlots E fn σ) := by
    simp only [resSlots, eraseB, List.map_map]
    refine List.map_congr_left fun r _ => ?_
    cases r with
    | tmp t => rfl
    | cell x t =>
      have : (σ.erase.ld E t (σ.erase.slots x)) = (σ.ld E t (σ.slots x)).map S.erase := St.ld_erase E σ t (σ.slots x)
      simp only [this, Function.comp_apply]
      cases σ.ld E t (σ.slots x) <;> rfl
  have hcells' : cellsOk E fn σ = true := by
    rw [← hcells]
    simp only [cellsOk]
    congr 1
    funext r
    cases r with
    | tmp t => rfl
    | cell x t =>
      have : (σ.erase.ld E t (σ.erase.slots x)) = (σ.ld E t (σ.slots x)).map S.erase := St.ld_erase E σ t (σ.slots x)
      simp [this]
  obtain ⟨xs, hrun0, hrs⟩ := results_ok hE hgood hcells'
  rw [hslots, ownL_erase] at hap htake
  rw [apart_erase] at hap
  rw [hslots] at hasm
  obtain ⟨us', σ1', vs', rfl, rfl, rfl, hg1, hval, hokv, hblk⟩ := took_ok hgood hrs.1 hrs.2 hap htake hasm
  have hr1 : (V.one? vs').free = true := by rw [← V.free_erase, one_erase]; exact hfree
  have hrok := V.free_ok _ hr1 (one_ok vs' hokv)
  have hrun : (results fn a.tmps).run E.P w' = .ok (V.one? vs').value w' := by rw [one_value, hval]; exact hrun0
  let outs' := (List.range vs.length).map fun i => (σ1'.mem i).backed
  have hoe : V.eraseL outs' = outs := by
    rw [← houts, V.eraseL_map, List.map_map]
    refine List.map_congr_left fun i _ => ?_
    show (σ1'.mem i).backed.erase = (σ1'.erase.mem i).backed.erase
    rw [V.backed_erase]; rfl
  have hofree' : V.freeL outs' = true := by rw [← V.freeL_erase, hoe]; exact hofree
  have hook : V.OkL (fun _ => False) w' outs' := by
    refine V.freeL_ok _ hofree' (ro := ro') ?_
    rw [V.OkL_iff]
    intro x hx
    obtain ⟨i, _, rfl⟩ := List.mem_map.1 hx
    exact (V.backed_ok _ (hg1.mok i)).1
  have hbl := blksL_range (f := fun i => (σ1'.mem i).backed) (ms := fun i => (σ1'.mem i).blks) (fun i => (V.backed_ok _ (hg1.mok i)).2) (fun i => hg1.mnd i) (fun i j b hij hb => hg1.mdis i j b hij hb) vs.length
  have hrb : ∀ b ∈ (V.one? vs').blks, b ∈ V.blksL us' := fun b hb => by rwa [one_blks, hblk] at hb
  have hret : a.defers = [] ∧ ∃ v, (results fn a.tmps).run E.P w' = .ok v w' ∧ ∃ r outs, (Ending.returned v) = .returned r.value ∧ post r.erase (V.eraseL outs) ∧ After ro w w' vs r outs := by
    refine ⟨hgood.defs, _, hrun, V.one? vs', outs', rfl, ?_, ?_⟩
    · rw [hoe, one_erase]; exact hpost
    · refine ⟨hrok, hook, ?_, ?_, fun b hb => ?_, hg1.frame, hg1.size, hg1.os, hg1.tape, hg1.output⟩
      · refine List.ext_getElem (by simp [outs']) fun i h1 h2 => ?_
        simp only [outs', List.getElem_map, List.getElem_range, V.backed_value]
        have hi : i < vs.length := by simpa using h2
        have := hg1.pins i hi
        rw [this]
        simp [hi]
      · rw [List.nodup_append]
        refine ⟨?_, hbl.1, fun x hx y hy e => ?_⟩
        · rw [one_blks, hblk]; exact hg1.hnd
        · subst e
          obtain ⟨i, _, hb⟩ := hbl.2 x hy
          exact hg1.hdis i x hb (hrb x hx)
      · rcases List.mem_append.1 hb with k | k
        · have := hg1.hown b (hrb b k)
          rcases this.2.2 with l | l
          · exact .inl l
          · exact .inr ⟨l, this.2.1⟩
        · obtain ⟨i, _, hb⟩ := hbl.2 b k
          have := hg1.mown i b hb
          rcases this.2.2 with l | l
          · exact .inl l
          · exact .inr ⟨l, this.2.1⟩
  rcases hleave with rfl | rfl
  · exact hret
  · exact hret

end Go.E
namespace Go.E

/-! ### The table of types, out of the program -/
def TK.of (P : Program) (t : Nat) : Option TK := match P.underlying t with
  | some (.int k) => some (.int k)
  | some .bool => some .bool
  | some .string => some .string
  | some (.pointer _) => some .ptr
  | some (.func _ _ _) => some .func
  | some (.slice e) => some (.slice e)
  | some (.struct fs) => if fs.toList.all (fun f => (P.info? f.type).isSome) then some (.strct (fs.toList.map fun f => (f.offset, f.type))) else none
  | _ => none
def TI.of (P : Program) (t : Nat) : Option TI := match P.info? t, TK.of P t with
  | some j, some k => match j.zero with
    | some z => if z.cells.toList.length = j.size then some ⟨k, j.size, j.bytes, z.cells.toList⟩ else none
    | none => none
  | _, _ => none
theorem TK.of_fits {P : Program} {t : Nat} {k : TK} (h : TK.of P t = some k) : k.Fits P t := by
  unfold TK.of at h
  split at h
  · rename_i hu; simp only [Option.some.injEq] at h; subst h; exact hu
  · rename_i hu; simp only [Option.some.injEq] at h; subst h; exact hu
  · rename_i hu; simp only [Option.some.injEq] at h; subst h; exact hu
  · rename_i e hu; simp only [Option.some.injEq] at h; subst h; exact ⟨_, hu⟩
  · rename_i a b c hu; simp only [Option.some.injEq] at h; subst h; exact ⟨_, _, _, hu⟩
  · rename_i e hu; simp only [Option.some.injEq] at h; subst h; exact hu
  · rename_i fs hu
    split at h
    · rename_i hall
      simp only [Option.some.injEq] at h; subst h
      refine ⟨fs, hu, rfl, fun f hf => ?_⟩
      exact Option.isSome_iff_exists.1 (List.all_eq_true.1 hall f hf)
    · simp at h
  · simp at h
theorem TI.of_fits {P : Program} {t : Nat} {i : TI} (h : TI.of P t = some i) : i.Fits P t := by
  unfold TI.of at h
  split at h
  · rename_i j k hj hk
    split at h
    · rename_i z hz
      split at h
      · rename_i hl
        simp only [Option.some.injEq] at h; subst h
        exact ⟨⟨j, z, hj, rfl, rfl, hz, by simp⟩, hl, TK.of_fits hk⟩
      · simp at h
    · simp at h
  · simp at h
/-- A table of types that was read out of the program. -/
def tabOf (l : List (Nat × TI)) (t : Nat) : Option TI := (l.find? fun x => x.1 == t).map (·.2)
theorem Env.ok_of {P : Program} {l : List (Nat × TI)} (h : ∀ x ∈ l, TI.of P x.1 = some x.2) : Env.Ok ⟨P, tabOf l⟩ := by
  intro t i ht
  simp only [tabOf, Option.map_eq_some_iff] at ht
  obtain ⟨x, hx, rfl⟩ := ht
  have h1 := List.mem_of_find?_eq_some hx
  have h2 := List.find?_some hx
  simp only [beq_iff_eq] at h2
  rw [← h2]
  exact TI.of_fits (h x h1)

/-! ### Steps of the proof alone -/
/-- What is known of a slot may be forgotten. -/
def St.forget (σ : St) (f : Nat → Bool) : St := ⟨fun t => if f t then .junk else σ.slots t, σ.mem⟩
theorem ghost_forget {np : Nat} (σ : St) (f : Nat → Bool) : Ghost np σ (σ.forget f) := by
  intro C ρ ro a w _ h1 h2
  subst h1
  refine ⟨ρ.forget f, ro, ?_, { h2 with slots := fun t => ?_, inl := fun t => ?_ }⟩
  · simp only [St.forget, St.erase, St.mk.injEq, and_true]
    funext t; split <;> rfl
  · simp only [St.forget]
    split
    · exact .inl rfl
    · exact h2.slots t
  · simp only [St.forget]
    split
    · trivial
    · exact h2.inl t
mutual
def S.ren (d e : Nat) : S → S
  | .ref d' p => if d' = d then .ref e p else .ref d' p
  | .adr d' p k => if d' = d then .adr e p k else .adr d' p k
  | .agg ss => .agg (S.renL d e ss)
  | .tup ss => .tup (S.renL d e ss)
  | .fn f ss => .fn f (S.renL d e ss)
  | s => s
def S.renL (d e : Nat) : List S → List S
  | [] => []
  | s :: ss => S.ren d e s :: S.renL d e ss
end
/-- A tree gets another root. -/
def St.mv (σ : St) (d e : Nat) : St := ⟨fun t => ((σ.slots t).kill (at_ e [])).ren d e, upd (upd σ.mem e (σ.mem d)) d (.junk undef)⟩

mutual
theorem S.mv_rel {m m' : Nat → V} {d e : Nat} (hd : m' e = m d) (ho : ∀ c, c ≠ d → c ≠ e → m' c = m c) : ∀ (s : S) (x : Value), s.Rel m x → ((s.kill (at_ e [])).ren d e).Rel m' x
  | .v _, _, h => h
  | .radr .., _, h => h
  | .junk, _, _ => trivial
  | .ref c p, x, h => by
    by_cases h1 : c = e
    · subst h1; simp [S.kill, at_, S.ren, S.Rel]
    · have : at_ e [] c p = false := by simp [at_, h1]
      simp only [S.kill, this, Bool.false_eq_true, if_false, S.ren]
      obtain ⟨u, k1, k2, k3⟩ := h
      by_cases h2 : c = d
      · rw [if_pos h2]; subst h2; exact ⟨u, by rw [hd]; exact k1, k2, k3⟩
      · rw [if_neg h2]; exact ⟨u, by rw [ho c h2 h1]; exact k1, k2, k3⟩
  | .adr c p k, x, h => by
    by_cases h1 : c = e
    · subst h1; simp [S.kill, at_, S.ren, S.Rel]
    · have : at_ e [] c p = false := by simp [at_, h1]
      simp only [S.kill, this, Bool.false_eq_true, if_false, S.ren]
      obtain ⟨u, a, k1, k2, k3, k4⟩ := h
      by_cases h2 : c = d
      · rw [if_pos h2]; subst h2; exact ⟨u, a, by rw [hd]; exact k1, k2, k3, k4⟩
      · rw [if_neg h2]; exact ⟨u, a, by rw [ho c h2 h1]; exact k1, k2, k3, k4⟩
  | .agg ss, x, h => by
    obtain ⟨xs, rfl, h⟩ := h
    exact ⟨xs, rfl, S.mv_relL hd ho ss xs h⟩
  | .tup ss, x, h => by
    obtain ⟨xs, rfl, h⟩ := h
    exact ⟨xs, rfl, S.mv_relL hd ho ss xs h⟩
  | .fn f ss, x, h => by
    obtain ⟨xs, rfl, h⟩ := h
    exact ⟨xs, rfl, S.mv_relL hd ho ss xs h⟩
theorem S.mv_relL {m m' : Nat → V} {d e : Nat} (hd : m' e = m d) (ho : ∀ c, c ≠ d → c ≠ e → m' c = m c) : ∀ (ss : List S) (xs : List Value), S.RelL m ss xs → S.RelL m' (S.renL d e (S.killL (at_ e []) ss)) xs
  | [], _, h => h
  | s :: ss, xs, h => by
    obtain ⟨x, xs', rfl, h1, h2⟩ := h
    exact ⟨x, xs', rfl, S.mv_rel hd ho s x h1, S.mv_relL hd ho ss xs' h2⟩
end
mutual
theorem S.mv_inl {ro : Nat → Prop} {w : World} {d e : Nat} : ∀ (s : S), s.Inl ro w → (s.ren d e).Inl ro w
  | .v _, h => h
  | .radr .., h => h
  | .junk, _ => trivial
  | .ref c p, _ => by simp only [S.ren]; split <;> trivial
  | .adr c p k, _ => by simp only [S.ren]; split <;> trivial
  | .agg ss, h => S.mv_inlL ss h
  | .tup ss, h => S.mv_inlL ss h
  | .fn _ ss, h => S.mv_inlL ss h
theorem S.mv_inlL {ro : Nat → Prop} {w : World} {d e : Nat} : ∀ (ss : List S), S.InlL ro w ss → S.InlL ro w (S.renL d e ss)
  | [], _ => trivial
  | s :: ss, h => ⟨S.mv_inl s h.1, S.mv_inlL ss h.2⟩
end
mutual
theorem S.ren_erase (d e : Nat) : ∀ (s : S), (s.ren d e).erase = s.erase.ren d e
  | .v _ => rfl
  | .radr .. => rfl
  | .junk => rfl
  | .ref c p => by simp only [S.ren, S.erase]; split <;> rfl
  | .adr c p k => by simp only [S.ren, S.erase]; split <;> rfl
  | .agg ss => by simp only [S.ren, S.erase, S.renL_erase d e ss]
  | .tup ss => by simp only [S.ren, S.erase, S.renL_erase d e ss]
  | .fn _ ss => by simp only [S.ren, S.erase, S.renL_erase d e ss]
theorem S.renL_erase (d e : Nat) : ∀ (ss : List S), S.eraseL (S.renL d e ss) = S.renL d e (S.eraseL ss)
  | [] => rfl
  | s :: ss => by simp only [S.renL, S.eraseL, S.ren_erase d e s, S.renL_erase d e ss]
end
theorem ghost_mv {np : Nat} (σ : St) {d e : Nat} (he : np ≤ e) (hne : d ≠ e) : Ghost np σ (σ.mv d e) := by
  intro C ρ ro a w hnp h1 h2
  subst h1; subst hnp
  have ht := h2.take (d := d) (p := []) (u := ρ.mem d) rfl
  have hr := ht.root he
  refine ⟨⟨fun t => ((ρ.slots t).kill (at_ e [])).ren d e, upd (upd ρ.mem d (.junk (ρ.mem d).value)) e (ρ.mem d)⟩, ro, ?_, { hr with slots := fun t => ?_, inl := fun t => ?_ }⟩
  · simp only [St.mv, St.erase, St.mk.injEq]
    constructor
    · funext t; rw [S.ren_erase, S.kill_erase]
    · funext c
      by_cases h1 : c = d
      · subst h1; rw [upd_ne _ _ hne, upd_same, upd_same]; rfl
      · by_cases h3 : c = e
        · subst h3; simp [upd_ne _ _ h1, upd_same]
        · simp [upd_ne _ _ h3, upd_ne _ _ h1]
  · rcases h2.slots t with k | ⟨x, k1, k2⟩
    · exact .inl (by simp [k, S.kill, S.ren])
    · refine .inr ⟨x, k1, S.mv_rel (m := ρ.mem) ?_ ?_ _ _ k2⟩
      · simp [upd_same]
      · intro c h1 h3; simp [upd_ne _ _ h3, upd_ne _ _ h1]
  · exact S.mv_inl _ (S.Inl.kill _ _ (h2.inl t))
/-- A nil slice in a slot, from now on a slice of its own. -/
def St.ownNil (σ : St) (t e sz : Nat) : St := ⟨fun t' => if t' = t then .ref e [] else (σ.slots t').kill (at_ e []), upd σ.mem e (.sl .z true sz 0 [])⟩
theorem ghost_ownNil {np : Nat} (σ : St) {t e : Nat} (sz : Nat) (he : np ≤ e) (hs : σ.slots t = .v (.val (.slice none 0 0))) : Ghost np σ (σ.ownNil t e sz) := by
  intro C ρ ro a w hnp h1 h2
  subst h1; subst hnp
  have hs' : ρ.slots t = .v (.val (.slice none 0 0)) := S.erase_val hs
  have hm : Good C ρ ([.sl .z true sz 0 []] ++ []) ro a w := h2.more ⟨by simp [V.Ok, Gh.z, OwnAt, V.OkL], trivial⟩ (by simp [V.blksL, V.blks, Gh.blk, Gh.z])
  have hr := hm.root he
  refine ⟨ρ.ownNil t e sz, ro, ?_, { hr with slots := fun t' => ?_, inl := fun t' => ?_ }⟩
  · simp only [St.ownNil, St.erase, St.mk.injEq]
    constructor
    · funext t'; split
      · rfl
      · exact S.kill_erase _ _
    · funext c
      by_cases h3 : c = e
      · subst h3; simp [upd_same, V.erase, V.eraseL]
      · simp [upd_ne _ _ h3]
  · simp only [St.ownNil]
    by_cases h3 : t' = t
    · subst h3
      rw [if_pos rfl]
      rcases h2.slots t' with k | ⟨x, k1, k2⟩
      · rw [hs'] at k; simp at k
      · rw [hs'] at k2
        simp only [S.Rel, V.value] at k2
        exact .inr ⟨x, k1, .sl .z true sz 0 [], by simp [upd_same, V.get], rfl, by rw [k2]; rfl⟩
    · rw [if_neg h3]
      have := hr.slots t'
      simpa [St.setMem, St.kill] using this
  · simp only [St.ownNil]
    by_cases h3 : t' = t
    · rw [if_pos h3]; trivial
    · rw [if_neg h3]; exact S.Inl.kill _ _ (h2.inl t')

end Go.E
namespace Go.E

/-! ### States written out -/
def look (l : List (Nat × S)) (t : Nat) : S := ((l.find? fun x => x.1 == t).map (·.2)).getD .junk
def lookM (l : List (Nat × V)) (d : Nat) : V := ((l.find? fun x => x.1 == d).map (·.2)).getD (.junk undef)
/-- These slots, these roots; nothing is known of any other. -/
def mkSt (ss : List (Nat × S)) (ms : List (Nat × V)) : St := ⟨look ss, lookM ms⟩
mutual
def S.rootsIn (ks : List Nat) : S → Bool
  | .ref d _ => ks.contains d
  | .adr d _ _ => ks.contains d
  | .agg ss => S.rootsInL ks ss
  | .tup ss => S.rootsInL ks ss
  | .fn _ ss => S.rootsInL ks ss
  | _ => true
def S.rootsInL (ks : List Nat) : List S → Bool
  | [] => true
  | s :: ss => s.rootsIn ks && S.rootsInL ks ss
end
mutual
theorem S.rootsIn_erase (ks : List Nat) : ∀ (s : S), s.erase.rootsIn ks = s.rootsIn ks
  | .v _ => rfl
  | .radr .. => rfl
  | .junk => rfl
  | .ref .. => rfl
  | .adr .. => rfl
  | .agg ss => by simp only [S.erase, S.rootsIn, S.rootsInL_erase ks ss]
  | .tup ss => by simp only [S.erase, S.rootsIn, S.rootsInL_erase ks ss]
  | .fn _ ss => by simp only [S.erase, S.rootsIn, S.rootsInL_erase ks ss]
theorem S.rootsInL_erase (ks : List Nat) : ∀ (ss : List S), S.rootsInL ks (S.eraseL ss) = S.rootsInL ks ss
  | [] => rfl
  | s :: ss => by simp only [S.eraseL, S.rootsInL, S.rootsIn_erase ks s, S.rootsInL_erase ks ss]
end
mutual
theorem S.Rel.roots {m m' : Nat → V} {ks : List Nat} (hm : ∀ d ∈ ks, m' d = m d) : ∀ (s : S) (x : Value), s.rootsIn ks = true → s.Rel m x → s.Rel m' x
  | .v _, _, _, h => h
  | .radr .., _, _, h => h
  | .junk, _, _, _ => trivial
  | .ref d p, x, hr, h => by
    simp only [S.rootsIn, List.contains_iff_mem] at hr
    simp only [S.Rel, hm d hr]; exact h
  | .adr d p k, x, hr, h => by
    simp only [S.rootsIn, List.contains_iff_mem] at hr
    simp only [S.Rel, hm d hr]; exact h
  | .agg ss, x, hr, h => by
    obtain ⟨xs, rfl, h⟩ := h
    exact ⟨xs, rfl, S.RelL.roots hm ss xs hr h⟩
  | .tup ss, x, hr, h => by
    obtain ⟨xs, rfl, h⟩ := h
    exact ⟨xs, rfl, S.RelL.roots hm ss xs hr h⟩
  | .fn f ss, x, hr, h => by
    obtain ⟨xs, rfl, h⟩ := h
    exact ⟨xs, rfl, S.RelL.roots hm ss xs hr h⟩
theorem S.RelL.roots {m m' : Nat → V} {ks : List Nat} (hm : ∀ d ∈ ks, m' d = m d) : ∀ (ss : List S) (xs : List Value), S.rootsInL ks ss = true → S.RelL m ss xs → S.RelL m' ss xs
  | [], _, _, h => h
  | s :: ss, xs, hr, h => by
    simp only [S.rootsInL, Bool.and_eq_true] at hr
    obtain ⟨x, xs', rfl, h1, h2⟩ := h
    exact ⟨x, xs', rfl, S.Rel.roots hm s x hr.1 h1, S.RelL.roots hm ss xs' hr.2 h2⟩
end
/-- A state may be replaced by one that tells less. -/
theorem ghost_to {np : Nat} {σ : St} (ss : List (Nat × S)) (ms : List (Nat × V)) (h1 : ∀ x ∈ ss, σ.slots x.1 = x.2) (h2 : ∀ x ∈ ms, σ.mem x.1 = x.2) (h3 : ∀ x ∈ ss, x.2.rootsIn (ms.map Prod.fst) = true) :
    Ghost np σ (mkSt ss ms) := by
  intro C ρ ro a w hnp e h
  subst e; subst hnp
  have hfind : ∀ t x, ss.find? (fun x => x.1 == t) = some x → x ∈ ss ∧ x.1 = t := fun t x hx => ⟨List.mem_of_find?_eq_some hx, by simpa using List.find?_some hx⟩
  have hfindm : ∀ t x, ms.find? (fun x => x.1 == t) = some x → x ∈ ms ∧ x.1 = t := fun t x hx => ⟨List.mem_of_find?_eq_some hx, by simpa using List.find?_some hx⟩
  have hblk : ∀ d b, b ∈ (if (ms.find? fun x => x.1 == d).isSome then ρ.mem d else .junk (ρ.mem d).value).blks → b ∈ (ρ.mem d).blks := fun d b hb => by
    split at hb
    · exact hb
    · simp [V.blks] at hb
  refine ⟨⟨fun t => if (ss.find? fun x => x.1 == t).isSome then ρ.slots t else .junk, fun d => if (ms.find? fun x => x.1 == d).isSome then ρ.mem d else .junk (ρ.mem d).value⟩, ro, ?_,
    { h with slots := fun t => ?_, inl := fun t => ?_, mok := fun d => ?_, mnd := fun d => ?_, mdis := fun d e b hde hb hb' => h.mdis d e b hde (hblk d b hb) (hblk e b hb'), hdis := fun d b hb => h.hdis d b (hblk d b hb), mown := fun d b hb => h.mown d b (hblk d b hb), pins := fun i hi => ?_ }⟩
  · simp only [mkSt, St.erase, St.mk.injEq]
    constructor
    · funext t
      simp only [look]
      cases hf : ss.find? (fun x => x.1 == t) with
      | none => rfl
      | some x =>
        obtain ⟨k1, k2⟩ := hfind t x hf
        have := h1 x k1
        rw [k2] at this
        simpa [St.erase] using this
    · funext d
      simp only [lookM]
      cases hf : ms.find? (fun x => x.1 == d) with
      | none => rfl
      | some x =>
        obtain ⟨k1, k2⟩ := hfindm d x hf
        have := h2 x k1
        rw [k2] at this
        simpa [St.erase] using this
  · cases hf : ss.find? (fun x => x.1 == t) with
    | none => exact .inl (by simp [hf])
    | some x =>
      simp only [hf, Option.isSome_some, if_true]
      obtain ⟨k1, k2⟩ := hfind t x hf
      rcases h.slots t with k | ⟨v, l1, l2⟩
      · exact .inl k
      · refine .inr ⟨v, l1, S.Rel.roots (ks := ms.map Prod.fst) (fun d hd => ?_) _ _ ?_ l2⟩
        · obtain ⟨y, hy, rfl⟩ := List.mem_map.1 hd
          have : (ms.find? fun x => x.1 == y.1).isSome = true := by
            rw [List.find?_isSome]
            exact ⟨y, hy, by simp⟩
          simp [this]
        · rw [← S.rootsIn_erase]
          have := h1 x k1
          rw [k2] at this
          have h4 : (ρ.slots t).erase = x.2 := this
          rw [h4]; exact h3 x k1
  · simp only
    split
    · exact h.inl t
    · trivial
  · simp only
    split
    · exact h.mok d
    · simp [V.Ok]
  · simp only
    split
    · exact h.mnd d
    · simp [V.blks]
  · simp only
    split
    · exact h.pins i hi
    · simp only [V.value]; exact h.pins i hi

end Go.E
namespace Go.E

/-! ### Stepping -/
section
variable {E : Env} {np nt : Nat} {ops : Array Oper} {Q : Exit → St → Prop} {i : Nat} {rest : List Nat} {ss : List (Nat × S)} {ms : List (Nat × V)} {σ : St} {o : Oper} {d : Nat} {s : S}
theorem mkSt_put : (mkSt ss ms).put d s = mkSt ((d, s) :: ss) ms := by
  simp only [mkSt, St.put, St.mk.injEq, and_true]
  funext t
  simp only [upd, look, List.find?_cons]
  by_cases h : t = d
  · subst h; simp
  · have : (d == t) = false := by simpa using fun k => h k.symm
    simp [h, this]
/-- Operations that only fill their slot. -/
def plain : Op → Bool
  | .alloc _ => false
  | .box _ _ => false
  | .buildSlice .. => false
  | .makeSlice .. => false
  | .store .. => false
  | .slice .. => false
  | .call c => match c.callee with
    | .builtin .append => false
    | .builtin _ => true
    | _ => false
  | _ => true
theorem wstep_plain (h : plain o.op = true) (K : St → Prop) : calcK E nt o σ K → wstep E np nt o σ K := by
  intro k
  unfold wstep
  split
  · rename_i c ho
    rw [ho] at h
    split
    · rename_i x hx; simp [plain, hx] at h
    · unfold wop
      rw [ho]
      simp only
      split
      · rename_i hx''; simp [plain, hx''] at h
      · exact k
  · unfold wop
    split <;> rename_i ho <;> first | (rw [ho] at h; simp [plain] at h; done) | exact k | skip
    rename_i hno _ _; exact absurd ho (hno _)
/-- An operation that fills its slot. -/
theorem r_calc (ho : ops[i]? = some o) (hg : o.guard = none) (hp : plain o.op = true) (hd : o.dst = some d) (hlt : d < nt) (hs : (mkSt ss ms).calc E o.op = some s) (k : wops E np nt ops Q rest (mkSt ((d, s) :: ss) ms)) :
    wops E np nt ops Q (i :: rest) (mkSt ss ms) := by
  simp only [wops, ho, hg]
  refine wstep_plain hp _ ?_
  unfold calcK
  rw [hd]
  exact ⟨hlt, s, hs, by rw [mkSt_put]; exact k⟩
theorem r_yes {j t : Nat} {b : Bool} (ho : ops[i]? = some o) (hg : o.guard = some (j, b)) (hj : (ops[j]?).bind (·.dst) = some t) (hp : plain o.op = true) (hd : o.dst = some d) (hlt : d < nt) (hy : (look ss t).yield = some (some b)) (hs : (mkSt ss ms).calc E o.op = some s) (k : wops E np nt ops Q rest (mkSt ((d, s) :: ss) ms)) :
    wops E np nt ops Q (i :: rest) (mkSt ss ms) := by
  simp only [wops, ho, hg, hj, hd]
  refine ⟨hlt, some b, hy, fun _ => wstep_plain hp _ ?_, fun h => absurd rfl h⟩
  unfold calcK
  rw [hd]
  exact ⟨hlt, s, hs, by rw [mkSt_put]; exact k⟩
theorem r_no {j t : Nat} {b : Bool} {y : Option Bool} (ho : ops[i]? = some o) (hg : o.guard = some (j, b)) (hj : (ops[j]?).bind (·.dst) = some t) (hd : o.dst = some d) (hlt : d < nt) (hy : (look ss t).yield = some y) (hn : y ≠ some b) (k : wops E np nt ops Q rest (mkSt ((d, .v (.val undef)) :: ss) ms)) :
    wops E np nt ops Q (i :: rest) (mkSt ss ms) := by
  simp only [wops, ho, hg, hj, hd]
  refine ⟨hlt, y, hy, fun h => absurd h hn, fun _ => ?_⟩
  simp only [St.skip, mkSt_put]
  exact k
end

end Go.E
namespace Go.E

/-! ### Control -/
section
variable {E : Env} {np nt : Nat} {Q : Exit → St → Prop} {σ : St}
theorem a_seq {x y : Code} (h : ∀ K : St → Prop, (∀ σ' τ, Ghost np σ' τ → awp E np nt y Q τ → K σ') → awp E np nt x (thenE K Q) σ) : awp E np nt (.seq x y) Q σ := h _ fun _ τ h1 h2 => ⟨τ, h1, h2⟩
theorem a_region {id : Nat} {ops : Array Oper} {l : List Nat} (hl : List.range ops.size = l) (h : ∀ K : Exit → St → Prop, K .normal = Q .normal → wops E np nt ops K l σ) : awp E np nt (.region id ops false) Q σ := by
  subst hl; exact h Q rfl
theorem a_cond {c : Operand} {x y : Code} {t : Bool} (ht : (σ.ev c).bool? = some t) (h1 : t = true → awp E np nt x Q σ) (h2 : t = false → awp E np nt y Q σ) : awp E np nt (.cond c x y) Q σ := ⟨t, ht, h1, h2⟩
theorem a_block {id : Nat} {c : Code} (h : ∀ K : Exit → St → Prop, (∀ e τ, inBlockE id Q e τ → K e τ) → awp E np nt c K σ) : awp E np nt (.block id c) Q σ := h _ fun _ _ h => h
theorem a_loop {c : Code} (I : Nat → St → Prop) {n : Nat} {τ : St} (h0 : Ghost np σ τ) (h1 : I n τ)
    (h : ∀ n σ, I n σ → ∀ K : St → Prop, (∀ σ' n' τ, n' < n → Ghost np σ' τ → I n' τ → K σ') → awp E np nt c (thenE K Q) σ) : awp E np nt (.loop c) Q σ :=
  ⟨I, ⟨n, τ, h0, h1⟩, fun n σ hI => h n σ hI _ fun _ n' τ k1 k2 k3 => ⟨n', k1, τ, k2, k3⟩⟩
theorem in_exit {id : Nat} (h : Q .normal σ) : inBlockE id Q (.exit id) σ := by simpa [inBlockE] using h
theorem in_other {id id' : Nat} (hne : id' ≠ id) (h : Q (.exit id') σ) : inBlockE id Q (.exit id') σ := by simpa [inBlockE, hne] using h
theorem in_ret {id : Nat} (h : Q .ret σ) : inBlockE id Q .ret σ := h
theorem then_ret {N : St → Prop} (h : Q .ret σ) : thenE N Q .ret σ := h
theorem then_exit {N : St → Prop} {id : Nat} (h : Q (.exit id) σ) : thenE N Q (.exit id) σ := h
theorem r_nil {ops : Array Oper} {K : Exit → St → Prop} (hK : K .normal = Q .normal) (h : Q .normal σ) : wops E np nt ops K [] σ := by
  show K .normal σ
  rw [hK]; exact h
theorem entry_mk (args : List V) : entry args = mkSt ((args.zipIdx).map fun x => (x.2, viewR x.2 x.1)) ((args.zipIdx).map fun x => (x.2, x.1)) := by
  have key : ∀ (args : List V) (k t : Nat), ((args.zipIdx k).find? fun x => x.2 == t) = (args[t - k]?).bind fun u => if k ≤ t then some (u, t) else none := by
    intro args
    induction args with
    | nil => intro k t; rfl
    | cons u args ih =>
      intro k t
      simp only [List.zipIdx_cons, List.find?_cons]
      by_cases h : k = t
      · subst h; simp
      · have hb : (k == t) = false := by simpa using h
        rw [hb, ih]
        by_cases h2 : k < t
        · have e : t - k = (t - (k + 1)) + 1 := by omega
          rw [e, List.getElem?_cons_succ]
          have h3 : k + 1 ≤ t := h2
          have h4 : k ≤ t := by omega
          simp [h3, h4]
        · have h3 : ¬ k + 1 ≤ t := by omega
          have h4 : ¬ k ≤ t := by omega
          simp [h3, h4]
  simp only [entry, mkSt, St.mk.injEq]
  constructor
  · funext t
    simp only [look, List.find?_map, Function.comp_def, key args 0 t]
    cases args[t]? <;> simp
  · funext t
    simp only [lookM, List.find?_map, Function.comp_def, key args 0 t]
    cases args[t]? <;> simp
end

end Go.E
namespace Go.E

/-! ### Stepping, operation by operation -/
section
variable {E : Env} {np nt : Nat} {ops : Array Oper} {Q : Exit → St → Prop} {i : Nat} {rest : List Nat} {ss : List (Nat × S)} {ms : List (Nat × V)} {d : Nat} {s sx sy : S}
theorem ev_t {t : Nat} (h : ss.find? (fun x => x.1 == t) = some (t, s)) : (mkSt ss ms).ev (.tmp t) = s := by simp [mkSt, St.ev, look, h]
theorem ev_c {v : Value} : (mkSt ss ms).ev (.const v) = .v (.val v) := rfl
theorem ev_f {f : FuncId} : (mkSt ss ms).ev (.func f) = .fn f [] := rfl
/-- What a step asks: an operation without a guard, or one whose guard is open. -/
def Open (ops : Array Oper) (ss : List (Nat × S)) (o : Oper) : Prop := o.guard = none ∨ ∃ j b t, o.guard = some (j, b) ∧ (ops[j]?).bind (·.dst) = some t ∧ (look ss t).yield = some (some b)
theorem open_none {o : Oper} (h : o.guard = none) : Open ops ss o := .inl h
theorem open_some {o : Oper} {j t : Nat} {b : Bool} (h1 : o.guard = some (j, b)) (h2 : (ops[j]?).bind (·.dst) = some t) (h3 : ss.find? (fun x => x.1 == t) = some (t, .v (.val (.bool b)))) : Open ops ss o :=
  .inr ⟨j, b, t, h1, h2, by simp [look, h3, S.yield]⟩
theorem step_of {o : Oper} (ho : ops[i]? = some o) (hop : Open ops ss o) (hlt : ∀ d, o.dst = some d → d < nt) (h : wstep E np nt o (mkSt ss ms) (wops E np nt ops Q rest)) : wops E np nt ops Q (i :: rest) (mkSt ss ms) := by
  rcases hop with hg | ⟨j, b, t, hg, hj, hy⟩
  · simp only [wops, ho, hg]; exact h
  · simp only [wops, ho, hg, hj]
    cases hd : o.dst with
    | none => exact ⟨some b, hy, fun _ => h, fun k => absurd rfl k⟩
    | some d => exact ⟨hlt d hd, some b, hy, fun _ => h, fun k => absurd rfl k⟩
theorem calc_of {op : Op} {ty : TypeId} {pos : String} {af : Array Edge} {gu : Option (Nat × Bool)} (ho : ops[i]? = some ⟨some d, op, ty, pos, af, gu⟩) (hop : Open ops ss ⟨some d, op, ty, pos, af, gu⟩) (hp : plain op = true) (hlt : d < nt)
    (hs : (mkSt ss ms).calc E op = some s) (k : wops E np nt ops Q rest (mkSt ((d, s) :: ss) ms)) : wops E np nt ops Q (i :: rest) (mkSt ss ms) := by
  refine step_of ho hop (fun d' h => by simp at h; subst h; exact hlt) ?_
  refine wstep_plain hp _ ?_
  exact ⟨hlt, s, hs, by rw [mkSt_put]; exact k⟩
variable {ty : TypeId} {pos : String} {af : Array Edge} {gu : Option (Nat × Bool)} {x y : Operand}
theorem x_move  (k : wops E np nt ops Q rest (mkSt ((d, sx) :: ss) ms))
    (ho : ops[i]? = some ⟨some d, .move x, ty, pos, af, gu⟩ := by rfl) (hop : Open ops ss ⟨some d, .move x, ty, pos, af, gu⟩ := by first | exact open_none rfl | exact open_some rfl rfl rfl) (hlt : d < nt := by decide) (hx : (mkSt ss ms).ev x = sx := by first | exact ev_t rfl | exact ev_c | exact ev_f) :
    wops E np nt ops Q (i :: rest) (mkSt ss ms) := calc_of ho hop rfl hlt (by simp only [St.calc, hx]) k
theorem x_assign  (k : wops E np nt ops Q rest (mkSt ((d, sx) :: ss) ms))
    (ho : ops[i]? = some ⟨some d, .assign x, ty, pos, af, gu⟩ := by rfl) (hop : Open ops ss ⟨some d, .assign x, ty, pos, af, gu⟩ := by first | exact open_none rfl | exact open_some rfl rfl rfl) (hlt : d < nt := by decide) (hx : (mkSt ss ms).ev x = sx := by first | exact ev_t rfl | exact ev_c | exact ev_f) :
    wops E np nt ops Q (i :: rest) (mkSt ss ms) := calc_of ho hop rfl hlt (by simp only [St.calc, hx]) k
theorem x_bin {op : BinOp} {t t' : TypeId} (k : wops E np nt ops Q rest (mkSt ((d, s) :: ss) ms))
    (ho : ops[i]? = some ⟨some d, .binOp op t x y t', ty, pos, af, gu⟩ := by rfl) (hop : Open ops ss ⟨some d, .binOp op t x y t', ty, pos, af, gu⟩ := by first | exact open_none rfl | exact open_some rfl rfl rfl) (hlt : d < nt := by decide) (hx : (mkSt ss ms).ev x = sx := by first | exact ev_t rfl | exact ev_c | exact ev_f) (hy : (mkSt ss ms).ev y = sy := by first | exact ev_t rfl | exact ev_c | exact ev_f) (hs : (mkSt ss ms).bin E op t sx sy = some s := by rfl) :
    wops E np nt ops Q (i :: rest) (mkSt ss ms) := calc_of ho hop rfl hlt (by simp only [St.calc, hx, hy, hs]) k
theorem x_un {op : UnOp} {t : TypeId} (k : wops E np nt ops Q rest (mkSt ((d, s) :: ss) ms))
    (ho : ops[i]? = some ⟨some d, .unOp op t x, ty, pos, af, gu⟩ := by rfl) (hop : Open ops ss ⟨some d, .unOp op t x, ty, pos, af, gu⟩ := by first | exact open_none rfl | exact open_some rfl rfl rfl) (hlt : d < nt := by decide) (hx : (mkSt ss ms).ev x = sx := by first | exact ev_t rfl | exact ev_c | exact ev_f) (hs : un op sx = some s := by rfl) :
    wops E np nt ops Q (i :: rest) (mkSt ss ms) := calc_of ho hop rfl hlt (by simp only [St.calc, hx, hs]) k
theorem x_pickT {c : Operand} (k : wops E np nt ops Q rest (mkSt ((d, sx) :: ss) ms))
    (ho : ops[i]? = some ⟨some d, .pick c x y, ty, pos, af, gu⟩ := by rfl) (hop : Open ops ss ⟨some d, .pick c x y, ty, pos, af, gu⟩ := by first | exact open_none rfl | exact open_some rfl rfl rfl) (hlt : d < nt := by decide) (hc : (mkSt ss ms).ev c = .v (.val (.bool true)) := by first | exact ev_t rfl | exact ev_c | exact ev_f) (hx : (mkSt ss ms).ev x = sx := by first | exact ev_t rfl | exact ev_c | exact ev_f) :
    wops E np nt ops Q (i :: rest) (mkSt ss ms) := calc_of ho hop rfl hlt (by simp [St.calc, hc, S.bool?, hx]) k
theorem x_pickF {c : Operand} (k : wops E np nt ops Q rest (mkSt ((d, sy) :: ss) ms))
    (ho : ops[i]? = some ⟨some d, .pick c x y, ty, pos, af, gu⟩ := by rfl) (hop : Open ops ss ⟨some d, .pick c x y, ty, pos, af, gu⟩ := by first | exact open_none rfl | exact open_some rfl rfl rfl) (hlt : d < nt := by decide) (hc : (mkSt ss ms).ev c = .v (.val (.bool false)) := by first | exact ev_t rfl | exact ev_c | exact ev_f) (hy : (mkSt ss ms).ev y = sy := by first | exact ev_t rfl | exact ev_c | exact ev_f) :
    wops E np nt ops Q (i :: rest) (mkSt ss ms) := calc_of ho hop rfl hlt (by simp [St.calc, hc, S.bool?, hy]) k
theorem x_len {t : TypeId} (k : wops E np nt ops Q rest (mkSt ((d, s) :: ss) ms))
    (ho : ops[i]? = some ⟨some d, .call ⟨.builtin .len, #[x], #[t]⟩, ty, pos, af, gu⟩ := by rfl) (hop : Open ops ss ⟨some d, .call ⟨.builtin .len, #[x], #[t]⟩, ty, pos, af, gu⟩ := by first | exact open_none rfl | exact open_some rfl rfl rfl) (hlt : d < nt := by decide) (hx : (mkSt ss ms).ev x = sx := by first | exact ev_t rfl | exact ev_c | exact ev_f) (hs : bi E (mkSt ss ms) .len [t] [sx] = some s := by rfl) :
    wops E np nt ops Q (i :: rest) (mkSt ss ms) := calc_of ho hop rfl hlt (by simp only [St.calc, List.map_cons, List.map_nil, hx, hs]) k
theorem x_minmax {b : Builtin} {ts : Array TypeId} (k : wops E np nt ops Q rest (mkSt ((d, s) :: ss) ms))
    (ho : ops[i]? = some ⟨some d, .call ⟨.builtin b, #[x, y], ts⟩, ty, pos, af, gu⟩ := by rfl) (hop : Open ops ss ⟨some d, .call ⟨.builtin b, #[x, y], ts⟩, ty, pos, af, gu⟩ := by first | exact open_none rfl | exact open_some rfl rfl rfl) (hlt : d < nt := by decide) (hx : (mkSt ss ms).ev x = sx := by first | exact ev_t rfl | exact ev_c | exact ev_f) (hy : (mkSt ss ms).ev y = sy := by first | exact ev_t rfl | exact ev_c | exact ev_f) (hb : plain (.call ⟨.builtin b, #[x, y], ts⟩) = true := by rfl) (hs : bi E (mkSt ss ms) b ts.toList [sx, sy] = some s := by rfl) :
    wops E np nt ops Q (i :: rest) (mkSt ss ms) := calc_of ho hop hb hlt (by simp only [St.calc, List.map_cons, List.map_nil, hx, hy, hs]) k
theorem x_index {t : TypeId} {b : ByteArray} {kd : IntKind} {n : Int} (hn : 0 ≤ n ∧ n < b.size) (k : wops E np nt ops Q rest (mkSt ((d, .v (.val (.int .u8 ((b.data.getD n.toNat 0).toNat : Int)))) :: ss) ms))
    (ho : ops[i]? = some ⟨some d, .index t x y, ty, pos, af, gu⟩ := by rfl) (hop : Open ops ss ⟨some d, .index t x y, ty, pos, af, gu⟩ := by first | exact open_none rfl | exact open_some rfl rfl rfl) (hlt : d < nt := by decide) (hx : (mkSt ss ms).ev x = .v (.val (.string b)) := by first | exact ev_t rfl | exact ev_c | exact ev_f) (hy : (mkSt ss ms).ev y = .v (.val (.int kd n)) := by first | exact ev_t rfl | exact ev_c | exact ev_f) (ht : (E.tt t).map (·.kind) = some .string := by rfl) :
    wops E np nt ops Q (i :: rest) (mkSt ss ms) := calc_of ho hop rfl hlt (by
      obtain ⟨ti, h1, h2⟩ := Option.map_eq_some_iff.1 ht
      simp only [St.calc, h1, h2, hx, hy, byteAt, S.str?, S.int?, hn, and_self, if_true]) k
theorem x_extract {n : Nat} (k : wops E np nt ops Q rest (mkSt ((d, s) :: ss) ms))
    (ho : ops[i]? = some ⟨some d, .extract x n, ty, pos, af, gu⟩ := by rfl) (hop : Open ops ss ⟨some d, .extract x n, ty, pos, af, gu⟩ := by first | exact open_none rfl | exact open_some rfl rfl rfl) (hlt : d < nt := by decide) (hx : (mkSt ss ms).ev x = sx := by first | exact ev_t rfl | exact ev_c | exact ev_f) (hs : sx.comp n = some s := by rfl) :
    wops E np nt ops Q (i :: rest) (mkSt ss ms) := calc_of ho hop rfl hlt (by simp only [St.calc, hx, hs]) k
theorem x_conv {a b : TypeId} (k : wops E np nt ops Q rest (mkSt ((d, s) :: ss) ms))
    (ho : ops[i]? = some ⟨some d, .convert a b x, ty, pos, af, gu⟩ := by rfl) (hop : Open ops ss ⟨some d, .convert a b x, ty, pos, af, gu⟩ := by first | exact open_none rfl | exact open_some rfl rfl rfl) (hlt : d < nt := by decide) (hx : (mkSt ss ms).ev x = sx := by first | exact ev_t rfl | exact ev_c | exact ev_f) (hs : conv E (mkSt ss ms) a b sx = some s := by rfl) :
    wops E np nt ops Q (i :: rest) (mkSt ss ms) := calc_of ho hop rfl hlt (by simp only [St.calc, hx, hs]) k
theorem x_field {t : TypeId} {n : Nat} (k : wops E np nt ops Q rest (mkSt ((d, s) :: ss) ms))
    (ho : ops[i]? = some ⟨some d, .field t x n, ty, pos, af, gu⟩ := by rfl) (hop : Open ops ss ⟨some d, .field t x n, ty, pos, af, gu⟩ := by first | exact open_none rfl | exact open_some rfl rfl rfl) (hlt : d < nt := by decide) (hx : (mkSt ss ms).ev x = sx := by first | exact ev_t rfl | exact ev_c | exact ev_f) (hs : partOf E t n sx = some s := by rfl) :
    wops E np nt ops Q (i :: rest) (mkSt ss ms) := calc_of ho hop rfl hlt (by simp only [St.calc, hx, hs]) k
theorem x_fieldAddr {t : TypeId} {n : Nat} (k : wops E np nt ops Q rest (mkSt ((d, s) :: ss) ms))
    (ho : ops[i]? = some ⟨some d, .fieldAddr t x n, ty, pos, af, gu⟩ := by rfl) (hop : Open ops ss ⟨some d, .fieldAddr t x n, ty, pos, af, gu⟩ := by first | exact open_none rfl | exact open_some rfl rfl rfl) (hlt : d < nt := by decide) (hx : (mkSt ss ms).ev x = sx := by first | exact ev_t rfl | exact ev_c | exact ev_f) (hs : (mkSt ss ms).fieldAddr E t n sx = some s := by rfl) :
    wops E np nt ops Q (i :: rest) (mkSt ss ms) := calc_of ho hop rfl hlt (by simp only [St.calc, hx, hs]) k
theorem x_load {t : TypeId} (k : wops E np nt ops Q rest (mkSt ((d, s) :: ss) ms))
    (ho : ops[i]? = some ⟨some d, .load t x, ty, pos, af, gu⟩ := by rfl) (hop : Open ops ss ⟨some d, .load t x, ty, pos, af, gu⟩ := by first | exact open_none rfl | exact open_some rfl rfl rfl) (hlt : d < nt := by decide) (hx : (mkSt ss ms).ev x = sx := by first | exact ev_t rfl | exact ev_c | exact ev_f) (hs : (mkSt ss ms).ld E t sx = some s := by rfl) :
    wops E np nt ops Q (i :: rest) (mkSt ss ms) := calc_of ho hop rfl hlt (by simp only [St.calc, hx, hs]) k
theorem x_nilCheck {z : A} (k : wops E np nt ops Q rest (mkSt ((d, sx) :: ss) ms))
    (ho : ops[i]? = some ⟨some d, .nilCheck x, ty, pos, af, gu⟩ := by rfl) (hop : Open ops ss ⟨some d, .nilCheck x, ty, pos, af, gu⟩ := by first | exact open_none rfl | exact open_some rfl rfl rfl) (hlt : d < nt := by decide) (hx : (mkSt ss ms).ev x = sx := by first | exact ev_t rfl | exact ev_c | exact ev_f) (hs : (mkSt ss ms).adr sx = some z := by rfl) :
    wops E np nt ops Q (i :: rest) (mkSt ss ms) := calc_of ho hop rfl hlt (by simp only [St.calc, hx, hs]) k
theorem x_indexAddr {t e : TypeId} {ei : TI} {z : A} {sz m : Nat} {kd : IntKind} {n : Int} (hn : 0 ≤ n ∧ n < m) (k : wops E np nt ops Q rest (mkSt ((d, (z.plus (n.toNat * sz)).toS) :: ss) ms))
    (ho : ops[i]? = some ⟨some d, .indexAddr t x y, ty, pos, af, gu⟩ := by rfl) (hop : Open ops ss ⟨some d, .indexAddr t x y, ty, pos, af, gu⟩ := by first | exact open_none rfl | exact open_some rfl rfl rfl) (hlt : d < nt := by decide) (hx : (mkSt ss ms).ev x = sx := by first | exact ev_t rfl | exact ev_c | exact ev_f) (hy : (mkSt ss ms).ev y = .v (.val (.int kd n)) := by first | exact ev_t rfl | exact ev_c | exact ev_f) (hz : (mkSt ss ms).slc sx = some (z, sz, m) := by rfl) (he : elemOf E t = some (e, ei) := by rfl) (hq : ei.sz = sz := by rfl) :
    wops E np nt ops Q (i :: rest) (mkSt ss ms) := calc_of ho hop rfl hlt (by simp only [St.calc, St.indexAddr, hx, hy, hz, he, hq, S.int?, hn.1, hn.2, and_self, if_true]) k
/-- A guard that is shut. -/
theorem x_shut {o : Oper} {j t : Nat} {b b' : Bool} (k : wops E np nt ops Q rest (mkSt ((d, .v (.val undef)) :: ss) ms)) (ho : ops[i]? = some o := by rfl) (hg : o.guard = some (j, b) := by rfl) (hj : (ops[j]?).bind (·.dst) = some t := by rfl) (hd : o.dst = some d := by rfl) (hlt : d < nt := by decide)
    (hy : ss.find? (fun x => x.1 == t) = some (t, .v (.val (.bool b'))) := by rfl) (hn : b' ≠ b := by decide) : wops E np nt ops Q (i :: rest) (mkSt ss ms) :=
  r_no ho hg hj hd hlt (y := some b') (by simp [look, hy, S.yield]) (by simpa using hn) k
theorem x_shut' {o : Oper} {j t : Nat} {b : Bool} (k : wops E np nt ops Q rest (mkSt ((d, .v (.val undef)) :: ss) ms)) (ho : ops[i]? = some o := by rfl) (hg : o.guard = some (j, b) := by rfl) (hj : (ops[j]?).bind (·.dst) = some t := by rfl) (hd : o.dst = some d := by rfl) (hlt : d < nt := by decide)
    (hy : ss.find? (fun x => x.1 == t) = some (t, .v (.val undef)) := by rfl) : wops E np nt ops Q (i :: rest) (mkSt ss ms) :=
  r_no ho hg hj hd hlt (y := none) (by simp [look, hy, S.yield, undef]) (by simp) k
end

end Go.E
namespace Go.E

/-! ### Leaving -/
section
variable {E : Env} {fn : Func} {np t : Nat} {post : V → List V → Prop} {ss : List (Nat × S)} {ms : List (Nat × V)} {x : Value} {e : Exit}
/-- What goes back of the arguments. -/
def outsOf (np : Nat) (ms : List (Nat × V)) : List V := (List.range np).map fun i => (lookM ms i).backed.erase
theorem leave_val (he : e = .normal ∨ e = .ret) (hr : fn.results.toList = [.tmp t]) (hf : ss.find? (fun x => x.1 == t) = some (t, .v (.val x))) (hfree : V.freeL (outsOf np ms) = true) (hp : post (.val x) (outsOf np ms)) : leaveK E fn np post e (mkSt ss ms) := by
  have hs : resSlots E fn (mkSt ss ms) = [(true, .v (.val x))] := by
    simp [resSlots, hr, mkSt, look, hf]
  refine ⟨he, by simp [cellsOk, hr], [.val x], mkSt ss ms, [.val x], ?_, ?_, ?_, rfl, outsOf np ms, rfl, hfree, hp⟩
  · rw [hs]; rfl
  · rw [hs]; rfl
  · rw [hs]; rfl
/-- The result is a tree of its own. -/
theorem leave_own {d : Nat} {u : V} (he : e = .normal ∨ e = .ret) (hr : fn.results.toList = [.tmp t]) (hf : ss.find? (fun x => x.1 == t) = some (t, .ref d [])) (hm : ms.find? (fun x => x.1 == d) = some (d, u)) (ho : u.owned = true) (hu : u.free = true)
    (hfree : V.freeL (outsOf np ((d, .junk undef) :: ms)) = true) (hp : post u (outsOf np ((d, .junk undef) :: ms))) : leaveK E fn np post e (mkSt ss ms) := by
  have hs : resSlots E fn (mkSt ss ms) = [(true, .ref d [])] := by
    simp [resSlots, hr, mkSt, look, hf]
  have hmem : (mkSt ss ms).mem d = u := by simp [mkSt, lookM, hm]
  have ht : (mkSt ss ms).take1 (.ref d []) = some (u, at_ d [], ((mkSt ss ms).kill (at_ d [])).setMem d (.junk undef)) := by
    simp [St.take1, V.get, hmem, ho, V.set]
  refine ⟨he, by simp [cellsOk, hr], [u], ((mkSt ss ms).kill (at_ d [])).setMem d (.junk undef), [u], ?_, ?_, ?_, hu, outsOf np ((d, .junk undef) :: ms), ?_, hfree, hp⟩
  · rw [hs]; rfl
  · rw [hs]; simp only [ownL, St.takes, ht]
  · rw [hs]; rfl
  · refine List.map_congr_left fun i _ => ?_
    simp only [St.setMem, St.kill, upd, lookM, List.find?_cons, mkSt]
    by_cases h : i = d
    · subst h; simp
    · have : (d == i) = false := by simpa using fun k => h k.symm
      simp [h, this]
end

end Go.E
namespace Go.E

/-! ### What a law is handed -/
/-- Trees of a type, without addresses: a slice is lent. -/
def Typed (E : Env) : Nat → Nat → List V → Prop
  | 0, _, _ => False
  | f + 1, t, us => match E.tt t with
    | none => False
    | some ti => match ti.kind with
      | .int k => ∃ n, us = [.val (.int k n)] ∧ (Lit.int k n).wf = true
      | .bool => ∃ b, us = [.val (.bool b)]
      | .string => ∃ s : ByteArray, us = [.val (.string s)] ∧ s.size ≤ maxLen
      | .slice e => ∃ (ei : TI) (els : List (List V)), E.tt e = some ei ∧ us = [.sl .z false ei.sz els.length els.flatten] ∧ els.length ≤ maxLen ∧ ∀ el ∈ els, Typed E f e el ∧ el.length = ei.sz
      | .strct fl => ∃ parts : List (List V), us = parts.flatten ∧ parts.length = fl.length ∧ ∀ (i : Nat) (p : List V) (off ft : Nat), parts[i]? = some p → fl[i]? = some (off, ft) → Typed E f ft p
      | _ => False
/-- The fields of a struct lie one behind the other. -/
def tiled (E : Env) : Nat → List (Nat × Nat) → Nat → Bool
  | off, [], total => decide (off = total)
  | off, (o, ft) :: fl, total => decide (o = off) && (match E.tt ft with
    | some ti => tiled E (off + ti.sz) fl total
    | none => false)
/-- Types without pointers, all of them in the table, structs tiled. -/
def readable (E : Env) : Nat → Nat → Bool
  | 0, _ => false
  | f + 1, t => match E.tt t with
    | none => false
    | some ti => match ti.kind with
      | .int _ => true
      | .bool => true
      | .string => true
      | .slice e => (match E.tt e with | some ei => decide (0 < ei.sz) | none => false) && readable E f e
      | .strct fl => tiled E 0 fl ti.sz && fl.all fun x => readable E f x.2
      | _ => false
theorem cellsOf_tt {E : Env} (hE : E.Ok) {t : Nat} {ti : TI} (h : E.tt t = some ti) : E.P.cellsOf t = ti.sz := by
  obtain ⟨j, z, h1, h2, _⟩ := (hE t ti h).info
  simp [Program.cellsOf, h1, h2]
theorem list_of {α : Type} {P : Nat → α → Prop} : ∀ (n : Nat), (∀ i, i < n → ∃ x, P i x) → ∃ l : List α, l.length = n ∧ ∀ (i : Nat) (x : α), l[i]? = some x → P i x := by
  intro n
  induction n with
  | zero => intro _; exact ⟨[], rfl, by simp⟩
  | succ n ih =>
    intro h
    obtain ⟨l, hl, hp⟩ := ih fun i hi => h i (by omega)
    obtain ⟨x, hx⟩ := h n (by omega)
    refine ⟨l ++ [x], by simp [hl], fun i y hy => ?_⟩
    rw [List.getElem?_append] at hy
    split at hy
    · exact hp i y hy
    · rename_i hi
      have : i - l.length = 0 := by
        have := (List.getElem?_eq_some_iff.1 hy).1
        simp at this; omega
      rw [this] at hy
      simp at hy
      have : i = n := by omega
      subst this; subst hy; exact hx
theorem flat_get {α : Type} {sz : Nat} : ∀ (els : List (List α)), (∀ u ∈ els, u.length = sz) → ∀ (i j : Nat) (u : List α), els[i]? = some u → j < sz → els.flatten[i * sz + j]? = u[j]? := by
  intro els
  induction els with
  | nil => intro _ i j u h; simp at h
  | cons x els ih =>
    intro h i j u hi hj
    have hx := h x (by simp)
    cases i with
    | zero =>
      simp only [List.getElem?_cons_zero, Option.some.injEq] at hi; subst hi
      rw [List.flatten_cons, List.getElem?_append_left (by omega)]
      simp
    | succ i =>
      simp only [List.getElem?_cons_succ] at hi
      rw [List.flatten_cons, List.getElem?_append_right (by rw [hx, Nat.succ_mul]; omega), hx]
      rw [← ih (fun u hu => h u (by simp [hu])) i j u hi hj]
      congr 1
      rw [Nat.succ_mul]; omega
theorem tile {E : Env} {cs : List Value} : ∀ (fl : List (Nat × Nat)) (parts : List (List V)) (off : Nat), tiled E off fl cs.length = true → parts.length = fl.length →
    (∀ (i : Nat) (p : List V) (o ft : Nat) (ti : TI), parts[i]? = some p → fl[i]? = some (o, ft) → E.tt ft = some ti → p.map V.value = (cs.drop o).take ti.sz) → parts.flatten.map V.value = cs.drop off := by
  intro fl
  induction fl with
  | nil =>
    intro parts off ht hl _
    simp only [tiled, decide_eq_true_eq] at ht
    have : parts = [] := List.eq_nil_of_length_eq_zero (by simpa using hl)
    subst this; subst ht
    simp
  | cons x fl ih =>
    intro parts off ht hl h
    obtain ⟨o, ft⟩ := x
    simp only [tiled, Bool.and_eq_true, decide_eq_true_eq] at ht
    obtain ⟨rfl, ht⟩ := ht
    cases hti : E.tt ft with
    | none => simp [hti] at ht
    | some ti =>
      simp only [hti] at ht
      cases parts with
      | nil => simp at hl
      | cons p parts =>
        have h1 := h 0 p o ft ti rfl rfl hti
        have h2 := ih parts (o + ti.sz) ht (by simpa using hl) fun i p' o' ft' ti' k1 k2 k3 => h (i + 1) p' o' ft' ti' (by simpa using k1) (by simpa using k2) k3
        rw [List.flatten_cons, List.map_append, h1, h2, ← List.drop_drop, List.take_append_drop]
section
variable {H : Type} {enc : TypeId × Value → H} {E : Env} {w : World} {spare : Nat → Bool} {held : Bool}
/-- What was read is a tree that is lent. -/
theorem trod_read (hE : E.Ok) (f : Nat) : ∀ (fuel t : Nat) (cs : List Value) (x : DataW H × List MemPlace), readable E f t = true → DataW.trod enc E.P w 0 spare held fuel t cs = some x →
    ∃ us : List V, us.map V.value = cs ∧ V.OkL (fun b => b < w.heap.size) w us ∧ V.blksL us = [] ∧ Typed E f t (V.eraseL us) := by
  induction f with
  | zero => intro fuel t cs x h; simp [readable] at h
  | succ f ih =>
    intro fuel t cs x hr ht
    simp only [readable] at hr
    cases hti : E.tt t with
    | none => simp [hti] at hr
    | some ti =>
      simp only [hti] at hr
      have hk := (hE t ti hti).kind
      cases hkind : ti.kind with
      | int k =>
        rw [hkind] at hk
        obtain ⟨n, rfl, _, hw⟩ := DataW.trod_int hk ht
        exact ⟨[.val (.int k n)], rfl, ⟨trivial, trivial⟩, rfl, by simp only [Typed, hti, hkind]; exact ⟨n, rfl, hw⟩⟩
      | bool =>
        rw [hkind] at hk
        obtain ⟨b, rfl, _⟩ := DataW.trod_bool hk ht
        exact ⟨[.val (.bool b)], rfl, ⟨trivial, trivial⟩, rfl, by simp only [Typed, hti, hkind]; exact ⟨b, rfl⟩⟩
      | string =>
        rw [hkind] at hk
        obtain ⟨s, rfl, _, hs⟩ := DataW.trod_string hk ht
        exact ⟨[.val (.string s)], rfl, ⟨trivial, trivial⟩, rfl, by simp only [Typed, hti, hkind]; exact ⟨s, rfl, hs⟩⟩
      | slice e =>
        rw [hkind] at hk
        simp only [hkind, Bool.and_eq_true] at hr
        cases hei : E.tt e with
        | none => simp [hei] at hr
        | some ei =>
          simp only [hei, decide_eq_true_eq] at hr
          rcases DataW.trod_slice hk ht with ⟨rfl, _⟩ | ⟨a, len, cap, elems, rest, n, _, rfl, _, _, hl, hm, hlen, hel, _, _⟩
          · refine ⟨[.sl ⟨none, 0⟩ false ei.sz 0 []], rfl, ?_, ?_, ?_⟩
            · simp [V.OkL, V.Ok, RoAt, V.blksL]
            · simp [V.blksL, V.blks, Gh.blk]
            · simp only [Typed, hti, hkind]
              exact ⟨ei, [], hei, rfl, by simp [maxLen], by simp⟩
          · -- each element is read
            rw [cellsOf_tt hE hei] at hel
            have each : ∀ i, i < len → ∃ us : List V, us.length = ei.sz ∧ V.OkL (fun b => b < w.heap.size) w us ∧ V.blksL us = [] ∧ Typed E f e (V.eraseL us) ∧ ∀ k, k < ei.sz → w.cell? ((a.add (i * ei.sz)).add k) = (us.map V.value)[k]? := by
              intro i hi
              have h1 := hel i hi
              have h2 : ∃ y, elems[i]? = some y := ⟨elems[i]'(by omega), List.getElem?_eq_getElem (by omega)⟩
              obtain ⟨y, hy⟩ := h2
              rw [hy, Option.bind_eq_some_iff] at h1
              obtain ⟨cs', hc1, hc2⟩ := h1
              obtain ⟨us, k1, k2, k3, k4⟩ := ih n e cs' y hr.2 hc2
              obtain ⟨_, hl', hcell⟩ := World.cells?_some hc1
              refine ⟨us, by rw [← hl', ← k1]; simp, k2, k3, k4, fun k hk => ?_⟩
              rw [k1]; exact hcell k hk
            obtain ⟨els, hlel, hels⟩ := list_of len each
            have hsz : ∀ u ∈ els, u.length = ei.sz := fun u hu => by
              obtain ⟨i, hi⟩ := List.getElem?_of_mem hu
              exact (hels i u hi).1
            have hflen : els.flatten.length = len * ei.sz := by rw [flat_len els hsz, hlel]
            have hspot : len * ei.sz ≠ 0 → a.spot = none ∧ a.block < w.heap.size := fun hne => by
              have hp : 0 < len := Nat.pos_of_ne_zero fun h => by simp [h] at hne
              obtain ⟨u, hu⟩ : ∃ u, els[0]? = some u := ⟨_, List.getElem?_eq_getElem (by omega)⟩
              have h0 := hels 0 u hu
              have h1 := h0.2.2.2.2 0 hr.1
              have h2 : ∃ v, (u.map V.value)[0]? = some v := ⟨_, List.getElem?_eq_getElem (by rw [List.length_map, h0.1]; exact hr.1)⟩
              obtain ⟨v, hv⟩ := h2
              rw [hv] at h1
              unfold World.cell? at h1
              split at h1
              · rename_i c T fr hb
                split at h1
                · simp at h1
                · rename_i hs
                  simp only [Nat.zero_mul] at hs hb
                  have hs' : a.spot = none := by
                    cases hsp : a.spot with
                    | none => rfl
                    | some s => simp [Addr.add, hsp] at hs
                  refine ⟨hs', ?_⟩
                  rw [addr_add_add hs', addr_add hs'] at hb
                  exact (Array.getElem?_eq_some_iff.1 hb).1
              · simp at h1
            have hcell : ∀ k, k < len * ei.sz → w.cell? ⟨a.block, a.off + k, none⟩ = (els.flatten.map V.value)[k]? := fun k hk => by
              obtain ⟨hs, _⟩ := hspot (by omega)
              have hi : k / ei.sz < len := Nat.div_lt_of_lt_mul (by rw [Nat.mul_comm]; exact hk)
              have hj : k % ei.sz < ei.sz := Nat.mod_lt _ hr.1
              obtain ⟨u, hu⟩ : ∃ u, els[k / ei.sz]? = some u := ⟨_, List.getElem?_eq_getElem (by omega)⟩
              have h1 := (hels _ u hu).2.2.2.2 (k % ei.sz) hj
              have h2 := flat_get els hsz (k / ei.sz) (k % ei.sz) u hu hj
              have h3 : k / ei.sz * ei.sz + k % ei.sz = k := by rw [Nat.mul_comm]; exact Nat.div_add_mod k ei.sz
              rw [h3] at h2
              rw [List.getElem?_map, h2, ← List.getElem?_map, ← h1, addr_add_add hs, h3, addr_add hs]
            have hblk : V.blksL els.flatten = [] := by
              rw [V.blksL_flatMap, List.flatMap_eq_nil_iff]
              intro x hx
              obtain ⟨u, hu, hxu⟩ := List.mem_flatten.1 hx
              obtain ⟨i, hi⟩ := List.getElem?_of_mem hu
              have := (hels i u hi).2.2.1
              rw [V.blksL_flatMap, List.flatMap_eq_nil_iff] at this
              exact this x hxu
            have hok : V.OkL (fun b => b < w.heap.size) w els.flatten := by
              rw [V.OkL_iff]
              intro x hx
              obtain ⟨u, hu, hxu⟩ := List.mem_flatten.1 hx
              obtain ⟨i, hi⟩ := List.getElem?_of_mem hu
              have := (hels i u hi).2.1
              rw [V.OkL_iff] at this
              exact this x hxu
            refine ⟨[.sl ⟨some a, cap⟩ false ei.sz len els.flatten], by simp [V.value], ⟨?_, trivial⟩, ?_, ?_⟩
            · simp only [V.Ok, Bool.false_eq_true, if_false]
              refine ⟨hflen, hl, by simp only [maxLen] at hm; omega, ⟨?_, hblk⟩, hok⟩
              by_cases hne : len * ei.sz = 0
              · left
                have : els.flatten = [] := List.eq_nil_of_length_eq_zero (by rw [hflen, hne])
                rw [this]; rfl
              · obtain ⟨hs, hb⟩ := hspot hne
                exact .inr ⟨a, rfl, hb, hs, fun k hk => hcell k (by rw [List.length_map, hflen] at hk; exact hk)⟩
            · simp [V.blksL, V.blks, Gh.blk, hblk]
            · simp only [Typed, hti, hkind]
              refine ⟨ei, els.map V.eraseL, hei, ?_, by rw [List.length_map]; omega, fun el hel' => ?_⟩
              · simp only [V.eraseL, V.erase, List.length_map, hlel]
                have : (els.map V.eraseL).flatten = V.eraseL els.flatten := by
                  rw [V.eraseL_map, List.map_flatten]
                  congr 1
                  exact List.map_congr_left fun u _ => V.eraseL_map u
                rw [this]
              · obtain ⟨u, hu, rfl⟩ := List.mem_map.1 hel'
                obtain ⟨i, hi⟩ := List.getElem?_of_mem hu
                exact ⟨(hels i u hi).2.2.2.1, by rw [V.eraseL_length]; exact (hels i u hi).1⟩
      | strct fl =>
        rw [hkind] at hk
        simp only [hkind, Bool.and_eq_true, List.all_eq_true] at hr
        obtain ⟨fs, hu, hfl, _⟩ := hk
        obtain ⟨xs, n, _, rfl, hlen, hxl, hx⟩ := DataW.trod_struct hu ht
        rw [cellsOf_tt hE hti] at hlen
        have hfll : fl.length = fs.size := by rw [← hfl]; simp
        have each : ∀ i, i < fl.length → ∃ us : List V, ∀ o ft, fl[i]? = some (o, ft) → us.map V.value = (cs.drop o).take (E.P.cellsOf ft) ∧ V.OkL (fun b => b < w.heap.size) w us ∧ V.blksL us = [] ∧ Typed E f ft (V.eraseL us) := by
          intro i hi
          obtain ⟨fd, hfd⟩ : ∃ fd, fs[i]? = some fd := ⟨_, Array.getElem?_eq_getElem (by omega)⟩
          have hfi : fl[i]? = some (fd.offset, fd.type) := by
            rw [← hfl, List.getElem?_map]
            have : fs.toList[i]? = some fd := by simpa using hfd
            rw [this]; rfl
          have h1 := hx i fd hfd
          obtain ⟨y, hy⟩ : ∃ y, xs[i]? = some y := ⟨_, List.getElem?_eq_getElem (by omega)⟩
          rw [hy] at h1
          obtain ⟨us, k1, k2, k3, k4⟩ := ih n fd.type _ y (hr.2 (fd.offset, fd.type) (List.mem_of_getElem? hfi)) h1
          refine ⟨us, fun o ft ho => ?_⟩
          rw [hfi] at ho
          simp only [Option.some.injEq, Prod.mk.injEq] at ho
          obtain ⟨rfl, rfl⟩ := ho
          exact ⟨k1, k2, k3, k4⟩
        obtain ⟨parts, hpl, hparts⟩ := list_of fl.length each
        have hval := tile (E := E) (cs := cs) fl parts 0 (by rw [hlen]; exact hr.1) hpl fun i p o ft ti' k1 k2 k3 => by
          rw [(hparts i p k1 o ft k2).1, cellsOf_tt hE k3]
        have mem : ∀ x ∈ parts.flatten, ∃ (i : Nat) (p : List V) (o ft : Nat), parts[i]? = some p ∧ fl[i]? = some (o, ft) ∧ x ∈ p := fun x hx => by
          obtain ⟨p, hp, hxp⟩ := List.mem_flatten.1 hx
          obtain ⟨i, hi⟩ := List.getElem?_of_mem hp
          have : i < fl.length := by rw [← hpl]; exact (List.getElem?_eq_some_iff.1 hi).1
          exact ⟨i, p, fl[i].1, fl[i].2, hi, List.getElem?_eq_getElem this, hxp⟩
        refine ⟨parts.flatten, by simpa using hval, ?_, ?_, ?_⟩
        · rw [V.OkL_iff]
          intro x hx
          obtain ⟨i, p, o, ft, k1, k2, k3⟩ := mem x hx
          have := (hparts i p k1 o ft k2).2.1
          rw [V.OkL_iff] at this
          exact this x k3
        · rw [V.blksL_flatMap, List.flatMap_eq_nil_iff]
          intro x hx
          obtain ⟨i, p, o, ft, k1, k2, k3⟩ := mem x hx
          have := (hparts i p k1 o ft k2).2.2.1
          rw [V.blksL_flatMap, List.flatMap_eq_nil_iff] at this
          exact this x k3
        · simp only [Typed, hti, hkind]
          refine ⟨parts.map V.eraseL, ?_, by simp [hpl], fun i p o ft k1 k2 => ?_⟩
          · rw [V.eraseL_map, List.map_flatten]
            congr 1
            exact List.map_congr_left fun u _ => (V.eraseL_map u).symm
          · rw [List.getElem?_map, Option.map_eq_some_iff] at k1
            obtain ⟨p', hp', rfl⟩ := k1
            exact (hparts i p' hp' o ft k2).2.2.2
      | _ => simp [hkind] at hr
end

end Go.E
namespace Go.E
open Go.WideShapes Go.RowKit

/-- An argument's tree. -/
def ArgT (E : Env) (F t : Nat) (u : V) : Prop := match (E.tt t).map TI.kind with
  | some (TK.strct _) => ∃ us, u = .agg us ∧ Typed E F t us
  | _ => Typed E F t [u]
def ArgsT (E : Env) (F : Nat) : List Nat → List V → Prop
  | [], [] => True
  | t :: ts, u :: us => ArgT E F t u ∧ ArgsT E F ts us
  | _, _ => False
section
variable {H : Type} {enc : TypeId × Value → H} {E : Env} {W : World} {spare : Nat → Bool} {held : Bool}
theorem arg_read (hE : E.Ok) {F t base : Nat} {v : Value} {d : DataW H} {p : List MemPlace} (hr : readable E F t = true) (hv : Value.okWide E.P W .any base t v) (h : DataW.Trod enc E.P W 0 spare held t v d p) :
    ∃ u : V, u.value = v ∧ u.Ok (fun b => b < W.heap.size) W ∧ u.blks = [] ∧ ArgT E F t u.erase := by
  obtain ⟨fuel, hf⟩ := h
  obtain ⟨us, h1, h2, h3, h4⟩ := trod_read hE F fuel t _ _ hr hf
  have one : (∀ fl, (E.tt t).map TI.kind ≠ some (TK.strct fl)) → v.cells = #[v] → ∃ u : V, u.value = v ∧ u.Ok (fun b => b < W.heap.size) W ∧ u.blks = [] ∧ ArgT E F t u.erase := fun hns hc => by
    rw [hc] at h1
    rcases us with _ | ⟨u, _ | ⟨u', us⟩⟩
    · simp at h1
    · simp only [List.map_cons, List.map_nil, List.cons.injEq, and_true] at h1
      refine ⟨u, h1, h2.1, by simpa [V.blksL] using h3, ?_⟩
      unfold ArgT
      split
      · rename_i fl hk; exact absurd hk (hns fl)
      · exact h4
    · simp at h1
  cases F with
  | zero => simp [readable] at hr
  | succ F =>
    have hr' := hr
    simp only [readable] at hr
    cases hti : E.tt t with
    | none => simp [hti] at hr
    | some ti =>
      simp only [hti] at hr
      have hk := (hE t ti hti).kind
      cases hkind : ti.kind with
      | int k =>
        rw [hkind] at hk
        obtain ⟨n, rfl⟩ := okWide_int hk hv
        exact one (by simp [hti, hkind]) rfl
      | bool =>
        rw [hkind] at hk
        obtain ⟨n, rfl⟩ := okWide_bool hk hv
        exact one (by simp [hti, hkind]) rfl
      | string =>
        rw [hkind] at hk
        obtain ⟨n, rfl⟩ := okWide_string hk hv
        exact one (by simp [hti, hkind]) rfl
      | slice e =>
        rw [hkind] at hk
        obtain ⟨a, l, c, rfl⟩ := okWide_slice hk hv
        exact one (by simp [hti, hkind]) rfl
      | strct fl =>
        rw [hkind] at hk
        obtain ⟨fs, hu, _, _⟩ := hk
        unfold Value.okWide at hv
        rw [hu] at hv
        obtain ⟨cs, rfl, _, _⟩ := hv
        refine ⟨.agg us, ?_, h2, h3, ?_⟩
        · have : us.map V.value = cs.toList := h1
          simp only [V.value, V.values_map, this]
        · unfold ArgT
          simp only [hti, hkind, Option.map_some]
          exact ⟨V.eraseL us, rfl, h4⟩
      | _ => simp [hkind] at hr
theorem args_read (hE : E.Ok) {F base : Nat} : ∀ (ts : List Nat) (vs : List Value) (ds : List (DataW H)) (p : List MemPlace), (∀ t ∈ ts, readable E F t = true) → (∀ (j : Nat) (t : Nat) (v : Value), ts[j]? = some t → vs[j]? = some v → Value.okWide E.P W .any base t v) →
    DataW.TrodAll enc E.P W 0 spare held ts vs ds p → ∃ us : List V, us.map V.value = vs ∧ V.OkL (fun b => b < W.heap.size) W us ∧ V.blksL us = [] ∧ ArgsT E F ts (V.eraseL us) := by
  intro ts
  induction ts with
  | nil =>
    intro vs ds p _ _ h
    cases vs with
    | nil => exact ⟨[], rfl, trivial, rfl, trivial⟩
    | cons v vs => cases ds <;> simp [DataW.TrodAll] at h
  | cons t ts ih =>
    intro vs ds p hr hv h
    cases vs with
    | nil => cases ds <;> simp [DataW.TrodAll] at h
    | cons v vs =>
      cases ds with
      | nil => simp [DataW.TrodAll] at h
      | cons d ds =>
        obtain ⟨p', q, h1, h2, rfl⟩ := h
        obtain ⟨u, k1, k2, k3, k4⟩ := arg_read hE (hr t (by simp)) (hv 0 t v rfl rfl) h1
        obtain ⟨us, l1, l2, l3, l4⟩ := ih vs ds q (fun t' ht => hr t' (by simp [ht])) (fun j t' v' e1 e2 => hv (j + 1) t' v' (by simpa using e1) (by simpa using e2)) h2
        exact ⟨u :: us, by simp [k1, l1], ⟨k2, l2⟩, by simp [V.blksL, k3, l3], k4, l4⟩
/-- A LAW'S CALL: for arguments of any pointer-free types. -/
theorem law_calls (hE : E.Ok) {F base : Nat} {f : FuncId} {ts : List Nat} {args : Array Value} {ds : List (DataW H)} {p : List MemPlace} (hr : ∀ t ∈ ts, readable E F t = true) (hv : ∀ (j : Nat) (t : Nat) (v : Value), ts[j]? = some t → args.toList[j]? = some v → Value.okWide E.P W .any base t v)
    (hA : DataW.TrodAll enc E.P W 0 spare held ts args.toList ds p) (h : ∀ us : List V, ArgsT E F ts us → Spec E.P f us fun r _ => r = .val (.bool true)) :
    Calls E.P f args W fun e W' => e = .returned (.bool true) ∧ Below W.heap.size W W' := by
  obtain ⟨us, h1, h2, h3, h4⟩ := args_read hE ts _ ds p hr hv hA
  have := (h _ h4).2 (fun b => b < W.heap.size) W us rfl h2 (by rw [h3]; simp) (by rw [h3]; simp) (fun b hb => hb)
  rw [h1] at this
  simp only [Array.toArray_toList] at this
  refine this.mono fun e W' ⟨r, outs, k1, k2, k3⟩ => ?_
  have hr : r = .val (.bool true) := by
    cases r <;> simp [V.erase] at k2
    rw [k2]
  subst hr
  exact ⟨k1, k3.os, k3.tape, k3.output, k3.size, fun b hb => k3.frame b hb (by rw [h3]; simp)⟩
end

end Go.E
namespace Go.E

/-! ### Calls, stepped -/
section
variable {E : Env} {np nt : Nat} {ops : Array Oper} {Q : Exit → St → Prop} {i : Nat} {rest : List Nat} {ss : List (Nat × S)} {ms : List (Nat × V)} {d : Nat}
theorem look_map (f : S → S) (hf : f .junk = .junk) (t : Nat) : look (ss.map fun x => (x.1, f x.2)) t = f (look ss t) := by
  simp only [look, List.find?_map, Function.comp_def]
  cases ss.find? (fun x => x.1 == t) with
  | none => simp [hf]
  | some x => simp
theorem mkSt_bind (r : V) : (mkSt ss ms).bind d r = mkSt ((d, viewR d r) :: ss.map fun x => (x.1, x.2.kill (at_ d []))) ((d, r) :: ms) := by
  have h1 : ((mkSt ss ms).kill (at_ d [])).setMem d r = mkSt (ss.map fun x => (x.1, x.2.kill (at_ d []))) ((d, r) :: ms) := by
    simp only [mkSt, St.kill, St.setMem, St.mk.injEq]
    constructor
    · funext t; rw [look_map _ rfl]
    · funext e
      simp only [upd, lookM, List.find?_cons]
      by_cases h : e = d
      · subst h; simp
      · have : (d == e) = false := by simpa using fun k => h k.symm
        simp [h, this]
  unfold St.bind
  rw [h1, mkSt_put]
theorem behind_nil (σ : St) : σ.behind σ [] [] [] = σ := by
  cases σ with
  | mk sl me =>
    simp only [St.behind, St.mk.injEq]
    exact ⟨funext fun t => by
      have : backF [] [] [] = nokill := rfl
      rw [this]; exact S.kill_no _, rfl⟩
theorem Spec.len {P : Program} {f : FuncId} {args : List V} {post : V → List V → Prop} (h : Spec P f args post) : Spec P f args fun r outs => post r outs ∧ outs.length = args.length :=
  ⟨h.1, fun ro w vs h1 h2 h3 h4 h5 => (h.2 ro w vs h1 h2 h3 h4 h5).mono fun _ _ ⟨r, outs, k1, k2, k3⟩ => ⟨r, outs, k1, ⟨k2, by
    have := congrArg List.length k3.vals
    simp only [List.length_map] at this
    rw [V.eraseL_length, this, ← h1, V.eraseL_length]⟩, k3⟩⟩
theorem lendL_length (σ : St) : ∀ (ss : List S) (vs : List V), σ.lendL ss = some vs → vs.length = ss.length := by
  intro ss
  induction ss with
  | nil => intro vs h; simp only [St.lendL, Option.some.injEq] at h; subst h; rfl
  | cons s ss ih =>
    intro vs h
    simp only [St.lendL] at h
    split at h
    · rename_i u us h1 h2
      simp only [Option.some.injEq] at h; subst h
      simp [ih us h2]
    · simp at h
theorem own_false (ss : List S) : ownL ((List.replicate ss.length false).zip ss) = [] := by
  induction ss with
  | nil => rfl
  | cons s ss ih => simpa [List.replicate_succ, ownL] using ih
theorem asm_false (σ : St) (ss : List S) : asm σ ((List.replicate ss.length false).zip ss) [] = σ.lendL ss := by
  induction ss with
  | nil => rfl
  | cons s ss ih =>
    simp only [List.length_cons, List.replicate_succ, List.zip_cons_cons, asm, ih, St.lendL] <;> (cases σ.lend s <;> cases σ.lendL ss <;> rfl)
theorem dis_false (ss : List S) (os : List V) (h : os.length = ss.length) : dis ((List.replicate ss.length false).zip ss) os = some [] := by
  induction ss generalizing os with
  | nil => cases os <;> simp_all [dis]
  | cons s ss ih =>
    cases os with
    | nil => simp at h
    | cons o os => simp only [List.length_cons, List.replicate_succ, List.zip_cons_cons, dis]; exact ih os (by simpa using h)
variable {ty : TypeId} {pos : String} {af : Array Edge} {gu : Option (Nat × Bool)}
/-- A call that is only lent its arguments. -/
theorem x_call {f : FuncId} {args : Array Operand} {ats : Array TypeId} {vs : List V} {post : V → List V → Prop} (hS : Spec E.P f vs post)
    (k : ∀ r outs, post r outs → wops E np nt ops Q rest (mkSt ((d, viewR d r) :: ss.map fun x => (x.1, x.2.kill (at_ d []))) ((d, r) :: ms)))
    (ho : ops[i]? = some ⟨some d, .call ⟨.value (.func f), args, ats⟩, ty, pos, af, gu⟩ := by rfl) (hop : Open ops ss ⟨some d, .call ⟨.value (.func f), args, ats⟩, ty, pos, af, gu⟩ := by first | exact open_none rfl | exact open_some rfl rfl rfl)
    (hnp : np ≤ d := by decide) (hlt : d < nt := by decide) (hl : (mkSt ss ms).lendL (args.toList.map (mkSt ss ms).ev) = some vs := by rfl) :
    wops E np nt ops Q (i :: rest) (mkSt ss ms) := by
  refine step_of ho hop (fun d' h => by simp at h; subst h; exact hlt) ?_
  simp only [wstep, St.ev, fnOf, List.append_nil]
  refine .inl ?_
  have e : args.toList.map (mkSt ss ms).ev = args.toList.map (mkSt ss ms).ev := rfl
  refine ⟨List.replicate (args.toList.map (mkSt ss ms).ev).length false, [], mkSt ss ms, vs, _, by simp, ?_, ?_, ?_, hS.len, fun r outs hp => ⟨[], ?_, ?_⟩⟩
  · show apart (ownL ((List.replicate (args.toList.map (mkSt ss ms).ev).length false).zip (args.toList.map (mkSt ss ms).ev))) = true
    rw [own_false]; rfl
  · show (mkSt ss ms).takes (ownL ((List.replicate (args.toList.map (mkSt ss ms).ev).length false).zip (args.toList.map (mkSt ss ms).ev))) = _
    rw [own_false]; rfl
  · exact (asm_false (mkSt ss ms) (args.toList.map (mkSt ss ms).ev)).trans hl
  · exact dis_false (args.toList.map (mkSt ss ms).ev) outs (by rw [hp.2, lendL_length _ _ _ hl])
  · have : ownL ((List.replicate (args.toList.map (mkSt ss ms).ev).length false).zip (args.toList.map (mkSt ss ms).ev)) = [] := own_false _
    show ((mkSt ss ms).behind (mkSt ss ms) (ownL ((List.replicate (args.toList.map (mkSt ss ms).ev).length false).zip (args.toList.map (mkSt ss ms).ev))) [] []).res np nt (some d) r _
    rw [this, behind_nil]
    refine ⟨hnp, hlt, ?_⟩
    rw [mkSt_bind]
    exact k r outs hp.1
end

end Go.E
namespace Go.E

/-! ### Memory, stepped -/
/-- What leads into a place, forgotten. -/
def killSs (f : Nat → List Nat → Bool) (ss : List (Nat × S)) : List (Nat × S) := ss.map fun x => (x.1, x.2.kill f)
section
variable {E : Env} {np nt : Nat} {ops : Array Oper} {Q : Exit → St → Prop} {i : Nat} {rest : List Nat} {ss ss1 ss2 : List (Nat × S)} {ms ms1 ms2 : List (Nat × V)} {d : Nat}
theorem mkSt_kill (f : Nat → List Nat → Bool) : (mkSt ss ms).kill f = mkSt (killSs f ss) ms := by
  simp only [mkSt, St.kill, St.mk.injEq, and_true]
  funext t; rw [killSs, look_map _ rfl]
theorem mkSt_setMem (u : V) : (mkSt ss ms).setMem d u = mkSt ss ((d, u) :: ms) := by
  simp only [mkSt, St.setMem, St.mk.injEq, true_and]
  funext e
  simp only [upd, lookM, List.find?_cons]
  by_cases h : e = d
  · subst h; simp
  · have : (d == e) = false := by simpa using fun k => h k.symm
    simp [h, this]
theorem mem_of {u : V} (h : ms.find? (fun x => x.1 == d) = some (d, u)) : (mkSt ss ms).mem d = u := by simp [mkSt, lookM, h]
theorem takeS_nil {sz : Nat} : (mkSt ss ms).takeS sz (.v (.val (.slice none 0 0))) = some (0, [], mkSt ss ms) := rfl
theorem takeS_root {e sz n : Nat} {g : Gh} {cs : List V} (h : ms.find? (fun x => x.1 == e) = some (e, .sl g true sz n cs)) : (mkSt ss ms).takeS sz (.ref e []) = some (n, cs, mkSt (killSs (at_ e []) ss) ((e, .junk undef) :: ms)) := by
  simp only [St.takeS, mem_of h, V.get, if_true, V.set, mkSt_kill, mkSt_setMem]
theorem srcs_nil {sz : Nat} : (mkSt ss ms).srcs sz (.v (.val (.slice none 0 0))) = some (0, [], mkSt ss ms) := rfl
theorem srcs_ro {sz n : Nat} {g : Gh} {cs : List V} : (mkSt ss ms).srcs sz (.v (.sl g false sz n cs)) = some (n, cs, mkSt ss ms) := by simp [St.srcs]
theorem srcs_vals {e sz n : Nat} {g : Gh} {cs : List V} (h : ms.find? (fun x => x.1 == e) = some (e, .sl g true sz n cs)) (hv : cs.all V.isVal = true) : (mkSt ss ms).srcs sz (.ref e []) = some (n, cs, mkSt ss ms) := by
  simp only [St.srcs, mem_of h, V.get, if_true, hv]
theorem srcs_root {e sz n : Nat} {g : Gh} {cs : List V} (h : ms.find? (fun x => x.1 == e) = some (e, .sl g true sz n cs)) (hv : cs.all V.isVal = false) : (mkSt ss ms).srcs sz (.ref e []) = some (n, cs, mkSt (killSs (at_ e []) ss) ((e, .junk undef) :: ms)) := by
  simp only [St.srcs, mem_of h, V.get, if_true, hv, Bool.false_eq_true, if_false, V.set, mkSt_kill, mkSt_setMem]
variable {ty : TypeId} {pos : String} {af : Array Edge} {gu : Option (Nat × Bool)} {x y : Operand} {sx sy : S}
theorem x_append {t e n m : Nat} {ei : TI} {cs ds : List V} (hone : ds.all V.one = true) (hb : (n + m) * ei.by_ ≤ 140737488355328) (hm : n + m ≤ 9223372036854775807)
    (k : wops E np nt ops Q rest (mkSt ((d, .ref d []) :: killSs (at_ d []) ss2) ((d, .sl .z true ei.sz (n + m) (cs ++ ds)) :: ms2)))
    (ho : ops[i]? = some ⟨some d, .call ⟨.builtin .append, #[x, y], #[t, t]⟩, ty, pos, af, gu⟩ := by rfl) (hop : Open ops ss ⟨some d, .call ⟨.builtin .append, #[x, y], #[t, t]⟩, ty, pos, af, gu⟩ := by first | exact open_none rfl | exact open_some rfl rfl rfl)
    (hnp : np ≤ d := by decide) (hlt : d < nt := by decide) (hel : elemOf E t = some (e, ei) := by rfl)
    (hx : (mkSt ss ms).ev x = sx := by first | exact ev_t rfl | exact ev_c) (htx : (mkSt ss ms).takeS ei.sz sx = some (n, cs, mkSt ss1 ms1) := by first | exact takeS_nil | exact takeS_root rfl)
    (hy : (mkSt ss1 ms1).ev y = sy := by first | exact ev_t rfl | exact ev_c) (hty : (mkSt ss1 ms1).srcs ei.sz sy = some (m, ds, mkSt ss2 ms2) := by first | exact srcs_nil | exact srcs_ro | exact srcs_vals rfl rfl | exact srcs_root rfl rfl) :
    wops E np nt ops Q (i :: rest) (mkSt ss ms) := by
  refine step_of ho hop (fun d' h => by simp at h; subst h; exact hlt) ?_
  simp only [wstep, wop, hel]
  refine ⟨hnp, hlt, trivial, n, cs, mkSt ss1 ms1, m, ds, mkSt ss2 ms2, by rw [hx]; exact htx, by rw [hy]; exact hty, hone, hb, hm, ?_⟩
  rw [mkSt_bind]
  exact k
theorem flat_single (l : List Value) : (l.map fun v => [V.val v]).flatten = l.map V.val := by
  induction l with
  | nil => rfl
  | cons v l ih => simp only [List.map_cons, List.flatten_cons, ih, List.singleton_append]
/-- What is built is of plain values. -/
theorem x_buildVals {t e n : Nat} {ei : TI} {ps : Array (Nat × Operand)} {l : List Value} (hle : n * ei.sz ≤ 16777216) (h1 : ei.sz = 1)
    (k : wops E np nt ops Q rest (mkSt ((d, .ref d []) :: killSs (at_ d []) ss) ((d, .sl .z true ei.sz n (l.map V.val)) :: ms)))
    (ho : ops[i]? = some ⟨some d, .buildSlice t n ps, ty, pos, af, gu⟩ := by rfl) (hop : Open ops ss ⟨some d, .buildSlice t n ps, ty, pos, af, gu⟩ := by first | exact open_none rfl | exact open_some rfl rfl rfl)
    (hnp : np ≤ d := by decide) (hlt : d < nt := by decide) (hel : elemOf E t = some (e, ei) := by rfl) (hix : ps.toList.map Prod.fst = List.range n := by rfl)
    (hx : (ps.toList.map Prod.snd).map (mkSt ss ms).ev = l.map (fun v => S.v (.val v)) := by rfl) (hf : l.all (fun v => (S.v (.val v)).fine) = true := by rfl) : wops E np nt ops Q (i :: rest) (mkSt ss ms) := by
  refine step_of ho hop (fun d' h => by simp at h; subst h; exact hlt) ?_
  simp only [wstep, wop, hel]
  refine ⟨hnp, hlt, hix, l.map fun v => [V.val v], mkSt ss ms, ?_, ?_, hle, ?_⟩
  · have : ∀ (xs : List Operand) (l : List Value), xs.map (mkSt ss ms).ev = l.map (fun v => S.v (.val v)) → l.all (fun v => (S.v (.val v)).fine) = true → (mkSt ss ms).takeOs xs = some (l.map fun v => [V.val v], mkSt ss ms) := by
      intro xs
      induction xs with
      | nil => intro l h _; cases l <;> simp_all [St.takeOs]
      | cons x xs ih =>
        intro l h hf
        cases l with
        | nil => simp at h
        | cons v l =>
          simp only [List.map_cons, List.cons.injEq] at h
          simp only [List.all_cons, Bool.and_eq_true] at hf
          have : (mkSt ss ms).takeO x = some ([.val v], mkSt ss ms) := by
            simp only [St.takeO, h.1, hf.1, if_true, S.flat, St.takeL, S.kill, St.take1]
          simp only [St.takeOs, this, ih l h.2 hf.2, List.map_cons]
    exact this _ _ hx hf
  · intro cs hcs
    obtain ⟨v, _, rfl⟩ := List.mem_map.1 hcs
    simp [h1]
  · rw [flat_single, mkSt_bind]
    exact k
end

end Go.E
namespace Go.E

/-! ### Operations with a side condition -/
section
variable {E : Env} {np nt : Nat} {ops : Array Oper} {Q : Exit → St → Prop} {i : Nat} {rest : List Nat} {ss : List (Nat × S)} {ms : List (Nat × V)} {d : Nat}
variable {ty : TypeId} {pos : String} {af : Array Edge} {gu : Option (Nat × Bool)} {x y : Operand}
/-- Two strings, one behind the other. -/
theorem x_cat {t t' : TypeId} {a b : ByteArray} (hb : a.size + b.size ≤ 9223372036854775807) (k : wops E np nt ops Q rest (mkSt ((d, .v (.val (.string (a ++ b)))) :: ss) ms))
    (ho : ops[i]? = some ⟨some d, .binOp .add t x y t', ty, pos, af, gu⟩ := by rfl) (hop : Open ops ss ⟨some d, .binOp .add t x y t', ty, pos, af, gu⟩ := by first | exact open_none rfl | exact open_some rfl rfl rfl) (hlt : d < nt := by decide)
    (hx : (mkSt ss ms).ev x = .v (.val (.string a)) := by first | exact ev_t rfl | exact ev_c) (hy : (mkSt ss ms).ev y = .v (.val (.string b)) := by first | exact ev_t rfl | exact ev_c) : wops E np nt ops Q (i :: rest) (mkSt ss ms) :=
  calc_of ho hop rfl hlt (by
    simp only [St.calc, hx, hy, St.bin, S.int?, S.str?, strs]
    rw [if_neg (by omega)]; rfl) k
/-- A quotient. -/
theorem x_quo {t t' : TypeId} {kd : IntKind} {a b : Int} (hb : b ≠ 0) (k : wops E np nt ops Q rest (mkSt ((d, .v (.val (.int kd (kd.wrap (a.tdiv b))))) :: ss) ms))
    (ho : ops[i]? = some ⟨some d, .binOp .quo t x y t', ty, pos, af, gu⟩ := by rfl) (hop : Open ops ss ⟨some d, .binOp .quo t x y t', ty, pos, af, gu⟩ := by first | exact open_none rfl | exact open_some rfl rfl rfl) (hlt : d < nt := by decide)
    (hx : (mkSt ss ms).ev x = .v (.val (.int kd a)) := by first | exact ev_t rfl | exact ev_c) (hy : (mkSt ss ms).ev y = .v (.val (.int kd b)) := by first | exact ev_t rfl | exact ev_c) : wops E np nt ops Q (i :: rest) (mkSt ss ms) :=
  calc_of ho hop rfl hlt (by simp [St.calc, hx, hy, St.bin, S.int?, shifts, ints, hb]) k
theorem x_rem {t t' : TypeId} {kd : IntKind} {a b : Int} (hb : b ≠ 0) (k : wops E np nt ops Q rest (mkSt ((d, .v (.val (.int kd (a.tmod b)))) :: ss) ms))
    (ho : ops[i]? = some ⟨some d, .binOp .rem t x y t', ty, pos, af, gu⟩ := by rfl) (hop : Open ops ss ⟨some d, .binOp .rem t x y t', ty, pos, af, gu⟩ := by first | exact open_none rfl | exact open_some rfl rfl rfl) (hlt : d < nt := by decide)
    (hx : (mkSt ss ms).ev x = .v (.val (.int kd a)) := by first | exact ev_t rfl | exact ev_c) (hy : (mkSt ss ms).ev y = .v (.val (.int kd b)) := by first | exact ev_t rfl | exact ev_c) : wops E np nt ops Q (i :: rest) (mkSt ss ms) :=
  calc_of ho hop rfl hlt (by simp [St.calc, hx, hy, St.bin, S.int?, shifts, ints, hb]) k
/-- A part of a string. -/
theorem x_cut {t : TypeId} {lo hi : Option Operand} {b : ByteArray} {l h : Nat} (hl : l ≤ h) (hh : h ≤ b.size) (k : wops E np nt ops Q rest (mkSt ((d, .v (.val (.string (b.extract l h)))) :: ss) ms))
    (blo : bound (lo.map (mkSt ss ms).ev) 0 = some l) (bhi : bound (hi.map (mkSt ss ms).ev) b.size = some h)
    (ho : ops[i]? = some ⟨some d, .slice t x lo hi none, ty, pos, af, gu⟩ := by rfl) (hop : Open ops ss ⟨some d, .slice t x lo hi none, ty, pos, af, gu⟩ := by first | exact open_none rfl | exact open_some rfl rfl rfl) (hlt : d < nt := by decide)
    (hx : (mkSt ss ms).ev x = .v (.val (.string b)) := by first | exact ev_t rfl | exact ev_c) (ht : (E.tt t).map TI.kind = some .string := by rfl) : wops E np nt ops Q (i :: rest) (mkSt ss ms) := by
  refine step_of ho hop (fun d' h => by simp at h; subst h; exact hlt) ?_
  obtain ⟨ti, h1, h2⟩ := Option.map_eq_some_iff.1 ht
  simp only [wstep, wop, hx]
  refine ⟨hlt, .v (.val (.string (b.extract l h))), ?_, by rw [mkSt_put]; exact k⟩
  simp only [St.calc, hx, S.str?, h1, h2, cutS, blo, bhi]
  rw [if_pos ⟨hl, hh⟩]
end

end Go.E
namespace Go.E

/-! ### Calls that are handed trees -/
/-- The roots when all has been given back. -/
def backMs (ms : List (Nat × V)) : List S → List V → List (Nat × V)
  | .ref d p :: ss, w :: ws => backMs ((d, (lookM ms d).set p w) :: ms) ss ws
  | _ :: ss, _ :: ws => backMs ms ss ws
  | _, _ => ms
theorem lookM_cons (ms : List (Nat × V)) (d : Nat) (u : V) : lookM ((d, u) :: ms) = upd (lookM ms) d u := by
  funext e
  simp only [upd, lookM, List.find?_cons]
  by_cases h : e = d
  · subst h; simp
  · have : (d == e) = false := by simpa using fun k => h k.symm
    simp [h, this]
theorem backMs_eq : ∀ (ss : List S) (ws : List V) (ms : List (Nat × V)), backM (lookM ms) ss ws = lookM (backMs ms ss ws) := by
  intro ss
  induction ss with
  | nil => intro ws ms; cases ws <;> rfl
  | cons s ss ih =>
    intro ws ms
    cases ws with
    | nil => cases s <;> rfl
    | cons w ws =>
      cases s with
      | ref d p => simp only [backM, backMs]; rw [← ih, lookM_cons]
      | _ => simp only [backM, backMs]; exact ih ws ms
section
variable {E : Env} {np nt : Nat} {ops : Array Oper} {Q : Exit → St → Prop} {i : Nat} {rest : List Nat} {ss ss1 : List (Nat × S)} {ms ms1 : List (Nat × V)} {d : Nat}
variable {ty : TypeId} {pos : String} {af : Array Edge} {gu : Option (Nat × Bool)}
theorem x_callG {f : FuncId} {args : Array Operand} {ats : Array TypeId} {vs us : List V} {post : V → List V → Prop} (bs : List Bool) (hS : Spec E.P f vs post)
    (k : ∀ r outs, post r outs → outs.length = vs.length → ∃ ws, dis (bs.zip (args.toList.map (mkSt ss ms).ev)) outs = some ws ∧
      wops E np nt ops Q rest (mkSt ((d, viewR d r) :: killSs (at_ d []) (killSs (backF (ownL (bs.zip (args.toList.map (mkSt ss ms).ev))) us ws) ss)) ((d, r) :: backMs ms1 (ownL (bs.zip (args.toList.map (mkSt ss ms).ev))) ws)))
    (ht : (mkSt ss ms).takes (ownL (bs.zip (args.toList.map (mkSt ss ms).ev))) = some (us, mkSt ss1 ms1)) (hl : asm (mkSt ss1 ms1) (bs.zip (args.toList.map (mkSt ss ms).ev)) us = some vs)
    (ho : ops[i]? = some ⟨some d, .call ⟨.value (.func f), args, ats⟩, ty, pos, af, gu⟩ := by rfl) (hop : Open ops ss ⟨some d, .call ⟨.value (.func f), args, ats⟩, ty, pos, af, gu⟩ := by first | exact open_none rfl | exact open_some rfl rfl rfl)
    (hnp : np ≤ d := by decide) (hlt : d < nt := by decide) (hbl : bs.length = args.toList.length := by rfl) (hap : apart (ownL (bs.zip (args.toList.map (mkSt ss ms).ev))) = true := by rfl) :
    wops E np nt ops Q (i :: rest) (mkSt ss ms) := by
  refine step_of ho hop (fun d' h => by simp at h; subst h; exact hlt) ?_
  simp only [wstep, St.ev, fnOf, List.append_nil]
  refine .inl ?_
  refine ⟨bs, us, mkSt ss1 ms1, vs, _, by simpa using hbl, hap, ht, hl, hS.len, fun r outs hp => ?_⟩
  obtain ⟨ws, h1, h2⟩ := k r outs hp.1 hp.2
  refine ⟨ws, h1, hnp, hlt, ?_⟩
  have : (mkSt ss ms).behind (mkSt ss1 ms1) (ownL (bs.zip (args.toList.map (mkSt ss ms).ev))) us ws = mkSt (killSs (backF (ownL (bs.zip (args.toList.map (mkSt ss ms).ev))) us ws) ss) (backMs ms1 (ownL (bs.zip (args.toList.map (mkSt ss ms).ev))) ws) := by
    simp only [St.behind, mkSt, St.mk.injEq]
    exact ⟨funext fun t => by rw [killSs, look_map _ rfl], backMs_eq _ _ _⟩
  show wops E np nt ops Q rest (((mkSt ss ms).behind (mkSt ss1 ms1) (ownL (bs.zip (args.toList.map (mkSt ss ms).ev))) us ws).bind d r)
  rw [this, mkSt_bind]
  exact h2
theorem takes_nil : (mkSt ss ms).takes [] = some ([], mkSt ss ms) := rfl
theorem takes_root {e : Nat} {u : V} {l : List S} {us : List V} (h : ms.find? (fun x => x.1 == e) = some (e, u)) (ho : u.owned = true) (hr : (mkSt (killSs (at_ e []) ss) ((e, .junk undef) :: ms)).takes l = some (us, mkSt ss1 ms1)) :
    (mkSt ss ms).takes (.ref e [] :: l) = some (u :: us, mkSt ss1 ms1) := by
  simp only [St.takes, St.take1, mem_of h, V.get, ho, if_true, V.set, mkSt_kill, mkSt_setMem, hr]
theorem takes_val {v : Value} {l : List S} {us : List V} (hr : (mkSt ss ms).takes l = some (us, mkSt ss1 ms1)) : (mkSt ss ms).takes (.v (.val v) :: l) = some (.val v :: us, mkSt ss1 ms1) := by
  simp only [St.takes, St.take1, hr]
end

end Go.E
namespace Go.E

/-! ### Places at a number that is not written out -/
section
variable {E : Env} {np nt : Nat} {ops : Array Oper} {Q : Exit → St → Prop} {i : Nat} {rest : List Nat} {ss ss1 : List (Nat × S)} {ms ms1 : List (Nat × V)} {d : Nat}
variable {ty : TypeId} {pos : String} {af : Array Edge} {gu : Option (Nat × Bool)} {x y : Operand} {sx : S}
/-- One cell of a tree of the function's own. -/
theorem x_loadOwn {t e k : Nat} {p : List Nat} {ti : TI} {c u : V} (hm : ((mkSt ss ms).mem e).get p = some c) (hc : c.cells[k]? = some u) (how : c.owned = true)
    (kk : wops E np nt ops Q rest (mkSt ((d, view1 e (p ++ [k]) u) :: ss) ms))
    (ho : ops[i]? = some ⟨some d, .load t x, ty, pos, af, gu⟩ := by rfl) (hop : Open ops ss ⟨some d, .load t x, ty, pos, af, gu⟩ := by first | exact open_none rfl | exact open_some rfl rfl rfl) (hlt : d < nt := by decide)
    (hx : (mkSt ss ms).ev x = sx := by first | exact ev_t rfl | exact ev_c) (ha : (mkSt ss ms).adr sx = some (.own e p k) := by rfl) (ht : E.tt t = some ti := by rfl) (hg : ti.agg = false := by rfl) : wops E np nt ops Q (i :: rest) (mkSt ss ms) :=
  calc_of ho hop rfl hlt (by simp [St.calc, hx, St.ld, ht, ha, hg, St.load, hm, hc, how]) kk
/-- One cell of what is lent. -/
theorem x_loadRo {t k : Nat} {g : Gh} {cs : List V} {ti : TI} {u : V} (hc : cs[k]? = some u)
    (kk : wops E np nt ops Q rest (mkSt ((d, .v u) :: ss) ms))
    (ho : ops[i]? = some ⟨some d, .load t x, ty, pos, af, gu⟩ := by rfl) (hop : Open ops ss ⟨some d, .load t x, ty, pos, af, gu⟩ := by first | exact open_none rfl | exact open_some rfl rfl rfl) (hlt : d < nt := by decide)
    (hx : (mkSt ss ms).ev x = sx := by first | exact ev_t rfl | exact ev_c) (ha : (mkSt ss ms).adr sx = some (.ro g cs k) := by rfl) (ht : E.tt t = some ti := by rfl) (hg : ti.agg = false := by rfl) : wops E np nt ops Q (i :: rest) (mkSt ss ms) :=
  calc_of ho hop rfl hlt (by simp [St.calc, hx, St.ld, ht, ha, hg, St.load, hc]) kk
/-- A struct out of what is lent. -/
theorem x_loadRoAgg {t k : Nat} {g : Gh} {cs us : List V} {ti : TI} (hk : k + ti.sz ≤ cs.length) (hc : (cs.drop k).take ti.sz = us)
    (kk : wops E np nt ops Q rest (mkSt ((d, .agg (us.map S.v)) :: ss) ms))
    (ho : ops[i]? = some ⟨some d, .load t x, ty, pos, af, gu⟩ := by rfl) (hop : Open ops ss ⟨some d, .load t x, ty, pos, af, gu⟩ := by first | exact open_none rfl | exact open_some rfl rfl rfl) (hlt : d < nt := by decide)
    (hx : (mkSt ss ms).ev x = sx := by first | exact ev_t rfl | exact ev_c) (ha : (mkSt ss ms).adr sx = some (.ro g cs k) := by rfl) (ht : E.tt t = some ti := by rfl) (hg : ti.agg = true := by rfl) : wops E np nt ops Q (i :: rest) (mkSt ss ms) :=
  calc_of ho hop rfl hlt (by simp [St.calc, hx, St.ld, ht, ha, hg, St.load, hk, hc]) kk
/-- One plain value stored into a tree of the function's own. -/
theorem x_storeVal {t e k : Nat} {p : List Nat} {ti : TI} {c : V} {v : Value} (hm : ((mkSt ss ms).mem e).get p = some c) (how : c.owned = true) (hk : k < c.cells.length)
    (kk : wops E np nt ops Q rest (mkSt (killSs (on_ e p k 1) ss) ((e, ((mkSt ss ms).mem e).set p (c.withCells (putV c.cells k [.val v]))) :: ms)))
    (ho : ops[i]? = some ⟨none, .store t x y, ty, pos, af, gu⟩ := by rfl) (hop : Open ops ss ⟨none, .store t x y, ty, pos, af, gu⟩ := by first | exact open_none rfl | exact open_some rfl rfl rfl)
    (hx : (mkSt ss ms).ev x = sx := by first | exact ev_t rfl | exact ev_c) (ha : (mkSt ss ms).adr sx = some (.own e p k) := by rfl) (hy : (mkSt ss ms).ev y = .v (.val v) := by first | exact ev_t rfl | exact ev_c) (ht : E.tt t = some ti := by rfl) (h1 : ti.sz = 1 := by rfl)
    (hf : (S.v (.val v)).fine = true := by rfl) (hone : V.one (.val v) = true := by rfl) : wops E np nt ops Q (i :: rest) (mkSt ss ms) := by
  refine step_of ho hop (fun d' h => by simp at h) ?_
  simp only [wstep, wop, ht]
  refine ⟨[.val v], mkSt ss ms, ?_, by simp [h1], by omega, by simp [hone], e, p, k, c, by rw [hx]; exact ha, hm, how, hk, trivial, ?_⟩
  · simp only [St.takeO, hy, hf, if_true, S.flat, St.takeL, S.kill, St.take1]
  · simp only [List.length_cons, List.length_nil, Nat.zero_add]
    rw [mkSt_kill, mkSt_setMem]; exact kk
/-- A new slice of zeros. -/
theorem x_make {t e n : Nat} {ei : TI} {l c : Operand} {kd : IntKind} (hb : n * ei.by_ ≤ 281474976710656) (hn : n ≤ 9223372036854775807)
    (kk : wops E np nt ops Q rest (mkSt ((d, .ref d []) :: killSs (at_ d []) ss) ((d, .sl .z true ei.sz n (List.replicate n (ei.zero.map V.val)).flatten) :: ms)))
    (ho : ops[i]? = some ⟨some d, .makeSlice t l c, ty, pos, af, gu⟩ := by rfl) (hop : Open ops ss ⟨some d, .makeSlice t l c, ty, pos, af, gu⟩ := by first | exact open_none rfl | exact open_some rfl rfl rfl) (hnp : np ≤ d := by decide) (hlt : d < nt := by decide)
    (hel : elemOf E t = some (e, ei) := by rfl) (hl : (mkSt ss ms).ev l = .v (.val (.int kd (n : Int))) := by first | exact ev_t rfl | exact ev_c) (hc : (mkSt ss ms).ev c = .v (.val (.int kd (n : Int))) := by first | exact ev_t rfl | exact ev_c) : wops E np nt ops Q (i :: rest) (mkSt ss ms) := by
  refine step_of ho hop (fun d' h => by simp at h; subst h; exact hlt) ?_
  simp only [wstep, wop, hel]
  refine ⟨hnp, hlt, kd, (n : Int), by rw [hl]; rfl, by rw [hc]; rfl, by omega, by simpa using hb, by simpa using hn, ?_⟩
  rw [mkSt_bind]
  simp only [Int.toNat_natCast]
  exact kk
end

end Go.E
namespace Go.E

/-! ### Structs of plain values -/
section
variable {E : Env} {np nt : Nat} {ops : Array Oper} {Q : Exit → St → Prop} {i : Nat} {rest : List Nat} {ss ss1 : List (Nat × S)} {ms ms1 : List (Nat × V)} {d : Nat}
variable {ty : TypeId} {pos : String} {af : Array Edge} {gu : Option (Nat × Bool)} {x y : Operand} {sx : S}
theorem takeL_vals (σ : St) : ∀ (l : List Value) (F : Nat → List Nat → Bool), σ.takeL F (l.map fun v => S.v (.val v)) = some (l.map V.val, σ) := by
  intro l
  induction l with
  | nil => intro F; rfl
  | cons v l ih => intro F; simp only [List.map_cons, St.takeL, S.kill, St.take1, ih]
/-- A variable in a cell of its own. -/
theorem x_alloc {t : TypeId} {ti : TI} (k : wops E np nt ops Q rest (mkSt ((d, .ref d []) :: killSs (at_ d []) ss) ((d, .ptr .z true (ti.zero.map V.val)) :: ms)))
    (ho : ops[i]? = some ⟨some d, .alloc t, ty, pos, af, gu⟩ := by rfl) (hop : Open ops ss ⟨some d, .alloc t, ty, pos, af, gu⟩ := by first | exact open_none rfl | exact open_some rfl rfl rfl) (hnp : np ≤ d := by decide) (hlt : d < nt := by decide)
    (ht : E.tt t = some ti := by rfl) : wops E np nt ops Q (i :: rest) (mkSt ss ms) := by
  refine step_of ho hop (fun d' h => by simp at h; subst h; exact hlt) ?_
  simp only [wstep, wop, ht]
  refine ⟨hnp, hlt, ?_⟩
  rw [mkSt_bind]; exact k
/-- A struct of plain values, stored. -/
theorem x_storeAgg {t e k : Nat} {p : List Nat} {ti : TI} {c : V} {l : List Value} (hm : ((mkSt ss ms).mem e).get p = some c) (how : c.owned = true) (hk : k + l.length ≤ c.cells.length) (hone : (l.map V.val).all V.one = true)
    (kk : wops E np nt ops Q rest (mkSt (killSs (on_ e p k l.length) ss) ((e, ((mkSt ss ms).mem e).set p (c.withCells (putV c.cells k (l.map V.val)))) :: ms)))
    (ho : ops[i]? = some ⟨none, .store t x y, ty, pos, af, gu⟩ := by rfl) (hop : Open ops ss ⟨none, .store t x y, ty, pos, af, gu⟩ := by first | exact open_none rfl | exact open_some rfl rfl rfl)
    (hx : (mkSt ss ms).ev x = sx := by first | exact ev_t rfl | exact ev_c) (ha : (mkSt ss ms).adr sx = some (.own e p k) := by rfl) (hy : (mkSt ss ms).ev y = .agg (l.map fun v => S.v (.val v)) := by exact ev_t rfl) (ht : E.tt t = some ti := by rfl) (h1 : l.length = ti.sz := by rfl) (h0 : 0 < ti.sz := by decide)
    (hf : (S.agg (l.map fun v => S.v (.val v))).fine = true := by rfl) : wops E np nt ops Q (i :: rest) (mkSt ss ms) := by
  refine step_of ho hop (fun d' h => by simp at h) ?_
  simp only [wstep, wop, ht]
  refine ⟨l.map V.val, mkSt ss ms, ?_, by simpa using h1, h0, hone, e, p, k, c, by rw [hx]; exact ha, hm, how, by simpa using hk, trivial, ?_⟩
  · simp only [St.takeO, hy, hf, if_true, S.flat]
    exact takeL_vals _ l _
  · rw [List.length_map, mkSt_kill, mkSt_setMem]; exact kk
end

end Go.E
namespace Go.E

/-! ### Leaving, in general -/
section
variable {E : Env} {fn : Func} {np : Nat} {post : V → List V → Prop} {ss ss1 : List (Nat × S)} {ms ms1 : List (Nat × V)} {e : Exit}
theorem leave_of {rs : List (Bool × S)} {us vs : List V} (he : e = .normal ∨ e = .ret) (hc : cellsOk E fn (mkSt ss ms) = true) (hr : resSlots E fn (mkSt ss ms) = rs) (hap : apart (ownL rs) = true) (ht : (mkSt ss ms).takes (ownL rs) = some (us, mkSt ss1 ms1)) (ha : asm (mkSt ss1 ms1) rs us = some vs)
    (hf : (V.one? vs).free = true) (ho : V.freeL (outsOf np ms1) = true) (hp : post (V.one? vs) (outsOf np ms1)) : leaveK E fn np post e (mkSt ss ms) :=
  ⟨he, hc, us, mkSt ss1 ms1, vs, by rw [hr]; exact hap, by rw [hr]; exact ht, by rw [hr]; exact ha, hf, _, rfl, ho, hp⟩
theorem freeL_vals (l : List Value) : V.freeL (l.map V.val) = true := by
  induction l with
  | nil => rfl
  | cons v l ih => simp [V.freeL, V.free, ih]
theorem apart_vals (l : List Value) : apart (l.map fun v => S.v (.val v)) = true := by
  induction l with
  | nil => rfl
  | cons v l ih => simp [apart, ih, S.apartB]
theorem takes_vals (σ : St) (l : List Value) : σ.takes (l.map fun v => S.v (.val v)) = some (l.map V.val, σ) := by
  induction l with
  | nil => rfl
  | cons v l ih => simp only [List.map_cons, St.takes, St.take1, ih]
/-- The result is a struct of plain values. -/
theorem leave_agg {t : Nat} {l : List Value} (he : e = .normal ∨ e = .ret) (hr : fn.results.toList = [.tmp t]) (hf : ss.find? (fun x => x.1 == t) = some (t, .agg (l.map fun v => S.v (.val v)))) (hfree : V.freeL (outsOf np ms) = true) (hp : post (.agg (l.map V.val)) (outsOf np ms)) : leaveK E fn np post e (mkSt ss ms) := by
  have hs : resSlots E fn (mkSt ss ms) = [(true, .agg (l.map fun v => S.v (.val v)))] := by
    simp [resSlots, hr, mkSt, look, hf]
  refine leave_of (us := l.map V.val) (vs := [.agg (l.map V.val)]) (ss1 := ss) (ms1 := ms) he (by simp [cellsOk, hr]) hs ?_ ?_ ?_ ?_ hfree hp
  · simp only [ownL, List.append_nil]; exact apart_vals l
  · simp only [ownL, List.append_nil]; exact takes_vals _ l
  · simp [asm, List.take_of_length_le]
  · simp only [V.one?, V.free]; exact freeL_vals l
/-- Two plain results. -/
theorem leave_val2 {t u : Nat} {x y : Value} (he : e = .normal ∨ e = .ret) (hr : fn.results.toList = [.tmp t, .tmp u]) (hf : ss.find? (fun x => x.1 == t) = some (t, .v (.val x))) (hg : ss.find? (fun x => x.1 == u) = some (u, .v (.val y))) (hfree : V.freeL (outsOf np ms) = true)
    (hp : post (.tup [.val x, .val y]) (outsOf np ms)) : leaveK E fn np post e (mkSt ss ms) := by
  have hs : resSlots E fn (mkSt ss ms) = [(true, .v (.val x)), (true, .v (.val y))] := by
    simp [resSlots, hr, mkSt, look, hf, hg]
  exact leave_of (us := [.val x, .val y]) (vs := [.val x, .val y]) (ss1 := ss) (ms1 := ms) he (by simp [cellsOk, hr]) hs rfl rfl rfl rfl hfree hp
end

end Go.E
namespace Go.E

section
variable {E : Env} {np nt : Nat} {ops : Array Oper} {Q : Exit → St → Prop} {i : Nat} {rest : List Nat} {ss : List (Nat × S)} {ms : List (Nat × V)} {d : Nat}
variable {ty : TypeId} {pos : String} {af : Array Edge} {gu : Option (Nat × Bool)} {x : Operand}
/-- A plain value in a cell of its own. -/
theorem x_boxVal {t : TypeId} {v : Value} (k : wops E np nt ops Q rest (mkSt ((d, .ref d []) :: killSs (at_ d []) ss) ((d, .ptr .z true [.val v]) :: ms)))
    (ho : ops[i]? = some ⟨some d, .box t x, ty, pos, af, gu⟩ := by rfl) (hop : Open ops ss ⟨some d, .box t x, ty, pos, af, gu⟩ := by first | exact open_none rfl | exact open_some rfl rfl rfl) (hnp : np ≤ d := by decide) (hlt : d < nt := by decide)
    (hx : (mkSt ss ms).ev x = .v (.val v) := by first | exact ev_t rfl | exact ev_c) (hf : (S.v (.val v)).fine = true := by rfl) : wops E np nt ops Q (i :: rest) (mkSt ss ms) := by
  refine step_of ho hop (fun d' h => by simp at h; subst h; exact hlt) ?_
  simp only [wstep, wop]
  refine ⟨hnp, hlt, [.val v], mkSt ss ms, ?_, ?_⟩
  · simp only [St.takeO, hx, hf, if_true, S.flat, St.takeL, S.kill, St.take1]
  · rw [mkSt_bind]; exact k
/-- A struct of plain values in cells of its own. -/
theorem x_boxAgg {t : TypeId} {l : List Value} (k : wops E np nt ops Q rest (mkSt ((d, .ref d []) :: killSs (at_ d []) ss) ((d, .ptr .z true (l.map V.val)) :: ms)))
    (ho : ops[i]? = some ⟨some d, .box t x, ty, pos, af, gu⟩ := by rfl) (hop : Open ops ss ⟨some d, .box t x, ty, pos, af, gu⟩ := by first | exact open_none rfl | exact open_some rfl rfl rfl) (hnp : np ≤ d := by decide) (hlt : d < nt := by decide)
    (hx : (mkSt ss ms).ev x = .agg (l.map fun v => S.v (.val v)) := by exact ev_t rfl) : wops E np nt ops Q (i :: rest) (mkSt ss ms) := by
  refine step_of ho hop (fun d' h => by simp at h; subst h; exact hlt) ?_
  simp only [wstep, wop]
  refine ⟨hnp, hlt, l.map V.val, mkSt ss ms, ?_, ?_⟩
  · have hf : (S.agg (l.map fun v => S.v (.val v))).fine = true := rfl
    simp only [St.takeO, hx, hf, if_true, S.flat]
    exact takeL_vals _ l _
  · rw [mkSt_bind]; exact k
end

end Go.E
namespace Go.E

/-! ### Regions whose order is drawn -/
section
variable {E : Env} {np nt : Nat} {ops : Array Oper} {Q : Exit → St → Prop}
theorem res_mono {dst : Option Nat} {r : V} {K K' : St → Prop} {σ : St} (h : ∀ τ, K τ → K' τ) (k : σ.res np nt dst r K) : σ.res np nt dst r K' := by
  cases dst with
  | none => exact h _ k
  | some d => exact ⟨k.1, k.2.1, h _ k.2.2⟩
theorem calcK_mono {o : Oper} {K K' : St → Prop} {σ : St} (h : ∀ τ, K τ → K' τ) (k : calcK E nt o σ K) : calcK E nt o σ K' := by
  unfold calcK at *
  split at k
  · obtain ⟨a, s, b, c⟩ := k
    exact ⟨a, s, b, h _ c⟩
  · first | exact k.elim | exact h _ k
theorem wop_mono {o : Oper} {K K' : St → Prop} {σ : St} (h : ∀ τ, K τ → K' τ) (k : wop E np nt o σ K) : wop E np nt o σ K' := by
  unfold wop at *
  split at k
  · split at k
    · exact ⟨k.1, k.2.1, h _ k.2.2⟩
    · exact k
  · split at k
    · obtain ⟨a, b, cs, σ1, c, d⟩ := k
      exact ⟨a, b, cs, σ1, c, h _ d⟩
    · exact k
  · split at k
    · obtain ⟨a, b, c, css, σ1, d, e, f, g⟩ := k
      exact ⟨a, b, c, css, σ1, d, e, f, h _ g⟩
    · exact k
  · split at k
    · obtain ⟨a, b, kk, i, c, d, e, f, g, l⟩ := k
      exact ⟨a, b, kk, i, c, d, e, f, g, h _ l⟩
    · exact k
  · split at k
    · obtain ⟨us, σ1, a, b, c, d, dd, p, kk, cc, e, f, g, i, j, l⟩ := k
      exact ⟨us, σ1, a, b, c, d, dd, p, kk, cc, e, f, g, i, j, h _ l⟩
    · exact k
  · split at k
    · split at k
      · split at k
        · obtain ⟨a, b, c, n, cs, σ1, m, ds, σ2, d, e, f, g, i, j⟩ := k
          exact ⟨a, b, c, n, cs, σ1, m, ds, σ2, d, e, f, g, i, h _ j⟩
        · exact k
      · exact k
    · exact calcK_mono h k
  · split at k
    · split at k
      · obtain ⟨a, b, σ1, n, cs, l, hh, c, d, e, f, g, i⟩ := k
        exact ⟨a, b, σ1, n, cs, l, hh, c, d, e, f, g, h _ i⟩
      · exact k
    · exact calcK_mono h k
  · exact calcK_mono h k
theorem wstep_mono {o : Oper} {K K' : St → Prop} {σ : St} (h : ∀ τ, K τ → K' τ) (k : wstep E np nt o σ K) : wstep E np nt o σ K' := by
  unfold wstep at *
  split at k
  · split at k
    · split at k
      · rcases k with ⟨bs, us, σ1, vs, post, a, b, c, d, e, f⟩ | ⟨xs, d, v, a, b, c, e, f⟩
        · exact .inl ⟨bs, us, σ1, vs, post, a, b, c, d, e, fun r outs hp => let ⟨ws, g, i⟩ := f r outs hp; ⟨ws, g, res_mono h i⟩⟩
        · exact .inr ⟨xs, d, v, a, b, c, e, h _ f⟩
      · exact k
    · exact wop_mono h k
  · exact wop_mono h k
/-- One operation of a region, its guard too. -/
def wop1 (E : Env) (np nt : Nat) (ops : Array Oper) (i : Nat) (K : St → Prop) (σ : St) : Prop := match ops[i]? with
  | none => K σ
  | some o => match o.guard with
    | none => wstep E np nt o σ K
    | some (j, b) => match (ops[j]?).bind (·.dst), o.dst with
      | some t, some d => d < nt ∧ ∃ y, (σ.slots t).yield = some y ∧ (y = some b → wstep E np nt o σ K) ∧ (y ≠ some b → K (σ.skip (some d)))
      | some t, none => ∃ y, (σ.slots t).yield = some y ∧ (y = some b → wstep E np nt o σ K) ∧ (y ≠ some b → K σ)
      | _, _ => False
theorem wops_cons (i : Nat) (rest : List Nat) (σ : St) : wops E np nt ops Q (i :: rest) σ = wop1 E np nt ops i (wops E np nt ops Q rest) σ := rfl
theorem wop1_mono {i : Nat} {K K' : St → Prop} {σ : St} (h : ∀ τ, K τ → K' τ) (k : wop1 E np nt ops i K σ) : wop1 E np nt ops i K' σ := by
  unfold wop1 at *
  split at k
  · exact h _ k
  · split at k
    · exact wstep_mono h k
    · split at k
      · obtain ⟨a, y, b, c, d⟩ := k
        exact ⟨a, y, b, fun e => wstep_mono h (c e), fun e => h _ (d e)⟩
      · obtain ⟨y, b, c, d⟩ := k
        exact ⟨y, b, fun e => wstep_mono h (c e), fun e => h _ (d e)⟩
      · exact k
/-- The one may run ahead of the other. -/
def Comm (E : Env) (np nt : Nat) (ops : Array Oper) (i j : Nat) : Prop := ∀ (K : St → Prop) (σ : St), wop1 E np nt ops i (wop1 E np nt ops j K) σ → wop1 E np nt ops j (wop1 E np nt ops i K) σ

/-! Two plain operations that don't read each other -/
theorem ev_put {σ : St} {d : Nat} {s : S} {x : Operand} (h : x ≠ .tmp d) : (σ.put d s).ev x = σ.ev x := by
  cases x with
  | tmp t =>
    have : t ≠ d := fun e => h (by rw [e])
    simp [St.ev, St.put, upd, this]
  | _ => rfl
theorem evs_put {σ : St} {d : Nat} {s : S} (xs : List Operand) (h : Operand.tmp d ∉ xs) : xs.map (σ.put d s).ev = xs.map σ.ev :=
  List.map_congr_left fun x hx => ev_put fun e => h (e ▸ hx)
theorem adr_put {σ : St} {d : Nat} {s x : S} : (σ.put d s).adr x = σ.adr x := by cases x <;> rfl
/-- What an operation reads. -/
def readsOf : Op → Option (List Operand)
  | .move x => some [x]
  | .assign x => some [x]
  | .pick c x y => some [c, x, y]
  | .load _ x => some [x]
  | .nilCheck x => some [x]
  | .binOp _ _ x y _ => some [x, y]
  | .unOp _ _ x => some [x]
  | .convert _ _ x => some [x]
  | .fieldAddr _ x _ => some [x]
  | .field _ x _ => some [x]
  | .indexAddr _ x i => some [x, i]
  | .index _ x i => some [x, i]
  | .extract x _ => some [x]
  | .call c => match c.callee with
    | .builtin .len => some c.args.toList
    | _ => none
  | _ => none
theorem calc_put {σ : St} {d : Nat} {s : S} {o : Op} {xs : List Operand} (hr : readsOf o = some xs) (h : Operand.tmp d ∉ xs) : (σ.put d s).calc E o = σ.calc E o := by
  have hm : (σ.put d s).mem = σ.mem := rfl
  cases o <;> simp only [readsOf, Option.some.injEq, reduceCtorEq] at hr
  case call c =>
    split at hr
    · rename_i hc
      simp only [Option.some.injEq] at hr; subst hr
      simp only [St.calc, hc, evs_put _ h]
      rfl
    · simp at hr
  all_goals (subst hr; simp only [List.mem_cons, List.not_mem_nil, or_false, not_or] at h)
  all_goals simp only [St.calc]
  case move => rw [ev_put (Ne.symm h)]
  case assign => rw [ev_put (Ne.symm h)]
  case pick => rw [ev_put (Ne.symm h.1), ev_put (Ne.symm h.2.1), ev_put (Ne.symm h.2.2)]
  case load => rw [ev_put (Ne.symm h)]; rfl
  case nilCheck => rw [ev_put (Ne.symm h)]; rfl
  case binOp => rw [ev_put (Ne.symm h.1), ev_put (Ne.symm h.2)]; rfl
  case unOp => rw [ev_put (Ne.symm h)]
  case convert => rw [ev_put (Ne.symm h)]; rfl
  case fieldAddr => rw [ev_put (Ne.symm h)]; rfl
  case field => rw [ev_put (Ne.symm h)]
  case indexAddr => rw [ev_put (Ne.symm h.1), ev_put (Ne.symm h.2)]; rfl
  case index => rw [ev_put (Ne.symm h.1), ev_put (Ne.symm h.2)]
  case extract => rw [ev_put (Ne.symm h)]
theorem put_put {σ : St} {d e : Nat} {s u : S} (h : d ≠ e) : (σ.put d s).put e u = (σ.put e u).put d s := by
  simp only [St.put, St.mk.injEq, and_true]
  funext t
  simp only [upd]
  by_cases h1 : t = e
  · subst h1; simp [Ne.symm h]
  · simp [h1]
end

end Go.E
namespace Go.E

section
variable {E : Env} {np nt : Nat} {ops : Array Oper} {Q : Exit → St → Prop}
theorem wstep_reads {o : Oper} {xs : List Operand} (h : readsOf o.op = some xs) (K : St → Prop) (σ : St) : wstep E np nt o σ K = calcK E nt o σ K := by
  obtain ⟨dst, op, ty, pos, af, gu⟩ := o
  cases op <;> simp only [readsOf, reduceCtorEq] at h
  case call c =>
    unfold wstep
    split at h
    · rename_i hc
      simp only [hc, wop]
    · simp at h
  all_goals rfl
def commB (ops : Array Oper) (i j : Nat) : Bool := match ops[i]?, ops[j]? with
  | some x, some y => match readsOf x.op, readsOf y.op, x.dst, y.dst, x.guard, y.guard with
    | some xs, some ys, some d, some e, none, none => decide (d ≠ e) && xs.all (fun x => match x with | .tmp t => decide (t ≠ e) | _ => true) && ys.all (fun x => match x with | .tmp t => decide (t ≠ d) | _ => true)
    | _, _, _, _, _, _ => false
  | _, _ => false
theorem not_reads {xs : List Operand} {e : Nat} (h : xs.all (fun x => match x with | .tmp t => decide (t ≠ e) | _ => true) = true) : Operand.tmp e ∉ xs := fun hm => by
  simp only [List.all_eq_true] at h
  have := h _ hm
  simp at this
theorem comm_of {i j : Nat} (h : commB ops i j = true) : Comm E np nt ops i j := by
  unfold commB at h
  split at h
  · rename_i x y hx hy
    split at h
    · rename_i xs ys d e h1 h2 h3 h4 h5 h6
      simp only [Bool.and_eq_true, decide_eq_true_eq] at h
      obtain ⟨⟨hde, hxs⟩, hys⟩ := h
      intro K σ k
      simp only [wop1, hx, hy, h5, h6] at k ⊢
      rw [wstep_reads h1] at k
      unfold calcK at k
      rw [h3] at k
      obtain ⟨a, s, b, c⟩ := k
      simp only [wop1, hy, h6] at c
      rw [wstep_reads h2] at c
      unfold calcK at c
      rw [h4] at c
      obtain ⟨a', s', b', c'⟩ := c
      rw [calc_put h2 (not_reads hys)] at b'
      rw [wstep_reads h2]
      unfold calcK
      rw [h4]
      refine ⟨a', s', b', ?_⟩
      simp only [wop1, hx, h5]
      rw [wstep_reads h1]
      unfold calcK
      rw [h3]
      refine ⟨a, s, by rw [calc_put h1 (not_reads hxs)]; exact b, ?_⟩
      rw [← put_put hde]; exact c'
    · simp at h
  · simp at h
def depsOf (ops : Array Oper) (i : Nat) : List Nat := match ops[i]? with
  | some o => o.after.toList.filterMap fun e => if Region.binds .any e then some e.on else none
  | none => []
def anc (ops : Array Oper) : Nat → Nat → List Nat
  | 0, _ => []
  | f + 1, i => depsOf ops i ++ (depsOf ops i).flatMap (anc ops f)
/-- The order may be drawn. -/
def drawB (ops : Array Oper) (xs : List (Nat × Nat)) : Bool :=
  (List.range ops.size).all fun j => (depsOf ops j).all (fun e => decide (e < j)) && (List.range j).all fun i => (anc ops 3 j).contains i || commB ops i j || xs.contains (i, j)
theorem bubble {ops : Array Oper} {x : Nat} {l2 : List Nat} : ∀ (l1 : List Nat), (∀ y ∈ l1, Comm E np nt ops y x) → ∀ σ, wops E np nt ops Q (l1 ++ x :: l2) σ → wops E np nt ops Q (x :: (l1 ++ l2)) σ := by
  intro l1
  induction l1 with
  | nil => intro _ σ h; exact h
  | cons y l1 ih =>
    intro hc σ h
    rw [List.cons_append, wops_cons] at h
    have h2 := wop1_mono (ih fun z hz => hc z (by simp [hz])) h
    exact hc y (by simp) _ _ h2
def rem (ops : Array Oper) (listed : Array Bool) : List Nat := (List.range ops.size).filter fun i => !listed.getD i true
theorem set_getD (listed : Array Bool) (i k : Nat) (b : Bool) : (listed.setIfInBounds i true).getD k b = if k = i ∧ k < listed.size then true else listed.getD k b := by
  by_cases hb : k < listed.size
  · by_cases h : k = i
    · subst h; simp [Array.getD, hb]
    · simp only [Array.getD, Array.size_setIfInBounds, hb, dif_pos, h, false_and, if_false]
      show (listed.setIfInBounds i true)[k]'(by simpa using hb) = _
      rw [Array.getElem_setIfInBounds hb]
      simp [Ne.symm h]
  · simp [Array.getD, hb]
theorem rem_split {ops : Array Oper} {listed : Array Bool} {i : Nat} (hi : i < ops.size) (hl : listed.getD i true = false) :
    ∃ l1 l2, rem ops listed = l1 ++ i :: l2 ∧ rem ops (listed.setIfInBounds i true) = l1 ++ l2 ∧ ∀ y ∈ l1, y < i ∧ listed.getD y true = false := by
  have hr : List.range ops.size = List.range i ++ i :: (List.range' (i + 1) (ops.size - (i + 1))) := by
    rw [List.range_eq_range', List.range_eq_range']
    have : ops.size = i + (1 + (ops.size - (i + 1))) := by omega
    conv => lhs; rw [this]
    rw [← List.range'_append_1, ← List.range'_append_1]
    simp
  have hset : ∀ k, (listed.setIfInBounds i true).getD k true = if k = i then true else listed.getD k true := by
    intro k
    rw [set_getD]
    by_cases h : k = i
    · subst h
      have : k < listed.size := by
        by_cases hb : k < listed.size
        · exact hb
        · simp [Array.getD, hb] at hl
      simp [this]
    · simp [h]
  refine ⟨(List.range i).filter fun k => !listed.getD k true, (List.range' (i + 1) (ops.size - (i + 1))).filter fun k => !listed.getD k true, ?_, ?_, ?_⟩
  · unfold rem
    rw [hr, List.filter_append, List.filter_cons]
    simp [hl]
  · unfold rem
    rw [hr, List.filter_append, List.filter_cons]
    simp only [hset, if_true, Bool.not_true, Bool.false_eq_true, if_false]
    congr 1
    · refine List.filter_congr fun k hk => ?_
      have : k ≠ i := by simp at hk; omega
      simp [this]
    · refine List.filter_congr fun k hk => ?_
      have : k ≠ i := by simp [List.mem_range'] at hk; omega
      simp [this]
  · intro y hy
    simp at hy
    exact ⟨hy.1, by simpa using hy.2⟩
def Closed (ops : Array Oper) (listed : Array Bool) : Prop := ∀ j, listed.getD j true = true → j < ops.size → ∀ e ∈ depsOf ops j, listed.getD e false = true
theorem getD_tf {listed : Array Bool} {e : Nat} (h : listed.getD e false = true) : listed.getD e true = true := by
  by_cases hb : e < listed.size <;> simp [Array.getD, hb] at h ⊢
  exact h
theorem anc_listed {ops : Array Oper} {listed : Array Bool} (hc : Closed ops listed) (hlt : ∀ j, j < ops.size → ∀ e ∈ depsOf ops j, e < j) : ∀ (f j : Nat), j < ops.size → (∀ e ∈ depsOf ops j, listed.getD e false = true) → ∀ x ∈ anc ops f j, listed.getD x false = true := by
  intro f
  induction f with
  | zero => intro j _ _ x hx; simp [anc] at hx
  | succ f ih =>
    intro j hj h x hx
    simp only [anc, List.mem_append, List.mem_flatMap] at hx
    rcases hx with hx | ⟨e, he, hx⟩
    · exact h x hx
    · have he2 : e < ops.size := Nat.lt_trans (hlt j hj e he) hj
      exact ih e he2 (hc e (getD_tf (h e he)) he2) x hx
theorem ready_iff {ops : Array Oper} {listed : Array Bool} {i : Nat} (hd : Region.departs ops = false) : i ∈ Region.ready .any ops listed ↔ i < ops.size ∧ listed.getD i true = false ∧ ∀ e ∈ depsOf ops i, listed.getD e false = true := by
  simp only [Region.ready, List.mem_filter, List.mem_range, Bool.and_eq_true, Bool.not_eq_true']
  refine and_congr_right fun hi => and_congr_right fun _ => ?_
  have ho : ops[i]? = some ops[i] := Array.getElem?_eq_getElem hi
  simp only [ho, Option.map_some, Option.getD_some, depsOf, Array.all_eq_true', List.mem_filterMap]
  constructor
  · rintro h e ⟨x, hx, he⟩
    have := h x (by simpa using hx)
    split at he
    · rename_i hb
      simp only [Option.some.injEq] at he; subst he
      simpa [hb] using this
    · simp at he
  · intro h x hx
    cases hb : Region.binds .any x with
    | false => rfl
    | true => simpa using h x.on ⟨x, by simpa using hx, by simp [hb]⟩
theorem draw_go {ops : Array Oper} {xs : List (Nat × Nat)} (hd : Region.departs ops = false) (hb : drawB ops xs = true) (hx : ∀ i j, (i, j) ∈ xs → Comm E np nt ops i j) : ∀ (fuel t : Nat) (listed : Array Bool) (σ : St), (rem ops listed).length ≤ fuel → Closed ops listed →
    wops E np nt ops Q (rem ops listed) σ → wops E np nt ops Q (Region.linearise.go .any ops fuel t listed []) σ := by
  simp only [drawB, List.all_eq_true, List.mem_range, Bool.and_eq_true, Bool.or_eq_true, decide_eq_true_eq, List.contains_iff_mem] at hb
  have hlt : ∀ j, j < ops.size → ∀ e ∈ depsOf ops j, e < j := fun j hj e he => (hb j hj).1 e he
  intro fuel
  induction fuel with
  | zero =>
    intro t listed σ hl _ h
    have : rem ops listed = [] := List.eq_nil_of_length_eq_zero (by omega)
    rw [this] at h
    simpa [Region.linearise.go] using h
  | succ fuel ih =>
    intro t listed σ hl hc h
    simp only [Region.linearise.go]
    change wops E np nt ops Q (match (Region.ready .any ops listed)[t % (Region.ready .any ops listed).length]? with
      | some i => Region.linearise.go .any ops fuel (t / (Region.ready .any ops listed).length) (listed.setIfInBounds i true) [i]
      | none => [].reverse) σ
    cases hi : (Region.ready .any ops listed)[t % (Region.ready .any ops listed).length]? with
    | none =>
      have hnil : Region.ready .any ops listed = [] := by
        cases hr : Region.ready .any ops listed with
        | nil => rfl
        | cons x xs =>
          rw [hr] at hi
          have hlt : t % (x :: xs).length < (x :: xs).length := Nat.mod_lt _ (by simp)
          simp at hi
          simp at hlt
          omega
      have hrem : rem ops listed = [] := by
        rw [List.eq_nil_iff_forall_not_mem]
        intro j
        induction j using Nat.strongRecOn with
        | _ j ihj =>
          intro hj
          have hj' := hj
          simp only [rem, List.mem_filter, List.mem_range, Bool.not_eq_true'] at hj'
          have : j ∈ Region.ready .any ops listed := (ready_iff hd).2 ⟨hj'.1, hj'.2, fun e he => by
            have h1 := hlt j hj'.1 e he
            have h2 := ihj e h1
            simp only [rem, List.mem_filter, List.mem_range, Bool.not_eq_true', not_and, Bool.not_eq_false] at h2
            have h3 := h2 (by omega)
            by_cases hb : e < listed.size
            · simpa [Array.getD, hb] using h3
            · have : ¬ j < listed.size := by omega
              simp [Array.getD, this] at hj'⟩
          rw [hnil] at this
          simp at this
      rw [hrem] at h
      exact h
    | some i =>
      simp only
      rw [linearise_go_acc, List.reverse_singleton, List.singleton_append, wops_cons]
      have hr := (ready_iff hd).1 (List.mem_of_getElem? hi)
      obtain ⟨l1, l2, e1, e2, h3⟩ := rem_split hr.1 hr.2.1
      rw [e1] at h
      have hbub := bubble l1 (fun y hy => by
        obtain ⟨hy1, hy2⟩ := h3 y hy
        rcases (hb i hr.1).2 y hy1 with (k | k) | k
        · have := getD_tf (anc_listed hc hlt 3 i hr.1 hr.2.2 y (by simpa using k))
          rw [this] at hy2; simp at hy2
        · exact comm_of k
        · exact hx y i (by simpa using k)) σ h
      refine wop1_mono (fun τ hτ => ih _ _ τ ?_ ?_ ?_) hbub
      · rw [e2]; rw [e1] at hl; simp at hl ⊢; omega
      · intro j hj hjs e he
        have hset : ∀ k b, listed.getD k b = true → (listed.setIfInBounds i true).getD k b = true := by
          intro k b hk
          rw [set_getD]
          split
          · rfl
          · exact hk
        by_cases hji : j = i
        · subst hji; exact hset _ _ (hr.2.2 e he)
        · refine hset _ _ (hc j ?_ hjs e he)
          rw [set_getD] at hj
          simpa [hji] using hj
      · rw [e2]; exact hτ
theorem a_draw' {id : Nat} {σ : St} {l : List Nat} (xs : List (Nat × Nat)) (hx : ∀ i j, (i, j) ∈ xs → Comm E np nt ops i j) (hl : List.range ops.size = l) (hd : Region.departs ops = false) (hb : drawB ops xs = true) (h : ∀ K : Exit → St → Prop, K .normal = Q .normal → wops E np nt ops K l σ) : awp E np nt (.region id ops true) Q σ := by
  show ∀ t, wops E np nt ops Q (Region.schedule (E.P.follows .mixedOrders) ops t) σ
  intro t
  simp only [Region.schedule, hd, Bool.not_false, Bool.or_true, if_true, Region.linearise]
  have hrem : rem ops (Array.replicate ops.size false) = List.range ops.size := by
    unfold rem
    rw [List.filter_eq_self]
    intro i hi
    simp at hi
    simp [Array.getD, hi]
  refine draw_go hd hb hx ops.size t _ σ ?_ ?_ ?_
  · rw [hrem]; simp
  · intro j hj hjs
    simp [Array.getD, hjs] at hj
  · rw [hrem, hl]; exact h Q rfl
/-- A region whose order is drawn, walked in the order of its text. -/
theorem a_draw {id : Nat} {σ : St} {l : List Nat} (hl : List.range ops.size = l) (hd : Region.departs ops = false) (hb : drawB ops [] = true) (h : ∀ K : Exit → St → Prop, K .normal = Q .normal → wops E np nt ops K l σ) : awp E np nt (.region id ops true) Q σ :=
  a_draw' [] (fun _ _ h => by simp at h) hl hd hb h
end

end Go.E
namespace Go.E

/-! ### Lists -/
def cI (n : Int) : List V := [.val (.int .i64 n)]
def cU (n : Int) : List V := [.val (.int .u8 n)]
def cB (b : Bool) : List V := [.val (.bool b)]
def cS (s : ByteArray) : List V := [.val (.string s)]
/-- A node of a formula. -/
structure Nd where
  op : Int
  n : Int
  a : Int
  b : Int
instance : Inhabited Nd := ⟨⟨0, 0, 0, 0⟩⟩
def cN (x : Nd) : List V := [.val (.int .i64 x.op), .val (.int .i64 x.n), .val (.int .i64 x.a), .val (.int .i64 x.b)]
/-- A slice of a list. -/
def eL {α : Type} (o : Bool) (sz : Nat) (c : α → List V) (l : List α) : V := .sl .z o sz l.length (l.flatMap c)
/-- Slices in cells. -/
def cL {α : Type} (o : Bool) (sz : Nat) (c : α → List V) (l : List α) : List V := [eL o sz c l]
section
variable {α : Type} {c : α → List V} {sz : Nat} {l : List α}
theorem flat_length (hc : ∀ a, (c a).length = sz) : (l.flatMap c).length = l.length * sz := by
  induction l with
  | nil => simp
  | cons a l ih => simp [ih, hc, Nat.succ_mul, Nat.add_comm]
theorem flat_drop (hc : ∀ a, (c a).length = sz) : ∀ (i : Nat) (l : List α), (l.flatMap c).drop (i * sz) = (l.drop i).flatMap c := by
  intro i
  induction i with
  | zero => intro l; simp
  | succ i ih =>
    intro l
    cases l with
    | nil => simp
    | cons a l =>
      rw [List.flatMap_cons, Nat.succ_mul, Nat.add_comm, ← List.drop_drop, List.drop_left' (hc a), ih, List.drop_succ_cons]
theorem flat_take (hc : ∀ a, (c a).length = sz) : ∀ (i : Nat) (l : List α), (l.flatMap c).take (i * sz) = (l.take i).flatMap c := by
  intro i
  induction i with
  | zero => intro l; simp
  | succ i ih =>
    intro l
    cases l with
    | nil => simp
    | cons a l =>
      rw [List.flatMap_cons, List.take_succ_cons, List.flatMap_cons, Nat.succ_mul, Nat.add_comm, List.take_append, hc a, List.take_of_length_le (by rw [hc a]; omega)]
      congr 1
      rw [show sz + i * sz - sz = i * sz by omega]; exact ih l
theorem flat_at [Inhabited α] (hc : ∀ a, (c a).length = sz) {i : Nat} (h : i < l.length) : ((l.flatMap c).drop (i * sz)).take sz = c l[i]! := by
  rw [flat_drop hc, List.drop_eq_getElem_cons h, List.flatMap_cons, List.take_left' (hc _), getElem!_pos l i h]
theorem flat_one {f : α → V} (hc : ∀ a, c a = [f a]) : l.flatMap c = l.map f := by
  induction l with
  | nil => rfl
  | cons a l ih => simp [ih, hc]
theorem flat_put (hc : ∀ a, (c a).length = sz) {i : Nat} (h : i < l.length) (a : α) : putV (l.flatMap c) (i * sz) (c a) = (l.set i a).flatMap c := by
  unfold putV
  rw [flat_take hc, hc, show i * sz + sz = (i + 1) * sz by rw [Nat.succ_mul], flat_drop hc, List.set_eq_take_append_cons_drop, if_pos h]
  simp
theorem roL_flat {c' : α → List V} (hc : ∀ a, V.roL (c a) = c' a) : V.roL (l.flatMap c) = l.flatMap c' := by
  induction l with
  | nil => rfl
  | cons a l ih =>
    rw [List.flatMap_cons, V.roL_map, List.map_append, ← V.roL_map, ← V.roL_map, ih, hc, List.flatMap_cons]
theorem ro_eL {c' : α → List V} {o : Bool} (hc : ∀ a, V.roL (c a) = c' a) : (eL o sz c l).ro = eL false sz c' l := by
  simp only [eL, V.ro, roL_flat hc]
theorem roL_cL {c' : α → List V} {o : Bool} (hc : ∀ a, V.roL (c a) = c' a) : V.roL (cL o sz c l) = cL false sz c' l := by
  simp only [cL, V.roL, ro_eL hc]
theorem freeL_append (a b : List V) : V.freeL (a ++ b) = (V.freeL a && V.freeL b) := by
  induction a with
  | nil => rfl
  | cons x a ih => simp [V.freeL, ih, Bool.and_assoc]
theorem freeL_flat (hc : ∀ a, V.freeL (c a) = true) : V.freeL (l.flatMap c) = true := by
  induction l with
  | nil => rfl
  | cons a l ih => rw [List.flatMap_cons, freeL_append, hc, ih]; rfl
theorem free_eL (hc : ∀ a, V.freeL (c a) = true) : (eL true sz c l).free = true := by simp [eL, V.free, freeL_flat hc]
theorem freeL_cL (hc : ∀ a, V.freeL (c a) = true) : V.freeL (cL true sz c l) = true := by simp [cL, V.freeL, free_eL hc]
theorem eraseL_append (a b : List V) : V.eraseL (a ++ b) = V.eraseL a ++ V.eraseL b := by simp [V.eraseL_map]
theorem eraseL_flat (hc : ∀ a, V.eraseL (c a) = c a) : V.eraseL (l.flatMap c) = l.flatMap c := by
  induction l with
  | nil => rfl
  | cons a l ih => rw [List.flatMap_cons, eraseL_append, hc, ih]
theorem erase_eL {o : Bool} (hc : ∀ a, V.eraseL (c a) = c a) : (eL o sz c l).erase = eL o sz c l := by simp [eL, V.erase, eraseL_flat hc]
theorem one_flat (hc : ∀ a, (c a).all V.one = true) : (l.flatMap c).all V.one = true := by
  induction l with
  | nil => rfl
  | cons a l ih => rw [List.flatMap_cons, List.all_append, hc, ih]; rfl
end

section
variable {E : Env} {np nt : Nat} {ops : Array Oper} {Q : Exit → St → Prop} {i : Nat} {rest : List Nat} {ss ss1 : List (Nat × S)} {ms ms1 : List (Nat × V)} {d : Nat}
variable {ty : TypeId} {pos : String} {af : Array Edge} {gu : Option (Nat × Bool)} {x y : Operand} {sx sy : S}
variable {α : Type} {c : α → List V} {sz : Nat} {l l' : List α} {k : Nat} {g : Gh} {ti : TI} {t : TypeId}
/-- An element of one cell, out of a list that is lent. -/
theorem x_ldE [Inhabited α] {f : α → V} (hk : k < l.length)
    (kk : wops E np nt ops Q rest (mkSt ((d, .v (f l[k]!)) :: ss) ms))
    (ho : ops[i]? = some ⟨some d, .load t x, ty, pos, af, gu⟩ := by rfl) (hop : Open ops ss ⟨some d, .load t x, ty, pos, af, gu⟩ := by first | exact open_none rfl | exact open_some rfl rfl rfl) (hlt : d < nt := by decide)
    (hx : (mkSt ss ms).ev x = sx := by first | exact ev_t rfl | exact ev_c) (ha : (mkSt ss ms).adr sx = some (.ro g (l.flatMap c) (0 + k * 1)) := by rfl) (hc : ∀ a, c a = [f a] := by intro _; rfl) (ht : E.tt t = some ti := by rfl) (hg : ti.agg = false := by rfl) : wops E np nt ops Q (i :: rest) (mkSt ss ms) := by
  have hcl : ∀ a, (c a).length = 1 := fun a => by rw [hc]; rfl
  have := flat_at hcl hk
  refine x_loadRo (g := g) (cs := l.flatMap c) (k := 0 + k * 1) (u := f l[k]!) ?_ kk ho hop hlt hx ha ht hg
  rw [hc] at this
  have h2 := congrArg (·[0]?) this
  simp only [List.getElem?_take, List.getElem?_drop] at h2
  simpa using h2
/-- An element that is a struct, out of a list that is lent. -/
theorem x_ldN [Inhabited α] (hk : k < l.length)
    (kk : wops E np nt ops Q rest (mkSt ((d, .agg ((c l[k]!).map S.v)) :: ss) ms))
    (ho : ops[i]? = some ⟨some d, .load t x, ty, pos, af, gu⟩ := by rfl) (hop : Open ops ss ⟨some d, .load t x, ty, pos, af, gu⟩ := by first | exact open_none rfl | exact open_some rfl rfl rfl) (hlt : d < nt := by decide)
    (hx : (mkSt ss ms).ev x = sx := by first | exact ev_t rfl | exact ev_c) (ha : (mkSt ss ms).adr sx = some (.ro g (l.flatMap c) (0 + k * sz)) := by rfl) (hc : ∀ a, (c a).length = sz := by intro _; rfl) (ht : E.tt t = some ti := by rfl) (hg : ti.agg = true := by rfl) (hsz : ti.sz = sz := by rfl) : wops E np nt ops Q (i :: rest) (mkSt ss ms) := by
  subst hsz
  refine x_loadRoAgg (g := g) (cs := l.flatMap c) (k := 0 + k * ti.sz) (us := c l[k]!) ?_ ?_ kk ho hop hlt hx ha ht hg
  · rw [flat_length hc, Nat.zero_add, ← Nat.succ_mul]; exact Nat.mul_le_mul_right _ hk
  · rw [Nat.zero_add]; exact flat_at hc hk
/-- An element of one cell, out of a list of the function's own. -/
theorem x_ldO [Inhabited α] {e : Nat} {p : List Nat} {f : α → V} (hk : k < l.length)
    (kk : wops E np nt ops Q rest (mkSt ((d, view1 e (p ++ [0 + k * 1]) (f l[k]!)) :: ss) ms))
    (ho : ops[i]? = some ⟨some d, .load t x, ty, pos, af, gu⟩ := by rfl) (hop : Open ops ss ⟨some d, .load t x, ty, pos, af, gu⟩ := by first | exact open_none rfl | exact open_some rfl rfl rfl) (hlt : d < nt := by decide)
    (hx : (mkSt ss ms).ev x = sx := by first | exact ev_t rfl | exact ev_c) (ha : (mkSt ss ms).adr sx = some (.own e p (0 + k * 1)) := by rfl) (hm : ((mkSt ss ms).mem e).get p = some (eL true 1 c l) := by rfl) (hc : ∀ a, c a = [f a] := by intro _; rfl) (ht : E.tt t = some ti := by rfl) (hg : ti.agg = false := by rfl) : wops E np nt ops Q (i :: rest) (mkSt ss ms) := by
  have hcl : ∀ a, (c a).length = 1 := fun a => by rw [hc]; rfl
  have := flat_at hcl hk
  refine x_loadOwn (e := e) (p := p) (c := eL true 1 c l) (k := 0 + k * 1) (u := f l[k]!) hm ?_ rfl kk ho hop hlt hx ha ht hg
  rw [hc] at this
  have h2 := congrArg (·[0]?) this
  simp only [List.getElem?_take, List.getElem?_drop] at h2
  simpa [eL, V.cells] using h2
/-- An element that is a struct of plain values, out of a list of the function's own. -/
theorem x_ldON [Inhabited α] {e : Nat} {p : List Nat} {f : α → List Value} (hk : k < l.length)
    (kk : wops E np nt ops Q rest (mkSt ((d, .agg ((f l[k]!).map fun v => S.v (.val v))) :: ss) ms))
    (ho : ops[i]? = some ⟨some d, .load t x, ty, pos, af, gu⟩ := by rfl) (hop : Open ops ss ⟨some d, .load t x, ty, pos, af, gu⟩ := by first | exact open_none rfl | exact open_some rfl rfl rfl) (hlt : d < nt := by decide)
    (hx : (mkSt ss ms).ev x = sx := by first | exact ev_t rfl | exact ev_c) (ha : (mkSt ss ms).adr sx = some (.own e p (0 + k * sz)) := by rfl) (hm : ((mkSt ss ms).mem e).get p = some (eL true sz c l) := by rfl) (hf : ∀ a, c a = (f a).map V.val) (hc : ∀ a, (c a).length = sz := by intro _; rfl) (ht : E.tt t = some ti := by rfl) (hg : ti.agg = true := by rfl) (hsz : ti.sz = sz := by rfl) : wops E np nt ops Q (i :: rest) (mkSt ss ms) := by
  subst hsz
  have hview : ∀ (d : Nat) (p : List Nat) (us : List Value) (j : Nat), viewL d p j (us.map V.val) = us.map fun v => S.v (.val v) := by
    intro d p us
    induction us with
    | nil => intro j; rfl
    | cons v us ih => intro j; simp only [List.map_cons, viewL, view1, ih]
  refine calc_of ho hop rfl hlt ?_ kk
  have hle : 0 + k * ti.sz + ti.sz ≤ (eL true ti.sz c l).cells.length := by
    show 0 + k * ti.sz + ti.sz ≤ (l.flatMap c).length
    rw [flat_length hc, Nat.zero_add, ← Nat.succ_mul]; exact Nat.mul_le_mul_right _ hk
  have hat : ((eL true ti.sz c l).cells.drop (0 + k * ti.sz)).take ti.sz = c l[k]! := by
    show ((l.flatMap c).drop (0 + k * ti.sz)).take ti.sz = c l[k]!
    rw [Nat.zero_add]; exact flat_at hc hk
  simp only [St.calc, hx, St.ld, ht, ha, hg, St.load, hm]
  simp only [eL, V.owned] at hle hat ⊢
  simp only [if_true, hle, hat, hf, hview]
/-- A plain value stored into a list of the function's own. -/
theorem x_stE {e : Nat} {a : α} {v : Value} (hk : k < l.length)
    (kk : wops E np nt ops Q rest (mkSt (killSs (on_ e [] (0 + k * 1) 1) ss) ((e, eL true 1 c (l.set k a)) :: ms)))
    (ho : ops[i]? = some ⟨none, .store t x y, ty, pos, af, gu⟩ := by rfl) (hop : Open ops ss ⟨none, .store t x y, ty, pos, af, gu⟩ := by first | exact open_none rfl | exact open_some rfl rfl rfl)
    (hx : (mkSt ss ms).ev x = sx := by first | exact ev_t rfl | exact ev_c) (ha : (mkSt ss ms).adr sx = some (.own e [] (0 + k * 1)) := by rfl) (hm : (mkSt ss ms).mem e = eL true 1 c l := by rfl) (hy : (mkSt ss ms).ev y = .v (.val v) := by first | exact ev_t rfl | exact ev_c) (hv : c a = [.val v] := by rfl) (hc : ∀ a, (c a).length = 1 := by intro _; rfl) (ht : E.tt t = some ti := by rfl) (h1 : ti.sz = 1 := by rfl)
    (hf : (S.v (.val v)).fine = true := by rfl) (hone : V.one (.val v) = true := by rfl) : wops E np nt ops Q (i :: rest) (mkSt ss ms) := by
  refine x_storeVal (e := e) (k := 0 + k * 1) (p := []) (c := eL true 1 c l) (v := v) (by rw [hm]; rfl) rfl ?_ ?_ ho hop hx ha hy ht h1 hf hone
  · show 0 + k * 1 < (l.flatMap c).length
    rw [flat_length hc]; omega
  · have : ((mkSt ss ms).mem e).set [] ((eL true 1 c l).withCells (putV (eL true 1 c l).cells (0 + k * 1) [.val v])) = eL true 1 c (l.set k a) := by
      have h2 := flat_put hc hk a
      show V.sl .z true 1 l.length (putV (l.flatMap c) (0 + k * 1) [.val v]) = _
      rw [hv] at h2
      rw [Nat.zero_add, h2]
      simp only [eL, List.length_set]
    rw [this]; exact kk
/-- A struct of plain values stored into a list of the function's own. -/
theorem x_stN {e : Nat} {a : α} {vs : List Value} (hk : k < l.length)
    (kk : wops E np nt ops Q rest (mkSt (killSs (on_ e [] (0 + k * sz) vs.length) ss) ((e, eL true sz c (l.set k a)) :: ms)))
    (ho : ops[i]? = some ⟨none, .store t x y, ty, pos, af, gu⟩ := by rfl) (hop : Open ops ss ⟨none, .store t x y, ty, pos, af, gu⟩ := by first | exact open_none rfl | exact open_some rfl rfl rfl)
    (hx : (mkSt ss ms).ev x = sx := by first | exact ev_t rfl | exact ev_c) (ha : (mkSt ss ms).adr sx = some (.own e [] (0 + k * sz)) := by rfl) (hm : (mkSt ss ms).mem e = eL true sz c l := by rfl) (hy : (mkSt ss ms).ev y = .agg (vs.map fun v => S.v (.val v)) := by exact ev_t rfl) (hv : c a = vs.map V.val := by rfl) (hc : ∀ a, (c a).length = sz := by intro _; rfl) (ht : E.tt t = some ti := by rfl) (h1 : vs.length = ti.sz := by rfl) (h0 : 0 < ti.sz := by decide)
    (hf : (S.agg (vs.map fun v => S.v (.val v))).fine = true := by rfl) (hone : (vs.map V.val).all V.one = true := by rfl) : wops E np nt ops Q (i :: rest) (mkSt ss ms) := by
  have hlen : vs.length = sz := by rw [← hc a, hv]; simp
  refine x_storeAgg (e := e) (k := 0 + k * sz) (p := []) (c := eL true sz c l) (l := vs) (by rw [hm]; rfl) rfl ?_ hone ?_ ho hop hx ha hy ht h1 h0 hf
  · show 0 + k * sz + vs.length ≤ (l.flatMap c).length
    rw [flat_length hc, hlen, Nat.zero_add, ← Nat.succ_mul]; exact Nat.mul_le_mul_right _ hk
  · have : ((mkSt ss ms).mem e).set [] ((eL true sz c l).withCells (putV (eL true sz c l).cells (0 + k * sz) (vs.map V.val))) = eL true sz c (l.set k a) := by
      have h2 := flat_put hc hk a
      show V.sl .z true sz l.length (putV (l.flatMap c) (0 + k * sz) (vs.map V.val)) = _
      rw [hv] at h2
      rw [Nat.zero_add, h2]
      simp only [eL, List.length_set]
    rw [this]; exact kk
/-- One more element of plain values behind a list of the function's own. -/
theorem x_app1 {e e' ee : Nat} {a : α} {ei : TI} {cs : List V} (hb : l.length + 1 ≤ 1073741824)
    (kk : wops E np nt ops Q rest (mkSt ((d, .ref d []) :: killSs (at_ d []) (killSs (at_ e []) ss)) ((d, eL true sz c (l ++ [a])) :: (e, .junk undef) :: ms)))
    (ho : ops[i]? = some ⟨some d, .call ⟨.builtin .append, #[x, y], #[t, t]⟩, ty, pos, af, gu⟩ := by rfl) (hop : Open ops ss ⟨some d, .call ⟨.builtin .append, #[x, y], #[t, t]⟩, ty, pos, af, gu⟩ := by first | exact open_none rfl | exact open_some rfl rfl rfl)
    (hnp : np ≤ d := by decide) (hlt : d < nt := by decide) (hel : elemOf E t = some (ee, ei) := by rfl) (hsz : ei.sz = sz := by rfl) (hby : ei.by_ ≤ 65536 := by decide)
    (hx : (mkSt ss ms).ev x = .ref e [] := by exact ev_t rfl) (hmx : ms.find? (fun x => x.1 == e) = some (e, eL true sz c l) := by rfl)
    (hy : (mkSt (killSs (at_ e []) ss) ((e, .junk undef) :: ms)).ev y = .ref e' [] := by exact ev_t rfl) (hmy : ((e, V.junk undef) :: ms).find? (fun x => x.1 == e') = some (e', .sl .z true sz 1 cs) := by rfl) (hca : c a = cs := by rfl) (hv : cs.all V.isVal = true := by rfl) (hone : cs.all V.one = true := by rfl) : wops E np nt ops Q (i :: rest) (mkSt ss ms) := by
  subst hca; subst hsz
  have hL : eL true ei.sz c (l ++ [a]) = .sl .z true ei.sz (l.length + 1) (l.flatMap c ++ c a) := by simp [eL]
  rw [hL] at kk
  refine x_append (n := l.length) (m := 1) (cs := l.flatMap c) (ds := c a) (ei := ei) hone ?_ (by omega) kk ho hop hnp hlt hel hx (takeS_root hmx) hy (srcs_vals hmy hv)
  calc (l.length + 1) * ei.by_ ≤ 1073741824 * 65536 := Nat.mul_le_mul hb hby
    _ ≤ 140737488355328 := by decide
/-- One more tree behind a list of the function's own. -/
theorem x_app1t {e e' ee : Nat} {a : α} {ei : TI} {cs : List V} (hb : l.length + 1 ≤ 1073741824)
    (kk : wops E np nt ops Q rest (mkSt ((d, .ref d []) :: killSs (at_ d []) (killSs (at_ e' []) (killSs (at_ e []) ss))) ((d, eL true sz c (l ++ [a])) :: (e', .junk undef) :: (e, .junk undef) :: ms)))
    (ho : ops[i]? = some ⟨some d, .call ⟨.builtin .append, #[x, y], #[t, t]⟩, ty, pos, af, gu⟩ := by rfl) (hop : Open ops ss ⟨some d, .call ⟨.builtin .append, #[x, y], #[t, t]⟩, ty, pos, af, gu⟩ := by first | exact open_none rfl | exact open_some rfl rfl rfl)
    (hnp : np ≤ d := by decide) (hlt : d < nt := by decide) (hel : elemOf E t = some (ee, ei) := by rfl) (hsz : ei.sz = sz := by rfl) (hby : ei.by_ ≤ 65536 := by decide)
    (hx : (mkSt ss ms).ev x = .ref e [] := by exact ev_t rfl) (hmx : ms.find? (fun x => x.1 == e) = some (e, eL true sz c l) := by rfl)
    (hy : (mkSt (killSs (at_ e []) ss) ((e, .junk undef) :: ms)).ev y = .ref e' [] := by exact ev_t rfl) (hmy : ((e, V.junk undef) :: ms).find? (fun x => x.1 == e') = some (e', .sl .z true sz 1 cs) := by rfl) (hca : c a = cs := by rfl) (hv : cs.all V.isVal = false := by rfl) (hone : cs.all V.one = true := by rfl) : wops E np nt ops Q (i :: rest) (mkSt ss ms) := by
  subst hca; subst hsz
  have hL : eL true ei.sz c (l ++ [a]) = .sl .z true ei.sz (l.length + 1) (l.flatMap c ++ c a) := by simp [eL]
  rw [hL] at kk
  refine x_append (n := l.length) (m := 1) (cs := l.flatMap c) (ds := c a) (ei := ei) hone ?_ (by omega) kk ho hop hnp hlt hel hx (takeS_root hmx) hy (srcs_root hmy hv)
  calc (l.length + 1) * ei.by_ ≤ 1073741824 * 65536 := Nat.mul_le_mul hb hby
    _ ≤ 140737488355328 := by decide
/-- One tree of the function's own in a new slice. -/
theorem x_build1 {e ee : Nat} {u : V} {ei : TI}
    (kk : wops E np nt ops Q rest (mkSt ((d, .ref d []) :: killSs (at_ d []) (killSs (at_ e []) ss)) ((d, .sl .z true 1 1 [u]) :: (e, .junk undef) :: ms)))
    (ho : ops[i]? = some ⟨some d, .buildSlice t 1 #[(0, x)], ty, pos, af, gu⟩ := by rfl) (hop : Open ops ss ⟨some d, .buildSlice t 1 #[(0, x)], ty, pos, af, gu⟩ := by first | exact open_none rfl | exact open_some rfl rfl rfl)
    (hnp : np ≤ d := by decide) (hlt : d < nt := by decide) (hel : elemOf E t = some (ee, ei) := by rfl) (hsz : ei.sz = 1 := by rfl)
    (hx : (mkSt ss ms).ev x = .ref e [] := by exact ev_t rfl) (hm : ms.find? (fun x => x.1 == e) = some (e, u) := by rfl) (how : u.owned = true := by rfl) : wops E np nt ops Q (i :: rest) (mkSt ss ms) := by
  refine step_of ho hop (fun d' h => by simp at h; subst h; exact hlt) ?_
  simp only [wstep, wop, hel]
  have hmem := mem_of (ss := ss) hm
  refine ⟨hnp, hlt, rfl, [[u]], mkSt (killSs (at_ e []) ss) ((e, .junk undef) :: ms), ?_, ?_, ?_, ?_⟩
  · simp only [List.map_cons, List.map_nil, St.takeOs, St.takeO, hx, S.fine, if_true, S.flat, St.takeL, S.kill, nokill, Bool.false_eq_true, if_false, St.take1, hmem, V.get, how, V.set, mkSt_kill, mkSt_setMem]
  · simp [hsz]
  · simp [hsz]
  · rw [mkSt_bind, hsz]; exact kk
end

end Go.E
namespace Go.E

/-! ### Loops over states written out -/
def HasS (ss : List (Nat × S)) : List (Nat × S) → Prop
  | [] => True
  | x :: r => ss.find? (fun y => y.1 == x.1) = some x ∧ HasS ss r
def HasM (ms : List (Nat × V)) : List (Nat × V) → Prop
  | [] => True
  | x :: r => ms.find? (fun y => y.1 == x.1) = some x ∧ HasM ms r
theorem HasS.mem {ss ks : List (Nat × S)} (h : HasS ss ks) : ∀ x ∈ ks, look ss x.1 = x.2 := by
  induction ks with
  | nil => simp
  | cons y ks ih =>
    intro x hx
    rcases List.mem_cons.1 hx with rfl | hx
    · simp only [look, h.1, Option.map_some, Option.getD_some]
    · exact ih h.2 x hx
theorem HasM.mem {ss ks : List (Nat × V)} (h : HasM ss ks) : ∀ x ∈ ks, lookM ss x.1 = x.2 := by
  induction ks with
  | nil => simp
  | cons y ks ih =>
    intro x hx
    rcases List.mem_cons.1 hx with rfl | hx
    · simp only [lookM, h.1, Option.map_some, Option.getD_some]
    · exact ih h.2 x hx
def rooted (ks : List (Nat × S)) (km : List (Nat × V)) : Bool := ks.all fun y => y.2.rootsIn (km.map Prod.fst)
theorem ghost_has {np : Nat} {ss ks : List (Nat × S)} {ms km : List (Nat × V)} (h1 : HasS ss ks) (h2 : HasM ms km) (h3 : rooted ks km = true) : Ghost np (mkSt ss ms) (mkSt ks km) :=
  ghost_to ks km (fun x hx => h1.mem x hx) (fun x hx => h2.mem x hx) (fun x hx => by simp only [rooted, List.all_eq_true] at h3; exact h3 x hx)
/-- A root of another name. -/
def mvSs (d e : Nat) (ss : List (Nat × S)) : List (Nat × S) := ss.map fun x => (x.1, (x.2.kill (at_ e [])).ren d e)
theorem ghost_ren {np d e : Nat} {ss : List (Nat × S)} {ms : List (Nat × V)} {u : V} (he : np ≤ e) (hne : d ≠ e) (hu : ms.find? (fun y => y.1 == d) = some (d, u)) : Ghost np (mkSt ss ms) (mkSt (mvSs d e ss) ((d, .junk undef) :: (e, u) :: ms)) := by
  have := ghost_mv (np := np) (mkSt ss ms) he hne
  have e2 : (mkSt ss ms).mv d e = mkSt (mvSs d e ss) ((d, .junk undef) :: (e, u) :: ms) := by
    simp only [St.mv, mkSt, St.mk.injEq]
    constructor
    · funext t
      rw [mvSs, look_map (fun s => (s.kill (at_ e [])).ren d e) rfl]
    · funext k
      simp only [upd, lookM, List.find?_cons]
      by_cases h1 : k = d
      · subst h1; simp
      · have b1 : (d == k) = false := by simpa using fun k => h1 k.symm
        simp only [h1, if_false, b1]
        by_cases h2 : k = e
        · subst h2; simp [hu]
        · have b2 : (e == k) = false := by simpa using fun k => h2 k.symm
          simp [h2, b2]
  rw [e2] at this; exact this
theorem ghost_nil {np t e sz : Nat} {ss : List (Nat × S)} {ms : List (Nat × V)} {α : Type} (c : α → List V) (he : np ≤ e) (hs : ss.find? (fun y => y.1 == t) = some (t, .v (.val (.slice none 0 0)))) : Ghost np (mkSt ss ms) (mkSt ((t, .ref e []) :: killSs (at_ e []) ss) ((e, eL true sz c []) :: ms)) := by
  have := ghost_ownNil (np := np) (mkSt ss ms) (t := t) (e := e) sz he (by simp [mkSt, look, hs])
  have e2 : (mkSt ss ms).ownNil t e sz = mkSt ((t, .ref e []) :: killSs (at_ e []) ss) ((e, eL true sz c []) :: ms) := by
    simp only [St.ownNil, mkSt, St.mk.injEq]
    constructor
    · funext k
      simp only [look, List.find?_cons]
      by_cases h : k = t
      · subst h; simp
      · have : (t == k) = false := by simpa using fun q => h q.symm
        simp only [h, if_false, this]
        exact (look_map (fun s => s.kill (at_ e [])) rfl k).symm
    · funext k
      simp only [upd, lookM, List.find?_cons]
      by_cases h : k = e
      · subst h; simp [eL]
      · have : (e == k) = false := by simpa using fun q => h q.symm
        simp [h, this]
  rw [e2] at this; exact this
section
variable {E : Env} {np nt : Nat} {Q : Exit → St → Prop} {ss : List (Nat × S)} {ms : List (Nat × V)}
/-- A loop: what changes (new, newm, by variables X), what stays (ks, km). -/
theorem a_loopK {X : Type} {c : Code} {σ : St} (new : X → List (Nat × S)) (newm : X → List (Nat × V)) (I : Nat → X → Prop) (ks : List (Nat × S)) (km : List (Nat × V)) (n0 : Nat) (x0 : X)
    (hg : Ghost np σ (mkSt ss ms)) (h1 : HasS ss (new x0 ++ ks)) (h2 : HasM ms (newm x0 ++ km)) (h3 : ∀ x, rooted (new x ++ ks) (newm x ++ km) = true) (h0 : I n0 x0)
    (h : ∀ n x, I n x → ∀ K : St → Prop, (∀ n' x' σ' ss' ms', Ghost np σ' (mkSt ss' ms') → HasS ss' (new x' ++ ks) → HasM ms' (newm x' ++ km) → n' < n → I n' x' → K σ') → awp E np nt c (thenE K Q) (mkSt (new x ++ ks) (newm x ++ km))) : awp E np nt (.loop c) Q σ := by
  refine a_loop (fun n σ => ∃ x, I n x ∧ σ = mkSt (new x ++ ks) (newm x ++ km)) (n := n0) (hg.trans (ghost_has h1 h2 (h3 x0))) ⟨x0, h0, rfl⟩ ?_
  rintro n σ ⟨x, hI, rfl⟩ K hK
  exact h n x hI K fun n' x' σ' ss' ms' g k1 k2 k3 k4 => hK σ' n' _ k3 (g.trans (ghost_has k1 k2 (h3 x'))) ⟨x', k4, rfl⟩
/-- Two branches meet in a state written out. -/
theorem a_join {X : Type} {x y : Code} {σ : St} (new : X → List (Nat × S)) (newm : X → List (Nat × V)) (I : X → Prop) (ks : List (Nat × S)) (km : List (Nat × V)) (h3 : ∀ x, rooted (new x ++ ks) (newm x ++ km) = true)
    (h : ∀ K : St → Prop, (∀ x' σ' ss' ms', Ghost np σ' (mkSt ss' ms') → HasS ss' (new x' ++ ks) → HasM ms' (newm x' ++ km) → I x' → K σ') → awp E np nt x (thenE K Q) σ)
    (hy : ∀ x, I x → awp E np nt y Q (mkSt (new x ++ ks) (newm x ++ km))) : awp E np nt (.seq x y) Q σ :=
  a_seq fun K hK => h K fun x' σ' _ _ g k1 k2 k4 => hK σ' _ (g.trans (ghost_has k1 k2 (h3 x'))) (hy x' k4)
theorem slot_int {k : Nat} {kd : IntKind} {a b : Int} (h : a = b) : (some (k, S.v (.val (.int kd a))) : Option (Nat × S)) = some (k, S.v (.val (.int kd b))) := by rw [h]
theorem root_eL {k : Nat} {α : Type} {o : Bool} {sz : Nat} {c : α → List V} {a b : List α} (h : a = b) : (some (k, eL o sz c a) : Option (Nat × V)) = some (k, eL o sz c b) := by rw [h]

/-! ### What is lent -/
theorem lendL_nil {σ : St} : σ.lendL [] = some [] := rfl
theorem lendL_cons {σ : St} {s : S} {l : List S} {u : V} {us : List V} (h : σ.lend s = some u) (h2 : σ.lendL l = some us) : σ.lendL (s :: l) = some (u :: us) := by
  simp only [St.lendL, h, h2]
theorem lend_ref {e : Nat} {u u' : V} (h : ms.find? (fun x => x.1 == e) = some (e, u)) (hr : u.ro = u') (ho : u.owned = true := by rfl) : (mkSt ss ms).lend (.ref e []) = some u' := by
  simp only [St.lend, mem_of h, V.get, ho, if_true, hr]
theorem lend_refp {e : Nat} {p : List Nat} {u u' : V} (h : ((mkSt ss ms).mem e).get p = some u) (hr : u.ro = u') (ho : u.owned = true := by rfl) : (mkSt ss ms).lend (.ref e p) = some u' := by
  simp only [St.lend, h, ho, if_true, hr]
theorem lend_agg {σ : St} {l : List S} {us : List V} (h : σ.lendL l = some us) : σ.lend (.agg l) = some (.agg us) := by
  simp only [St.lend, h]

/-! ### Integers -/
theorem wrap64 {x : Int} (h : -9223372036854775808 ≤ x ∧ x ≤ 9223372036854775807) : IntKind.i64.wrap x = x := by rw [IntKind.wrap_i64]; omega
end

end Go.E
namespace Go.E

/-! ### What a truth value says -/
def BP (b : Bool) (p : Prop) : Prop := b = true ↔ p
theorem BP.beq {α : Type} [BEq α] [LawfulBEq α] {a b : α} : BP (a == b) (a = b) := by simp [BP]
theorem BP.bne {α : Type} [BEq α] [LawfulBEq α] {a b : α} : BP (a != b) (a ≠ b) := by simp [BP]
theorem BP.dec {p : Prop} {i : Decidable p} : BP (@decide p i) p := by simp [BP]
theorem BP.not {b : Bool} {p : Prop} (h : BP b p) : BP (!b) (¬ p) := by
  simp only [BP] at *
  rw [← h]; simp
theorem BP.id {b : Bool} : BP b (b = true) := Iff.rfl
section
variable {E : Env} {np nt : Nat} {ops : Array Oper} {Q : Exit → St → Prop} {i : Nat} {rest : List Nat} {ss ss1 : List (Nat × S)} {ms ms1 : List (Nat × V)} {d : Nat}
variable {ty : TypeId} {pos : String} {af : Array Edge} {gu : Option (Nat × Bool)} {x y : Operand} {s sx sy : S}
theorem a_condP {σ : St} {c : Operand} {x y : Code} {b : Bool} {p : Prop} (ht : (σ.ev c).bool? = some b) (hb : BP b p) (h1 : p → awp E np nt x Q σ) (h2 : ¬ p → awp E np nt y Q σ) : awp E np nt (.cond c x y) Q σ :=
  a_cond ht (fun h => h1 (hb.1 h)) (fun h => h2 fun hp => by rw [hb.2 hp] at h; cases h)
theorem a_condT {σ : St} {c : Operand} {x y : Code} (ht : (σ.ev c).bool? = some true) (h1 : awp E np nt x Q σ) : awp E np nt (.cond c x y) Q σ := a_cond ht (fun _ => h1) (fun h => by cases h)
theorem a_condF {σ : St} {c : Operand} {x y : Code} (ht : (σ.ev c).bool? = some false) (h1 : awp E np nt y Q σ) : awp E np nt (.cond c x y) Q σ := a_cond ht (fun h => by cases h) (fun _ => h1)
theorem a_ret {σ : St} (h : Q .ret σ) : awp E np nt .ret Q σ := h
theorem a_skip {σ : St} (h : Q .normal σ) : awp E np nt .skip Q σ := h
theorem a_exit {σ : St} {id : Nat} (h : Q (.exit id) σ) : awp E np nt (.exit id) Q σ := h
theorem mkSt_known {t : Nat} {s : S} (h : ss.find? (fun x => x.1 == t) = some (t, s)) : mkSt ss ms = mkSt ((t, s) :: ss) ms := by
  simp only [mkSt, St.mk.injEq, and_true]
  funext k
  simp only [look, List.find?_cons]
  by_cases hk : t = k
  · subst hk; simp [h]
  · have : (t == k) = false := by simpa using hk
    simp [this]
/-- A truth value in a slot: two cases. -/
theorem x_split {l : List Nat} {b : Bool} {p : Prop} (t : Nat) (hf : ss.find? (fun x => x.1 == t) = some (t, .v (.val (.bool b)))) (hb : BP b p)
    (h1 : p → wops E np nt ops Q l (mkSt ((t, .v (.val (.bool true))) :: ss) ms)) (h2 : ¬ p → wops E np nt ops Q l (mkSt ((t, .v (.val (.bool false))) :: ss) ms)) : wops E np nt ops Q l (mkSt ss ms) := by
  cases b with
  | true => rw [mkSt_known hf]; exact h1 (hb.1 rfl)
  | false => rw [mkSt_known hf]; exact h2 fun hp => by have := hb.2 hp; cases this
/-- Any plain operation that can be reckoned out. -/
theorem x_any {op : Op} (k : wops E np nt ops Q rest (mkSt ((d, s) :: ss) ms))
    (ho : ops[i]? = some ⟨some d, op, ty, pos, af, gu⟩ := by rfl) (hop : Open ops ss ⟨some d, op, ty, pos, af, gu⟩ := by first | exact open_none rfl | exact open_some rfl rfl rfl) (hp : plain op = true := by rfl) (hlt : d < nt := by decide)
    (hs : (mkSt ss ms).calc E op = some s := by rfl) : wops E np nt ops Q (i :: rest) (mkSt ss ms) := calc_of ho hop hp hlt hs k
theorem x_add {t t' : TypeId} {a b : Int} (hb : -9223372036854775808 ≤ a + b ∧ a + b ≤ 9223372036854775807) (k : wops E np nt ops Q rest (mkSt ((d, .v (.val (.int .i64 (a + b)))) :: ss) ms))
    (ho : ops[i]? = some ⟨some d, .binOp .add t x y t', ty, pos, af, gu⟩ := by rfl) (hop : Open ops ss ⟨some d, .binOp .add t x y t', ty, pos, af, gu⟩ := by first | exact open_none rfl | exact open_some rfl rfl rfl) (hlt : d < nt := by decide)
    (hx : (mkSt ss ms).ev x = .v (.val (.int .i64 a)) := by first | exact ev_t rfl | exact ev_c) (hy : (mkSt ss ms).ev y = .v (.val (.int .i64 b)) := by first | exact ev_t rfl | exact ev_c) : wops E np nt ops Q (i :: rest) (mkSt ss ms) :=
  calc_of ho hop rfl hlt (by
    simp only [St.calc, hx, hy, St.bin, S.int?, shifts, if_true, ints, wrap64 hb, Option.map_some]) k
theorem x_sub {t t' : TypeId} {a b : Int} (hb : -9223372036854775808 ≤ a - b ∧ a - b ≤ 9223372036854775807) (k : wops E np nt ops Q rest (mkSt ((d, .v (.val (.int .i64 (a - b)))) :: ss) ms))
    (ho : ops[i]? = some ⟨some d, .binOp .sub t x y t', ty, pos, af, gu⟩ := by rfl) (hop : Open ops ss ⟨some d, .binOp .sub t x y t', ty, pos, af, gu⟩ := by first | exact open_none rfl | exact open_some rfl rfl rfl) (hlt : d < nt := by decide)
    (hx : (mkSt ss ms).ev x = .v (.val (.int .i64 a)) := by first | exact ev_t rfl | exact ev_c) (hy : (mkSt ss ms).ev y = .v (.val (.int .i64 b)) := by first | exact ev_t rfl | exact ev_c) : wops E np nt ops Q (i :: rest) (mkSt ss ms) :=
  calc_of ho hop rfl hlt (by
    simp only [St.calc, hx, hy, St.bin, S.int?, shifts, if_true, ints, wrap64 hb, Option.map_some]) k
theorem x_mul {t t' : TypeId} {a b : Int} (hb : -9223372036854775808 ≤ a * b ∧ a * b ≤ 9223372036854775807) (k : wops E np nt ops Q rest (mkSt ((d, .v (.val (.int .i64 (a * b)))) :: ss) ms))
    (ho : ops[i]? = some ⟨some d, .binOp .mul t x y t', ty, pos, af, gu⟩ := by rfl) (hop : Open ops ss ⟨some d, .binOp .mul t x y t', ty, pos, af, gu⟩ := by first | exact open_none rfl | exact open_some rfl rfl rfl) (hlt : d < nt := by decide)
    (hx : (mkSt ss ms).ev x = .v (.val (.int .i64 a)) := by first | exact ev_t rfl | exact ev_c) (hy : (mkSt ss ms).ev y = .v (.val (.int .i64 b)) := by first | exact ev_t rfl | exact ev_c) : wops E np nt ops Q (i :: rest) (mkSt ss ms) :=
  calc_of ho hop rfl hlt (by
    simp only [St.calc, hx, hy, St.bin, S.int?, shifts, if_true, ints, wrap64 hb, Option.map_some]) k
/-- A new slice of zeros, as a list. -/
theorem x_mk {α : Type} {c : α → List V} {z : α} {sz : Nat} {t e n : Nat} {ei : TI} {l m : Operand} {kd : IntKind} (hn : n ≤ 1073741824)
    (kk : wops E np nt ops Q rest (mkSt ((d, .ref d []) :: killSs (at_ d []) ss) ((d, eL true sz c (List.replicate n z)) :: ms)))
    (hz : c z = ei.zero.map V.val)
    (ho : ops[i]? = some ⟨some d, .makeSlice t l m, ty, pos, af, gu⟩ := by rfl) (hop : Open ops ss ⟨some d, .makeSlice t l m, ty, pos, af, gu⟩ := by first | exact open_none rfl | exact open_some rfl rfl rfl) (hnp : np ≤ d := by decide) (hlt : d < nt := by decide)
    (hel : elemOf E t = some (e, ei) := by rfl) (hsz : ei.sz = sz := by rfl) (hby : ei.by_ ≤ 65536 := by decide) (hl : (mkSt ss ms).ev l = .v (.val (.int kd (n : Int))) := by first | exact ev_t rfl | exact ev_c) (hc : (mkSt ss ms).ev m = .v (.val (.int kd (n : Int))) := by first | exact ev_t rfl | exact ev_c) : wops E np nt ops Q (i :: rest) (mkSt ss ms) := by
  subst hsz
  have hb : n * ei.by_ ≤ 281474976710656 := calc
    n * ei.by_ ≤ 1073741824 * 65536 := Nat.mul_le_mul hn hby
    _ ≤ 281474976710656 := by decide
  refine x_make (n := n) (ei := ei) hb (by omega) ?_ ho hop hnp hlt hel hl hc
  have : eL true ei.sz c (List.replicate n z) = .sl .z true ei.sz n (List.replicate n (ei.zero.map V.val)).flatten := by
    simp only [eL, List.length_replicate, List.flatMap_def, List.map_replicate, hz]
  rw [← this]; exact kk
def vals? : List S → Option (List Value)
  | [] => some []
  | .v (.val v) :: l => (vals? l).map (v :: ·)
  | _ :: _ => none
theorem vals?_some : ∀ {l : List S} {vs : List Value}, vals? l = some vs → l = vs.map fun v => S.v (.val v) := by
  intro l
  induction l with
  | nil => intro vs h; simp [vals?] at h; subst h; rfl
  | cons x l ih =>
    intro vs h
    unfold vals? at h
    split at h
    · rename_i h0; cases h0
    · rename_i v l' h0
      cases h0
      simp only [Option.map_eq_some_iff] at h
      obtain ⟨us, h1, rfl⟩ := h
      rw [ih h1]; rfl
    · cases h
/-- A struct of plain values stored into a list of the function's own. -/
theorem x_stN' {α : Type} {c : α → List V} {sz k t : Nat} {l : List α} {ti : TI} {e : Nat} {a : α} {vs : List Value} {cells : List S} (hk : k < l.length)
    (kk : wops E np nt ops Q rest (mkSt (killSs (on_ e [] (0 + k * sz) vs.length) ss) ((e, eL true sz c (l.set k a)) :: ms)))
    (ho : ops[i]? = some ⟨none, .store t x y, ty, pos, af, gu⟩ := by rfl) (hop : Open ops ss ⟨none, .store t x y, ty, pos, af, gu⟩ := by first | exact open_none rfl | exact open_some rfl rfl rfl)
    (hx : (mkSt ss ms).ev x = sx := by first | exact ev_t rfl | exact ev_c) (ha : (mkSt ss ms).adr sx = some (.own e [] (0 + k * sz)) := by rfl) (hm : (mkSt ss ms).mem e = eL true sz c l := by rfl) (hy : (mkSt ss ms).ev y = .agg cells := by exact ev_t rfl) (hcs : vals? cells = some vs := by rfl) (hv : c a = vs.map V.val := by rfl) (hc : ∀ a, (c a).length = sz := by intro _; rfl) (ht : E.tt t = some ti := by rfl) (h1 : vs.length = ti.sz := by rfl) (h0 : 0 < ti.sz := by decide)
    (hf : (S.agg (vs.map fun v => S.v (.val v))).fine = true := by rfl) (hone : (vs.map V.val).all V.one = true := by rfl) : wops E np nt ops Q (i :: rest) (mkSt ss ms) :=
  x_stN hk kk ho hop hx ha hm (by rw [hy, vals?_some hcs]) hv hc ht h1 h0 hf hone
/-- A struct of plain values, stored. -/
theorem x_storeAgg' {t e k : Nat} {p : List Nat} {ti : TI} {c : V} {l : List Value} {cells : List S}
    (kk : wops E np nt ops Q rest (mkSt (killSs (on_ e p k l.length) ss) ((e, ((mkSt ss ms).mem e).set p (c.withCells (putV c.cells k (l.map V.val)))) :: ms)))
    (ho : ops[i]? = some ⟨none, .store t x y, ty, pos, af, gu⟩ := by rfl) (hop : Open ops ss ⟨none, .store t x y, ty, pos, af, gu⟩ := by first | exact open_none rfl | exact open_some rfl rfl rfl)
    (hx : (mkSt ss ms).ev x = sx := by first | exact ev_t rfl | exact ev_c) (ha : (mkSt ss ms).adr sx = some (.own e p k) := by rfl) (hy : (mkSt ss ms).ev y = .agg cells := by exact ev_t rfl) (hcs : vals? cells = some l := by rfl) (ht : E.tt t = some ti := by rfl)
    (hm : ((mkSt ss ms).mem e).get p = some c := by rfl) (how : c.owned = true := by rfl) (hk : k + l.length ≤ c.cells.length := by exact Nat.le_of_ble_eq_true rfl) (hone : (l.map V.val).all V.one = true := by rfl) (h1 : l.length = ti.sz := by rfl) (h0 : 0 < ti.sz := by decide)
    (hf : (S.agg (l.map fun v => S.v (.val v))).fine = true := by rfl) : wops E np nt ops Q (i :: rest) (mkSt ss ms) :=
  x_storeAgg hm how hk hone kk ho hop hx ha (by rw [hy, vals?_some hcs]) ht h1 h0 hf
/-- A plain value stored in a cell. -/
theorem x_storeVal' {t e k : Nat} {p : List Nat} {ti : TI} {c : V} {v : Value}
    (kk : wops E np nt ops Q rest (mkSt (killSs (on_ e p k 1) ss) ((e, ((mkSt ss ms).mem e).set p (c.withCells (putV c.cells k [.val v]))) :: ms)))
    (ho : ops[i]? = some ⟨none, .store t x y, ty, pos, af, gu⟩ := by rfl) (hop : Open ops ss ⟨none, .store t x y, ty, pos, af, gu⟩ := by first | exact open_none rfl | exact open_some rfl rfl rfl)
    (hx : (mkSt ss ms).ev x = sx := by first | exact ev_t rfl | exact ev_c) (ha : (mkSt ss ms).adr sx = some (.own e p k) := by rfl) (hy : (mkSt ss ms).ev y = .v (.val v) := by first | exact ev_t rfl | exact ev_c) (ht : E.tt t = some ti := by rfl) (h1 : ti.sz = 1 := by rfl)
    (hm : ((mkSt ss ms).mem e).get p = some c := by rfl) (how : c.owned = true := by rfl) (hk : k < c.cells.length := by exact Nat.le_of_ble_eq_true rfl)
    (hf : (S.v (.val v)).fine = true := by rfl) (hone : V.one (.val v) = true := by rfl) : wops E np nt ops Q (i :: rest) (mkSt ss ms) :=
  x_storeVal hm how hk kk ho hop hx ha hy ht h1 hf hone
/-- A struct of plain values in cells of its own. -/
theorem x_boxAgg' {t : TypeId} {l : List Value} {cells : List S} (k : wops E np nt ops Q rest (mkSt ((d, .ref d []) :: killSs (at_ d []) ss) ((d, .ptr .z true (l.map V.val)) :: ms)))
    (ho : ops[i]? = some ⟨some d, .box t x, ty, pos, af, gu⟩ := by rfl) (hop : Open ops ss ⟨some d, .box t x, ty, pos, af, gu⟩ := by first | exact open_none rfl | exact open_some rfl rfl rfl) (hnp : np ≤ d := by decide) (hlt : d < nt := by decide)
    (hx : (mkSt ss ms).ev x = .agg cells := by exact ev_t rfl) (hcs : vals? cells = some l := by rfl) : wops E np nt ops Q (i :: rest) (mkSt ss ms) :=
  x_boxAgg k ho hop hnp hlt (by rw [hx, vals?_some hcs])
/-- A loop, with a measure. -/
theorem a_loopM {X : Type} {c : Code} {σ : St} (new : X → List (Nat × S)) (newm : X → List (Nat × V)) (I : X → Prop) (m : X → Nat) (ks : List (Nat × S)) (km : List (Nat × V)) (x0 : X)
    (hg : Ghost np σ (mkSt ss ms)) (h1 : HasS ss (new x0 ++ ks)) (h2 : HasM ms (newm x0 ++ km)) (h3 : ∀ x, rooted (new x ++ ks) (newm x ++ km) = true) (h0 : I x0)
    (h : ∀ x, I x → ∀ K : St → Prop, (∀ x' σ' ss' ms', Ghost np σ' (mkSt ss' ms') → HasS ss' (new x' ++ ks) → HasM ms' (newm x' ++ km) → m x' < m x → I x' → K σ') → awp E np nt c (thenE K Q) (mkSt (new x ++ ks) (newm x ++ km))) : awp E np nt (.loop c) Q σ :=
  a_loopK new newm (fun n x => n = m x ∧ I x) ks km (m x0) x0 hg h1 h2 h3 ⟨rfl, h0⟩ fun n x hI K hK => h x hI.2 K fun x' σ' ss' ms' g k1 k2 k3 k4 => hK (m x') x' σ' ss' ms' g k1 k2 (by rw [hI.1]; exact k3) ⟨rfl, k4⟩
end

end Go.E
namespace Go.E

section
variable {E : Env} {fn : Func} {np : Nat} {post : V → List V → Prop} {ss ss1 : List (Nat × S)} {ms ms1 : List (Nat × V)} {e : Exit}
/-- Leaving, whatever the results. -/
theorem leave_gen {us vs : List V} (he : e = .normal ∨ e = .ret) (hc : cellsOk E fn (mkSt ss ms) = true) (hap : apart (ownL (resSlots E fn (mkSt ss ms))) = true) (ht : (mkSt ss ms).takes (ownL (resSlots E fn (mkSt ss ms))) = some (us, mkSt ss1 ms1)) (ha : asm (mkSt ss1 ms1) (resSlots E fn (mkSt ss ms)) us = some vs)
    (hf : (V.one? vs).free = true) (ho : V.freeL (outsOf np ms1) = true) (hp : post (V.one? vs) (outsOf np ms1)) : leaveK E fn np post e (mkSt ss ms) :=
  leave_of he hc rfl hap ht ha hf ho hp
theorem takes_refp {d : Nat} {p : List Nat} {u u' : V} {l : List S} {us : List V} (hm : ((mkSt ss ms).mem d).get p = some u) (ho : u.owned = true) (hs : ((mkSt ss ms).mem d).set p (.junk undef) = u') (hr : (mkSt (killSs (at_ d p) ss) ((d, u') :: ms)).takes l = some (us, mkSt ss1 ms1)) :
    (mkSt ss ms).takes (.ref d p :: l) = some (u :: us, mkSt ss1 ms1) := by
  simp only [St.takes, St.take1, hm, ho, if_true, hs, mkSt_kill, mkSt_setMem, hr]
end
end Go.E
namespace Go.E
section
variable {E : Env} {np nt : Nat} {ops : Array Oper} {Q : Exit → St → Prop} {i : Nat} {rest : List Nat} {ss ss1 : List (Nat × S)} {ms ms1 : List (Nat × V)} {d : Nat}
variable {ty : TypeId} {pos : String} {af : Array Edge} {gu : Option (Nat × Bool)} {x y : Operand} {s sx sy : S}
def departsL (ops : Array Oper) : Bool := ops.toList.any (·.after.toList.any fun e => !Region.binds .any e)
theorem departs_of (h : departsL ops = false) : Region.departs ops = false := by
  unfold Region.departs departsL at *
  rw [← h, ← Array.any_toList]
  congr 1
  funext o
  rw [Array.any_toList]
/-- A region whose order is drawn, in the order of its text. -/
theorem a_drawn {id : Nat} {σ : St} {l : List Nat} (hl : List.range ops.size = l) (hd : departsL ops = false) (hb : drawB ops [] = true) (h : ∀ K : Exit → St → Prop, K .normal = Q .normal → wops E np nt ops K l σ) : awp E np nt (.region id ops true) Q σ :=
  a_draw hl (departs_of hd) hb h
theorem x_putK {t e k : Nat} {ti : TI} {cs cs' : List V} {v : Value} (hput : putV cs k [.val v] = cs') (hk : k < cs.length)
    (kk : wops E np nt ops Q rest (mkSt (killSs (on_ e [] k 1) ss) ((e, .ptr .z true cs') :: ms)))
    (ho : ops[i]? = some ⟨none, .store t x y, ty, pos, af, gu⟩) (hop : Open ops ss ⟨none, .store t x y, ty, pos, af, gu⟩)
    (hx : (mkSt ss ms).ev x = sx) (ha : (mkSt ss ms).adr sx = some (.own e [] k)) (hy : (mkSt ss ms).ev y = .v (.val v)) (ht : E.tt t = some ti) (h1 : ti.sz = 1)
    (hm : ms.find? (fun x => x.1 == e) = some (e, .ptr .z true cs))
    (hf : (S.v (.val v)).fine = true) (hone : V.one (.val v) = true) : wops E np nt ops Q (i :: rest) (mkSt ss ms) := by
  refine x_storeVal (p := []) (c := .ptr .z true cs) (by rw [mem_of hm]; rfl) rfl hk ?_ ho hop hx ha hy ht h1 hf hone
  have : ((mkSt ss ms).mem e).set [] ((V.ptr .z true cs).withCells (putV (V.ptr .z true cs).cells k [.val v])) = .ptr .z true cs' := by
    rw [← hput]; rfl
  rw [this]; exact kk
/-- A plain value stored in the first cell. -/
theorem x_put0 {t e : Nat} {ti : TI} {a0 : V} {cs : List V} {v : Value} 
    (kk : wops E np nt ops Q rest (mkSt (killSs (on_ e [] 0 1) ss) ((e, .ptr .z true (.val v :: cs)) :: ms)))
    (ho : ops[i]? = some ⟨none, .store t x y, ty, pos, af, gu⟩ := by rfl) (hop : Open ops ss ⟨none, .store t x y, ty, pos, af, gu⟩ := by first | exact open_none rfl | exact open_some rfl rfl rfl)
    (hx : (mkSt ss ms).ev x = sx := by first | exact ev_t rfl | exact ev_c) (ha : (mkSt ss ms).adr sx = some (.own e [] 0) := by rfl) (hy : (mkSt ss ms).ev y = .v (.val v) := by first | exact ev_t rfl | exact ev_c) (ht : E.tt t = some ti := by rfl) (h1 : ti.sz = 1 := by rfl)
    (hm : ms.find? (fun x => x.1 == e) = some (e, .ptr .z true (a0 :: cs)) := by rfl)
    (hf : (S.v (.val v)).fine = true := by rfl) (hone : V.one (.val v) = true := by rfl) : wops E np nt ops Q (i :: rest) (mkSt ss ms) :=
  x_putK (cs := a0 :: cs) (cs' := .val v :: cs) rfl (by simp) kk ho hop hx ha hy ht h1 hm hf hone
theorem x_put1 {t e : Nat} {ti : TI} {a0 a1 : V} {cs : List V} {v : Value} 
    (kk : wops E np nt ops Q rest (mkSt (killSs (on_ e [] 1 1) ss) ((e, .ptr .z true (a0 :: .val v :: cs)) :: ms)))
    (ho : ops[i]? = some ⟨none, .store t x y, ty, pos, af, gu⟩ := by rfl) (hop : Open ops ss ⟨none, .store t x y, ty, pos, af, gu⟩ := by first | exact open_none rfl | exact open_some rfl rfl rfl)
    (hx : (mkSt ss ms).ev x = sx := by first | exact ev_t rfl | exact ev_c) (ha : (mkSt ss ms).adr sx = some (.own e [] 1) := by rfl) (hy : (mkSt ss ms).ev y = .v (.val v) := by first | exact ev_t rfl | exact ev_c) (ht : E.tt t = some ti := by rfl) (h1 : ti.sz = 1 := by rfl)
    (hm : ms.find? (fun x => x.1 == e) = some (e, .ptr .z true (a0 :: a1 :: cs)) := by rfl)
    (hf : (S.v (.val v)).fine = true := by rfl) (hone : V.one (.val v) = true := by rfl) : wops E np nt ops Q (i :: rest) (mkSt ss ms) :=
  x_putK (cs := a0 :: a1 :: cs) (cs' := a0 :: .val v :: cs) rfl (by simp) kk ho hop hx ha hy ht h1 hm hf hone
theorem x_put2 {t e : Nat} {ti : TI} {a0 a1 a2 : V} {cs : List V} {v : Value} 
    (kk : wops E np nt ops Q rest (mkSt (killSs (on_ e [] 2 1) ss) ((e, .ptr .z true (a0 :: a1 :: .val v :: cs)) :: ms)))
    (ho : ops[i]? = some ⟨none, .store t x y, ty, pos, af, gu⟩ := by rfl) (hop : Open ops ss ⟨none, .store t x y, ty, pos, af, gu⟩ := by first | exact open_none rfl | exact open_some rfl rfl rfl)
    (hx : (mkSt ss ms).ev x = sx := by first | exact ev_t rfl | exact ev_c) (ha : (mkSt ss ms).adr sx = some (.own e [] 2) := by rfl) (hy : (mkSt ss ms).ev y = .v (.val v) := by first | exact ev_t rfl | exact ev_c) (ht : E.tt t = some ti := by rfl) (h1 : ti.sz = 1 := by rfl)
    (hm : ms.find? (fun x => x.1 == e) = some (e, .ptr .z true (a0 :: a1 :: a2 :: cs)) := by rfl)
    (hf : (S.v (.val v)).fine = true := by rfl) (hone : V.one (.val v) = true := by rfl) : wops E np nt ops Q (i :: rest) (mkSt ss ms) :=
  x_putK (cs := a0 :: a1 :: a2 :: cs) (cs' := a0 :: a1 :: .val v :: cs) rfl (by simp) kk ho hop hx ha hy ht h1 hm hf hone
theorem x_put3 {t e : Nat} {ti : TI} {a0 a1 a2 a3 : V} {cs : List V} {v : Value} 
    (kk : wops E np nt ops Q rest (mkSt (killSs (on_ e [] 3 1) ss) ((e, .ptr .z true (a0 :: a1 :: a2 :: .val v :: cs)) :: ms)))
    (ho : ops[i]? = some ⟨none, .store t x y, ty, pos, af, gu⟩ := by rfl) (hop : Open ops ss ⟨none, .store t x y, ty, pos, af, gu⟩ := by first | exact open_none rfl | exact open_some rfl rfl rfl)
    (hx : (mkSt ss ms).ev x = sx := by first | exact ev_t rfl | exact ev_c) (ha : (mkSt ss ms).adr sx = some (.own e [] 3) := by rfl) (hy : (mkSt ss ms).ev y = .v (.val v) := by first | exact ev_t rfl | exact ev_c) (ht : E.tt t = some ti := by rfl) (h1 : ti.sz = 1 := by rfl)
    (hm : ms.find? (fun x => x.1 == e) = some (e, .ptr .z true (a0 :: a1 :: a2 :: a3 :: cs)) := by rfl)
    (hf : (S.v (.val v)).fine = true := by rfl) (hone : V.one (.val v) = true := by rfl) : wops E np nt ops Q (i :: rest) (mkSt ss ms) :=
  x_putK (cs := a0 :: a1 :: a2 :: a3 :: cs) (cs' := a0 :: a1 :: a2 :: .val v :: cs) rfl (by simp) kk ho hop hx ha hy ht h1 hm hf hone
/-- A struct of plain values stored over the whole of a variable. -/
theorem x_putAll {t e : Nat} {ti : TI} {cs : List V} {l : List Value} {cells : List S}
    (kk : wops E np nt ops Q rest (mkSt (killSs (on_ e [] 0 l.length) ss) ((e, .ptr .z true (l.map V.val)) :: ms)))
    (ho : ops[i]? = some ⟨none, .store t x y, ty, pos, af, gu⟩ := by rfl) (hop : Open ops ss ⟨none, .store t x y, ty, pos, af, gu⟩ := by first | exact open_none rfl | exact open_some rfl rfl rfl)
    (hx : (mkSt ss ms).ev x = sx := by first | exact ev_t rfl | exact ev_c) (ha : (mkSt ss ms).adr sx = some (.own e [] 0) := by rfl) (hy : (mkSt ss ms).ev y = .agg cells := by exact ev_t rfl) (hcs : vals? cells = some l := by rfl) (ht : E.tt t = some ti := by rfl)
    (hm : ms.find? (fun x => x.1 == e) = some (e, .ptr .z true cs) := by rfl) (hk : cs.length = l.length := by rfl) (hone : (l.map V.val).all V.one = true := by rfl) (h1 : l.length = ti.sz := by rfl) (h0 : 0 < ti.sz := by decide)
    (hf : (S.agg (l.map fun v => S.v (.val v))).fine = true := by rfl) : wops E np nt ops Q (i :: rest) (mkSt ss ms) := by
  refine x_storeAgg (p := []) (c := .ptr .z true cs) (l := l) (by rw [mem_of hm]; rfl) rfl (by show 0 + l.length ≤ cs.length; omega) hone ?_ ho hop hx ha (by rw [hy, vals?_some hcs]) ht h1 h0 hf
  have : ((mkSt ss ms).mem e).set [] ((V.ptr .z true cs).withCells (putV (V.ptr .z true cs).cells 0 (l.map V.val))) = .ptr .z true (l.map V.val) := by
    show V.ptr .z true (putV cs 0 (l.map V.val)) = _
    simp [putV, ← hk]
  rw [this]; exact kk
end
end Go.E
namespace Go.E

/-! ### What a law is handed, as lists -/
section
variable {E : Env} {F t : Nat}
theorem argsT_cons {ts : List Nat} {us : List V} (h : ArgsT E F (t :: ts) us) : ∃ u us', us = u :: us' ∧ ArgT E F t u ∧ ArgsT E F ts us' := by
  cases us with
  | nil => exact h.elim
  | cons u us => exact ⟨u, us, rfl, h.1, h.2⟩
theorem argsT_nil {us : List V} (h : ArgsT E F [] us) : us = [] := by
  cases us with
  | nil => rfl
  | cons u us => exact h.elim
theorem typed_int {us : List V} {k : IntKind} {ti : TI} (h : Typed E (F + 1) t us) (ht : E.tt t = some ti) (hk : ti.kind = .int k) : ∃ n, us = [.val (.int k n)] ∧ (Lit.int k n).wf = true := by
  simpa only [Typed, ht, hk] using h
theorem typed_bool {us : List V} {ti : TI} (h : Typed E (F + 1) t us) (ht : E.tt t = some ti) (hk : ti.kind = .bool) : ∃ b, us = [.val (.bool b)] := by
  simpa only [Typed, ht, hk] using h
theorem typed_string {us : List V} {ti : TI} (h : Typed E (F + 1) t us) (ht : E.tt t = some ti) (hk : ti.kind = .string) : ∃ s : ByteArray, us = [.val (.string s)] ∧ s.size ≤ maxLen := by
  simpa only [Typed, ht, hk] using h
theorem typed_list {α : Type} {us : List V} {ti ei : TI} {e : Nat} {c : α → List V} (h : Typed E (F + 1) t us) (ht : E.tt t = some ti) (hk : ti.kind = .slice e) (he : E.tt e = some ei) (hel : ∀ el, Typed E F e el → ∃ a, el = c a) :
    ∃ l : List α, us = cL false ei.sz c l ∧ l.length ≤ maxLen := by
  simp only [Typed, ht, hk] at h
  obtain ⟨ei', els, h1, rfl, h2, h3⟩ := h
  rw [he] at h1
  simp only [Option.some.injEq] at h1; subst h1
  have : ∀ els : List (List V), (∀ el ∈ els, Typed E F e el ∧ el.length = ei.sz) → ∃ l : List α, els = l.map c := by
    intro els
    induction els with
    | nil => intro _; exact ⟨[], rfl⟩
    | cons x els ih =>
      intro h
      obtain ⟨a, ha⟩ := hel x (h x (by simp)).1
      obtain ⟨l, hl⟩ := ih fun y hy => h y (by simp [hy])
      exact ⟨a :: l, by rw [ha, hl]; rfl⟩
  obtain ⟨l, rfl⟩ := this els h3
  refine ⟨l, ?_, by simpa using h2⟩
  simp only [cL, eL, List.length_map, List.flatMap_def]
theorem typed_strct {us : List V} {ti : TI} {fl : List (Nat × Nat)} (h : Typed E (F + 1) t us) (ht : E.tt t = some ti) (hk : ti.kind = .strct fl) : ∃ parts : List (List V), us = parts.flatten ∧ parts.length = fl.length ∧ ∀ (i : Nat) (p : List V) (off ft : Nat), parts[i]? = some p → fl[i]? = some (off, ft) → Typed E F ft p := by
  simpa only [Typed, ht, hk] using h
theorem typed_strct3 {us : List V} {ti : TI} {o0 o1 o2 t0 t1 t2 : Nat} (h : Typed E (F + 1) t us) (ht : E.tt t = some ti) (hk : ti.kind = .strct [(o0, t0), (o1, t1), (o2, t2)]) : ∃ p0 p1 p2, us = p0 ++ p1 ++ p2 ∧ Typed E F t0 p0 ∧ Typed E F t1 p1 ∧ Typed E F t2 p2 := by
  obtain ⟨parts, rfl, hl, hp⟩ := typed_strct h ht hk
  rcases parts with _ | ⟨p0, _ | ⟨p1, _ | ⟨p2, _ | ⟨p3, parts⟩⟩⟩⟩ <;> simp at hl
  exact ⟨p0, p1, p2, by simp, hp 0 p0 o0 t0 rfl rfl, hp 1 p1 o1 t1 rfl rfl, hp 2 p2 o2 t2 rfl rfl⟩
theorem typed_strct4 {us : List V} {ti : TI} {o0 o1 o2 o3 t0 t1 t2 t3 : Nat} (h : Typed E (F + 1) t us) (ht : E.tt t = some ti) (hk : ti.kind = .strct [(o0, t0), (o1, t1), (o2, t2), (o3, t3)]) : ∃ p0 p1 p2 p3, us = p0 ++ p1 ++ p2 ++ p3 ∧ Typed E F t0 p0 ∧ Typed E F t1 p1 ∧ Typed E F t2 p2 ∧ Typed E F t3 p3 := by
  obtain ⟨parts, rfl, hl, hp⟩ := typed_strct h ht hk
  rcases parts with _ | ⟨p0, _ | ⟨p1, _ | ⟨p2, _ | ⟨p3, _ | ⟨p4, parts⟩⟩⟩⟩⟩ <;> simp at hl
  exact ⟨p0, p1, p2, p3, by simp, hp 0 p0 o0 t0 rfl rfl, hp 1 p1 o1 t1 rfl rfl, hp 2 p2 o2 t2 rfl rfl, hp 3 p3 o3 t3 rfl rfl⟩
theorem argT_one {u : V} {ti : TI} (h : ArgT E F t u) (ht : E.tt t = some ti) (hs : ti.agg = false) : Typed E F t [u] := by
  unfold ArgT at h
  rw [ht] at h
  simp only [Option.map_some] at h
  unfold TI.agg at hs
  split at h
  · rename_i fl hk
    simp only [Option.some.injEq] at hk
    rw [hk] at hs; simp at hs
  · exact h
theorem argT_agg {u : V} {ti : TI} {fl : List (Nat × Nat)} (h : ArgT E F t u) (ht : E.tt t = some ti) (hk : ti.kind = .strct fl) : ∃ us, u = .agg us ∧ Typed E F t us := by
  unfold ArgT at h
  simpa only [ht, Option.map_some, hk] using h
theorem i64_of {n : Int} (h : (Lit.int .i64 n).wf = true) : -9223372036854775808 ≤ n ∧ n ≤ 9223372036854775807 := by
  simp [Lit.wf] at h
  have h1 : IntKind.i64.min = -9223372036854775808 := by decide
  have h2 : IntKind.i64.max = 9223372036854775807 := by decide
  omega
end
end Go.E
namespace Go.E

/-! ### Regions whose order is drawn, with operations that keep their place -/
section
variable {E : Env} {np nt : Nat} {ops : Array Oper} {Q : Exit → St → Prop}
/-- An operation that is no plain reckoning. -/
def isC (ops : Array Oper) (i : Nat) : Bool := match ops[i]? with
  | some o => !((readsOf o.op).isSome && o.dst.isSome && o.guard.isNone)
  | none => true
def updB (L : Nat → Bool) (p : Nat) : Nat → Bool := fun i => if i = p then true else L i
def readyL (ops : Array Oper) (L : Nat → Bool) (i : Nat) : Bool := decide (i < ops.size) && !L i && (depsOf ops i).all L
def nexts (ops : Array Oper) (L : Nat → Bool) (lo : Nat) : List Nat := (List.range ops.size).filter fun i => readyL ops L i && (isC ops i || decide (lo ≤ i))
/-- Everything that may come next, plain operations between two others in the order of the text. -/
def wAll (E : Env) (np nt : Nat) (ops : Array Oper) (Q : Exit → St → Prop) : Nat → (Nat → Bool) → Nat → St → Prop
  | 0, _, _, σ => Q .normal σ
  | f + 1, L, lo, σ => ∀ y ∈ nexts ops L lo, wops E np nt ops (fun _ => wAll E np nt ops Q f (updB L y) (if isC ops y then 0 else y + 1)) [y] σ
def AllL (P : Nat → Prop) : List Nat → Prop
  | [] => True
  | y :: l => P y ∧ AllL P l
theorem w_all {f lo : Nat} {L : Nat → Bool} {l : List Nat} {σ : St} (hl : nexts ops L lo = l) (h : AllL (fun y => wops E np nt ops (fun _ => wAll E np nt ops Q f (updB L y) (if isC ops y then 0 else y + 1)) [y] σ) l) : wAll E np nt ops Q (f + 1) L lo σ := by
  intro y hy
  rw [hl] at hy
  clear hl
  induction l with
  | nil => simp at hy
  | cons z l ih =>
    rcases List.mem_cons.1 hy with rfl | hy
    · exact h.1
    · exact ih h.2 hy
theorem w_end {Q : Exit → St → Prop} {σ : St} (h : Q .normal σ) : wops E np nt ops Q [] σ := h
inductive Ext (ops : Array Oper) : (Nat → Bool) → List Nat → Prop
  | nil {L : Nat → Bool} : (∀ i, i < ops.size → L i = true) → Ext ops L []
  | cons {L : Nat → Bool} {i : Nat} {l : List Nat} : readyL ops L i = true → Ext ops (updB L i) l → Ext ops L (i :: l)
theorem updB_comm (L : Nat → Bool) (p q : Nat) : updB (updB L p) q = updB (updB L q) p := by
  funext i; simp only [updB]; split <;> split <;> rfl
theorem readyL_iff {L : Nat → Bool} {i : Nat} : readyL ops L i = true ↔ i < ops.size ∧ L i = false ∧ ∀ e ∈ depsOf ops i, L e = true := by
  simp only [readyL, Bool.and_eq_true, decide_eq_true_eq, Bool.not_eq_true', List.all_eq_true, and_assoc]
theorem readyL_upd {L : Nat → Bool} {i p : Nat} (h : readyL ops L i = true) (hne : i ≠ p) : readyL ops (updB L p) i = true := by
  rw [readyL_iff] at *
  refine ⟨h.1, by simp [updB, hne, h.2.1], fun e he => ?_⟩
  simp only [updB]; split
  · rfl
  · exact h.2.2 e he
theorem Ext.mem {L : Nat → Bool} {l : List Nat} (h : Ext ops L l) : ∀ i ∈ l, L i = false ∧ i < ops.size := by
  induction h with
  | nil _ => simp
  | @cons L i l hr _ ih =>
    intro j hj
    have h2 := readyL_iff.1 hr
    rcases List.mem_cons.1 hj with rfl | hj
    · exact ⟨h2.2.1, h2.1⟩
    · have := (ih j hj).1
      simp only [updB] at this
      split at this
      · simp at this
      · exact ⟨this, (ih j hj).2⟩
/-- What is ready may be taken to the front. -/
theorem Ext.front {p : Nat} {l3 : List Nat} : ∀ (l1 : List Nat) {L : Nat → Bool}, readyL ops L p = true → Ext ops L (l1 ++ p :: l3) → Ext ops (updB L p) (l1 ++ l3) := by
  intro l1
  induction l1 with
  | nil => intro L _ h; cases h with | cons _ h => exact h
  | cons x l1 ih =>
    intro L hp h
    cases h with
    | cons hx h =>
      have hne : x ≠ p := by
        have := (h.mem p (by simp)).1
        intro e; subst e; simp [updB] at this
      refine .cons (readyL_upd hx hne) ?_
      rw [updB_comm]
      exact ih (readyL_upd hp (Ne.symm hne)) h
def ClosedL (ops : Array Oper) (L : Nat → Bool) : Prop := ∀ j, L j = true → j < ops.size → ∀ e ∈ depsOf ops j, L e = true
theorem ClosedL.upd {L : Nat → Bool} {i : Nat} (h : ClosedL ops L) (hr : readyL ops L i = true) : ClosedL ops (updB L i) := by
  intro j hj hjs e he
  simp only [updB] at hj ⊢
  split
  · rfl
  · split at hj
    · rename_i e2; subst e2; exact (readyL_iff.1 hr).2.2 e he
    · exact h j hj hjs e he
theorem ancL_listed {L : Nat → Bool} (hc : ClosedL ops L) (hlt : ∀ j, j < ops.size → ∀ e ∈ depsOf ops j, e < j) : ∀ (f j : Nat), j < ops.size → (∀ e ∈ depsOf ops j, L e = true) → ∀ x ∈ anc ops f j, L x = true := by
  intro f
  induction f with
  | zero => intro j _ _ x hx; simp [anc] at hx
  | succ f ih =>
    intro j hj h x hx
    simp only [anc, List.mem_append, List.mem_flatMap] at hx
    rcases hx with hx | ⟨e, he, hx⟩
    · exact h x hx
    · have he2 : e < ops.size := Nat.lt_trans (hlt j hj e he) hj
      exact ih e he2 (hc e (h e he) he2) x hx
def drawC (ops : Array Oper) : Bool :=
  (List.range ops.size).all fun j => (depsOf ops j).all (fun e => decide (e < j)) && (List.range j).all fun i => isC ops i || isC ops j || (anc ops 3 j).contains i || commB ops i j
/-- Moved to the right over what commutes. -/
theorem bubbleR {p : Nat} {l3 : List Nat} : ∀ (l1 : List Nat), (∀ y ∈ l1, Comm E np nt ops p y) → ∀ σ, wops E np nt ops Q (p :: (l1 ++ l3)) σ → wops E np nt ops Q (l1 ++ p :: l3) σ := by
  intro l1
  induction l1 with
  | nil => intro _ σ h; exact h
  | cons y l1 ih =>
    intro hc σ h
    have h2 := hc y (by simp) (wops E np nt ops Q (l1 ++ l3)) σ h
    rw [List.cons_append, wops_cons]
    exact wop1_mono (fun τ hτ => ih (fun z hz => hc z (by simp [hz])) τ hτ) h2
theorem min_seg (ops : Array Oper) : ∀ (l : List Nat) (x : Nat), isC ops x = false → ∃ l1 p l3, x :: l = l1 ++ p :: l3 ∧ isC ops p = false ∧ (∀ y ∈ l1, isC ops y = false ∧ p ≤ y) ∧ ∀ l4 c l5, l1 ++ l3 = l4 ++ c :: l5 → (∀ y ∈ l4, isC ops y = false) → isC ops c = false → p ≤ c := by
  intro l
  induction l with
  | nil => intro x hx; exact ⟨[], x, [], rfl, hx, by simp, fun l4 c l5 h => by simp at h⟩
  | cons z l ih =>
    intro x hx
    cases hz : isC ops z with
    | true =>
      refine ⟨[], x, z :: l, rfl, hx, by simp, fun l4 c l5 h h1 h2 => ?_⟩
      cases l4 with
      | nil => simp at h; rw [← h.1, hz] at h2; simp at h2
      | cons a l4 =>
        simp at h
        have := h1 a (by simp)
        rw [← h.1, hz] at this; simp at this
    | false =>
      obtain ⟨l1, p, l3, e, hp, h1, h2⟩ := ih z hz
      by_cases hxp : x ≤ p
      · refine ⟨[], x, z :: l, rfl, hx, by simp, fun l4 c l5 h h3 h4 => ?_⟩
        simp only [List.nil_append] at h
        rw [e] at h
        -- c stands in the first run of z :: l
        have key : ∀ (l1 l4 : List Nat), l1 ++ p :: l3 = l4 ++ c :: l5 → (∀ y ∈ l1, p ≤ y) → (∀ y ∈ l4, isC ops y = false) → (∀ l4' c' l5', l1 ++ l3 = l4' ++ c' :: l5' → (∀ y ∈ l4', isC ops y = false) → isC ops c' = false → p ≤ c') → p ≤ c := by
          intro l1
          induction l1 with
          | nil =>
            intro l4 h5 h6 h7 h8
            cases l4 with
            | nil => simp at h5; omega
            | cons a l4 =>
              simp at h5
              exact h8 l4 c l5 (by simpa using h5.2) (fun y hy => h7 y (by simp [hy])) h4
          | cons b l1 ih2 =>
            intro l4 h5 h6 h7 h8
            cases l4 with
            | nil => simp at h5; have := h6 b (by simp); omega
            | cons a l4 =>
              simp at h5
              refine ih2 l4 h5.2 (fun y hy => h6 y (by simp [hy])) (fun y hy => h7 y (by simp [hy])) fun l4' c' l5' h9 h10 h11 => ?_
              refine h8 (b :: l4') c' l5' (by simp [h9]) (fun y hy => ?_) h11
              rcases List.mem_cons.1 hy with rfl | hy
              · rw [h5.1]; exact h7 a (by simp)
              · exact h10 y hy
        exact Nat.le_trans hxp (key l1 l4 h (fun y hy => (h1 y hy).2) h3 h2)
      · refine ⟨x :: l1, p, l3, by rw [e]; rfl, hp, fun y hy => ?_, fun l4 c l5 h h3 h4 => ?_⟩
        · rcases List.mem_cons.1 hy with rfl | hy
          · exact ⟨hx, by omega⟩
          · exact h1 y hy
        · cases l4 with
          | nil => simp at h; omega
          | cons a l4 =>
            simp at h
            exact h2 l4 c l5 h.2 (fun y hy => h3 y (by simp [hy])) h4
theorem wAll_sound (hb : drawC ops = true) : ∀ (n : Nat) (l : List Nat) (L : Nat → Bool) (lo : Nat) (σ : St), l.length = n → Ext ops L l → ClosedL ops L → (∀ l4 c l5, l = l4 ++ c :: l5 → (∀ y ∈ l4, isC ops y = false) → isC ops c = false → lo ≤ c) → wAll E np nt ops Q n L lo σ → wops E np nt ops Q l σ := by
  simp only [drawC, List.all_eq_true, List.mem_range, Bool.and_eq_true, Bool.or_eq_true, decide_eq_true_eq] at hb
  have hlt : ∀ j, j < ops.size → ∀ e ∈ depsOf ops j, e < j := fun j hj e he => (hb j hj).1 e he
  intro n
  induction n with
  | zero =>
    intro l L lo σ hl _ _ _ h
    have : l = [] := List.eq_nil_of_length_eq_zero hl
    subst this; exact h
  | succ n ih =>
    intro l L lo σ hl hext hcl hlo h
    cases l with
    | nil => simp at hl
    | cons x l2 =>
      cases hx : isC ops x with
      | true =>
        cases hext with
        | cons hr hext =>
          have hm : x ∈ nexts ops L lo := by
            simp only [nexts, List.mem_filter, List.mem_range, hr, hx, Bool.true_or, Bool.and_self, and_true]
            exact (readyL_iff.1 hr).1
          have h2 := h x hm
          rw [wops_cons] at h2 ⊢
          refine wop1_mono (fun τ hτ => ?_) h2
          have hτ' : wAll E np nt ops Q n (updB L x) (if isC ops x then 0 else x + 1) τ := hτ
          rw [hx, if_pos rfl] at hτ'
          exact ih l2 (updB L x) 0 τ (by simpa using hl) hext (hcl.upd hr) (fun _ _ _ _ _ _ => Nat.zero_le _) hτ'
      | false =>
        obtain ⟨l1, p, l3, e, hp, h1, hseg⟩ := min_seg ops l2 x hx
        rw [e] at hext hlo hl ⊢
        have hpm := hext.mem p (by simp)
        -- p is ready
        have hready : readyL ops L p = true := by
          rw [readyL_iff]
          refine ⟨hpm.2, hpm.1, fun d hd => ?_⟩
          have hdp := hlt p hpm.2 d hd
          have key : ∀ (l1 : List Nat) (L : Nat → Bool), Ext ops L (l1 ++ p :: l3) → (∀ y ∈ l1, p ≤ y) → L d = true := by
            intro l1
            induction l1 with
            | nil => intro L h _; cases h with | cons hr _ => exact (readyL_iff.1 hr).2.2 d hd
            | cons y l1 ih2 =>
              intro L h h3
              cases h with
              | cons hr h =>
                have := ih2 _ h fun z hz => h3 z (by simp [hz])
                simp only [updB] at this
                have hy := h3 y (by simp)
                rw [if_neg (by omega)] at this
                exact this
          exact key l1 L hext fun y hy => (h1 y hy).2
        have hfront := hext.front l1 hready
        have hlop : lo ≤ p := hlo l1 p l3 rfl (fun y hy => (h1 y hy).1) hp
        have hm : p ∈ nexts ops L lo := by
          simp only [nexts, List.mem_filter, List.mem_range, hready, Bool.true_and, Bool.or_eq_true, decide_eq_true_eq]
          exact ⟨hpm.2, .inr hlop⟩
        have h2 := h p hm
        rw [wops_cons] at h2
        have hne : ∀ y ∈ l1 ++ l3, y ≠ p := fun y hy e2 => by
          subst e2
          have := (hfront.mem y hy).1
          simp [updB] at this
        have h3 : wops E np nt ops Q (p :: (l1 ++ l3)) σ := by
          rw [wops_cons]
          refine wop1_mono (fun τ hτ => ?_) h2
          have hτ' : wAll E np nt ops Q n (updB L p) (if isC ops p then 0 else p + 1) τ := hτ
          rw [hp] at hτ'
          simp only [Bool.false_eq_true, if_false] at hτ'
          refine ih (l1 ++ l3) (updB L p) (p + 1) τ (by simp at hl ⊢; omega) hfront (hcl.upd hready) (fun l4 c l5 h4 h5 h6 => ?_) hτ'
          have := hseg l4 c l5 h4 h5 h6
          have := hne c (by rw [h4]; simp)
          omega
        refine bubbleR l1 (fun y hy => ?_) σ h3
        have hyC := (h1 y hy).1
        have hpy : p < y := by have := (h1 y hy).2; have := hne y (by simp [hy]); omega
        have hys := (hext.mem y (by simp [hy])).2
        rcases (hb y hys).2 p hpy with ((k | k) | k) | k
        · rw [hp] at k; simp at k
        · rw [hyC] at k; simp at k
        · -- p would stand ahead of y
          exfalso
          have key : ∀ (l1 : List Nat) (L : Nat → Bool), Ext ops L (l1 ++ p :: l3) → ClosedL ops L → y ∈ l1 → False := by
            intro l1
            induction l1 with
            | nil => intro L _ _ hy; simp at hy
            | cons z l1 ih2 =>
              intro L h hcl hy
              cases h with
              | cons hr h =>
                rcases List.mem_cons.1 hy with rfl | hy
                · have h5 := ancL_listed hcl hlt 3 y hys (readyL_iff.1 hr).2.2 p (by simpa using k)
                  have h6 := (h.mem p (by simp)).1
                  simp only [updB] at h6
                  split at h6
                  · simp at h6
                  · rw [h5] at h6; simp at h6
                · exact ih2 _ h (hcl.upd hr) hy
          exact key l1 L hext hcl hy
        · exact comm_of k
theorem ext_go (hd : Region.departs ops = false) (hlt : ∀ j, j < ops.size → ∀ e ∈ depsOf ops j, e < j) : ∀ (fuel t : Nat) (listed : Array Bool) (L : Nat → Bool), (∀ i, i < ops.size → listed.getD i true = L i) → listed.size = ops.size → (rem ops listed).length = fuel → Ext ops L (Region.linearise.go .any ops fuel t listed []) ∧ (Region.linearise.go .any ops fuel t listed []).length = fuel := by
  intro fuel
  induction fuel with
  | zero =>
    intro t listed L hL hs hr
    refine ⟨?_, by simp [Region.linearise.go]⟩
    simp only [Region.linearise.go, List.reverse_nil]
    refine .nil fun i hi => ?_
    have : rem ops listed = [] := List.eq_nil_of_length_eq_zero hr
    rw [← hL i hi]
    have h2 : i ∉ rem ops listed := by rw [this]; simp
    simp only [rem, List.mem_filter, List.mem_range, Bool.not_eq_true', not_and, Bool.not_eq_false] at h2
    exact h2 hi
  | succ fuel ih =>
    intro t listed L hL hs hr
    simp only [Region.linearise.go]
    change Ext ops L (match (Region.ready .any ops listed)[t % (Region.ready .any ops listed).length]? with
      | some i => Region.linearise.go .any ops fuel (t / (Region.ready .any ops listed).length) (listed.setIfInBounds i true) [i]
      | none => [].reverse) ∧ List.length (match (Region.ready .any ops listed)[t % (Region.ready .any ops listed).length]? with
      | some i => Region.linearise.go .any ops fuel (t / (Region.ready .any ops listed).length) (listed.setIfInBounds i true) [i]
      | none => [].reverse) = fuel + 1
    cases hi : (Region.ready .any ops listed)[t % (Region.ready .any ops listed).length]? with
    | none =>
      exfalso
      have hnil : Region.ready .any ops listed = [] := by
        cases hr : Region.ready .any ops listed with
        | nil => rfl
        | cons x xs =>
          rw [hr] at hi
          have hlt : t % (x :: xs).length < (x :: xs).length := Nat.mod_lt _ (by simp)
          simp at hi
          simp at hlt
          omega
      have hrem : rem ops listed = [] := by
        rw [List.eq_nil_iff_forall_not_mem]
        intro j
        induction j using Nat.strongRecOn with
        | _ j ihj =>
          intro hj
          have hj' := hj
          simp only [rem, List.mem_filter, List.mem_range, Bool.not_eq_true'] at hj'
          have : j ∈ Region.ready .any ops listed := (ready_iff hd).2 ⟨hj'.1, hj'.2, fun e he => by
            have h1 := hlt j hj'.1 e he
            have h2 := ihj e h1
            simp only [rem, List.mem_filter, List.mem_range, Bool.not_eq_true', not_and, Bool.not_eq_false] at h2
            have h3 := h2 (by omega)
            have hb : e < listed.size := by omega
            simpa [Array.getD, hb] using h3⟩
          rw [hnil] at this
          simp at this
      rw [hrem] at hr; simp at hr
    | some i =>
      simp only
      rw [linearise_go_acc, List.reverse_singleton, List.singleton_append]
      have h1 := (ready_iff hd).1 (List.mem_of_getElem? hi)
      obtain ⟨l1, l2, e1, e2, h3⟩ := rem_split h1.1 h1.2.1
      obtain ⟨k1, k2⟩ := ih (t / (Region.ready .any ops listed).length) (listed.setIfInBounds i true) (updB L i) (fun k hk => by
        rw [set_getD]
        simp only [updB]
        by_cases e : k = i
        · subst e; simp [hs, hk]
        · simp [e, hL k hk]) (by simpa using hs) (by rw [e2]; rw [e1] at hr; simp at hr ⊢; omega)
      refine ⟨.cons (readyL_iff.2 ⟨h1.1, by rw [← hL i h1.1]; exact h1.2.1, fun e he => ?_⟩) k1, by simp [k2]⟩
      have hes : e < ops.size := Nat.lt_trans (hlt i h1.1 e he) h1.1
      rw [← hL e hes]; exact getD_tf (h1.2.2 e he)
/-- A region whose order is drawn: every order that matters. -/
theorem a_drawAll {id : Nat} {σ : St} {n : Nat} (hn : ops.size = n) (hd : departsL ops = false) (hb : drawC ops = true) (h : ∀ K : Exit → St → Prop, K .normal = Q .normal → wAll E np nt ops K n (fun _ => false) 0 σ) : awp E np nt (.region id ops true) Q σ := by
  show ∀ t, wops E np nt ops Q (Region.schedule (E.P.follows .mixedOrders) ops t) σ
  intro t
  have hd' := departs_of hd
  have hb' := hb
  simp only [drawC, List.all_eq_true, List.mem_range, Bool.and_eq_true, decide_eq_true_eq] at hb'
  simp only [Region.schedule, hd', Bool.not_false, Bool.or_true, if_true, Region.linearise]
  have hrem : rem ops (Array.replicate ops.size false) = List.range ops.size := by
    unfold rem
    rw [List.filter_eq_self]
    intro i hi
    simp at hi
    simp [Array.getD, hi]
  obtain ⟨k1, k2⟩ := ext_go hd' (fun j hj e he => (hb' j hj).1 e he) ops.size t (Array.replicate ops.size false) (fun _ => false) (fun i hi => by simp [Array.getD, hi]) (by simp) (by rw [hrem]; simp)
  exact wAll_sound hb _ _ _ 0 σ (k2.trans hn) k1 (fun j hj => by simp at hj) (fun _ _ _ _ _ _ => Nat.zero_le _) (h Q rfl)
end
end Go.E
namespace Go.E
section
variable {E : Env} {np nt : Nat} {ops : Array Oper} {Q : Exit → St → Prop} {i : Nat} {rest : List Nat} {ss : List (Nat × S)} {ms : List (Nat × V)} {d : Nat}
variable {ty : TypeId} {pos : String} {af : Array Edge} {gu : Option (Nat × Bool)}
/-- A call that the machine answers itself. -/
theorem x_ext {f : FuncId} {args : Array Operand} {ats : Array TypeId} {xs : List Value} {v : Value} {cells : List S} (hrun : ∀ w, (callFunc f xs.toArray).run E.P w = .ok (.value v) w)
    (k : wops E np nt ops Q rest (mkSt ((d, .v (.val v)) :: ss) ms))
    (ho : ops[i]? = some ⟨some d, .call ⟨.value (.func f), args, ats⟩, ty, pos, af, gu⟩ := by rfl) (hop : Open ops ss ⟨some d, .call ⟨.value (.func f), args, ats⟩, ty, pos, af, gu⟩ := by first | exact open_none rfl | exact open_some rfl rfl rfl)
    (hlt : d < nt := by decide) (hcells : args.toList.map (mkSt ss ms).ev = cells := by rfl) (hx : vals? cells = some xs := by rfl) :
    wops E np nt ops Q (i :: rest) (mkSt ss ms) := by
  refine step_of ho hop (fun d' h => by simp at h; subst h; exact hlt) ?_
  simp only [wstep, St.ev, fnOf, List.append_nil]
  exact .inr ⟨xs, d, v, rfl, hlt, by rw [hcells, vals?_some hx], hrun, by rw [mkSt_put]; exact k⟩
end
end Go.E
namespace Go.E
theorem w_done {E : Env} {np nt : Nat} {ops : Array Oper} {K Q : Exit → St → Prop} {L : Nat → Bool} {lo : Nat} {σ : St} (hK : K .normal = Q .normal) (h : Q .normal σ) : wAll E np nt ops K 0 L lo σ := by
  show K .normal σ
  rw [hK]; exact h
end Go.E
namespace Go.E
section
variable {E : Env} {np nt : Nat} {ops : Array Oper} {Q : Exit → St → Prop} {i : Nat} {rest : List Nat} {ss : List (Nat × S)} {ms : List (Nat × V)} {d : Nat}
variable {ty : TypeId} {pos : String} {af : Array Edge} {gu : Option (Nat × Bool)}
/-- A call that is handed its first argument, to change it. -/
theorem x_callO {f : FuncId} {args : Array Operand} {ats : Array TypeId} {e : Nat} {u : V} {vs : List V} {cells : List S} {post : V → List V → Prop} (hS : Spec E.P f (u :: vs) post)
    (k : ∀ r outs, post r outs → ∃ u', outs.head? = some u' ∧ u.alikeB u' = true ∧
      wops E np nt ops Q rest (mkSt ((d, viewR d r) :: killSs (at_ d []) (killSs (fun e' q => at_ e [] e' q && !(decide (e' = e) && decide (q = []))) ss)) ((d, r) :: (e, u') :: (e, .junk undef) :: ms)))
    (ho : ops[i]? = some ⟨some d, .call ⟨.value (.func f), args, ats⟩, ty, pos, af, gu⟩ := by rfl) (hop : Open ops ss ⟨some d, .call ⟨.value (.func f), args, ats⟩, ty, pos, af, gu⟩ := by first | exact open_none rfl | exact open_some rfl rfl rfl)
    (hnp : np ≤ d := by decide) (hlt : d < nt := by decide) (hcells : args.toList.map (mkSt ss ms).ev = .ref e [] :: cells := by rfl) (hm : ms.find? (fun x => x.1 == e) = some (e, u) := by rfl) (how : u.owned = true := by rfl)
    (hl : (mkSt (killSs (at_ e []) ss) ((e, .junk undef) :: ms)).lendL cells = some vs := by rfl) :
    wops E np nt ops Q (i :: rest) (mkSt ss ms) := by
  have hz : (true :: List.replicate cells.length false).zip (args.toList.map (mkSt ss ms).ev) = (true, .ref e []) :: (List.replicate cells.length false).zip cells := by rw [hcells]; rfl
  have hown : ownL ((true :: List.replicate cells.length false).zip (args.toList.map (mkSt ss ms).ev)) = [.ref e []] := by
    rw [hz]; simp only [ownL, own_false]
  have hlen : args.toList.length = cells.length + 1 := by
    have := congrArg List.length hcells
    simpa using this
  refine x_callG (us := [u]) (ss1 := killSs (at_ e []) ss) (ms1 := (e, .junk undef) :: ms) (true :: List.replicate cells.length false) hS (fun r outs hp ho2 => ?_) ?_ ?_ ho hop hnp hlt (by simp [hlen]) ?_
  · obtain ⟨u', h1, h2, h3⟩ := k r outs hp
    cases outs with
    | nil => simp at h1
    | cons o os =>
      simp only [List.head?_cons, Option.some.injEq] at h1; subst h1
      refine ⟨[o], ?_, ?_⟩
      · rw [hz]
        simp only [dis]
        rw [dis_false cells os (by simp at ho2; rw [ho2, lendL_length _ _ _ hl])]
      · rw [hown]
        simp only [backMs, lookM, List.find?_cons, beq_self_eq_true, Option.map_some, Option.getD_some, V.set]
        have : (fun (e' : Nat) (q : List Nat) => at_ e [] e' q && !(decide (e' = e) && decide (q = []))) = backF [.ref e []] [u] [o] := by
          funext e' q
          simp [backF, h2]
        rw [this] at h3
        exact h3
  · rw [hown]
    exact takes_root hm how takes_nil
  · rw [hz]
    simp only [asm, asm_false, hl]
  · rw [hown]; rfl
theorem freeL_out {o : Nat} {α : Type} {sz : Nat} {c : α → List V} {l : List α} {vs : List V} (hc : ∀ a, V.freeL (c a) = true) (he : ∀ a, V.eraseL (c a) = c a) (h : V.freeL vs = true) : V.freeL ((eL true sz c l).backed.erase :: vs) = true := by
  have : (eL true sz c l).backed = eL true sz c l := rfl
  rw [this, erase_eL he]
  simp only [V.freeL, free_eL hc, h, Bool.and_self]
theorem head_out {α : Type} {sz : Nat} {c : α → List V} {l l' : List α} {vs : List V} (he : ∀ a, V.eraseL (c a) = c a) (h : l = l') : ((eL true sz c l).backed.erase :: vs).head? = some (eL true sz c l') := by
  have : (eL true sz c l).backed = eL true sz c l := rfl
  rw [this, erase_eL he, h]; rfl
end
end Go.E
namespace Go.E
theorem bound_of {s : S} {kd : IntKind} {n : Int} {z : Nat} (hs : s = .v (.val (.int kd n))) (h : 0 ≤ n) : bound (some s) z = some n.toNat := by
  subst hs
  simp only [bound, S.int?]
  first | rfl | (rw [if_pos h]) | (simp [h]; done) | omega
theorem bound_no {z : Nat} : bound none z = some z := rfl
section
variable {E : Env} {np nt : Nat} {ops : Array Oper} {Q : Exit → St → Prop} {i : Nat} {rest : List Nat} {ss : List (Nat × S)} {ms : List (Nat × V)} {d : Nat}
variable {ty : TypeId} {pos : String} {af : Array Edge} {gu : Option (Nat × Bool)} {x : Operand}
/-- A part of a string, between two integers. -/
theorem x_cut2 {t : TypeId} {lo hi : Option Operand} {b : ByteArray} {l h : Nat} (hh : l ≤ h ∧ h ≤ b.size) (k : wops E np nt ops Q rest (mkSt ((d, .v (.val (.string (b.extract l h)))) :: ss) ms))
    (ho : ops[i]? = some ⟨some d, .slice t x lo hi none, ty, pos, af, gu⟩ := by rfl) (hop : Open ops ss ⟨some d, .slice t x lo hi none, ty, pos, af, gu⟩ := by first | exact open_none rfl | exact open_some rfl rfl rfl) (hlt : d < nt := by decide)
    (hx : (mkSt ss ms).ev x = .v (.val (.string b)) := by first | exact ev_t rfl | exact ev_c)
    (blo : bound (lo.map (mkSt ss ms).ev) 0 = some l := by first | exact bound_no | exact bound_of (by first | exact ev_t rfl | exact ev_c) (by omega))
    (bhi : bound (hi.map (mkSt ss ms).ev) b.size = some h := by first | exact bound_no | exact bound_of (by first | exact ev_t rfl | exact ev_c) (by omega))
    (ht : (E.tt t).map TI.kind = some .string := by rfl) : wops E np nt ops Q (i :: rest) (mkSt ss ms) :=
  x_cut hh.1 hh.2 k blo bhi ho hop hlt hx ht
variable {α : Type} {c : α → List V} {sz : Nat} {li : List α}
theorem flat_cut (hc : ∀ a, (c a).length = sz) (l h : Nat) : ((li.flatMap c).drop (l * sz)).take ((h - l) * sz) = ((li.drop l).take (h - l)).flatMap c := by
  rw [flat_drop hc, flat_take hc]
/-- A part of a list of the function's own, in its place. -/
theorem x_cutO {t e ee : Nat} {ei : TI} {lo hi : Option Operand} {l h : Nat} (hh : l ≤ h ∧ h ≤ li.length)
    (k : wops E np nt ops Q rest (mkSt ((d, .ref d []) :: killSs (at_ d []) (killSs (at_ e []) ss)) ((d, eL true sz c ((li.drop l).take (h - l))) :: (e, .junk undef) :: ms)))
    (ho : ops[i]? = some ⟨some d, .slice t x lo hi none, ty, pos, af, gu⟩ := by rfl) (hop : Open ops ss ⟨some d, .slice t x lo hi none, ty, pos, af, gu⟩ := by first | exact open_none rfl | exact open_some rfl rfl rfl) (hnp : np ≤ d := by decide) (hlt : d < nt := by decide)
    (hx : (mkSt ss ms).ev x = .ref e [] := by exact ev_t rfl) (hm : ms.find? (fun x => x.1 == e) = some (e, eL true sz c li) := by rfl) (hel : elemOf E t = some (ee, ei) := by rfl) (hsz : ei.sz = sz := by rfl) (hc : ∀ a, (c a).length = sz := by intro _; rfl)
    (blo : bound (lo.map (mkSt ss ms).ev) 0 = some l := by first | exact bound_no | exact bound_of (by first | exact ev_t rfl | exact ev_c) (by omega))
    (bhi : bound (hi.map (mkSt ss ms).ev) li.length = some h := by first | exact bound_no | exact bound_of (by first | exact ev_t rfl | exact ev_c) (by omega)) : wops E np nt ops Q (i :: rest) (mkSt ss ms) := by
  subst hsz
  refine step_of ho hop (fun d' h => by simp at h; subst h; exact hlt) ?_
  simp only [wstep, wop, hx, hel]
  refine ⟨hnp, hlt, mkSt (killSs (at_ e []) ss) ((e, .junk undef) :: ms), li.length, li.flatMap c, l, h, takeS_root hm, blo, bhi, hh.1, hh.2, ?_⟩
  rw [mkSt_bind, flat_cut hc]
  have : eL true ei.sz c ((li.drop l).take (h - l)) = .sl .z true ei.sz (h - l) (((li.drop l).take (h - l)).flatMap c) := by
    simp only [eL, List.length_take, List.length_drop]
    congr 1
    omega
  rw [← this]; exact k
/-- A part of a list that is lent. -/
theorem x_cutL {t ee : Nat} {ei : TI} {lo hi : Option Operand} {l h : Nat} (hh : l ≤ h ∧ h ≤ li.length)
    (k : wops E np nt ops Q rest (mkSt ((d, .v (eL false sz c ((li.drop l).take (h - l)))) :: ss) ms))
    (ho : ops[i]? = some ⟨some d, .slice t x lo hi none, ty, pos, af, gu⟩ := by rfl) (hop : Open ops ss ⟨some d, .slice t x lo hi none, ty, pos, af, gu⟩ := by first | exact open_none rfl | exact open_some rfl rfl rfl) (hlt : d < nt := by decide)
    (hx : (mkSt ss ms).ev x = .v (eL false sz c li) := by exact ev_t rfl) (hel : elemOf E t = some (ee, ei) := by rfl) (hsz : ei.sz = sz := by rfl) (hc : ∀ a, (c a).length = sz := by intro _; rfl)
    (blo : bound (lo.map (mkSt ss ms).ev) 0 = some l := by first | exact bound_no | exact bound_of (by first | exact ev_t rfl | exact ev_c) (by omega))
    (bhi : bound (hi.map (mkSt ss ms).ev) li.length = some h := by first | exact bound_no | exact bound_of (by first | exact ev_t rfl | exact ev_c) (by omega)) (htt : (E.tt t).isSome = true := by rfl) : wops E np nt ops Q (i :: rest) (mkSt ss ms) := by
  subst hsz
  refine step_of ho hop (fun d' h => by simp at h; subst h; exact hlt) ?_
  simp only [wstep, wop, hx]
  obtain ⟨ti, hti⟩ := Option.isSome_iff_exists.1 htt
  refine ⟨hlt, .v (eL false ei.sz c ((li.drop l).take (h - l))), ?_, by rw [mkSt_put]; exact k⟩
  have e1 : eL false ei.sz c li = .sl .z false ei.sz li.length (li.flatMap c) := rfl
  simp only [St.calc, hx, hti, hel, e1, S.str?, if_true, cutS, blo, bhi]
  rw [if_pos hh, Gh.cut_z, flat_cut hc]
  simp only [eL, List.length_take, List.length_drop, Option.some.injEq, S.v.injEq, V.sl.injEq, true_and, and_true]
  omega
end
end Go.E
namespace Go.E
section
variable {E : Env} {np nt : Nat} {ops : Array Oper} {Q : Exit → St → Prop} {i : Nat} {rest : List Nat} {ss : List (Nat × S)} {ms : List (Nat × V)} {d : Nat}
variable {ty : TypeId} {pos : String} {af : Array Edge} {gu : Option (Nat × Bool)} {x y : Operand}
/-- A new slice of plain values. -/
theorem x_bv {t e n : Nat} {ei : TI} {ps : Array (Nat × Operand)} {l : List Value} {cells : List S}
    (k : wops E np nt ops Q rest (mkSt ((d, .ref d []) :: killSs (at_ d []) ss) ((d, .sl .z true 1 n (l.map V.val)) :: ms)))
    (ho : ops[i]? = some ⟨some d, .buildSlice t n ps, ty, pos, af, gu⟩ := by rfl) (hop : Open ops ss ⟨some d, .buildSlice t n ps, ty, pos, af, gu⟩ := by first | exact open_none rfl | exact open_some rfl rfl rfl)
    (hnp : np ≤ d := by decide) (hlt : d < nt := by decide) (hel : elemOf E t = some (e, ei) := by rfl) (hix : ps.toList.map Prod.fst = List.range n := by rfl)
    (hx : (ps.toList.map Prod.snd).map (mkSt ss ms).ev = cells := by rfl) (hl : vals? cells = some l := by rfl) (hf : l.all (fun v => (S.v (.val v)).fine) = true := by rfl) (h1 : ei.sz = 1 := by rfl) (hle : n ≤ 16777216 := by decide) : wops E np nt ops Q (i :: rest) (mkSt ss ms) :=
  x_buildVals (ei := ei) (by rw [h1]; omega) h1 (by rw [h1]; exact k) ho hop hnp hlt hel hix (by rw [hx, vals?_some hl]) hf
/-- A new slice of nothing. -/
theorem x_bv0 {α : Type} {t e sz : Nat} {ei : TI} {ps : Array (Nat × Operand)} (c : α → List V)
    (k : wops E np nt ops Q rest (mkSt ((d, .ref d []) :: killSs (at_ d []) ss) ((d, eL true sz c []) :: ms)))
    (ho : ops[i]? = some ⟨some d, .buildSlice t 0 ps, ty, pos, af, gu⟩ := by rfl) (hop : Open ops ss ⟨some d, .buildSlice t 0 ps, ty, pos, af, gu⟩ := by first | exact open_none rfl | exact open_some rfl rfl rfl)
    (hnp : np ≤ d := by decide) (hlt : d < nt := by decide) (hel : elemOf E t = some (e, ei) := by rfl) (hsz : ei.sz = sz := by rfl) (hps : ps = #[] := by rfl) : wops E np nt ops Q (i :: rest) (mkSt ss ms) := by
  subst hps; subst hsz
  refine step_of ho hop (fun d' h => by simp at h; subst h; exact hlt) ?_
  simp only [wstep, wop, hel]
  refine ⟨hnp, hlt, rfl, [], mkSt ss ms, rfl, by simp, by simp, ?_⟩
  rw [mkSt_bind]; exact k
theorem x_rem' {t t' : TypeId} {kd : IntKind} {a b : Int} (k : wops E np nt ops Q rest (mkSt ((d, .v (.val (.int kd (a.tmod b)))) :: ss) ms))
    (ho : ops[i]? = some ⟨some d, .binOp .rem t x y t', ty, pos, af, gu⟩ := by rfl) (hop : Open ops ss ⟨some d, .binOp .rem t x y t', ty, pos, af, gu⟩ := by first | exact open_none rfl | exact open_some rfl rfl rfl) (hlt : d < nt := by decide)
    (hx : (mkSt ss ms).ev x = .v (.val (.int kd a)) := by first | exact ev_t rfl | exact ev_c) (hy : (mkSt ss ms).ev y = .v (.val (.int kd b)) := by first | exact ev_t rfl | exact ev_c) (hb : b ≠ 0 := by first | decide | omega) : wops E np nt ops Q (i :: rest) (mkSt ss ms) :=
  x_rem hb k ho hop hlt hx hy
theorem x_quo' {t t' : TypeId} {a b : Int} (hr : -9223372036854775808 ≤ a.tdiv b ∧ a.tdiv b ≤ 9223372036854775807) (k : wops E np nt ops Q rest (mkSt ((d, .v (.val (.int .i64 (a.tdiv b)))) :: ss) ms))
    (ho : ops[i]? = some ⟨some d, .binOp .quo t x y t', ty, pos, af, gu⟩ := by rfl) (hop : Open ops ss ⟨some d, .binOp .quo t x y t', ty, pos, af, gu⟩ := by first | exact open_none rfl | exact open_some rfl rfl rfl) (hlt : d < nt := by decide)
    (hx : (mkSt ss ms).ev x = .v (.val (.int .i64 a)) := by first | exact ev_t rfl | exact ev_c) (hy : (mkSt ss ms).ev y = .v (.val (.int .i64 b)) := by first | exact ev_t rfl | exact ev_c) (hb : b ≠ 0 := by first | decide | omega) : wops E np nt ops Q (i :: rest) (mkSt ss ms) :=
  x_quo hb (by rw [wrap64 hr]; exact k) ho hop hlt hx hy
end
end Go.E
namespace Go.E

/-! ### Drawn regions with guards -/
section
variable {E : Env} {np nt : Nat} {ops : Array Oper} {Q : Exit → St → Prop}
/-- The slot of a guard. -/
def guardT (ops : Array Oper) (o : Oper) : Option (Option Nat) := match o.guard with
  | none => some none
  | some (j, _) => match (ops[j]?).bind (·.dst) with
    | some t => some (some t)
    | none => none
def resOf (E : Env) (ops : Array Oper) (o : Oper) (σ : St) : Option S := match o.guard with
  | none => σ.calc E o.op
  | some (j, b) => match (ops[j]?).bind (·.dst) with
    | some t => match (σ.slots t).yield with
      | some y => if y = some b then σ.calc E o.op else some (.v (.val undef))
      | none => none
    | none => none
theorem wop1_plain {i d : Nat} {o : Oper} {xs : List Operand} (ho : ops[i]? = some o) (hr : readsOf o.op = some xs) (hd : o.dst = some d) {K : St → Prop} {σ : St} : wop1 E np nt ops i K σ ↔ d < nt ∧ ∃ s, resOf E ops o σ = some s ∧ K (σ.put d s) := by
  have hw : ∀ K σ, wstep E np nt o σ K ↔ d < nt ∧ ∃ s, σ.calc E o.op = some s ∧ K (σ.put d s) := fun K σ => by
    rw [wstep_reads hr]; unfold calcK; rw [hd]
  simp only [wop1, ho]
  unfold resOf
  cases hg : o.guard with
  | none => simp only; exact hw K σ
  | some jb =>
    obtain ⟨j, b⟩ := jb
    simp only
    cases hj : (ops[j]?).bind (·.dst) with
    | none => simp
    | some t =>
      simp only [hd]
      constructor
      · rintro ⟨h1, y, h2, h3, h4⟩
        refine ⟨h1, ?_⟩
        rw [h2]
        by_cases hy : y = some b
        · obtain ⟨_, s, h5, h6⟩ := (hw K σ).1 (h3 hy)
          exact ⟨s, by simp [hy, h5], h6⟩
        · exact ⟨_, by simp only [hy, if_false], h4 hy⟩
      · rintro ⟨h1, s, h2, h3⟩
        refine ⟨h1, ?_⟩
        cases hy : (σ.slots t).yield with
        | none => simp [hy] at h2
        | some y =>
          simp only [hy] at h2
          refine ⟨y, rfl, fun e => ?_, fun e => ?_⟩
          · rw [if_pos e] at h2
            exact (hw K σ).2 ⟨h1, s, h2, h3⟩
          · rw [if_neg e] at h2
            simp only [Option.some.injEq] at h2; subst h2
            exact h3
def gReads (ops : Array Oper) (o : Oper) (d : Nat) : Bool := match readsOf o.op, guardT ops o with
  | some xs, some g => xs.all (fun x => match x with | .tmp t => decide (t ≠ d) | _ => true) && decide (g ≠ some d)
  | _, _ => false
theorem resOf_put {o : Oper} {d : Nat} {s : S} {σ : St} (h : gReads ops o d = true) : resOf E ops o (σ.put d s) = resOf E ops o σ := by
  unfold gReads at h
  split at h
  · rename_i xs g h1 h2
    simp only [Bool.and_eq_true, decide_eq_true_eq] at h
    have hc := calc_put (σ := σ) (d := d) (s := s) (E := E) h1 (not_reads h.1)
    unfold resOf
    unfold guardT at h2
    cases hg : o.guard with
    | none => simp only [hc]
    | some jb =>
      obtain ⟨j, b⟩ := jb
      simp only [hg] at h2
      simp only
      cases hj : (ops[j]?).bind (·.dst) with
      | none => rfl
      | some t =>
        simp only [hj, Option.some.injEq] at h2
        have ht : t ≠ d := fun e => h.2 (by rw [← h2, e])
        have : (σ.put d s).slots t = σ.slots t := by simp [St.put, upd, ht]
        simp only [this, hc]
  · simp at h
def commG (ops : Array Oper) (i j : Nat) : Bool := match ops[i]?, ops[j]? with
  | some x, some y => match x.dst, y.dst with
    | some d, some e => decide (d ≠ e) && gReads ops x e && gReads ops y d
    | _, _ => false
  | _, _ => false
theorem gReads_some {o : Oper} {d : Nat} (h : gReads ops o d = true) : ∃ xs, readsOf o.op = some xs := by
  unfold gReads at h
  split at h
  · rename_i xs g h1 h2; exact ⟨xs, h1⟩
  · simp at h
theorem comm_ofG {i j : Nat} (h : commG ops i j = true) : Comm E np nt ops i j := by
  unfold commG at h
  split at h
  · rename_i x y hx hy
    split at h
    · rename_i d e h3 h4
      simp only [Bool.and_eq_true, decide_eq_true_eq] at h
      obtain ⟨⟨hde, hxe⟩, hyd⟩ := h
      obtain ⟨xs, h1⟩ := gReads_some hxe
      obtain ⟨ys, h2⟩ := gReads_some hyd
      intro K σ k
      obtain ⟨a, s, b, c⟩ := (wop1_plain hx h1 h3).1 k
      obtain ⟨a', s', b', c'⟩ := (wop1_plain hy h2 h4).1 c
      rw [resOf_put hyd] at b'
      refine (wop1_plain hy h2 h4).2 ⟨a', s', b', (wop1_plain hx h1 h3).2 ⟨a, s, ?_, ?_⟩⟩
      · rw [resOf_put hxe]; exact b
      · rw [← put_put hde]; exact c'
    · simp at h
  · simp at h
/-- An operation that is no plain reckoning, guards aside. -/
def isD (ops : Array Oper) (i : Nat) : Bool := match ops[i]? with
  | some o => !((readsOf o.op).isSome && o.dst.isSome && (guardT ops o).isSome)
  | none => true
end
end Go.E
namespace Go.E
section
variable {E : Env} {np nt : Nat} {ops : Array Oper} {Q : Exit → St → Prop}
def nextsD (ops : Array Oper) (L : Nat → Bool) (lo : Nat) : List Nat := (List.range ops.size).filter fun i => readyL ops L i && (isD ops i || decide (lo ≤ i))
/-- Everything that may come next, plain operations between two others in the order of the text. -/
def wAllD (E : Env) (np nt : Nat) (ops : Array Oper) (Q : Exit → St → Prop) : Nat → (Nat → Bool) → Nat → St → Prop
  | 0, _, _, σ => Q .normal σ
  | f + 1, L, lo, σ => ∀ y ∈ nextsD ops L lo, wops E np nt ops (fun _ => wAllD E np nt ops Q f (updB L y) (if isD ops y then 0 else y + 1)) [y] σ
theorem w_allD {f lo : Nat} {L : Nat → Bool} {l : List Nat} {σ : St} (hl : nextsD ops L lo = l) (h : AllL (fun y => wops E np nt ops (fun _ => wAllD E np nt ops Q f (updB L y) (if isD ops y then 0 else y + 1)) [y] σ) l) : wAllD E np nt ops Q (f + 1) L lo σ := by
  intro y hy
  rw [hl] at hy
  clear hl
  induction l with
  | nil => simp at hy
  | cons z l ih =>
    rcases List.mem_cons.1 hy with rfl | hy
    · exact h.1
    · exact ih h.2 hy
def drawD (ops : Array Oper) : Bool :=
  (List.range ops.size).all fun j => (depsOf ops j).all (fun e => decide (e < j)) && (List.range j).all fun i => isD ops i || isD ops j || (anc ops 3 j).contains i || commG ops i j
theorem min_segD (ops : Array Oper) : ∀ (l : List Nat) (x : Nat), isD ops x = false → ∃ l1 p l3, x :: l = l1 ++ p :: l3 ∧ isD ops p = false ∧ (∀ y ∈ l1, isD ops y = false ∧ p ≤ y) ∧ ∀ l4 c l5, l1 ++ l3 = l4 ++ c :: l5 → (∀ y ∈ l4, isD ops y = false) → isD ops c = false → p ≤ c := by
  intro l
  induction l with
  | nil => intro x hx; exact ⟨[], x, [], rfl, hx, by simp, fun l4 c l5 h => by simp at h⟩
  | cons z l ih =>
    intro x hx
    cases hz : isD ops z with
    | true =>
      refine ⟨[], x, z :: l, rfl, hx, by simp, fun l4 c l5 h h1 h2 => ?_⟩
      cases l4 with
      | nil => simp at h; rw [← h.1, hz] at h2; simp at h2
      | cons a l4 =>
        simp at h
        have := h1 a (by simp)
        rw [← h.1, hz] at this; simp at this
    | false =>
      obtain ⟨l1, p, l3, e, hp, h1, h2⟩ := ih z hz
      by_cases hxp : x ≤ p
      · refine ⟨[], x, z :: l, rfl, hx, by simp, fun l4 c l5 h h3 h4 => ?_⟩
        simp only [List.nil_append] at h
        rw [e] at h
        -- c stands in the first run of z :: l
        have key : ∀ (l1 l4 : List Nat), l1 ++ p :: l3 = l4 ++ c :: l5 → (∀ y ∈ l1, p ≤ y) → (∀ y ∈ l4, isD ops y = false) → (∀ l4' c' l5', l1 ++ l3 = l4' ++ c' :: l5' → (∀ y ∈ l4', isD ops y = false) → isD ops c' = false → p ≤ c') → p ≤ c := by
          intro l1
          induction l1 with
          | nil =>
            intro l4 h5 h6 h7 h8
            cases l4 with
            | nil => simp at h5; omega
            | cons a l4 =>
              simp at h5
              exact h8 l4 c l5 (by simpa using h5.2) (fun y hy => h7 y (by simp [hy])) h4
          | cons b l1 ih2 =>
            intro l4 h5 h6 h7 h8
            cases l4 with
            | nil => simp at h5; have := h6 b (by simp); omega
            | cons a l4 =>
              simp at h5
              refine ih2 l4 h5.2 (fun y hy => h6 y (by simp [hy])) (fun y hy => h7 y (by simp [hy])) fun l4' c' l5' h9 h10 h11 => ?_
              refine h8 (b :: l4') c' l5' (by simp [h9]) (fun y hy => ?_) h11
              rcases List.mem_cons.1 hy with rfl | hy
              · rw [h5.1]; exact h7 a (by simp)
              · exact h10 y hy
        exact Nat.le_trans hxp (key l1 l4 h (fun y hy => (h1 y hy).2) h3 h2)
      · refine ⟨x :: l1, p, l3, by rw [e]; rfl, hp, fun y hy => ?_, fun l4 c l5 h h3 h4 => ?_⟩
        · rcases List.mem_cons.1 hy with rfl | hy
          · exact ⟨hx, by omega⟩
          · exact h1 y hy
        · cases l4 with
          | nil => simp at h; omega
          | cons a l4 =>
            simp at h
            exact h2 l4 c l5 h.2 (fun y hy => h3 y (by simp [hy])) h4
theorem wAllD_sound (hb : drawD ops = true) : ∀ (n : Nat) (l : List Nat) (L : Nat → Bool) (lo : Nat) (σ : St), l.length = n → Ext ops L l → ClosedL ops L → (∀ l4 c l5, l = l4 ++ c :: l5 → (∀ y ∈ l4, isD ops y = false) → isD ops c = false → lo ≤ c) → wAllD E np nt ops Q n L lo σ → wops E np nt ops Q l σ := by
  simp only [drawD, List.all_eq_true, List.mem_range, Bool.and_eq_true, Bool.or_eq_true, decide_eq_true_eq] at hb
  have hlt : ∀ j, j < ops.size → ∀ e ∈ depsOf ops j, e < j := fun j hj e he => (hb j hj).1 e he
  intro n
  induction n with
  | zero =>
    intro l L lo σ hl _ _ _ h
    have : l = [] := List.eq_nil_of_length_eq_zero hl
    subst this; exact h
  | succ n ih =>
    intro l L lo σ hl hext hcl hlo h
    cases l with
    | nil => simp at hl
    | cons x l2 =>
      cases hx : isD ops x with
      | true =>
        cases hext with
        | cons hr hext =>
          have hm : x ∈ nextsD ops L lo := by
            simp only [nextsD, List.mem_filter, List.mem_range, hr, hx, Bool.true_or, Bool.and_self, and_true]
            exact (readyL_iff.1 hr).1
          have h2 := h x hm
          rw [wops_cons] at h2 ⊢
          refine wop1_mono (fun τ hτ => ?_) h2
          have hτ' : wAllD E np nt ops Q n (updB L x) (if isD ops x then 0 else x + 1) τ := hτ
          rw [hx, if_pos rfl] at hτ'
          exact ih l2 (updB L x) 0 τ (by simpa using hl) hext (hcl.upd hr) (fun _ _ _ _ _ _ => Nat.zero_le _) hτ'
      | false =>
        obtain ⟨l1, p, l3, e, hp, h1, hseg⟩ := min_segD ops l2 x hx
        rw [e] at hext hlo hl ⊢
        have hpm := hext.mem p (by simp)
        -- p is ready
        have hready : readyL ops L p = true := by
          rw [readyL_iff]
          refine ⟨hpm.2, hpm.1, fun d hd => ?_⟩
          have hdp := hlt p hpm.2 d hd
          have key : ∀ (l1 : List Nat) (L : Nat → Bool), Ext ops L (l1 ++ p :: l3) → (∀ y ∈ l1, p ≤ y) → L d = true := by
            intro l1
            induction l1 with
            | nil => intro L h _; cases h with | cons hr _ => exact (readyL_iff.1 hr).2.2 d hd
            | cons y l1 ih2 =>
              intro L h h3
              cases h with
              | cons hr h =>
                have := ih2 _ h fun z hz => h3 z (by simp [hz])
                simp only [updB] at this
                have hy := h3 y (by simp)
                rw [if_neg (by omega)] at this
                exact this
          exact key l1 L hext fun y hy => (h1 y hy).2
        have hfront := hext.front l1 hready
        have hlop : lo ≤ p := hlo l1 p l3 rfl (fun y hy => (h1 y hy).1) hp
        have hm : p ∈ nextsD ops L lo := by
          simp only [nextsD, List.mem_filter, List.mem_range, hready, Bool.true_and, Bool.or_eq_true, decide_eq_true_eq]
          exact ⟨hpm.2, .inr hlop⟩
        have h2 := h p hm
        rw [wops_cons] at h2
        have hne : ∀ y ∈ l1 ++ l3, y ≠ p := fun y hy e2 => by
          subst e2
          have := (hfront.mem y hy).1
          simp [updB] at this
        have h3 : wops E np nt ops Q (p :: (l1 ++ l3)) σ := by
          rw [wops_cons]
          refine wop1_mono (fun τ hτ => ?_) h2
          have hτ' : wAllD E np nt ops Q n (updB L p) (if isD ops p then 0 else p + 1) τ := hτ
          rw [hp] at hτ'
          simp only [Bool.false_eq_true, if_false] at hτ'
          refine ih (l1 ++ l3) (updB L p) (p + 1) τ (by simp at hl ⊢; omega) hfront (hcl.upd hready) (fun l4 c l5 h4 h5 h6 => ?_) hτ'
          have := hseg l4 c l5 h4 h5 h6
          have := hne c (by rw [h4]; simp)
          omega
        refine bubbleR l1 (fun y hy => ?_) σ h3
        have hyC := (h1 y hy).1
        have hpy : p < y := by have := (h1 y hy).2; have := hne y (by simp [hy]); omega
        have hys := (hext.mem y (by simp [hy])).2
        rcases (hb y hys).2 p hpy with ((k | k) | k) | k
        · rw [hp] at k; simp at k
        · rw [hyC] at k; simp at k
        · -- p would stand ahead of y
          exfalso
          have key : ∀ (l1 : List Nat) (L : Nat → Bool), Ext ops L (l1 ++ p :: l3) → ClosedL ops L → y ∈ l1 → False := by
            intro l1
            induction l1 with
            | nil => intro L _ _ hy; simp at hy
            | cons z l1 ih2 =>
              intro L h hcl hy
              cases h with
              | cons hr h =>
                rcases List.mem_cons.1 hy with rfl | hy
                · have h5 := ancL_listed hcl hlt 3 y hys (readyL_iff.1 hr).2.2 p (by simpa using k)
                  have h6 := (h.mem p (by simp)).1
                  simp only [updB] at h6
                  split at h6
                  · simp at h6
                  · rw [h5] at h6; simp at h6
                · exact ih2 _ h (hcl.upd hr) hy
          exact key l1 L hext hcl hy
        · exact comm_ofG k
/-- A region whose order is drawn: every order that matters. -/
theorem a_drawAllD {id : Nat} {σ : St} {n : Nat} (hn : ops.size = n) (hd : departsL ops = false) (hb : drawD ops = true) (h : ∀ K : Exit → St → Prop, K .normal = Q .normal → wAllD E np nt ops K n (fun _ => false) 0 σ) : awp E np nt (.region id ops true) Q σ := by
  show ∀ t, wops E np nt ops Q (Region.schedule (E.P.follows .mixedOrders) ops t) σ
  intro t
  have hd' := departs_of hd
  have hb' := hb
  simp only [drawD, List.all_eq_true, List.mem_range, Bool.and_eq_true, decide_eq_true_eq] at hb'
  simp only [Region.schedule, hd', Bool.not_false, Bool.or_true, if_true, Region.linearise]
  have hrem : rem ops (Array.replicate ops.size false) = List.range ops.size := by
    unfold rem
    rw [List.filter_eq_self]
    intro i hi
    simp at hi
    simp [Array.getD, hi]
  obtain ⟨k1, k2⟩ := ext_go hd' (fun j hj e he => (hb' j hj).1 e he) ops.size t (Array.replicate ops.size false) (fun _ => false) (fun i hi => by simp [Array.getD, hi]) (by simp) (by rw [hrem]; simp)
  exact wAllD_sound hb _ _ _ 0 σ (k2.trans hn) k1 (fun j hj => by simp at hj) (fun _ _ _ _ _ _ => Nat.zero_le _) (h Q rfl)
theorem w_doneD {K : Exit → St → Prop} {L : Nat → Bool} {lo : Nat} {σ : St} (hK : K .normal = Q .normal) (h : Q .normal σ) : wAllD E np nt ops K 0 L lo σ := by
  show K .normal σ
  rw [hK]; exact h
end
end Go.E
namespace Go.E
section
variable {E : Env} {np nt : Nat} {ops : Array Oper} {Q : Exit → St → Prop} {i : Nat} {rest : List Nat} {ss : List (Nat × S)} {ms : List (Nat × V)}
/-- A guard that is shut, of an operation without a place. -/
theorem x_shutG {o : Oper} {j t : Nat} {b : Bool} {y : Option Bool} (k : wops E np nt ops Q rest (mkSt ss ms)) (ho : ops[i]? = some o) (hg : o.guard = some (j, b)) (hj : (ops[j]?).bind (·.dst) = some t) (hd : o.dst = none)
    (hy : (look ss t).yield = some y) (hn : y ≠ some b) : wops E np nt ops Q (i :: rest) (mkSt ss ms) := by
  simp only [wops, ho, hg, hj, hd]
  exact ⟨y, hy, fun e => absurd e hn, fun _ => k⟩
theorem x_shut0 {o : Oper} {j t : Nat} {b b' : Bool} (k : wops E np nt ops Q rest (mkSt ss ms)) (ho : ops[i]? = some o := by rfl) (hg : o.guard = some (j, b) := by rfl) (hj : (ops[j]?).bind (·.dst) = some t := by rfl) (hd : o.dst = none := by rfl)
    (hy : ss.find? (fun x => x.1 == t) = some (t, .v (.val (.bool b'))) := by rfl) (hn : b' ≠ b := by decide) : wops E np nt ops Q (i :: rest) (mkSt ss ms) :=
  x_shutG k ho hg hj hd (y := some b') (by simp [look, hy, S.yield]) (by simpa using hn)
theorem x_shut0' {o : Oper} {j t : Nat} {b : Bool} (k : wops E np nt ops Q rest (mkSt ss ms)) (ho : ops[i]? = some o := by rfl) (hg : o.guard = some (j, b) := by rfl) (hj : (ops[j]?).bind (·.dst) = some t := by rfl) (hd : o.dst = none := by rfl)
    (hy : ss.find? (fun x => x.1 == t) = some (t, .v (.val undef)) := by rfl) : wops E np nt ops Q (i :: rest) (mkSt ss ms) :=
  x_shutG k ho hg hj hd (y := none) (by simp [look, hy, S.yield, undef]) (by simp)
/-- Branches meet in a state written out; what stays is read off the state at hand. -/
theorem a_joinK {X : Type} {x y : Code} (new : X → List (Nat × S)) (newm : X → List (Nat × V)) (I : X → Prop) (ks : List (Nat × S)) (km : List (Nat × V)) (_hk : HasS ss ks) (_hkm : HasM ms km) (h3 : ∀ x, rooted (new x ++ ks) (newm x ++ km) = true)
    (h : ∀ K : St → Prop, (∀ x' σ' ss' ms', Ghost np σ' (mkSt ss' ms') → HasS ss' (new x' ++ ks) → HasM ms' (newm x' ++ km) → I x' → K σ') → awp E np nt x (thenE K Q) (mkSt ss ms))
    (hy : ∀ x, I x → awp E np nt y Q (mkSt (new x ++ ks) (newm x ++ km))) : awp E np nt (.seq x y) Q (mkSt ss ms) :=
  a_join new newm I ks km h3 h hy
end
end Go.E
