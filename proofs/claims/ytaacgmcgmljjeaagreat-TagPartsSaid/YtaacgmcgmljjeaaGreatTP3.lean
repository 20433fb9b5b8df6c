/-
  Joined texts: The calculus of states: functions that are handed blocks of their caller's and turn them. · The calculus of states: pointers held against each other; a pointer turned to unsafe.Point · The calculus of states: a string's bytes are appended to a slice. · What the program's tables say of its types. · Closures of the tag layer. · What is in a list: the first one, any.
-/
import Derived.Test.YtaacgmcgmljjeaaGreatTP2
import Derived.Lib.UnsafeStr
import Derived.Lib.Builder
import Derived.Laws.Externs
import Derived.Lib.AppendStr
import Derived.Test.YtaacgmcgmljjeaaGreatChecked
set_option linter.unusedSimpArgs false
set_option linter.unusedVariables false

/- The calculus of states: functions that are handed blocks of their caller's and turn them. -/
namespace Go.Proofs.YtaacgmcgmljjeaaGreat
open Go.RowKit

theorem renL_map (σ : Nat → Nat) (xs : List X) : X.renL σ xs = xs.map (X.ren σ) := by
  induction xs with
  | nil => rfl
  | cons x xs ih => simp only [X.renL, List.map_cons, ih]

theorem RV.ren {σ : Nat → Nat} {w : World} {M : Nat → Prop} {ρ ρ' : Rho} {v : Value} {x : X} (h : RV w M ρ v x) (he : ∀ id, id ∈ x.ids → ρ' (σ id) = ρ id) : RV w M ρ' v (x.ren σ) := by
  induction h with
  | d h => exact .d h
  | own id n e b cap h => exact .own _ n e b cap ((he id (by simp [X.ids])).trans h)
  | own0 id e => exact .own0 _ e
  | ptr id off b cap h => exact .ptr _ off b cap ((he id (by simp [X.ids])).trans h)
  | dptr b off c g hb hm hg hr => exact .dptr b off c g hb hm hg hr
  | func fn fs cs xs ys hf hc _ _ ih1 ih2 =>
    simp only [X.ren, renL_map]
    refine .func fn fs cs _ _ (by simpa using hf) (by simpa using hc) (fun i v x hv hx => ?_) (fun i v x hv hx => ?_)
    · rw [List.getElem?_map] at hx
      cases hq : xs[i]? with
      | none => rw [hq] at hx; cases hx
      | some y => rw [hq] at hx; cases hx; exact ih1 i v y hv hq fun id hid => he id (by simp only [X.ids, List.mem_append]; exact .inl (X.mem_idsL (List.mem_of_getElem? hq) hid))
    · rw [List.getElem?_map] at hx
      cases hq : ys[i]? with
      | none => rw [hq] at hx; cases hx
      | some y => rw [hq] at hx; cases hx; exact ih2 i v y hv hq fun id hid => he id (by simp only [X.ids, List.mem_append]; exact .inr (X.mem_idsL (List.mem_of_getElem? hq) hid))
  | agg cs xs hs _ ih =>
    simp only [X.ren, renL_map]
    refine .agg cs _ (by simpa using hs) fun i v x hv hx => ?_
    rw [List.getElem?_map] at hx
    cases hq : xs[i]? with
    | none => rw [hq] at hx; cases hx
    | some y => rw [hq] at hx; cases hx; exact ih i v y hv hq fun id hid => he id (by simp only [X.ids]; exact X.mem_idsL (List.mem_of_getElem? hq) hid)
  | tup cs xs hs _ ih =>
    simp only [X.ren, renL_map]
    refine .tup cs _ (by simpa using hs) fun i v x hv hx => ?_
    rw [List.getElem?_map] at hx
    cases hq : xs[i]? with
    | none => rw [hq] at hx; cases hx
    | some y => rw [hq] at hx; cases hx; exact ih i v y hv hq fun id hid => he id (by simp only [X.ids]; exact X.mem_idsL (List.mem_of_getElem? hq) hid)
  | optT _ ih => exact .optT (ih fun id hid => he id (by simpa [X.ids] using hid))
  | optF x => exact .optF _
  | undef v => exact .undef v

theorem RV.unren {σ : Nat → Nat} {w : World} {M : Nat → Prop} {ρ ρl : Rho} {v : Value} {y : X} (h : RV w M ρ v y) : ∀ x : X, y = x.ren σ → (∀ id, id ∈ x.ids → ρl id = ρ (σ id)) → RV w M ρl v x := by
  induction h with
  | d h =>
    intro x hy he
    cases x <;> simp only [X.ren] at hy <;> cases hy
    exact .d h
  | own id n e b cap h =>
    intro x hy he
    cases x <;> simp only [X.ren] at hy <;> cases hy
    exact .own _ n e b cap ((he _ (by simp [X.ids])).trans h)
  | own0 id e =>
    intro x hy he
    cases x <;> simp only [X.ren] at hy <;> cases hy
    exact .own0 _ e
  | ptr id off b cap h =>
    intro x hy he
    cases x <;> simp only [X.ren] at hy <;> cases hy
    exact .ptr _ off b cap ((he _ (by simp [X.ids])).trans h)
  | dptr b off c g hb hm hg hr =>
    intro x hy he
    cases x <;> simp only [X.ren] at hy <;> cases hy
    exact .dptr b off c g hb hm hg hr
  | func fn fs cs xs ys hf hc k1 k2 ih1 ih2 =>
    intro x hy he
    cases x <;> simp only [X.ren] at hy <;> cases hy
    rename_i a b
    rw [renL_map] at hf hc
    refine .func fn fs cs a b (by simpa using hf) (by simpa using hc) (fun i v x hv hx => ih1 i v (x.ren σ) hv (by rw [renL_map, List.getElem?_map, hx]; rfl) x rfl fun id hid => he id ?_) (fun i v x hv hx => ih2 i v (x.ren σ) hv (by rw [renL_map, List.getElem?_map, hx]; rfl) x rfl fun id hid => he id ?_)
    · simp only [X.ids, List.mem_append]; exact .inl (X.mem_idsL (List.mem_of_getElem? hx) hid)
    · simp only [X.ids, List.mem_append]; exact .inr (X.mem_idsL (List.mem_of_getElem? hx) hid)
  | agg cs xs hs k1 ih =>
    intro x hy he
    cases x <;> simp only [X.ren] at hy <;> cases hy
    rename_i a
    rw [renL_map] at hs
    refine .agg cs a (by simpa using hs) fun i v x hv hx => ih i v (x.ren σ) hv (by rw [renL_map, List.getElem?_map, hx]; rfl) x rfl fun id hid => he id ?_
    simp only [X.ids]; exact X.mem_idsL (List.mem_of_getElem? hx) hid
  | tup cs xs hs k1 ih =>
    intro x hy he
    cases x <;> simp only [X.ren] at hy <;> cases hy
    rename_i a
    rw [renL_map] at hs
    refine .tup cs a (by simpa using hs) fun i v x hv hx => ih i v (x.ren σ) hv (by rw [renL_map, List.getElem?_map, hx]; rfl) x rfl fun id hid => he id ?_
    simp only [X.ids]; exact X.mem_idsL (List.mem_of_getElem? hx) hid
  | optT h ih =>
    intro x hy he
    cases x <;> simp only [X.ren] at hy <;> cases hy
    exact .optT (ih _ rfl fun id hid => he id (by simpa [X.ids] using hid))
  | optF x0 =>
    intro x hy he
    cases x <;> simp only [X.ren] at hy <;> cases hy
    exact .optF _
  | undef v =>
    intro x hy he
    cases x <;> simp only [X.ren] at hy <;> cases hy
    exact .undef v

def Ob.ren (σ : Nat → Nat) (o : Ob) : Ob := ⟨o.T, o.e, o.cs.map (X.ren σ)⟩

/-- the caller's heap holds what the callee is handed -/
def subR (σ : Nat → Nat) : Heap → Heap → Prop
  | [], _ => True
  | (j, o) :: r, H => (o.isSome = true ∧ look H (σ j) = o.map (Ob.ren σ)) ∧ subR σ r H

theorem subR_look {σ : Nat → Nat} : ∀ {Hl H : Heap}, subR σ Hl H → ∀ {j o}, look Hl j = some o → look H (σ j) = some (o.ren σ)
  | [], _, _, _, _, h => by cases h
  | (k, o') :: r, H, hs, j, o, h => by
    by_cases hk : k = j
    · subst hk
      simp only [look, if_true] at h
      rw [hs.1.2, h]
      rfl
    · simp only [look, if_neg hk] at h
      exact subR_look hs.2 h

theorem subR_some {σ : Nat → Nat} : ∀ {Hl H : Heap}, subR σ Hl H → ∀ {j}, j ∈ ks Hl → look Hl j ≠ none
  | [], _, _, _, h => by simp [ks] at h
  | (k, o') :: r, H, hs, j, h => by
    by_cases hk : k = j
    · subst hk
      simp only [look, if_true]
      have := hs.1.1
      cases o' <;> simp at this ⊢
    · simp only [look, if_neg hk]
      simp only [ks, List.map_cons, List.mem_cons] at h
      exact subR_some hs.2 (h.resolve_left fun e => hk e.symm)

theorem look_ks {H : Heap} {j : Nat} (h : look H j ≠ none) : j ∈ ks H := by
  induction H with
  | nil => exact absurd rfl h
  | cons p r ih =>
    obtain ⟨k, x⟩ := p
    by_cases hk : k = j
    · subst hk; simp [ks]
    · simp only [look, if_neg hk] at h
      simp only [ks, List.map_cons, List.mem_cons]
      exact .inr (ih h)

def renU (σ : Nat → Nat) (H : Heap) : Upds := H.map fun p => (σ p.1, p.2.map (Ob.ren σ))

theorem look_renU {σ : Nat → Nat} {H : Heap} {j : Nat} (hi : ∀ k, k ∈ ks H → σ k = σ j → k = j) : look (renU σ H) (σ j) = (look H j).map (Ob.ren σ) := by
  induction H with
  | nil => rfl
  | cons p r ih =>
    obtain ⟨k, x⟩ := p
    by_cases hk : k = j
    · subst hk; simp [renU, look]
    · have : ¬ σ k = σ j := fun h => hk (hi k (by simp [ks]) h)
      simp only [renU, List.map_cons, look, if_neg this, if_neg hk]
      exact ih fun k hk => hi k (by simp only [ks, List.map_cons, List.mem_cons]; exact .inr hk)

/-- of the callee's names at its end, the new ones -/
def newL (Hl He : Heap) : List Nat := (ks He).filter fun j => !(ks Hl).contains j
def goneL (Hl He : Heap) : List Nat := (ks Hl).filter fun j => !(ks He).contains j
/-- what the caller sees -/
def updOf (σ : Nat → Nat) (Hl He : Heap) : Upds := renU σ He ++ (goneL Hl He).map fun j => (σ j, none)

theorem Heap.ids_mem {H : Heap} {j : Nat} {o : Ob} (h : look H j = some o) {i : Nat} (hi : i ∈ X.idsL o.cs) : i ∈ H.ids := by
  induction H with
  | nil => cases h
  | cons p r ih =>
    obtain ⟨k, x⟩ := p
    by_cases hk : k = j
    · subst hk
      simp only [look, if_true] at h
      subst h
      simp [Heap.ids, hi]
    · simp only [look, if_neg hk] at h
      have := ih h
      cases x <;> simp [Heap.ids, this]

theorem nodup_inj {σ : Nat → Nat} : ∀ {l : List Nat}, (l.map σ).Nodup → ∀ {j k}, j ∈ l → k ∈ l → σ j = σ k → j = k
  | [], _, _, _, h, _, _ => by cases h
  | a :: l, hn, j, k, hj, hk, he => by
    rw [List.map_cons, List.nodup_cons] at hn
    rcases List.mem_cons.1 hj with e1 | h1 <;> rcases List.mem_cons.1 hk with e2 | h2
    · rw [e1, e2]
    · subst e1; exact absurd (List.mem_map.2 ⟨k, h2, he.symm⟩) hn.1
    · subst e2; exact absurd (List.mem_map.2 ⟨j, h1, he⟩) hn.1
    · exact nodup_inj hn.2 h1 h2 he

theorem CT_of {P : Program} {f : FuncId} {fn : Func} {cd : Code} {xsl : List X} {rl : X} {H : Heap} (σ : Nat → Nat) (Hl He : Heap) (hf : P.funcs[f]? = some fn) (hb : fn.body = some cd) (hn : xsl.length ≤ fn.ntmps)
    (hH : subR σ Hl H) (hinj : ((ks Hl ++ newL Hl He).map σ).Nodup) (hi1 : (X.idsL xsl ++ Hl.ids).all ((ks Hl).contains ·) = true) (hi2 : (rl.ids ++ He.ids).all ((ks He).contains ·) = true)
    (hkeep : ∀ j o, j ∈ ks He → look Hl j = some o → o.cs ≠ [])
    (h : ∀ G : Ctx, (∀ id, id ∉ ks Hl → G.ρ0 id = none) → AW P G fn.ntmps cd ⟨enumE 0 xsl, Hl, ks Hl⟩ (fun ex s => Fin P fn rl ex s ∧ subH He s.H)) :
    CT P f (xsl.map (X.ren σ)) H ((ks Hl).map σ) ((newL Hl He).map σ) (updOf σ Hl He) (rl.ren σ) := by
  classical
  intro G ρ H1 vs w hs hsz hv hR hnn
  simp only [List.all_eq_true, List.mem_append, List.contains_iff_mem] at hi1 hi2
  -- σ is injective on the names
  have inj : ∀ j k, j ∈ ks Hl ++ newL Hl He → k ∈ ks Hl ++ newL Hl He → σ j = σ k → j = k := fun j k hj hk hjk => nodup_inj hinj hj hk hjk
  have inl : ∀ j, j ∈ ks Hl → j ∈ ks Hl ++ newL Hl He := fun j h => List.mem_append_left _ h
  have ine : ∀ j, j ∈ ks He → j ∈ ks Hl ++ newL Hl He := fun j h => by
    by_cases hj : j ∈ ks Hl
    · exact inl j hj
    · exact List.mem_append_right _ (by simp [newL, h, hj])
  -- the callee's naming
  let ρl : Rho := fun j => if j ∈ ks Hl then ρ (σ j) else none
  have rl_in : ∀ j, j ∈ ks Hl → ρl j = ρ (σ j) := fun j h => if_pos h
  have rl_out : ∀ j, j ∉ ks Hl → ρl j = none := fun j h => if_neg h
  have hRj : ∀ j, j ∈ ks Hl → look H1 (σ j) = look H (σ j) := fun j h => hR _ (List.mem_map.2 ⟨j, h, rfl⟩)
  have hl1 : ∀ j o, look Hl j = some o → look H1 (σ j) = some (o.ren σ) := fun j o h => (hRj j (look_ks (by rw [h]; simp))).trans (subR_look hH h)
  have hlk : ∀ j, j ∈ ks Hl → look H1 (σ j) ≠ none := fun j h => by
    cases e : look Hl j with
    | none => exact absurd e (subR_some hH h)
    | some o => rw [hl1 j o e]; simp
  have mt1 : ∀ b, Mt ρl Hl b → Mt ρ H1 b := by
    rintro b ⟨j, o, cap, h1, h2⟩
    have hj := look_ks (H := Hl) (j := j) (by rw [h1]; simp)
    exact ⟨σ j, _, cap, hl1 j o h1, by rw [← rl_in j hj]; exact h2⟩
  let G' : Ctx := { w0 := w, M0 := fun b => G.M ρ H1 b ∧ ¬ Mt ρl Hl b, ρ0 := ρl, hM := fun b hb => hs.M_lt hb.1, F := Mt ρl Hl, hF := fun b h1 h2 => h2.2 h1 }
  have gm : ∀ b, G'.M ρl Hl b ↔ G.M ρ H1 b := fun b => ⟨fun h => h.elim (fun h => h.1) fun h => .inr (mt1 b h), fun h => by
    by_cases hm : Mt ρl Hl b
    · exact .inr hm
    · exact .inl ⟨h, hm⟩⟩
  have hsat : Sat G' ρl Hl w := by
    refine ⟨Turn.refl _ _, Ext.refl _, fun i j b c c' h1 h2 h3 h4 => ?_, fun j o hj => ?_⟩
    · have hi := look_ks h1
      have hj := look_ks h2
      rw [rl_in i hi] at h3
      rw [rl_in j hj] at h4
      exact inj i j (inl i hi) (inl j hj) (hs.inj _ _ b c c' (hlk i hi) (hlk j hj) h3 h4)
    · have hjk := look_ks (H := Hl) (j := j) (by rw [hj]; simp)
      rcases hs.obj (σ j) _ (hl1 j o hj) with ⟨z1, z2⟩ | ⟨b, cap, cs, h1, h2, h3, h4, h5, h6⟩
      · exact .inl ⟨List.map_eq_nil_iff.1 z1, (rl_in j hjk).trans z2⟩
      · refine .inr ⟨b, cap, cs, (rl_in j hjk).trans h1, .inr ⟨j, o, cap, hj, (rl_in j hjk).trans h1⟩, h3, h4, by simpa [Ob.ren] using h5, fun i v x hv hx => ?_⟩
        have := h6 i v (x.ren σ) hv (by simp [Ob.ren, hx])
        exact (this.laterS fun b hb => (gm b).1 hb).unren x rfl fun id hid => rl_in id (hi1 id (.inr (Heap.ids_mem hj (X.mem_idsL (List.mem_of_getElem? hx) hid))))
  have hsz' : vs.size = xsl.length := by simpa using hsz
  refine calls_of_wp hf hb (h G' (fun id hid => rl_out id hid) ρl _ w ⟨hsat, fun t => ?_, fun id hid hid2 => absurd hid2 hid, by simp; omega, rfl⟩ _ fun ex s' ρ' a' w' hq hr' => ?_)
  · show RV _ _ _ ((vs ++ _).getD t undef) (get (enumE 0 xsl) t)
    rw [get_enumE, if_pos (Nat.zero_le _), Nat.sub_zero]
    by_cases ht : t < xsl.length
    · have ht' : t < vs.size := by omega
      have e1 : (vs ++ Array.replicate (fn.ntmps - vs.size) undef).getD t undef = vs[t] := by
        simp [Array.getD, Nat.lt_of_lt_of_le ht' (Nat.le_add_right vs.size _), Array.getElem_append_left ht']
      rw [e1, List.getElem?_eq_getElem ht, Option.getD_some]
      have := hv t vs[t] (xsl[t].ren σ) (by simp [ht']) (by simp [ht])
      exact (this.laterS fun b hb => (gm b).1 hb).unren _ rfl fun id hid => rl_in id (hi1 id (.inl (X.mem_idsL (List.getElem_mem ht) hid)))
    · rw [List.getElem?_eq_none (by omega)]
      exact .undef _
  · obtain ⟨hfin, hsub⟩ := hq
    obtain ⟨v, g1, g2⟩ := fin_run hr' hfin
    have hHe : ∀ j o, look He j = some o → look s'.H j = some o := fun j o h => (subH_look hsub h).1
    -- the caller's naming behind the call
    let ρ'' : Rho := fun i => if hx : ∃ j, j ∈ newL Hl He ∧ σ j = i then ρ' hx.choose else ρ i
    have hnewk : ∀ j, j ∈ newL Hl He → ρ'' (σ j) = ρ' j := fun j hj => by
      have hx : ∃ k, k ∈ newL Hl He ∧ σ k = σ j := ⟨j, hj, rfl⟩
      have e : hx.choose = j := inj _ _ (List.mem_append_right _ hx.choose_spec.1) (List.mem_append_right _ hj) hx.choose_spec.2
      show (if hx : ∃ k, k ∈ newL Hl He ∧ σ k = σ j then ρ' hx.choose else ρ (σ j)) = _
      rw [dif_pos hx, e]
    have holdk : ∀ i, i ∉ (newL Hl He).map σ → ρ'' i = ρ i := fun i hi => dif_neg fun ⟨j, hj, hji⟩ => hi (List.mem_map.2 ⟨j, hj, hji⟩)
    have hlnew : ∀ j, j ∈ ks Hl → σ j ∉ (newL Hl He).map σ := fun j hj hm => by
      obtain ⟨k, hk, hkj⟩ := List.mem_map.1 hm
      have := inj k j (List.mem_append_right _ hk) (inl j hj) hkj
      subst this
      simp [newL, hj] at hk
    have hext : Ext ρ ρ'' := fun i p hp => by
      rw [holdk i fun hm => by rw [hnn i hm] at hp; cases hp]
      exact hp
    -- what a name of the end is to the caller
    have hname : ∀ j, j ∈ ks He → ρ'' (σ j) = ρ' j := by
      intro j hj
      by_cases hjl : j ∈ ks Hl
      · rw [holdk _ (hlnew j hjl)]
        cases e : look Hl j with
        | none => exact absurd e (subR_some hH hjl)
        | some o =>
          have hcs := hkeep j o hj e
          rcases hs.obj (σ j) _ (hl1 j o e) with ⟨z1, _⟩ | ⟨b, cap, cs, h1, _⟩
          · exact absurd (List.map_eq_nil_iff.1 z1) hcs
          · rw [h1]
            exact (hr'.sat.base j (b, cap) ((rl_in j hjl).trans h1)).symm
      · exact hnewk j (by simp [newL, hj, hjl])
    have ksu : ∀ i, i ∈ ks (updOf σ Hl He) → (∃ j, j ∈ ks He ∧ σ j = i) ∨ ∃ j, j ∈ goneL Hl He ∧ σ j = i := by
      intro i hi
      simp only [updOf, ks, List.map_append, List.mem_append, renU, List.map_map, List.mem_map] at hi
      rcases hi with ⟨p, hp, hpi⟩ | ⟨j, hj, hji⟩
      · exact .inl ⟨p.1, List.mem_map.2 ⟨p, hp, rfl⟩, hpi⟩
      · exact .inr ⟨j, hj, hji⟩
    have usk1 : ∀ j, j ∈ ks He → σ j ∈ ks (renU σ He) := by
      intro j hj
      obtain ⟨p, hp, hpi⟩ := List.mem_map.1 hj
      simp only [ks, renU, List.map_map, List.mem_map]
      exact ⟨p, hp, by simp [hpi]⟩
    have usk : ∀ j, j ∈ ks Hl ∨ j ∈ ks He → σ j ∈ ks (updOf σ Hl He) := by
      intro j hj
      simp only [updOf, ks, List.map_append, List.mem_append]
      by_cases he : j ∈ ks He
      · exact .inl (usk1 j he)
      · refine .inr ?_
        simp only [List.map_map, List.mem_map]
        exact ⟨j, by simp [goneL, hj.resolve_right he, he], rfl⟩
    have lookA : ∀ j, j ∈ ks He → look (updOf σ Hl He ++ H1) (σ j) = (look He j).map (Ob.ren σ) := by
      intro j hj
      rw [updOf, List.append_assoc, look_app_in (H' := []) (usk1 j hj), List.append_nil]
      exact look_renU fun k hk hkj => inj k j (ine k hk) (ine j hj) hkj
    have lookN : ∀ (l : List Nat) i, look (l.map fun j => (σ j, (none : Option Ob))) i = none := by
      intro l i
      induction l with
      | nil => rfl
      | cons a l ih =>
        simp only [List.map_cons, look]
        split
        · rfl
        · exact ih
    have lookB : ∀ j, j ∈ goneL Hl He → look (updOf σ Hl He ++ H1) (σ j) = none := by
      intro j hj
      simp only [goneL, List.mem_filter, Bool.not_eq_true', List.contains_eq_mem, decide_eq_false_iff_not] at hj
      have hnot : σ j ∉ ks (renU σ He) := by
        intro hm
        simp only [ks, renU, List.map_map, List.mem_map] at hm
        obtain ⟨p, hp, hpj⟩ := hm
        have hk : p.1 ∈ ks He := List.mem_map.2 ⟨p, hp, rfl⟩
        exact hj.2 (inj p.1 j (ine _ hk) (inl j hj.1) hpj ▸ hk)
      have hin : σ j ∈ ks ((goneL Hl He).map fun j => (σ j, (none : Option Ob))) := by
        simp only [ks, List.map_map, List.mem_map]
        exact ⟨j, by simp [goneL, hj.1, hj.2], rfl⟩
      rw [updOf, List.append_assoc, look_app_not hnot, look_app_in (H' := []) hin, List.append_nil]
      exact lookN _ _
    have lookC : ∀ i, i ∉ ks (updOf σ Hl He) → look (updOf σ Hl He ++ H1) i = look H1 i := fun i hi => look_app_not hi
    have cls : ∀ i o, look (updOf σ Hl He ++ H1) i = some o → (∃ j ol, σ j = i ∧ j ∈ ks He ∧ look He j = some ol ∧ o = ol.ren σ) ∨ (look H1 i = some o ∧ (∀ j, j ∈ ks Hl → σ j ≠ i) ∧ ρ'' i = ρ i) := by
      intro i o ho
      by_cases hi : i ∈ ks (updOf σ Hl He)
      · rcases ksu i hi with ⟨j, hj, rfl⟩ | ⟨j, hj, rfl⟩
        · rw [lookA j hj] at ho
          cases e : look He j with
          | none => rw [e] at ho; cases ho
          | some ol => rw [e] at ho; cases ho; exact .inl ⟨j, ol, rfl, hj, e, rfl⟩
        · rw [lookB j hj] at ho; cases ho
      · rw [lookC i hi] at ho
        refine .inr ⟨ho, fun j hj e => hi (e ▸ usk j (.inl hj)), holdk i fun hm => ?_⟩
        obtain ⟨j, hj, hji⟩ := List.mem_map.1 hm
        have : j ∈ ks He := (List.mem_filter.1 hj).1
        exact hi (hji ▸ usk j (.inr this))
    have far : ∀ i o b cap, look H1 i = some o → (∀ j, j ∈ ks Hl → σ j ≠ i) → ρ i = some (b, cap) → ¬ Mt ρl Hl b := by
      rintro i o b cap h1 h2 h3 ⟨k, ok, cap', h4, h5⟩
      have hk := look_ks (H := Hl) (j := k) (by rw [h4]; simp)
      rw [rl_in k hk] at h5
      exact h2 k hk (hs.inj _ _ b cap' cap (hlk k hk) (by rw [h1]; simp) h5 h3)
    have hFm : ∀ b, Mt ρl Hl b → (G.w0.heap.size ≤ b ∨ G.F b) ∧ b < w.heap.size := fun b hb => hs.Mt_lt (mt1 b hb)
    have sub1 : ∀ b, G.M ρ'' (updOf σ Hl He ++ H1) b → G'.M ρ' s'.H b := by
      rintro b (h0 | ⟨i, o, cap, h1, h2⟩)
      · refine .inl ⟨.inl h0, fun hm => ?_⟩
        rcases (hFm b hm).1 with hh | hh
        · have := G.hM b h0; omega
        · exact G.hF b hh h0
      · rcases cls i o h1 with ⟨j, ol, rfl, hj, e1, _⟩ | ⟨e1, e2, e3⟩
        · exact .inr ⟨j, ol, cap, hHe j ol e1, by rw [← hname j hj]; exact h2⟩
        · rw [e3] at h2
          exact .inl ⟨.inr ⟨i, o, cap, e1, h2⟩, far i o b cap e1 e2 h2⟩
    have hlat : Later w (G.M ρ H1) w' (G.M ρ'' (updOf σ Hl He ++ H1)) := by
      refine ⟨hr'.sat.below.size, fun b h1 h2 => hr'.sat.below.block b h1 fun hm => h2 (.inr (mt1 b hm)), fun b h1 h2 => ?_⟩
      rcases sub1 b h2 with h3 | h3
      · exact h3.1
      · rcases (hr'.sat.Mt_lt h3).1 with h4 | h4
        · have h5 : w.heap.size ≤ b := h4
          omega
        · exact .inr (mt1 b h4)
    have hids : ∀ x : X, (∀ id, id ∈ x.ids → id ∈ ks He) → ∀ v, RV w' (G'.M ρ' s'.H) ρ' v x → RV w' (G.M ρ'' (updOf σ Hl He ++ H1)) ρ'' v (x.ren σ) := fun x hx v hv => (hv.laterS sub1).ren fun id hid => hname id (hx id hid)
    have hfinal : Sat G ρ'' (updOf σ Hl He ++ H1) w' := by
      refine ⟨⟨hr'.sat.below.os.trans hs.below.os, hr'.sat.below.tape.trans hs.below.tape, hr'.sat.below.output.trans hs.below.output, Nat.le_trans hs.size hr'.sat.below.size, fun k hk hF => ?_⟩, hs.base.trans hext, ?_, ?_⟩
      · refine (hr'.sat.below.block k (Nat.lt_of_lt_of_le hk hs.size) fun hm => ?_).trans (hs.below.block k hk hF)
        rcases (hFm k hm).1 with hh | hh
        · omega
        · exact hF hh
      · intro i j b c c' h1 h2 h3 h4
        cases e1 : look (updOf σ Hl He ++ H1) i with
        | none => exact absurd e1 h1
        | some o1 =>
          cases e2 : look (updOf σ Hl He ++ H1) j with
          | none => exact absurd e2 h2
          | some o2 =>
            rcases cls i o1 e1 with ⟨i', ol, rfl, a2, a3, _⟩ | ⟨a1, a2, a3⟩ <;> rcases cls j o2 e2 with ⟨j', ol', rfl, b2, b3, _⟩ | ⟨b1, b2, b3⟩
            · rw [hname _ a2] at h3
              rw [hname _ b2] at h4
              rw [hr'.sat.inj i' j' b c c' (by rw [hHe _ _ a3]; simp) (by rw [hHe _ _ b3]; simp) h3 h4]
            · rw [hname _ a2] at h3
              rw [b3] at h4
              have hn1 := far j o2 b c' b1 b2 h4
              have hn2 := (hs.Mt_lt ⟨j, o2, c', b1, h4⟩).2
              rcases (hr'.sat.Mt_lt ⟨i', ol, c, hHe _ _ a3, h3⟩).1 with hh | hh
              · have h5 : w.heap.size ≤ b := hh
                omega
              · exact absurd hh hn1
            · rw [hname _ b2] at h4
              rw [a3] at h3
              have hn1 := far i o1 b c a1 a2 h3
              have hn2 := (hs.Mt_lt ⟨i, o1, c, a1, h3⟩).2
              rcases (hr'.sat.Mt_lt ⟨j', ol', c', hHe _ _ b3, h4⟩).1 with hh | hh
              · have h5 : w.heap.size ≤ b := hh
                omega
              · exact absurd hh hn1
            · rw [a3] at h3
              rw [b3] at h4
              exact hs.inj i j b c c' (by rw [a1]; simp) (by rw [b1]; simp) h3 h4
      · intro i o ho
        rcases cls i o ho with ⟨j, ol, rfl, a2, a3, rfl⟩ | ⟨a1, a2, a3⟩
        · rcases hr'.sat.obj j ol (hHe _ _ a3) with ⟨z1, z2⟩ | ⟨b, cap, cs, h1, h2, h3, h4, h5, h6⟩
          · exact .inl ⟨by simp [Ob.ren, z1], (hname j a2).trans z2⟩
          · refine .inr ⟨b, cap, cs, (hname j a2).trans h1, ?_, h3, h4, by simpa [Ob.ren] using h5, fun q v x hv hx => ?_⟩
            · rcases h2 with hh | hh
              · exact .inl (Nat.le_trans hs.size hh)
              · exact (hFm b hh).1
            · simp only [Ob.ren, List.getElem?_map] at hx
              cases hq : ol.cs[q]? with
              | none => rw [hq] at hx; cases hx
              | some y =>
                rw [hq] at hx
                cases hx
                exact hids y (fun id hid => hi2 id (.inr (Heap.ids_mem a3 (X.mem_idsL (List.mem_of_getElem? hq) hid)))) v (h6 q v y hv hq)
        · rcases hs.obj i o a1 with ⟨z1, z2⟩ | ⟨b, cap, cs, h1, h2, h3, h4, h5, h6⟩
          · exact .inl ⟨z1, a3.trans z2⟩
          · exact .inr ⟨b, cap, cs, a3.trans h1, h2, (hr'.sat.below.block b (lt_of_heap h3) (far i o b cap a1 a2 h1)).trans h3, h4, h5, fun q v x hv hx => (h6 q v x hv hx).later hlat hext⟩
    have hpost : a'.defers = [] ∧ ∃ v, (results fn a'.tmps).run P w' = .ok v w' ∧ (∃ v' ρ2, Ending.returned v = .returned v' ∧ Ext ρ ρ2 ∧ (∀ id, ρ2 id ≠ none → ρ id ≠ none ∨ id ∈ (newL Hl He).map σ) ∧ Later w (G.M ρ H1) w' (G.M ρ2 (updOf σ Hl He ++ H1)) ∧ RV w' (G.M ρ2 (updOf σ Hl He ++ H1)) ρ2 v' (rl.ren σ) ∧ Sat G ρ2 (updOf σ Hl He ++ H1) w') := by
      refine ⟨hr'.defers, v, g1, v, ρ'', rfl, hext, fun id hid => ?_, hlat, hids rl (fun id hid => hi2 id (.inl hid)) v g2, hfinal⟩
      by_cases hm : id ∈ (newL Hl He).map σ
      · exact .inr hm
      · exact .inl (by rwa [holdk id hm] at hid)
    rcases hfin.1 with rfl | rfl <;> exact hpost

end Go.Proofs.YtaacgmcgmljjeaaGreat

/- The calculus of states: pointers held against each other; a pointer turned to unsafe.Pointer and back; the bytes of an own slice as a string. -/
namespace Go.Proofs.YtaacgmcgmljjeaaGreat
open Go.RowKit

section
variable {P : Program} {o : Oper} {E : Env} {H : Heap} {R nw : List Nat}

theorem RV.nilp_inv {w : World} {M : Nat → Prop} {ρ : Rho} {v : Value} (h : RV w M ρ v (.d .nilp)) : v = .pointer none := by
  cases h with | d h => cases h; rfl

/-- two pointers to nothing -/
theorem LT_eqlNN {T U te : TypeId} {y z : Operand} (ho : o.op = .binOp .eql T y z U) (hT : P.underlying T = some (.pointer te)) (hy : opX E y = .d .nilp) (hz : opX E z = .d .nilp) : LT P o E H R nw [] (.d (.bool true)) :=
  LT_read fun G ρ H1 a w hs hh _ => by
    have g1 := hh y (by simp [ho, Op.operands])
    have g2 := hh z (by simp [ho, Op.operands])
    rw [hy] at g1
    rw [hz] at g2
    refine ⟨.bool true, ?_, .d (.bool _)⟩
    have h : ∀ d : Nat, (Op.equalIn (d + 1) T (.pointer none) (.pointer none)).run P w = .ok true w := fun d => by
      simp [Op.equalIn, run_underlying hT]
    simp [execOp, ho, g1.nilp_inv, g2.nilp_inv, eqGuard, binOp, Op.equal, Op.maxDepth, h 9999]

/-- a pointer to a block, and a pointer to nothing -/
theorem LT_eqlPN {T U te : TypeId} {y z : Operand} {id off : Nat} (ho : o.op = .binOp .eql T y z U) (hT : P.underlying T = some (.pointer te)) (hy : opX E y = .ptr id off) (hz : opX E z = .d .nilp) : LT P o E H R nw [] (.d (.bool false)) :=
  LT_read fun G ρ H1 a w hs hh _ => by
    have g1 := hh y (by simp [ho, Op.operands])
    have g2 := hh z (by simp [ho, Op.operands])
    rw [hy] at g1
    rw [hz] at g2
    generalize he : a.eval y = v at g1
    cases g1 with
    | ptr _ _ b cap hr =>
      refine ⟨.bool false, ?_, .d (.bool _)⟩
      have h : ∀ d : Nat, (Op.equalIn (d + 1) T (.pointer (some ⟨b, off, none⟩)) (.pointer none)).run P w = .ok false w := fun d => by
        simp [Op.equalIn, run_underlying hT]
      simp [execOp, ho, he, g2.nilp_inv, eqGuard, binOp, Op.equal, Op.maxDepth, h 9999]

/-- a pointer held against itself -/
theorem LT_neqPP {T U te : TypeId} {j : TypeInfo} {y z : Operand} {id off : Nat} (ho : o.op = .binOp .neq T y z U) (hT : P.underlying T = some (.pointer te)) (hte : P.info? te = some j) (hy : opX E y = .ptr id off) (hz : opX E z = .ptr id off) : LT P o E H R nw [] (.d (.bool false)) :=
  LT_read fun G ρ H1 a w hs hh _ => by
    have g1 := hh y (by simp [ho, Op.operands])
    have g2 := hh z (by simp [ho, Op.operands])
    rw [hy] at g1
    rw [hz] at g2
    generalize he : a.eval y = v at g1
    generalize he2 : a.eval z = v2 at g2
    cases g1 with
    | ptr _ _ b cap hr =>
      cases g2 with
      | ptr _ _ b2 cap2 hr2 =>
        rw [hr] at hr2
        cases hr2
        refine ⟨.bool false, ?_, .d (.bool _)⟩
        have h := Lib.run_neq_ptr_same (P := P) w ⟨b, off, none⟩ hT hte
        simp [execOp, ho, he, he2, eqGuard, h]

theorem liesAt_same {e : TypeId} {m : Nat} (hc : P.cellsOf e = m) (hm : 0 < m) (count : Nat) (hn : 1 ≤ count) : liesAt P P.depth e count 0 e 1 = true := by
  have hd : P.depth = (2 * (P.types.size + Made.depth) + 1) + 1 := rfl
  rw [hd]
  simp only [liesAt, Bool.or_eq_true]
  left
  rw [hd]
  simp [rowAt, hc, hn, sameLayout, Nat.ne_of_gt hm]

/-- a pointer to a block's head, as unsafe.Pointer -/
theorem LT_toUnsafe {S T t : TypeId} {j : TypeInfo} {y : Operand} {id : Nat} {ob : Ob} (ho : o.op = .convert S T y) (hS : P.underlying S = some (.pointer t)) (hT : P.underlying T = some .unsafePointer) (ht : P.info? t = some j) (hj : j.size ≠ 0) (hy : opX E y = .ptr id 0) (hl : look H id = some ob) (hR : id ∈ R) (hne : 0 < ob.cs.length) : LT P o E H R nw [] (.ptr id 0) :=
  LT_read fun G ρ H1 a w hs hh hRR => by
    have g1 := hh y (by simp [ho, Op.operands])
    rw [hy] at g1
    generalize he : a.eval y = v at g1
    cases g1 with
    | ptr _ _ b cap hr =>
      rcases hs.obj id ob ((hRR id hR).trans hl) with ⟨_, z⟩ | ⟨b', cap', cs, h1, h2, h3, h4, h5, h6⟩
      · rw [hr] at z; cases z
      rw [hr] at h1
      cases h1
      have hsh : w.shape? b = some (ob.T, cs.size) := by simp [World.shape?, h3]
      refine ⟨.pointer (some ⟨b, 0, none⟩), ?_, .ptr id 0 b cap hr⟩
      have h := Lib.run_to_unsafe (P := P) w ⟨b, 0, none⟩ hS hT ht hj hsh (show 0 < cs.size by omega)
      simp [execOp, ho, he, h]

/-- and back -/
theorem LT_fromUnsafe {S T : TypeId} {j : TypeInfo} {y : Operand} {id : Nat} {ob : Ob} (ho : o.op = .convert S T y) (hS : P.underlying S = some .unsafePointer) (hT : P.underlying T = some (.pointer ob.T)) (ht : P.info? ob.T = some j) (hc : P.cellsOf ob.T = ob.e) (he0 : 0 < ob.e) (hy : opX E y = .ptr id 0) (hl : look H id = some ob) (hR : id ∈ R) (hne : 0 < ob.cs.length) : LT P o E H R nw [] (.ptr id 0) :=
  LT_read fun G ρ H1 a w hs hh hRR => by
    have g1 := hh y (by simp [ho, Op.operands])
    rw [hy] at g1
    generalize he : a.eval y = v at g1
    cases g1 with
    | ptr _ _ b cap hr =>
      rcases hs.obj id ob ((hRR id hR).trans hl) with ⟨_, z⟩ | ⟨b', cap', cs, h1, h2, h3, h4, h5, h6⟩
      · rw [hr] at z; cases z
      rw [hr] at h1
      cases h1
      have hsh : w.shape? b = some (ob.T, cs.size) := by simp [World.shape?, h3]
      have hcap : 1 ≤ cap := by
        rcases Nat.eq_zero_or_pos cap with hz | hz
        · subst hz
          rw [Nat.zero_mul] at h4
          omega
        · exact hz
      have hlies : liesAt P P.depth ob.T (cs.size / P.cellsOf ob.T) 0 ob.T 1 = true := by
        refine liesAt_same hc he0 _ ?_
        rw [hc, h4, Nat.mul_div_cancel _ he0]
        exact hcap
      refine ⟨.pointer (some ⟨b, 0, none⟩), ?_, .ptr id 0 b cap hr⟩
      have h := Lib.run_from_unsafe (P := P) w ⟨b, 0, none⟩ hS hT ht hsh hlies
      simp [execOp, ho, he, h]

/-- abi.NoEscape -/
theorem LT_noEscape {y z : Operand} {ts : Array TypeId} {f : FuncId} {fn : Func} {x : X} (ho : o.op = .call ⟨.value z, #[y], ts⟩) (hz : opX E z = .d (.fn f)) (hf : P.funcs[f]? = some fn) (hname : (fn.name == "runtime.NumGoroutine") = false) (hb : fn.body.isNone = true) (hn : Extern.findNext fn = none) (he : Extern.find fn = some Extern.AbiNoEscape.same) (hy : opX E y = x) : LT P o E H R nw [] x :=
  LT_read fun G ρ H1 a w hs hh _ => by
    have g1 := hh y (by simp [ho, Op.operands, Call.operands])
    have g2 := hh z (by simp [ho, Op.operands, Call.operands])
    rw [hy] at g1
    rw [hz] at g2
    refine ⟨a.eval y, ?_, g1⟩
    have h := run_callFunc_extern hf hname hb hn he #[a.eval y] w
    rw [Lib.run_noEscape] at h
    simp [execOp, ho, resolve, g2.fn_inv, Deferred.ofValue, invoke, h]

/-- the address of an own slice's first element -/
theorem LT_sliceDataO {y : Operand} {ts : Array TypeId} {id n e : Nat} {ob : Ob} (ho : o.op = .call ⟨.builtin .unsafeSliceData, #[y], ts⟩) (hy : opX E y = .own id n e) (hn : 0 < n) (hl : look H id = some ob) (hR : id ∈ R) (hc : ob.cs ≠ []) : LT P o E H R nw [] (.ptr id 0) :=
  LT_builtin ho fun G ρ H1 a w hs hh hRR => by
    have g1 := hh y (by simp)
    rw [hy] at g1
    generalize he : a.eval y = v at g1
    cases g1 with
    | own0 => omega
    | own _ _ _ b cap hr =>
      rcases hs.obj id ob ((hRR id hR).trans hl) with ⟨_, z⟩ | ⟨b', cap', cs, h1, h2, h3, h4, h5, h6⟩
      · rw [hr] at z; cases z
      rw [hr] at h1
      cases h1
      have hcap : cap ≠ 0 := by
        rintro rfl
        rw [Nat.zero_mul] at h4
        have : 0 < ob.cs.length := List.length_pos_iff.2 hc
        omega
      refine ⟨.pointer (some ⟨b, 0, none⟩), fun cs => ⟨?_, .ptr id 0 b cap hr⟩⟩
      have h := Lib.run_unsafeSliceData_row (P := P) w ts o.type ⟨b, 0, none⟩ n cap hcap
      simp [builtin, he, h]

/-- the octets of an own slice as a string: the slice may turn no more -/
theorem LT_unsafeStr {y z : Operand} {pt it e : TypeId} {id n : Nat} {ob : Ob} (ns : List Int) (ho : o.op = .call ⟨.builtin .unsafeString, #[y, z], #[pt, it]⟩) (hp : P.underlying pt = some (.pointer e)) (hc1 : P.cellsOf e = 1) (hy : opX E y = .ptr id 0) (hz : opX E z = .d (.int .i64 n)) (hl : look H id = some ob) (hR : id ∈ R) (hT : ob.T = e)
    (hcs : ob.cs = (u8D ns).map .d) (hb : ∀ x ∈ ns, 0 ≤ x ∧ x < 256) (hn : ns.length = n) (h0 : 0 < n) (h63 : n ≤ 9223372036854775807) : LT P o E H R nw [(id, none)] (.d (.str (strD ns))) := by
  intro G ρ H1 a w hs hh hRR _ next Q hK
  have g1 := hh y (by simp [ho, Op.operands, Call.operands])
  have g2 := hh z (by simp [ho, Op.operands, Call.operands])
  rw [hy] at g1
  rw [hz] at g2
  generalize he : a.eval y = v at g1
  cases g1 with
  | ptr _ _ b cap hr =>
    have hl1 : look H1 id = some ob := (hRR id hR).trans hl
    rcases hs.obj id ob hl1 with ⟨_, z⟩ | ⟨b', cap', cs, h1, h2, h3, h4, h5, h6⟩
    · rw [hr] at z; cases z
    rw [hr] at h1
    cases h1
    rw [hT] at h3
    have hsh : w.shape? b = some (e, cs.size) := by simp [World.shape?, h3]
    let l : List UInt8 := ns.map fun x => UInt8.ofNat x.toNat
    have hll : l.length = n := by simp [l, hn]
    have hcl : ob.cs.length = n := by rw [hcs]; simp [u8D, hn]
    have hcell : ∀ j x, l[j]? = some x → w.cell? ((⟨b, 0, none⟩ : Addr).add j) = some (.int .u8 x.toNat) := by
      intro j x hx
      have hj : j < ns.length := by
        have := (List.getElem?_eq_some_iff.1 hx).1
        simpa [l] using this
      have hjc : j < cs.size := by omega
      have hxe : x = UInt8.ofNat ns[j].toNat := by simpa [l, hj] using hx.symm
      have h7 := h6 j cs[j] (.d (.int .u8 ns[j])) (by simp [hjc]) (by rw [hcs]; simp [u8D, hj])
      have hv : cs[j] = .int .u8 ns[j] := h7.int_inv
      rw [add_none]
      have hbd := hb ns[j] (List.getElem_mem hj)
      have hto : ((UInt8.ofNat ns[j].toNat).toNat : Int) = ns[j] := by
        rw [UInt8.toNat_ofNat']
        omega
      have hgo : w.cell? ⟨b, 0 + j, none⟩ = some cs[j] := by simp [World.cell?, h3, hjc]
      rw [hgo, hv, hxe, hto]
    have hrun := Lib.run_unsafeString_row (P := P) w pt it o.type e hp hc1 b cs.size hsh l (by intro h; rw [h] at hll; simp at hll; omega) (by omega) (by omega) hcell
    rw [hll] at hrun
    have hw : (execOp a.eval o).run P w = .ok (.value (.string ⟨l.toArray⟩)) (w.freeze ⟨b, 0, none⟩ n) := by
      simp only [execOp, ho, resolve, invoke, builtin, Sem.run_bind, Sem.run_pure, Result.andThen_ok, List.map_toArray, List.map_cons, List.map_nil, he, g2.int_inv, hrun]
    unfold Oper.wp
    rw [hw]
    obtain ⟨hs2, hl2⟩ := hs.drop id
    have hnm : ¬ G.M ρ ((id, none) :: H1) b := hs.still (by rw [hl1]; simp) hr h2
    have ht : Turn (· = b) w (w.freeze ⟨b, 0, none⟩ n) := by
      refine ⟨by unfold World.freeze; split <;> rfl, by unfold World.freeze; split <;> rfl, by unfold World.freeze; split <;> rfl, by unfold World.freeze; split <;> simp, fun k _ hk => ?_⟩
      simp only [World.freeze]
      split
      · rfl
      · simp only [Array.getElem?_modify]
        rw [if_neg (fun e => hk e.symm)]
    have hlat : Later w (G.M ρ H1) (w.freeze ⟨b, 0, none⟩ n) (G.M ρ ((id, none) :: H1)) :=
      ⟨ht.size, fun c h7 h8 => ht.block c h7 (by rintro rfl; exact h8 (.inr ⟨id, ob, cap, hl1, hr⟩)), fun c h7 h8 => hl2.sub c h7 h8⟩
    have hlo : ∀ j o1, look ((id, none) :: H1) j = some o1 → j ≠ id ∧ look H1 j = some o1 := by
      intro j o1 h
      by_cases hj : j = id
      · subst hj; simp [look] at h
      · exact ⟨hj, by rwa [show look ((id, none) :: H1) j = look H1 j by simp [look, Ne.symm hj]] at h⟩
    refine hK _ _ ρ (Ext.refl _) (fun _ h => .inl h) hlat (.d ?_) ⟨hs.below.set ht h2, hs.base, hs2.inj, fun j o1 hj => ?_⟩
    · exact .str _
    · obtain ⟨hji, hj1⟩ := hlo j o1 hj
      rcases hs.obj j o1 hj1 with hz | ⟨b1, cap1, cs1, k1, k2, k3, k4, k5, k6⟩
      · exact .inl hz
      · have hb1 : b1 ≠ b := by
          rintro rfl
          exact hji (hs.inj j id b1 cap1 cap (by rw [hj1]; simp) (by rw [hl1]; simp) k1 hr)
        exact .inr ⟨b1, cap1, cs1, k1, k2, (ht.block b1 (lt_of_heap k3) hb1).trans k3, k4, k5, fun i v x hv hx => (k6 i v x hv hx).later hlat (Ext.refl _)⟩

/-- append onto nil -/
theorem LT_append0 {t e : TypeId} {i : TypeInfo} {z : Value} {y q : Operand} {k m : Nat} {c : List D} (id' : Nat) (ho : o.op = .call ⟨.builtin .append, #[y, q], #[t, t]⟩) (ht : P.underlying t = some (.slice e)) (hi : P.info? e = some i) (hz : i.zero = some z) (hm : i.size = m) (hzs : z.cells.size = m)
    (hy : opX E y = .d (.sl 0 0 [])) (hq : opX E q = .d (.sl k m c)) (hid : id' ∈ nw) (hk : 0 < k) (hbig : k ≤ 9223372036854775807) (hby : k * i.bytes ≤ 140737488355328) :
    LT P o E H R nw [(id', some ⟨e, m, c.map .d⟩)] (.own id' k m) := by
  intro G ρ H1 a w hs hh _ hnw next Q hK
  have g1 := hh y (by simp [ho, Op.operands, Call.operands])
  have g2 := hh q (by simp [ho, Op.operands, Call.operands])
  rw [hy] at g1
  rw [hq] at g2
  subst hm
  have hnone := hnw id' hid
  have hey : a.eval y = .slice none 0 0 := by
    generalize a.eval y = v at g1
    cases g1 with | d h =>
    cases h with
    | nil0 => rfl
    | nil _ _ _ he => omega
    | sl _ _ _ _ _ _ _ hn => omega
  obtain ⟨aq, capq, heq, hkcap, hclen, hpos⟩ := g2.sl_inv
  obtain ⟨b2, off2, g, rfl, hb2, hm2, hg, hrr⟩ := hpos hk
  let news : List Value := (List.range (k * i.size)).map g
  have hnl : news.length = k * i.size := by simp [news]
  have hnews : ∀ j u, news[j]? = some u → w.cell? ((⟨b2, off2, none⟩ : Addr).add j) = some u := by
    intro j u hu
    have hj : j < k * i.size := by rw [← hnl]; exact (List.getElem?_eq_some_iff.1 hu).1
    have : u = g j := by simpa [news, hj] using hu.symm
    rw [this, add_none]
    exact hg j hj
  have hnd : ∀ (j : Nat) u x, news[j]? = some u → c[j]? = some x → RD w (G.M ρ H1) u x := by
    intro j u x hu hx
    have hj : j < k * i.size := by rw [← hnl]; exact (List.getElem?_eq_some_iff.1 hu).1
    have : u = g j := by simpa [news, hj] using hu.symm
    rw [this]
    exact hrr j x hx
  have hrun := run_append_nil (P := P) w t o.type e i z ht hi hz ⟨b2, off2, none⟩ k capq news hnl hnews hk (by omega) (by omega)
  have hge := grownCap_ge w k 0 e
  have hd : Below w.heap.size w w.drew := (Below.refl _ w).drew
  have hs1 : Sat G ρ H1 w.drew := hs.grow hd
  have hlat1 : Later w (G.M ρ H1) w.drew (G.M ρ H1) := later_grow hd
  obtain ⟨ρ', e1, e2, e3, e4, e5⟩ := hs1.new (id := id') hnone (news.toArray ++ Builtin.zeroCells z.cells (grownCap w k 0 e - k)) (grownCap w k 0 e) ⟨e, i.size, c.map .d⟩
    (by
      simp only [Array.size_append, List.size_toArray, size_zeroCells, hzs, hnl, ← Nat.add_mul]
      congr 1; omega)
    (by simp only [Array.size_append, List.size_toArray, size_zeroCells, hnl, List.length_map, hclen]; omega)
    (fun j v x hv hx => by
      refine cells_new (old := []) (news := news) (rest := (Builtin.zeroCells z.cells (grownCap w k 0 e - k)).toList) (cs := []) rfl (fun j v x h1 h2 => by simp at h1) (by rw [hnl, hclen]) (fun j v x h1 h2 => (hnd j v x h1 h2).later hlat1) j v x ?_ (by simpa using hx)
      rw [← hv, ← Array.getElem?_toList]
      simp)
  unfold Oper.wp execOp
  simp only [ho, resolve, invoke, builtin, Sem.run_bind, Sem.run_pure, Result.andThen_ok, List.map_toArray, List.map_cons, List.map_nil, hey, heq, hrun]
  refine hK _ _ ρ' e1 (fun j hj => (e2 j hj).imp (fun h => h) fun h => by rw [h]; exact hid) ?_ (.own id' _ _ _ _ e3) e5
  exact ⟨by have := e4.size; exact this, fun b h1 h2 => e4.block b h1 h2, fun b h1 h2 => e4.sub b h1 h2⟩

end
end Go.Proofs.YtaacgmcgmljjeaaGreat

/- The calculus of states: a string's bytes are appended to a slice. -/
namespace Go.Proofs.YtaacgmcgmljjeaaGreat
open Go.RowKit

theorem strRow (s : ByteArray) : (s.data.map fun b => Value.int .u8 b.toNat) = (Lib.strCells s).toArray := by
  apply Array.toList_inj.1
  simp [Lib.strCells]

section
variable {P : Program} {o : Oper} {E : Env} {H : Heap} {R nw : List Nat}

theorem LT_appendS {t u e : TypeId} {i : TypeInfo} {z : Value} {y q : Operand} {id n m : Nat} {ob : Ob} {str : ByteArray} (id' : Nat) (ho : o.op = .call ⟨.builtin .append, #[y, q], #[t, u]⟩) (ht : P.underlying t = some (.slice e)) (hu : P.underlying u = some .string) (h1m : m = 1) (hi : P.info? e = some i) (hz : i.zero = some z) (hm : i.size = m) (hzs : z.cells.size = m) (hm0 : 0 < m)
    (hy : opX E y = .own id n m) (hq : opX E q = .d (.str str)) (hl : look H id = some ob) (hR : id ∈ R) (hid : id' ∈ nw) (hT : ob.T = e) (he : ob.e = m) (hcs : ob.cs.length = n * m) (hk : 0 < str.size) (hbig : n + str.size ≤ 9223372036854775807) (hby : (n + str.size) * i.bytes ≤ 140737488355328) (cs' : List X) (hcs' : ob.cs ++ (bytesD str).map .d = cs') (n' : Nat) (hn' : n + str.size = n') :
    LT P o E H R nw [(id', some ⟨e, m, cs'⟩), (id, none)] (.own id' n' m) := by
  intro G ρ H1 a w hs hh hRR hnw next Q hK
  have g1 := hh y (by simp [ho, Op.operands, Call.operands])
  have g2 := hh q (by simp [ho, Op.operands, Call.operands])
  rw [hy] at g1
  rw [hq] at g2
  subst hn' hcs' hm
  have hl1 : look H1 id = some ob := (hRR id hR).trans hl
  have hnone := hnw id' hid
  generalize hey : a.eval y = vy at g1
  have heq := g2.str_inv
  generalize hk' : str.size = k at hk hbig hby hK
  let c := bytesD str
  have hclen : c.length = k * i.size := by
    rw [h1m, Nat.mul_one, ← hk']
    simp [c, bytesD]
  let news : List Value := Lib.strCells str
  have hnl : news.length = k * i.size := by rw [h1m, Nat.mul_one, ← hk']; exact Lib.strCells_length str
  have hnd : ∀ (j : Nat) u x, news[j]? = some u → c[j]? = some x → RD w (G.M ρ H1) u x := by
    intro j u x hu hx
    have hj : j < str.data.toList.length := by
      have := (List.getElem?_eq_some_iff.1 hu).1
      simpa [news, Lib.strCells] using this
    simp only [news, Lib.strCells, List.getElem?_map, List.getElem?_eq_getElem hj, Option.map_some, Option.some.injEq] at hu
    simp only [c, bytesD, List.getElem?_map, List.getElem?_eq_getElem hj, Option.map_some, Option.some.injEq] at hx
    rw [← hu, ← hx]
    exact .int _ _
  have hone : ∀ u ∈ news, u.oneCell' = true := by
    intro u hu
    obtain ⟨j, hj, he⟩ := List.mem_iff_getElem.1 hu
    have hjc : j < c.length := by rw [hclen, ← hnl]; exact hj
    exact (hnd j u c[j] (by rw [List.getElem?_eq_getElem hj, he]) (by simp [hjc])).one
  -- how the operation runs
  have hwp : ∀ v w', (Builtin.append_ #[t, u] o.type #[vy, .string str]).run P w = .ok v w' → next (a.put o.dst v) w' → o.wp P a w next Q := by
    intro v w' hr hnx
    unfold Oper.wp execOp
    simp only [ho, resolve, invoke, builtin, Sem.run_bind, Sem.run_pure, Result.andThen_ok, List.map_toArray, List.map_cons, List.map_nil, hey, heq, hr]
    exact hnx
  -- the arm that makes a new block
  have grown : ∀ (xs : List Value) (old cap : Nat), xs.length = ob.cs.length → (∀ (j : Nat) v x, xs[j]? = some v → ob.cs[j]? = some x → RV w (G.M ρ H1) ρ v x) → cap = grownCap w (n + k) old e →
      (Builtin.append_ #[t, u] o.type #[vy, .string str]).run P w = .ok (.slice (some ⟨w.heap.size, 0, none⟩) (n + k) cap) (w.drew.alloc (.cells (xs.toArray ++ news.toArray ++ Builtin.zeroCells z.cells (cap - (n + k))) e)) → o.wp P a w next Q := by
    intro xs old cap hxl hxr hcap hrun
    have hge : n + k ≤ cap := hcap ▸ grownCap_ge w (n + k) old e
    have hd : Below w.heap.size w w.drew := (Below.refl _ w).drew
    have hs1 : Sat G ρ H1 w.drew := hs.grow hd
    obtain ⟨hs2, hl2⟩ := hs1.drop id
    have hlat1 : Later w (G.M ρ H1) w.drew (G.M ρ ((id, none) :: H1)) := ⟨hl2.size, fun _ _ _ => rfl, hl2.sub⟩
    obtain ⟨ρ', e1, e2, e3, e4, e5⟩ := hs2.new (id := id') hnone (xs.toArray ++ news.toArray ++ Builtin.zeroCells z.cells (cap - (n + k))) cap ⟨e, i.size, ob.cs ++ c.map .d⟩
      (by
        simp only [Array.size_append, List.size_toArray, size_zeroCells, hzs, hxl, hnl, hcs, ← Nat.add_mul]
        congr 1; omega)
      (by simp only [Array.size_append, List.size_toArray, size_zeroCells, hxl, hnl, List.length_append, List.length_map, hclen]; omega)
      (fun j v x hv hx => by
        refine cells_new (old := xs) (news := news) (rest := (Builtin.zeroCells z.cells (cap - (n + k))).toList) hxl (fun j v x h1 h2 => (hxr j v x h1 h2).later hlat1 (Ext.refl _)) (by rw [hnl, hclen]) (fun j v x h1 h2 => (hnd j v x h1 h2).later hlat1) j v x ?_ hx
        rw [← hv, ← Array.getElem?_toList]
        simp)
    refine hwp _ _ hrun (hK _ _ ρ' e1 (fun j hj => (e2 j hj).imp (fun h => h) fun h => by rw [h]; exact hid) ?_ (.own id' _ _ _ _ e3) e5)
    exact ⟨by have := e4.size; exact this, fun b h1 h2 => (e4.block b h1 fun h => h2 (hlat1.sub b h1 h)), fun b h1 h2 => hlat1.sub b h1 (e4.sub b h1 h2)⟩
  cases g1 with
  | own0 =>
    have hnil : ob.cs = [] := List.eq_nil_of_length_eq_zero (by simpa using hcs)
    have hr := run_append_nil_string (P := P) w t u o.type e i z ht hu hi hz str (by omega) (by omega) (by rw [hk']; simp only [Nat.zero_add] at hby; omega)
    rw [hk', strRow] at hr
    refine grown [] 0 _ (by rw [hnil]; rfl) (fun j v x h => by simp at h) rfl ?_
    simp only [Nat.zero_add]
    rw [hr]
    simp [news]
  | own _ _ _ b cap hr =>
    rcases hs.obj id ob hl1 with ⟨_, z1⟩ | ⟨b', cap', cur, h1, h2, h3, h4, h5, h6⟩
    · rw [hr] at z1; cases z1
    rw [hr] at h1
    cases h1
    rw [hT] at h3
    rw [he] at h4
    have hcur : n * i.size ≤ cur.size := by rw [← hcs]; exact h5
    let xs : List Value := cur.toList.take (n * i.size)
    have hxl : xs.length = ob.cs.length := by simp [xs, hcs]; omega
    have hxr : ∀ (j : Nat) v x, xs[j]? = some v → ob.cs[j]? = some x → RV w (G.M ρ H1) ρ v x := by
      intro j v x hv hx
      have hj : j < n * i.size := by rw [← hcs]; exact (List.getElem?_eq_some_iff.1 hx).1
      refine h6 j v x ?_ hx
      rw [← hv, List.getElem?_take_of_lt hj, Array.getElem?_toList]
    by_cases hroom : n + k ≤ cap
    · have hfit : n * i.size + news.length ≤ cur.size := by rw [hnl, h4, ← Nat.add_mul]; exact Nat.mul_le_mul_right _ hroom
      have hrun := Lib.run_append_room_string (P := P) w t u o.type e i ht hu hi h1m b n cap cur h3 str (by omega) (by rw [hk']; rw [h1m] at hfit; rw [hnl, h1m] at hfit; omega)
      rw [hk'] at hrun
      have hrow : (cur.toList.take n ++ Lib.strCells str ++ cur.toList.drop (n + k)).toArray = (cur.toList.take (n * i.size) ++ news ++ cur.toList.drop (n * i.size + news.length)).toArray := by rw [hnl, h1m]; simp [news]
      rw [hrow] at hrun
      obtain ⟨ρ', e1, e2, e3, e4, e5⟩ := hs.move hl1 hr hnone
      obtain ⟨f1, f2⟩ := e5.set (id := id') (ob := ob) (ob' := ⟨e, i.size, ob.cs ++ c.map .d⟩) (w' := w.setRow b (cur.toList.take (n * i.size) ++ news ++ cur.toList.drop (n * i.size + news.length)).toArray) (by simp [look]) e3
        (cur.toList.take (n * i.size) ++ news ++ cur.toList.drop (n * i.size + news.length)).toArray hT.symm he.symm
        (by simp only [List.size_toArray, List.length_append, List.length_take, List.length_drop, Array.length_toList, List.length_map, hclen, hcs]; omega)
        (by simp only [List.size_toArray, List.length_append, List.length_take, List.length_drop, Array.length_toList, he]; omega)
        (by rw [hT]; exact setRow_heap w b cur _ e _ h3) (turn_setRow _ _ _)
        (fun j v x hv hx => by
          rw [e4]
          rw [List.getElem?_toArray] at hv
          have hlat : Later w (G.M ρ H1) w (G.M ρ H1) := Later.refl _ _
          exact cells_new hxl (fun j v x h1 h2 => (hxr j v x h1 h2).later hlat e1) (by rw [hnl, hclen]) hnd j v x hv hx)
      have hH : ∀ j, look ((id', some (⟨e, i.size, ob.cs ++ c.map .d⟩ : Ob)) :: (id', some ob) :: (id, none) :: H1) j = look ((id', some ⟨e, i.size, ob.cs ++ c.map .d⟩) :: (id, none) :: H1) j := by
        intro j
        by_cases hj : id' = j <;> simp [look, hj]
      have hMM : G.M ρ' ((id', some (⟨e, i.size, ob.cs ++ c.map .d⟩ : Ob)) :: (id', some ob) :: (id, none) :: H1) = G.M ρ' ((id', some ⟨e, i.size, ob.cs ++ c.map .d⟩) :: (id, none) :: H1) := by
        funext b
        unfold Ctx.M Mt
        simp only [hH]
      rw [e4, hMM] at f1
      refine hwp _ _ hrun (hK _ _ ρ' e1 (fun j hj => (e2 j hj).imp (fun h => h) fun h => by rw [h]; exact hid) f1 (.own id' _ _ _ _ e3) ⟨f2.below, f2.base, fun p q b c1 c2 q1 q2 => f2.inj p q b c1 c2 (by rw [hH]; exact q1) (by rw [hH]; exact q2), fun j o1 hj => ?_⟩)
      have := f2.obj j o1 (by rw [hH]; exact hj)
      rw [hMM] at this
      exact this
    · have holds : ∀ j u, xs[j]? = some u → w.cell? ((⟨b, 0, none⟩ : Addr).add j) = some u := by
        intro j u hu
        have hj : j < n * i.size := by
          have := (List.getElem?_eq_some_iff.1 hu).1
          rw [hxl, hcs] at this; exact this
        rw [List.getElem?_take_of_lt hj, Array.getElem?_toList] at hu
        rw [add_none]
        simp [World.cell?, h3, hu]
      have hrun := Lib.run_append_grow_string (P := P) w t u o.type e i z ht hu hi hz ⟨b, 0, none⟩ n cap xs (by rw [hxl, hcs]) holds str (by omega) (by omega) (by rw [hk']; exact growslice_fits (by omega) hby)
      rw [hk'] at hrun
      exact grown xs cap _ hxl hxr rfl hrun


/-- a string's bytes onto nil -/
theorem LT_appendS0 {t u e : TypeId} {i : TypeInfo} {z : Value} {y q : Operand} {m : Nat} {str : ByteArray} (id' : Nat) (ho : o.op = .call ⟨.builtin .append, #[y, q], #[t, u]⟩) (ht : P.underlying t = some (.slice e)) (hu : P.underlying u = some .string) (h1m : m = 1) (hi : P.info? e = some i) (hz : i.zero = some z) (hm : i.size = m) (hzs : z.cells.size = m)
    (hy : opX E y = .d (.sl 0 0 [])) (hq : opX E q = .d (.str str)) (hid : id' ∈ nw) (hk : 0 < str.size) (hbig : str.size ≤ 9223372036854775807) (hby : str.size * i.bytes ≤ 140737488355328) (cs' : List X) (hcs' : (bytesD str).map .d = cs') :
    LT P o E H R nw [(id', some ⟨e, m, cs'⟩)] (.own id' str.size m) := by
  subst hcs'
  intro G ρ H1 a w hs hh _ hnw next Q hK
  have g1 := hh y (by simp [ho, Op.operands, Call.operands])
  have g2 := hh q (by simp [ho, Op.operands, Call.operands])
  rw [hy] at g1
  rw [hq] at g2
  subst hm
  have hnone := hnw id' hid
  have hey : a.eval y = .slice none 0 0 := by
    generalize a.eval y = v at g1
    cases g1 with | d h =>
    cases h with
    | nil0 => rfl
    | nil _ _ _ he => omega
    | sl _ _ _ _ _ _ _ hn => omega
  have heq := g2.str_inv
  generalize hk' : str.size = k at hk hbig hby hK
  let c := bytesD str
  have hclen : c.length = k * i.size := by
    rw [h1m, Nat.mul_one, ← hk']
    simp [c, bytesD]
  let news : List Value := Lib.strCells str
  have hnl : news.length = k * i.size := by rw [h1m, Nat.mul_one, ← hk']; exact Lib.strCells_length str
  have hnd : ∀ (j : Nat) u x, news[j]? = some u → c[j]? = some x → RD w (G.M ρ H1) u x := by
    intro j u x hu hx
    have hj : j < str.data.toList.length := by
      have := (List.getElem?_eq_some_iff.1 hu).1
      simpa [news, Lib.strCells] using this
    simp only [news, Lib.strCells, List.getElem?_map, List.getElem?_eq_getElem hj, Option.map_some, Option.some.injEq] at hu
    simp only [c, bytesD, List.getElem?_map, List.getElem?_eq_getElem hj, Option.map_some, Option.some.injEq] at hx
    rw [← hu, ← hx]
    exact .int _ _
  have hrun := run_append_nil_string (P := P) w t u o.type e i z ht hu hi hz str (by omega) (by omega) (by rw [hk']; omega)
  rw [hk', strRow] at hrun
  have hge := grownCap_ge w k 0 e
  have hd : Below w.heap.size w w.drew := (Below.refl _ w).drew
  have hs1 : Sat G ρ H1 w.drew := hs.grow hd
  have hlat1 : Later w (G.M ρ H1) w.drew (G.M ρ H1) := later_grow hd
  obtain ⟨ρ', e1, e2, e3, e4, e5⟩ := hs1.new (id := id') hnone (news.toArray ++ Builtin.zeroCells z.cells (grownCap w k 0 e - k)) (grownCap w k 0 e) ⟨e, i.size, c.map .d⟩
    (by
      simp only [Array.size_append, List.size_toArray, size_zeroCells, hzs, hnl, ← Nat.add_mul]
      congr 1; omega)
    (by simp only [Array.size_append, List.size_toArray, size_zeroCells, hnl, List.length_map, hclen]; omega)
    (fun j v x hv hx => by
      refine cells_new (old := []) (news := news) (rest := (Builtin.zeroCells z.cells (grownCap w k 0 e - k)).toList) (cs := []) rfl (fun j v x h1 h2 => by simp at h1) (by rw [hnl, hclen]) (fun j v x h1 h2 => (hnd j v x h1 h2).later hlat1) j v x ?_ (by simpa using hx)
      rw [← hv, ← Array.getElem?_toList]
      simp)
  unfold Oper.wp execOp
  simp only [ho, resolve, invoke, builtin, Sem.run_bind, Sem.run_pure, Result.andThen_ok, List.map_toArray, List.map_cons, List.map_nil, hey, heq, hrun]
  refine hK _ _ ρ' e1 (fun j hj => (e2 j hj).imp (fun h => h) fun h => by rw [h]; exact hid) ?_ (.own id' _ _ _ _ e3) e5
  exact ⟨by have := e4.size; exact this, fun b h1 h2 => e4.block b h1 h2, fun b h1 h2 => e4.sub b h1 h2⟩

end
end Go.Proofs.YtaacgmcgmljjeaaGreat

/- What the program's tables say of its types. -/
namespace Go.Proofs.YtaacgmcgmljjeaaGreat

theorem inf0 : Tryz.prog.info? 0 = some Tryz.t0 := by kernel_rfl
theorem inf1 : Tryz.prog.info? 1 = some Tryz.t1 := by kernel_rfl
theorem inf2 : Tryz.prog.info? 2 = some Tryz.t2 := by kernel_rfl
theorem inf3 : Tryz.prog.info? 3 = some Tryz.t3 := by kernel_rfl
theorem inf4 : Tryz.prog.info? 4 = some Tryz.t4 := by kernel_rfl
theorem inf5 : Tryz.prog.info? 5 = some Tryz.t5 := by kernel_rfl
theorem inf6 : Tryz.prog.info? 6 = some Tryz.t6 := by kernel_rfl
theorem inf7 : Tryz.prog.info? 7 = some Tryz.t7 := by kernel_rfl
theorem inf8 : Tryz.prog.info? 8 = some Tryz.t8 := by kernel_rfl
theorem inf9 : Tryz.prog.info? 9 = some Tryz.t9 := by kernel_rfl
theorem inf10 : Tryz.prog.info? 10 = some Tryz.t10 := by kernel_rfl
theorem inf11 : Tryz.prog.info? 11 = some Tryz.t11 := by kernel_rfl
theorem inf12 : Tryz.prog.info? 12 = some Tryz.t12 := by kernel_rfl
theorem inf13 : Tryz.prog.info? 13 = some Tryz.t13 := by kernel_rfl
theorem inf14 : Tryz.prog.info? 14 = some Tryz.t14 := by kernel_rfl
theorem inf15 : Tryz.prog.info? 15 = some Tryz.t15 := by kernel_rfl
theorem inf16 : Tryz.prog.info? 16 = some Tryz.t16 := by kernel_rfl
theorem inf17 : Tryz.prog.info? 17 = some Tryz.t17 := by kernel_rfl
theorem inf18 : Tryz.prog.info? 18 = some Tryz.t18 := by kernel_rfl
theorem inf19 : Tryz.prog.info? 19 = some Tryz.t19 := by kernel_rfl
theorem inf20 : Tryz.prog.info? 20 = some Tryz.t20 := by kernel_rfl
theorem inf21 : Tryz.prog.info? 21 = some Tryz.t21 := by kernel_rfl
theorem inf22 : Tryz.prog.info? 22 = some Tryz.t22 := by kernel_rfl
theorem inf23 : Tryz.prog.info? 23 = some Tryz.t23 := by kernel_rfl
theorem inf24 : Tryz.prog.info? 24 = some Tryz.t24 := by kernel_rfl
theorem inf25 : Tryz.prog.info? 25 = some Tryz.t25 := by kernel_rfl
theorem inf26 : Tryz.prog.info? 26 = some Tryz.t26 := by kernel_rfl
theorem inf27 : Tryz.prog.info? 27 = some Tryz.t27 := by kernel_rfl
theorem inf28 : Tryz.prog.info? 28 = some Tryz.t28 := by kernel_rfl
theorem inf29 : Tryz.prog.info? 29 = some Tryz.t29 := by kernel_rfl
theorem inf30 : Tryz.prog.info? 30 = some Tryz.t30 := by kernel_rfl
theorem inf31 : Tryz.prog.info? 31 = some Tryz.t31 := by kernel_rfl
theorem inf32 : Tryz.prog.info? 32 = some Tryz.t32 := by kernel_rfl
theorem inf33 : Tryz.prog.info? 33 = some Tryz.t33 := by kernel_rfl
theorem inf34 : Tryz.prog.info? 34 = some Tryz.t34 := by kernel_rfl
theorem inf35 : Tryz.prog.info? 35 = some Tryz.t35 := by kernel_rfl
theorem inf36 : Tryz.prog.info? 36 = some Tryz.t36 := by kernel_rfl
theorem inf37 : Tryz.prog.info? 37 = some Tryz.t37 := by kernel_rfl
theorem inf38 : Tryz.prog.info? 38 = some Tryz.t38 := by kernel_rfl
theorem inf39 : Tryz.prog.info? 39 = some Tryz.t39 := by kernel_rfl
theorem inf40 : Tryz.prog.info? 40 = some Tryz.t40 := by kernel_rfl
theorem inf41 : Tryz.prog.info? 41 = some Tryz.t41 := by kernel_rfl
theorem inf42 : Tryz.prog.info? 42 = some Tryz.t42 := by kernel_rfl
theorem inf43 : Tryz.prog.info? 43 = some Tryz.t43 := by kernel_rfl
theorem inf44 : Tryz.prog.info? 44 = some Tryz.t44 := by kernel_rfl
theorem inf45 : Tryz.prog.info? 45 = some Tryz.t45 := by kernel_rfl
theorem inf46 : Tryz.prog.info? 46 = some Tryz.t46 := by kernel_rfl
theorem inf47 : Tryz.prog.info? 47 = some Tryz.t47 := by kernel_rfl
theorem inf48 : Tryz.prog.info? 48 = some Tryz.t48 := by kernel_rfl
theorem inf49 : Tryz.prog.info? 49 = some Tryz.t49 := by kernel_rfl
theorem inf50 : Tryz.prog.info? 50 = some Tryz.t50 := by kernel_rfl
theorem inf51 : Tryz.prog.info? 51 = some Tryz.t51 := by kernel_rfl
theorem inf52 : Tryz.prog.info? 52 = some Tryz.t52 := by kernel_rfl
theorem inf53 : Tryz.prog.info? 53 = some Tryz.t53 := by kernel_rfl
theorem inf54 : Tryz.prog.info? 54 = some Tryz.t54 := by kernel_rfl
theorem inf55 : Tryz.prog.info? 55 = some Tryz.t55 := by kernel_rfl
theorem inf56 : Tryz.prog.info? 56 = some Tryz.t56 := by kernel_rfl
theorem inf57 : Tryz.prog.info? 57 = some Tryz.t57 := by kernel_rfl
theorem inf58 : Tryz.prog.info? 58 = some Tryz.t58 := by kernel_rfl
theorem inf59 : Tryz.prog.info? 59 = some Tryz.t59 := by kernel_rfl
theorem inf60 : Tryz.prog.info? 60 = some Tryz.t60 := by kernel_rfl
theorem inf61 : Tryz.prog.info? 61 = some Tryz.t61 := by kernel_rfl
theorem inf62 : Tryz.prog.info? 62 = some Tryz.t62 := by kernel_rfl
theorem inf63 : Tryz.prog.info? 63 = some Tryz.t63 := by kernel_rfl
theorem inf64 : Tryz.prog.info? 64 = some Tryz.t64 := by kernel_rfl
theorem inf65 : Tryz.prog.info? 65 = some Tryz.t65 := by kernel_rfl
theorem inf66 : Tryz.prog.info? 66 = some Tryz.t66 := by kernel_rfl
theorem inf67 : Tryz.prog.info? 67 = some Tryz.t67 := by kernel_rfl
theorem inf68 : Tryz.prog.info? 68 = some Tryz.t68 := by kernel_rfl
theorem inf69 : Tryz.prog.info? 69 = some Tryz.t69 := by kernel_rfl
theorem inf70 : Tryz.prog.info? 70 = some Tryz.t70 := by kernel_rfl
theorem inf71 : Tryz.prog.info? 71 = some Tryz.t71 := by kernel_rfl
theorem inf72 : Tryz.prog.info? 72 = some Tryz.t72 := by kernel_rfl
theorem inf73 : Tryz.prog.info? 73 = some Tryz.t73 := by kernel_rfl
theorem inf74 : Tryz.prog.info? 74 = some Tryz.t74 := by kernel_rfl
theorem inf75 : Tryz.prog.info? 75 = some Tryz.t75 := by kernel_rfl
theorem inf76 : Tryz.prog.info? 76 = some Tryz.t76 := by kernel_rfl
theorem inf77 : Tryz.prog.info? 77 = some Tryz.t77 := by kernel_rfl
theorem inf78 : Tryz.prog.info? 78 = some Tryz.t78 := by kernel_rfl
theorem inf79 : Tryz.prog.info? 79 = some Tryz.t79 := by kernel_rfl
theorem inf80 : Tryz.prog.info? 80 = some Tryz.t80 := by kernel_rfl
theorem inf81 : Tryz.prog.info? 81 = some Tryz.t81 := by kernel_rfl
theorem inf82 : Tryz.prog.info? 82 = some Tryz.t82 := by kernel_rfl
theorem inf83 : Tryz.prog.info? 83 = some Tryz.t83 := by kernel_rfl
theorem inf84 : Tryz.prog.info? 84 = some Tryz.t84 := by kernel_rfl
theorem inf85 : Tryz.prog.info? 85 = some Tryz.t85 := by kernel_rfl
theorem inf86 : Tryz.prog.info? 86 = some Tryz.t86 := by kernel_rfl
theorem inf87 : Tryz.prog.info? 87 = some Tryz.t87 := by kernel_rfl
theorem inf88 : Tryz.prog.info? 88 = some Tryz.t88 := by kernel_rfl
theorem inf89 : Tryz.prog.info? 89 = some Tryz.t89 := by kernel_rfl
theorem inf90 : Tryz.prog.info? 90 = some Tryz.t90 := by kernel_rfl
theorem inf91 : Tryz.prog.info? 91 = some Tryz.t91 := by kernel_rfl
theorem inf92 : Tryz.prog.info? 92 = some Tryz.t92 := by kernel_rfl
theorem inf93 : Tryz.prog.info? 93 = some Tryz.t93 := by kernel_rfl
theorem inf94 : Tryz.prog.info? 94 = some Tryz.t94 := by kernel_rfl
theorem inf95 : Tryz.prog.info? 95 = some Tryz.t95 := by kernel_rfl
theorem inf96 : Tryz.prog.info? 96 = some Tryz.t96 := by kernel_rfl
theorem inf97 : Tryz.prog.info? 97 = some Tryz.t97 := by kernel_rfl
theorem inf98 : Tryz.prog.info? 98 = some Tryz.t98 := by kernel_rfl
theorem inf99 : Tryz.prog.info? 99 = some Tryz.t99 := by kernel_rfl
theorem inf100 : Tryz.prog.info? 100 = some Tryz.t100 := by kernel_rfl
theorem inf101 : Tryz.prog.info? 101 = some Tryz.t101 := by kernel_rfl
theorem inf102 : Tryz.prog.info? 102 = some Tryz.t102 := by kernel_rfl
theorem inf103 : Tryz.prog.info? 103 = some Tryz.t103 := by kernel_rfl
theorem inf104 : Tryz.prog.info? 104 = some Tryz.t104 := by kernel_rfl
theorem inf105 : Tryz.prog.info? 105 = some Tryz.t105 := by kernel_rfl
theorem inf106 : Tryz.prog.info? 106 = some Tryz.t106 := by kernel_rfl
theorem inf107 : Tryz.prog.info? 107 = some Tryz.t107 := by kernel_rfl
theorem inf108 : Tryz.prog.info? 108 = some Tryz.t108 := by kernel_rfl
theorem inf109 : Tryz.prog.info? 109 = some Tryz.t109 := by kernel_rfl
theorem inf110 : Tryz.prog.info? 110 = some Tryz.t110 := by kernel_rfl
theorem inf111 : Tryz.prog.info? 111 = some Tryz.t111 := by kernel_rfl
theorem inf112 : Tryz.prog.info? 112 = some Tryz.t112 := by kernel_rfl
theorem inf113 : Tryz.prog.info? 113 = some Tryz.t113 := by kernel_rfl
theorem inf114 : Tryz.prog.info? 114 = some Tryz.t114 := by kernel_rfl
theorem inf115 : Tryz.prog.info? 115 = some Tryz.t115 := by kernel_rfl
theorem inf116 : Tryz.prog.info? 116 = some Tryz.t116 := by kernel_rfl
theorem inf117 : Tryz.prog.info? 117 = some Tryz.t117 := by kernel_rfl
theorem inf118 : Tryz.prog.info? 118 = some Tryz.t118 := by kernel_rfl
theorem inf119 : Tryz.prog.info? 119 = some Tryz.t119 := by kernel_rfl
theorem inf120 : Tryz.prog.info? 120 = some Tryz.t120 := by kernel_rfl
theorem inf121 : Tryz.prog.info? 121 = some Tryz.t121 := by kernel_rfl
theorem inf122 : Tryz.prog.info? 122 = some Tryz.t122 := by kernel_rfl
theorem inf123 : Tryz.prog.info? 123 = some Tryz.t123 := by kernel_rfl
theorem inf124 : Tryz.prog.info? 124 = some Tryz.t124 := by kernel_rfl
theorem inf125 : Tryz.prog.info? 125 = some Tryz.t125 := by kernel_rfl
theorem inf126 : Tryz.prog.info? 126 = some Tryz.t126 := by kernel_rfl
theorem inf127 : Tryz.prog.info? 127 = some Tryz.t127 := by kernel_rfl
theorem inf128 : Tryz.prog.info? 128 = some Tryz.t128 := by kernel_rfl
theorem inf129 : Tryz.prog.info? 129 = some Tryz.t129 := by kernel_rfl
theorem inf130 : Tryz.prog.info? 130 = some Tryz.t130 := by kernel_rfl
theorem inf131 : Tryz.prog.info? 131 = some Tryz.t131 := by kernel_rfl
theorem inf132 : Tryz.prog.info? 132 = some Tryz.t132 := by kernel_rfl
theorem inf133 : Tryz.prog.info? 133 = some Tryz.t133 := by kernel_rfl
theorem inf134 : Tryz.prog.info? 134 = some Tryz.t134 := by kernel_rfl
theorem inf135 : Tryz.prog.info? 135 = some Tryz.t135 := by kernel_rfl
theorem inf136 : Tryz.prog.info? 136 = some Tryz.t136 := by kernel_rfl
theorem inf137 : Tryz.prog.info? 137 = some Tryz.t137 := by kernel_rfl
theorem inf138 : Tryz.prog.info? 138 = some Tryz.t138 := by kernel_rfl
theorem inf139 : Tryz.prog.info? 139 = some Tryz.t139 := by kernel_rfl
theorem inf140 : Tryz.prog.info? 140 = some Tryz.t140 := by kernel_rfl
theorem inf141 : Tryz.prog.info? 141 = some Tryz.t141 := by kernel_rfl
theorem inf142 : Tryz.prog.info? 142 = some Tryz.t142 := by kernel_rfl
theorem inf143 : Tryz.prog.info? 143 = some Tryz.t143 := by kernel_rfl
theorem inf144 : Tryz.prog.info? 144 = some Tryz.t144 := by kernel_rfl
theorem inf145 : Tryz.prog.info? 145 = some Tryz.t145 := by kernel_rfl
theorem inf146 : Tryz.prog.info? 146 = some Tryz.t146 := by kernel_rfl
theorem inf147 : Tryz.prog.info? 147 = some Tryz.t147 := by kernel_rfl
theorem inf148 : Tryz.prog.info? 148 = some Tryz.t148 := by kernel_rfl
theorem inf149 : Tryz.prog.info? 149 = some Tryz.t149 := by kernel_rfl
theorem inf150 : Tryz.prog.info? 150 = some Tryz.t150 := by kernel_rfl
theorem inf151 : Tryz.prog.info? 151 = some Tryz.t151 := by kernel_rfl
theorem inf152 : Tryz.prog.info? 152 = some Tryz.t152 := by kernel_rfl
theorem inf153 : Tryz.prog.info? 153 = some Tryz.t153 := by kernel_rfl
theorem inf154 : Tryz.prog.info? 154 = some Tryz.t154 := by kernel_rfl
theorem inf155 : Tryz.prog.info? 155 = some Tryz.t155 := by kernel_rfl
theorem inf156 : Tryz.prog.info? 156 = some Tryz.t156 := by kernel_rfl
theorem inf157 : Tryz.prog.info? 157 = some Tryz.t157 := by kernel_rfl
theorem inf158 : Tryz.prog.info? 158 = some Tryz.t158 := by kernel_rfl
theorem inf159 : Tryz.prog.info? 159 = some Tryz.t159 := by kernel_rfl
theorem inf160 : Tryz.prog.info? 160 = some Tryz.t160 := by kernel_rfl
theorem inf161 : Tryz.prog.info? 161 = some Tryz.t161 := by kernel_rfl
theorem inf162 : Tryz.prog.info? 162 = some Tryz.t162 := by kernel_rfl
theorem inf163 : Tryz.prog.info? 163 = some Tryz.t163 := by kernel_rfl
theorem inf164 : Tryz.prog.info? 164 = some Tryz.t164 := by kernel_rfl
theorem inf165 : Tryz.prog.info? 165 = some Tryz.t165 := by kernel_rfl
theorem inf166 : Tryz.prog.info? 166 = some Tryz.t166 := by kernel_rfl
theorem inf167 : Tryz.prog.info? 167 = some Tryz.t167 := by kernel_rfl
theorem inf168 : Tryz.prog.info? 168 = some Tryz.t168 := by kernel_rfl
theorem inf169 : Tryz.prog.info? 169 = some Tryz.t169 := by kernel_rfl
theorem inf170 : Tryz.prog.info? 170 = some Tryz.t170 := by kernel_rfl
theorem inf171 : Tryz.prog.info? 171 = some Tryz.t171 := by kernel_rfl
theorem inf172 : Tryz.prog.info? 172 = some Tryz.t172 := by kernel_rfl
theorem inf173 : Tryz.prog.info? 173 = some Tryz.t173 := by kernel_rfl
theorem inf174 : Tryz.prog.info? 174 = some Tryz.t174 := by kernel_rfl
theorem inf175 : Tryz.prog.info? 175 = some Tryz.t175 := by kernel_rfl
theorem inf176 : Tryz.prog.info? 176 = some Tryz.t176 := by kernel_rfl
theorem inf177 : Tryz.prog.info? 177 = some Tryz.t177 := by kernel_rfl
theorem inf178 : Tryz.prog.info? 178 = some Tryz.t178 := by kernel_rfl
theorem inf179 : Tryz.prog.info? 179 = some Tryz.t179 := by kernel_rfl
theorem inf180 : Tryz.prog.info? 180 = some Tryz.t180 := by kernel_rfl
theorem inf181 : Tryz.prog.info? 181 = some Tryz.t181 := by kernel_rfl
theorem inf182 : Tryz.prog.info? 182 = some Tryz.t182 := by kernel_rfl
theorem inf183 : Tryz.prog.info? 183 = some Tryz.t183 := by kernel_rfl
theorem inf184 : Tryz.prog.info? 184 = some Tryz.t184 := by kernel_rfl
theorem inf185 : Tryz.prog.info? 185 = some Tryz.t185 := by kernel_rfl
theorem inf186 : Tryz.prog.info? 186 = some Tryz.t186 := by kernel_rfl
theorem inf187 : Tryz.prog.info? 187 = some Tryz.t187 := by kernel_rfl
theorem inf188 : Tryz.prog.info? 188 = some Tryz.t188 := by kernel_rfl
theorem inf189 : Tryz.prog.info? 189 = some Tryz.t189 := by kernel_rfl
theorem inf190 : Tryz.prog.info? 190 = some Tryz.t190 := by kernel_rfl
theorem inf191 : Tryz.prog.info? 191 = some Tryz.t191 := by kernel_rfl
theorem inf192 : Tryz.prog.info? 192 = some Tryz.t192 := by kernel_rfl
theorem inf193 : Tryz.prog.info? 193 = some Tryz.t193 := by kernel_rfl
theorem inf194 : Tryz.prog.info? 194 = some Tryz.t194 := by kernel_rfl
theorem inf195 : Tryz.prog.info? 195 = some Tryz.t195 := by kernel_rfl
theorem inf196 : Tryz.prog.info? 196 = some Tryz.t196 := by kernel_rfl
theorem inf197 : Tryz.prog.info? 197 = some Tryz.t197 := by kernel_rfl
theorem inf198 : Tryz.prog.info? 198 = some Tryz.t198 := by kernel_rfl
theorem inf199 : Tryz.prog.info? 199 = some Tryz.t199 := by kernel_rfl
theorem inf200 : Tryz.prog.info? 200 = some Tryz.t200 := by kernel_rfl
theorem inf201 : Tryz.prog.info? 201 = some Tryz.t201 := by kernel_rfl
theorem inf202 : Tryz.prog.info? 202 = some Tryz.t202 := by kernel_rfl
theorem inf203 : Tryz.prog.info? 203 = some Tryz.t203 := by kernel_rfl
theorem inf204 : Tryz.prog.info? 204 = some Tryz.t204 := by kernel_rfl
theorem inf205 : Tryz.prog.info? 205 = some Tryz.t205 := by kernel_rfl
theorem inf206 : Tryz.prog.info? 206 = some Tryz.t206 := by kernel_rfl
theorem inf207 : Tryz.prog.info? 207 = some Tryz.t207 := by kernel_rfl
theorem inf208 : Tryz.prog.info? 208 = some Tryz.t208 := by kernel_rfl
theorem inf209 : Tryz.prog.info? 209 = some Tryz.t209 := by kernel_rfl
theorem inf210 : Tryz.prog.info? 210 = some Tryz.t210 := by kernel_rfl
theorem inf211 : Tryz.prog.info? 211 = some Tryz.t211 := by kernel_rfl
theorem inf212 : Tryz.prog.info? 212 = some Tryz.t212 := by kernel_rfl
theorem inf213 : Tryz.prog.info? 213 = some Tryz.t213 := by kernel_rfl
theorem inf214 : Tryz.prog.info? 214 = some Tryz.t214 := by kernel_rfl
theorem inf215 : Tryz.prog.info? 215 = some Tryz.t215 := by kernel_rfl
theorem inf216 : Tryz.prog.info? 216 = some Tryz.t216 := by kernel_rfl
theorem inf217 : Tryz.prog.info? 217 = some Tryz.t217 := by kernel_rfl
theorem inf218 : Tryz.prog.info? 218 = some Tryz.t218 := by kernel_rfl
theorem inf219 : Tryz.prog.info? 219 = some Tryz.t219 := by kernel_rfl
theorem inf220 : Tryz.prog.info? 220 = some Tryz.t220 := by kernel_rfl
theorem inf221 : Tryz.prog.info? 221 = some Tryz.t221 := by kernel_rfl
theorem inf222 : Tryz.prog.info? 222 = some Tryz.t222 := by kernel_rfl
theorem inf223 : Tryz.prog.info? 223 = some Tryz.t223 := by kernel_rfl
theorem inf224 : Tryz.prog.info? 224 = some Tryz.t224 := by kernel_rfl
theorem inf225 : Tryz.prog.info? 225 = some Tryz.t225 := by kernel_rfl
theorem inf226 : Tryz.prog.info? 226 = some Tryz.t226 := by kernel_rfl
theorem inf227 : Tryz.prog.info? 227 = some Tryz.t227 := by kernel_rfl
theorem inf228 : Tryz.prog.info? 228 = some Tryz.t228 := by kernel_rfl
theorem inf229 : Tryz.prog.info? 229 = some Tryz.t229 := by kernel_rfl
theorem inf230 : Tryz.prog.info? 230 = some Tryz.t230 := by kernel_rfl
theorem inf231 : Tryz.prog.info? 231 = some Tryz.t231 := by kernel_rfl
theorem inf232 : Tryz.prog.info? 232 = some Tryz.t232 := by kernel_rfl
theorem inf233 : Tryz.prog.info? 233 = some Tryz.t233 := by kernel_rfl
theorem inf234 : Tryz.prog.info? 234 = some Tryz.t234 := by kernel_rfl
theorem inf235 : Tryz.prog.info? 235 = some Tryz.t235 := by kernel_rfl
theorem inf236 : Tryz.prog.info? 236 = some Tryz.t236 := by kernel_rfl
theorem inf237 : Tryz.prog.info? 237 = some Tryz.t237 := by kernel_rfl
theorem inf238 : Tryz.prog.info? 238 = some Tryz.t238 := by kernel_rfl
theorem inf239 : Tryz.prog.info? 239 = some Tryz.t239 := by kernel_rfl
theorem inf240 : Tryz.prog.info? 240 = some Tryz.t240 := by kernel_rfl
theorem inf241 : Tryz.prog.info? 241 = some Tryz.t241 := by kernel_rfl
theorem inf242 : Tryz.prog.info? 242 = some Tryz.t242 := by kernel_rfl
theorem inf243 : Tryz.prog.info? 243 = some Tryz.t243 := by kernel_rfl
theorem inf244 : Tryz.prog.info? 244 = some Tryz.t244 := by kernel_rfl
theorem inf245 : Tryz.prog.info? 245 = some Tryz.t245 := by kernel_rfl
theorem inf246 : Tryz.prog.info? 246 = some Tryz.t246 := by kernel_rfl
theorem inf247 : Tryz.prog.info? 247 = some Tryz.t247 := by kernel_rfl
theorem inf248 : Tryz.prog.info? 248 = some Tryz.t248 := by kernel_rfl
theorem inf249 : Tryz.prog.info? 249 = some Tryz.t249 := by kernel_rfl
theorem inf250 : Tryz.prog.info? 250 = some Tryz.t250 := by kernel_rfl
theorem inf251 : Tryz.prog.info? 251 = some Tryz.t251 := by kernel_rfl
theorem inf252 : Tryz.prog.info? 252 = some Tryz.t252 := by kernel_rfl
theorem inf253 : Tryz.prog.info? 253 = some Tryz.t253 := by kernel_rfl
theorem inf254 : Tryz.prog.info? 254 = some Tryz.t254 := by kernel_rfl
theorem inf255 : Tryz.prog.info? 255 = some Tryz.t255 := by kernel_rfl
theorem inf256 : Tryz.prog.info? 256 = some Tryz.t256 := by kernel_rfl
theorem inf257 : Tryz.prog.info? 257 = some Tryz.t257 := by kernel_rfl
theorem inf258 : Tryz.prog.info? 258 = some Tryz.t258 := by kernel_rfl
theorem inf259 : Tryz.prog.info? 259 = some Tryz.t259 := by kernel_rfl
theorem inf260 : Tryz.prog.info? 260 = some Tryz.t260 := by kernel_rfl
theorem inf261 : Tryz.prog.info? 261 = some Tryz.t261 := by kernel_rfl
theorem inf262 : Tryz.prog.info? 262 = some Tryz.t262 := by kernel_rfl
theorem inf263 : Tryz.prog.info? 263 = some Tryz.t263 := by kernel_rfl

end Go.Proofs.YtaacgmcgmljjeaaGreat

/- Closures of the tag layer. -/
namespace Go.Proofs.YtaacgmcgmljjeaaGreat
open Go.RowKit

def badC (c : Int) : Bool := decide (c < 32) || decide (126 < c)
def bigI (c : Int) : Bool := decide (c < -2147483648) || decide (2147483647 < c)
set_option maxRecDepth 100000 in
set_option maxHeartbeats 2000000 in
theorem printed1_pc (c : Int) (h0 : 0 ≤ c) (h1 : c < 256) : PC Tryz.prog 86 [.d (.int .u8 c)] (.d (.bool (badC c))) := by
  refine PC_of (fn := Tryz.f86) Tryz.func86 rfl (by simp [Tryz.ntmps86]) (by kernel_rfl) fun G hG => ?_
  rw [Tryz.ntmps86]
  refine aw_seq ?_
  refine aw_region_seq [⟨.d (.bool false), [], [], []⟩] (by kernel_rfl) (by kernel_rfl) (fun id _ => hG id) ?_ ?_
  · exact okY rfl (LT_assign rfl rfl) <| okE
  change AW _ _ _ _ _ _
  refine aw_weak (weak_of [(0, .d (.int .u8 c))] [] [] (sE rfl sE0) sH0 (by kernel_rfl)) ?_
  refine aw_seq ?_
  refine aw_region_seq [⟨.d (.int .u8 c), [], [], []⟩, ⟨.d (.bool (decide ((c : Int) < 32))), [], [], []⟩, ⟨.d (.bool (decide ((c : Int) < 32))), [], [], []⟩, ⟨.opt ((decide ((c : Int) < 32)) == false) (.d (.int .u8 c)), [], [], []⟩, ⟨.opt ((decide ((c : Int) < 32)) == false) (.d (.bool (decide ((126 : Int) < c)))), [], [], []⟩, ⟨.d (.bool ((decide ((c : Int) < 32)) || (decide ((126 : Int) < c)))), [], [], []⟩, ⟨.d (.bool ((decide ((c : Int) < 32)) || (decide ((126 : Int) < c)))), [], [], []⟩] (by kernel_rfl) (by kernel_rfl) (fun id _ => hG id) ?_ ?_
  · exact okY rfl (LT_move rfl rfl) <| okY rfl (LT_cmp rfl rfl rfl rfl rfl) <| okY rfl (LT_move rfl rfl) <| okG ((decide ((c : Int) < 32)) == false) rfl (fun hg => (LT_move rfl rfl)) <| okG ((decide ((c : Int) < 32)) == false) rfl (fun hg => (LT_cmp rfl rfl (opnT rfl hg) rfl rfl)) <| okY rfl (LT_por rfl rfl rfl (fun h => by rw [h]; rfl)) <| okY rfl (LT_assign rfl rfl) <| okE
  change AW _ _ _ _ _ _
  refine aw_weak (weak_of [(2, .d (.bool ((decide ((c : Int) < 32)) || (decide ((126 : Int) < c)))))] [] [] (sE rfl sE0) sH0 (by kernel_rfl)) ?_
  refine aw_ret ?_
  refine fin1 (x := .d (.bool ((decide ((c : Int) < 32)) || (decide ((126 : Int) < c))))) (.inl rfl) Tryz.results86 rfl ?_
  exact rfl

set_option maxRecDepth 100000 in
set_option maxHeartbeats 2000000 in
theorem big1_pc (c : Int) : PC Tryz.prog 41 [.d (.int .i64 c)] (.d (.bool (bigI c))) := by
  refine PC_of (fn := Tryz.f41) Tryz.func41 rfl (by simp [Tryz.ntmps41]) (by kernel_rfl) fun G hG => ?_
  rw [Tryz.ntmps41]
  refine aw_seq ?_
  refine aw_region_seq [⟨.d (.bool false), [], [], []⟩] (by kernel_rfl) (by kernel_rfl) (fun id _ => hG id) ?_ ?_
  · exact okY rfl (LT_assign rfl rfl) <| okE
  change AW _ _ _ _ _ _
  refine aw_weak (weak_of [(0, .d (.int .i64 c))] [] [] (sE rfl sE0) sH0 (by kernel_rfl)) ?_
  refine aw_seq ?_
  refine aw_region_seq [⟨.d (.int .i64 c), [], [], []⟩, ⟨.d (.bool (decide ((c : Int) < -2147483648))), [], [], []⟩, ⟨.d (.bool (decide ((c : Int) < -2147483648))), [], [], []⟩, ⟨.opt ((decide ((c : Int) < -2147483648)) == false) (.d (.int .i64 c)), [], [], []⟩, ⟨.opt ((decide ((c : Int) < -2147483648)) == false) (.d (.bool (decide ((2147483647 : Int) < c)))), [], [], []⟩, ⟨.d (.bool ((decide ((c : Int) < -2147483648)) || (decide ((2147483647 : Int) < c)))), [], [], []⟩, ⟨.d (.bool ((decide ((c : Int) < -2147483648)) || (decide ((2147483647 : Int) < c)))), [], [], []⟩] (by kernel_rfl) (by kernel_rfl) (fun id _ => hG id) ?_ ?_
  · exact okY rfl (LT_move rfl rfl) <| okY rfl (LT_cmp rfl rfl rfl rfl rfl) <| okY rfl (LT_move rfl rfl) <| okG ((decide ((c : Int) < -2147483648)) == false) rfl (fun hg => (LT_move rfl rfl)) <| okG ((decide ((c : Int) < -2147483648)) == false) rfl (fun hg => (LT_cmp rfl rfl (opnT rfl hg) rfl rfl)) <| okY rfl (LT_por rfl rfl rfl (fun h => by rw [h]; rfl)) <| okY rfl (LT_assign rfl rfl) <| okE
  change AW _ _ _ _ _ _
  refine aw_weak (weak_of [(2, .d (.bool ((decide ((c : Int) < -2147483648)) || (decide ((2147483647 : Int) < c)))))] [] [] (sE rfl sE0) sH0 (by kernel_rfl)) ?_
  refine aw_ret ?_
  refine fin1 (x := .d (.bool ((decide ((c : Int) < -2147483648)) || (decide ((2147483647 : Int) < c))))) (.inl rfl) Tryz.results41 rfl ?_
  exact rfl

end Go.Proofs.YtaacgmcgmljjeaaGreat

/- What is in a list: the first one, any. -/
namespace Go.Proofs.YtaacgmcgmljjeaaGreat
open Go.RowKit

def ixF (f : Nat → Bool) (n : Nat) : Int := match (List.range n).find? f with | some k => (k : Int) | none => -1
def anyN (f : Nat → Bool) (n : Nat) : Bool := (List.range n).any f
theorem ixF_some {f : Nat → Bool} {n k : Nat} (hk : k < n) (h : ∀ j, j < k → f j = false) (hf : f k = true) : ixF f n = (k : Int) := by
  unfold ixF
  have : (List.range n).find? f = some k := by
    rw [List.find?_range_eq_some]
    exact ⟨hf, by simpa using hk, fun j hj => by simpa using h j hj⟩
  rw [this]
theorem ixF_none {f : Nat → Bool} {n : Nat} (h : ∀ j, j < n → f j = false) : ixF f n = -1 := by
  unfold ixF
  have : (List.range n).find? f = none := by
    rw [List.find?_eq_none]
    intro x hx
    rw [h x (by simpa using hx)]
    simp
  rw [this]
theorem ixF_ge (f : Nat → Bool) (n : Nat) : decide ((0 : Int) ≤ ixF f n) = anyN f n := by
  unfold ixF anyN
  cases h : (List.range n).find? f with
  | none =>
    rw [List.find?_eq_none] at h
    simp only
    rw [eq_comm, List.any_eq_false.2 h]
    rfl
  | some k =>
    have := List.find?_some h
    have hm := List.mem_of_find?_eq_some h
    simp only
    rw [List.any_eq_true.2 ⟨k, hm, this⟩]
    simp
def intsD (xs : List Int) : List D := xs.map (.int .i64)
theorem intsD_at' {xs : List Int} {k : Nat} (h : k < xs.length) : ((intsD xs).drop (k * 1)).take 1 = [.int .i64 (xs.getD k 0)] := by
  have hk : k < (intsD xs).length := by simpa [intsD] using h
  rw [Nat.mul_one, List.drop_eq_getElem_cons hk]
  simp [intsD, h]
theorem intsD_len (xs : List Int) : (intsD xs).length = xs.length := by simp [intsD]

set_option maxRecDepth 100000 in
set_option maxHeartbeats 2000000 in
theorem ixS_pc (s : ByteArray) (hs : s.size < 9223372036854775807) : PC Tryz.prog 122 [.d (.sl s.size 1 (bytesD s)), .d (.fn 86)] (.d (.int .i64 (ixF (fun j => badC (octN s j)) s.size))) := by
  refine PC_of (fn := Tryz.f122) Tryz.func122 rfl (by simp [Tryz.ntmps122]) (by kernel_rfl) fun G hG => ?_
  rw [Tryz.ntmps122]
  refine aw_seq ?_
  refine aw_region_seq [⟨.d (.int .i64 0), [], [], []⟩] (by kernel_rfl) (by kernel_rfl) (fun id _ => hG id) ?_ ?_
  · exact okY rfl (LT_assign rfl rfl) <| okE
  change AW _ _ _ _ _ _
  refine aw_weak (weak_of [(0, .d (.sl s.size 1 (bytesD s))), (1, .d (.fn 86))] [] [] (sE rfl (sE rfl sE0)) sH0 (by kernel_rfl)) ?_
  refine aw_seq ?_
  refine aw_seq ?_
  refine aw_region_seq [⟨.d (.sl s.size 1 (bytesD s)), [], [], []⟩, ⟨.d (.int .i64 ((s.size : Nat) : Int)), [], [], []⟩, ⟨.d (.int .i64 0), [], [], []⟩] (by kernel_rfl) (by kernel_rfl) (fun id _ => hG id) ?_ ?_
  · exact okY rfl (LT_move rfl rfl) <| okY rfl (LT_lenD rfl Tryz.underlying23 rfl) <| okY rfl (LT_move rfl rfl) <| okE
  change AW _ _ _ _ _ _
  refine aw_weak (weak_of [(0, .d (.sl s.size 1 (bytesD s))), (1, .d (.fn 86)), (7, .d (.int .i64 ((s.size : Nat) : Int))), (8, .d (.int .i64 0))] [] [] (sE rfl (sE rfl (sE rfl (sE rfl sE0)))) sH0 (by kernel_rfl)) ?_
  refine aw_block ?_
  refine aw_loopJ (fun k => ⟨[(0, .d (.sl s.size 1 (bytesD s))), (1, .d (.fn 86)), (7, .d (.int .i64 ((s.size : Nat) : Int))), (8, .d (.int .i64 ((k : Nat) : Int)))], [], []⟩) (fun k => k ≤ s.size ∧ ∀ j, j < k → (fun j => badC (octN s j)) j = false) (fun k => s.size - k) 0 (⟨by omega, fun j hj => by omega⟩) ?_ ?_
  · exact weak_of _ _ _ (sE rfl (sE rfl (sE rfl (sE rfl sE0)))) sH0 (by kernel_rfl)
  intro k hJ0
  obtain ⟨hk, hall⟩ := hJ0
  refine aw_seq ?_
  refine aw_region_seq [⟨.d (.bool (decide ((((k : Nat) : Int) : Int) < ((s.size : Nat) : Int)))), [], [], []⟩] (by kernel_rfl) (by kernel_rfl) (fun id _ => hG id) ?_ ?_
  · exact okY rfl (LT_cmp rfl rfl rfl rfl rfl) <| okE
  change AW _ _ _ _ _ _
  refine aw_weak (weak_of [(0, .d (.sl s.size 1 (bytesD s))), (1, .d (.fn 86)), (7, .d (.int .i64 ((s.size : Nat) : Int))), (8, .d (.int .i64 ((k : Nat) : Int))), (9, .d (.bool (decide ((((k : Nat) : Int) : Int) < ((s.size : Nat) : Int)))))] [] [] (sE rfl (sE rfl (sE rfl (sE rfl (sE rfl sE0))))) sH0 (by kernel_rfl)) ?_
  refine aw_seq ?_
  refine aw_cond (decide ((((k : Nat) : Int) : Int) < ((s.size : Nat) : Int))) rfl (fun hb1 => ?_) (fun hb1 => ?_)
  ·
    replace hb1 := of_decide_eq_true hb1
    refine aw_skip ?_
    change AW _ _ _ _ _ _
    refine aw_weak (weak_of [(0, .d (.sl s.size 1 (bytesD s))), (1, .d (.fn 86)), (7, .d (.int .i64 ((s.size : Nat) : Int))), (8, .d (.int .i64 ((k : Nat) : Int)))] [] [] (sE rfl (sE rfl (sE rfl (sE rfl sE0)))) sH0 (by kernel_rfl)) ?_
    refine aw_seq ?_
    refine aw_block ?_
    refine aw_seq ?_
    refine aw_region_seq [⟨.d (.int .i64 ((k : Nat) : Int)), [], [], []⟩, ⟨.d (.int .i64 ((k : Nat) : Int)), [], [], []⟩] (by kernel_rfl) (by kernel_rfl) (fun id _ => hG id) ?_ ?_
    · exact okY rfl (LT_move rfl rfl) <| okY rfl (LT_assign rfl rfl) <| okE
    change AW _ _ _ _ _ _
    refine aw_weak (weak_of [(0, .d (.sl s.size 1 (bytesD s))), (1, .d (.fn 86)), (7, .d (.int .i64 ((s.size : Nat) : Int))), (8, .d (.int .i64 ((k : Nat) : Int))), (5, .d (.int .i64 ((k : Nat) : Int)))] [] [] (sE rfl (sE rfl (sE rfl (sE rfl (sE rfl sE0))))) sH0 (by kernel_rfl)) ?_
    refine aw_seq ?_
    refine aw_region_seq [⟨.d (.fn 86), [], [], []⟩, ⟨.d (.sl s.size 1 (bytesD s)), [], [], []⟩, ⟨.d (.int .i64 ((k : Nat) : Int)), [], [], []⟩, ⟨.dptr [.int .u8 (octN s k)], [], [], []⟩, ⟨.d (.int .u8 (octN s k)), [], [], []⟩, ⟨.d (.bool (badC (octN s k))), [], [], []⟩] (by kernel_rfl) (by kernel_rfl) (fun id _ => hG id) ?_ ?_
    · exact okY rfl (LT_move rfl rfl) <| okY rfl (LT_move rfl rfl) <| okY rfl (LT_move rfl rfl) <| okY rfl (LT_indexD rfl rfl rfl Tryz.underlying23 inf5 rfl (by omega) (by omega) (bytesD_at (by omega))) <| okY rfl (LT_loadD 1 rfl rfl Tryz.underlying5 inf5 (by simp) (.inr ⟨rfl, rfl, rfl⟩)) <| okY rfl (LT_call [.d (.int .u8 (octN s k))] rfl rfl Tryz.call86 rfl ((printed1_pc _ (octN_bd s k).1 (octN_bd s k).2).ct rfl)) <| okE
    change AW _ _ _ _ _ _
    refine aw_weak (weak_of [(0, .d (.sl s.size 1 (bytesD s))), (1, .d (.fn 86)), (7, .d (.int .i64 ((s.size : Nat) : Int))), (8, .d (.int .i64 ((k : Nat) : Int))), (5, .d (.int .i64 ((k : Nat) : Int))), (16, .d (.bool (badC (octN s k))))] [] [] (sE rfl (sE rfl (sE rfl (sE rfl (sE rfl (sE rfl sE0)))))) sH0 (by kernel_rfl)) ?_
    refine aw_cond (badC (octN s k)) rfl (fun hb2 => ?_) (fun hb2 => ?_)
    ·
      refine aw_seq ?_
      refine aw_region_seq [⟨.d (.int .i64 ((k : Nat) : Int)), [], [], []⟩, ⟨.d (.int .i64 ((k : Nat) : Int)), [], [], []⟩] (by kernel_rfl) (by kernel_rfl) (fun id _ => hG id) ?_ ?_
      · exact okY rfl (LT_move rfl rfl) <| okY rfl (LT_assign rfl rfl) <| okE
      change AW _ _ _ _ _ _
      refine aw_weak (weak_of [(4, .d (.int .i64 ((k : Nat) : Int)))] [] [] (sE rfl sE0) sH0 (by kernel_rfl)) ?_
      refine aw_ret ?_
      refine fin1 (x := .d (.int .i64 ((k : Nat) : Int))) (.inl rfl) Tryz.results122 rfl ?_
      exact by rw [ixF_some (k := k) (by omega) hall hb2]
    ·
      refine aw_skip ?_
      change AW _ _ _ _ _ _
      refine aw_weak (weak_of [(0, .d (.sl s.size 1 (bytesD s))), (1, .d (.fn 86)), (7, .d (.int .i64 ((s.size : Nat) : Int))), (8, .d (.int .i64 ((k : Nat) : Int)))] [] [] (sE rfl (sE rfl (sE rfl (sE rfl sE0)))) sH0 (by kernel_rfl)) ?_
      refine aw_region_seq [⟨.d (.int .i64 (((k : Nat) : Int) + 1)), [], [], []⟩, ⟨.d (.int .i64 (((k : Nat) : Int) + 1)), [], [], []⟩] (by kernel_rfl) (by kernel_rfl) (fun id _ => hG id) ?_ ?_
      · exact okY rfl (LT_add rfl rfl rfl (wi64 (by omega) (by omega))) <| okY rfl (LT_move rfl rfl) <| okE
      exact ⟨(k + 1), ⟨by omega, fun j hj => if h : j = k then by subst h; exact hb2 else hall j (by omega)⟩, by omega, weak_of _ _ _ (sE rfl (sE rfl (sE rfl (sE rfl sE0)))) sH0 (by kernel_rfl)⟩
  ·
    replace hb1 := of_decide_eq_false hb1
    refine aw_exit ?_
    change AW _ _ _ _ _ _
    refine aw_weak (weak_of [] [] [] sE0 sH0 (by kernel_rfl)) ?_
    refine aw_seq ?_
    refine aw_region_seq [⟨.d (.int .i64 (-1)), [], [], []⟩] (by kernel_rfl) (by kernel_rfl) (fun id _ => hG id) ?_ ?_
    · exact okY rfl (LT_assign rfl rfl) <| okE
    change AW _ _ _ _ _ _
    refine aw_weak (weak_of [(4, .d (.int .i64 (-1)))] [] [] (sE rfl sE0) sH0 (by kernel_rfl)) ?_
    refine aw_ret ?_
    refine fin1 (x := .d (.int .i64 (-1))) (.inl rfl) Tryz.results122 rfl ?_
    exact by rw [ixF_none (fun j hj => hall j (by omega))]

set_option maxRecDepth 100000 in
set_option maxHeartbeats 2000000 in
theorem ixI_pc (ns : List Int) (hs : ns.length < 9223372036854775807) : PC Tryz.prog 87 [.d (.sl ns.length 1 (intsD ns)), .d (.fn 41)] (.d (.int .i64 (ixF (fun j => bigI (ns.getD j 0)) ns.length))) := by
  refine PC_of (fn := Tryz.f87) Tryz.func87 rfl (by simp [Tryz.ntmps87]) (by kernel_rfl) fun G hG => ?_
  rw [Tryz.ntmps87]
  refine aw_seq ?_
  refine aw_region_seq [⟨.d (.int .i64 0), [], [], []⟩] (by kernel_rfl) (by kernel_rfl) (fun id _ => hG id) ?_ ?_
  · exact okY rfl (LT_assign rfl rfl) <| okE
  change AW _ _ _ _ _ _
  refine aw_weak (weak_of [(0, .d (.sl ns.length 1 (intsD ns))), (1, .d (.fn 41))] [] [] (sE rfl (sE rfl sE0)) sH0 (by kernel_rfl)) ?_
  refine aw_seq ?_
  refine aw_seq ?_
  refine aw_region_seq [⟨.d (.sl ns.length 1 (intsD ns)), [], [], []⟩, ⟨.d (.int .i64 ((ns.length : Nat) : Int)), [], [], []⟩, ⟨.d (.int .i64 0), [], [], []⟩] (by kernel_rfl) (by kernel_rfl) (fun id _ => hG id) ?_ ?_
  · exact okY rfl (LT_move rfl rfl) <| okY rfl (LT_lenD rfl Tryz.underlying36 rfl) <| okY rfl (LT_move rfl rfl) <| okE
  change AW _ _ _ _ _ _
  refine aw_weak (weak_of [(0, .d (.sl ns.length 1 (intsD ns))), (1, .d (.fn 41)), (7, .d (.int .i64 ((ns.length : Nat) : Int))), (8, .d (.int .i64 0))] [] [] (sE rfl (sE rfl (sE rfl (sE rfl sE0)))) sH0 (by kernel_rfl)) ?_
  refine aw_block ?_
  refine aw_loopJ (fun k => ⟨[(0, .d (.sl ns.length 1 (intsD ns))), (1, .d (.fn 41)), (7, .d (.int .i64 ((ns.length : Nat) : Int))), (8, .d (.int .i64 ((k : Nat) : Int)))], [], []⟩) (fun k => k ≤ ns.length ∧ ∀ j, j < k → (fun j => bigI (ns.getD j 0)) j = false) (fun k => ns.length - k) 0 (⟨by omega, fun j hj => by omega⟩) ?_ ?_
  · exact weak_of _ _ _ (sE rfl (sE rfl (sE rfl (sE rfl sE0)))) sH0 (by kernel_rfl)
  intro k hJ0
  obtain ⟨hk, hall⟩ := hJ0
  refine aw_seq ?_
  refine aw_region_seq [⟨.d (.bool (decide ((((k : Nat) : Int) : Int) < ((ns.length : Nat) : Int)))), [], [], []⟩] (by kernel_rfl) (by kernel_rfl) (fun id _ => hG id) ?_ ?_
  · exact okY rfl (LT_cmp rfl rfl rfl rfl rfl) <| okE
  change AW _ _ _ _ _ _
  refine aw_weak (weak_of [(0, .d (.sl ns.length 1 (intsD ns))), (1, .d (.fn 41)), (7, .d (.int .i64 ((ns.length : Nat) : Int))), (8, .d (.int .i64 ((k : Nat) : Int))), (9, .d (.bool (decide ((((k : Nat) : Int) : Int) < ((ns.length : Nat) : Int)))))] [] [] (sE rfl (sE rfl (sE rfl (sE rfl (sE rfl sE0))))) sH0 (by kernel_rfl)) ?_
  refine aw_seq ?_
  refine aw_cond (decide ((((k : Nat) : Int) : Int) < ((ns.length : Nat) : Int))) rfl (fun hb1 => ?_) (fun hb1 => ?_)
  ·
    replace hb1 := of_decide_eq_true hb1
    refine aw_skip ?_
    change AW _ _ _ _ _ _
    refine aw_weak (weak_of [(0, .d (.sl ns.length 1 (intsD ns))), (1, .d (.fn 41)), (7, .d (.int .i64 ((ns.length : Nat) : Int))), (8, .d (.int .i64 ((k : Nat) : Int)))] [] [] (sE rfl (sE rfl (sE rfl (sE rfl sE0)))) sH0 (by kernel_rfl)) ?_
    refine aw_seq ?_
    refine aw_block ?_
    refine aw_seq ?_
    refine aw_region_seq [⟨.d (.int .i64 ((k : Nat) : Int)), [], [], []⟩, ⟨.d (.int .i64 ((k : Nat) : Int)), [], [], []⟩] (by kernel_rfl) (by kernel_rfl) (fun id _ => hG id) ?_ ?_
    · exact okY rfl (LT_move rfl rfl) <| okY rfl (LT_assign rfl rfl) <| okE
    change AW _ _ _ _ _ _
    refine aw_weak (weak_of [(0, .d (.sl ns.length 1 (intsD ns))), (1, .d (.fn 41)), (7, .d (.int .i64 ((ns.length : Nat) : Int))), (8, .d (.int .i64 ((k : Nat) : Int))), (5, .d (.int .i64 ((k : Nat) : Int)))] [] [] (sE rfl (sE rfl (sE rfl (sE rfl (sE rfl sE0))))) sH0 (by kernel_rfl)) ?_
    refine aw_seq ?_
    refine aw_region_seq [⟨.d (.fn 41), [], [], []⟩, ⟨.d (.sl ns.length 1 (intsD ns)), [], [], []⟩, ⟨.d (.int .i64 ((k : Nat) : Int)), [], [], []⟩, ⟨.dptr [.int .i64 (ns.getD k 0)], [], [], []⟩, ⟨.d (.int .i64 (ns.getD k 0)), [], [], []⟩, ⟨.d (.bool (bigI (ns.getD k 0))), [], [], []⟩] (by kernel_rfl) (by kernel_rfl) (fun id _ => hG id) ?_ ?_
    · exact okY rfl (LT_move rfl rfl) <| okY rfl (LT_move rfl rfl) <| okY rfl (LT_move rfl rfl) <| okY rfl (LT_indexD rfl rfl rfl Tryz.underlying36 inf3 rfl (by omega) (by omega) (intsD_at' (by omega))) <| okY rfl (LT_loadD 1 rfl rfl Tryz.underlying3 inf3 (by simp) (.inr ⟨rfl, rfl, rfl⟩)) <| okY rfl (LT_call [.d (.int .i64 (ns.getD k 0))] rfl rfl Tryz.call41 rfl ((big1_pc _).ct rfl)) <| okE
    change AW _ _ _ _ _ _
    refine aw_weak (weak_of [(0, .d (.sl ns.length 1 (intsD ns))), (1, .d (.fn 41)), (7, .d (.int .i64 ((ns.length : Nat) : Int))), (8, .d (.int .i64 ((k : Nat) : Int))), (5, .d (.int .i64 ((k : Nat) : Int))), (16, .d (.bool (bigI (ns.getD k 0))))] [] [] (sE rfl (sE rfl (sE rfl (sE rfl (sE rfl (sE rfl sE0)))))) sH0 (by kernel_rfl)) ?_
    refine aw_cond (bigI (ns.getD k 0)) rfl (fun hb2 => ?_) (fun hb2 => ?_)
    ·
      refine aw_seq ?_
      refine aw_region_seq [⟨.d (.int .i64 ((k : Nat) : Int)), [], [], []⟩, ⟨.d (.int .i64 ((k : Nat) : Int)), [], [], []⟩] (by kernel_rfl) (by kernel_rfl) (fun id _ => hG id) ?_ ?_
      · exact okY rfl (LT_move rfl rfl) <| okY rfl (LT_assign rfl rfl) <| okE
      change AW _ _ _ _ _ _
      refine aw_weak (weak_of [(4, .d (.int .i64 ((k : Nat) : Int)))] [] [] (sE rfl sE0) sH0 (by kernel_rfl)) ?_
      refine aw_ret ?_
      refine fin1 (x := .d (.int .i64 ((k : Nat) : Int))) (.inl rfl) Tryz.results87 rfl ?_
      exact by rw [ixF_some (k := k) (by omega) hall hb2]
    ·
      refine aw_skip ?_
      change AW _ _ _ _ _ _
      refine aw_weak (weak_of [(0, .d (.sl ns.length 1 (intsD ns))), (1, .d (.fn 41)), (7, .d (.int .i64 ((ns.length : Nat) : Int))), (8, .d (.int .i64 ((k : Nat) : Int)))] [] [] (sE rfl (sE rfl (sE rfl (sE rfl sE0)))) sH0 (by kernel_rfl)) ?_
      refine aw_region_seq [⟨.d (.int .i64 (((k : Nat) : Int) + 1)), [], [], []⟩, ⟨.d (.int .i64 (((k : Nat) : Int) + 1)), [], [], []⟩] (by kernel_rfl) (by kernel_rfl) (fun id _ => hG id) ?_ ?_
      · exact okY rfl (LT_add rfl rfl rfl (wi64 (by omega) (by omega))) <| okY rfl (LT_move rfl rfl) <| okE
      exact ⟨(k + 1), ⟨by omega, fun j hj => if h : j = k then by subst h; exact hb2 else hall j (by omega)⟩, by omega, weak_of _ _ _ (sE rfl (sE rfl (sE rfl (sE rfl sE0)))) sH0 (by kernel_rfl)⟩
  ·
    replace hb1 := of_decide_eq_false hb1
    refine aw_exit ?_
    change AW _ _ _ _ _ _
    refine aw_weak (weak_of [] [] [] sE0 sH0 (by kernel_rfl)) ?_
    refine aw_seq ?_
    refine aw_region_seq [⟨.d (.int .i64 (-1)), [], [], []⟩] (by kernel_rfl) (by kernel_rfl) (fun id _ => hG id) ?_ ?_
    · exact okY rfl (LT_assign rfl rfl) <| okE
    change AW _ _ _ _ _ _
    refine aw_weak (weak_of [(4, .d (.int .i64 (-1)))] [] [] (sE rfl sE0) sH0 (by kernel_rfl)) ?_
    refine aw_ret ?_
    refine fin1 (x := .d (.int .i64 (-1))) (.inl rfl) Tryz.results87 rfl ?_
    exact by rw [ixF_none (fun j hj => hall j (by omega))]

set_option maxRecDepth 100000 in
set_option maxHeartbeats 2000000 in
theorem hasS_pc (s : ByteArray) (hs : s.size < 9223372036854775807) : PC Tryz.prog 85 [.d (.sl s.size 1 (bytesD s)), .d (.fn 86)] (.d (.bool (anyN (fun j => badC (octN s j)) s.size))) := by
  refine PC_of (fn := Tryz.f85) Tryz.func85 rfl (by simp [Tryz.ntmps85]) (by kernel_rfl) fun G hG => ?_
  rw [Tryz.ntmps85]
  refine aw_seq ?_
  refine aw_region_seq [⟨.d (.bool false), [], [], []⟩] (by kernel_rfl) (by kernel_rfl) (fun id _ => hG id) ?_ ?_
  · exact okY rfl (LT_assign rfl rfl) <| okE
  change AW _ _ _ _ _ _
  refine aw_weak (weak_of [(0, .d (.sl s.size 1 (bytesD s))), (1, .d (.fn 86))] [] [] (sE rfl (sE rfl sE0)) sH0 (by kernel_rfl)) ?_
  refine aw_seq ?_
  refine aw_region_seq [⟨.d (.sl s.size 1 (bytesD s)), [], [], []⟩, ⟨.d (.fn 86), [], [], []⟩, ⟨.d (.int .i64 (ixF (fun j => badC (octN s j)) s.size)), [], [], []⟩, ⟨.d (.bool (decide ((0 : Int) ≤ (ixF (fun j => badC (octN s j)) s.size)))), [], [], []⟩, ⟨.d (.bool (decide ((0 : Int) ≤ (ixF (fun j => badC (octN s j)) s.size)))), [], [], []⟩] (by kernel_rfl) (by kernel_rfl) (fun id _ => hG id) ?_ ?_
  · exact okY rfl (LT_move rfl rfl) <| okY rfl (LT_move rfl rfl) <| okY rfl (LT_call [.d (.sl s.size 1 (bytesD s)), .d (.fn 86)] rfl rfl Tryz.call122 rfl ((ixS_pc s hs).ct rfl)) <| okY rfl (LT_cmp rfl rfl rfl rfl rfl) <| okY rfl (LT_assign rfl rfl) <| okE
  change AW _ _ _ _ _ _
  refine aw_weak (weak_of [(4, .d (.bool (decide ((0 : Int) ≤ (ixF (fun j => badC (octN s j)) s.size)))))] [] [] (sE rfl sE0) sH0 (by kernel_rfl)) ?_
  refine aw_ret ?_
  refine fin1 (x := .d (.bool (decide ((0 : Int) ≤ (ixF (fun j => badC (octN s j)) s.size))))) (.inl rfl) Tryz.results85 rfl ?_
  exact by rw [ixF_ge]

set_option maxRecDepth 100000 in
set_option maxHeartbeats 2000000 in
theorem hasI_pc (ns : List Int) (hs : ns.length < 9223372036854775807) : PC Tryz.prog 43 [.d (.sl ns.length 1 (intsD ns)), .d (.fn 41)] (.d (.bool (anyN (fun j => bigI (ns.getD j 0)) ns.length))) := by
  refine PC_of (fn := Tryz.f43) Tryz.func43 rfl (by simp [Tryz.ntmps43]) (by kernel_rfl) fun G hG => ?_
  rw [Tryz.ntmps43]
  refine aw_seq ?_
  refine aw_region_seq [⟨.d (.bool false), [], [], []⟩] (by kernel_rfl) (by kernel_rfl) (fun id _ => hG id) ?_ ?_
  · exact okY rfl (LT_assign rfl rfl) <| okE
  change AW _ _ _ _ _ _
  refine aw_weak (weak_of [(0, .d (.sl ns.length 1 (intsD ns))), (1, .d (.fn 41))] [] [] (sE rfl (sE rfl sE0)) sH0 (by kernel_rfl)) ?_
  refine aw_seq ?_
  refine aw_region_seq [⟨.d (.sl ns.length 1 (intsD ns)), [], [], []⟩, ⟨.d (.fn 41), [], [], []⟩, ⟨.d (.int .i64 (ixF (fun j => bigI (ns.getD j 0)) ns.length)), [], [], []⟩, ⟨.d (.bool (decide ((0 : Int) ≤ (ixF (fun j => bigI (ns.getD j 0)) ns.length)))), [], [], []⟩, ⟨.d (.bool (decide ((0 : Int) ≤ (ixF (fun j => bigI (ns.getD j 0)) ns.length)))), [], [], []⟩] (by kernel_rfl) (by kernel_rfl) (fun id _ => hG id) ?_ ?_
  · exact okY rfl (LT_move rfl rfl) <| okY rfl (LT_move rfl rfl) <| okY rfl (LT_call [.d (.sl ns.length 1 (intsD ns)), .d (.fn 41)] rfl rfl Tryz.call87 rfl ((ixI_pc ns hs).ct rfl)) <| okY rfl (LT_cmp rfl rfl rfl rfl rfl) <| okY rfl (LT_assign rfl rfl) <| okE
  change AW _ _ _ _ _ _
  refine aw_weak (weak_of [(4, .d (.bool (decide ((0 : Int) ≤ (ixF (fun j => bigI (ns.getD j 0)) ns.length)))))] [] [] (sE rfl sE0) sH0 (by kernel_rfl)) ?_
  refine aw_ret ?_
  refine fin1 (x := .d (.bool (decide ((0 : Int) ≤ (ixF (fun j => bigI (ns.getD j 0)) ns.length))))) (.inl rfl) Tryz.results43 rfl ?_
  exact by rw [ixF_ge]

set_option maxRecDepth 100000 in
set_option maxHeartbeats 2000000 in
theorem printed_pc (s : ByteArray) (hs : s.size < 9223372036854775807) : PC Tryz.prog 42 [.d (.str s)] (.d (.bool (!anyN (fun j => badC (octN s j)) s.size))) := by
  refine PC_of (fn := Tryz.f42) Tryz.func42 rfl (by simp [Tryz.ntmps42]) (by kernel_rfl) fun G hG => ?_
  rw [Tryz.ntmps42]
  refine aw_seq ?_
  refine aw_region_seq [⟨.d (.bool false), [], [], []⟩] (by kernel_rfl) (by kernel_rfl) (fun id _ => hG id) ?_ ?_
  · exact okY rfl (LT_assign rfl rfl) <| okE
  change AW _ _ _ _ _ _
  refine aw_weak (weak_of [(0, .d (.str s))] [] [] (sE rfl sE0) sH0 (by kernel_rfl)) ?_
  refine aw_seq ?_
  refine aw_region_seq [⟨.d (.str s), [], [], []⟩, ⟨.d (.sl s.size 1 (bytesD s)), [], [], []⟩, ⟨.d (.bool (anyN (fun j => badC (octN s j)) s.size)), [], [], []⟩, ⟨.d (.bool (!(anyN (fun j => badC (octN s j)) s.size))), [], [], []⟩, ⟨.d (.bool (!(anyN (fun j => badC (octN s j)) s.size))), [], [], []⟩] (by kernel_rfl) (by kernel_rfl) (fun id _ => hG id) ?_ ?_
  · exact okY rfl (LT_move rfl rfl) <| okY rfl (LT_bytes rfl Tryz.underlying9 Tryz.underlying23 Tryz.underlying5 rfl) <| okY rfl (LT_call [.d (.sl s.size 1 (bytesD s)), .d (.fn 86)] rfl rfl Tryz.call85 rfl ((hasS_pc s hs).ct rfl)) <| okY rfl (LT_not rfl rfl rfl) <| okY rfl (LT_assign rfl rfl) <| okE
  change AW _ _ _ _ _ _
  refine aw_weak (weak_of [(2, .d (.bool (!(anyN (fun j => badC (octN s j)) s.size))))] [] [] (sE rfl sE0) sH0 (by kernel_rfl)) ?_
  refine aw_ret ?_
  refine fin1 (x := .d (.bool (!(anyN (fun j => badC (octN s j)) s.size)))) (.inl rfl) Tryz.results42 rfl ?_
  exact rfl

end Go.Proofs.YtaacgmcgmljjeaaGreat
