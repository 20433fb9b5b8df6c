/-
  Joined texts: The calculus of states: functions that are handed blocks of their caller's and turn them. · The calculus of states: pointers held against each other; a pointer turned to unsafe.Point · What the program's tables say of its types. · strings.Builder, in the calculus of states. · strings.Builder: the contracts as their caller sees them. · The laws of this family that speak of no program's functions: worlds that have only grown  · Layer 42, the plain law of layouts: where the samples of an image stand in its octets. No  · Layer 42, the reference's small functions: within, shaped, row, stride, rows, place. · Layer 42, the program's small functions: between and what it calls, shaped. · Layer 42: shaped, the reference's and the program's.
-/
import Derived.Test.YtphfbjeaklpddaaOL2
import Derived.Lib.UnsafeStr
import Derived.Lib.Builder
import Derived.Laws.Externs
import Derived.Test.YtphfbjeaklpddaaChecked
import Derived.WalkKit
import Derived.WalkSpells
import Derived.WalkLawsBesides
import Derived.BigQuiet
import Derived.LoopTactic
import Derived.Lib.Hide
import Derived.WideMake
import Init
import Derived.Test.YtphfbjeaklpddaaRows
set_option linter.unusedSimpArgs false
set_option linter.unusedVariables false

/- The calculus of states: functions that are handed blocks of their caller's and turn them. -/
namespace Go.Proofs.Ytphfbjeaklpddaa
open Go.RowKit

theorem renL_map (σ : Nat → Nat) (xs : List X) : X.renL σ xs = xs.map (X.ren σ) := by
  induction xs with
  | nil => rfl
  | cons x xs ih => simp only [X.renL, List.map_cons, ih]

theorem RV.ren {σ : Nat → Nat} {w : World} {M : Nat → Prop} {ρ ρ' : Rho} {v : Value} {x : X} (h : RV w M ρ v x) (he : ∀ id, id ∈ x.ids → ρ' (σ id) = ρ id) : RV w M ρ' v (x.ren σ) := by
  induction h with
  | d h => exact .d h
  | own id n e b cap h => exact .own _ n e b cap ((he id (by simp [X.ids])).trans h)
  | own0 id e => exact .own0 _ e
  | ptr id off b cap h => exact .ptr _ off b cap ((he id (by simp [X.ids])).trans h)
  | dptr b off c g hb hm hg hr => exact .dptr b off c g hb hm hg hr
  | func fn fs cs xs ys hf hc _ _ ih1 ih2 =>
    simp only [X.ren, renL_map]
    refine .func fn fs cs _ _ (by simpa using hf) (by simpa using hc) (fun i v x hv hx => ?_) (fun i v x hv hx => ?_)
    · rw [List.getElem?_map] at hx
      cases hq : xs[i]? with
      | none => rw [hq] at hx; cases hx
      | some y => rw [hq] at hx; cases hx; exact ih1 i v y hv hq fun id hid => he id (by simp only [X.ids, List.mem_append]; exact .inl (X.mem_idsL (List.mem_of_getElem? hq) hid))
    · rw [List.getElem?_map] at hx
      cases hq : ys[i]? with
      | none => rw [hq] at hx; cases hx
      | some y => rw [hq] at hx; cases hx; exact ih2 i v y hv hq fun id hid => he id (by simp only [X.ids, List.mem_append]; exact .inr (X.mem_idsL (List.mem_of_getElem? hq) hid))
  | agg cs xs hs _ ih =>
    simp only [X.ren, renL_map]
    refine .agg cs _ (by simpa using hs) fun i v x hv hx => ?_
    rw [List.getElem?_map] at hx
    cases hq : xs[i]? with
    | none => rw [hq] at hx; cases hx
    | some y => rw [hq] at hx; cases hx; exact ih i v y hv hq fun id hid => he id (by simp only [X.ids]; exact X.mem_idsL (List.mem_of_getElem? hq) hid)
  | tup cs xs hs _ ih =>
    simp only [X.ren, renL_map]
    refine .tup cs _ (by simpa using hs) fun i v x hv hx => ?_
    rw [List.getElem?_map] at hx
    cases hq : xs[i]? with
    | none => rw [hq] at hx; cases hx
    | some y => rw [hq] at hx; cases hx; exact ih i v y hv hq fun id hid => he id (by simp only [X.ids]; exact X.mem_idsL (List.mem_of_getElem? hq) hid)
  | optT _ ih => exact .optT (ih fun id hid => he id (by simpa [X.ids] using hid))
  | optF x => exact .optF _
  | undef v => exact .undef v

theorem RV.unren {σ : Nat → Nat} {w : World} {M : Nat → Prop} {ρ ρl : Rho} {v : Value} {y : X} (h : RV w M ρ v y) : ∀ x : X, y = x.ren σ → (∀ id, id ∈ x.ids → ρl id = ρ (σ id)) → RV w M ρl v x := by
  induction h with
  | d h =>
    intro x hy he
    cases x <;> simp only [X.ren] at hy <;> cases hy
    exact .d h
  | own id n e b cap h =>
    intro x hy he
    cases x <;> simp only [X.ren] at hy <;> cases hy
    exact .own _ n e b cap ((he _ (by simp [X.ids])).trans h)
  | own0 id e =>
    intro x hy he
    cases x <;> simp only [X.ren] at hy <;> cases hy
    exact .own0 _ e
  | ptr id off b cap h =>
    intro x hy he
    cases x <;> simp only [X.ren] at hy <;> cases hy
    exact .ptr _ off b cap ((he _ (by simp [X.ids])).trans h)
  | dptr b off c g hb hm hg hr =>
    intro x hy he
    cases x <;> simp only [X.ren] at hy <;> cases hy
    exact .dptr b off c g hb hm hg hr
  | func fn fs cs xs ys hf hc k1 k2 ih1 ih2 =>
    intro x hy he
    cases x <;> simp only [X.ren] at hy <;> cases hy
    rename_i a b
    rw [renL_map] at hf hc
    refine .func fn fs cs a b (by simpa using hf) (by simpa using hc) (fun i v x hv hx => ih1 i v (x.ren σ) hv (by rw [renL_map, List.getElem?_map, hx]; rfl) x rfl fun id hid => he id ?_) (fun i v x hv hx => ih2 i v (x.ren σ) hv (by rw [renL_map, List.getElem?_map, hx]; rfl) x rfl fun id hid => he id ?_)
    · simp only [X.ids, List.mem_append]; exact .inl (X.mem_idsL (List.mem_of_getElem? hx) hid)
    · simp only [X.ids, List.mem_append]; exact .inr (X.mem_idsL (List.mem_of_getElem? hx) hid)
  | agg cs xs hs k1 ih =>
    intro x hy he
    cases x <;> simp only [X.ren] at hy <;> cases hy
    rename_i a
    rw [renL_map] at hs
    refine .agg cs a (by simpa using hs) fun i v x hv hx => ih i v (x.ren σ) hv (by rw [renL_map, List.getElem?_map, hx]; rfl) x rfl fun id hid => he id ?_
    simp only [X.ids]; exact X.mem_idsL (List.mem_of_getElem? hx) hid
  | tup cs xs hs k1 ih =>
    intro x hy he
    cases x <;> simp only [X.ren] at hy <;> cases hy
    rename_i a
    rw [renL_map] at hs
    refine .tup cs a (by simpa using hs) fun i v x hv hx => ih i v (x.ren σ) hv (by rw [renL_map, List.getElem?_map, hx]; rfl) x rfl fun id hid => he id ?_
    simp only [X.ids]; exact X.mem_idsL (List.mem_of_getElem? hx) hid
  | optT h ih =>
    intro x hy he
    cases x <;> simp only [X.ren] at hy <;> cases hy
    exact .optT (ih _ rfl fun id hid => he id (by simpa [X.ids] using hid))
  | optF x0 =>
    intro x hy he
    cases x <;> simp only [X.ren] at hy <;> cases hy
    exact .optF _
  | undef v =>
    intro x hy he
    cases x <;> simp only [X.ren] at hy <;> cases hy
    exact .undef v

def Ob.ren (σ : Nat → Nat) (o : Ob) : Ob := ⟨o.T, o.e, o.cs.map (X.ren σ)⟩

/-- the caller's heap holds what the callee is handed -/
def subR (σ : Nat → Nat) : Heap → Heap → Prop
  | [], _ => True
  | (j, o) :: r, H => (o.isSome = true ∧ look H (σ j) = o.map (Ob.ren σ)) ∧ subR σ r H

theorem subR_look {σ : Nat → Nat} : ∀ {Hl H : Heap}, subR σ Hl H → ∀ {j o}, look Hl j = some o → look H (σ j) = some (o.ren σ)
  | [], _, _, _, _, h => by cases h
  | (k, o') :: r, H, hs, j, o, h => by
    by_cases hk : k = j
    · subst hk
      simp only [look, if_true] at h
      rw [hs.1.2, h]
      rfl
    · simp only [look, if_neg hk] at h
      exact subR_look hs.2 h

theorem subR_some {σ : Nat → Nat} : ∀ {Hl H : Heap}, subR σ Hl H → ∀ {j}, j ∈ ks Hl → look Hl j ≠ none
  | [], _, _, _, h => by simp [ks] at h
  | (k, o') :: r, H, hs, j, h => by
    by_cases hk : k = j
    · subst hk
      simp only [look, if_true]
      have := hs.1.1
      cases o' <;> simp at this ⊢
    · simp only [look, if_neg hk]
      simp only [ks, List.map_cons, List.mem_cons] at h
      exact subR_some hs.2 (h.resolve_left fun e => hk e.symm)

theorem look_ks {H : Heap} {j : Nat} (h : look H j ≠ none) : j ∈ ks H := by
  induction H with
  | nil => exact absurd rfl h
  | cons p r ih =>
    obtain ⟨k, x⟩ := p
    by_cases hk : k = j
    · subst hk; simp [ks]
    · simp only [look, if_neg hk] at h
      simp only [ks, List.map_cons, List.mem_cons]
      exact .inr (ih h)

def renU (σ : Nat → Nat) (H : Heap) : Upds := H.map fun p => (σ p.1, p.2.map (Ob.ren σ))

theorem look_renU {σ : Nat → Nat} {H : Heap} {j : Nat} (hi : ∀ k, k ∈ ks H → σ k = σ j → k = j) : look (renU σ H) (σ j) = (look H j).map (Ob.ren σ) := by
  induction H with
  | nil => rfl
  | cons p r ih =>
    obtain ⟨k, x⟩ := p
    by_cases hk : k = j
    · subst hk; simp [renU, look]
    · have : ¬ σ k = σ j := fun h => hk (hi k (by simp [ks]) h)
      simp only [renU, List.map_cons, look, if_neg this, if_neg hk]
      exact ih fun k hk => hi k (by simp only [ks, List.map_cons, List.mem_cons]; exact .inr hk)

/-- of the callee's names at its end, the new ones -/
def newL (Hl He : Heap) : List Nat := (ks He).filter fun j => !(ks Hl).contains j
def goneL (Hl He : Heap) : List Nat := (ks Hl).filter fun j => !(ks He).contains j
/-- what the caller sees -/
def updOf (σ : Nat → Nat) (Hl He : Heap) : Upds := renU σ He ++ (goneL Hl He).map fun j => (σ j, none)

theorem Heap.ids_mem {H : Heap} {j : Nat} {o : Ob} (h : look H j = some o) {i : Nat} (hi : i ∈ X.idsL o.cs) : i ∈ H.ids := by
  induction H with
  | nil => cases h
  | cons p r ih =>
    obtain ⟨k, x⟩ := p
    by_cases hk : k = j
    · subst hk
      simp only [look, if_true] at h
      subst h
      simp [Heap.ids, hi]
    · simp only [look, if_neg hk] at h
      have := ih h
      cases x <;> simp [Heap.ids, this]

theorem nodup_inj {σ : Nat → Nat} : ∀ {l : List Nat}, (l.map σ).Nodup → ∀ {j k}, j ∈ l → k ∈ l → σ j = σ k → j = k
  | [], _, _, _, h, _, _ => by cases h
  | a :: l, hn, j, k, hj, hk, he => by
    rw [List.map_cons, List.nodup_cons] at hn
    rcases List.mem_cons.1 hj with e1 | h1 <;> rcases List.mem_cons.1 hk with e2 | h2
    · rw [e1, e2]
    · subst e1; exact absurd (List.mem_map.2 ⟨k, h2, he.symm⟩) hn.1
    · subst e2; exact absurd (List.mem_map.2 ⟨j, h1, he⟩) hn.1
    · exact nodup_inj hn.2 h1 h2 he

theorem CT_of {P : Program} {f : FuncId} {fn : Func} {cd : Code} {xsl : List X} {rl : X} {H : Heap} (σ : Nat → Nat) (Hl He : Heap) (hf : P.funcs[f]? = some fn) (hb : fn.body = some cd) (hn : xsl.length ≤ fn.ntmps)
    (hH : subR σ Hl H) (hinj : ((ks Hl ++ newL Hl He).map σ).Nodup) (hi1 : (X.idsL xsl ++ Hl.ids).all ((ks Hl).contains ·) = true) (hi2 : (rl.ids ++ He.ids).all ((ks He).contains ·) = true)
    (hkeep : ∀ j o, j ∈ ks He → look Hl j = some o → o.cs ≠ [])
    (h : ∀ G : Ctx, (∀ id, id ∉ ks Hl → G.ρ0 id = none) → AW P G fn.ntmps cd ⟨enumE 0 xsl, Hl, ks Hl⟩ (fun ex s => Fin P fn rl ex s ∧ subH He s.H)) :
    CT P f (xsl.map (X.ren σ)) H ((ks Hl).map σ) ((newL Hl He).map σ) (updOf σ Hl He) (rl.ren σ) := by
  classical
  intro G ρ H1 vs w hs hsz hv hR hnn
  simp only [List.all_eq_true, List.mem_append, List.contains_iff_mem] at hi1 hi2
  -- σ is injective on the names
  have inj : ∀ j k, j ∈ ks Hl ++ newL Hl He → k ∈ ks Hl ++ newL Hl He → σ j = σ k → j = k := fun j k hj hk hjk => nodup_inj hinj hj hk hjk
  have inl : ∀ j, j ∈ ks Hl → j ∈ ks Hl ++ newL Hl He := fun j h => List.mem_append_left _ h
  have ine : ∀ j, j ∈ ks He → j ∈ ks Hl ++ newL Hl He := fun j h => by
    by_cases hj : j ∈ ks Hl
    · exact inl j hj
    · exact List.mem_append_right _ (by simp [newL, h, hj])
  -- the callee's naming
  let ρl : Rho := fun j => if j ∈ ks Hl then ρ (σ j) else none
  have rl_in : ∀ j, j ∈ ks Hl → ρl j = ρ (σ j) := fun j h => if_pos h
  have rl_out : ∀ j, j ∉ ks Hl → ρl j = none := fun j h => if_neg h
  have hRj : ∀ j, j ∈ ks Hl → look H1 (σ j) = look H (σ j) := fun j h => hR _ (List.mem_map.2 ⟨j, h, rfl⟩)
  have hl1 : ∀ j o, look Hl j = some o → look H1 (σ j) = some (o.ren σ) := fun j o h => (hRj j (look_ks (by rw [h]; simp))).trans (subR_look hH h)
  have hlk : ∀ j, j ∈ ks Hl → look H1 (σ j) ≠ none := fun j h => by
    cases e : look Hl j with
    | none => exact absurd e (subR_some hH h)
    | some o => rw [hl1 j o e]; simp
  have mt1 : ∀ b, Mt ρl Hl b → Mt ρ H1 b := by
    rintro b ⟨j, o, cap, h1, h2⟩
    have hj := look_ks (H := Hl) (j := j) (by rw [h1]; simp)
    exact ⟨σ j, _, cap, hl1 j o h1, by rw [← rl_in j hj]; exact h2⟩
  let G' : Ctx := { w0 := w, M0 := fun b => G.M ρ H1 b ∧ ¬ Mt ρl Hl b, ρ0 := ρl, hM := fun b hb => hs.M_lt hb.1, F := Mt ρl Hl, hF := fun b h1 h2 => h2.2 h1 }
  have gm : ∀ b, G'.M ρl Hl b ↔ G.M ρ H1 b := fun b => ⟨fun h => h.elim (fun h => h.1) fun h => .inr (mt1 b h), fun h => by
    by_cases hm : Mt ρl Hl b
    · exact .inr hm
    · exact .inl ⟨h, hm⟩⟩
  have hsat : Sat G' ρl Hl w := by
    refine ⟨Turn.refl _ _, Ext.refl _, fun i j b c c' h1 h2 h3 h4 => ?_, fun j o hj => ?_⟩
    · have hi := look_ks h1
      have hj := look_ks h2
      rw [rl_in i hi] at h3
      rw [rl_in j hj] at h4
      exact inj i j (inl i hi) (inl j hj) (hs.inj _ _ b c c' (hlk i hi) (hlk j hj) h3 h4)
    · have hjk := look_ks (H := Hl) (j := j) (by rw [hj]; simp)
      rcases hs.obj (σ j) _ (hl1 j o hj) with ⟨z1, z2⟩ | ⟨b, cap, cs, h1, h2, h3, h4, h5, h6⟩
      · exact .inl ⟨List.map_eq_nil_iff.1 z1, (rl_in j hjk).trans z2⟩
      · refine .inr ⟨b, cap, cs, (rl_in j hjk).trans h1, .inr ⟨j, o, cap, hj, (rl_in j hjk).trans h1⟩, h3, h4, by simpa [Ob.ren] using h5, fun i v x hv hx => ?_⟩
        have := h6 i v (x.ren σ) hv (by simp [Ob.ren, hx])
        exact (this.laterS fun b hb => (gm b).1 hb).unren x rfl fun id hid => rl_in id (hi1 id (.inr (Heap.ids_mem hj (X.mem_idsL (List.mem_of_getElem? hx) hid))))
  have hsz' : vs.size = xsl.length := by simpa using hsz
  refine calls_of_wp hf hb (h G' (fun id hid => rl_out id hid) ρl _ w ⟨hsat, fun t => ?_, fun id hid hid2 => absurd hid2 hid, by simp; omega, rfl⟩ _ fun ex s' ρ' a' w' hq hr' => ?_)
  · show RV _ _ _ ((vs ++ _).getD t undef) (get (enumE 0 xsl) t)
    rw [get_enumE, if_pos (Nat.zero_le _), Nat.sub_zero]
    by_cases ht : t < xsl.length
    · have ht' : t < vs.size := by omega
      have e1 : (vs ++ Array.replicate (fn.ntmps - vs.size) undef).getD t undef = vs[t] := by
        simp [Array.getD, Nat.lt_of_lt_of_le ht' (Nat.le_add_right vs.size _), Array.getElem_append_left ht']
      rw [e1, List.getElem?_eq_getElem ht, Option.getD_some]
      have := hv t vs[t] (xsl[t].ren σ) (by simp [ht']) (by simp [ht])
      exact (this.laterS fun b hb => (gm b).1 hb).unren _ rfl fun id hid => rl_in id (hi1 id (.inl (X.mem_idsL (List.getElem_mem ht) hid)))
    · rw [List.getElem?_eq_none (by omega)]
      exact .undef _
  · obtain ⟨hfin, hsub⟩ := hq
    obtain ⟨v, g1, g2⟩ := fin_run hr' hfin
    have hHe : ∀ j o, look He j = some o → look s'.H j = some o := fun j o h => (subH_look hsub h).1
    -- the caller's naming behind the call
    let ρ'' : Rho := fun i => if hx : ∃ j, j ∈ newL Hl He ∧ σ j = i then ρ' hx.choose else ρ i
    have hnewk : ∀ j, j ∈ newL Hl He → ρ'' (σ j) = ρ' j := fun j hj => by
      have hx : ∃ k, k ∈ newL Hl He ∧ σ k = σ j := ⟨j, hj, rfl⟩
      have e : hx.choose = j := inj _ _ (List.mem_append_right _ hx.choose_spec.1) (List.mem_append_right _ hj) hx.choose_spec.2
      show (if hx : ∃ k, k ∈ newL Hl He ∧ σ k = σ j then ρ' hx.choose else ρ (σ j)) = _
      rw [dif_pos hx, e]
    have holdk : ∀ i, i ∉ (newL Hl He).map σ → ρ'' i = ρ i := fun i hi => dif_neg fun ⟨j, hj, hji⟩ => hi (List.mem_map.2 ⟨j, hj, hji⟩)
    have hlnew : ∀ j, j ∈ ks Hl → σ j ∉ (newL Hl He).map σ := fun j hj hm => by
      obtain ⟨k, hk, hkj⟩ := List.mem_map.1 hm
      have := inj k j (List.mem_append_right _ hk) (inl j hj) hkj
      subst this
      simp [newL, hj] at hk
    have hext : Ext ρ ρ'' := fun i p hp => by
      rw [holdk i fun hm => by rw [hnn i hm] at hp; cases hp]
      exact hp
    -- what a name of the end is to the caller
    have hname : ∀ j, j ∈ ks He → ρ'' (σ j) = ρ' j := by
      intro j hj
      by_cases hjl : j ∈ ks Hl
      · rw [holdk _ (hlnew j hjl)]
        cases e : look Hl j with
        | none => exact absurd e (subR_some hH hjl)
        | some o =>
          have hcs := hkeep j o hj e
          rcases hs.obj (σ j) _ (hl1 j o e) with ⟨z1, _⟩ | ⟨b, cap, cs, h1, _⟩
          · exact absurd (List.map_eq_nil_iff.1 z1) hcs
          · rw [h1]
            exact (hr'.sat.base j (b, cap) ((rl_in j hjl).trans h1)).symm
      · exact hnewk j (by simp [newL, hj, hjl])
    have ksu : ∀ i, i ∈ ks (updOf σ Hl He) → (∃ j, j ∈ ks He ∧ σ j = i) ∨ ∃ j, j ∈ goneL Hl He ∧ σ j = i := by
      intro i hi
      simp only [updOf, ks, List.map_append, List.mem_append, renU, List.map_map, List.mem_map] at hi
      rcases hi with ⟨p, hp, hpi⟩ | ⟨j, hj, hji⟩
      · exact .inl ⟨p.1, List.mem_map.2 ⟨p, hp, rfl⟩, hpi⟩
      · exact .inr ⟨j, hj, hji⟩
    have usk1 : ∀ j, j ∈ ks He → σ j ∈ ks (renU σ He) := by
      intro j hj
      obtain ⟨p, hp, hpi⟩ := List.mem_map.1 hj
      simp only [ks, renU, List.map_map, List.mem_map]
      exact ⟨p, hp, by simp [hpi]⟩
    have usk : ∀ j, j ∈ ks Hl ∨ j ∈ ks He → σ j ∈ ks (updOf σ Hl He) := by
      intro j hj
      simp only [updOf, ks, List.map_append, List.mem_append]
      by_cases he : j ∈ ks He
      · exact .inl (usk1 j he)
      · refine .inr ?_
        simp only [List.map_map, List.mem_map]
        exact ⟨j, by simp [goneL, hj.resolve_right he, he], rfl⟩
    have lookA : ∀ j, j ∈ ks He → look (updOf σ Hl He ++ H1) (σ j) = (look He j).map (Ob.ren σ) := by
      intro j hj
      rw [updOf, List.append_assoc, look_app_in (H' := []) (usk1 j hj), List.append_nil]
      exact look_renU fun k hk hkj => inj k j (ine k hk) (ine j hj) hkj
    have lookN : ∀ (l : List Nat) i, look (l.map fun j => (σ j, (none : Option Ob))) i = none := by
      intro l i
      induction l with
      | nil => rfl
      | cons a l ih =>
        simp only [List.map_cons, look]
        split
        · rfl
        · exact ih
    have lookB : ∀ j, j ∈ goneL Hl He → look (updOf σ Hl He ++ H1) (σ j) = none := by
      intro j hj
      simp only [goneL, List.mem_filter, Bool.not_eq_true', List.contains_eq_mem, decide_eq_false_iff_not] at hj
      have hnot : σ j ∉ ks (renU σ He) := by
        intro hm
        simp only [ks, renU, List.map_map, List.mem_map] at hm
        obtain ⟨p, hp, hpj⟩ := hm
        have hk : p.1 ∈ ks He := List.mem_map.2 ⟨p, hp, rfl⟩
        exact hj.2 (inj p.1 j (ine _ hk) (inl j hj.1) hpj ▸ hk)
      have hin : σ j ∈ ks ((goneL Hl He).map fun j => (σ j, (none : Option Ob))) := by
        simp only [ks, List.map_map, List.mem_map]
        exact ⟨j, by simp [goneL, hj.1, hj.2], rfl⟩
      rw [updOf, List.append_assoc, look_app_not hnot, look_app_in (H' := []) hin, List.append_nil]
      exact lookN _ _
    have lookC : ∀ i, i ∉ ks (updOf σ Hl He) → look (updOf σ Hl He ++ H1) i = look H1 i := fun i hi => look_app_not hi
    have cls : ∀ i o, look (updOf σ Hl He ++ H1) i = some o → (∃ j ol, σ j = i ∧ j ∈ ks He ∧ look He j = some ol ∧ o = ol.ren σ) ∨ (look H1 i = some o ∧ (∀ j, j ∈ ks Hl → σ j ≠ i) ∧ ρ'' i = ρ i) := by
      intro i o ho
      by_cases hi : i ∈ ks (updOf σ Hl He)
      · rcases ksu i hi with ⟨j, hj, rfl⟩ | ⟨j, hj, rfl⟩
        · rw [lookA j hj] at ho
          cases e : look He j with
          | none => rw [e] at ho; cases ho
          | some ol => rw [e] at ho; cases ho; exact .inl ⟨j, ol, rfl, hj, e, rfl⟩
        · rw [lookB j hj] at ho; cases ho
      · rw [lookC i hi] at ho
        refine .inr ⟨ho, fun j hj e => hi (e ▸ usk j (.inl hj)), holdk i fun hm => ?_⟩
        obtain ⟨j, hj, hji⟩ := List.mem_map.1 hm
        have : j ∈ ks He := (List.mem_filter.1 hj).1
        exact hi (hji ▸ usk j (.inr this))
    have far : ∀ i o b cap, look H1 i = some o → (∀ j, j ∈ ks Hl → σ j ≠ i) → ρ i = some (b, cap) → ¬ Mt ρl Hl b := by
      rintro i o b cap h1 h2 h3 ⟨k, ok, cap', h4, h5⟩
      have hk := look_ks (H := Hl) (j := k) (by rw [h4]; simp)
      rw [rl_in k hk] at h5
      exact h2 k hk (hs.inj _ _ b cap' cap (hlk k hk) (by rw [h1]; simp) h5 h3)
    have hFm : ∀ b, Mt ρl Hl b → (G.w0.heap.size ≤ b ∨ G.F b) ∧ b < w.heap.size := fun b hb => hs.Mt_lt (mt1 b hb)
    have sub1 : ∀ b, G.M ρ'' (updOf σ Hl He ++ H1) b → G'.M ρ' s'.H b := by
      rintro b (h0 | ⟨i, o, cap, h1, h2⟩)
      · refine .inl ⟨.inl h0, fun hm => ?_⟩
        rcases (hFm b hm).1 with hh | hh
        · have := G.hM b h0; omega
        · exact G.hF b hh h0
      · rcases cls i o h1 with ⟨j, ol, rfl, hj, e1, _⟩ | ⟨e1, e2, e3⟩
        · exact .inr ⟨j, ol, cap, hHe j ol e1, by rw [← hname j hj]; exact h2⟩
        · rw [e3] at h2
          exact .inl ⟨.inr ⟨i, o, cap, e1, h2⟩, far i o b cap e1 e2 h2⟩
    have hlat : Later w (G.M ρ H1) w' (G.M ρ'' (updOf σ Hl He ++ H1)) := by
      refine ⟨hr'.sat.below.size, fun b h1 h2 => hr'.sat.below.block b h1 fun hm => h2 (.inr (mt1 b hm)), fun b h1 h2 => ?_⟩
      rcases sub1 b h2 with h3 | h3
      · exact h3.1
      · rcases (hr'.sat.Mt_lt h3).1 with h4 | h4
        · have h5 : w.heap.size ≤ b := h4
          omega
        · exact .inr (mt1 b h4)
    have hids : ∀ x : X, (∀ id, id ∈ x.ids → id ∈ ks He) → ∀ v, RV w' (G'.M ρ' s'.H) ρ' v x → RV w' (G.M ρ'' (updOf σ Hl He ++ H1)) ρ'' v (x.ren σ) := fun x hx v hv => (hv.laterS sub1).ren fun id hid => hname id (hx id hid)
    have hfinal : Sat G ρ'' (updOf σ Hl He ++ H1) w' := by
      refine ⟨⟨hr'.sat.below.os.trans hs.below.os, hr'.sat.below.tape.trans hs.below.tape, hr'.sat.below.output.trans hs.below.output, Nat.le_trans hs.size hr'.sat.below.size, fun k hk hF => ?_⟩, hs.base.trans hext, ?_, ?_⟩
      · refine (hr'.sat.below.block k (Nat.lt_of_lt_of_le hk hs.size) fun hm => ?_).trans (hs.below.block k hk hF)
        rcases (hFm k hm).1 with hh | hh
        · omega
        · exact hF hh
      · intro i j b c c' h1 h2 h3 h4
        cases e1 : look (updOf σ Hl He ++ H1) i with
        | none => exact absurd e1 h1
        | some o1 =>
          cases e2 : look (updOf σ Hl He ++ H1) j with
          | none => exact absurd e2 h2
          | some o2 =>
            rcases cls i o1 e1 with ⟨i', ol, rfl, a2, a3, _⟩ | ⟨a1, a2, a3⟩ <;> rcases cls j o2 e2 with ⟨j', ol', rfl, b2, b3, _⟩ | ⟨b1, b2, b3⟩
            · rw [hname _ a2] at h3
              rw [hname _ b2] at h4
              rw [hr'.sat.inj i' j' b c c' (by rw [hHe _ _ a3]; simp) (by rw [hHe _ _ b3]; simp) h3 h4]
            · rw [hname _ a2] at h3
              rw [b3] at h4
              have hn1 := far j o2 b c' b1 b2 h4
              have hn2 := (hs.Mt_lt ⟨j, o2, c', b1, h4⟩).2
              rcases (hr'.sat.Mt_lt ⟨i', ol, c, hHe _ _ a3, h3⟩).1 with hh | hh
              · have h5 : w.heap.size ≤ b := hh
                omega
              · exact absurd hh hn1
            · rw [hname _ b2] at h4
              rw [a3] at h3
              have hn1 := far i o1 b c a1 a2 h3
              have hn2 := (hs.Mt_lt ⟨i, o1, c, a1, h3⟩).2
              rcases (hr'.sat.Mt_lt ⟨j', ol', c', hHe _ _ b3, h4⟩).1 with hh | hh
              · have h5 : w.heap.size ≤ b := hh
                omega
              · exact absurd hh hn1
            · rw [a3] at h3
              rw [b3] at h4
              exact hs.inj i j b c c' (by rw [a1]; simp) (by rw [b1]; simp) h3 h4
      · intro i o ho
        rcases cls i o ho with ⟨j, ol, rfl, a2, a3, rfl⟩ | ⟨a1, a2, a3⟩
        · rcases hr'.sat.obj j ol (hHe _ _ a3) with ⟨z1, z2⟩ | ⟨b, cap, cs, h1, h2, h3, h4, h5, h6⟩
          · exact .inl ⟨by simp [Ob.ren, z1], (hname j a2).trans z2⟩
          · refine .inr ⟨b, cap, cs, (hname j a2).trans h1, ?_, h3, h4, by simpa [Ob.ren] using h5, fun q v x hv hx => ?_⟩
            · rcases h2 with hh | hh
              · exact .inl (Nat.le_trans hs.size hh)
              · exact (hFm b hh).1
            · simp only [Ob.ren, List.getElem?_map] at hx
              cases hq : ol.cs[q]? with
              | none => rw [hq] at hx; cases hx
              | some y =>
                rw [hq] at hx
                cases hx
                exact hids y (fun id hid => hi2 id (.inr (Heap.ids_mem a3 (X.mem_idsL (List.mem_of_getElem? hq) hid)))) v (h6 q v y hv hq)
        · rcases hs.obj i o a1 with ⟨z1, z2⟩ | ⟨b, cap, cs, h1, h2, h3, h4, h5, h6⟩
          · exact .inl ⟨z1, a3.trans z2⟩
          · exact .inr ⟨b, cap, cs, a3.trans h1, h2, (hr'.sat.below.block b (lt_of_heap h3) (far i o b cap a1 a2 h1)).trans h3, h4, h5, fun q v x hv hx => (h6 q v x hv hx).later hlat hext⟩
    have hpost : a'.defers = [] ∧ ∃ v, (results fn a'.tmps).run P w' = .ok v w' ∧ (∃ v' ρ2, Ending.returned v = .returned v' ∧ Ext ρ ρ2 ∧ (∀ id, ρ2 id ≠ none → ρ id ≠ none ∨ id ∈ (newL Hl He).map σ) ∧ Later w (G.M ρ H1) w' (G.M ρ2 (updOf σ Hl He ++ H1)) ∧ RV w' (G.M ρ2 (updOf σ Hl He ++ H1)) ρ2 v' (rl.ren σ) ∧ Sat G ρ2 (updOf σ Hl He ++ H1) w') := by
      refine ⟨hr'.defers, v, g1, v, ρ'', rfl, hext, fun id hid => ?_, hlat, hids rl (fun id hid => hi2 id (.inl hid)) v g2, hfinal⟩
      by_cases hm : id ∈ (newL Hl He).map σ
      · exact .inr hm
      · exact .inl (by rwa [holdk id hm] at hid)
    rcases hfin.1 with rfl | rfl <;> exact hpost

end Go.Proofs.Ytphfbjeaklpddaa

/- The calculus of states: pointers held against each other; a pointer turned to unsafe.Pointer and back; the bytes of an own slice as a string. -/
namespace Go.Proofs.Ytphfbjeaklpddaa
open Go.RowKit

section
variable {P : Program} {o : Oper} {E : Env} {H : Heap} {R nw : List Nat}

theorem RV.nilp_inv {w : World} {M : Nat → Prop} {ρ : Rho} {v : Value} (h : RV w M ρ v (.d .nilp)) : v = .pointer none := by
  cases h with | d h => cases h; rfl

/-- two pointers to nothing -/
theorem LT_eqlNN {T U te : TypeId} {y z : Operand} (ho : o.op = .binOp .eql T y z U) (hT : P.underlying T = some (.pointer te)) (hy : opX E y = .d .nilp) (hz : opX E z = .d .nilp) : LT P o E H R nw [] (.d (.bool true)) :=
  LT_read fun G ρ H1 a w hs hh _ => by
    have g1 := hh y (by simp [ho, Op.operands])
    have g2 := hh z (by simp [ho, Op.operands])
    rw [hy] at g1
    rw [hz] at g2
    refine ⟨.bool true, ?_, .d (.bool _)⟩
    have h : ∀ d : Nat, (Op.equalIn (d + 1) T (.pointer none) (.pointer none)).run P w = .ok true w := fun d => by
      simp [Op.equalIn, run_underlying hT]
    simp [execOp, ho, g1.nilp_inv, g2.nilp_inv, eqGuard, binOp, Op.equal, Op.maxDepth, h 9999]

/-- a pointer to a block, and a pointer to nothing -/
theorem LT_eqlPN {T U te : TypeId} {y z : Operand} {id off : Nat} (ho : o.op = .binOp .eql T y z U) (hT : P.underlying T = some (.pointer te)) (hy : opX E y = .ptr id off) (hz : opX E z = .d .nilp) : LT P o E H R nw [] (.d (.bool false)) :=
  LT_read fun G ρ H1 a w hs hh _ => by
    have g1 := hh y (by simp [ho, Op.operands])
    have g2 := hh z (by simp [ho, Op.operands])
    rw [hy] at g1
    rw [hz] at g2
    generalize he : a.eval y = v at g1
    cases g1 with
    | ptr _ _ b cap hr =>
      refine ⟨.bool false, ?_, .d (.bool _)⟩
      have h : ∀ d : Nat, (Op.equalIn (d + 1) T (.pointer (some ⟨b, off, none⟩)) (.pointer none)).run P w = .ok false w := fun d => by
        simp [Op.equalIn, run_underlying hT]
      simp [execOp, ho, he, g2.nilp_inv, eqGuard, binOp, Op.equal, Op.maxDepth, h 9999]

/-- a pointer held against itself -/
theorem LT_neqPP {T U te : TypeId} {j : TypeInfo} {y z : Operand} {id off : Nat} (ho : o.op = .binOp .neq T y z U) (hT : P.underlying T = some (.pointer te)) (hte : P.info? te = some j) (hy : opX E y = .ptr id off) (hz : opX E z = .ptr id off) : LT P o E H R nw [] (.d (.bool false)) :=
  LT_read fun G ρ H1 a w hs hh _ => by
    have g1 := hh y (by simp [ho, Op.operands])
    have g2 := hh z (by simp [ho, Op.operands])
    rw [hy] at g1
    rw [hz] at g2
    generalize he : a.eval y = v at g1
    generalize he2 : a.eval z = v2 at g2
    cases g1 with
    | ptr _ _ b cap hr =>
      cases g2 with
      | ptr _ _ b2 cap2 hr2 =>
        rw [hr] at hr2
        cases hr2
        refine ⟨.bool false, ?_, .d (.bool _)⟩
        have h := Lib.run_neq_ptr_same (P := P) w ⟨b, off, none⟩ hT hte
        simp [execOp, ho, he, he2, eqGuard, h]

theorem liesAt_same {e : TypeId} {m : Nat} (hc : P.cellsOf e = m) (hm : 0 < m) (count : Nat) (hn : 1 ≤ count) : liesAt P P.depth e count 0 e 1 = true := by
  have hd : P.depth = (2 * (P.types.size + Made.depth) + 1) + 1 := rfl
  rw [hd]
  simp only [liesAt, Bool.or_eq_true]
  left
  rw [hd]
  simp [rowAt, hc, hn, sameLayout, Nat.ne_of_gt hm]

/-- a pointer to a block's head, as unsafe.Pointer -/
theorem LT_toUnsafe {S T t : TypeId} {j : TypeInfo} {y : Operand} {id : Nat} {ob : Ob} (ho : o.op = .convert S T y) (hS : P.underlying S = some (.pointer t)) (hT : P.underlying T = some .unsafePointer) (ht : P.info? t = some j) (hj : j.size ≠ 0) (hy : opX E y = .ptr id 0) (hl : look H id = some ob) (hR : id ∈ R) (hne : 0 < ob.cs.length) : LT P o E H R nw [] (.ptr id 0) :=
  LT_read fun G ρ H1 a w hs hh hRR => by
    have g1 := hh y (by simp [ho, Op.operands])
    rw [hy] at g1
    generalize he : a.eval y = v at g1
    cases g1 with
    | ptr _ _ b cap hr =>
      rcases hs.obj id ob ((hRR id hR).trans hl) with ⟨_, z⟩ | ⟨b', cap', cs, h1, h2, h3, h4, h5, h6⟩
      · rw [hr] at z; cases z
      rw [hr] at h1
      cases h1
      have hsh : w.shape? b = some (ob.T, cs.size) := by simp [World.shape?, h3]
      refine ⟨.pointer (some ⟨b, 0, none⟩), ?_, .ptr id 0 b cap hr⟩
      have h := Lib.run_to_unsafe (P := P) w ⟨b, 0, none⟩ hS hT ht hj hsh (show 0 < cs.size by omega)
      simp [execOp, ho, he, h]

/-- and back -/
theorem LT_fromUnsafe {S T : TypeId} {j : TypeInfo} {y : Operand} {id : Nat} {ob : Ob} (ho : o.op = .convert S T y) (hS : P.underlying S = some .unsafePointer) (hT : P.underlying T = some (.pointer ob.T)) (ht : P.info? ob.T = some j) (hc : P.cellsOf ob.T = ob.e) (he0 : 0 < ob.e) (hy : opX E y = .ptr id 0) (hl : look H id = some ob) (hR : id ∈ R) (hne : 0 < ob.cs.length) : LT P o E H R nw [] (.ptr id 0) :=
  LT_read fun G ρ H1 a w hs hh hRR => by
    have g1 := hh y (by simp [ho, Op.operands])
    rw [hy] at g1
    generalize he : a.eval y = v at g1
    cases g1 with
    | ptr _ _ b cap hr =>
      rcases hs.obj id ob ((hRR id hR).trans hl) with ⟨_, z⟩ | ⟨b', cap', cs, h1, h2, h3, h4, h5, h6⟩
      · rw [hr] at z; cases z
      rw [hr] at h1
      cases h1
      have hsh : w.shape? b = some (ob.T, cs.size) := by simp [World.shape?, h3]
      have hcap : 1 ≤ cap := by
        rcases Nat.eq_zero_or_pos cap with hz | hz
        · subst hz
          rw [Nat.zero_mul] at h4
          omega
        · exact hz
      have hlies : liesAt P P.depth ob.T (cs.size / P.cellsOf ob.T) 0 ob.T 1 = true := by
        refine liesAt_same hc he0 _ ?_
        rw [hc, h4, Nat.mul_div_cancel _ he0]
        exact hcap
      refine ⟨.pointer (some ⟨b, 0, none⟩), ?_, .ptr id 0 b cap hr⟩
      have h := Lib.run_from_unsafe (P := P) w ⟨b, 0, none⟩ hS hT ht hsh hlies
      simp [execOp, ho, he, h]

/-- abi.NoEscape -/
theorem LT_noEscape {y z : Operand} {ts : Array TypeId} {f : FuncId} {fn : Func} {x : X} (ho : o.op = .call ⟨.value z, #[y], ts⟩) (hz : opX E z = .d (.fn f)) (hf : P.funcs[f]? = some fn) (hname : (fn.name == "runtime.NumGoroutine") = false) (hb : fn.body.isNone = true) (hn : Extern.findNext fn = none) (he : Extern.find fn = some Extern.AbiNoEscape.same) (hy : opX E y = x) : LT P o E H R nw [] x :=
  LT_read fun G ρ H1 a w hs hh _ => by
    have g1 := hh y (by simp [ho, Op.operands, Call.operands])
    have g2 := hh z (by simp [ho, Op.operands, Call.operands])
    rw [hy] at g1
    rw [hz] at g2
    refine ⟨a.eval y, ?_, g1⟩
    have h := run_callFunc_extern hf hname hb hn he #[a.eval y] w
    rw [Lib.run_noEscape] at h
    simp [execOp, ho, resolve, g2.fn_inv, Deferred.ofValue, invoke, h]

/-- the address of an own slice's first element -/
theorem LT_sliceDataO {y : Operand} {ts : Array TypeId} {id n e : Nat} {ob : Ob} (ho : o.op = .call ⟨.builtin .unsafeSliceData, #[y], ts⟩) (hy : opX E y = .own id n e) (hn : 0 < n) (hl : look H id = some ob) (hR : id ∈ R) (hc : ob.cs ≠ []) : LT P o E H R nw [] (.ptr id 0) :=
  LT_builtin ho fun G ρ H1 a w hs hh hRR => by
    have g1 := hh y (by simp)
    rw [hy] at g1
    generalize he : a.eval y = v at g1
    cases g1 with
    | own0 => omega
    | own _ _ _ b cap hr =>
      rcases hs.obj id ob ((hRR id hR).trans hl) with ⟨_, z⟩ | ⟨b', cap', cs, h1, h2, h3, h4, h5, h6⟩
      · rw [hr] at z; cases z
      rw [hr] at h1
      cases h1
      have hcap : cap ≠ 0 := by
        rintro rfl
        rw [Nat.zero_mul] at h4
        have : 0 < ob.cs.length := List.length_pos_iff.2 hc
        omega
      refine ⟨.pointer (some ⟨b, 0, none⟩), fun cs => ⟨?_, .ptr id 0 b cap hr⟩⟩
      have h := Lib.run_unsafeSliceData_row (P := P) w ts o.type ⟨b, 0, none⟩ n cap hcap
      simp [builtin, he, h]

/-- the octets of an own slice as a string: the slice may turn no more -/
theorem LT_unsafeStr {y z : Operand} {pt it e : TypeId} {id n : Nat} {ob : Ob} (ns : List Int) (ho : o.op = .call ⟨.builtin .unsafeString, #[y, z], #[pt, it]⟩) (hp : P.underlying pt = some (.pointer e)) (hc1 : P.cellsOf e = 1) (hy : opX E y = .ptr id 0) (hz : opX E z = .d (.int .i64 n)) (hl : look H id = some ob) (hR : id ∈ R) (hT : ob.T = e)
    (hcs : ob.cs = (u8D ns).map .d) (hb : ∀ x ∈ ns, 0 ≤ x ∧ x < 256) (hn : ns.length = n) (h0 : 0 < n) (h63 : n ≤ 9223372036854775807) : LT P o E H R nw [(id, none)] (.d (.str (strD ns))) := by
  intro G ρ H1 a w hs hh hRR _ next Q hK
  have g1 := hh y (by simp [ho, Op.operands, Call.operands])
  have g2 := hh z (by simp [ho, Op.operands, Call.operands])
  rw [hy] at g1
  rw [hz] at g2
  generalize he : a.eval y = v at g1
  cases g1 with
  | ptr _ _ b cap hr =>
    have hl1 : look H1 id = some ob := (hRR id hR).trans hl
    rcases hs.obj id ob hl1 with ⟨_, z⟩ | ⟨b', cap', cs, h1, h2, h3, h4, h5, h6⟩
    · rw [hr] at z; cases z
    rw [hr] at h1
    cases h1
    rw [hT] at h3
    have hsh : w.shape? b = some (e, cs.size) := by simp [World.shape?, h3]
    let l : List UInt8 := ns.map fun x => UInt8.ofNat x.toNat
    have hll : l.length = n := by simp [l, hn]
    have hcl : ob.cs.length = n := by rw [hcs]; simp [u8D, hn]
    have hcell : ∀ j x, l[j]? = some x → w.cell? ((⟨b, 0, none⟩ : Addr).add j) = some (.int .u8 x.toNat) := by
      intro j x hx
      have hj : j < ns.length := by
        have := (List.getElem?_eq_some_iff.1 hx).1
        simpa [l] using this
      have hjc : j < cs.size := by omega
      have hxe : x = UInt8.ofNat ns[j].toNat := by simpa [l, hj] using hx.symm
      have h7 := h6 j cs[j] (.d (.int .u8 ns[j])) (by simp [hjc]) (by rw [hcs]; simp [u8D, hj])
      have hv : cs[j] = .int .u8 ns[j] := h7.int_inv
      rw [add_none]
      have hbd := hb ns[j] (List.getElem_mem hj)
      have hto : ((UInt8.ofNat ns[j].toNat).toNat : Int) = ns[j] := by
        rw [UInt8.toNat_ofNat']
        omega
      have hgo : w.cell? ⟨b, 0 + j, none⟩ = some cs[j] := by simp [World.cell?, h3, hjc]
      rw [hgo, hv, hxe, hto]
    have hrun := Lib.run_unsafeString_row (P := P) w pt it o.type e hp hc1 b cs.size hsh l (by intro h; rw [h] at hll; simp at hll; omega) (by omega) (by omega) hcell
    rw [hll] at hrun
    have hw : (execOp a.eval o).run P w = .ok (.value (.string ⟨l.toArray⟩)) (w.freeze ⟨b, 0, none⟩ n) := by
      simp only [execOp, ho, resolve, invoke, builtin, Sem.run_bind, Sem.run_pure, Result.andThen_ok, List.map_toArray, List.map_cons, List.map_nil, he, g2.int_inv, hrun]
    unfold Oper.wp
    rw [hw]
    obtain ⟨hs2, hl2⟩ := hs.drop id
    have hnm : ¬ G.M ρ ((id, none) :: H1) b := hs.still (by rw [hl1]; simp) hr h2
    have ht : Turn (· = b) w (w.freeze ⟨b, 0, none⟩ n) := by
      refine ⟨by unfold World.freeze; split <;> rfl, by unfold World.freeze; split <;> rfl, by unfold World.freeze; split <;> rfl, by unfold World.freeze; split <;> simp, fun k _ hk => ?_⟩
      simp only [World.freeze]
      split
      · rfl
      · simp only [Array.getElem?_modify]
        rw [if_neg (fun e => hk e.symm)]
    have hlat : Later w (G.M ρ H1) (w.freeze ⟨b, 0, none⟩ n) (G.M ρ ((id, none) :: H1)) :=
      ⟨ht.size, fun c h7 h8 => ht.block c h7 (by rintro rfl; exact h8 (.inr ⟨id, ob, cap, hl1, hr⟩)), fun c h7 h8 => hl2.sub c h7 h8⟩
    have hlo : ∀ j o1, look ((id, none) :: H1) j = some o1 → j ≠ id ∧ look H1 j = some o1 := by
      intro j o1 h
      by_cases hj : j = id
      · subst hj; simp [look] at h
      · exact ⟨hj, by rwa [show look ((id, none) :: H1) j = look H1 j by simp [look, Ne.symm hj]] at h⟩
    refine hK _ _ ρ (Ext.refl _) (fun _ h => .inl h) hlat (.d ?_) ⟨hs.below.set ht h2, hs.base, hs2.inj, fun j o1 hj => ?_⟩
    · exact .str _
    · obtain ⟨hji, hj1⟩ := hlo j o1 hj
      rcases hs.obj j o1 hj1 with hz | ⟨b1, cap1, cs1, k1, k2, k3, k4, k5, k6⟩
      · exact .inl hz
      · have hb1 : b1 ≠ b := by
          rintro rfl
          exact hji (hs.inj j id b1 cap1 cap (by rw [hj1]; simp) (by rw [hl1]; simp) k1 hr)
        exact .inr ⟨b1, cap1, cs1, k1, k2, (ht.block b1 (lt_of_heap k3) hb1).trans k3, k4, k5, fun i v x hv hx => (k6 i v x hv hx).later hlat (Ext.refl _)⟩

/-- append onto nil -/
theorem LT_append0 {t e : TypeId} {i : TypeInfo} {z : Value} {y q : Operand} {k m : Nat} {c : List D} (id' : Nat) (ho : o.op = .call ⟨.builtin .append, #[y, q], #[t, t]⟩) (ht : P.underlying t = some (.slice e)) (hi : P.info? e = some i) (hz : i.zero = some z) (hm : i.size = m) (hzs : z.cells.size = m)
    (hy : opX E y = .d (.sl 0 0 [])) (hq : opX E q = .d (.sl k m c)) (hid : id' ∈ nw) (hk : 0 < k) (hbig : k ≤ 9223372036854775807) (hby : k * i.bytes ≤ 140737488355328) :
    LT P o E H R nw [(id', some ⟨e, m, c.map .d⟩)] (.own id' k m) := by
  intro G ρ H1 a w hs hh _ hnw next Q hK
  have g1 := hh y (by simp [ho, Op.operands, Call.operands])
  have g2 := hh q (by simp [ho, Op.operands, Call.operands])
  rw [hy] at g1
  rw [hq] at g2
  subst hm
  have hnone := hnw id' hid
  have hey : a.eval y = .slice none 0 0 := by
    generalize a.eval y = v at g1
    cases g1 with | d h =>
    cases h with
    | nil0 => rfl
    | nil _ _ _ he => omega
    | sl _ _ _ _ _ _ _ hn => omega
  obtain ⟨aq, capq, heq, hkcap, hclen, hpos⟩ := g2.sl_inv
  obtain ⟨b2, off2, g, rfl, hb2, hm2, hg, hrr⟩ := hpos hk
  let news : List Value := (List.range (k * i.size)).map g
  have hnl : news.length = k * i.size := by simp [news]
  have hnews : ∀ j u, news[j]? = some u → w.cell? ((⟨b2, off2, none⟩ : Addr).add j) = some u := by
    intro j u hu
    have hj : j < k * i.size := by rw [← hnl]; exact (List.getElem?_eq_some_iff.1 hu).1
    have : u = g j := by simpa [news, hj] using hu.symm
    rw [this, add_none]
    exact hg j hj
  have hnd : ∀ (j : Nat) u x, news[j]? = some u → c[j]? = some x → RD w (G.M ρ H1) u x := by
    intro j u x hu hx
    have hj : j < k * i.size := by rw [← hnl]; exact (List.getElem?_eq_some_iff.1 hu).1
    have : u = g j := by simpa [news, hj] using hu.symm
    rw [this]
    exact hrr j x hx
  have hrun := run_append_nil (P := P) w t o.type e i z ht hi hz ⟨b2, off2, none⟩ k capq news hnl hnews hk (by omega) (by omega)
  have hge := grownCap_ge w k 0 e
  have hd : Below w.heap.size w w.drew := (Below.refl _ w).drew
  have hs1 : Sat G ρ H1 w.drew := hs.grow hd
  have hlat1 : Later w (G.M ρ H1) w.drew (G.M ρ H1) := later_grow hd
  obtain ⟨ρ', e1, e2, e3, e4, e5⟩ := hs1.new (id := id') hnone (news.toArray ++ Builtin.zeroCells z.cells (grownCap w k 0 e - k)) (grownCap w k 0 e) ⟨e, i.size, c.map .d⟩
    (by
      simp only [Array.size_append, List.size_toArray, size_zeroCells, hzs, hnl, ← Nat.add_mul]
      congr 1; omega)
    (by simp only [Array.size_append, List.size_toArray, size_zeroCells, hnl, List.length_map, hclen]; omega)
    (fun j v x hv hx => by
      refine cells_new (old := []) (news := news) (rest := (Builtin.zeroCells z.cells (grownCap w k 0 e - k)).toList) (cs := []) rfl (fun j v x h1 h2 => by simp at h1) (by rw [hnl, hclen]) (fun j v x h1 h2 => (hnd j v x h1 h2).later hlat1) j v x ?_ (by simpa using hx)
      rw [← hv, ← Array.getElem?_toList]
      simp)
  unfold Oper.wp execOp
  simp only [ho, resolve, invoke, builtin, Sem.run_bind, Sem.run_pure, Result.andThen_ok, List.map_toArray, List.map_cons, List.map_nil, hey, heq, hrun]
  refine hK _ _ ρ' e1 (fun j hj => (e2 j hj).imp (fun h => h) fun h => by rw [h]; exact hid) ?_ (.own id' _ _ _ _ e3) e5
  exact ⟨by have := e4.size; exact this, fun b h1 h2 => e4.block b h1 h2, fun b h1 h2 => e4.sub b h1 h2⟩

end
end Go.Proofs.Ytphfbjeaklpddaa

/- What the program's tables say of its types. -/
namespace Go.Proofs.Ytphfbjeaklpddaa

theorem inf0 : Try.prog.info? 0 = some Try.t0 := by kernel_rfl
theorem inf1 : Try.prog.info? 1 = some Try.t1 := by kernel_rfl
theorem inf2 : Try.prog.info? 2 = some Try.t2 := by kernel_rfl
theorem inf3 : Try.prog.info? 3 = some Try.t3 := by kernel_rfl
theorem inf4 : Try.prog.info? 4 = some Try.t4 := by kernel_rfl
theorem inf5 : Try.prog.info? 5 = some Try.t5 := by kernel_rfl
theorem inf6 : Try.prog.info? 6 = some Try.t6 := by kernel_rfl
theorem inf7 : Try.prog.info? 7 = some Try.t7 := by kernel_rfl
theorem inf8 : Try.prog.info? 8 = some Try.t8 := by kernel_rfl
theorem inf9 : Try.prog.info? 9 = some Try.t9 := by kernel_rfl
theorem inf10 : Try.prog.info? 10 = some Try.t10 := by kernel_rfl
theorem inf11 : Try.prog.info? 11 = some Try.t11 := by kernel_rfl
theorem inf12 : Try.prog.info? 12 = some Try.t12 := by kernel_rfl
theorem inf13 : Try.prog.info? 13 = some Try.t13 := by kernel_rfl
theorem inf14 : Try.prog.info? 14 = some Try.t14 := by kernel_rfl
theorem inf15 : Try.prog.info? 15 = some Try.t15 := by kernel_rfl
theorem inf16 : Try.prog.info? 16 = some Try.t16 := by kernel_rfl
theorem inf17 : Try.prog.info? 17 = some Try.t17 := by kernel_rfl
theorem inf18 : Try.prog.info? 18 = some Try.t18 := by kernel_rfl
theorem inf19 : Try.prog.info? 19 = some Try.t19 := by kernel_rfl
theorem inf20 : Try.prog.info? 20 = some Try.t20 := by kernel_rfl
theorem inf21 : Try.prog.info? 21 = some Try.t21 := by kernel_rfl
theorem inf22 : Try.prog.info? 22 = some Try.t22 := by kernel_rfl
theorem inf23 : Try.prog.info? 23 = some Try.t23 := by kernel_rfl
theorem inf24 : Try.prog.info? 24 = some Try.t24 := by kernel_rfl
theorem inf25 : Try.prog.info? 25 = some Try.t25 := by kernel_rfl
theorem inf26 : Try.prog.info? 26 = some Try.t26 := by kernel_rfl
theorem inf27 : Try.prog.info? 27 = some Try.t27 := by kernel_rfl
theorem inf28 : Try.prog.info? 28 = some Try.t28 := by kernel_rfl
theorem inf29 : Try.prog.info? 29 = some Try.t29 := by kernel_rfl
theorem inf30 : Try.prog.info? 30 = some Try.t30 := by kernel_rfl
theorem inf31 : Try.prog.info? 31 = some Try.t31 := by kernel_rfl
theorem inf32 : Try.prog.info? 32 = some Try.t32 := by kernel_rfl
theorem inf33 : Try.prog.info? 33 = some Try.t33 := by kernel_rfl
theorem inf34 : Try.prog.info? 34 = some Try.t34 := by kernel_rfl
theorem inf35 : Try.prog.info? 35 = some Try.t35 := by kernel_rfl
theorem inf36 : Try.prog.info? 36 = some Try.t36 := by kernel_rfl
theorem inf37 : Try.prog.info? 37 = some Try.t37 := by kernel_rfl
theorem inf38 : Try.prog.info? 38 = some Try.t38 := by kernel_rfl
theorem inf39 : Try.prog.info? 39 = some Try.t39 := by kernel_rfl
theorem inf40 : Try.prog.info? 40 = some Try.t40 := by kernel_rfl
theorem inf41 : Try.prog.info? 41 = some Try.t41 := by kernel_rfl
theorem inf42 : Try.prog.info? 42 = some Try.t42 := by kernel_rfl
theorem inf43 : Try.prog.info? 43 = some Try.t43 := by kernel_rfl
theorem inf44 : Try.prog.info? 44 = some Try.t44 := by kernel_rfl
theorem inf45 : Try.prog.info? 45 = some Try.t45 := by kernel_rfl
theorem inf46 : Try.prog.info? 46 = some Try.t46 := by kernel_rfl
theorem inf47 : Try.prog.info? 47 = some Try.t47 := by kernel_rfl
theorem inf48 : Try.prog.info? 48 = some Try.t48 := by kernel_rfl
theorem inf49 : Try.prog.info? 49 = some Try.t49 := by kernel_rfl
theorem inf50 : Try.prog.info? 50 = some Try.t50 := by kernel_rfl
theorem inf51 : Try.prog.info? 51 = some Try.t51 := by kernel_rfl
theorem inf52 : Try.prog.info? 52 = some Try.t52 := by kernel_rfl
theorem inf53 : Try.prog.info? 53 = some Try.t53 := by kernel_rfl
theorem inf54 : Try.prog.info? 54 = some Try.t54 := by kernel_rfl
theorem inf55 : Try.prog.info? 55 = some Try.t55 := by kernel_rfl
theorem inf56 : Try.prog.info? 56 = some Try.t56 := by kernel_rfl
theorem inf57 : Try.prog.info? 57 = some Try.t57 := by kernel_rfl
theorem inf58 : Try.prog.info? 58 = some Try.t58 := by kernel_rfl
theorem inf59 : Try.prog.info? 59 = some Try.t59 := by kernel_rfl
theorem inf60 : Try.prog.info? 60 = some Try.t60 := by kernel_rfl
theorem inf61 : Try.prog.info? 61 = some Try.t61 := by kernel_rfl
theorem inf62 : Try.prog.info? 62 = some Try.t62 := by kernel_rfl
theorem inf63 : Try.prog.info? 63 = some Try.t63 := by kernel_rfl
theorem inf64 : Try.prog.info? 64 = some Try.t64 := by kernel_rfl
theorem inf65 : Try.prog.info? 65 = some Try.t65 := by kernel_rfl
theorem inf66 : Try.prog.info? 66 = some Try.t66 := by kernel_rfl
theorem inf67 : Try.prog.info? 67 = some Try.t67 := by kernel_rfl
theorem inf68 : Try.prog.info? 68 = some Try.t68 := by kernel_rfl
theorem inf69 : Try.prog.info? 69 = some Try.t69 := by kernel_rfl
theorem inf70 : Try.prog.info? 70 = some Try.t70 := by kernel_rfl
theorem inf71 : Try.prog.info? 71 = some Try.t71 := by kernel_rfl
theorem inf72 : Try.prog.info? 72 = some Try.t72 := by kernel_rfl
theorem inf73 : Try.prog.info? 73 = some Try.t73 := by kernel_rfl
theorem inf74 : Try.prog.info? 74 = some Try.t74 := by kernel_rfl
theorem inf75 : Try.prog.info? 75 = some Try.t75 := by kernel_rfl
theorem inf76 : Try.prog.info? 76 = some Try.t76 := by kernel_rfl
theorem inf77 : Try.prog.info? 77 = some Try.t77 := by kernel_rfl
theorem inf78 : Try.prog.info? 78 = some Try.t78 := by kernel_rfl
theorem inf79 : Try.prog.info? 79 = some Try.t79 := by kernel_rfl
theorem inf80 : Try.prog.info? 80 = some Try.t80 := by kernel_rfl
theorem inf81 : Try.prog.info? 81 = some Try.t81 := by kernel_rfl
theorem inf82 : Try.prog.info? 82 = some Try.t82 := by kernel_rfl
theorem inf83 : Try.prog.info? 83 = some Try.t83 := by kernel_rfl
theorem inf84 : Try.prog.info? 84 = some Try.t84 := by kernel_rfl
theorem inf85 : Try.prog.info? 85 = some Try.t85 := by kernel_rfl
theorem inf86 : Try.prog.info? 86 = some Try.t86 := by kernel_rfl
theorem inf87 : Try.prog.info? 87 = some Try.t87 := by kernel_rfl
theorem inf88 : Try.prog.info? 88 = some Try.t88 := by kernel_rfl
theorem inf89 : Try.prog.info? 89 = some Try.t89 := by kernel_rfl
theorem inf90 : Try.prog.info? 90 = some Try.t90 := by kernel_rfl
theorem inf91 : Try.prog.info? 91 = some Try.t91 := by kernel_rfl
theorem inf92 : Try.prog.info? 92 = some Try.t92 := by kernel_rfl
theorem inf93 : Try.prog.info? 93 = some Try.t93 := by kernel_rfl
theorem inf94 : Try.prog.info? 94 = some Try.t94 := by kernel_rfl
theorem inf95 : Try.prog.info? 95 = some Try.t95 := by kernel_rfl
theorem inf96 : Try.prog.info? 96 = some Try.t96 := by kernel_rfl
theorem inf97 : Try.prog.info? 97 = some Try.t97 := by kernel_rfl
theorem inf98 : Try.prog.info? 98 = some Try.t98 := by kernel_rfl
theorem inf99 : Try.prog.info? 99 = some Try.t99 := by kernel_rfl
theorem inf100 : Try.prog.info? 100 = some Try.t100 := by kernel_rfl
theorem inf101 : Try.prog.info? 101 = some Try.t101 := by kernel_rfl
theorem inf102 : Try.prog.info? 102 = some Try.t102 := by kernel_rfl
theorem inf103 : Try.prog.info? 103 = some Try.t103 := by kernel_rfl
theorem inf104 : Try.prog.info? 104 = some Try.t104 := by kernel_rfl
theorem inf105 : Try.prog.info? 105 = some Try.t105 := by kernel_rfl
theorem inf106 : Try.prog.info? 106 = some Try.t106 := by kernel_rfl
theorem inf107 : Try.prog.info? 107 = some Try.t107 := by kernel_rfl
theorem inf108 : Try.prog.info? 108 = some Try.t108 := by kernel_rfl
theorem inf109 : Try.prog.info? 109 = some Try.t109 := by kernel_rfl
theorem inf110 : Try.prog.info? 110 = some Try.t110 := by kernel_rfl
theorem inf111 : Try.prog.info? 111 = some Try.t111 := by kernel_rfl
theorem inf112 : Try.prog.info? 112 = some Try.t112 := by kernel_rfl
theorem inf113 : Try.prog.info? 113 = some Try.t113 := by kernel_rfl
theorem inf114 : Try.prog.info? 114 = some Try.t114 := by kernel_rfl
theorem inf115 : Try.prog.info? 115 = some Try.t115 := by kernel_rfl
theorem inf116 : Try.prog.info? 116 = some Try.t116 := by kernel_rfl
theorem inf117 : Try.prog.info? 117 = some Try.t117 := by kernel_rfl
theorem inf118 : Try.prog.info? 118 = some Try.t118 := by kernel_rfl
theorem inf119 : Try.prog.info? 119 = some Try.t119 := by kernel_rfl
theorem inf120 : Try.prog.info? 120 = some Try.t120 := by kernel_rfl
theorem inf121 : Try.prog.info? 121 = some Try.t121 := by kernel_rfl
theorem inf122 : Try.prog.info? 122 = some Try.t122 := by kernel_rfl
theorem inf123 : Try.prog.info? 123 = some Try.t123 := by kernel_rfl
theorem inf124 : Try.prog.info? 124 = some Try.t124 := by kernel_rfl
theorem inf125 : Try.prog.info? 125 = some Try.t125 := by kernel_rfl
theorem inf126 : Try.prog.info? 126 = some Try.t126 := by kernel_rfl
theorem inf127 : Try.prog.info? 127 = some Try.t127 := by kernel_rfl

end Go.Proofs.Ytphfbjeaklpddaa

/- strings.Builder, in the calculus of states. -/
namespace Go.Proofs.Ytphfbjeaklpddaa
open Go.RowKit

theorem keep2 {n : Nat} {ns : List Int} (hns : ns ≠ []) : ∀ (j : Nat) (o : Ob), j ∈ ks [(1, some ⟨72, 2, [.ptr 1 0, .own 2 n 1]⟩), (2, some ⟨5, 1, (u8D ns).map X.d⟩)] → look [(1, some ⟨72, 2, [.ptr 1 0, .own 2 n 1]⟩), (2, some ⟨5, 1, (u8D ns).map X.d⟩)] j = some o → o.cs ≠ [] := by
  intro j o _ h
  simp only [look] at h
  split at h
  · cases h; simp
  · split at h
    · cases h; simpa [u8D] using hns
    · cases h
theorem keep3 {n : Nat} {ns ms : List Int} {m : Nat} (hns : ns ≠ []) : ∀ (j : Nat) (o : Ob), j ∈ ks [(1, some ⟨72, 2, [.ptr 1 0, .own 3 m 1]⟩), (3, some ⟨5, 1, (u8D ms).map X.d⟩)] → look [(1, some ⟨72, 2, [.ptr 1 0, .own 2 n 1]⟩), (2, some ⟨5, 1, (u8D ns).map X.d⟩)] j = some o → o.cs ≠ [] := fun j o _ h => by
  simp only [look] at h
  split at h
  · cases h; simp
  · split at h
    · cases h; simpa [u8D] using hns
    · cases h
theorem ren_d (σ : Nat → Nat) (c : List D) : (c.map X.d).map (X.ren σ) = c.map X.d := by
  rw [List.map_map]
  rfl

set_option maxRecDepth 100000 in
set_option maxHeartbeats 2000000 in
theorem ct_copy0 (σ : Nat → Nat) {H : Heap}  (hH : subR σ [(1, some ⟨72, 2, [.d .nilp, .d (.sl 0 0 [])]⟩)] H) (hinj : ((ks [(1, some ⟨72, 2, [.d .nilp, .d (.sl 0 0 [])]⟩)] ++ newL [(1, some ⟨72, 2, [.d .nilp, .d (.sl 0 0 [])]⟩)] [(1, some ⟨72, 2, [.ptr 1 0, .d (.sl 0 0 [])]⟩)]).map σ).Nodup) : CT Try.prog 62 ([.ptr 1 0].map (X.ren σ)) H ((ks [(1, some ⟨72, 2, [.d .nilp, .d (.sl 0 0 [])]⟩)]).map σ) ((newL [(1, some ⟨72, 2, [.d .nilp, .d (.sl 0 0 [])]⟩)] [(1, some ⟨72, 2, [.ptr 1 0, .d (.sl 0 0 [])]⟩)]).map σ) (updOf σ [(1, some ⟨72, 2, [.d .nilp, .d (.sl 0 0 [])]⟩)] [(1, some ⟨72, 2, [.ptr 1 0, .d (.sl 0 0 [])]⟩)]) (X.ren σ (.tup [])) := by
  refine CT_of (fn := Try.f62) (rl := .tup []) σ [(1, some ⟨72, 2, [.d .nilp, .d (.sl 0 0 [])]⟩)] [(1, some ⟨72, 2, [.ptr 1 0, .d (.sl 0 0 [])]⟩)] Try.func62 rfl (by simp [Try.ntmps62]) hH hinj (by kernel_rfl) (by kernel_rfl) (fun j o h1 h2 => by simp [look] at h2; obtain ⟨rfl, rfl⟩ := h2; simp) fun G hG => ?_
  rw [Try.ntmps62]
  change AW _ _ _ _ ⟨[(0, .ptr 1 0)], [(1, some ⟨72, 2, [.d .nilp, .d (.sl 0 0 [])]⟩)], [1]⟩ _
  refine aw_seq ?_
  refine aw_region_seq [⟨.ptr 1 0, [], [], []⟩, ⟨.ptr 1 0, [], [], []⟩, ⟨.ptr 1 0, [], [], []⟩, ⟨.d .nilp, [], [], [1]⟩, ⟨.d (.bool true), [], [], []⟩] (by kernel_rfl) (by kernel_rfl) (fun id h => hG id (by simp [ks] at h ⊢ <;> omega)) ?_ ?_
  · exact okY rfl (LT_move rfl rfl) <| okY rfl (LT_nilCheck rfl rfl) <| okY rfl (LT_fieldAddr rfl rfl Try.underlying72 rfl inf69 (by decide) _ rfl) <| okY rfl (LT_load 1 rfl rfl rfl (List.Mem.head _) Try.underlying69 inf69 (by simp) (.inr ⟨rfl, rfl, rfl⟩)) <| okY rfl (LT_eqlNN rfl Try.underlying69 rfl rfl) <| okE
  change AW _ _ _ _ _ _
  refine aw_weak (weak_of [(0, .ptr 1 0), (6, .d (.bool true))] [(1, some ⟨72, 2, [.d .nilp, .d (.sl 0 0 [])]⟩)] [1] (sE rfl (sE rfl sE0)) (sH rfl sH0) (by kernel_rfl)) ?_
  refine aw_condT rfl ?_
  refine aw_region_seq [⟨.ptr 1 0, [], [], []⟩, ⟨.ptr 1 0, [], [], []⟩, ⟨.ptr 1 0, [], [], [1]⟩, ⟨.ptr 1 0, [], [], []⟩, ⟨.ptr 1 0, [], [], [1]⟩, ⟨.ptr 1 0, [], [], []⟩, ⟨.ptr 1 0, [], [], []⟩, ⟨.tup [], [(1, some ⟨72, 2, [.ptr 1 0, .d (.sl 0 0 [])]⟩)], [], [1]⟩] (by kernel_rfl) (by kernel_rfl) (fun id h => hG id (by simp [ks] at h ⊢ <;> omega)) ?_ ?_
  · exact okY rfl (LT_move rfl rfl) <| okY rfl (LT_move rfl rfl) <| okY rfl (LT_toUnsafe rfl Try.underlying69 Try.underlying110 inf72 (by decide) rfl rfl (List.Mem.head _) (by decide)) <| okY rfl (LT_noEscape rfl rfl Try.func77 (by kernel_rfl) (by kernel_rfl) (by kernel_rfl) (by kernel_rfl) rfl) <| okY rfl (LT_fromUnsafe (ob := ⟨72, 2, [.d .nilp, .d (.sl 0 0 [])]⟩) rfl Try.underlying110 Try.underlying69 inf72 (by kernel_rfl) (by decide) rfl rfl (List.Mem.head _) (by simp)) <| okY rfl (LT_nilCheck rfl rfl) <| okY rfl (LT_fieldAddr rfl rfl Try.underlying72 rfl inf69 (by decide) _ rfl) <| okY rfl (LT_store (ob := ⟨72, 2, [.d .nilp, .d (.sl 0 0 [])]⟩) (x := .ptr 1 0) rfl rfl rfl (List.Mem.head _) inf69 rfl rfl rfl (by simp [X.cells]) _ rfl) <| okE
  refine ⟨?_, (sH rfl sH0)⟩
  refine finN (xs := []) (l := []) (.inr rfl) Try.results62 (rL0) (by simp) ?_
  exact rfl

set_option maxRecDepth 100000 in
set_option maxHeartbeats 2000000 in
theorem ct_copy1 (σ : Nat → Nat) {H : Heap} (n : Nat) (ns : List Int) (hns : ns ≠ []) (hH : subR σ [(1, some ⟨72, 2, [.ptr 1 0, .own 2 n 1]⟩), (2, some ⟨5, 1, (u8D ns).map X.d⟩)] H) (hinj : ((ks [(1, some ⟨72, 2, [.ptr 1 0, .own 2 n 1]⟩), (2, some ⟨5, 1, (u8D ns).map X.d⟩)] ++ newL [(1, some ⟨72, 2, [.ptr 1 0, .own 2 n 1]⟩), (2, some ⟨5, 1, (u8D ns).map X.d⟩)] [(1, some ⟨72, 2, [.ptr 1 0, .own 2 n 1]⟩), (2, some ⟨5, 1, (u8D ns).map X.d⟩)]).map σ).Nodup) : CT Try.prog 62 ([.ptr 1 0].map (X.ren σ)) H ((ks [(1, some ⟨72, 2, [.ptr 1 0, .own 2 n 1]⟩), (2, some ⟨5, 1, (u8D ns).map X.d⟩)]).map σ) ((newL [(1, some ⟨72, 2, [.ptr 1 0, .own 2 n 1]⟩), (2, some ⟨5, 1, (u8D ns).map X.d⟩)] [(1, some ⟨72, 2, [.ptr 1 0, .own 2 n 1]⟩), (2, some ⟨5, 1, (u8D ns).map X.d⟩)]).map σ) (updOf σ [(1, some ⟨72, 2, [.ptr 1 0, .own 2 n 1]⟩), (2, some ⟨5, 1, (u8D ns).map X.d⟩)] [(1, some ⟨72, 2, [.ptr 1 0, .own 2 n 1]⟩), (2, some ⟨5, 1, (u8D ns).map X.d⟩)]) (X.ren σ (.tup [])) := by
  refine CT_of (fn := Try.f62) (rl := .tup []) σ [(1, some ⟨72, 2, [.ptr 1 0, .own 2 n 1]⟩), (2, some ⟨5, 1, (u8D ns).map X.d⟩)] [(1, some ⟨72, 2, [.ptr 1 0, .own 2 n 1]⟩), (2, some ⟨5, 1, (u8D ns).map X.d⟩)] Try.func62 rfl (by simp [Try.ntmps62]) hH hinj (by simp [Heap.ids, X.idsL, X.ids, idsL_d, ks]) (by simp [Heap.ids, X.idsL, X.ids, idsL_d, ks]) (keep2 hns) fun G hG => ?_
  rw [Try.ntmps62]
  change AW _ _ _ _ ⟨[(0, .ptr 1 0)], [(1, some ⟨72, 2, [.ptr 1 0, .own 2 n 1]⟩), (2, some ⟨5, 1, (u8D ns).map X.d⟩)], [1, 2]⟩ _
  refine aw_seq ?_
  refine aw_region_seq [⟨.ptr 1 0, [], [], []⟩, ⟨.ptr 1 0, [], [], []⟩, ⟨.ptr 1 0, [], [], []⟩, ⟨.ptr 1 0, [], [], [1]⟩, ⟨.d (.bool false), [], [], []⟩] (by kernel_rfl) (by kernel_rfl) (fun id h => hG id (by simp [ks] at h ⊢ <;> omega)) ?_ ?_
  · exact okY rfl (LT_move rfl rfl) <| okY rfl (LT_nilCheck rfl rfl) <| okY rfl (LT_fieldAddr rfl rfl Try.underlying72 rfl inf69 (by decide) _ rfl) <| okY rfl (LT_load 1 rfl rfl rfl (List.Mem.head _) Try.underlying69 inf69 (by simp) (.inr ⟨rfl, rfl, rfl⟩)) <| okY rfl (LT_eqlPN rfl Try.underlying69 rfl rfl) <| okE
  change AW _ _ _ _ _ _
  refine aw_weak (weak_of [(0, .ptr 1 0), (6, .d (.bool false))] [(1, some ⟨72, 2, [.ptr 1 0, .own 2 n 1]⟩), (2, some ⟨5, 1, (u8D ns).map X.d⟩)] [1, 2] (sE rfl (sE rfl sE0)) (sH rfl (sH rfl sH0)) (by simp only [Heap.ids, idsL_d, List.nil_append]; kernel_rfl)) ?_
  refine aw_condF rfl ?_
  refine aw_seq ?_
  refine aw_region_seq [⟨.ptr 1 0, [], [], []⟩, ⟨.ptr 1 0, [], [], []⟩, ⟨.ptr 1 0, [], [], []⟩, ⟨.ptr 1 0, [], [], [1]⟩, ⟨.ptr 1 0, [], [], []⟩, ⟨.d (.bool false), [], [], []⟩] (by kernel_rfl) (by kernel_rfl) (fun id h => hG id (by simp [ks] at h ⊢ <;> omega)) ?_ ?_
  · exact okY rfl (LT_move rfl rfl) <| okY rfl (LT_nilCheck rfl rfl) <| okY rfl (LT_fieldAddr rfl rfl Try.underlying72 rfl inf69 (by decide) _ rfl) <| okY rfl (LT_load 1 rfl rfl rfl (List.Mem.head _) Try.underlying69 inf69 (by simp) (.inr ⟨rfl, rfl, rfl⟩)) <| okY rfl (LT_move rfl rfl) <| okY rfl (LT_neqPP rfl Try.underlying69 inf72 rfl rfl) <| okE
  change AW _ _ _ _ _ _
  refine aw_weak (weak_of [(19, .d (.bool false))] [(1, some ⟨72, 2, [.ptr 1 0, .own 2 n 1]⟩), (2, some ⟨5, 1, (u8D ns).map X.d⟩)] [1, 2] (sE rfl sE0) (sH rfl (sH rfl sH0)) (by simp only [Heap.ids, idsL_d, List.nil_append]; kernel_rfl)) ?_
  refine aw_condF rfl ?_
  refine aw_skip ?_
  refine ⟨?_, (sH rfl (sH rfl sH0))⟩
  refine finN (xs := []) (l := []) (.inr rfl) Try.results62 (rL0) (by simp) ?_
  exact rfl

theorem ct_copy1' {n : Nat} {ns : List Int} {H : Heap} (hns : ns ≠ []) (h1 : look H 1 = some ⟨72, 2, [.ptr 1 0, .own 2 n 1]⟩) (h2 : look H 2 = some ⟨5, 1, (u8D ns).map X.d⟩) : CT Try.prog 62 [.ptr 1 0] H [1, 2] [] [(1, some ⟨72, 2, [.ptr 1 0, .own 2 n 1]⟩), (2, some ⟨5, 1, (u8D ns).map X.d⟩)] (.tup []) := by
  have h := ct_copy1 (fun i => i) n ns hns (H := H) ⟨⟨rfl, h1⟩, ⟨rfl, by rw [h2]; simp [Ob.ren, X.ren]⟩, trivial⟩ (show ([1, 2] : List Nat).Nodup by decide)
  have e : updOf (fun i => i) [(1, some ⟨72, 2, [.ptr 1 0, .own 2 n 1]⟩), (2, some ⟨5, 1, (u8D ns).map X.d⟩)] [(1, some ⟨72, 2, [.ptr 1 0, .own 2 n 1]⟩), (2, some ⟨5, 1, (u8D ns).map X.d⟩)] = [(1, some ⟨72, 2, [.ptr 1 0, .own 2 n 1]⟩), (2, some ⟨5, 1, (u8D ns).map X.d⟩)] := by
    simp [updOf, renU, goneL, ks, Ob.ren, X.ren]
  rw [e] at h
  exact h

set_option maxRecDepth 100000 in
set_option maxHeartbeats 2000000 in
theorem ct_wb0 (σ : Nat → Nat) {H : Heap} (v : Int) (hH : subR σ [(1, some ⟨72, 2, [.d .nilp, .d (.sl 0 0 [])]⟩)] H) (hinj : ((ks [(1, some ⟨72, 2, [.d .nilp, .d (.sl 0 0 [])]⟩)] ++ newL [(1, some ⟨72, 2, [.d .nilp, .d (.sl 0 0 [])]⟩)] [(1, some ⟨72, 2, [.ptr 1 0, .own 2 1 1]⟩), (2, some ⟨5, 1, (u8D [v]).map X.d⟩)]).map σ).Nodup) : CT Try.prog 34 ([.ptr 1 0, .d (.int .u8 v)].map (X.ren σ)) H ((ks [(1, some ⟨72, 2, [.d .nilp, .d (.sl 0 0 [])]⟩)]).map σ) ((newL [(1, some ⟨72, 2, [.d .nilp, .d (.sl 0 0 [])]⟩)] [(1, some ⟨72, 2, [.ptr 1 0, .own 2 1 1]⟩), (2, some ⟨5, 1, (u8D [v]).map X.d⟩)]).map σ) (updOf σ [(1, some ⟨72, 2, [.d .nilp, .d (.sl 0 0 [])]⟩)] [(1, some ⟨72, 2, [.ptr 1 0, .own 2 1 1]⟩), (2, some ⟨5, 1, (u8D [v]).map X.d⟩)]) (X.ren σ (.d .nili)) := by
  refine CT_of (fn := Try.f34) (rl := .d .nili) σ [(1, some ⟨72, 2, [.d .nilp, .d (.sl 0 0 [])]⟩)] [(1, some ⟨72, 2, [.ptr 1 0, .own 2 1 1]⟩), (2, some ⟨5, 1, (u8D [v]).map X.d⟩)] Try.func34 rfl (by simp [Try.ntmps34]) hH hinj (by kernel_rfl) (by simp [Heap.ids, X.idsL, X.ids, idsL_d, ks]) (fun j o h1 h2 => by simp [look] at h2; obtain ⟨rfl, rfl⟩ := h2; simp) fun G hG => ?_
  rw [Try.ntmps34]
  change AW _ _ _ _ ⟨[(0, .ptr 1 0), (1, .d (.int .u8 v))], [(1, some ⟨72, 2, [.d .nilp, .d (.sl 0 0 [])]⟩)], [1]⟩ _
  refine aw_seq ?_
  refine aw_region_seq [⟨.d .nili, [], [], []⟩] (by kernel_rfl) (by kernel_rfl) (fun id h => hG id (by simp [ks] at h ⊢ <;> omega)) ?_ ?_
  · exact okY rfl (LT_assign rfl rfl) <| okE
  change AW _ _ _ _ _ _
  refine aw_weak (weak_of [(0, .ptr 1 0), (1, .d (.int .u8 v))] [(1, some ⟨72, 2, [.d .nilp, .d (.sl 0 0 [])]⟩)] [1] (sE rfl (sE rfl sE0)) (sH rfl sH0) (by kernel_rfl)) ?_
  refine aw_seq ?_
  refine aw_region_seq [⟨.ptr 1 0, [], [], []⟩, ⟨.tup [], [(1, some ⟨72, 2, [.ptr 1 0, .d (.sl 0 0 [])]⟩)], [], [1]⟩] (by kernel_rfl) (by kernel_rfl) (fun id h => hG id (by simp [ks] at h ⊢ <;> omega)) ?_ ?_
  · exact okY rfl (LT_move rfl rfl) <| okY rfl (LT_call [.ptr 1 0] rfl rfl Try.call62 rfl (ct_copy0 (fun i => i) ⟨⟨rfl, rfl⟩, trivial⟩ (by decide))) <| okE
  change AW _ _ _ _ _ _
  refine aw_weak (weak_of [(0, .ptr 1 0), (1, .d (.int .u8 v))] [(1, some ⟨72, 2, [.ptr 1 0, .d (.sl 0 0 [])]⟩)] [1] (sE rfl (sE rfl sE0)) (sH rfl sH0) (by kernel_rfl)) ?_
  refine aw_seq ?_
  refine aw_region_seq [⟨.ptr 1 0, [], [], []⟩, ⟨.ptr 1 0, [], [], []⟩, ⟨.ptr 1 0, [], [], []⟩, ⟨.ptr 1 1, [], [], []⟩, ⟨.d (.sl 0 0 []), [], [], [1]⟩, ⟨.d (.int .u8 v), [], [], []⟩, ⟨.d (.sl 1 1 ([v].map (.int .u8))), [], [], []⟩, ⟨.own 2 1 1, [(2, some ⟨5, 1, (u8D [v]).map X.d⟩)], [2], []⟩, ⟨.ptr 1 0, [], [], []⟩, ⟨.ptr 1 1, [], [], []⟩, ⟨.tup [], [(1, some ⟨72, 2, [.ptr 1 0, .own 2 1 1]⟩)], [], [1]⟩] (by kernel_rfl) (by kernel_rfl) (fun id h => hG id (by simp [ks] at h ⊢ <;> omega)) ?_ ?_
  · exact okY rfl (LT_move rfl rfl) <| okY rfl (LT_move rfl rfl) <| okY rfl (LT_nilCheck rfl rfl) <| okY rfl (LT_fieldAddr rfl rfl Try.underlying72 rfl inf70 (by decide) _ rfl) <| okY rfl (LT_load 1 rfl rfl rfl (List.Mem.head _) Try.underlying70 inf70 (by simp) (.inr ⟨rfl, rfl, rfl⟩)) <| okY rfl (LT_move rfl rfl) <| okY rfl (LT_buildSliceD [.d (.int .u8 v)] ([v].map (.int .u8)) rfl Try.underlying70 inf5 rfl rfl 1 rfl (by decide) (by decide) rfl rfl (by decide) rfl (by kernel_rfl) rfl) <| okY rfl (LT_append0 (c := u8D [v]) 2 rfl Try.underlying70 inf5 rfl rfl rfl rfl rfl (List.Mem.head _) (by omega) (by omega) (by show _ * 1 ≤ _; omega)) <| okY rfl (LT_nilCheck rfl rfl) <| okY rfl (LT_fieldAddr rfl rfl Try.underlying72 rfl inf70 (by decide) _ rfl) <| okY rfl (LT_store (ob := ⟨72, 2, [.ptr 1 0, .d (.sl 0 0 [])]⟩) (x := .own 2 1 1) rfl rfl rfl (List.Mem.head _) inf70 rfl rfl rfl (by simp [X.cells]) _ rfl) <| okE
  change AW _ _ _ _ _ _
  refine aw_weak (weak_of [] [(1, some ⟨72, 2, [.ptr 1 0, .own 2 1 1]⟩), (2, some ⟨5, 1, (u8D [v]).map X.d⟩)] [1, 2] sE0 (sH rfl (sH rfl sH0)) (by simp only [Heap.ids, idsL_d, List.nil_append]; kernel_rfl)) ?_
  refine aw_seq ?_
  refine aw_region_seq [⟨.d .nili, [], [], []⟩] (by kernel_rfl) (by kernel_rfl) (fun id h => hG id (by simp [ks] at h ⊢ <;> omega)) ?_ ?_
  · exact okY rfl (LT_assign rfl rfl) <| okE
  change AW _ _ _ _ _ _
  refine aw_weak (weak_of [(4, .d .nili)] [(1, some ⟨72, 2, [.ptr 1 0, .own 2 1 1]⟩), (2, some ⟨5, 1, (u8D [v]).map X.d⟩)] [1, 2] (sE rfl sE0) (sH rfl (sH rfl sH0)) (by simp only [Heap.ids, idsL_d, List.nil_append]; kernel_rfl)) ?_
  refine aw_ret ?_
  refine ⟨?_, (sH rfl (sH rfl sH0))⟩
  refine fin1 (x := .d .nili) (.inl rfl) Try.results34 rfl ?_
  exact rfl

set_option maxRecDepth 100000 in
set_option maxHeartbeats 2000000 in
theorem ct_wb1 (σ : Nat → Nat) {H : Heap} (n : Nat) (ns : List Int) (hns : ns ≠ []) (hn : ns.length = n) (hbig : n ≤ 1000000) (v : Int) (hH : subR σ [(1, some ⟨72, 2, [.ptr 1 0, .own 2 n 1]⟩), (2, some ⟨5, 1, (u8D ns).map X.d⟩)] H) (hinj : ((ks [(1, some ⟨72, 2, [.ptr 1 0, .own 2 n 1]⟩), (2, some ⟨5, 1, (u8D ns).map X.d⟩)] ++ newL [(1, some ⟨72, 2, [.ptr 1 0, .own 2 n 1]⟩), (2, some ⟨5, 1, (u8D ns).map X.d⟩)] [(1, some ⟨72, 2, [.ptr 1 0, .own 3 (n + 1) 1]⟩), (3, some ⟨5, 1, (u8D (ns ++ [v])).map X.d⟩)]).map σ).Nodup) : CT Try.prog 34 ([.ptr 1 0, .d (.int .u8 v)].map (X.ren σ)) H ((ks [(1, some ⟨72, 2, [.ptr 1 0, .own 2 n 1]⟩), (2, some ⟨5, 1, (u8D ns).map X.d⟩)]).map σ) ((newL [(1, some ⟨72, 2, [.ptr 1 0, .own 2 n 1]⟩), (2, some ⟨5, 1, (u8D ns).map X.d⟩)] [(1, some ⟨72, 2, [.ptr 1 0, .own 3 (n + 1) 1]⟩), (3, some ⟨5, 1, (u8D (ns ++ [v])).map X.d⟩)]).map σ) (updOf σ [(1, some ⟨72, 2, [.ptr 1 0, .own 2 n 1]⟩), (2, some ⟨5, 1, (u8D ns).map X.d⟩)] [(1, some ⟨72, 2, [.ptr 1 0, .own 3 (n + 1) 1]⟩), (3, some ⟨5, 1, (u8D (ns ++ [v])).map X.d⟩)]) (X.ren σ (.d .nili)) := by
  refine CT_of (fn := Try.f34) (rl := .d .nili) σ [(1, some ⟨72, 2, [.ptr 1 0, .own 2 n 1]⟩), (2, some ⟨5, 1, (u8D ns).map X.d⟩)] [(1, some ⟨72, 2, [.ptr 1 0, .own 3 (n + 1) 1]⟩), (3, some ⟨5, 1, (u8D (ns ++ [v])).map X.d⟩)] Try.func34 rfl (by simp [Try.ntmps34]) hH hinj (by simp [Heap.ids, X.idsL, X.ids, idsL_d, ks]) (by simp [Heap.ids, X.idsL, X.ids, idsL_d, ks]) (keep3 hns) fun G hG => ?_
  rw [Try.ntmps34]
  change AW _ _ _ _ ⟨[(0, .ptr 1 0), (1, .d (.int .u8 v))], [(1, some ⟨72, 2, [.ptr 1 0, .own 2 n 1]⟩), (2, some ⟨5, 1, (u8D ns).map X.d⟩)], [1, 2]⟩ _
  refine aw_seq ?_
  refine aw_region_seq [⟨.d .nili, [], [], []⟩] (by kernel_rfl) (by kernel_rfl) (fun id h => hG id (by simp [ks] at h ⊢ <;> omega)) ?_ ?_
  · exact okY rfl (LT_assign rfl rfl) <| okE
  change AW _ _ _ _ _ _
  refine aw_weak (weak_of [(0, .ptr 1 0), (1, .d (.int .u8 v))] [(1, some ⟨72, 2, [.ptr 1 0, .own 2 n 1]⟩), (2, some ⟨5, 1, (u8D ns).map X.d⟩)] [1, 2] (sE rfl (sE rfl sE0)) (sH rfl (sH rfl sH0)) (by simp only [Heap.ids, idsL_d, List.nil_append]; kernel_rfl)) ?_
  refine aw_seq ?_
  refine aw_region_seq [⟨.ptr 1 0, [], [], []⟩, ⟨.tup [], [(1, some ⟨72, 2, [.ptr 1 0, .own 2 n 1]⟩), (2, some ⟨5, 1, (u8D ns).map X.d⟩)], [], [1, 2]⟩] (by kernel_rfl) (by kernel_rfl) (fun id h => hG id (by simp [ks] at h ⊢ <;> omega)) ?_ ?_
  · exact okY rfl (LT_move rfl rfl) <| okY rfl (LT_call [.ptr 1 0] rfl rfl Try.call62 rfl (ct_copy1' hns rfl rfl)) <| okE
  change AW _ _ _ _ _ _
  refine aw_weak (weak_of [(0, .ptr 1 0), (1, .d (.int .u8 v))] [(1, some ⟨72, 2, [.ptr 1 0, .own 2 n 1]⟩), (2, some ⟨5, 1, (u8D ns).map X.d⟩)] [1, 2] (sE rfl (sE rfl sE0)) (sH rfl (sH rfl sH0)) (by simp only [Heap.ids, idsL_d, List.nil_append]; kernel_rfl)) ?_
  refine aw_seq ?_
  refine aw_region_seq [⟨.ptr 1 0, [], [], []⟩, ⟨.ptr 1 0, [], [], []⟩, ⟨.ptr 1 0, [], [], []⟩, ⟨.ptr 1 1, [], [], []⟩, ⟨.own 2 n 1, [], [], [1]⟩, ⟨.d (.int .u8 v), [], [], []⟩, ⟨.d (.sl 1 1 ([v].map (.int .u8))), [], [], []⟩, ⟨.own 3 (n + 1) 1, [(3, some ⟨5, 1, (u8D (ns ++ [v])).map X.d⟩), (2, none)], [3], [2]⟩, ⟨.ptr 1 0, [], [], []⟩, ⟨.ptr 1 1, [], [], []⟩, ⟨.tup [], [(1, some ⟨72, 2, [.ptr 1 0, .own 3 (n + 1) 1]⟩)], [], [1]⟩] (by kernel_rfl) (by kernel_rfl) (fun id h => hG id (by simp [ks] at h ⊢ <;> omega)) ?_ ?_
  · exact okY rfl (LT_move rfl rfl) <| okY rfl (LT_move rfl rfl) <| okY rfl (LT_nilCheck rfl rfl) <| okY rfl (LT_fieldAddr rfl rfl Try.underlying72 rfl inf70 (by decide) _ rfl) <| okY rfl (LT_load 1 rfl rfl rfl (List.Mem.head _) Try.underlying70 inf70 (by simp) (.inr ⟨rfl, rfl, rfl⟩)) <| okY rfl (LT_move rfl rfl) <| okY rfl (LT_buildSliceD [.d (.int .u8 v)] ([v].map (.int .u8)) rfl Try.underlying70 inf5 rfl rfl 1 rfl (by decide) (by decide) rfl rfl (by decide) rfl (by kernel_rfl) rfl) <| okY rfl (LT_append 3 rfl Try.underlying70 inf5 rfl rfl rfl (by decide) rfl rfl rfl (List.Mem.head _) (List.Mem.head _) rfl rfl (by show _ = n * 1; simp [u8D]; omega) (by omega) (by omega) (by show (_ + _) * 1 ≤ _; omega) ((u8D (ns ++ [v])).map X.d) (by simp [u8D]) (n + 1) rfl) <| okY rfl (LT_nilCheck rfl rfl) <| okY rfl (LT_fieldAddr rfl rfl Try.underlying72 rfl inf70 (by decide) _ rfl) <| okY rfl (LT_store (ob := ⟨72, 2, [.ptr 1 0, .own 2 n 1]⟩) (x := .own 3 (n + 1) 1) rfl rfl rfl (List.Mem.head _) inf70 rfl rfl rfl (by simp [X.cells]) _ rfl) <| okE
  change AW _ _ _ _ _ _
  refine aw_weak (weak_of [] [(1, some ⟨72, 2, [.ptr 1 0, .own 3 (n + 1) 1]⟩), (3, some ⟨5, 1, (u8D (ns ++ [v])).map X.d⟩)] [1, 3] sE0 (sH rfl (sH rfl sH0)) (by simp only [Heap.ids, idsL_d, List.nil_append]; kernel_rfl)) ?_
  refine aw_seq ?_
  refine aw_region_seq [⟨.d .nili, [], [], []⟩] (by kernel_rfl) (by kernel_rfl) (fun id h => hG id (by simp [ks] at h ⊢ <;> omega)) ?_ ?_
  · exact okY rfl (LT_assign rfl rfl) <| okE
  change AW _ _ _ _ _ _
  refine aw_weak (weak_of [(4, .d .nili)] [(1, some ⟨72, 2, [.ptr 1 0, .own 3 (n + 1) 1]⟩), (3, some ⟨5, 1, (u8D (ns ++ [v])).map X.d⟩)] [1, 3] (sE rfl sE0) (sH rfl (sH rfl sH0)) (by simp only [Heap.ids, idsL_d, List.nil_append]; kernel_rfl)) ?_
  refine aw_ret ?_
  refine ⟨?_, (sH rfl (sH rfl sH0))⟩
  refine fin1 (x := .d .nili) (.inl rfl) Try.results34 rfl ?_
  exact rfl

set_option maxRecDepth 100000 in
set_option maxHeartbeats 2000000 in
theorem ct_str (σ : Nat → Nat) {H : Heap} (n : Nat) (ns : List Int) (hns : ns ≠ []) (hn : ns.length = n) (hbig : n ≤ 1000000) (h0 : 0 < n) (hb : ∀ x ∈ ns, 0 ≤ x ∧ x < 256) (hH : subR σ [(1, some ⟨72, 2, [.ptr 1 0, .own 2 n 1]⟩), (2, some ⟨5, 1, (u8D ns).map X.d⟩)] H) (hinj : ((ks [(1, some ⟨72, 2, [.ptr 1 0, .own 2 n 1]⟩), (2, some ⟨5, 1, (u8D ns).map X.d⟩)] ++ newL [(1, some ⟨72, 2, [.ptr 1 0, .own 2 n 1]⟩), (2, some ⟨5, 1, (u8D ns).map X.d⟩)] []).map σ).Nodup) : CT Try.prog 35 ([.ptr 1 0].map (X.ren σ)) H ((ks [(1, some ⟨72, 2, [.ptr 1 0, .own 2 n 1]⟩), (2, some ⟨5, 1, (u8D ns).map X.d⟩)]).map σ) ((newL [(1, some ⟨72, 2, [.ptr 1 0, .own 2 n 1]⟩), (2, some ⟨5, 1, (u8D ns).map X.d⟩)] []).map σ) (updOf σ [(1, some ⟨72, 2, [.ptr 1 0, .own 2 n 1]⟩), (2, some ⟨5, 1, (u8D ns).map X.d⟩)] []) (X.ren σ (.d (.str (strD ns)))) := by
  refine CT_of (fn := Try.f35) (rl := .d (.str (strD ns))) σ [(1, some ⟨72, 2, [.ptr 1 0, .own 2 n 1]⟩), (2, some ⟨5, 1, (u8D ns).map X.d⟩)] [] Try.func35 rfl (by simp [Try.ntmps35]) hH hinj (by simp [Heap.ids, X.idsL, X.ids, idsL_d, ks]) (by kernel_rfl) (fun j o h1 h2 => by simp [ks] at h1) fun G hG => ?_
  rw [Try.ntmps35]
  change AW _ _ _ _ ⟨[(0, .ptr 1 0)], [(1, some ⟨72, 2, [.ptr 1 0, .own 2 n 1]⟩), (2, some ⟨5, 1, (u8D ns).map X.d⟩)], [1, 2]⟩ _
  refine aw_seq ?_
  refine aw_region_seq [⟨.d (.str (⟨#[]⟩)), [], [], []⟩] (by kernel_rfl) (by kernel_rfl) (fun id h => hG id (by simp [ks] at h ⊢ <;> omega)) ?_ ?_
  · exact okY rfl (LT_assign rfl rfl) <| okE
  change AW _ _ _ _ _ _
  refine aw_weak (weak_of [(0, .ptr 1 0)] [(1, some ⟨72, 2, [.ptr 1 0, .own 2 n 1]⟩), (2, some ⟨5, 1, (u8D ns).map X.d⟩)] [1, 2] (sE rfl sE0) (sH rfl (sH rfl sH0)) (by simp only [Heap.ids, idsL_d, List.nil_append]; kernel_rfl)) ?_
  refine aw_seq ?_
  refine aw_region_any rfl [⟨.ptr 1 0, [], [], []⟩, ⟨.ptr 1 0, [], [], []⟩, ⟨.ptr 1 1, [], [], []⟩, ⟨.own 2 n 1, [], [], [1]⟩, ⟨.ptr 2 0, [], [], [2]⟩, ⟨.ptr 1 0, [], [], []⟩, ⟨.ptr 1 0, [], [], []⟩, ⟨.ptr 1 1, [], [], []⟩, ⟨.own 2 n 1, [], [], [1]⟩, ⟨.d (.int .i64 ((n : Nat) : Int)), [], [], []⟩, ⟨.d (.str (strD ns)), [(2, none)], [], [2]⟩, ⟨.d (.str (strD ns)), [], [], []⟩] (by kernel_rfl) (by kernel_rfl) (by kernel_rfl) (fun id h => hG id (by simp [ks] at h ⊢ <;> omega)) ?_ ?_
  · exact okY rfl (LT_move rfl rfl) <| okY rfl (LT_nilCheck rfl rfl) <| okY rfl (LT_fieldAddr rfl rfl Try.underlying72 rfl inf70 (by decide) _ rfl) <| okY rfl (LT_load 1 rfl rfl rfl (List.Mem.head _) Try.underlying70 inf70 (by simp) (.inr ⟨rfl, rfl, rfl⟩)) <| okY rfl (LT_sliceDataO rfl rfl (by omega) rfl (List.Mem.head _) (by simpa [u8D] using hns)) <| okY rfl (LT_move rfl rfl) <| okY rfl (LT_nilCheck rfl rfl) <| okY rfl (LT_fieldAddr rfl rfl Try.underlying72 rfl inf70 (by decide) _ rfl) <| okY rfl (LT_load 1 rfl rfl rfl (List.Mem.head _) Try.underlying70 inf70 (by simp) (.inr ⟨rfl, rfl, rfl⟩)) <| okY rfl (LT_lenO rfl Try.underlying70 rfl) <| okY rfl (LT_unsafeStr ns rfl Try.underlying102 (by kernel_rfl) rfl rfl rfl (List.Mem.head _) rfl rfl hb hn (by omega) (by omega)) <| okY rfl (LT_assign rfl rfl) <| okE
  change AW _ _ _ _ _ _
  refine aw_weak (weak_of [(2, .d (.str (strD ns)))] [] [] (sE rfl sE0) sH0 (by kernel_rfl)) ?_
  refine aw_ret ?_
  refine ⟨?_, sH0⟩
  refine fin1 (x := .d (.str (strD ns))) (.inl rfl) Try.results35 rfl ?_
  exact rfl

end Go.Proofs.Ytphfbjeaklpddaa

/- strings.Builder: the contracts as their caller sees them. -/
namespace Go.Proofs.Ytphfbjeaklpddaa
open Go.RowKit

theorem ct_wb0' (B A : Nat) (hBA : B ≠ A) {H : Heap} (hB : look H B = some ⟨72, 2, [.d .nilp, .d (.sl 0 0 [])]⟩) (v : Int) :
    CT Try.prog 34 [.ptr B 0, .d (.int .u8 v)] H [B] [A] [(B, some ⟨72, 2, [.ptr B 0, .own A 1 1]⟩), (A, some ⟨5, 1, (u8D [v]).map X.d⟩)] (.d .nili) := by
  have h := ct_wb0 (fun j => if j = 1 then B else A) (H := H) v ⟨⟨rfl, hB⟩, trivial⟩ (show ([B, A] : List Nat).Nodup by simpa using hBA)
  exact h

theorem ct_wb1' (B A C : Nat) (hBA : B ≠ A) (hBC : B ≠ C) (hAC : A ≠ C) {n : Nat} {ns : List Int} (hns : ns ≠ []) (hn : ns.length = n) (hbig : n ≤ 1000000) {H : Heap} (hB : look H B = some ⟨72, 2, [.ptr B 0, .own A n 1]⟩) (hA : look H A = some ⟨5, 1, (u8D ns).map X.d⟩) (v : Int) :
    CT Try.prog 34 [.ptr B 0, .d (.int .u8 v)] H [B, A] [C] [(B, some ⟨72, 2, [.ptr B 0, .own C (n + 1) 1]⟩), (C, some ⟨5, 1, (u8D (ns ++ [v])).map X.d⟩), (A, none)] (.d .nili) := by
  have h := ct_wb1 (fun j => if j = 1 then B else if j = 2 then A else C) (H := H) n ns hns hn hbig v ⟨⟨rfl, hB⟩, ⟨rfl, by
    show look H A = _
    rw [hA]
    simp [Ob.ren, X.ren]⟩, trivial⟩ (show ([B, A, C] : List Nat).Nodup by simp [hBA, hBC, hAC])
  have e : updOf (fun j => if j = 1 then B else if j = 2 then A else C) [(1, some (⟨72, 2, [.ptr 1 0, .own 2 n 1]⟩ : Ob)), (2, some ⟨5, 1, (u8D ns).map X.d⟩)] [(1, some ⟨72, 2, [.ptr 1 0, .own 3 (n + 1) 1]⟩), (3, some ⟨5, 1, (u8D (ns ++ [v])).map X.d⟩)]
      = [(B, some ⟨72, 2, [.ptr B 0, .own C (n + 1) 1]⟩), (C, some ⟨5, 1, (u8D (ns ++ [v])).map X.d⟩), (A, none)] := by
    simp [updOf, renU, goneL, ks, Ob.ren, X.ren]
  rw [e] at h
  exact h

theorem ct_str' (B A : Nat) (hBA : B ≠ A) {n : Nat} {ns : List Int} (hns : ns ≠ []) (hn : ns.length = n) (hbig : n ≤ 1000000) (h0 : 0 < n) (hb : ∀ x ∈ ns, 0 ≤ x ∧ x < 256) {H : Heap} (hB : look H B = some ⟨72, 2, [.ptr B 0, .own A n 1]⟩) (hA : look H A = some ⟨5, 1, (u8D ns).map X.d⟩) :
    CT Try.prog 35 [.ptr B 0] H [B, A] [] [(B, none), (A, none)] (.d (.str (strD ns))) := by
  have h := ct_str (fun j => if j = 1 then B else A) (H := H) n ns hns hn hbig h0 hb ⟨⟨rfl, hB⟩, ⟨rfl, by
    show look H A = _
    rw [hA]
    simp [Ob.ren, X.ren]⟩, trivial⟩ (show ([B, A] : List Nat).Nodup by simpa using hBA)
  exact h

end Go.Proofs.Ytphfbjeaklpddaa

/- The laws of this family that speak of no program's functions: worlds that have only grown ('Below'), and regions that draw their order whose operations read below and make new memory alone. -/
namespace Go.Proofs.Ytphfbjeaklpddaa
open Go.RowKit

open Classical in
/-- x, if it has only grown out of w; else w -/
noncomputable def grow (w x : World) : World := if Below w.heap.size w x then x else w

theorem grow_below (w x : World) : Below w.heap.size w (grow w x) := by
  unfold grow; split
  · assumption
  · exact Below.refl _ _

theorem below_grow {w W : World} (h : Below w.heap.size w W) : ∃ x, W = grow w x := ⟨W, by unfold grow; rw [if_pos h]⟩

@[go_sem] theorem cell_grow (w x : World) (b o : Nat) (h : b < w.heap.size) : (grow w x).cell? ⟨b, o, none⟩ = w.cell? ⟨b, o, none⟩ :=
  (grow_below w x).cell (p := ⟨b, o, none⟩) h

@[go_sem] theorem frozen_grow (w x : World) (b o : Nat) (h : b < w.heap.size) : (grow w x).frozen? ⟨b, o, none⟩ = w.frozen? ⟨b, o, none⟩ :=
  (grow_below w x).frozen (p := ⟨b, o, none⟩) h

theorem grow_size (w x : World) : w.heap.size ≤ (grow w x).heap.size := (grow_below w x).size

/-- a callee's contract, met in a grown world -/
theorem calls_grow {P : Program} {f : FuncId} {args : Array Value} {w x : World} {v : Value}
    (h : Calls P f args (grow w x) fun e w' => e = .returned v ∧ Below (grow w x).heap.size (grow w x) w') :
    Calls P f args (grow w x) fun e w'' => e = .returned v ∧ ∃ y, w'' = grow w y :=
  h.mono fun _ _ ⟨he, hb⟩ => ⟨he, below_grow ((grow_below w x).trans (hb.mono (grow_size w x)))⟩

theorem calls_grow_same {P : Program} {f : FuncId} {args : Array Value} {w x : World} {v : Value}
    (h : Calls P f args (grow w x) fun e w' => e = .returned v ∧ grow w x = w') :
    Calls P f args (grow w x) fun e w'' => e = .returned v ∧ ∃ y, w'' = grow w y :=
  h.mono fun _ _ ⟨he, hb⟩ => ⟨he, x, hb.symm⟩

theorem wp_region_grow {P : Program} {id : Nat} {Q : Exit → Act → World → Prop} {a : Act} {w : World} {l : List Oper} (hm : P.follows .mixedOrders = true) (hB : Region.lexB .any l.toArray = true)
    (h : wpQuiet P l.toArray (fun w' => ∃ n, w' = grow w n) (fun a' => ∀ w', (∃ n, w' = grow w n) → Q .normal a' w') l a) : (Code.region id l.toArray true).wp P Q a w :=
  wp_region_quiet (C := fun w' => ∃ n, w' = grow w n) hm hB (below_grow ((Below.refl _ w).drew)) (by simpa using h)

theorem bcell {W w1 : World} (hb : Below W.heap.size W w1) : (∀ b o, b < W.heap.size → w1.cell? ⟨b, o, none⟩ = W.cell? ⟨b, o, none⟩) ∧ (∀ b o, b < W.heap.size → w1.frozen? ⟨b, o, none⟩ = W.frozen? ⟨b, o, none⟩) :=
  ⟨fun b o h => hb.cell (p := ⟨b, o, none⟩) h, fun b o h => hb.frozen (p := ⟨b, o, none⟩) h⟩

theorem after {W w1 : World} (hb : Below W.heap.size W w1) : (∀ b o, b < W.heap.size → w1.cell? ⟨b, o, none⟩ = W.cell? ⟨b, o, none⟩) ∧ (∀ b o, b < W.heap.size → w1.frozen? ⟨b, o, none⟩ = W.frozen? ⟨b, o, none⟩) ∧ W.heap.size ≤ w1.heap.size :=
  ⟨fun b o h => hb.cell (p := ⟨b, o, none⟩) h, fun b o h => hb.frozen (p := ⟨b, o, none⟩) h, hb.size⟩

theorem mul_bd {a b A B : Int} (a0 : 0 ≤ a) (aA : a ≤ A) (b0 : 0 ≤ b) (bB : b ≤ B) : 0 ≤ a * b ∧ a * b ≤ A * B :=
  ⟨Int.mul_nonneg a0 b0, Int.mul_le_mul aA bB b0 (by omega)⟩

/-- the slice's head a: the numbers xs lie there -/
def Ints (w : World) (a : Option Addr) (xs : List Int) : Prop :=
  xs ≠ [] → ∃ b off, a = some ⟨b, off, none⟩ ∧ ∀ i, i < xs.length → w.cell? ⟨b, off + i, none⟩ = some (.int .i64 (xs[i]?.getD 0))

theorem Ints.at {w : World} {a : Option Addr} {xs : List Int} (h : Ints w a xs) {k : Nat} (hk : k < xs.length) :
    ∃ b off x, a = some ⟨b, off, none⟩ ∧ w.cell? ⟨b, off + k, none⟩ = some (.int .i64 x) ∧ Hid (xs[k]? = some x) := by
  obtain ⟨b, off, e, g⟩ := h (by rintro rfl; simp at hk)
  exact ⟨b, off, xs[k], e, by have := g k hk; simpa [hk] using this, Lib.hid (by simp [hk])⟩

theorem Ints.below {w w' : World} {a : Option Addr} {xs : List Int} (h : Ints w a xs) (hb : Below w.heap.size w w') : Ints w' a xs := by
  intro hx
  obtain ⟨b, off, e, g⟩ := h hx
  refine ⟨b, off, e, fun i hi => ?_⟩
  have := g i hi
  rw [hb.cell (p := ⟨b, off + i, none⟩) (World.block_lt_of_cell? _ _ this)]
  exact this

def idxF (p : Int → Bool) (xs : List Int) : Int := if xs.any p then (xs.findIdx p : Int) else -1

theorem any_take_succ {p : Int → Bool} {xs : List Int} {k : Nat} {x : Int} (hx : xs[k]? = some x) (h : (xs.take k).any p = false) : (xs.take (k + 1)).any p = p x := by
  obtain ⟨hk, rfl⟩ := List.getElem?_eq_some_iff.1 hx
  rw [List.take_succ_eq_append_getElem hk, List.any_append, h]
  simp

theorem idxF_here {p : Int → Bool} {xs : List Int} {k : Nat} {x : Int} (hx : xs[k]? = some x) (h : (xs.take k).any p = false) (hp : p x = true) : idxF p xs = k := by
  obtain ⟨hk, rfl⟩ := List.getElem?_eq_some_iff.1 hx
  unfold idxF
  rw [if_pos (by rw [List.any_eq_true]; exact ⟨xs[k], List.getElem_mem hk, hp⟩)]
  have : xs.findIdx p = k := by
    rw [List.findIdx_eq hk]
    refine ⟨hp, fun j hj => ?_⟩
    have h1 : ∀ x ∈ xs.take k, ¬ p x = true := by
      intro x hx hpx
      have : (xs.take k).any p = true := by rw [List.any_eq_true]; exact ⟨x, hx, hpx⟩
      rw [h] at this; cases this
    have := h1 xs[j] (by rw [List.mem_take_iff_getElem]; exact ⟨j, by omega, rfl⟩)
    simpa using this
  rw [this]

theorem idxF_none (p : Int → Bool) (xs : List Int) (k : Nat) (hk : xs.length ≤ k) (h : (xs.take k).any p = false) : idxF p xs = -1 := by
  unfold idxF
  rw [List.take_of_length_le hk] at h
  rw [h]; rfl

theorem idxF_nonneg (p : Int → Bool) (xs : List Int) : decide (0 ≤ idxF p xs) = xs.any p := by
  unfold idxF
  cases xs.any p
  · rfl
  · simp

theorem idxF_bd (p : Int → Bool) (xs : List Int) : -1 ≤ idxF p xs := by
  unfold idxF; split <;> omega

/-! ### a map that has just been made, with integers for keys -/
theorem run_mapInsert_int {P : Program} {T K E : TypeId} {q : IntKind} (hT : P.underlying T = some (.map K E)) (hK : P.underlying K = some (.int q)) (w : World) (r : Nat) (hr : r = w.heap.size) (es : Array MapEntry) (clock : Nat) (n : Int) (v : Value)
    (hno : Instr.findNow (.int q) (.int q n) es.toList 0 = some none) :
    (Instr.mapUpdate T (.map (some r)) (.int q n) v).run P (w.alloc (.map es clock)) = .ok () (w.alloc (.map (es.push { key := .int q n, val := v, born := clock }) (clock + 1))) := by
  subst hr
  have hb : (w.alloc (.map es clock)).heap[w.heap.size]? = some (.map es clock) := (MapKept.heap_alloc w _).1
  have hc : (Instr.checkKey false 10000 K (.int q n)).run P (w.alloc (.map es clock)) = .ok () (w.alloc (.map es clock)) := MapKept.run_checkKey (k := .int q n) hK (by simp [MapKept.IsKey]) false 9999
  have hset : ({ w.alloc (.map es clock) with heap := (w.alloc (.map es clock)).heap.setIfInBounds w.heap.size (.map (es.push { key := .int q n, val := v, born := clock }) (clock + 1)) } : World) = w.alloc (.map (es.push { key := .int q n, val := v, born := clock }) (clock + 1)) := by
    show ({ w with heap := (w.heap.push _).setIfInBounds w.heap.size _ } : World) = { w with heap := w.heap.push _ }
    congr 1
    apply Array.ext
    · simp
    · intro i h1 h2
      have h3 : i < (w.heap.push (Obj.map es clock)).size := by simpa using h1
      rw [Array.getElem_setIfInBounds h3]
      split
      · rename_i h; subst h; simp
      · rename_i h
        have : i < w.heap.size := by simp at h1; omega
        rw [Array.getElem_push_lt this, Array.getElem_push_lt this]
  rw [← hset]
  simp [Instr.mapUpdate, run_underlying hT, MapKept.run_getObj_map hb, hc, MapKept.run_findKey hK hno, MapKept.run_setObj_map _ hb, Result.andThen]

theorem run_lookup_int {P : Program} {T K E : TypeId} {q : IntKind} (hT : P.underlying T = some (.map K E)) (hK : P.underlying K = some (.int q)) (w : World) (r : Nat) (es : Array MapEntry) (clock : Nat) (hg : w.heap[r]? = some (.map es clock)) (n : Int) (i : Nat) (v : Value)
    (hno : Instr.findNow (.int q) (.int q n) es.toList 0 = some (some (i, v))) :
    (Instr.lookup T (.map (some r)) (.int q n) false).run P w = .ok v w := by
  have hc : ∀ b, (Instr.checkKey b 10000 K (.int q n)).run P w = .ok () w := fun b => MapKept.run_checkKey (k := .int q n) hK (by simp [MapKept.IsKey]) b 9999
  simp [Instr.lookup, run_underlying hT, MapKept.run_getObj_map hg, hc, MapKept.run_findKey hK hno, Result.andThen]

theorem sameNow_int (q : IntKind) (a b : Int) : Instr.sameNow (.int q) (.int q a) (.int q b) = some (a == b) := by simp [Instr.sameNow]

/-- a literal map of two entries: its making, and its look-ups -/
theorem map2 {P : Program} {T K E : TypeId} {q : IntKind} (hT : P.underlying T = some (.map K E)) (hK : P.underlying K = some (.int q)) (w : World) (r : Nat) (hr : r = w.heap.size) (n1 n2 : Int) (v1 v2 : Value) (hne : n1 ≠ n2) :
    (Instr.mapUpdate T (.map (some r)) (.int q n1) v1).run P (w.alloc (.map #[] 0)) = .ok () (w.alloc (.map #[{ key := .int q n1, val := v1, born := 0 }] 1)) ∧
    (Instr.mapUpdate T (.map (some r)) (.int q n2) v2).run P (w.alloc (.map #[{ key := .int q n1, val := v1, born := 0 }] 1)) = .ok () (w.alloc (.map #[{ key := .int q n1, val := v1, born := 0 }, { key := .int q n2, val := v2, born := 1 }] 2)) ∧
    (Instr.lookup T (.map (some r)) (.int q n1) false).run P (w.alloc (.map #[{ key := .int q n1, val := v1, born := 0 }, { key := .int q n2, val := v2, born := 1 }] 2)) = .ok v1 (w.alloc (.map #[{ key := .int q n1, val := v1, born := 0 }, { key := .int q n2, val := v2, born := 1 }] 2)) ∧
    (Instr.lookup T (.map (some r)) (.int q n2) false).run P (w.alloc (.map #[{ key := .int q n1, val := v1, born := 0 }, { key := .int q n2, val := v2, born := 1 }] 2)) = .ok v2 (w.alloc (.map #[{ key := .int q n1, val := v1, born := 0 }, { key := .int q n2, val := v2, born := 1 }] 2)) := by
  have e1 : (n2 == n1) = false := by simp; omega
  have e2 : (n1 == n2) = false := by simp; omega
  refine ⟨run_mapInsert_int hT hK w r hr #[] 0 n1 v1 rfl, run_mapInsert_int hT hK w r hr #[_] 1 n2 v2 ?_, ?_, ?_⟩
  · simp [Instr.findNow, sameNow_int, e1]
  · refine run_lookup_int hT hK _ r _ 2 (by rw [hr]; exact (MapKept.heap_alloc w _).1) n1 0 v1 ?_
    simp [Instr.findNow, sameNow_int]
  · refine run_lookup_int hT hK _ r _ 2 (by rw [hr]; exact (MapKept.heap_alloc w _).1) n2 1 v2 ?_
    simp [Instr.findNow, sameNow_int, e1]

end Go.Proofs.Ytphfbjeaklpddaa

/- Layer 42, the plain law of layouts: where the samples of an image stand in its octets. No program in sight. -/
namespace Go.Proofs.Ytphfbjeaklpddaa

def inB (n lo hi : Int) : Bool := decide (lo ≤ n) && decide (n ≤ hi)


/-- the numbers of an image are right -/
structure Shp (W H C B P : Int) : Prop where
  w1 : 1 ≤ W
  w2 : W ≤ 64
  h1 : 1 ≤ H
  h2 : H ≤ 64
  c1 : 1 ≤ C
  c2 : C ≤ 4
  b : B = 8 ∨ B = 16
  p : P = 1 ∨ P = 2 ∨ P = 4 ∨ P = 8
  s : W * H * C ≤ 4096

def shpB (W H C B P : Int) : Bool :=
  inB W 1 64 && (inB H 1 64 && (inB C 1 4 && (decide (W * H * C ≤ 4096) && ((B == 8 || B == 16) && (P == 1 || P == 2 || P == 4 || P == 8)))))

theorem inB_iff (n lo hi : Int) : inB n lo hi = true ↔ lo ≤ n ∧ n ≤ hi := by simp [inB]
theorem inB_no (n lo hi : Int) : inB n lo hi = false ↔ ¬ (lo ≤ n ∧ n ≤ hi) := by rw [← inB_iff]; simp

theorem shpB_iff (W H C B P : Int) : shpB W H C B P = true ↔ Shp W H C B P := by
  simp only [shpB, Bool.and_eq_true, inB_iff, decide_eq_true_eq, Bool.or_eq_true, beq_iff_eq]
  constructor
  · rintro ⟨⟨a, b⟩, ⟨c, d⟩, ⟨e, f⟩, g, h, i⟩
    exact ⟨a, b, c, d, e, f, h, by omega, g⟩
  · rintro ⟨a, b, c, d, e, f, h, i, g⟩
    exact ⟨⟨a, b⟩, ⟨c, d⟩, ⟨e, f⟩, g, h, by omega⟩

def rowS (W C B : Int) (pl : Bool) : Int := if pl then W * B / 8 else W * C * B / 8

def strS (W C B : Int) (pl : Bool) (P : Int) : Int := (rowS W C B pl + P - 1) / P * P

def rowsS (H C : Int) (pl : Bool) : Int := if pl then H * C else H


theorem rowS_bd (W H C B P : Int) (pl : Bool) (h : Shp W H C B P) : 1 ≤ rowS W C B pl ∧ rowS W C B pl ≤ 512 := by
  obtain ⟨w1, w2, h1, h2, c1, c2, hb, hp, _⟩ := h
  unfold rowS
  have hc : C = 1 ∨ C = 2 ∨ C = 3 ∨ C = 4 := by omega
  rcases hc with rfl | rfl | rfl | rfl <;> rcases hb with rfl | rfl <;> cases pl <;> simp <;> omega

theorem strS_bd (W H C B P : Int) (pl : Bool) (h : Shp W H C B P) :
    rowS W C B pl ≤ strS W C B pl P ∧ strS W C B pl P ≤ 520 ∧ strS W C B pl P % P = 0 ∧ (∀ n, rowS W C B pl ≤ n → n ≤ strS W C B pl P → n % P = 0 → n = strS W C B pl P) := by
  obtain ⟨r1, r2⟩ := rowS_bd W H C B P pl h
  have hp := h.p
  unfold strS
  generalize rowS W C B pl = r at *
  rcases hp with rfl | rfl | rfl | rfl <;> (refine ⟨by omega, by omega, by omega, fun n => by omega⟩)


def plcS (W H C B : Int) (pl : Bool) (P : Int) (x y c : Int) : Int :=
  if pl then (c * H + y) * strS W C B pl P + x * B / 8 else y * strS W C B pl P + (x * C + c) * B / 8


theorem rowS_alt (W H C B P : Int) (pl : Bool) (h : Shp W H C B P) : rowS W C B pl = if pl then W * B / 8 else W * B / 8 * C := by
  obtain ⟨w1, w2, h1, h2, c1, c2, hb, hp, _⟩ := h
  unfold rowS
  have hc : C = 1 ∨ C = 2 ∨ C = 3 ∨ C = 4 := by omega
  rcases hc with rfl | rfl | rfl | rfl <;> rcases hb with rfl | rfl <;> cases pl <;> simp <;> omega


/-! ### octets -/
theorem dm (b q k : Int) (h0 : 0 ≤ k) (hb : k < b) : (q * b + k) / b = q ∧ (q * b + k) % b = k := by
  have hb0 : 0 < b := by omega
  constructor
  · rw [Int.add_comm, Int.add_mul_ediv_right _ _ (by omega), Int.ediv_eq_zero_of_lt h0 hb]; omega
  · rw [Int.add_comm, Int.add_mul_emod_self_right, Int.emod_eq_of_lt h0 hb]

structure Lay where
  W : Int
  H : Int
  C : Int
  B : Int
  pl : Bool
  P : Int

namespace Lay
variable (L : Lay)
def ok : Prop := Shp L.W L.H L.C L.B L.P
def row : Int := rowS L.W L.C L.B L.pl
def str : Int := strS L.W L.C L.B L.pl L.P
def rows : Int := rowsS L.H L.C L.pl
def len : Int := L.rows * L.str
def plc (x y c : Int) : Int := plcS L.W L.H L.C L.B L.pl L.P x y c
def n : Int := L.B / 8
def dom (x y c : Int) : Prop := (0 ≤ x ∧ x < L.W) ∧ (0 ≤ y ∧ y < L.H) ∧ (0 ≤ c ∧ c < L.C)
/-- the coordinates of a position -/
def cx (p : Int) : Int := if L.pl then p % L.str / L.n else p % L.str / L.n / L.C
def cy (p : Int) : Int := if L.pl then p / L.str % L.H else p / L.str
def cc (p : Int) : Int := if L.pl then p / L.str / L.H else p % L.str / L.n % L.C
def cd (p : Int) : Int := p % L.str % L.n
def pad (p : Int) : Prop := L.row ≤ p % L.str
instance (p : Int) : Decidable (L.pad p) := inferInstanceAs (Decidable (_ ≤ _))
/-- the octet number d of a value -/
def byt (d v : Int) : Int := if L.n = 2 ∧ d = 0 then v / 256 % 256 else v % 256
def octF (f : Int → Int → Int → Int) (p : Int) : Int :=
  if L.pad p then 0 else L.byt (L.cd p) (f (L.cx p) (L.cy p) (L.cc p))

theorem n_cases (h : L.ok) : (L.n = 1 ∧ L.B = 8) ∨ (L.n = 2 ∧ L.B = 16) := by
  have := h.b
  unfold n
  rcases this with e | e <;> rw [e] <;> simp

theorem plc_eq (h : L.ok) (x y c : Int) : L.plc x y c = if L.pl then (c * L.H + y) * L.str + x * L.n else y * L.str + (x * L.C + c) * L.n := by
  unfold plc plcS str
  rcases L.n_cases h with ⟨hn, hB⟩ | ⟨hn, hB⟩ <;> rw [hn, hB] <;> split <;> congr 1 <;> omega

theorem row_eq (h : L.ok) : L.row = if L.pl then L.W * L.n else L.W * L.C * L.n := by
  unfold row rowS
  rcases L.n_cases h with ⟨hn, hB⟩ | ⟨hn, hB⟩ <;> rw [hn, hB] <;> split <;> omega

theorem row_str (h : L.ok) : 1 ≤ L.row ∧ L.row ≤ L.str ∧ L.str ≤ 520 := by
  have h1 := rowS_bd L.W L.H L.C L.B L.P L.pl h
  have h2 := strS_bd L.W L.H L.C L.B L.P L.pl h
  exact ⟨h1.1, h2.1, h2.2.1⟩

theorem mul_lt {a b A : Int} (h : a < A) (hb : 0 < b) : a * b + b ≤ A * b := by
  have : (a + 1) * b ≤ A * b := Int.mul_le_mul_of_nonneg_right (by omega) (by omega)
  rw [Int.add_mul] at this; omega

/-- the place of an octet of a sample, and back -/
theorem coords (h : L.ok) {x y c d : Int} (hd : L.dom x y c) (d0 : 0 ≤ d) (dn : d < L.n) :
    0 ≤ L.plc x y c + d ∧ L.plc x y c + d < L.len ∧ ¬ L.pad (L.plc x y c + d) ∧ L.cx (L.plc x y c + d) = x ∧ L.cy (L.plc x y c + d) = y ∧ L.cc (L.plc x y c + d) = c ∧ L.cd (L.plc x y c + d) = d := by
  obtain ⟨⟨x0, xW⟩, ⟨y0, yH⟩, ⟨c0, cC⟩⟩ := hd
  obtain ⟨r1, r2, r3⟩ := L.row_str h
  have hn : 0 < L.n := by rcases L.n_cases h with ⟨e, _⟩ | ⟨e, _⟩ <;> omega
  have hH : 0 < L.H := by omega
  have hC : 0 < L.C := by omega
  rw [L.plc_eq h]
  have hr := L.row_eq h
  unfold len rows rowsS cx cy cc cd pad
  by_cases hp : L.pl = true
  · simp only [hp, if_true] at hr ⊢
    have e1 := mul_lt xW hn
    have x1 : 0 ≤ x * L.n := Int.mul_nonneg x0 (by omega)
    have k0 : 0 ≤ x * L.n + d := by omega
    have k1 : x * L.n + d < L.str := by omega
    obtain ⟨a1, a2⟩ := dm L.str (c * L.H + y) (x * L.n + d) k0 k1
    obtain ⟨a3, a4⟩ := dm L.n x d d0 dn
    obtain ⟨a5, a6⟩ := dm L.H c y y0 yH
    have q0 : 0 ≤ c * L.H + y := by have := Int.mul_nonneg c0 (by omega : 0 ≤ L.H); omega
    have q1 : c * L.H + y < L.H * L.C := by have := mul_lt cC hH; rw [Int.mul_comm L.H]; omega
    have e2 := mul_lt q1 (by omega : 0 < L.str)
    have q2 : 0 ≤ (c * L.H + y) * L.str := Int.mul_nonneg q0 (by omega)
    rw [Int.add_assoc]
    rw [a1, a2, a3, a4, a5, a6]
    refine ⟨by omega, by omega, by omega, rfl, rfl, rfl, rfl⟩
  · simp only [hp, if_false, Bool.false_eq_true] at hr ⊢
    have e0 := mul_lt xW hC
    have x1 : 0 ≤ x * L.C := Int.mul_nonneg x0 (by omega)
    have s1 : x * L.C + c < L.W * L.C := by omega
    have e1 := mul_lt s1 hn
    have s0 : 0 ≤ (x * L.C + c) * L.n := Int.mul_nonneg (by omega) (by omega)
    have k0 : 0 ≤ (x * L.C + c) * L.n + d := by omega
    have k1 : (x * L.C + c) * L.n + d < L.str := by omega
    obtain ⟨a1, a2⟩ := dm L.str y ((x * L.C + c) * L.n + d) k0 k1
    obtain ⟨a3, a4⟩ := dm L.n (x * L.C + c) d d0 dn
    obtain ⟨a5, a6⟩ := dm L.C x c c0 cC
    have e2 := mul_lt yH (by omega : 0 < L.str)
    have q2 : 0 ≤ y * L.str := Int.mul_nonneg y0 (by omega)
    rw [Int.add_assoc]
    rw [a1, a2, a3, a4, a5, a6]
    refine ⟨by omega, by omega, by omega, rfl, rfl, rfl, rfl⟩

theorem back (h : L.ok) {p : Int} (p0 : 0 ≤ p) (p1 : p < L.len) (hp : ¬ L.pad p) :
    L.dom (L.cx p) (L.cy p) (L.cc p) ∧ 0 ≤ L.cd p ∧ L.cd p < L.n ∧ L.plc (L.cx p) (L.cy p) (L.cc p) + L.cd p = p := by
  obtain ⟨r1, r2, r3⟩ := L.row_str h
  have hn : 0 < L.n := by rcases L.n_cases h with ⟨e, _⟩ | ⟨e, _⟩ <;> omega
  have hs : 0 < L.str := by omega
  have hH : 0 < L.H := by have := h.h1; omega
  have hC : 0 < L.C := by have := h.c1; omega
  have e1 := Int.mul_ediv_add_emod p L.str
  have e2 := Int.mul_ediv_add_emod (p % L.str) L.n
  have k0 := Int.emod_nonneg p (by omega : L.str ≠ 0)
  have d0 := Int.emod_nonneg (p % L.str) (by omega : L.n ≠ 0)
  have d1 := Int.emod_lt_of_pos (p % L.str) hn
  have r0 : 0 ≤ p / L.str := Int.ediv_nonneg p0 (by omega)
  have s0 : 0 ≤ p % L.str / L.n := Int.ediv_nonneg k0 (by omega)
  have rr : p / L.str < L.rows := Int.ediv_lt_of_lt_mul hs p1
  unfold pad at hp
  have hr := L.row_eq h
  rw [L.plc_eq h]
  unfold dom
  unfold rows rowsS at rr
  unfold cx cy cc cd
  by_cases hpl : L.pl = true
  · simp only [hpl, if_true] at hr rr ⊢
    have e3 := Int.mul_ediv_add_emod (p / L.str) L.H
    have y0 := Int.emod_nonneg (p / L.str) (by omega : L.H ≠ 0)
    have y1 := Int.emod_lt_of_pos (p / L.str) hH
    have c0 : 0 ≤ p / L.str / L.H := Int.ediv_nonneg r0 (by omega)
    have c1 : p / L.str / L.H < L.C := Int.ediv_lt_of_lt_mul hH (by rw [Int.mul_comm]; exact rr)
    have x1 : p % L.str / L.n < L.W := Int.ediv_lt_of_lt_mul hn (by omega)
    refine ⟨⟨⟨s0, x1⟩, ⟨y0, y1⟩, ⟨c0, c1⟩⟩, d0, d1, ?_⟩
    rw [Int.mul_comm (p / L.str / L.H), e3, Int.mul_comm (p / L.str), Int.mul_comm (p % L.str / L.n), Int.add_assoc, e2, e1]
  · simp only [hpl, if_false, Bool.false_eq_true] at hr rr ⊢
    have e3 := Int.mul_ediv_add_emod (p % L.str / L.n) L.C
    have c0 := Int.emod_nonneg (p % L.str / L.n) (by omega : L.C ≠ 0)
    have c1 := Int.emod_lt_of_pos (p % L.str / L.n) hC
    have x0 : 0 ≤ p % L.str / L.n / L.C := Int.ediv_nonneg s0 (by omega)
    have x1 : p % L.str / L.n / L.C < L.W := Int.ediv_lt_of_lt_mul hC (Int.ediv_lt_of_lt_mul hn (by omega))
    refine ⟨⟨⟨x0, x1⟩, ⟨r0, rr⟩, ⟨c0, c1⟩⟩, d0, d1, ?_⟩
    rw [Int.mul_comm (p % L.str / L.n / L.C), e3, Int.mul_comm (p / L.str), Int.mul_comm (p % L.str / L.n), Int.add_assoc, e2, e1]

/-- one sample changed -/
def upd (f : Int → Int → Int → Int) (x y c v : Int) : Int → Int → Int → Int := fun i j k => if i = x ∧ j = y ∧ k = c then v else f i j k

theorem octF_here (h : L.ok) {x y c d : Int} (hd : L.dom x y c) (d0 : 0 ≤ d) (dn : d < L.n) (f : Int → Int → Int → Int) :
    L.octF f (L.plc x y c + d) = L.byt d (f x y c) := by
  obtain ⟨_, _, h3, h4, h5, h6, h7⟩ := L.coords h hd d0 dn
  unfold octF
  rw [if_neg h3, h4, h5, h6, h7]

theorem octF_upd (h : L.ok) {x y c v : Int} (hd : L.dom x y c) (f : Int → Int → Int → Int) {p : Int} (p0 : 0 ≤ p) (p1 : p < L.len) :
    L.octF (upd f x y c v) p = if 0 ≤ p - L.plc x y c ∧ p - L.plc x y c < L.n then L.byt (p - L.plc x y c) v else L.octF f p := by
  split
  · rename_i hh
    have := L.octF_here h hd hh.1 hh.2 (upd f x y c v)
    rw [show L.plc x y c + (p - L.plc x y c) = p by omega] at this
    rw [this]
    simp [upd]
  · rename_i hh
    unfold octF
    split
    · rfl
    · rename_i hpad
      obtain ⟨hd', e0, en, ep⟩ := L.back h p0 p1 hpad
      have : ¬ (L.cx p = x ∧ L.cy p = y ∧ L.cc p = c) := by
        rintro ⟨rfl, rfl, rfl⟩
        apply hh
        constructor <;> omega
      unfold upd
      rw [if_neg this]

theorem byt_range (d v : Int) : 0 ≤ L.byt d v ∧ L.byt d v < 256 := by
  unfold byt; split <;> omega

theorem octF_range (f : Int → Int → Int → Int) (p : Int) : 0 ≤ L.octF f p ∧ L.octF f p < 256 := by
  unfold octF; split
  · omega
  · exact L.byt_range _ _

/-- functions that agree on the image give the same octets -/
theorem octF_congr (h : L.ok) {f g : Int → Int → Int → Int} (hfg : ∀ x y c, L.dom x y c → f x y c = g x y c) {p : Int} (p0 : 0 ≤ p) (p1 : p < L.len) : L.octF f p = L.octF g p := by
  unfold octF
  split
  · rfl
  · rename_i hpad
    rw [hfg _ _ _ (L.back h p0 p1 hpad).1]

/-- reading a sample -/
def smp (o : Int → Int) (x y c : Int) : Int := if L.B = 8 then o (L.plc x y c) else 256 * o (L.plc x y c) + o (L.plc x y c + 1)

theorem smp_octF (h : L.ok) {x y c : Int} (hd : L.dom x y c) (f : Int → Int → Int → Int) (v0 : 0 ≤ f x y c) (v1 : f x y c < if L.B = 8 then 256 else 65536) : L.smp (L.octF f) x y c = f x y c := by
  unfold smp
  rcases L.n_cases h with ⟨hn, hB⟩ | ⟨hn, hB⟩
  · have := L.octF_here h hd (d := 0) (by omega) (by omega) f
    rw [Int.add_zero] at this
    rw [if_pos hB, this]
    rw [if_pos hB] at v1
    unfold byt
    rw [if_neg (by omega)]; omega
  · have e0 := L.octF_here h hd (d := 0) (by omega) (by omega) f
    have e1 := L.octF_here h hd (d := 1) (by omega) (by omega) f
    rw [Int.add_zero] at e0
    rw [if_neg (by omega), e0, e1]
    rw [if_neg (by omega)] at v1
    unfold byt
    rw [if_pos ⟨hn, rfl⟩, if_neg (by omega)]; omega

theorem smp_bd (h : L.ok) (o : Int → Int) (ho : ∀ p, 0 ≤ o p ∧ o p < 256) (x y c : Int) : 0 ≤ L.smp o x y c ∧ L.smp o x y c < if L.B = 8 then 256 else 65536 := by
  unfold smp
  have h1 := ho (L.plc x y c)
  have h2 := ho (L.plc x y c + 1)
  rcases L.n_cases h with ⟨hn, hB⟩ | ⟨hn, hB⟩
  · rw [if_pos hB, if_pos hB]; omega
  · rw [if_neg (by omega), if_neg (by omega)]; omega

/-- octets with zeros in the padding are the octets of their samples -/
theorem octF_smp (h : L.ok) (o : Int → Int) (ho : ∀ p, 0 ≤ o p ∧ o p < 256) (hz : ∀ p, 0 ≤ p → p < L.len → L.pad p → o p = 0) {p : Int} (p0 : 0 ≤ p) (p1 : p < L.len) : L.octF (L.smp o) p = o p := by
  unfold octF
  split
  · rename_i hp; exact (hz p p0 p1 hp).symm
  · rename_i hp
    obtain ⟨hd, d0, dn, e⟩ := L.back h p0 p1 hp
    generalize L.cx p = x at *
    generalize L.cy p = y at *
    generalize L.cc p = c at *
    generalize L.cd p = d at *
    have h1 := ho (L.plc x y c)
    have h2 := ho (L.plc x y c + 1)
    unfold smp byt
    rcases L.n_cases h with ⟨hn, hB⟩ | ⟨hn, hB⟩
    · have : d = 0 := by omega
      subst this
      rw [if_neg (by omega), if_pos hB, ← e, Int.add_zero]; omega
    · have : d = 0 ∨ d = 1 := by omega
      rw [if_neg (by omega : ¬ L.B = 8)]
      rcases this with rfl | rfl
      · rw [if_pos ⟨hn, rfl⟩, ← e, Int.add_zero]; omega
      · rw [if_neg (by omega), ← e]; omega

theorem rows_bd (h : L.ok) : 1 ≤ L.rows ∧ L.rows ≤ 256 := by
  unfold rows rowsS
  have h1 := h.h1; have h2 := h.h2; have c1 := h.c1; have c2 := h.c2
  split
  · constructor
    · have := Int.mul_le_mul (a := 1) (b := 1) h1 c1 (by omega) (by omega); omega
    · have := Int.mul_le_mul h2 c2 (by omega) (by omega); omega
  · omega

theorem len_bd (h : L.ok) : 1 ≤ L.len ∧ L.len ≤ 133120 := by
  obtain ⟨r1, r2, r3⟩ := L.row_str h
  have hr := L.rows_bd h
  unfold len
  constructor
  · have := Int.mul_le_mul (a := 1) (b := 1) hr.1 (show 1 ≤ L.str by omega) (by omega) (by omega); omega
  · have := Int.mul_le_mul hr.2 r3 (by omega) (by omega); omega

end Lay
end Go.Proofs.Ytphfbjeaklpddaa

/- Layer 42, the reference's small functions: within, shaped, row, stride, rows, place. -/
namespace Go.Proofs.Ytphfbjeaklpddaa
open Go.RowKit

set_option maxHeartbeats 400000 in
theorem within_any (n lo hi : Int) (w : World) :
    Calls Try.prog 67 #[.int .i64 n, .int .i64 lo, .int .i64 hi] w fun e w' => e = .returned (.bool (inB n lo hi)) ∧ w = w' := by
  unfold inB
  by_cases h1 : lo ≤ n
  · go_enter Try.func67, Try.ntmps67
    go_wp2
    go_ret
    exact ⟨by simp [h1], rfl⟩
  · go_enter Try.func67, Try.ntmps67
    go_wp2
    go_ret
    exact ⟨by rw [decide_eq_false (by omega : ¬ lo ≤ n)]; rfl, rfl⟩

abbrev imgV (W H C B : Int) (pl : Bool) (P : Int) (O : ByteArray) : Value :=
  .agg #[.int .i64 W, .int .i64 H, .int .i64 C, .int .i64 B, .bool pl, .int .i64 P, .string O]

set_option maxHeartbeats 400000 in
theorem rrow_any (W H C B : Int) (pl : Bool) (P : Int) (O : ByteArray) (w : World) (h : Shp W H C B P) :
    Calls Try.prog 66 #[imgV W H C B pl P O] w fun e w' => e = .returned (.int .i64 (rowS W C B pl)) ∧ Below w.heap.size w w' := by
  obtain ⟨w1, w2, h1, h2, c1, c2, hb, hp, _⟩ := h
  obtain ⟨b1, b2⟩ : 8 ≤ B ∧ B ≤ 16 := by omega
  obtain ⟨m1, m2⟩ := mul_bd (a := W) (b := B) (A := 64) (B := 16) (by omega) w2 (by omega) b2
  obtain ⟨n1, n2⟩ := mul_bd (a := W) (b := C) (A := 64) (B := 4) (by omega) w2 (by omega) c2
  obtain ⟨k1, k2⟩ := mul_bd (a := W * C) (b := B) (A := 256) (B := 16) (by omega) n2 (by omega) b2
  clear hb hp
  cases pl
  all_goals
    go_enter Try.func66, Try.ntmps66
    go_wp2
    go_ret
    exact ⟨rfl, (Below.refl _ _).alloc (Nat.le_refl _) _⟩

set_option maxHeartbeats 400000 in
theorem rrows_any (W H C B : Int) (pl : Bool) (P : Int) (O : ByteArray) (w : World) (h : Shp W H C B P) :
    Calls Try.prog 45 #[imgV W H C B pl P O] w fun e w' => e = .returned (.int .i64 (rowsS H C pl)) ∧ Below w.heap.size w w' := by
  obtain ⟨w1, w2, h1, h2, c1, c2, hb, hp, _⟩ := h
  obtain ⟨m1, m2⟩ := mul_bd (a := H) (b := C) (A := 64) (B := 4) (by omega) h2 (by omega) c2
  clear hb hp
  cases pl
  all_goals
    go_enter Try.func45, Try.ntmps45
    go_wp2
    go_ret
    exact ⟨rfl, (Below.refl _ _).alloc (Nat.le_refl _) _⟩

set_option maxHeartbeats 400000 in
theorem rstride_any (W H C B : Int) (pl : Bool) (P : Int) (O : ByteArray) (w : World) (h : Shp W H C B P) :
    Calls Try.prog 40 #[imgV W H C B pl P O] w fun e w' => e = .returned (.int .i64 (strS W C B pl P)) ∧ Below w.heap.size w w' := by
  obtain ⟨r1, r2⟩ := rowS_bd W H C B P pl h
  obtain ⟨s1, s2, s3, s4⟩ := strS_bd W H C B P pl h
  have hp := h.p
  have p1 : 1 ≤ P := by omega
  have p2 : P ≤ 8 := by omega
  have S4 := Lib.hid s4
  have S3 := Lib.hid s3
  clear s3 s4 hp
  go_enter Try.func40, Try.ntmps40
  go_wp2_with (go_at_call 66; refine (rrow_any _ _ _ _ _ _ _ _ h).mono ?_; rintro e w1 ⟨rfl, hb⟩)
  obtain ⟨hc, hf⟩ := bcell hb
  go_loop [3] (fun n => ∃ k : Int, rowS W C B pl ≤ k ∧ k ≤ strS W C B pl P ∧ n = .int .i64 k) (fun n => (strS W C B pl P - intOf n).toNat)
  case atStart => exact ⟨_, by omega, by omega, rfl⟩
  case round =>
    obtain ⟨k, k1, k2, rfl⟩ := hrel
    by_cases hk : k % P = 0
    · have hk' : k = strS W C B pl P := S4.out k k1 k2 hk
      have HK := Lib.hid hk'
      clear hk'
      go_wp2
      go_ret
      exact ⟨by rw [HK.out]; rfl, ((Below.refl _ _).alloc (Nat.le_refl _) _).trans (hb.mono (by simp))⟩
    · have : k < strS W C B pl P := by
        by_cases e : k = strS W C B pl P
        · exact absurd (e ▸ S3.out) hk
        · omega
      go_wp2
      go_round
      case rel => exact ⟨k + 1, by omega, by omega, by go_num⟩
      case measure => simp [intOf]; omega


set_option maxHeartbeats 400000 in
theorem rplace_any (W H C B : Int) (pl : Bool) (P : Int) (O : ByteArray) (x y c : Int) (w : World) (h : Shp W H C B P) (x0 : 0 ≤ x) (xW : x < W) (y0 : 0 ≤ y) (yH : y < H) (c0 : 0 ≤ c) (cC : c < C) :
    Calls Try.prog 72 #[imgV W H C B pl P O, .int .i64 x, .int .i64 y, .int .i64 c] w fun e w' => e = .returned (.int .i64 (plcS W H C B pl P x y c)) ∧ Below w.heap.size w w' := by
  obtain ⟨r1, r2⟩ := rowS_bd W H C B P pl h
  obtain ⟨s1, s2, s3, s4⟩ := strS_bd W H C B P pl h
  have h' := h
  obtain ⟨w1, w2, h1, h2, c1, c2, hb, hp, _⟩ := h'
  have b1 : 0 ≤ B ∧ B ≤ 16 := by omega
  obtain ⟨a1, a2⟩ := mul_bd (a := c) (b := H) (A := 4) (B := 64) c0 (by omega) (by omega) h2
  obtain ⟨a3, a4⟩ := mul_bd (a := c * H + y) (b := strS W C B pl P) (A := 320) (B := 520) (by omega) (by omega) (by omega) s2
  obtain ⟨a5, a6⟩ := mul_bd (a := x) (b := B) (A := 64) (B := 16) x0 (by omega) (by omega) b1.2
  obtain ⟨a7, a8⟩ := mul_bd (a := y) (b := strS W C B pl P) (A := 64) (B := 520) y0 (by omega) (by omega) s2
  obtain ⟨a9, a10⟩ := mul_bd (a := x) (b := C) (A := 64) (B := 4) x0 (by omega) (by omega) c2
  obtain ⟨a11, a12⟩ := mul_bd (a := x * C + c) (b := B) (A := 320) (B := 16) (by omega) (by omega) (by omega) b1.2
  clear hb hp s3 s4
  cases pl
  all_goals
    go_enter Try.func72, Try.ntmps72
    go_wp2
    refine wp_region_grow (by kernel_rfl) (by kernel_rfl) ?_
    repeat (go_big_quiet_step ((go_at_call 40; exact calls_grow (rstride_any _ _ _ _ _ _ _ _ h))))
    refine wpQuiet_nil ?_
    intro _ hw'
    obtain ⟨nq, hw''⟩ := hw'
    subst hw''
    go_wp2
    go_ret
    exact ⟨rfl, ((Below.refl _ _).alloc (Nat.le_refl _) _).trans ((grow_below _ _).mono (by simp))⟩

end Go.Proofs.Ytphfbjeaklpddaa

/- Layer 42, the program's small functions: between and what it calls, shaped. -/
namespace Go.Proofs.Ytphfbjeaklpddaa
open Go.RowKit

set_option maxHeartbeats 400000 in
theorem btw1_any (x lo hi : Int) (a b : Addr) (w : World) (ha : w.cell? a = some (.int .i64 lo)) (hb : w.cell? b = some (.int .i64 hi)) :
    Calls Try.prog 74 #[.int .i64 x, .pointer (some a), .pointer (some b)] w fun e w' => e = .returned (.bool (!inB x lo hi)) ∧ w = w' := by
  unfold inB
  by_cases h1 : lo ≤ x
  · have e1 : decide (x < lo) = false := decide_eq_false (by omega)
    have e2 : decide (lo ≤ x) = true := decide_eq_true (by omega)
    have H1 := Lib.hid e2
    clear e2
    go_enter Try.func74, Try.ntmps74
    go_wp2
    go_ret
    exact ⟨by rw [H1.out]; (cases h : decide (x ≤ hi) <;> simp at h ⊢ <;> omega), rfl⟩
  · have e1 : decide (x < lo) = true := decide_eq_true (by omega)
    have e2 : decide (lo ≤ x) = false := decide_eq_false (by omega)
    have H1 := Lib.hid e2
    clear e2
    go_enter Try.func74, Try.ntmps74
    go_wp2
    go_ret
    exact ⟨by rw [H1.out]; rfl, rfl⟩

set_option maxHeartbeats 400000 in
theorem indexFunc_btw (xs : List Int) (a : Option Addr) (cap : Nat) (lo hi : Int) (p q : Addr) (w : World) (hx : Ints w a xs) (hl : xs.length ≤ maxLen) (ha : w.cell? p = some (.int .i64 lo)) (hb : w.cell? q = some (.int .i64 hi)) :
    Calls Try.prog 79 #[.slice a xs.length cap, .func (.func 74) #[] #[.pointer (some p), .pointer (some q)]] w fun e w' => e = .returned (.int .i64 (idxF (fun x => !inB x lo hi) xs)) ∧ w = w' := by
  unfold maxLen at hl
  go_enter Try.func79, Try.ntmps79
  go_wp2
  go_loop [8] (fun i => ∃ k : Nat, k ≤ xs.length ∧ i = .int .i64 k ∧ (xs.take k).any (fun x => !inB x lo hi) = false) (fun i => xs.length - (intOf i).toNat)
  case atStart => exact ⟨0, Nat.zero_le _, rfl, rfl⟩
  case round =>
    obtain ⟨k, hk, rfl, ht⟩ := hrel
    have HT := Lib.hid ht
    clear ht
    by_cases hlt : k < xs.length
    · obtain ⟨b, off, x, rfl, hc, HX⟩ := hx.at hlt
      have hs := any_take_succ (p := fun x => !inB x lo hi) HX.out HT.out
      cases hp : (!inB x lo hi)
      · have HS := Lib.hid (hs.trans hp)
        have HP := Lib.hid hp
        clear hs hp
        go_wp2_with (go_at_call 74; refine (btw1_any _ lo hi p q _ ha hb).mono ?_; rintro e w1 ⟨rfl, rfl⟩; rw [HP.out])
        go_round
        case rel => exact ⟨k + 1, by omega, by go_num, HS.out⟩
        case measure => simp [intOf]; omega
      · have HS := Lib.hid (idxF_here (p := fun x => !inB x lo hi) HX.out HT.out hp)
        have HP := Lib.hid hp
        clear hs hp
        go_wp2_with (go_at_call 74; refine (btw1_any _ lo hi p q _ ha hb).mono ?_; rintro e w1 ⟨rfl, rfl⟩; rw [HP.out])
        go_ret
        exact ⟨by rw [HS.out]; rfl, rfl⟩
    · have HS := Lib.hid (idxF_none (fun x => !inB x lo hi) xs k (by omega) HT.out)
      go_wp2
      go_ret
      exact ⟨by rw [HS.out]; rfl, rfl⟩

theorem any_not_all (p : Int → Bool) (xs : List Int) : (!xs.any (fun x => !p x)) = xs.all p := by
  induction xs with
  | nil => rfl
  | cons x xs ih => simp only [List.any_cons, List.all_cons, Bool.not_or, Bool.not_not, ih]

set_option maxHeartbeats 400000 in
theorem containsFunc_btw (xs : List Int) (a : Option Addr) (cap : Nat) (lo hi : Int) (p q : Addr) (w : World) (hx : Ints w a xs) (hl : xs.length ≤ maxLen) (ha : w.cell? p = some (.int .i64 lo)) (hb : w.cell? q = some (.int .i64 hi)) :
    Calls Try.prog 73 #[.slice a xs.length cap, .func (.func 74) #[] #[.pointer (some p), .pointer (some q)]] w fun e w' => e = .returned (.bool (xs.any (fun x => !inB x lo hi))) ∧ w = w' := by
  have h0 := idxF_nonneg (fun x => !inB x lo hi) xs
  have H0 := Lib.hid h0
  clear h0
  go_enter Try.func73, Try.ntmps73
  go_wp2_with (go_at_call 79; refine (indexFunc_btw _ _ _ lo hi p q _ hx hl ha hb).mono ?_; rintro e w1 ⟨rfl, rfl⟩)
  go_ret
  exact ⟨by rw [← H0.out]; rfl, rfl⟩

set_option maxHeartbeats 400000 in
theorem between_any (lo hi : Int) (xs : List Int) (a : Option Addr) (cap : Nat) (w : World) (hx : Ints w a xs) (hl : xs.length ≤ maxLen) :
    Calls Try.prog 50 #[.int .i64 lo, .int .i64 hi, .slice a xs.length cap] w fun e w' => e = .returned (.bool (xs.all (fun x => inB x lo hi))) ∧ Below w.heap.size w w' := by
  have h0 := any_not_all (fun x => inB x lo hi) xs
  have H0 := Lib.hid h0
  clear h0
  have hb2 : Below w.heap.size w ((w.alloc (.cells #[.int .i64 lo] 3)).alloc (.cells #[.int .i64 hi] 3)) := ((Below.refl _ _).alloc (Nat.le_refl _) _).alloc (by simp) _
  go_enter Try.func50, Try.ntmps50
  go_wp2_with (go_at_call 73; refine (containsFunc_btw xs a cap lo hi _ _ _ (hx.below hb2) hl ?_ ?_).mono ?_; go_simp; go_simp; rintro e w1 ⟨rfl, rfl⟩)
  go_ret
  exact ⟨by rw [← H0.out]; rfl, hb2⟩

set_option maxHeartbeats 400000 in
theorem index_any (xs : List Int) (a : Option Addr) (cap : Nat) (v : Int) (w : World) (hx : Ints w a xs) (hl : xs.length ≤ maxLen) :
    Calls Try.prog 80 #[.slice a xs.length cap, .int .i64 v] w fun e w' => e = .returned (.int .i64 (idxF (fun x => v == x) xs)) ∧ w = w' := by
  unfold maxLen at hl
  go_enter Try.func80, Try.ntmps80
  go_wp2
  go_loop [8] (fun i => ∃ k : Nat, k ≤ xs.length ∧ i = .int .i64 k ∧ (xs.take k).any (fun x => v == x) = false) (fun i => xs.length - (intOf i).toNat)
  case atStart => exact ⟨0, Nat.zero_le _, rfl, rfl⟩
  case round =>
    obtain ⟨k, hk, rfl, ht⟩ := hrel
    have HT := Lib.hid ht
    clear ht
    by_cases hlt : k < xs.length
    · obtain ⟨b, off, x, rfl, hc, HX⟩ := hx.at hlt
      have hs := any_take_succ (p := fun x => v == x) HX.out HT.out
      cases hp : (v == x)
      · have HS := Lib.hid (hs.trans hp)
        clear hs
        go_wp2
        go_round
        case rel => exact ⟨k + 1, by omega, by go_num, HS.out⟩
        case measure => simp [intOf]; omega
      · have HS := Lib.hid (idxF_here (p := fun x => v == x) HX.out HT.out hp)
        clear hs
        go_wp2
        go_ret
        exact ⟨by rw [HS.out]; rfl, rfl⟩
    · have HS := Lib.hid (idxF_none (fun x => v == x) xs k (by omega) HT.out)
      go_wp2
      go_ret
      exact ⟨by rw [HS.out]; rfl, rfl⟩

set_option maxHeartbeats 400000 in
theorem contains_any (xs : List Int) (a : Option Addr) (cap : Nat) (v : Int) (w : World) (hx : Ints w a xs) (hl : xs.length ≤ maxLen) :
    Calls Try.prog 78 #[.slice a xs.length cap, .int .i64 v] w fun e w' => e = .returned (.bool (xs.any (fun x => v == x))) ∧ w = w' := by
  have h0 := idxF_nonneg (fun x => v == x) xs
  have H0 := Lib.hid h0
  clear h0
  go_enter Try.func78, Try.ntmps78
  go_wp2_with (go_at_call 80; refine (index_any _ _ _ _ _ hx hl).mono ?_; rintro e w1 ⟨rfl, rfl⟩)
  go_ret
  exact ⟨by rw [← H0.out]; rfl, rfl⟩

end Go.Proofs.Ytphfbjeaklpddaa

/- Layer 42: shaped, the reference's and the program's. -/
namespace Go.Proofs.Ytphfbjeaklpddaa
open Go.RowKit

set_option maxHeartbeats 2000000 in
theorem rshaped_any (W H C B : Int) (pl : Bool) (P : Int) (O : ByteArray) (w : World) :
    Calls Try.prog 43 #[imgV W H C B pl P O] w fun e w' => e = .returned (.bool (shpB W H C B P)) ∧ Below w.heap.size w w' := by
  have hb0 : ∀ o, Below w.heap.size w (w.alloc o) := fun o => (Below.refl _ _).alloc (Nat.le_refl _) _
  cases hW : inB W 1 64
  · go_enter Try.func43, Try.ntmps43
    go_wp2_with (go_at_call 67; refine (within_any _ _ _ _).mono ?_; rintro e w1 ⟨rfl, rfl⟩)
    go_ret
    exact ⟨by simp [shpB, hW], hb0 _⟩
  cases hH : inB H 1 64
  · go_enter Try.func43, Try.ntmps43
    go_wp2_with (go_at_call 67; refine (within_any _ _ _ _).mono ?_; rintro e w1 ⟨rfl, rfl⟩)
    go_ret
    exact ⟨by simp [shpB, hW, hH], hb0 _⟩
  cases hC : inB C 1 4
  · go_enter Try.func43, Try.ntmps43
    go_wp2_with (go_at_call 67; refine (within_any _ _ _ _).mono ?_; rintro e w1 ⟨rfl, rfl⟩)
    go_ret
    exact ⟨by simp [shpB, hW, hH, hC], hb0 _⟩
  obtain ⟨w1, w2⟩ := (inB_iff _ _ _).1 hW
  obtain ⟨h1, h2⟩ := (inB_iff _ _ _).1 hH
  obtain ⟨c1, c2⟩ := (inB_iff _ _ _).1 hC
  obtain ⟨m1, m2⟩ := mul_bd (a := W) (b := H) (A := 64) (B := 64) (by omega) w2 (by omega) h2
  obtain ⟨k1, k2⟩ := mul_bd (a := W * H) (b := C) (A := 4096) (B := 4) (by omega) m2 (by omega) c2
  cases hs : decide (W * H * C ≤ 4096)
  · have hs' : 4096 < W * H * C := by simpa using hs
    have HS := Lib.hid hs
    clear hs
    go_enter Try.func43, Try.ntmps43
    go_wp2_with (go_at_call 67; refine (within_any _ _ _ _).mono ?_; rintro e w1 ⟨rfl, rfl⟩)
    go_ret
    exact ⟨by simp [shpB, hW, hH, hC, HS.out], hb0 _⟩
  · have hs' : W * H * C ≤ 4096 := by simpa using hs
    have HS := Lib.hid hs
    clear hs
    go_enter Try.func43, Try.ntmps43
    go_wp2_with (go_at_call 67; refine (within_any _ _ _ _).mono ?_; rintro e w1 ⟨rfl, rfl⟩)
    all_goals
      go_ret
      exact ⟨by simp [shpB, hW, hH, hC, HS.out, *], hb0 _⟩

theorem ints_mk {w : World} {b off : Nat} {xs : List Int} (h : ∀ i, i < xs.length → w.cell? ⟨b, off + i, none⟩ = some (.int .i64 (xs[i]?.getD 0))) : Ints w (some ⟨b, off, none⟩) xs :=
  fun _ => ⟨b, off, rfl, h⟩

theorem between1 (lo hi x : Int) (b cap : Nat) (w : World) (h0 : w.cell? ⟨b, 0, none⟩ = some (.int .i64 x)) :
    Calls Try.prog 50 #[.int .i64 lo, .int .i64 hi, .slice (some ⟨b, 0, none⟩) 1 cap] w fun e w' => e = .returned (.bool (inB x lo hi)) ∧ Below w.heap.size w w' := by
  have := between_any lo hi [x] (some ⟨b, 0, none⟩) cap w (ints_mk (fun i hi => by
    have : i = 0 := by simpa using hi
    subst this; simpa using h0)) (by unfold maxLen; simp)
  simpa using this

theorem between2 (lo hi x y : Int) (b cap : Nat) (w : World) (h0 : w.cell? ⟨b, 0, none⟩ = some (.int .i64 x)) (h1 : w.cell? ⟨b, 1, none⟩ = some (.int .i64 y)) :
    Calls Try.prog 50 #[.int .i64 lo, .int .i64 hi, .slice (some ⟨b, 0, none⟩) 2 cap] w fun e w' => e = .returned (.bool (inB x lo hi && inB y lo hi)) ∧ Below w.heap.size w w' := by
  have := between_any lo hi [x, y] (some ⟨b, 0, none⟩) cap w (ints_mk (fun i hi => by
    have : i = 0 ∨ i = 1 := by simp at hi; omega
    rcases this with rfl | rfl
    · simpa using h0
    · simpa using h1)) (by unfold maxLen; simp)
  simpa using this

theorem contains4 (x y z t v : Int) (b cap : Nat) (w : World) (h0 : w.cell? ⟨b, 0, none⟩ = some (.int .i64 x)) (h1 : w.cell? ⟨b, 1, none⟩ = some (.int .i64 y)) (h2 : w.cell? ⟨b, 2, none⟩ = some (.int .i64 z)) (h3 : w.cell? ⟨b, 3, none⟩ = some (.int .i64 t)) :
    Calls Try.prog 78 #[.slice (some ⟨b, 0, none⟩) 4 cap, .int .i64 v] w fun e w' => e = .returned (.bool (v == x || v == y || v == z || v == t)) ∧ w = w' := by
  have := contains_any [x, y, z, t] (some ⟨b, 0, none⟩) cap v w (ints_mk (fun i hi => by
    have : i = 0 ∨ i = 1 ∨ i = 2 ∨ i = 3 := by simp at hi; omega
    rcases this with rfl | rfl | rfl | rfl
    · simpa using h0
    · simpa using h1
    · simpa using h2
    · simpa using h3)) (by unfold maxLen; simp)
  simpa [Bool.or_assoc] using this

end Go.Proofs.Ytphfbjeaklpddaa
