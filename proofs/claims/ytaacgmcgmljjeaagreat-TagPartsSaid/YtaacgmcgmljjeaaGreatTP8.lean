/-
  Joined texts: The evaluator: append and copy. · The evaluator: copy, conversions. · The evaluator: maps, type assertions. · The evaluator: every operation. · The evaluator: frames, and regions that are run in the text's order.
-/
import Derived.Test.YtaacgmcgmljjeaaGreatTP7
import Derived.Laws.Append
import Derived.Laws.BytesString
import Derived.Lib.ConvBytes
import Derived.AtR
import Derived.Defers
set_option linter.unusedSimpArgs false
set_option linter.unusedVariables false

/- The evaluator: append and copy. -/
namespace Go.Proofs.YtaacgmcgmljjeaaGreat
namespace Ev
open Go.RowKit

section
variable {P : Program} {T : Tab}

theorem notInt_ok (hT : TabOk P T) {u : TypeId} (h : notInt (undT T u) = true) : ∃ d, P.underlying u = some d ∧ ∀ k, d ≠ .int k := by
  unfold notInt at h
  split at h
  · cases h
  · rename_i d hn hd
    exact ⟨d, undT_ok hT hd, fun k e => hn k (by rw [e])⟩
  · cases h

theorem isInt_not {d : TypeDesc} (h : ∀ k, d ≠ .int k) : (match d with | .int _ => true | _ => false) = false := by
  cases d <;> first | rfl | (rename_i k; exact absurd rfl (h k))

/-- append where there is room -/
theorem run_app_room {ats : Array TypeId} {ty t u el : TypeId} {d : TypeDesc} {i : TypeInfo} {s b off n cap k : Nat} {x : Value} {vs : List Value} {w w' : World} (h0 : ats[0]? = some t) (h1 : ats[1]? = some u) (ht : P.underlying t = some (.slice el)) (hu : P.underlying u = some d) (hd : ∀ k, d ≠ .int k)
    (hi : P.info? el = some i) (hs : i.size = s) (hl : (Builtin.lenOf x).run P w = .ok k w) (hf : (Builtin.firstCells s k x).run P w = .ok vs.toArray w) (hr : n + k ≤ cap) (hst : (storeCells ⟨b, off + n * s, none⟩ vs).run P w = .ok () w') :
    (Builtin.append_ ats ty #[.slice (some ⟨b, off, none⟩) n cap, x]).run P w = .ok (.slice (some ⟨b, off, none⟩) (n + k) cap) w' := by
  simp only [Builtin.append_, h0, h1, Sem.run_bind, run_underlying ht, run_underlying hu, Result.andThen_ok, List.getElem?_toArray, List.getElem?_cons_zero, List.getElem?_cons_succ, Sem.run_pure, run_size hi, Bool.false_eq_true, if_false, hl, hs]
  simp [hf, hr, addr_add, hst]

theorem run_app_nil {ats : Array TypeId} {ty t u el : TypeId} {d : TypeDesc} {i : TypeInfo} {s : Nat} {x : Value} {w : World} (h0 : ats[0]? = some t) (h1 : ats[1]? = some u) (ht : P.underlying t = some (.slice el)) (hu : P.underlying u = some d) (hd : ∀ k, d ≠ .int k)
    (hi : P.info? el = some i) (hs : i.size = s) {vs : Array Value} (hl : (Builtin.lenOf x).run P w = .ok 0 w) (hf : (Builtin.firstCells s 0 x).run P w = .ok vs w) :
    (Builtin.append_ ats ty #[.slice none 0 0, x]).run P w = .ok (.slice none 0 0) w := by
  simp only [Builtin.append_, h0, h1, Sem.run_bind, run_underlying ht, run_underlying hu, Result.andThen_ok, List.getElem?_toArray, List.getElem?_cons_zero, List.getElem?_cons_succ, Sem.run_pure, run_size hi, Bool.false_eq_true, if_false, hl, hs]
  simp [hf]

/-- append into new memory -/
theorem run_app_grow {ats : Array TypeId} {ty t u el : TypeId} {d : TypeDesc} {i : TypeInfo} {z : Value} {s n cap k : Nat} {base : Option Addr} {x : Value} {os vs : List Value} {w : World} (h0 : ats[0]? = some t) (h1 : ats[1]? = some u) (ht : P.underlying t = some (.slice el)) (hu : P.underlying u = some d) (hd : ∀ k, d ≠ .int k)
    (hi : P.info? el = some i) (hs : i.size = s) (hz : i.zero = some z) (hb : i.bytes ≤ 100000) (hl : (Builtin.lenOf x).run P w = .ok k w) (ho : (Builtin.firstCells s n (.slice base n cap)).run P w.drew = .ok os.toArray w.drew) (hf : (Builtin.firstCells s k x).run P w.drew = .ok vs.toArray w.drew) (hr : cap < n + k) (hm : n + k ≤ 1000000) :
    (Builtin.append_ ats ty #[.slice base n cap, x]).run P w = .ok (.slice (some ⟨w.heap.size, 0, none⟩) (n + k) (grownCap w (n + k) cap el))
      (w.drew.alloc (.cells (os.toArray ++ vs.toArray ++ Builtin.zeroCells z.cells (grownCap w (n + k) cap el - (n + k))) el)) := by
  have hn : ¬ (n + k ≤ cap) := by omega
  have h63 : ¬ (9223372036854775807 < ((n : Int) + (k : Int))) := by omega
  have h48 : ¬ (281474976710656 < Builtin.nextslicecap (n + k) cap * i.bytes) := by
    have h1 := nextslicecap_le hr
    have h2 : Builtin.nextslicecap (n + k) cap * i.bytes ≤ 2000000 * 100000 := Nat.mul_le_mul (by omega) hb
    omega
  simp only [Builtin.append_, h0, h1, Sem.run_bind, run_underlying ht, run_underlying hu, Result.andThen_ok, List.getElem?_toArray, List.getElem?_cons_zero, List.getElem?_cons_succ, Sem.run_pure, run_size hi, Bool.false_eq_true, if_false, hl, hs]
  simp [typeInfo, zeroValue, hi, hz, hn, h63, h48, Question.forced, hf, ho, run_askRoom, newRow, grownCap]
  congr 2
  apply Array.ext'
  simp [List.append_assoc]

/-! ### new names -/
theorem Sat.heap {L : Nat} {ρ : Rho} {m : Mem} {w w2 : World} (h : Sat L ρ m w) (hw : w2.heap = w.heap) : Sat L ρ m w2 :=
  ⟨h.fresh, h.inj, fun id o ho => let ⟨b, c, h1, h2⟩ := h.obj id o ho; ⟨b, c, h1, h2.mono (Ext.refl _) (by rw [hw])⟩⟩
theorem Trans.drew (ρ : Rho) (m : Mem) (w : World) : Trans ρ ρ m m w w.drew := ⟨Ext.refl ρ, fun _ h => .inl h, fun _ h => .inl h, Nat.le_refl _, rfl, rfl, rfl, Nat.le_refl _, fun _ _ _ => rfl⟩

/-- a block whose name is given up -/
theorem Sat.drop {L : Nat} {ρ : Rho} {m : Mem} {w : World} (h : Sat L ρ m w) (id : Nat) : Sat L ρ (m.drop id) w := by
  have hl : ∀ j, look (m.drop id) j ≠ none → look m j ≠ none := fun j hj => by
    rw [look_drop] at hj
    split at hj
    · exact absurd rfl hj
    · exact hj
  refine ⟨h.fresh, fun i j b c c' h1 h2 => h.inj i j b c c' (hl i h1) (hl j h2), fun j o hj => ?_⟩
  rw [look_drop] at hj
  split at hj
  · cases hj
  · exact h.obj j o hj
theorem Trans.drop (ρ : Rho) (m : Mem) (w : World) (id : Nat) : Trans ρ ρ m (m.drop id) w w := ⟨Ext.refl ρ, fun _ h => .inl h, fun x hx => .inl (let ⟨j, c, h1, h2⟩ := hx; ⟨j, c, fun e => h1 (by rw [look_drop, e]; split <;> rfl), h2⟩), Nat.le_refl _, rfl, rfl, rfl, Nat.le_refl _, fun _ _ _ => rfl⟩

/-- a new block of cells -/
theorem add_cells {L : Nat} {ρ : Rho} {m : Mem} {w : World} (hs : Sat L ρ m w) (hL : m.n < L) {t : TypeId} {e c z : Nat} {tr : Tr V} {cs : Array Value} (hc : cs.size = c * e) (hz : z ≤ cs.size) (hlt : ∀ i x, tr.get i = some x → i < z) (hv : ∀ i x, tr.get i = some x → ∃ v, cs[i]? = some v ∧ v.oneCell' = true ∧ RV ρ v x) :
    ∃ ρ', ρ' m.n = some (w.heap.size, c) ∧ Sat L ρ' (m.add (.cells t e z tr)) (w.alloc (.cells cs t)) ∧ Trans ρ ρ' m (m.add (.cells t e z tr)) w (w.alloc (.cells cs t)) := by
  have hf := hs.fresh m.n (Nat.le_refl _) hL
  exact ⟨upd ρ m.n (w.heap.size, c), upd_same _ _ _, hs.add hL c ⟨cs, by simp, hc, hz, hlt, fun i x hx => let ⟨v, a, b, d⟩ := hv i x hx; ⟨v, a, b, d.ext (ext_upd hf _)⟩⟩⟩

/-- a block takes a new name -/
theorem Sat.take {L : Nat} {ρ : Rho} {m : Mem} {w w' : World} (h : Sat L ρ m w) (hL : m.n < L) {id b c : Nat} {o o' : O} (hl : look m id = some o) (hr : ρ id = some (b, c)) (hs : w'.heap.size = w.heap.size) (hb : ∀ b', b' ≠ b → w'.heap[b']? = w.heap[b']?)
    (hos : w'.os = w.os) (ht : w'.tape = w.tape) (hou : w'.output = w.output) (ho : RO (upd ρ m.n (b, c)) w' b c o') : Sat L (upd ρ m.n (b, c)) ((m.add o').drop id) w' ∧ Trans ρ (upd ρ m.n (b, c)) m ((m.add o').drop id) w w' := by
  have hf := h.fresh m.n (Nat.le_refl _) hL
  have he := ext_upd hf (b, c)
  have hne : id ≠ m.n := fun e => by rw [e, hf] at hr; cases hr
  have hlk : ∀ j, look ((m.add o').drop id) j ≠ none → (j = m.n ∨ (j ≠ m.n ∧ j ≠ id ∧ look m j ≠ none)) := fun j hj => by
    rw [look_drop] at hj
    split at hj
    · exact absurd rfl hj
    · rename_i h1
      rw [look_add] at hj
      split at hj
      · rename_i h2; exact .inl h2
      · rename_i h2; exact .inr ⟨h2, h1, hj⟩
  have hother : ∀ j cj, j ≠ id → look m j ≠ none → ρ j = some (b, cj) → False := fun j cj h1 h2 h3 => h1 (h.inj j id b cj c h2 (by rw [hl]; simp) h3 hr)
  refine ⟨⟨fun j h1 h2 => ?_, fun i j b1 c1 c2 h1 h2 h3 h4 => ?_, fun j oj hj => ?_⟩, ⟨he, fun j hj => ?_, fun x hx => ?_, Nat.le_succ _, hos, ht, hou, Nat.le_of_eq hs.symm, fun x hx hnx => hb x ?_⟩⟩
  · have : m.n + 1 ≤ j := h1
    rw [upd_other _ _ (by omega)]
    exact h.fresh j (by omega) h2
  · rcases hlk i h1 with rfl | ⟨e1, f1, g1⟩ <;> rcases hlk j h2 with rfl | ⟨e2, f2, g2⟩
    · rfl
    · rw [upd_same] at h3; cases h3
      rw [upd_other _ _ e2] at h4
      exact (hother j _ f2 g2 h4).elim
    · rw [upd_same] at h4; cases h4
      rw [upd_other _ _ e1] at h3
      exact (hother i _ f1 g1 h3).elim
    · rw [upd_other _ _ e1] at h3
      rw [upd_other _ _ e2] at h4
      exact h.inj i j b1 c1 c2 g1 g2 h3 h4
  · rw [look_drop] at hj
    split at hj
    · cases hj
    · rename_i hji
      rw [look_add] at hj
      split at hj
      · rename_i e; subst e; cases hj
        exact ⟨b, c, upd_same _ _ _, ho⟩
      · obtain ⟨b1, c1, h3, h4⟩ := h.obj j oj hj
        refine ⟨b1, c1, he _ _ h3, h4.mono he (hb b1 fun e => ?_)⟩
        subst e
        exact hother j c1 hji (by rw [hj]; simp) h3
  · by_cases e : j = m.n
    · exact .inr ⟨by omega, by show j < m.n + 1; omega⟩
    · rw [upd_other _ _ e] at hj; exact .inl hj
  · obtain ⟨i, ci, h1, h2⟩ := hx
    rcases hlk i h1 with rfl | ⟨e1, f1, g1⟩
    · rw [upd_same] at h2; cases h2; exact .inl ⟨id, c, by rw [hl]; simp, hr⟩
    · rw [upd_other _ _ e1] at h2; exact .inl ⟨i, ci, g1, h2⟩
  · rintro rfl
    exact hnx ⟨id, c, by rw [hl]; simp, hr⟩

/-! ### append -/
theorem moreC_known {e n z : Nat} {new : List V} {c c' : Tr V} (h : moreC e n z new c = some c') (hb : ∀ i x, c.get i = some x → i < z) : ∀ i x, c'.get i = some x → (i < n * e ∧ c.get i = some x) ∨ (n * e ≤ i ∧ new[i - n * e]? = some x) := by
  intro i x hx
  unfold moreC at h
  split at h
  · rename_i hz
    have hz : z ≤ n * e := Nat.le_of_ble_eq_true hz
    cases h
    rw [putD_get] at hx
    by_cases hj : Nat.mul n e ≤ i ∧ i < Nat.mul n e + new.length
    · rw [if_pos hj] at hx; exact .inr ⟨hj.1, hx⟩
    · rw [if_neg hj] at hx
      have := hb i x hx
      exact .inl ⟨by omega, hx⟩
  · cases ht : takeD c (Nat.mul n e) 0 with
    | none => rw [ht] at h; cases h
    | some l =>
      rw [ht] at h
      cases h
      obtain ⟨t1, t2⟩ := takeD_spec _ _ _ _ ht
      rw [putD_get] at hx
      by_cases hj : 0 ≤ i ∧ i < 0 + (l ++ new).length
      · rw [if_pos hj, Nat.sub_zero] at hx
        have t1 : l.length = n * e := t1
        by_cases hi : i < l.length
        · rw [List.getElem?_append_left hi] at hx
          have := t2 i x hx
          rw [Nat.zero_add] at this
          exact .inl ⟨by omega, this⟩
        · rw [List.getElem?_append_right (by omega), t1] at hx
          exact .inr ⟨by omega, hx⟩
      · rw [if_neg hj] at hx; cases hx

/-- what is known of a row behind which something was put -/
theorem tr_more {ρ : Rho} {e n k z : Nat} {new : List V} {c c' : Tr V} {A cs : Array Value} {vs : List Value} (h : moreC e n z new c = some c') (hb : ∀ i x, c.get i = some x → i < z) (hk : ∀ i x, c.get i = some x → ∃ v, cs[i]? = some v ∧ v.oneCell' = true ∧ RV ρ v x)
    (hv : RL ρ vs new) (h1 : ∀ v, v ∈ vs → v.oneCell' = true) (hl : vs.length = k * e) (ha : ∀ i, i < n * e → A[i]? = cs[i]?) (hn : ∀ j, j < vs.length → A[n * e + j]? = vs[j]?) :
    (∀ i x, c'.get i = some x → i < (n + k) * e) ∧ ∀ i x, c'.get i = some x → ∃ v, A[i]? = some v ∧ v.oneCell' = true ∧ RV ρ v x := by
  have hm : (n + k) * e = n * e + k * e := Nat.add_mul _ _ _
  refine ⟨fun i x hx => ?_, fun i x hx => ?_⟩
  · rcases moreC_known h hb i x hx with ⟨h1, _⟩ | ⟨h1, h2⟩
    · omega
    · have := (List.getElem?_eq_some_iff.1 h2).1
      have := hv.1
      omega
  · rcases moreC_known h hb i x hx with ⟨g1, g2⟩ | ⟨g1, g2⟩
    · rw [ha i g1]; exact hk i x g2
    · obtain ⟨v, q1, q2⟩ := hv.get g2
      have hlt := (List.getElem?_eq_some_iff.1 q1).1
      have := hn (i - n * e) hlt
      rw [show n * e + (i - n * e) = i by omega] at this
      exact ⟨v, by rw [this, q1], h1 v (List.mem_of_getElem? q1), q2⟩

theorem zeroCells_size (z : Array Value) (k : Nat) : (Builtin.zeroCells z k).size = k * z.size := by simp [Builtin.zeroCells]

/-- what the laws of append below need of the operation -/
structure App (P : Program) (ats : Array TypeId) (el : TypeId) (s : Nat) (sz : Value) (x : Value) (k : Nat) (vs : List Value) (w : World) : Prop where
  room : ∀ ty b off n cap w', n + k ≤ cap → (storeCells ⟨b, off + n * s, none⟩ vs).run P w = .ok () w' → (Builtin.append_ ats ty #[.slice (some ⟨b, off, none⟩) n cap, x]).run P w = .ok (.slice (some ⟨b, off, none⟩) (n + k) cap) w'
  grow : ∀ ty base n cap (os : List Value), cap < n + k → n + k ≤ 1000000 → (Builtin.firstCells s n (.slice base n cap)).run P w.drew = .ok os.toArray w.drew →
    (Builtin.append_ ats ty #[.slice base n cap, x]).run P w = .ok (.slice (some ⟨w.heap.size, 0, none⟩) (n + k) (grownCap w (n + k) cap el))
      (w.drew.alloc (.cells (os.toArray ++ vs.toArray ++ Builtin.zeroCells sz.cells (grownCap w (n + k) cap el - (n + k))) el))
  zs : sz.cells.size = s

/-- the new memory of an append -/
theorem grow_run {L : Nat} {ρ : Rho} {m : Mem} {w : World} (hs : Sat L ρ m w) (hL : m.n < L) {el : TypeId} {s n k cap z : Nat} {sz : Value} {os vs : List Value} {tr : Tr V} (hzs : sz.cells.size = s) (hos : os.length = n * s) (hvs : vs.length = k * s) (hz : z ≤ (n + k) * s) (hlt : ∀ i x, tr.get i = some x → i < z)
    (hk : ∀ i x, tr.get i = some x → ∃ v, (os ++ vs)[i]? = some v ∧ v.oneCell' = true ∧ RV ρ v x) :
    ∃ ρ', RV ρ' (.slice (some ⟨w.heap.size, 0, none⟩) (n + k) (grownCap w (n + k) cap el)) (.own m.n (n + k)) ∧
      Sat L ρ' (m.add (.cells el s z tr)) (w.drew.alloc (.cells (os.toArray ++ vs.toArray ++ Builtin.zeroCells sz.cells (grownCap w (n + k) cap el - (n + k))) el)) ∧
      Trans ρ ρ' m (m.add (.cells el s z tr)) w (w.drew.alloc (.cells (os.toArray ++ vs.toArray ++ Builtin.zeroCells sz.cells (grownCap w (n + k) cap el - (n + k))) el)) := by
  have hge := grownCap_ge w (n + k) cap el
  have hm : (n + k) * s = n * s + k * s := Nat.add_mul _ _ _
  have hsz : (os.toArray ++ vs.toArray ++ Builtin.zeroCells sz.cells (grownCap w (n + k) cap el - (n + k))).size = grownCap w (n + k) cap el * s := by
    rw [Array.size_append, Array.size_append, List.size_toArray, List.size_toArray, zeroCells_size, hzs, hos, hvs, ← Nat.add_mul, ← Nat.add_mul]
    congr 1
    omega
  obtain ⟨ρ', k1, k2, k3⟩ := add_cells (t := el) (e := s) (z := z) (hs.heap (w2 := w.drew) rfl) hL hsz (by rw [hsz]; exact Nat.le_trans hz (Nat.mul_le_mul_right _ hge)) hlt fun i x hx => by
    obtain ⟨v, a, b, c⟩ := hk i x hx
    refine ⟨v, ?_, b, c⟩
    have := (List.getElem?_eq_some_iff.1 a).1
    rw [Array.getElem?_append_left (by simpa using this)]
    simpa using a
  exact ⟨ρ', .own _ _ _ _ k1 hge, k2, (Trans.drew ρ m w).trans k3⟩

theorem growE_run {el : TypeId} {s k n : Nat} {new old : List V} {m m' : Mem} {r : V} (h : growE el s k new m n old = .ok r m') {L : Nat} {ρ : Rho} {w : World} (hs : Sat L ρ m w) (hL : m'.n ≤ L) {ats : Array TypeId} {sz x : Value} {vs os : List Value} (ha : App P ats el s sz x k vs w)
    (hv : RL ρ vs new) (h1 : ∀ u, u ∈ vs → u.oneCell' = true) (hvs : vs.length = k * s) (ho : RL ρ os old) (h2 : ∀ u, u ∈ os → u.oneCell' = true) (hos : os.length = n * s) {base : Option Addr} {cap : Nat} (hc : cap < n + k) (hf : (Builtin.firstCells s n (.slice base n cap)).run P w.drew = .ok os.toArray w.drew) :
    ∃ v w' ρ', (∀ ty, (Builtin.append_ ats ty #[.slice base n cap, x]).run P w = .ok v w') ∧ RV ρ' v r ∧ Sat L ρ' m' w' ∧ Trans ρ ρ' m m' w w' := by
  unfold growE at h
  split at h
  · rename_i hm
    have hm : n + k ≤ 1000000 := Nat.le_of_ble_eq_true hm
    cases h
    have hL' : m.n < L := hL
    have hall := ho.append hv
    have hlen : (old ++ new).length = (n + k) * s := by rw [← hall.1, List.length_append, hos, hvs, Nat.add_mul]
    obtain ⟨ρ', k1, k2, k3⟩ := grow_run (el := el) (cap := cap) (z := (old ++ new).length) (tr := putD (old ++ new) .nil 0) hs hL' ha.zs hos hvs (Nat.le_of_eq hlen) (fun i y hy => by
        rw [putD_get] at hy
        split at hy
        · omega
        · cases hy) fun i y hy => by
        rw [putD_get] at hy
        split at hy
        · rw [Nat.sub_zero] at hy
          obtain ⟨v, q1, q2⟩ := hall.get hy
          refine ⟨v, q1, ?_, q2⟩
          rcases List.mem_append.1 (List.mem_of_getElem? q1) with q | q
          · exact h2 v q
          · exact h1 v q
        · cases hy
    exact ⟨_, _, ρ', fun ty => ha.grow ty base n cap os hc hm hf, k1, k2, k3⟩
  · cases h

theorem moreO_run {el : TypeId} {s k n id : Nat} {new : List V} {m m' : Mem} {r : V} (h : moreO el s id n k new m (look m id) = .ok r m') {L : Nat} {ρ : Rho} {w : World} (hs : Sat L ρ m w) (hL : m'.n ≤ L) {ats : Array TypeId} {sz x : Value} {vs : List Value} (ha : App P ats el s sz x k vs w)
    (hv : RL ρ vs new) (h1 : ∀ u, u ∈ vs → u.oneCell' = true) (hvs : vs.length = k * s) {b c : Nat} (hr : ρ id = some (b, c)) (hn : n ≤ c) :
    ∃ v w' ρ', (∀ ty, (Builtin.append_ ats ty #[.slice (some ⟨b, 0, none⟩) n c, x]).run P w = .ok v w') ∧ RV ρ' v r ∧ Sat L ρ' m' w' ∧ Trans ρ ρ' m m' w w' := by
  unfold moreO at h
  split at h
  · rename_i U e z tr hl
    split at h
    · rename_i hc
      simp only [Bool.and_eq_true] at hc
      obtain ⟨⟨c1, c2⟩, c3⟩ := hc
      have c1 := Nat.eq_of_beq_eq_true c1
      have c2 := Nat.eq_of_beq_eq_true c2
      have c3 : n + k ≤ 1000000 := Nat.le_of_ble_eq_true c3
      subst c1 c2
      unfold moreM moreR at h
      split at h
      · rename_i tr' ht
        cases h
        have hL' : m.n < L := hL
        obtain ⟨b', c', g1, cs, g2, g3, g4, g4', g5⟩ := hs.obj id _ hl
        rw [hr] at g1
        cases g1
        have hm : (n + k) * e = n * e + k * e := Nat.add_mul _ _ _
        by_cases hroom : n + k ≤ c
        · have hce : (n + k) * e ≤ c * e := Nat.mul_le_mul_right _ hroom
          have hst := run_storeCells_at P b (n * e) U vs 0 cs w g2 (by omega) h1
          rw [Nat.add_zero] at hst
          have hsz : (cs.toList.take (n * e) ++ vs ++ cs.toList.drop (n * e + vs.length)).length = cs.size := by simp; omega
          have htk : (cs.toList.take (n * e)).length = n * e := by simp; omega
          have htr := tr_more (A := (cs.toList.take (n * e) ++ vs ++ cs.toList.drop (n * e + vs.length)).toArray) ht g4' g5 hv h1 hvs (fun i hi => by
              rw [List.getElem?_toArray, List.append_assoc, List.getElem?_append_left (by omega), List.getElem?_take_of_lt hi]; simp) (fun j hj => by
              rw [List.getElem?_toArray, List.append_assoc, List.getElem?_append_right (by omega), htk, Nat.add_sub_cancel_left, List.getElem?_append_left hj])
          have hf := hs.fresh m.n (Nat.le_refl _) hL'
          obtain ⟨k2, k3⟩ := hs.take hL' (w' := w.setRow b (cs.toList.take (n * e) ++ vs ++ cs.toList.drop (n * e + vs.length)).toArray) (o' := .cells U e (Nat.mul (Nat.add n k) e) tr') hl hr (by simp [World.setRow]) (fun b' hb => by
              simp only [World.setRow, Array.getElem?_modify]
              rw [if_neg (fun e => hb e.symm)]) rfl rfl rfl
            ⟨_, setRow_heap w b cs _ U _ g2, by rw [List.size_toArray, hsz]; exact g3, by rw [List.size_toArray, hsz, g3]; exact hce, htr.1, fun i y hy => let ⟨v, a, d, f⟩ := htr.2 i y hy; ⟨v, a, d, f.ext (ext_upd hf _)⟩⟩
          exact ⟨_, _, _, fun ty => ha.room ty b 0 n c _ hroom (by rw [Nat.zero_add]; exact hst), .own _ _ _ _ (upd_same _ _ _) hroom, k2, k3⟩
        · have hne : n * e ≤ cs.size := by rw [g3]; exact Nat.mul_le_mul_right _ hn
          have hol : (cs.toList.take (n * e)).length = n * e := by simp; omega
          have hf := run_firstCells_some (P := P) w.drew e n ⟨b, 0, none⟩ n c (cs.toList.take (n * e)) hol fun j v hj => by
            rw [addr_add, Nat.zero_add]
            have hlt : j < n * e := by
              have := (List.getElem?_eq_some_iff.1 hj).1
              omega
            rw [List.getElem?_take_of_lt hlt] at hj
            have : w.drew.heap = w.heap := rfl
            simp only [World.cell?, this, g2]
            simpa using hj
          have htr := tr_more (A := (cs.toList.take (n * e) ++ vs).toArray) ht g4' g5 hv h1 hvs (fun i hi => by
              rw [List.getElem?_toArray, List.getElem?_append_left (by omega), List.getElem?_take_of_lt hi]; simp) (fun j hj => by
              rw [List.getElem?_toArray, List.getElem?_append_right (by omega), hol, Nat.add_sub_cancel_left])
          obtain ⟨ρ', k1, k2, k3⟩ := grow_run (el := U) (cap := c) hs hL' ha.zs hol hvs (Nat.le_refl _) htr.1 fun i y hy => let ⟨v, a, d, f⟩ := htr.2 i y hy; ⟨v, by simpa using a, d, f⟩
          exact ⟨_, _, ρ', fun ty => ha.grow ty (some ⟨b, 0, none⟩) n c _ (by omega) c3 hf, k1, k2.drop id, k3.trans (Trans.drop ρ' _ _ id)⟩
      · cases h
    · cases h
  · cases h

theorem op_append (hT : TabOk P T) {E : Env} {m m' : Mem} {r : V} (s x : Operand) (ts : Array TypeId) {t u : TypeId} {rest : List TypeId} (ht : ts.toList = t :: u :: rest) (hu : notInt (undT T u) = true) (h : appendE (opX E x) (opX E s) m (sliceW T t) = .ok r m') : OpS P (.call ⟨.builtin .append, #[s, x], ts⟩) E m r m' := by
  refine op_builtin fun L ρ w «as» hv hs hL => ?_
  simp only [List.map_cons, List.map_nil] at hv
  obtain ⟨sv, xv, rfl, h1, h2⟩ := args2 hv
  obtain ⟨d, hd, hdn⟩ := notInt_ok hT hu
  have e0 : ts[0]? = some t := by rw [← Array.getElem?_toList, ht]; rfl
  have e1 : ts[1]? = some u := by rw [← Array.getElem?_toList, ht]; rfl
  suffices hh : ∃ v w' ρ', (∀ ty, (Builtin.append_ ts ty #[sv, xv]).run P w = .ok v w') ∧ RV ρ' v r ∧ Sat L ρ' m' w' ∧ Trans ρ ρ' m m' w w' by
    obtain ⟨v, w', ρ', q1, q2⟩ := hh
    exact ⟨v, w', ρ', fun ty cs => by simp [builtin, q1], q2⟩
  unfold appendE at h
  split at h
  · rename_i el sz by' z hw
    obtain ⟨i, zv, hu', hi, his, hib, hz, _, _, hsz⟩ := sliceW_ok hT hw
    split at h
    · rename_i new k hb hc hk
      have hb : by' ≤ 100000 := Nat.le_of_ble_eq_true hb
      obtain ⟨vs, g1, g2, g3, g4⟩ := cont_run (P := P) hc hk hs h2
      have hlen := lenE_run (P := P) h2 hk w
      have hfull : ∀ w2 : World, w2.heap = w.heap → (Builtin.firstCells sz k xv).run P w2 = .ok vs.toArray w2 := fun w2 hw2 => by
        rw [g4 w2 hw2 k (Nat.le_refl _), List.take_of_length_le (by omega)]
      have ha : App P ts el sz zv xv k vs w := ⟨fun ty b off n cap w' hr hst => run_app_room e0 e1 hu' hd hdn hi his hlen (hfull w rfl) hr hst,
        fun ty base n cap os hr hm ho => run_app_grow e0 e1 hu' hd hdn hi his hz (by rw [hib]; exact hb) hlen ho (hfull w.drew rfl) hr hm, hsz⟩
      have hnil : ∀ b off n cap, k = 0 → n ≤ cap → (∀ ty, (Builtin.append_ ts ty #[.slice (some ⟨b, off, none⟩) n cap, xv]).run P w = .ok (.slice (some ⟨b, off, none⟩) n cap) w) := fun b off n cap h0 hn ty => by
        subst h0
        have hvs : vs = [] := List.eq_nil_of_length_eq_zero (by rw [g3]; simp)
        have := ha.room ty b off n cap w (by omega) (by rw [hvs]; simp [storeCells])
        simpa using this
      unfold appendX at h
      split at h
      · rename_i hx
        rw [hx] at h1
        cases h1
        split at h
        · rename_i h0
          have h0 := Nat.eq_of_beq_eq_true h0
          cases h
          subst h0
          exact ⟨_, w, ρ, fun ty => run_app_nil e0 e1 hu' hd hdn hi his hlen (hfull w rfl), .nils, hs, Trans.refl ρ m w⟩
        · rename_i h0
          have hk0 : k ≠ 0 := fun e => by subst e; simp at h0
          exact growE_run h hs hL ha g1 g2 g3 (RL.nil ρ) (fun u hu => (by cases hu)) (by simp) (by omega) (by rw [run_firstCells_none])
      · rename_i id off n cap hx
        rw [hx] at h1
        unfold appSl at h
        split at h
        · rename_i hr
          have hr : n + k ≤ cap := Nat.le_of_ble_eq_true hr
          obtain ⟨rfl, hp⟩ := okM_inv h
          cases h1 with
          | sl _ _ _ _ b c hrho =>
            obtain ⟨w', k1, k2, k3⟩ := putAt_run (P := P) hp hs hrho g1 g2
            exact ⟨_, w', ρ, fun ty => ha.room ty b off n cap w' hr k1, .sl _ _ _ _ _ _ hrho, k2, k3⟩
        · rename_i hr
          have hr : cap < n + k := by
            rcases Nat.lt_or_ge cap (n + k) with h | h
            · exact h
            · have : Nat.ble (Nat.add n k) cap = true := Nat.ble_eq_true_of_le h
              rw [this] at hr; cases hr
          unfold growO at h
          split at h
          · rename_i old ho
            have h1' := h1
            obtain ⟨os, q1, q2, q3, q4⟩ := cont_run (P := P) (k := n) ho rfl hs h1'
            cases h1 with
            | sl _ _ _ _ b c hrho =>
              have := q4 w.drew rfl n (Nat.le_refl _)
              rw [List.take_of_length_le (by omega)] at this
              exact growE_run h hs hL ha g1 g2 g3 q1 q2 q3 hr this
          · cases h
      · rename_i id n hx
        rw [hx] at h1
        cases h1 with
        | own _ _ b c hrho hn =>
          split at h
          · rename_i h0
            have h0 := Nat.eq_of_beq_eq_true h0
            cases h
            exact ⟨_, w, ρ, hnil b 0 n c h0 hn, .own _ _ _ _ hrho hn, hs, Trans.refl ρ m w⟩
          · exact moreO_run h hs hL ha g1 g2 g3 hrho hn
      · cases h
    · cases h
  · cases h

end
end Ev
end Go.Proofs.YtaacgmcgmljjeaaGreat

/- The evaluator: copy, conversions. -/
namespace Go.Proofs.YtaacgmcgmljjeaaGreat
namespace Ev
open Go.RowKit

section
variable {P : Program} {T : Tab}

theorem op_copy (hT : TabOk P T) {E : Env} {m m' : Mem} {r : V} (d x : Operand) (ts : Array TypeId) {t : TypeId} {rest : List TypeId} (ht : ts.toList = t :: rest) (h : copyE (opX E x) (opX E d) m (sliceW T t) = .ok r m') : OpS P (.call ⟨.builtin .copy, #[d, x], ts⟩) E m r m' := by
  refine op_builtin fun L ρ w «as» hv hs hL => ?_
  simp only [List.map_cons, List.map_nil] at hv
  obtain ⟨dv, xv, rfl, h1, h2⟩ := args2 hv
  have e0 := head_ats ht
  unfold copyE at h
  split at h
  · rename_i el s by' z hw
    obtain ⟨i, zv, hu, hi, his, hib, hz, _, _, hsz⟩ := sliceW_ok hT hw
    split at h
    · rename_i k new hk hc
      obtain ⟨vs, g1, g2, g3, g4⟩ := cont_run (P := P) hc hk hs h2
      have hlen := lenE_run (P := P) h2 hk w
      have key : ∀ (id off n b c cap : Nat) , ρ id = some (b, c) → okM (.nn (Nat.min k n)) (putAt id off (new.take (Nat.mul (Nat.min k n) s)) m) = .ok r m' → ∃ v w' ρ', (∀ ty cs, (builtin .copy ts ty cs #[.slice (some ⟨b, off, none⟩) n cap, xv]).run P w = .ok (.value v) w') ∧ RV ρ' v r ∧ Sat L ρ' m' w' ∧ Trans ρ ρ' m m' w w' := by
        intro id off n b c cap hr h
        obtain ⟨rfl, hp⟩ := okM_inv h
        have hmin : Nat.min k n ≤ k := Nat.min_le_left _ _
        obtain ⟨w', k1, k2, k3⟩ := putAt_run (P := P) hp hs hr (g1.take _) (fun u hu => g2 u (List.mem_of_mem_take hu))
        have hf := g4 w rfl (Nat.min k n) hmin
        have hf' : (Builtin.firstCells s (min k n) xv).run P w = .ok (vs.take (Nat.min k n * s)).toArray w := hf
        have k1' : (storeCells ⟨b, off, none⟩ (vs.take (Nat.min k n * s))).run P w = .ok () w' := k1
        refine ⟨.int .i64 (Int.ofNat (Nat.min k n)), w', ρ, fun ty cs => ?_, .nn _, k2, k3⟩
        simp only [builtin, Builtin.copy_, e0, List.getElem?_toArray, List.getElem?_cons_zero, List.getElem?_cons_succ, Sem.run_bind, run_underlying hu, Result.andThen_ok, hlen, run_size hi, his, hf, k1', Sem.run_pure, goInt]
        rfl
      unfold copyP at h
      split at h
      · rename_i hx
        rw [hx] at h1
        cases h1
        cases h
        have hf := g4 w rfl 0 (Nat.zero_le _)
        refine ⟨.int .i64 (Int.ofNat 0), w, ρ, fun ty cs => ?_, .nn _, hs, Trans.refl ρ m w⟩
        have hm : Nat.min k 0 = 0 := Nat.min_eq_right (Nat.zero_le _)
        simp only [builtin, Builtin.copy_, e0, List.getElem?_toArray, List.getElem?_cons_zero, List.getElem?_cons_succ, Sem.run_bind, run_underlying hu, Result.andThen_ok, hlen, run_size hi, his, hm, hf, Sem.run_pure, goInt]
        rfl
      · rename_i id off n cap hx
        rw [hx] at h1
        cases h1 with
        | sl _ _ _ _ b c hr => exact key id off n b c cap hr h
      · rename_i id n hx
        rw [hx] at h1
        cases h1 with
        | own _ _ b c hr hn => exact key id 0 n b c c hr h
      · cases h
    · cases h
  · cases h

/-! ### conversions -/
theorem isByte_ok (hT : TabOk P T) {e : TypeId} (h : isByte T e = true) : P.underlying e = some (.int .u8) := by
  unfold isByte at h
  split at h
  · rename_i hu; exact undT_ok hT hu
  · cases h

theorem push_fold (l : List UInt8) : ∀ r : ByteArray, (l.foldl (fun r b => r.push b) r).data.toList = r.data.toList ++ l := by
  induction l with
  | nil => intro r; simp
  | cons b l ih =>
    intro r
    rw [List.foldl_cons, ih]
    simp

theorem vBytes_spec {ρ : Rho} : ∀ (l : List V) (bs : List UInt8) (vs : List Value), vBytes l = some bs → RL ρ vs l → ∃ ns : List Int, vs = ns.map (.int .u8) ∧ ns.map (fun n => UInt8.ofNat n.toNat) = bs
  | [], bs, vs, h, hv => by
    cases h
    rw [hv.inv_nil]
    exact ⟨[], rfl, rfl⟩
  | x :: xs, bs, vs, h, hv => by
    obtain ⟨v, ws, rfl, h1, h2⟩ := hv.inv_cons
    unfold vBytes at h
    split at h
    · rename_i b hb
      cases hr : vBytes xs with
      | none => rw [hr] at h; cases h
      | some bs' =>
        rw [hr] at h
        cases h
        obtain ⟨ns, rfl, g2⟩ := vBytes_spec xs bs' ws hr h2
        unfold vByte at hb
        split at hb
        · rename_i k n
          split at hb
          · cases h1
            cases n with
            | ofNat a =>
              simp only [natI, Option.map_some] at hb
              cases hb
              exact ⟨(Int.ofNat a) :: ns, rfl, by rw [List.map_cons, g2]; rfl⟩
            | negSucc a => cases hb
          · cases hb
        · cases hb
    · cases h

/-- a new block, in a world that has one more -/
theorem addW {L : Nat} {ρ : Rho} {m : Mem} {w w' : World} (h : Sat L ρ m w) (hL : m.n < L) {o : O} (c : Nat) (hs : w'.heap.size = w.heap.size + 1) (hb : ∀ j, j < w.heap.size → w'.heap[j]? = w.heap[j]?) (hos : w'.os = w.os) (ht : w'.tape = w.tape) (hou : w'.output = w.output)
    (ho : RO (upd ρ m.n (w.heap.size, c)) w' w.heap.size c o) : Sat L (upd ρ m.n (w.heap.size, c)) (m.add o) w' ∧ Trans ρ (upd ρ m.n (w.heap.size, c)) m (m.add o) w w' := by
  have hf := h.fresh m.n (Nat.le_refl _) hL
  have he := ext_upd hf (w.heap.size, c)
  have hlt : ∀ i b c', look m i ≠ none → ρ i = some (b, c') → b < w.heap.size := fun i b c' h1 h2 => by
    cases e : look m i with
    | none => exact absurd e h1
    | some oi =>
      obtain ⟨b1, c1, h3, h4⟩ := h.obj i oi e
      rw [h2] at h3; cases h3
      exact h4.lt
  have hcl : ∀ i, Ev.look (m.add o) i ≠ none → i = m.n ∨ (i ≠ m.n ∧ look m i ≠ none) := fun i hi => by
    rw [look_add] at hi
    by_cases e : i = m.n
    · exact .inl e
    · rw [if_neg e] at hi; exact .inr ⟨e, hi⟩
  refine ⟨⟨fun id h1 h2 => ?_, fun i j b c1 c2 h1 h2 h3 h4 => ?_, fun j oj hj => ?_⟩, ⟨he, fun id hid => ?_, fun x hx => ?_, Nat.le_succ _, hos, ht, hou, by omega, fun x hx _ => hb x hx⟩⟩
  · have : m.n + 1 ≤ id := h1
    rw [upd_other _ _ (by omega)]
    exact h.fresh id (by omega) h2
  · rcases hcl i h1 with rfl | ⟨e1, g1⟩ <;> rcases hcl j h2 with rfl | ⟨e2, g2⟩
    · rfl
    · rw [upd_same] at h3; cases h3
      rw [upd_other _ _ e2] at h4
      have := hlt j _ _ g2 h4; omega
    · rw [upd_same] at h4; cases h4
      rw [upd_other _ _ e1] at h3
      have := hlt i _ _ g1 h3; omega
    · rw [upd_other _ _ e1] at h3
      rw [upd_other _ _ e2] at h4
      exact h.inj i j b c1 c2 g1 g2 h3 h4
  · rw [look_add] at hj
    split at hj
    · rename_i e; subst e; cases hj
      exact ⟨_, c, upd_same _ _ _, ho⟩
    · obtain ⟨b1, c1, h3, h4⟩ := h.obj j oj hj
      exact ⟨b1, c1, he _ _ h3, h4.mono he (hb b1 h4.lt)⟩
  · by_cases e : id = m.n
    · exact .inr ⟨by omega, by show id < m.n + 1; omega⟩
    · rw [upd_other _ _ e] at hid; exact .inl hid
  · obtain ⟨i, ci, h1, h2⟩ := hx
    rcases hcl i h1 with rfl | ⟨e1, g1⟩
    · rw [upd_same] at h2; cases h2; exact .inr (Nat.le_refl _)
    · rw [upd_other _ _ e1] at h2; exact .inl ⟨i, ci, g1, h2⟩

theorem op_convert (hT : TabOk P T) {E : Env} {m m' : Mem} {r : V} (s d : TypeId) (y : Operand) (h : convE T s d m (opX E y) = .ok r m') : OpS P (.convert s d y) E m r m' := by
  unfold convE at h
  split at h
  · rename_i k hd
    have hd := undT_ok hT hd
    split at h
    · rename_i sd hsd
      have hsd := undT_ok hT hsd
      unfold convInt at h
      split at h
      · rename_i a hy
        cases h
        refine op1 y (by simp [Op.operands]) fun ρ w v hv => ?_
        rw [hy] at hv
        cases hv
        exact ⟨.int k (k.wrap (Int.ofNat a)), fun op ev e he => by simp [execOp, e, he, convert, run_underlying hd, run_underlying hsd, Conv.intToInt], ofN_rel ρ k a⟩
      · rename_i k' n hy
        cases h
        refine op1 y (by simp [Op.operands]) fun ρ w v hv => ?_
        rw [hy] at hv
        cases hv
        exact ⟨.int k (k.wrap n), fun op ev e he => by simp [execOp, e, he, convert, run_underlying hd, run_underlying hsd, Conv.intToInt], ofI_rel ρ k n⟩
      · cases h
    · cases h
  · rename_i hd
    have hd := undT_ok hT hd
    unfold convStr at h
    split at h
    · rename_i hsd
      have hsd := undT_ok hT hsd
      split at h
      · rename_i l hy
        cases h
        refine op1 y (by simp [Op.operands]) fun ρ w v hv => ?_
        rw [hy] at hv
        have := hv.str_inv; subst this
        exact ⟨_, fun op ev e he => by simp [execOp, e, he, convert, run_underlying hd, run_underlying hsd], .str l⟩
      · cases h
    · rename_i e hsd
      have hsd := undT_ok hT hsd
      split at h
      · rename_i hb
        rw [Bool.and_eq_true] at hb
        have hstr := hb.2
        have hb := isByte_ok hT hb.1
        obtain ⟨g, rfl⟩ := okO_inv h
        cases hc : contents 1 m (opX E y) with
        | none => rw [hc] at g; cases g
        | some l =>
          rw [hc] at g
          simp only [Option.bind_some] at g
          cases hbs : vBytes l with
          | none => rw [hbs] at g; cases g
          | some bs =>
            rw [hbs] at g
            cases g
            refine .read fun L ρ w ev ho hs => ?_
            have hv := ho y (by simp [Op.operands])
            have hk : ∃ k, lenE (opX E y) = some k := by
              unfold contents at hc
              split at hc
              · rename_i hy; rw [hy]; exact ⟨_, rfl⟩
              · rename_i hy; rw [hy]; exact ⟨_, rfl⟩
              · rename_i hy; rw [hy]; exact ⟨_, rfl⟩
              · rename_i hy; rw [hy]; exact ⟨_, rfl⟩
              · cases hc
            obtain ⟨k, hk⟩ := hk
            obtain ⟨vs, g1, g2, g3, g4⟩ := cont_run (P := P) hc hk hs hv
            obtain ⟨ns, rfl, hns⟩ := vBytes_spec l bs vs hbs g1
            have hf := g4 w rfl k (Nat.le_refl _)
            rw [List.take_of_length_le (by rw [g3]; omega)] at hf
            have hfold : ns.foldl (fun r n => r.push (UInt8.ofNat n.toNat)) ByteArray.empty = ⟨⟨bs⟩⟩ := by
              have e1 : ns.foldl (fun r n => r.push (UInt8.ofNat n.toNat)) ByteArray.empty = bs.foldl (fun r b => r.push b) ByteArray.empty := by
                rw [← hns, List.foldl_map]
              rw [e1]
              have := push_fold bs ByteArray.empty
              apply ByteArray.ext
              apply Array.ext'
              rw [this]
              rfl
            have hsl : ∀ a n c, ev y = .slice (some a) n c → n = k → ∃ v, (∀ op : Oper, op.op = .convert s d y → (execOp ev op).run P w = .ok (.value v) w) ∧ RV ρ v (.str bs) := fun a n c he hn => by
              subst hn
              rw [he] at hf
              have hld : (loadCells a n).run P w = .ok (ns.map (Value.int .u8)).toArray w := by
                have := hf
                simp only [Builtin.firstCells, Nat.mul_one] at this
                exact this
              have hrun := run_bytesToString w a n c ns hld
              rw [hfold] at hrun
              exact ⟨_, fun op e' => by simp [execOp, e', he, convert, run_underlying hd, run_underlying hsd, run_underlying hb, hrun], .str bs⟩
            have hc' := hc
            have hk' := hk
            have hv' := hv
            unfold contents at hc'
            split at hc'
            · rename_i hy
              rw [hy] at hv'
              generalize he : ev y = W at hv'
              cases hv'
              cases hc'
              cases hbs
              exact ⟨.string ⟨⟨[]⟩⟩, fun op e' => by simp [execOp, e', he, convert, run_underlying hd, run_underlying hsd, run_underlying hb, Conv.bytesToString]; rfl, .str []⟩
            · rename_i l' hy
              rw [hy] at hstr
              cases hstr
            · rename_i id off n cap hy
              rw [hy] at hv' hk'
              cases hk'
              generalize he : ev y = W at hv'
              cases hv' with
              | sl _ _ _ _ b c hr => exact hsl _ _ _ he rfl
            · rename_i id n hy
              rw [hy] at hv' hk'
              cases hk'
              generalize he : ev y = W at hv'
              cases hv' with
              | own _ _ b c hr hn => exact hsl _ _ _ he rfl
            · cases hc'
      · cases h
    · cases h
  · rename_i e hd
    have hd := undT_ok hT hd
    split at h
    · rename_i hsd
      have hsd := undT_ok hT hsd
      unfold convBytes at h
      split at h
      · rename_i l hy
        split at h
        · rename_i hb
          have hb := isByte_ok hT hb
          cases h
          intro L ρ w ev ho hs hL
          have hv := ho y (by simp [Op.operands])
          rw [hy] at hv
          have hy' := hv.str_inv
          have hL' : m.n < L := hL
          have hf := hs.fresh m.n (Nat.le_refl _) hL'
          have hrun := Lib.run_convert_string_bytes (P := P) w s d e ⟨⟨l⟩⟩ hsd hd hb
          have hge := grownCap_ge w l.length 0 e
          have hsz : (⟨⟨l⟩⟩ : ByteArray).size = l.length := rfl
          obtain ⟨k2, k3⟩ := addW (w' := Lib.bytesWorld w e ⟨⟨l⟩⟩) hs hL' (o := .ro (putD (l.map byteV) .nil 0)) (grownCap w l.length 0 e) (Lib.bytesWorld_size w e _) (fun j hj => Lib.bytesWorld_at_old w e _ j hj) rfl rfl rfl
            ⟨Lib.bytesCells w e ⟨⟨l⟩⟩, e, _, Lib.bytesWorld_at_new w e _, fun i x hx => by
              rw [putD_get] at hx
              split at hx
              · rw [Nat.sub_zero, List.getElem?_map] at hx
                cases hb' : l[i]? with
                | none => rw [hb'] at hx; cases hx
                | some b =>
                  rw [hb'] at hx
                  cases hx
                  refine ⟨.int .u8 b.toNat, ?_, rfl, .int _ _⟩
                  have hi := (List.getElem?_eq_some_iff.1 hb').1
                  unfold Lib.bytesCells
                  rw [Array.getElem?_append_left (by simpa using hi)]
                  simp [hb']
              · cases hx⟩
          exact ⟨.value (.slice (some ⟨w.heap.size, 0, none⟩) l.length (grownCap w l.length 0 e)), _, _, _, fun op e' => by simp only [execOp, e', hy', Sem.run_bind, hrun, Result.andThen_ok, Sem.run_pure]; rfl, .inl rfl, .own _ _ _ _ (upd_same _ _ _) hge, k2, k3⟩
        · cases h
      · cases h
    · cases h
  · cases h

end
end Ev
end Go.Proofs.YtaacgmcgmljjeaaGreat

/- The evaluator: maps, type assertions. -/
namespace Go.Proofs.YtaacgmcgmljjeaaGreat
namespace Ev
open Go.RowKit

section
variable {P : Program} {T : Tab}

/-- entries, one by one -/
def RM (ρ : Rho) (es' : List MapEntry) (es : List (V × V × Nat)) : Prop := es'.length = es.length ∧ ∀ (i : Nat) e p, es'[i]? = some e → es[i]? = some p → RV ρ e.key p.1 ∧ RV ρ e.val p.2.1 ∧ e.born = p.2.2
theorem RM.nil (ρ : Rho) : RM ρ [] [] := ⟨rfl, fun i e p h => by simp at h⟩
theorem RM.cons {ρ : Rho} {e : MapEntry} {p : V × V × Nat} {es' : List MapEntry} {es : List (V × V × Nat)} (h1 : RV ρ e.key p.1) (h2 : RV ρ e.val p.2.1) (h3 : e.born = p.2.2) (h : RM ρ es' es) : RM ρ (e :: es') (p :: es) :=
  ⟨by simp [h.1], fun i e' p' a b => by
    cases i with
    | zero => simp at a b; subst a b; exact ⟨h1, h2, h3⟩
    | succ i => exact h.2 i e' p' (by simpa using a) (by simpa using b)⟩
theorem RM.inv_cons {ρ : Rho} {es' : List MapEntry} {p : V × V × Nat} {es : List (V × V × Nat)} (h : RM ρ es' (p :: es)) : ∃ e r, es' = e :: r ∧ RV ρ e.key p.1 ∧ RV ρ e.val p.2.1 ∧ e.born = p.2.2 ∧ RM ρ r es := by
  cases es' with
  | nil => have := h.1; simp at this
  | cons e r =>
    obtain ⟨a, b, c⟩ := h.2 0 e p (by simp) (by simp)
    exact ⟨e, r, rfl, a, b, c, by have := h.1; simpa using this, fun i u y h1 h2 => h.2 (i + 1) u y (by simpa using h1) (by simpa using h2)⟩
theorem RM.inv_nil {ρ : Rho} {es' : List MapEntry} (h : RM ρ es' []) : es' = [] := List.eq_nil_of_length_eq_zero h.1
theorem RM.of_ro {ρ : Rho} {w : World} {b c clk : Nat} {es : List (V × V × Nat)} (h : RO ρ w b c (.map es clk)) : ∃ es' : Array MapEntry, w.heap[b]? = some (.map es' clk) ∧ RM ρ es'.toList es :=
  let ⟨es', h1, h2, h3⟩ := h
  ⟨es', h1, by simpa using h2, fun i e p a b => h3 i e p (by simpa using a) b⟩

/-- the kind of keys, in the program -/
inductive KD : KK → TypeDesc → Prop where
  | int (k : IntKind) : KD .int (.int k)
  | str : KD .str .string
  | bool : KD .bool .bool
theorem keyK_ok (hT : TabOk P T) {kt : TypeId} (h : (keyK T kt).ok = true) : ∃ d, P.underlying kt = some d ∧ KD (keyK T kt) d := by
  unfold keyK at h ⊢
  cases hu : undT T kt with
  | none => rw [hu] at h; cases h
  | some d =>
    rw [hu] at h
    refine ⟨d, undT_ok hT hu, ?_⟩
    cases d <;> first | exact .int _ | exact .str | exact .bool | (cases h)

theorem keyEq_now {q : KK} {d : TypeDesc} (hd : KD q d) {ρ : Rho} {v u : Value} {x y : V} (h1 : RV ρ v x) (h2 : RV ρ u y) {b : Bool} (h : keyEq q x y = some b) : Instr.sameNow d v u = some b ∧ (b = true → u = v) := by
  cases hd with
  | int k =>
    simp only [keyEq, eqInt] at h
    split at h
    · rename_i p q hp hq
      have e1 := h1.toI hp
      have e2 := h2.toI hq
      split at h
      · rename_i hk
        have hk := kEq_eq hk
        cases h
        subst e1 e2
        simp only [Instr.sameNow, hk, if_true]
        refine ⟨?_, fun hb => ?_⟩
        · congr 1
        · have := of_decide_eq_true hb
          rw [this]
      · cases h
    · cases h
  | str =>
    simp only [keyEq, sameS] at h
    split at h
    · rename_i a
      split at h
      · rename_i b'
        cases h
        have e1 := h1.str_inv
        have e2 := h2.str_inv
        subst e1 e2
        rw [bytesEq_eq]
        refine ⟨?_, fun hb => ?_⟩
        · simp only [Instr.sameNow]
          congr 1
          show ((⟨a⟩ : Array UInt8) == (⟨b'⟩ : Array UInt8)) = (a == b')
          simp
        · rw [eq_of_beq hb]
      · cases h
    · cases h
  | bool =>
    simp only [keyEq, sameB] at h
    split at h
    · rename_i a
      split at h
      · rename_i b'
        cases h
        have e1 := h1.bool_inv
        have e2 := h2.bool_inv
        subst e1 e2
        refine ⟨rfl, fun hb => ?_⟩
        have := eq_of_beq hb
        rw [this]
      · cases h
    · cases h

/-- where a key is found -/
theorem find_now {q : KK} {d : TypeDesc} (hd : KD q d) {ρ : Rho} {k : Value} {x : V} (hk : RV ρ k x) : ∀ (es : List (V × V × Nat)) (es' : List MapEntry) (i : Nat), RM ρ es' es →
    (∀ y, findE q x es = some (some y) → ∃ j v, Instr.findNow d k es' i = some (some (j, v)) ∧ RV ρ v y) ∧ (findE q x es = some none → Instr.findNow d k es' i = some none)
  | [], es', i, h => by
    rw [h.inv_nil]
    exact ⟨fun y hy => (by cases hy), fun _ => rfl⟩
  | p :: r, es', i, h => by
    obtain ⟨e, r', rfl, h1, h2, h3, h4⟩ := h.inv_cons
    cases hs : keyEq q x p.1 with
    | none => constructor <;> intros <;> simp_all [findE]
    | some b =>
      obtain ⟨g1, g2⟩ := keyEq_now hd hk h1 hs
      cases b with
      | true =>
        refine ⟨fun y hy => ?_, fun hy => ?_⟩
        · simp only [findE, hs] at hy
          cases hy
          exact ⟨i, e.val, by simp only [Instr.findNow, g1], h2⟩
        · simp [findE, hs] at hy
      | false =>
        obtain ⟨i1, i2⟩ := find_now hd hk r r' (i + 1) h4
        refine ⟨fun y hy => ?_, fun hy => ?_⟩
        · simp only [findE, hs] at hy
          obtain ⟨j, v, q1, q2⟩ := i1 y hy
          exact ⟨j, v, by simp only [Instr.findNow, g1, q1], q2⟩
        · simp only [findE, hs] at hy
          simp only [Instr.findNow, g1, i2 hy]

theorem run_checkKey {q : KK} {d : TypeDesc} (hd : KD q d) {kt : TypeId} (hu : P.underlying kt = some d) (b : Bool) (n : Nat) (v : Value) (w : World) : (Instr.checkKey b (n + 1) kt v).run P w = .ok () w := by
  unfold Instr.checkKey
  rw [Sem.run_bind, run_underlying hu]
  cases hd <;> rfl
theorem run_checkKey' {q : KK} {d : TypeDesc} (hd : KD q d) {kt : TypeId} (hu : P.underlying kt = some d) (b : Bool) (v : Value) (w : World) : (Instr.checkKey b 10000 kt v).run P w = .ok () w := run_checkKey (n := 9999) hd hu b v w
theorem run_findKey {d : TypeDesc} {kt : TypeId} (hu : P.underlying kt = some d) {k : Value} {es : List MapEntry} {r : Option (Nat × Value)} (h : Instr.findNow d k es 0 = some r) (w : World) : (Instr.findKey kt k es).run P w = .ok r w := by
  simp [Instr.findKey, run_underlying hu, h]

theorem entsE_rm {m : Mem} {x : V} {es : List (V × V × Nat)} (h : entsE m x = some es) {L : Nat} {ρ : Rho} {w : World} (hs : Sat L ρ m w) {v : Value} (hv : RV ρ v x) :
    (v = .map none ∧ es = []) ∨ ∃ b es' clk, v = .map (some b) ∧ w.heap[b]? = some (.map es' clk) ∧ RM ρ es'.toList es := by
  unfold entsE at h
  split at h
  · cases h
    cases hv
    exact .inl ⟨rfl, rfl⟩
  · rename_i id
    unfold entsO at h
    split at h
    · rename_i es0 clk hl
      cases h
      obtain ⟨b, c, g1, g2⟩ := hs.obj id _ hl
      obtain ⟨es', g3, g4⟩ := RM.of_ro g2
      cases hv with
      | map _ b' c' hr =>
        rw [g1] at hr
        cases hr
        exact .inr ⟨b, es', clk, rfl, g3, g4⟩
    · cases h
  · cases h

theorem okT_rel {ρ : Rho} {v : Value} {x : V} (h : RV ρ v x) (ok b : Bool) : RV ρ (if ok then .tuple #[v, .bool b] else v) (okT ok b x) := by
  cases ok with
  | true => exact .tup' (RL.cons h (RL.cons (.bool b) (RL.nil ρ)))
  | false => exact h

theorem op_lookup (hT : TabOk P T) {E : Env} {m m' : Mem} {r : V} (t : TypeId) (x y : Operand) (ok : Bool) (h : okO m (lookupE T t (opX E y) ok m (opX E x)) = .ok r m') : OpS P (.lookup t x y ok) E m r m' := by
  obtain ⟨g, rfl⟩ := okO_inv h
  unfold lookupE at g
  split at g
  · rename_i kt et hu
    have hu := undT_ok hT hu
    split at g
    · rename_i hk
      obtain ⟨d, hd, hkd⟩ := keyK_ok hT hk
      cases he : entsE m (opX E x) with
      | none => rw [he] at g; cases g
      | some es =>
        rw [he] at g
        simp only [Option.bind_some] at g
        refine .read fun L ρ w ev ho hs => ?_
        have h1 := ho x (by simp [Op.operands])
        have h2 := ho y (by simp [Op.operands])
        unfold lookF at g
        rcases entsE_rm he hs h1 with ⟨e1, e2⟩ | ⟨b, es', clk, e1, e2, hrm⟩
        · subst e2
          simp only [findE] at g
          cases hz : zeroE T et with
          | none => rw [hz] at g; cases g
          | some z =>
            rw [hz] at g
            cases g
            obtain ⟨i, v, hi, hv, rfl⟩ := zeroE_ok hT hz
            refine ⟨_, fun op e => ?_, okT_rel (constV_rel ρ v) ok false⟩
            have hf : Instr.findNow d (ev y) [] 0 = some none := rfl
            simp [execOp, e, Instr.lookup, run_underlying hu, e1, run_checkKey' hkd hd, run_findKey hd hf, run_zero hi hv]
        · obtain ⟨f1, f2⟩ := find_now hkd h2 es es'.toList 0 hrm
          split at g
          · rename_i y' hf
            cases g
            obtain ⟨j, v, q1, q2⟩ := f1 _ hf
            refine ⟨_, fun op e => ?_, okT_rel q2 ok true⟩
            simp [execOp, e, Instr.lookup, run_underlying hu, e1, run_getObj_map _ _ _ _ e2, run_checkKey' hkd hd, run_findKey hd q1]
          · rename_i hf
            cases hz : zeroE T et with
            | none => rw [hz] at g; cases g
            | some z =>
              rw [hz] at g
              cases g
              obtain ⟨i, v, hi, hv, rfl⟩ := zeroE_ok hT hz
              refine ⟨_, fun op e => ?_, okT_rel (constV_rel ρ v) ok false⟩
              simp [execOp, e, Instr.lookup, run_underlying hu, e1, run_getObj_map _ _ _ _ e2, run_checkKey' hkd hd, run_findKey hd (f2 hf), run_zero hi hv]
          · cases g
    · cases g
  · cases g

theorem sameBits_now {d : TypeDesc} {v u : Value} {b : Bool} (h : Instr.sameNow d v u = some b) : ∀ n, Instr.sameBits n v v = true := by
  intro n
  unfold Instr.sameNow at h
  split at h
  · cases n <;> simp [Instr.sameBits]
  · rename_i a _
    have : (a == a) = true := by show (a.data == a.data) = true; simp
    cases n <;> simp [Instr.sameBits, this]
  · cases n <;> simp [Instr.sameBits]
  · cases h

/-- a map with one entry more, or with one turned -/
theorem set_now {q : KK} {d : TypeDesc} (hd : KD q d) {ρ : Rho} {k u : Value} {x y : V} (hk : RV ρ k x) (hu : RV ρ u y) (clk : Nat) : ∀ (es : List (V × V × Nat)) (es' : List MapEntry) (i : Nat) (es2 : List (V × V × Nat)) (clk2 : Nat), RM ρ es' es → setMap q x y clk es = some (es2, clk2) →
    (∃ j v0 e0, Instr.findNow d k es' i = some (some (i + j, v0)) ∧ es'[j]? = some e0 ∧ e0.key = k ∧ (∀ n, Instr.sameBits n k k = true) ∧ clk2 = clk ∧ RM ρ (es'.modify j fun e => { e with key := k, val := u }) es2) ∨
    (Instr.findNow d k es' i = some none ∧ clk2 = clk + 1 ∧ RM ρ (es' ++ [{ key := k, val := u, born := clk }]) es2)
  | [], es', i, es2, clk2, h, hs => by
    rw [h.inv_nil]
    cases hs
    exact .inr ⟨rfl, rfl, RM.cons hk hu rfl (RM.nil ρ)⟩
  | p :: r, es', i, es2, clk2, h, hs => by
    obtain ⟨e, r', rfl, h1, h2, h3, h4⟩ := h.inv_cons
    unfold setMap at hs
    cases hq : keyEq q x p.1 with
    | none => rw [hq] at hs; cases hs
    | some b =>
      rw [hq] at hs
      obtain ⟨g1, g2⟩ := keyEq_now hd hk h1 hq
      cases b with
      | true =>
        cases hs
        refine .inl ⟨0, e.val, e, by simp only [Instr.findNow, g1]; rfl, rfl, g2 rfl, sameBits_now g1, rfl, ?_⟩
        show RM ρ ({ e with key := k, val := u } :: r') _
        exact RM.cons hk hu h3 h4
      | false =>
        cases hr : setMap q x y clk r with
        | none => simp [hr] at hs
        | some z =>
          simp only [hr, Option.map_some] at hs
          cases hs
          rcases set_now hd hk hu clk r r' (i + 1) z.1 z.2 h4 hr with ⟨j, v0, e0, q1, q2, q3, q4, q5, q6⟩ | ⟨q1, q2, q3⟩
          · refine .inl ⟨j + 1, v0, e0, by simp only [Instr.findNow, g1, q1]; congr 3; omega, by simpa using q2, q3, q4, q5, ?_⟩
            show RM ρ (e :: (r'.modify j _)) _
            exact RM.cons h1 h2 h3 q6
          · exact .inr ⟨by simp only [Instr.findNow, g1, q1], q2, RM.cons h1 h2 h3 q3⟩

/-- a map without one entry -/
theorem del_now {q : KK} {d : TypeDesc} (hd : KD q d) {ρ : Rho} {k : Value} {x : V} (hk : RV ρ k x) : ∀ (es : List (V × V × Nat)) (es' : List MapEntry) (i : Nat) (es2 : List (V × V × Nat)), RM ρ es' es → delMap q x es = some es2 →
    (∃ j v0, Instr.findNow d k es' i = some (some (i + j, v0)) ∧ RM ρ (es'.eraseIdx j) es2) ∨ (Instr.findNow d k es' i = some none ∧ RM ρ es' es2)
  | [], es', i, es2, h, hs => by
    rw [h.inv_nil]
    cases hs
    exact .inr ⟨rfl, RM.nil ρ⟩
  | p :: r, es', i, es2, h, hs => by
    obtain ⟨e, r', rfl, h1, h2, h3, h4⟩ := h.inv_cons
    unfold delMap at hs
    cases hq : keyEq q x p.1 with
    | none => rw [hq] at hs; cases hs
    | some b =>
      rw [hq] at hs
      obtain ⟨g1, g2⟩ := keyEq_now hd hk h1 hq
      cases b with
      | true =>
        cases hs
        exact .inl ⟨0, e.val, by simp only [Instr.findNow, g1]; rfl, h4⟩
      | false =>
        cases hr : delMap q x r with
        | none => simp [hr] at hs
        | some z =>
          simp only [hr, Option.map_some] at hs
          cases hs
          rcases del_now hd hk r r' (i + 1) z h4 hr with ⟨j, v0, q1, q2⟩ | ⟨q1, q2⟩
          · refine .inl ⟨j + 1, v0, by simp only [Instr.findNow, g1, q1]; congr 3; omega, ?_⟩
            show RM ρ (e :: (r'.eraseIdx j)) _
            exact RM.cons h1 h2 h3 q2
          · exact .inr ⟨by simp only [Instr.findNow, g1, q1], RM.cons h1 h2 h3 q2⟩

theorem keyT_ok (hT : TabOk P T) {t : TypeId} (h : (keyT T t).ok = true) : ∃ kt et d, P.underlying t = some (.map kt et) ∧ P.underlying kt = some d ∧ KD (keyT T t) d := by
  unfold keyT at h ⊢
  cases hu : undT T t with
  | none => rw [hu] at h; cases h
  | some d =>
    rw [hu] at h
    cases d with
    | map kt et =>
      obtain ⟨d, h1, h2⟩ := keyK_ok hT h
      exact ⟨kt, et, d, undT_ok hT hu, h1, h2⟩
    | _ => cases h

/-- a map block is turned -/
theorem putMap {L : Nat} {ρ : Rho} {m : Mem} {w : World} (hs : Sat L ρ m w) {id b c clk clk2 : Nat} {es es2 : List (V × V × Nat)} {es' : Array MapEntry} (hl : look m id = some (.map es clk)) (hr : ρ id = some (b, c)) (hb : w.heap[b]? = some (.map es' clk)) {n' : Array MapEntry} (hm : RM ρ n'.toList es2) :
    (∀ {P : Program}, (setObj b (.map n' clk2)).run P w = .ok () { w with heap := w.heap.setIfInBounds b (.map n' clk2) }) ∧ Sat L ρ (m.put id (.map es2 clk2)) { w with heap := w.heap.setIfInBounds b (.map n' clk2) } ∧ Trans ρ ρ m (m.put id (.map es2 clk2)) w { w with heap := w.heap.setIfInBounds b (.map n' clk2) } := by
  have hlt : b < w.heap.size := (Array.getElem?_eq_some_iff.1 hb).1
  refine ⟨by intro P; simp [setObj, Sem.run, hb], ?_⟩
  refine hs.put hl hr (by simp) (fun b' hne => ?_) rfl rfl rfl ?_
  · simp only
    rw [Array.getElem?_setIfInBounds_ne (Ne.symm hne)]
  · exact ⟨n', by simp [hlt], by simpa using hm.1, fun i e p h1 h2 => hm.2 i e p (by simpa using h1) h2⟩

theorem mapSet_run (hT : TabOk P T) {t : TypeId} {k x y : V} {m m' : Mem} {r : V} (h : mapSetE T t k x m y = .ok r m') {L : Nat} {ρ : Rho} {w : World} (hs : Sat L ρ m w) {kv xv yv : Value} (h1 : RV ρ kv k) (h2 : RV ρ xv x) (h3 : RV ρ yv y) :
    ∃ w', (Instr.mapUpdate t yv kv xv).run P w = .ok () w' ∧ r = .tup [] ∧ Sat L ρ m' w' ∧ Trans ρ ρ m m' w w' := by
  unfold mapSetE at h
  split at h
  · rename_i id
    split at h
    · rename_i hk
      obtain ⟨kt, et, d, hu, hd, hkd⟩ := keyT_ok hT hk
      obtain ⟨rfl, hp⟩ := okM_inv h
      unfold mapSetO at hp
      split at hp
      · rename_i es clk hl
        cases hset : setMap (keyT T t) k x clk es with
        | none => rw [hset] at hp; cases hp
        | some z =>
          rw [hset] at hp
          cases hp
          obtain ⟨b, c, g1, g2⟩ := hs.obj id _ hl
          obtain ⟨es', g3, g4⟩ := RM.of_ro g2
          cases h3 with
          | map _ b' c' hr =>
            rw [g1] at hr
            cases hr
            rcases set_now hkd h1 h2 clk es es'.toList 0 z.1 z.2 g4 hset with ⟨j, v0, e0, q1, q2, q3, q4, q5, q6⟩ | ⟨q1, q2, q3⟩
            · obtain ⟨k1, k2, k3⟩ := putMap hs hl g1 g3 (clk2 := z.2) (n' := es'.modify j fun e => { e with key := kv, val := xv }) (by rw [Array.toList_modify]; exact q6)
              refine ⟨_, ?_, rfl, k2, k3⟩
              have q2' : es'[j]? = some e0 := by simpa using q2
              rw [Nat.zero_add] at q1
              rw [q5] at k1 ⊢
              simp [Instr.mapUpdate, run_underlying hu, run_getObj_map _ _ _ _ g3, run_checkKey' hkd hd, run_findKey hd q1, q2', q3, Instr.keyThatStays, q4, k1]
            · obtain ⟨k1, k2, k3⟩ := putMap hs hl g1 g3 (clk2 := z.2) (n' := es'.push { key := kv, val := xv, born := clk }) (by simpa using q3)
              refine ⟨_, ?_, rfl, k2, k3⟩
              rw [q2] at k1 ⊢
              simp [Instr.mapUpdate, run_underlying hu, run_getObj_map _ _ _ _ g3, run_checkKey' hkd hd, run_findKey hd q1, k1]
      · cases hp
    · cases h
  · cases h

theorem op_mapUpdate (hT : TabOk P T) {E : Env} {m m' : Mem} {r : V} (t : TypeId) (x k y : Operand) (h : mapSetE T t (opX E k) (opX E y) m (opX E x) = .ok r m') : OpS P (.mapUpdate t x k y) E m r m' := by
  intro L ρ w ev ho hs hL
  obtain ⟨w', h1, rfl, h2, h3⟩ := mapSet_run (P := P) hT h hs (ho k (by simp [Op.operands])) (ho y (by simp [Op.operands])) (ho x (by simp [Op.operands]))
  exact ⟨.skip, undef, w', ρ, fun op e => by simp [execOp, e, h1], .inr ⟨rfl, rfl⟩, .tup' (RL.nil ρ), h2, h3⟩
theorem op_insert (hT : TabOk P T) {E : Env} {m m' : Mem} {r : V} (t : TypeId) (x k y : Operand) (h : mapSetE T t (opX E k) (opX E y) m (opX E x) = .ok r m') : OpS P (.insert t x k y) E m r m' := by
  intro L ρ w ev ho hs hL
  obtain ⟨w', h1, rfl, h2, h3⟩ := mapSet_run (P := P) hT h hs (ho k (by simp [Op.operands])) (ho y (by simp [Op.operands])) (ho x (by simp [Op.operands]))
  exact ⟨.skip, undef, w', ρ, fun op e => by simp [execOp, e, h1], .inr ⟨rfl, rfl⟩, .tup' (RL.nil ρ), h2, h3⟩

theorem op_delete (hT : TabOk P T) {E : Env} {m m' : Mem} {r : V} (x k : Operand) (ts : Array TypeId) {t : TypeId} {rest : List TypeId} (ht : ts.toList = t :: rest) (h : deleteE T t (opX E k) m (opX E x) = .ok r m') : OpS P (.call ⟨.builtin .delete, #[x, k], ts⟩) E m r m' := by
  refine op_builtin fun L ρ w «as» hv hs hL => ?_
  simp only [List.map_cons, List.map_nil] at hv
  obtain ⟨xv, kv, rfl, h1, h2⟩ := args2 hv
  have e0 := head_ats ht
  unfold deleteE at h
  split at h
  · rename_i id hx
    rw [hx] at h1
    split at h
    · rename_i hk
      obtain ⟨kt, et, d, hu, hd, hkd⟩ := keyT_ok hT hk
      obtain ⟨rfl, hp⟩ := okM_inv h
      unfold delO at hp
      split at hp
      · rename_i es clk hl
        cases hset : delMap (keyT T t) (opX E k) es with
        | none => rw [hset] at hp; cases hp
        | some z =>
          rw [hset] at hp
          cases hp
          obtain ⟨b, c, g1, g2⟩ := hs.obj id _ hl
          obtain ⟨es', g3, g4⟩ := RM.of_ro g2
          cases h1 with
          | map _ b' c' hr =>
            rw [g1] at hr
            cases hr
            rcases del_now hkd h2 es es'.toList 0 z g4 hset with ⟨j, v0, q1, q2⟩ | ⟨q1, q2⟩
            · obtain ⟨k1, k2, k3⟩ := putMap hs hl g1 g3 (clk2 := clk) (n' := es'.eraseIdxIfInBounds j) (by simpa using q2)
              refine ⟨_, _, ρ, fun ty cs => ?_, .tup' (RL.nil ρ), k2, k3⟩
              rw [Nat.zero_add] at q1
              simp [builtin, Builtin.delete_, e0, run_underlying hu, run_getObj_map _ _ _ _ g3, run_checkKey' hkd hd, run_findKey hd q1, k1]
            · obtain ⟨k1, k2, k3⟩ := putMap hs hl g1 g3 (clk2 := clk) (n' := es') q2
              refine ⟨_, _, ρ, fun ty cs => ?_, .tup' (RL.nil ρ), k2, k3⟩
              simp [builtin, Builtin.delete_, e0, run_underlying hu, run_getObj_map _ _ _ _ g3, run_checkKey' hkd hd, run_findKey hd q1, k1]
      · cases hp
    · cases h
  · cases h

theorem mkMap_run {m m' : Mem} {r : V} (h : mkMap m = .ok r m') {L : Nat} {ρ : Rho} {w : World} (hs : Sat L ρ m w) (hL : m'.n ≤ L) : ∃ ρ', RV ρ' (.map (some w.heap.size)) r ∧ Sat L ρ' m' (w.alloc (.map #[] 0)) ∧ Trans ρ ρ' m m' w (w.alloc (.map #[] 0)) := by
  cases h
  have hL' : m.n < L := hL
  obtain ⟨k1, k2⟩ := hs.add hL' (ob := .map #[] 0) (o := .map [] 0) 0 ⟨#[], by simp, rfl, fun i e p h => by simp at h⟩
  exact ⟨_, .map _ _ _ (upd_same _ _ _), k1, k2⟩

theorem op_makeMap (hT : TabOk P T) {E : Env} {m m' : Mem} {r : V} (t : TypeId) (o : Option Operand) (f : Act1) (hf : mapW T t o = .mk f) (h : f E m = .ok r m') : OpS P (.makeMap t o) E m r m' := by
  intro L ρ w ev ho hs hL
  cases o with
  | none =>
    cases hf
    obtain ⟨ρ', k1, k2, k3⟩ := mkMap_run h hs hL
    exact ⟨.value _, _, _, ρ', fun op e => by simp [execOp, e, Instr.makeMap], .inl rfl, k1, k2, k3⟩
  | some y =>
    cases hf
    simp only [a1, mapR] at h
    split at h
    · rename_i hc
      rw [Bool.and_eq_true] at hc
      obtain ⟨ρ', k1, k2, k3⟩ := mkMap_run h hs hL
      obtain ⟨kt, et, hu⟩ : ∃ kt et, P.underlying t = some (.map kt et) := by
        have := hc.1
        unfold isMapT at this
        split at this
        · rename_i kt et hu; exact ⟨kt, et, undT_ok hT hu⟩
        · cases this
      cases hi : toI (opX E y) with
      | none => rw [hi] at hc; cases hc.2
      | some p =>
        have := (ho y (by simp [Op.operands])).toI hi
        exact ⟨.value _, _, _, ρ', fun op e => by simp [execOp, e, Instr.makeMap, run_underlying hu, this, asInt, asIntOf], .inl rfl, k1, k2, k3⟩
    · cases h

end
end Ev
end Go.Proofs.YtaacgmcgmljjeaaGreat

/- The evaluator: every operation. -/
namespace Go.Proofs.YtaacgmcgmljjeaaGreat
namespace Ev
open Go.RowKit

section
variable {P : Program} {T : Tab}

theorem op_assert (hT : TabOk P T) {E : Env} {m m' : Mem} {r : V} (y : Operand) (xt t : TypeId) (ok : Bool) (h : assertE T t ok m (opX E y) = .ok r m') : OpS P (.typeAssert y xt t ok) E m r m' := by
  unfold assertE at h
  split at h
  · cases h
  · rename_i d hn hd
    have hd := undT_ok hT hd
    have hni : ∀ ms, d ≠ .interface ms := fun ms e => hn ms (by rw [e])
    have hzero : ∀ v, (∀ (ρ : Rho), RV ρ v .nili) → okO m ((zeroE T t).map (okT true false)) = .ok r m' → ok = true → opX E y = .nili → OpS P (.typeAssert y xt t ok) E m r m' := by
      clear h
      intro v _ h ho hy
      subst ho
      obtain ⟨g, rfl⟩ := okO_inv h
      cases hz : zeroE T t with
      | none => rw [hz] at g; cases g
      | some z =>
        rw [hz] at g
        cases g
        obtain ⟨i, zv, hi, hv, rfl⟩ := zeroE_ok hT hz
        refine op1 y (by simp [Op.operands]) fun ρ w v hv' => ?_
        rw [hy] at hv'
        cases hv'
        refine ⟨_, fun op ev e he => ?_, okT_rel (constV_rel ρ zv) true false⟩
        cases d with
        | interface ms => exact absurd rfl (hni ms)
        | _ => simp [execOp, e, he, Instr.typeAssert, run_underlying hd, run_zero hi hv]
    split at h
    · rename_i u v hy
      have holds : (Nat.beq u t) = true → OR.ok (okT ok true v) m = .ok r m' → OpS P (.typeAssert y xt t ok) E m r m' := by
        clear h
        intro hu h
        have hu := Nat.eq_of_beq_eq_true hu
        subst hu
        cases h
        refine op1 y (by simp [Op.operands]) fun ρ w v' hv' => ?_
        rw [hy] at hv'
        cases hv'
        rename_i vv hvv
        refine ⟨_, fun op ev e he => ?_, okT_rel hvv ok true⟩
        cases d with
        | interface ms => exact absurd rfl (hni ms)
        | _ => simp [execOp, e, he, Instr.typeAssert, run_underlying hd]
      split at h
      · rename_i hu
        exact holds hu h
      · rename_i hu
        have hne : u ≠ t := fun e => by subst e; rw [Nat.beq_refl] at hu; cases hu
        obtain ⟨g, rfl⟩ := okO_inv h
        cases hz : zeroE T t with
        | none => rw [hz] at g; cases g
        | some z =>
          rw [hz] at g
          cases g
          obtain ⟨i, zv, hi, hv, rfl⟩ := zeroE_ok hT hz
          refine op1 y (by simp [Op.operands]) fun ρ w v hv' => ?_
          rw [hy] at hv'
          cases hv'
          refine ⟨_, fun op ev e he => ?_, okT_rel (constV_rel ρ zv) true false⟩
          cases d with
          | interface ms => exact absurd rfl (hni ms)
          | _ => simp [execOp, e, he, Instr.typeAssert, run_underlying hd, run_zero hi hv, hne]
      · cases h
    · rename_i hy
      split at h
      · exact hzero .nilIface (fun _ => .nili) h rfl hy
      · cases h
    · cases h
  · cases h

theorem call_ok (hT : TabOk P T) (c : Call) (f : Act1) (hf : callW T c = .mk f) {E : Env} {m m' : Mem} {x : V} (h : f E m = .ok x m') : OpS P (.call c) E m x m' := by
  obtain ⟨callee, args, ts⟩ := c
  cases callee with
  | builtin b =>
    simp only [callW] at hf
    cases ha : args.toList with
    | nil =>
      rw [ha] at hf
      cases b <;> cases hf <;> cases h
    | cons y r =>
      rw [ha] at hf
      cases r with
      | nil =>
        have := toList1 ha
        subst this
        cases ht : ts.toList with
        | nil =>
          rw [ht] at hf
          cases b <;> cases hf <;> cases h
        | cons t rt =>
          rw [ht] at hf
          cases b <;> cases hf <;> first | exact op_len hT y ts ht h | exact op_cap hT y ts ht h | (cases h)
      | cons z r =>
        cases r with
        | nil =>
          have := toList2 ha
          subst this
          cases ht : ts.toList with
          | nil =>
            rw [ht] at hf
            cases b <;> cases hf <;> first | exact op_min y z ts h | exact op_max y z ts h | (cases h)
          | cons t rt =>
            cases rt with
            | nil =>
              rw [ht] at hf
              cases b <;> cases hf <;> first | exact op_min y z ts h | exact op_max y z ts h | exact op_copy hT y z ts ht h | exact op_delete hT y z ts ht h | (cases h)
            | cons u rt =>
              rw [ht] at hf
              cases b with
              | append =>
                simp only [builtW] at hf
                split at hf
                · rename_i hu; cases hf; exact op_append hT y z ts ht hu h
                · cases hf; cases h
              | _ => cases hf <;> first | exact op_min y z ts h | exact op_max y z ts h | exact op_copy hT y z ts ht h | exact op_delete hT y z ts ht h | (cases h)
        | cons _ _ => cases hf; cases h
  | value g => cases hf; simp only [callV] at h; split at h <;> cases h
  | invoke r nm => cases hf; cases h

/-- every operation that answers by itself -/
theorem opW_ok (hT : TabOk P T) (o : Op) (f : Act1) (hf : opW T o = .mk f) {E : Env} {m m' : Mem} {x : V} (h : f E m = .ok x m') : OpS P o E m x m' := by
  cases o with
  | move y => cases hf; cases h; exact op_move y
  | assign y => cases hf; cases h; exact op_assign y
  | pick c a b => cases hf; exact op_pick c a b h
  | alloc t => cases hf; exact op_alloc hT t h
  | box t y => cases hf; exact op_box hT t y h
  | build t ps => cases hf; exact op_build hT t ps h
  | buildSlice t len ps => cases hf; exact op_buildSlice hT t len ps h
  | load t y => cases hf; obtain ⟨g, rfl⟩ := okO_inv h; exact op_load hT t y g
  | store t y z => cases hf; exact op_store hT t y z h
  | nilCheck y => cases hf; exact op_nil y h
  | binOp op t y z u => cases hf; obtain ⟨g, rfl⟩ := okO_inv h; exact op_binE hT op t u y z g
  | unOp op t y =>
    cases op <;> cases hf <;> first | exact op_not t y h | exact op_neg t y h | (cases h)
  | convert s d y => cases hf; exact op_convert hT s d y h
  | makeInterface t y => cases hf; exact op_face hT t y h
  | makeFunc fn fs cs =>
    cases fn <;> cases hf <;> first | (cases h; exact op_makeFunc _ fs cs) | (cases h)
  | makeMap t o => exact op_makeMap hT t o f hf h
  | makeSlice t l c => cases hf; exact op_makeSlice hT t l c h
  | slice t y lo hi mx => cases hf; obtain ⟨g, rfl⟩ := okO_inv h; exact op_slice hT t y lo hi mx g
  | fieldAddr t y f => cases hf; exact op_fieldAddr hT t y f h
  | field t y f => cases hf; exact op_field hT t y f h
  | indexAddr t y z => cases hf; exact op_indexAddr hT t y z h
  | index t y z => cases hf; exact op_index hT t y z h
  | lookup t y z ok => cases hf; exact op_lookup hT t y z ok h
  | mapUpdate t y k z => cases hf; exact op_mapUpdate hT t y k z h
  | insert t y k z => cases hf; exact op_insert hT t y k z h
  | typeAssert y xt t ok => cases hf; exact op_assert hT y xt t ok h
  | extract y i => cases hf; exact op_extract y i h
  | call c => exact call_ok hT c f hf h
  | defer c =>
    obtain ⟨callee, args, ts⟩ := c
    cases callee with
    | value g => cases hf; simp only [deferV] at h; split at h <;> cases h
    | _ => cases hf; cases h
  | panic y => cases hf; simp only [panE] at h; split at h <;> cases h
  | _ => cases hf; cases h

/-! ### operations that need the machine -/
/-- the blocks of m stand in w; no name from m.n on has been given -/
structure SatI (ρ : Rho) (m : Mem) (w : World) : Prop where
  fresh : ∀ id, m.n ≤ id → ρ id = none
  inj : ∀ i j b c c', look m i ≠ none → look m j ≠ none → ρ i = some (b, c) → ρ j = some (b, c') → i = j
  obj : ∀ id o, look m id = some o → ∃ b c, ρ id = some (b, c) ∧ RO ρ w b c o
theorem SatI.sat {ρ : Rho} {m : Mem} {w : World} (h : SatI ρ m w) (L : Nat) : Sat L ρ m w := ⟨fun id h1 _ => h.fresh id h1, h.inj, h.obj⟩
theorem SatI.of {L : Nat} {ρ ρ' : Rho} {m m' : Mem} {w w' : World} (h : SatI ρ m w) (hs : Sat L ρ' m' w') (ht : Trans ρ ρ' m m' w w') : SatI ρ' m' w' :=
  ⟨fun id hid => by
    cases hr : ρ' id with
    | none => rfl
    | some p =>
      rcases ht.dom id (by rw [hr]; simp) with h1 | h1
      · exact absurd (h.fresh id (Nat.le_trans ht.mono hid)) h1
      · omega, hs.inj, hs.obj⟩

theorem OpS.inf {o : Op} {E : Env} {m m' : Mem} {x : V} (h : OpS P o E m x m') {ρ : Rho} {w : World} {ev : Operand → Value} (ho : ∀ y, y ∈ o.operands.toList → RV ρ (ev y) (opX E y)) (hs : SatI ρ m w) :
    ∃ nx v w' ρ', (∀ op : Oper, op.op = o → (execOp ev op).run P w = .ok nx w') ∧ (nx = .value v ∨ (nx = .skip ∧ v = undef)) ∧ RV ρ' v x ∧ SatI ρ' m' w' ∧ Trans ρ ρ' m m' w w' := by
  obtain ⟨nx, v, w', ρ', h1, h2, h3, h4, h5⟩ := h m'.n ρ w ev ho (hs.sat _) (Nat.le_refl _)
  exact ⟨nx, v, w', ρ', h1, h2, h3, hs.of h4 h5, h5⟩

/-- a function that can be entered -/
def Enters (P : Program) (f : FuncId) : Prop := ∃ fn, P.funcs[f]? = some fn ∧ (fn.name == "runtime.NumGoroutine") = false ∧ fn.body.isNone = false
theorem run_callFunc {f : FuncId} (h : Enters P f) (vals : Array Value) (w : World) : (callFunc f vals).run P w = .ok (.enter f vals) w := by
  obtain ⟨fn, h1, h2, h3⟩ := h
  have h2' : fn.name ≠ "runtime.NumGoroutine" := by simpa using h2
  have h3' : fn.body ≠ none := by intro e; rw [e] at h3; cases h3
  simp [callFunc, h1, h2', h3']

/-- a deferred call -/
def DfC (ρ : Rho) (f : FuncId) (args : List V) (d : Deferred) : Prop := ∃ caps, d.target = .fn (.func f) caps ∧ RL ρ (d.args ++ caps).toList args

/-- what is claimed of an operation that needs the machine -/
def XS (P : Program) (o : Op) (E : Env) (m : Mem) : XR → Prop
  | .call f args => ∀ ρ (w : World) ev, (∀ y, y ∈ o.operands.toList → RV ρ (ev y) (opX E y)) → Enters P f → ∃ vals, (∀ op : Oper, op.op = o → (execOp ev op).run P w = .ok (.enter f vals) w) ∧ RL ρ vals.toList args
  | .round l args => ∀ ρ ev, (∀ y, y ∈ o.operands.toList → RV ρ (ev y) (opX E y)) → ∃ b c vals, ρ l = some (b, c) ∧ RL ρ vals.toList args ∧ ∀ op : Oper, op.op = o → execOp ev op = Instr.yield b vals
  | .pan v => ∀ ρ (w : World) ev, (∀ y, y ∈ o.operands.toList → RV ρ (ev y) (opX E y)) → ∃ u, (∀ op : Oper, op.op = o → (execOp ev op).run P w = .halt (.panic u) w) ∧ RV ρ u v
  | .defer f args => ∀ ρ (w : World) ev, (∀ y, y ∈ o.operands.toList → RV ρ (ev y) (opX E y)) → ∃ d, (∀ op : Oper, op.op = o → (execOp ev op).run P w = .ok (.defer d) w ∧ ∃ c : Call, op.op = .defer c) ∧ DfC ρ f args d
  | .recover => ∀ (w : World) ev, ∀ op : Oper, op.op = o → (execOp ev op).run P w = .ok .recover w
  | .no _ => True

theorem args_rl {ρ : Rho} {E : Env} {ev : Operand → Value} {ys : Array Operand} (h : ∀ y, y ∈ ys.toList → RV ρ (ev y) (opX E y)) : RL ρ (ys.map ev).toList (ys.toList.map (opX E)) := by
  rw [Array.toList_map]
  exact RL.map ev (opX E) ys.toList h

theorem opX_ext (o : Op) (hx : isX o = true) (f : Act1) (hf : opW T o = .mk f) {E : Env} {m : Mem} {r : XR} (h : f E m = .ext r) : XS P o E m r := by
  cases o with
  | call c =>
    obtain ⟨callee, args, ts⟩ := c
    cases callee with
    | builtin b =>
      cases b with
      | recover =>
        simp only [opW, callW] at hf
        cases ha : args.toList with
        | nil =>
          rw [ha] at hf
          cases hf
          cases h
          intro w ev op e
          simp [execOp, e, resolve, invoke, builtin]
        | cons y r' =>
          rw [ha] at hf
          cases r' with
          | nil => cases hf; cases h; trivial
          | cons z r' =>
            cases r' with
            | nil => cases hf; cases h; trivial
            | cons _ _ => cases hf; cases h; trivial
      | _ => cases hx
    | value g =>
      cases hf
      simp only [callV] at h
      split at h
      · rename_i g' fs cs hg
        cases h
        intro ρ w ev ho he
        have hv := ho g (by simp [Op.operands, Call.operands])
        rw [hg] at hv
        obtain ⟨fv, cv, e1, h1, h2⟩ := hv.func_inv
        have h3 := args_rl (ρ := ρ) (E := E) (ev := ev) (ys := args) fun y hy => ho y (by simp [Op.operands, Call.operands]; exact .inr (by simpa using hy))
        refine ⟨fv ++ args.map ev ++ cv, fun op e => ?_, ?_⟩
        · simp [execOp, e, resolve, e1, Deferred.ofValue, invoke, run_callFunc he]
        · rw [Array.toList_append, Array.toList_append, List.append_assoc]
          exact h1.append (h3.append h2)
      · rename_i l hg
        cases h
        intro ρ ev ho
        have hv := ho g (by simp [Op.operands, Call.operands])
        rw [hg] at hv
        generalize hy : ev g = y at hv
        cases hv with
        | yield _ b c hr =>
          refine ⟨b, c, args.map ev, hr, args_rl fun y hy => ho y (by simp [Op.operands, Call.operands]; exact .inr (by simpa using hy)), fun op e => ?_⟩
          simp [execOp, e, resolve, hy, Deferred.ofValue, invoke]
      · cases h; trivial
    | invoke r nm => cases hf; cases h; trivial
  | defer c =>
    obtain ⟨callee, args, ts⟩ := c
    cases callee with
    | value g =>
      cases hf
      simp only [deferV] at h
      split at h
      · rename_i g' fs cs hg
        cases h
        intro ρ w ev ho
        have hv := ho g (by simp [Op.operands, Call.operands])
        rw [hg] at hv
        obtain ⟨fv, cv, e1, h1, h2⟩ := hv.func_inv
        have h3 := args_rl (ρ := ρ) (E := E) (ev := ev) (ys := args) fun y hy => ho y (by simp [Op.operands, Call.operands]; exact .inr (by simpa using hy))
        refine ⟨{ target := .fn (.func g') cv, args := fv ++ args.map ev }, fun op e => ⟨?_, _, e⟩, cv, rfl, ?_⟩
        · simp [execOp, e, resolve, e1, Deferred.ofValue]
        · rw [Array.toList_append, Array.toList_append, List.append_assoc]
          exact h1.append (h3.append h2)
      · cases h; trivial
    | _ => cases hf; cases h; trivial
  | panic y =>
    cases hf
    simp only [panE] at h
    split at h
    · rename_i t v hy
      cases h
      intro ρ w ev ho
      have hv := ho y (by simp [Op.operands])
      rw [hy] at hv
      generalize he : ev y = u at hv
      cases hv with
      | iface _ vv _ hvv =>
        refine ⟨.iface t vv, fun op e => ?_, .iface _ _ _ hvv⟩
        simp [execOp, e, he, Instr.panic, goPanic]
    · cases h; trivial
  | _ => cases hx

end
end Ev
end Go.Proofs.YtaacgmcgmljjeaaGreat

/- The evaluator: frames, and regions that are run in the text's order. -/
namespace Go.Proofs.YtaacgmcgmljjeaaGreat
namespace Ev
open Go.RowKit

section
variable {P : Program} {T : Tab}

/-! ### what frames stand for -/
inductive IR (ρ : Rho) (n : Nat) : It → Item → Prop where
  | code (c : Code) (h : okC n c = true) : IR ρ n (.code c) (.code c)
  | blk (id : Nat) : IR ρ n (.blk id) (.inBlock id)
  | lp (c : Code) (h : okC n c = true) : IR ρ n (.lp c) (.inLoop c)
  | scp (c : Code) : IR ρ n (.scp c) (.inScope c)
  | reg (id : Nat) (all : Array Oper) (j : Nat) (h : okOps n all = true) : IR ρ n (.reg id all (all.toList.drop j)) (.inRegion all (List.range' j (all.size - j)))
  | rf (l b c : Nat) (h : ρ l = some (b, c)) : IR ρ n (.rf l) (.inRangeFunc b)
  | erf (l b c : Nat) (h : ρ l = some (b, c)) : IR ρ n (.erf l) (.endRangeFunc b)
  | br : IR ρ n .br .beginRound
inductive TR (ρ : Rho) (n : Nat) : List It → List Item → Prop where
  | nil : TR ρ n [] []
  | cons {i : It} {t : Item} {is : List It} {ts : List Item} (h : IR ρ n i t) (hr : TR ρ n is ts) : TR ρ n (i :: is) (t :: ts)
inductive DfR (ρ : Rho) : Df → Deferred → Prop where
  | call (f : FuncId) (args : List V) (d : Deferred) (h : DfC ρ f args d) : DfR ρ (.call f args) d
  | mark (id b c : Nat) (h : ρ id = some (b, c)) : DfR ρ (.mark id) { target := .collected b, args := #[] }
inductive DL (ρ : Rho) : List Df → List Deferred → Prop where
  | nil : DL ρ [] []
  | cons {i : Df} {t : Deferred} {is : List Df} {ts : List Deferred} (h : DfR ρ i t) (hr : DL ρ is ts) : DL ρ (i :: is) (t :: ts)
inductive ChR (ρ : Rho) : List (V × Bool) → List PanicEntry → Prop where
  | nil : ChR ρ [] []
  | cons {x : V} {b : Bool} {v : Value} {is : List (V × Bool)} {ts : List PanicEntry} (h : RV ρ v x) (hr : ChR ρ is ts) : ChR ρ ((x, b) :: is) ({ v := v, recovered := b } :: ts)
inductive MdR (ρ : Rho) : Md → FrameMode → Prop where
  | run : MdR ρ .run .run
  | ret : MdR ρ .ret .returning
  | pan {c : List (V × Bool)} {ch : List PanicEntry} (h : ChR ρ c ch) : MdR ρ (.pan c) (.panicking ch)
def RndR (ρ : Rho) : Option Nat → Option Nat → Prop
  | none, r => r = none
  | some l, r => ∃ b c, ρ l = some (b, c) ∧ r = some b

theorem IR.ext {ρ ρ' : Rho} {n n' : Nat} {i : It} {t : Item} (h : IR ρ n i t) (he : Ext ρ ρ') (hn : n' = n) : IR ρ' n' i t := by
  subst hn
  cases h with
  | code c h => exact .code c h
  | blk id => exact .blk id
  | lp c h => exact .lp c h
  | scp c => exact .scp c
  | reg id all j h => exact .reg id all j h
  | rf l b c h => exact .rf l b c (he _ _ h)
  | erf l b c h => exact .erf l b c (he _ _ h)
  | br => exact .br
theorem TR.ext {ρ ρ' : Rho} {n n' : Nat} {i : List It} {t : List Item} (h : TR ρ n i t) (he : Ext ρ ρ') (hn : n' = n) : TR ρ' n' i t := by
  induction h with
  | nil => exact .nil
  | cons h _ ih => exact .cons (h.ext he hn) ih
theorem DfR.ext {ρ ρ' : Rho} {i : Df} {t : Deferred} (h : DfR ρ i t) (he : Ext ρ ρ') : DfR ρ' i t := by
  cases h with
  | call f args _ h => exact .call f args _ (let ⟨c, h1, h2⟩ := h; ⟨c, h1, h2.ext he⟩)
  | mark id b c h => exact .mark id b c (he _ _ h)
theorem DL.ext {ρ ρ' : Rho} {i : List Df} {t : List Deferred} (h : DL ρ i t) (he : Ext ρ ρ') : DL ρ' i t := by
  induction h with
  | nil => exact .nil
  | cons h _ ih => exact .cons (h.ext he) ih
theorem ChR.ext {ρ ρ' : Rho} {i : List (V × Bool)} {t : List PanicEntry} (h : ChR ρ i t) (he : Ext ρ ρ') : ChR ρ' i t := by
  induction h with
  | nil => exact .nil
  | cons h _ ih => exact .cons (h.ext he) ih
theorem MdR.ext {ρ ρ' : Rho} {i : Md} {t : FrameMode} (h : MdR ρ i t) (he : Ext ρ ρ') : MdR ρ' i t := by
  cases h with
  | run => exact .run
  | ret => exact .ret
  | pan h => exact .pan (h.ext he)
theorem RndR.ext {ρ ρ' : Rho} {i t : Option Nat} (h : RndR ρ i t) (he : Ext ρ ρ') : RndR ρ' i t := by
  cases i with
  | none => exact h
  | some l => obtain ⟨b, c, h1, h2⟩ := h; exact ⟨b, c, he _ _ h1, h2⟩
theorem RE.ext {ρ ρ' : Rho} {ts : Array Value} {E : Env} (h : RE ρ ts E) (he : Ext ρ ρ') : RE ρ' ts E := fun t => (h t).ext he

structure FrR (ρ : Rho) (fn : FuncId) (E : Env) (todo : List It) (dfs : List Df) (md : Md) (df : Bool) (rnd : Option Nat) (fr : Frame) : Prop where
  fn : fr.fn = fn
  env : RE ρ fr.tmps E
  todo : md = .run → TR ρ fr.tmps.size todo fr.todo
  dfs : DL ρ dfs fr.defers
  mode : MdR ρ md fr.mode
  kind : fr.kind = if df then .deferred else .normal
  rnd : RndR ρ rnd fr.roundOf
theorem FrR.ext {ρ ρ' : Rho} {fn : FuncId} {E : Env} {todo : List It} {dfs : List Df} {md : Md} {df : Bool} {rnd : Option Nat} {fr : Frame} (h : FrR ρ fn E todo dfs md df rnd fr) (he : Ext ρ ρ') : FrR ρ' fn E todo dfs md df rnd fr :=
  ⟨h.fn, h.env.ext he, fun e => (h.todo e).ext he rfl, h.dfs.ext he, h.mode.ext he, h.kind, h.rnd.ext he⟩
inductive CsR (ρ : Rho) (base : List Frame) : List Fr → List Frame → Prop where
  | nil : CsR ρ base [] base
  | cons {c : Fr} {fr : Frame} {cs : List Fr} {frs : List Frame} (h : FrR ρ c.fn c.E c.todo c.dfs c.mode c.df c.rnd fr) (hr : CsR ρ base cs frs) : CsR ρ base (c :: cs) (fr :: frs)
theorem CsR.ext {ρ ρ' : Rho} {base : List Frame} {cs : List Fr} {frs : List Frame} (h : CsR ρ base cs frs) (he : Ext ρ ρ') : CsR ρ' base cs frs := by
  induction h with
  | nil => exact .nil
  | cons h _ ih => exact .cons (h.ext he) ih

def actOf (fr : Frame) : Act := ⟨fr.tmps, fr.defers⟩
theorem FrR.run {ρ : Rho} {fn : FuncId} {E : Env} {todo : List It} {dfs : List Df} {df : Bool} {rnd : Option Nat} {fr : Frame} (h : FrR ρ fn E todo dfs .run df rnd fr) : fr.atR (actOf fr) fr.todo = fr := by
  have hm := h.mode
  generalize e : fr.mode = md at hm
  cases hm
  cases fr
  simp only at e
  subst e
  rfl
/-- the frame goes on -/
theorem FrR.go {ρ ρ' : Rho} {fn : FuncId} {E E' : Env} {todo todo' : List It} {dfs dfs' : List Df} {df : Bool} {rnd : Option Nat} {fr : Frame} (h : FrR ρ fn E todo dfs .run df rnd fr) (he : Ext ρ ρ') {a : Act} {items : List Item} (henv : RE ρ' a.tmps E') (htodo : TR ρ' a.tmps.size todo' items) (hd : DL ρ' dfs' a.defers) : FrR ρ' fn E' todo' dfs' .run df rnd (fr.atR a items) :=
  ⟨h.fn, henv, fun _ => htodo, hd, .run, h.kind, h.rnd.ext he⟩
/-- the frame goes on with other things to do -/
theorem FrR.at {ρ : Rho} {fn : FuncId} {E : Env} {todo todo' : List It} {dfs : List Df} {df : Bool} {rnd : Option Nat} {fr : Frame} (h : FrR ρ fn E todo dfs .run df rnd fr) {items : List Item} (htodo : TR ρ fr.tmps.size todo' items) : FrR ρ fn E todo' dfs .run df rnd (fr.atR (actOf fr) items) :=
  h.go (Ext.refl ρ) h.env htodo h.dfs

/-! ### slots -/
theorem get_cons (t : Nat) (x : V) (E : Env) (j : Nat) : get ((t, x) :: E) j = if j = t then x else get E j := by
  show (match Nat.beq t j with | true => x | false => get E j) = _
  cases h : Nat.beq t j with
  | true => rw [if_pos (Nat.eq_of_beq_eq_true h).symm]
  | false => rw [if_neg (fun e => by subst e; rw [Nat.beq_refl] at h; cases h)]
theorem RE.put {ρ : Rho} {ts : Array Value} {E : Env} (h : RE ρ ts E) {t : Nat} {v : Value} {x : V} (hv : RV ρ v x) (ht : t < ts.size) : RE ρ (ts.setIfInBounds t v) ((t, x) :: E) := fun j => by
  rw [get_cons]
  by_cases e : j = t
  · subst e
    rw [if_pos rfl]
    have : (ts.setIfInBounds j v).getD j undef = v := by simp [Array.getD, ht]
    rw [this]; exact hv
  · rw [if_neg e]
    have : (ts.setIfInBounds t v).getD j undef = ts.getD j undef := by
      simp [Array.getD_eq_getD_getElem?, Array.getElem?_setIfInBounds_ne (Ne.symm e)]
    rw [this]; exact h j

theorem eval_rel {ρ : Rho} {a : Act} {E : Env} (h : RE ρ a.tmps E) (y : Operand) : RV ρ (a.eval y) (opX E y) := by
  cases y with
  | tmp t => exact h t
  | const v => exact constV_rel ρ v
  | func f => exact .func' (RL.nil ρ) (RL.nil ρ)
  | global g => exact .any _

theorem okOps_dst {n : Nat} {all : Array Oper} (h : okOps n all = true) {j : Nat} {o : Oper} (ho : all[j]? = some o) {d : Nat} (hd : o.dst = some d) : d < n := by
  unfold okOps at h
  rw [List.all_eq_true] at h
  have := h o (by rw [Array.mem_toList_iff]; exact Array.mem_of_getElem? ho)
  unfold okD at this
  rw [hd] at this
  exact Nat.le_of_ble_eq_true this

/-! ### guards -/
theorem want_true {ρ : Rho} {ts : Array Value} {E : Env} (he : RE ρ ts E) {all : Array Oper} (hall : okOps ts.size all = true) {j g : Nat} {w : Bool} (hg : dstOf all j = some g) {b : Bool} (h : wantE w (get E g) = some b) : (yielded all ts j == some w) = b := by
  unfold dstOf at hg
  cases ho : all.toList[j]? with
  | none => rw [ho] at hg; cases hg
  | some o =>
    rw [ho] at hg
    have hg' : o.dst = some g := hg
    have ho' : all[j]? = some o := by simpa using ho
    have hlt := okOps_dst hall ho' hg'
    have hv := he g
    have hy : yielded all ts j = match ts.getD g undef with | .bool b => some b | _ => none := by
      unfold yielded
      rw [ho']
      simp only [Option.bind_some, hg']
      have : ts[g]? = some (ts.getD g undef) := by simp [Array.getD, hlt]
      rw [this]
      cases ts.getD g undef <;> rfl
    rw [hy]
    unfold wantE at h
    split at h
    · rename_i c hc
      cases h
      rw [hc] at hv
      rw [hv.bool_inv]
      cases c <;> cases w <;> rfl
    · rename_i vs hc
      split at h
      · cases h
        rw [hc] at hv
        obtain ⟨cs, e, hl⟩ := hv.tup_inv
        rw [e]
        rfl
      · cases h
    · cases h

theorem not_defer {o : Op} {f : Act1} (hf : opW T o = .mk f) {E : Env} {m m' : Mem} {x : V} (h : f E m = .ok x m') : ∀ c, o ≠ .defer c := by
  rintro c rfl
  obtain ⟨callee, args, ts⟩ := c
  cases callee with
  | value g => cases hf; simp only [deferV] at h; split at h <;> cases h
  | _ => cases hf; cases h

/-- one operation -/
theorem op_step (hT : TabOk P T) {ρ : Rho} {fn : FuncId} {E : Env} {dfs : List Df} {df : Bool} {rnd : Option Nat} {todo : List It} {fr : Frame} {cs : List Frame} {w : World} {m m' : Mem} (hfr : FrR ρ fn E todo dfs .run df rnd fr) (hs : SatI ρ m w) {all : Array Oper} {i : Nat} {rest : List Nat} {k : List Item} (hk : fr.todo = .inRegion all (i :: rest) :: k)
    {o : Oper} (ho : all[i]? = some o) (hw : Region.wanted o (yielded all fr.tmps) = true) {f : Act1} (hf : opW T o.op = .mk f) {x : V} (h : f E m = .ok x m') :
    ∃ w' ρ' v, step P (lone fr cs w) = .next (lone (fr.atR ((actOf fr).put o.dst v) (.inRegion all rest :: k)) cs w') ∧ RV ρ' v x ∧ SatI ρ' m' w' ∧ Trans ρ ρ' m m' w w' := by
  obtain ⟨nx, v, w', ρ', h1, h2, h3, h4, h5⟩ := (opW_ok (P := P) hT o.op f hf h).inf (ev := (actOf fr).eval) (fun y _ => eval_rel (a := actOf fr) hfr.env y) hs
  refine ⟨w', ρ', v, ?_, h3, h4, h5⟩
  have hrun := hfr.run
  rw [hk] at hrun
  have hg := stepGR_op (P := P) (b := fr) (a := actOf fr) (k := k) (cs := cs) (w := w) (rest := rest) ho hw
  rw [Oper.semAt_eq _ _ _ (not_defer hf h)] at hg
  have hfin : ∀ v, (fr.atR (actOf fr) (.inRegion all (i :: rest) :: k)).finish v = fr.atR ((actOf fr).put o.dst v) (.inRegion all rest :: k) := by
    intro v; rw [Frame.finish_atR, ho]; rfl
  have hr := h1 o rfl
  rw [← hrun]
  rw [hrun] at hg ⊢
  refine step_lone_go ?_
  rw [hrun] at hfin
  rcases h2 with rfl | ⟨rfl, rfl⟩
  · rw [hg, ← hfin]; simp [stepG.apply, hr]
  · rw [hg, ← hfin]; simp [stepG.apply, hr]

/-- one operation that is passed by -/
theorem op_pass {ρ : Rho} {fn : FuncId} {E : Env} {dfs : List Df} {df : Bool} {rnd : Option Nat} {todo : List It} {fr : Frame} {cs : List Frame} {w : World} (hfr : FrR ρ fn E todo dfs .run df rnd fr) {all : Array Oper} {i : Nat} {rest : List Nat} {k : List Item} (hk : fr.todo = .inRegion all (i :: rest) :: k)
    {o : Oper} (ho : all[i]? = some o) (hw : Region.wanted o (yielded all fr.tmps) = false) :
    step P (lone fr cs w) = .next (lone (fr.atR ((actOf fr).put o.dst undef) (.inRegion all rest :: k)) cs w) := by
  have hrun := hfr.run
  rw [hk] at hrun
  have := stepR_op_skip (P := P) (b := fr) (a := actOf fr) (k := k) (cs := cs) (w := w) (ops := all) (i := i) (rest := rest) (by rw [ho]; exact hw)
  rw [hrun, ho] at this
  exact this

theorem put_env {ρ ρ' : Rho} {fr : Frame} {E : Env} (he : RE ρ fr.tmps E) (hx : Ext ρ ρ') {v : Value} {x : V} (hv : RV ρ' v x) {d : Option Nat} (hd : ∀ t, d = some t → t < fr.tmps.size) : RE ρ' ((actOf fr).put d v).tmps (put d x E) ∧ ((actOf fr).put d v).tmps.size = fr.tmps.size ∧ ((actOf fr).put d v).defers = fr.defers := by
  cases d with
  | none => exact ⟨he.ext hx, rfl, rfl⟩
  | some t => exact ⟨(he.ext hx).put hv (hd t rfl), by simp [Act.put, actOf], rfl⟩

theorem range_cons {all : Array Oper} {j : Nat} {o : Oper} {os : List Oper} (h : all.toList.drop j = o :: os) : all[j]? = some o ∧ List.range' j (all.size - j) = j :: List.range' (j + 1) (all.size - (j + 1)) ∧ os = all.toList.drop (j + 1) := by
  have hlt : j < all.toList.length := by
    rcases Nat.lt_or_ge j all.toList.length with h1 | h1
    · exact h1
    · rw [List.drop_eq_nil_of_le h1] at h; cases h
  rw [List.drop_eq_getElem_cons hlt] at h
  obtain ⟨h1, h2⟩ := List.cons.inj h
  have hlt' : j < all.size := by simpa using hlt
  refine ⟨by rw [← h1]; simp [hlt'], ?_, h2.symm⟩
  rw [show all.size - j = (all.size - (j + 1)) + 1 by omega]
  rfl

/-- what has been reached when a region's operations have been run -/
def RegR (P : Program) (T : Tab) (ρ : Rho) (fn : FuncId) (dfs : List Df) (df : Bool) (rnd : Option Nat) (cs : List Frame) (w : World) (m : Mem) (id : Nat) (all : Array Oper) (k : List It) (fr : Frame) : SR → Prop
  | .fin E' m' => ∃ fr' w' ρ', Steps P (lone fr cs w) (lone fr' cs w') ∧ FrR ρ' fn E' k dfs .run df rnd fr' ∧ SatI ρ' m' w' ∧ Trans ρ ρ' m m' w w' ∧ fr'.tmps.size = fr.tmps.size
  | .out xr os o E' m' => isX o.op = true → (∃ n, xr = .no n) ∨ ∃ fr' w' ρ' i ks, Steps P (lone fr cs w) (lone fr' cs w') ∧ FrR ρ' fn E' (.reg id all (o :: os) :: k) dfs .run df rnd fr' ∧ SatI ρ' m' w' ∧ Trans ρ ρ' m m' w w' ∧
      fr'.todo = .inRegion all (List.range' i (all.size - i)) :: ks ∧ all.toList.drop i = o :: os ∧ Region.wanted o (yielded all fr'.tmps) = true ∧ XS P o.op E' m' xr ∧ TR ρ' fr'.tmps.size k ks ∧ okOps fr'.tmps.size all = true

theorem RegR.step {ρ ρ1 : Rho} {fn : FuncId} {dfs : List Df} {df : Bool} {rnd : Option Nat} {cs : List Frame} {w w1 : World} {m m1 : Mem} {id : Nat} {all : Array Oper} {k : List It} {fr fr1 : Frame} {r : SR} (hst : step P (lone fr cs w) = .next (lone fr1 cs w1)) (ht : Trans ρ ρ1 m m1 w w1) (hz : fr1.tmps.size = fr.tmps.size) (h : RegR P T ρ1 fn dfs df rnd cs w1 m1 id all k fr1 r) : RegR P T ρ fn dfs df rnd cs w m id all k fr r := by
  cases r with
  | fin E' m' => exact let ⟨fr', w', ρ', h1, h2, h3, h4, h5⟩ := h; ⟨fr', w', ρ', .head hst h1, h2, h3, ht.trans h4, h5.trans hz⟩
  | out xr os o E' m' =>
    intro hx
    rcases h hx with h | ⟨fr', w', ρ', i, ks, h1, h2, h3, h4, h5⟩
    · exact .inl h
    · exact .inr ⟨fr', w', ρ', i, ks, .head hst h1, h2, h3, ht.trans h4, h5⟩

theorem ops_sim (hT : TabOk P T) {fn : FuncId} {dfs : List Df} {df : Bool} {rnd : Option Nat} {cs : List Frame} {id : Nat} {all : Array Oper} {k : List It} : ∀ (os : List Oper) (i : Nat) (ρ : Rho) (E : Env) (m : Mem) (w : World) (fr : Frame) (ks : List Item),
    all.toList.drop i = os → fr.todo = .inRegion all (List.range' i (all.size - i)) :: ks → TR ρ fr.tmps.size k ks → okOps fr.tmps.size all = true → FrR ρ fn E (.reg id all os :: k) dfs .run df rnd fr → SatI ρ m w → RegR P T ρ fn dfs df rnd cs w m id all k fr (opsE T all os E m)
  | [], i, ρ, E, m, w, fr, ks, hd, ht, hk, hall, hfr, hs => by
    have hlen : all.size - i = 0 := by
      have := congrArg List.length hd
      simpa using this
    rw [hlen] at ht
    have hrun := hfr.run
    rw [ht] at hrun
    have := stepR_region_end (P := P) (b := fr) (a := actOf fr) (k := ks) (cs := cs) (w := w) (ops := all)
    have ht' : fr.atR (actOf fr) (.inRegion all [] :: ks) = fr := hrun
    rw [ht'] at this
    exact ⟨_, w, ρ, .one this, hfr.at hk, hs, Trans.refl ρ m w, rfl⟩
  | o :: os, i, ρ, E, m, w, fr, ks, hd, ht, hk, hall, hfr, hs => by
    obtain ⟨ho, hr, hos⟩ := range_cons hd
    have ht0 := ht
    rw [hr] at ht
    have hdst : ∀ t, o.dst = some t → t < fr.tmps.size := fun t h => okOps_dst hall ho h
    -- behind an operation
    have next : ∀ (w' : World) (ρ' : Rho) (v : Value) (x : V) (m' : Mem), step P (lone fr cs w) = .next (lone (fr.atR ((actOf fr).put o.dst v) (.inRegion all (List.range' (i + 1) (all.size - (i + 1))) :: ks)) cs w') → RV ρ' v x → SatI ρ' m' w' → Trans ρ ρ' m m' w w' →
        RegR P T ρ fn dfs df rnd cs w m id all k fr (opsE T all os (put o.dst x E) m') := by
      intro w' ρ' v x m' h1 h2 h3 h4
      obtain ⟨e1, e2, e3⟩ := put_env hfr.env h4.ext h2 hdst
      refine RegR.step h1 h4 e2 (ops_sim hT os (i + 1) ρ' (put o.dst x E) m' w' _ ks hos.symm rfl ?_ ?_ ?_ h3)
      · exact hk.ext h4.ext e2
      · show okOps ((actOf fr).put o.dst v).tmps.size all = true
        rw [e2]; exact hall
      · refine hfr.go h4.ext e1 ?_ (by rw [e3]; exact hfr.dfs.ext h4.ext)
        refine .cons ?_ (hk.ext h4.ext e2)
        rw [hos]
        exact .reg id all (i + 1) (by rw [e2]; exact hall)
    -- an operation that needs the machine
    have ext : ∀ (f : Act1) xr, opW T o.op = .mk f → f E m = .ext xr → Region.wanted o (yielded all fr.tmps) = true → RegR P T ρ fn dfs df rnd cs w m id all k fr (.out xr os o E m) := by
      intro f xr hf h hw hx
      exact .inr ⟨fr, w, ρ, i, ks, Steps.refl P _, hfr, hs, Trans.refl ρ m w, ht0, hd, hw, opX_ext o.op hx f hf h, hk, hall⟩
    unfold opsE
    obtain ⟨f, hf⟩ : ∃ f, opW T o.op = .mk f := ⟨_, (show opW T o.op = .mk (match opW T o.op with | .mk f => f) from by cases opW T o.op; rfl)⟩
    have hp : prep T all o = prepF all o (.mk f) := by unfold prep; rw [hf]
    rw [hp]
    cases hg : o.guard with
    | none =>
      have hw : Region.wanted o (yielded all fr.tmps) = true := by simp [Region.wanted, hg]
      have hp2 : prepF all o (.mk f) = prepD f o.dst := by simp only [prepF, hg]
      rw [hp2]
      cases hdd : o.dst with
      | some t =>
        simp only [prepD]
        cases hfe : f E m with
        | ok x m' =>
          simp only
          obtain ⟨w', ρ', v, h1, h2, h3, h4⟩ := op_step hT hfr hs ht ho hw hf hfe (cs := cs)
          have := next w' ρ' v x m' h1 h2 h3 h4
          rw [hdd] at this
          exact this
        | ext xr => exact ext f xr hf hfe hw
      | none =>
        simp only [prepD]
        cases hfe : f E m with
        | ok x m' =>
          simp only
          obtain ⟨w', ρ', v, h1, h2, h3, h4⟩ := op_step hT hfr hs ht ho hw hf hfe (cs := cs)
          have := next w' ρ' v x m' h1 h2 h3 h4
          rw [hdd] at this
          exact this
        | ext xr => exact ext f xr hf hfe hw
    | some p =>
      have hp2 : prepF all o (.mk f) = prepG all f o.dst p := by simp only [prepF, hg]
      rw [hp2]
      unfold prepG
      cases hdo : dstOf all p.1 with
      | none => intro hx; exact .inl ⟨_, rfl⟩
      | some g =>
        simp only
        cases hwe : wantE p.2 (get E g) with
        | none => intro hx; exact .inl ⟨_, rfl⟩
        | some b =>
          have hw : Region.wanted o (yielded all fr.tmps) = b := by
            have := want_true hfr.env hall hdo hwe
            simp only [Region.wanted, hg]
            exact this
          cases b with
          | true =>
            simp only
            cases hfe : f E m with
            | ok x m' =>
              simp only
              obtain ⟨w', ρ', v, h1, h2, h3, h4⟩ := op_step hT hfr hs ht ho hw hf hfe (cs := cs)
              exact next w' ρ' v x m' h1 h2 h3 h4
            | ext xr => exact ext f xr hf hfe hw
          | false =>
            simp only
            exact next w ρ undef (.tup []) m (op_pass hfr ht ho hw) (.tup' (RL.nil ρ)) hs (Trans.refl ρ m w)

end
end Ev
end Go.Proofs.YtaacgmcgmljjeaaGreat
