/-
  Joined texts: The evaluator: a frame in a region that draws its order. · The evaluator: the machine as a whole. · The evaluator: the program's tables; steps one by one; calls that turn no block. · (element.step).only: what stands behind the map literal: an entry is deleted, and the map 
-/
import Derived.Test.YtaacgmcgmljjeaaGreatTP9
import Derived.Eval
import Derived.Test.YtaacgmcgmljjeaaGreatChecked
import Derived.Tactics
import Derived.Tactics2
import Derived.StillTactics
import Derived.Laws.Sem
import Derived.Scope
import Derived.FnLit
import Derived.LoopTactic
import Derived.LoopN
import Derived.Laws.IdiomRangeMap
set_option linter.unusedSimpArgs false
set_option linter.unusedVariables false

/- The evaluator: a frame in a region that draws its order. -/
namespace Go.Proofs.YtaacgmcgmljjeaaGreat
namespace Ev
open Go.RowKit

section
variable {P : Program} {T : Tab} {all : Array Oper}

theorem tmpsOf_mem {t : Nat} : ∀ {ys : List Operand}, Operand.tmp t ∈ ys → t ∈ tmpsOf ys
  | [], h => by cases h
  | y :: ys, h => by
    unfold tmpsOf
    rcases List.mem_cons.1 h with h1 | h1
    · rw [← h1]; simp
    · have := tmpsOf_mem h1
      split
      · simp [this]
      · exact this

theorem opX_looks {o : Oper} {E E' : Env} (h : ∀ t, t ∈ looks all o → get E t = get E' t) : ∀ y, y ∈ o.op.operands.toList → opX E y = opX E' y := by
  intro y hy
  cases y with
  | tmp t => exact h t (List.mem_append_right _ (tmpsOf_mem hy))
  | _ => rfl

theorem wantG_ok {ρ : Rho} {ts : Array Value} {E Ec : Env} (he : RE ρ ts E) (hall : okOps ts.size all = true) {o : Oper} (h : ∀ t, t ∈ looks all o → get E t = get Ec t) {b : Bool} (hg : wantG all Ec o.guard = some b) : Region.wanted o (yielded all ts) = b := by
  unfold wantG at hg
  cases hgd : o.guard with
  | none =>
    rw [hgd] at hg
    cases hg
    simp [Region.wanted, hgd]
  | some p =>
    rw [hgd] at hg
    simp only at hg
    cases hd : dstOf all p.1 with
    | none => rw [hd] at hg; cases hg
    | some g =>
      rw [hd] at hg
      have hg : wantE p.2 (get Ec g) = some b := hg
      have hl : g ∈ looks all o := by
        refine List.mem_append_left _ ?_
        unfold gslot
        rw [hgd]
        simp only
        rw [hd]
        simp
      rw [← h g hl] at hg
      have := want_true he hall hd hg
      simp only [Region.wanted, hgd]
      exact this

theorem run_at {fr : Frame} (h : fr.mode = .run) : fr.atR (actOf fr) fr.todo = fr := by
  cases fr
  simp only at h
  subst h
  rfl

section
variable {ρ : Rho} {E Ec : Env} {fr : Frame} {cs : List Frame} {w : World} {m m' : Mem} {i : Nat} {rest : List Nat} {k : List Item} {o : Oper}

theorem fin_at (hm : fr.mode = .run) (hk : fr.todo = .inRegion all (i :: rest) :: k) (ho : all[i]? = some o) (v : Value) : fr.finish v = fr.atR ((actOf fr).put o.dst v) (.inRegion all rest :: k) := by
  have hrun := run_at hm
  rw [hk] at hrun
  have := Frame.finish_atR fr (actOf fr) all i rest k v
  rw [hrun, ho] at this
  exact this

theorem op_stepL (hT : TabOk P T) (hm : fr.mode = .run) (he : RE ρ fr.tmps E) (hs : SatI ρ m w) (hk : fr.todo = .inRegion all (i :: rest) :: k) (ho : all[i]? = some o) (hw : Region.wanted o (yielded all fr.tmps) = true) (hop : ∀ y, y ∈ o.op.operands.toList → opX E y = opX Ec y) {f : Act1} (hf : opW T o.op = .mk f) {x : V} (h : f Ec m = .ok x m') :
    ∃ w' ρ' v, Steps P (lone fr cs w) (lone (fr.atR ((actOf fr).put o.dst v) (.inRegion all rest :: k)) cs w') ∧ RV ρ' v x ∧ SatI ρ' m' w' ∧ Trans ρ ρ' m m' w w' := by
  obtain ⟨nx, v, w', ρ', h1, h2, h3, h4, h5⟩ := (opW_ok (P := P) hT o.op f hf h).inf (ev := (actOf fr).eval) (fun y hy => by rw [← hop y hy]; exact eval_rel (a := actOf fr) he y) hs
  refine ⟨w', ρ', v, .one ?_, h3, h4, h5⟩
  have hrun := run_at hm
  rw [hk] at hrun
  have hg := stepGR_op (P := P) (b := fr) (a := actOf fr) (k := k) (cs := cs) (w := w) (rest := rest) ho hw
  rw [Oper.semAt_eq _ _ _ (not_defer hf h)] at hg
  have hfin := fin_at hm hk ho
  have hr := h1 o rfl
  rw [hrun] at hg
  refine step_lone_go ?_
  rcases h2 with rfl | ⟨rfl, rfl⟩
  · rw [hg, ← hfin]; simp [stepG.apply, hr]
  · rw [hg, ← hfin]; simp [stepG.apply, hr]

theorem op_passL (hm : fr.mode = .run) (hk : fr.todo = .inRegion all (i :: rest) :: k) (ho : all[i]? = some o) (hw : Region.wanted o (yielded all fr.tmps) = false) :
    step P (lone fr cs w) = .next (lone (fr.atR ((actOf fr).put o.dst undef) (.inRegion all rest :: k)) cs w) := by
  have hrun := run_at hm
  rw [hk] at hrun
  have := stepR_op_skip (P := P) (b := fr) (a := actOf fr) (k := k) (cs := cs) (w := w) (ops := all) (i := i) (rest := rest) (by rw [ho]; exact hw)
  rw [hrun, ho] at this
  exact this

theorem op_callL (hm : fr.mode = .run) (he : RE ρ fr.tmps E) (hk : fr.todo = .inRegion all (i :: rest) :: k) (ho : all[i]? = some o) (hw : Region.wanted o (yielded all fr.tmps) = true) (hop : ∀ y, y ∈ o.op.operands.toList → opX E y = opX Ec y) {f : Act1} (hf : opW T o.op = .mk f) {g : FuncId} {args : List V} (h : f Ec m = .ext (.call g args)) (hX : isX o.op = true) (hen : Enters P g) :
    ∃ vals, step P (lone fr cs w) = .next (lone (Frame.enter P g vals .normal) (fr :: cs) w) ∧ RL ρ vals.toList args := by
  obtain ⟨vals, h1, h2⟩ := opX_ext (P := P) o.op hX f hf h ρ w (actOf fr).eval (fun y hy => by rw [← hop y hy]; exact eval_rel (a := actOf fr) he y) hen
  have hrun := run_at hm
  rw [hk] at hrun
  have hg := stepGR_op (P := P) (b := fr) (a := actOf fr) (k := k) (cs := cs) (w := w) (rest := rest) ho hw
  rw [hrun] at hg
  have hr := h1 o rfl
  have hnd : ∀ c, o.op ≠ .defer c := fun c e => by
    rcases defer_run (P := P) (ev := (actOf fr).eval) e w with ⟨d, w', e'⟩ | ⟨d, w', e'⟩ <;> rw [hr] at e' <;> cases e'
  rw [Oper.semAt_eq _ _ _ hnd] at hg
  refine ⟨vals, step_lone_go ?_, h2⟩
  rw [hg]; simp [stepG.apply, hr, hk]

/-- what an operation does when it is run, in the right slots and blocks -/
inductive Does (T : Tab) (rec : Rec) (all : Array Oper) (o : Oper) (E : Env) (m : Mem) (x : V) (m' : Mem) : Prop where
  | skip (hg : wantG all E o.guard = some false) (hx : x = .tup []) (hm : m' = m)
  | ran (hg : wantG all E o.guard = some true) (h : actW (opW T o.op) E m = .ok x m')
  | sum (hg : wantG all E o.guard = some true) (g : FuncId) (args : List V) (h : actW (opW T o.op) E m = .ext (.call g args)) (hX : isX o.op = true) (hr : T.sum g args = some x) (hm : m' = m)
  | call (hg : wantG all E o.guard = some true) (g : FuncId) (args : List V) (h : actW (opW T o.op) E m = .ext (.call g args)) (hX : isX o.op = true) (hr : rec g args m = .ret x m')

theorem actW_mk (w : OW) : w = .mk (actW w) := by cases w; rfl

theorem callD_step (hm : fr.mode = .run) (he : RE ρ fr.tmps E) (hs : SatI ρ m w) (hk : fr.todo = .inRegion all (i :: rest) :: k) (ho : all[i]? = some o) (hall : okOps fr.tmps.size all = true) (hag : ∀ t, t ∈ looks all o → get E t = get Ec t) {x : V} (hg : wantG all Ec o.guard = some true) (g : FuncId) (args : List V) (h : actW (opW T o.op) Ec m = .ext (.call g args)) (hX : isX o.op = true) (hc : CallS P g args m (.ret x m')) :
    ∃ w' ρ' v, Steps P (lone fr cs w) (lone (fr.atR ((actOf fr).put o.dst v) (.inRegion all rest :: k)) cs w') ∧ RV ρ' v x ∧ SatI ρ' m' w' ∧ Trans ρ ρ' m m' w w' := by
  obtain ⟨hen, hc⟩ := hc
  obtain ⟨vals, h1, h2⟩ := op_callL (P := P) (cs := cs) (w := w) hm he hk ho (wantG_ok he hall hag hg) (opX_looks hag) (actW_mk _) h hX hen
  obtain ⟨e, w', fr', ⟨u, ρ', rfl, q1, q2, q3⟩, q4, q5, q6⟩ := hc ρ w vals h2 hs (fr :: cs)
  have hl := step_leave_returned (P := P) (c := fr) (cs := cs) q6
  rw [fin_at hm hk ho] at hl
  exact ⟨w', ρ', u, .head h1 (Steps.trans q4 (.one hl)), q1, q2, q3⟩

theorem does_step (hT : TabOk P T) (hsum : SumOk P T) {rec : Rec} (hrec : RecOk P rec) (hm : fr.mode = .run) (he : RE ρ fr.tmps E) (hs : SatI ρ m w) (hk : fr.todo = .inRegion all (i :: rest) :: k) (ho : all[i]? = some o) (hall : okOps fr.tmps.size all = true) (hag : ∀ t, t ∈ looks all o → get E t = get Ec t) {x : V} (h : Does T rec all o Ec m x m') :
    ∃ w' ρ' v, Steps P (lone fr cs w) (lone (fr.atR ((actOf fr).put o.dst v) (.inRegion all rest :: k)) cs w') ∧ RV ρ' v x ∧ SatI ρ' m' w' ∧ Trans ρ ρ' m m' w w' := by
  cases h with
  | skip hg hx hmm =>
    subst hx hmm
    exact ⟨w, ρ, undef, .one (op_passL hm hk ho (wantG_ok he hall hag hg)), .tup' (RL.nil ρ), hs, Trans.refl ρ m' w⟩
  | ran hg h => exact op_stepL hT hm he hs hk ho (wantG_ok he hall hag hg) (opX_looks hag) (actW_mk _) h
  | sum hg g args h hX hr hmm =>
    subst hmm
    exact callD_step hm he hs hk ho hall hag hg g args h hX (hsum g args x m' hr)
  | call hg g args h hX hr =>
    have hc := hrec g args m
    rw [hr] at hc
    exact callD_step hm he hs hk ho hall hag hg g args h hX hc

end

/-! ### the region -/
variable {base : List Frame} {f0 : FuncId} {ρ0 : Rho} {m0 : Mem} {w0 : World}

structure Mid (base : List Frame) (f0 : FuncId) (ρ0 : Rho) (m0 : Mem) (w0 : World) (ρ : Rho) (E : Env) (x : Cx) (m : Mem) (fr : Frame) (frs : List Frame) (w : World) : Prop where
  fn : fr.fn = x.fn
  env : RE ρ fr.tmps E
  dfs : DL ρ x.dfs fr.defers
  mode : fr.mode = .run
  kind : fr.kind = if x.df then .deferred else .normal
  rnd : RndR ρ x.rnd fr.roundOf
  rest : CsR ρ base x.cs frs
  sat : SatI ρ m w
  tr : Trans ρ0 ρ m0 m w0 w
  bot : botFn x.fn x.cs = f0

/-! ### blocks that are looked at alike; a block that is set apart -/
theorem SatI.congr {ρ : Rho} {m M : Mem} {w : World} (h : SatI ρ m w) (hl : ∀ j, look M j = look m j) (hn : M.n = m.n) : SatI ρ M w :=
  ⟨fun id hid => h.fresh id (hn ▸ hid), fun i j b c c' h1 h2 => h.inj i j b c c' (by rw [← hl]; exact h1) (by rw [← hl]; exact h2), fun id o ho => h.obj id o (by rw [← hl]; exact ho)⟩
theorem Named.congr {ρ : Rho} {m M : Mem} {b : Nat} (hl : ∀ j, look M j = look m j) : Named ρ M b ↔ Named ρ m b := by
  unfold Named; simp only [hl]
theorem Trans.congr {ρ ρ' : Rho} {m m' M M' : Mem} {w w' : World} (h : Trans ρ ρ' m m' w w') (hl : ∀ j, look M j = look m j) (hn : M.n = m.n) (hl' : ∀ j, look M' j = look m' j) (hn' : M'.n = m'.n) : Trans ρ ρ' M M' w w' :=
  ⟨h.ext, fun id hid => by rw [hn, hn']; exact h.dom id hid, fun b hb => by rw [Named.congr hl] ; exact h.new b ((Named.congr hl').1 hb), by rw [hn, hn']; exact h.mono, h.os, h.tape, h.output, h.size, fun b hb hnb => h.block b hb fun e => hnb ((Named.congr hl).2 e)⟩

theorem Trans.forget {ρ0 ρ : Rho} {m0 m M : Mem} {w0 w : World} (h : Trans ρ0 ρ m0 M w0 w) (hl : ∀ j, look m j ≠ none → look M j ≠ none) (hn : m.n = M.n) : Trans ρ0 ρ m0 m w0 w :=
  ⟨h.ext, fun i hi => by rw [hn]; exact h.dom i hi, fun b ⟨j, c, h1, h2⟩ => h.new b ⟨j, c, hl j h1, h2⟩, by rw [hn]; exact h.mono, h.os, h.tape, h.output, h.size, h.block⟩

/-- M is m, and o under the name id -/
structure With (id : Nat) (o : O) (m M : Mem) : Prop where
  lk : ∀ j, look M j = if j = id then some o else look m j
  n : M.n = m.n
theorem With.put (id : Nat) (o : O) (m : Mem) : With id o m (m.put id o) := ⟨fun j => look_put m id o j, rfl⟩

theorem With.weak {id : Nat} {o : O} {m M : Mem} (h : With id o m M) (hlk : look m id = none) {ρ : Rho} {w : World} (hs : SatI ρ M w) : SatI ρ m w := by
  have hl : ∀ j, look m j ≠ none → look M j = look m j := fun j hj => by
    rw [h.lk, if_neg (fun e : j = id => hj (by rw [e]; exact hlk))]
  exact ⟨fun i hi => hs.fresh i (h.n ▸ hi), fun i j b c c' h1 h2 => hs.inj i j b c c' (by rw [hl i h1]; exact h1) (by rw [hl j h2]; exact h2), fun i o' ho => hs.obj i o' (by rw [hl i (by rw [ho]; simp)]; exact ho)⟩

theorem frame {id : Nat} {o : O} {m M m' M' : Mem} {ρ ρ' : Rho} {w w' : World} (hM : With id o m M) (hlk : look m id = none) (hlt : id < m.n) (hs : SatI ρ M w) (hs' : SatI ρ' m' w') (ht : Trans ρ ρ' m m' w w') (hM' : With id o m' M') : SatI ρ' M' w' ∧ Trans ρ ρ' M M' w w' ∧ look m' id = none ∧ id < m'.n := by
  obtain ⟨b, c, g1, g2⟩ := hs.obj id o (by rw [hM.lk, if_pos rfl])
  have hblt := g2.lt
  have hne : ∀ j, look m j ≠ none → j ≠ id := fun j hj e => hj (e ▸ hlk)
  have hlm : ∀ j, look m j ≠ none → look M j = look m j := fun j hj => by rw [hM.lk, if_neg (hne j hj)]
  have hnb : ¬ Named ρ m b := by
    rintro ⟨i, ci, hi, hr⟩
    exact hne i hi (hs.inj i id b ci c (by rw [hlm i hi]; exact hi) (by rw [hM.lk, if_pos rfl]; simp) hr g1)
  have hblk := ht.block b hblt hnb
  have hnb' : ¬ Named ρ' m' b := fun h => by
    rcases ht.new b h with h | h
    · exact hnb h
    · omega
  have g1' := ht.ext _ _ g1
  have hlk' : look m' id = none := by
    cases hq : look m' id with
    | none => rfl
    | some q => exact absurd ⟨id, c, by rw [hq]; simp, g1'⟩ hnb'
  have hne' : ∀ j, look m' j ≠ none → j ≠ id := fun j hj e => hj (e ▸ hlk')
  have hM1 : ∀ j, j ≠ id → look M' j = look m' j := fun j hj => by rw [hM'.lk, if_neg hj]
  have hcase : ∀ j, look M' j ≠ none → j ≠ id → look m' j ≠ none := fun j h1 h2 => by rw [← hM1 j h2]; exact h1
  refine ⟨⟨fun i hi => hs'.fresh i (hM'.n ▸ hi), fun i j b1 c1 c2 h1 h2 h3 h4 => ?_, fun j oj hj => ?_⟩, ⟨ht.ext, fun i hi => by rw [hM.n, hM'.n]; exact ht.dom i hi, fun b1 h1 => ?_, by rw [hM.n, hM'.n]; exact ht.mono, ht.os, ht.tape, ht.output, ht.size, fun b1 h1 h2 => ht.block b1 h1 fun ⟨i, ci, q1, q2⟩ => h2 ⟨i, ci, by rw [hlm i q1]; exact q1, q2⟩⟩, hlk', Nat.lt_of_lt_of_le hlt ht.mono⟩
  · by_cases e1 : i = id
    · by_cases e2 : j = id
      · rw [e1, e2]
      · subst e1
        rw [g1'] at h3; cases h3
        exact absurd ⟨j, c2, hcase j h2 e2, h4⟩ hnb'
    · by_cases e2 : j = id
      · subst e2
        rw [g1'] at h4; cases h4
        exact absurd ⟨i, c1, hcase i h1 e1, h3⟩ hnb'
      · exact hs'.inj i j b1 c1 c2 (hcase i h1 e1) (hcase j h2 e2) h3 h4
  · by_cases e1 : j = id
    · subst e1
      rw [hM'.lk, if_pos rfl] at hj
      cases hj
      exact ⟨b, c, g1', g2.mono ht.ext hblk⟩
    · rw [hM1 j e1] at hj
      exact hs'.obj j oj hj
  · obtain ⟨j, cj, q1, q2⟩ := h1
    by_cases e1 : j = id
    · subst e1
      rw [g1'] at q2; cases q2
      exact .inl ⟨j, c, by rw [hM.lk, if_pos rfl]; simp, g1⟩
    · rcases ht.new b1 ⟨j, cj, hcase j q1 e1, q2⟩ with ⟨i, ci, k1, k2⟩ | h
      · exact .inl ⟨i, ci, by rw [hlm i k1]; exact k1, k2⟩
      · exact .inr h

def bornE : List (V × V) → Nat → List (V × V × Nat)
  | [], _ => []
  | p :: r, n => (p.1, p.2, n) :: bornE r (n + 1)

/-- the map of a literal is made -/
theorem make_sat {id : Nat} {m : Mem} {ρ ρ0 : Rho} {w w0 : World} {m0 : Mem} (hs : SatI ρ m w) (hid : ρ id = none) (hlt : id < m.n) (ht : Trans ρ0 ρ m0 m w0 w) (h0 : m0.n ≤ id) :
    SatI (upd ρ id (w.heap.size, 0)) (m.put id (.map [] 0)) (w.alloc (.map #[] 0)) ∧ Trans ρ0 (upd ρ id (w.heap.size, 0)) m0 (m.put id (.map [] 0)) w0 (w.alloc (.map #[] 0)) ∧ Ext ρ (upd ρ id (w.heap.size, 0)) := by
  have hext : Ext ρ (upd ρ id (w.heap.size, 0)) := ext_upd hid _
  have hlk : look m id = none := by
    cases hq : look m id with
    | none => rfl
    | some o =>
      obtain ⟨b, c, g1, _⟩ := hs.obj id o hq
      rw [hid] at g1; cases g1
  have hW := With.put id (.map [] 0) m
  have hne : ∀ j, look m j ≠ none → j ≠ id := fun j hj e => hj (e ▸ hlk)
  have hblt : ∀ j b c, look m j ≠ none → ρ j = some (b, c) → b < w.heap.size := fun j b c h1 h2 => by
    cases hq : look m j with
    | none => exact absurd hq h1
    | some o =>
      obtain ⟨b1, c1, g1, g2⟩ := hs.obj j o hq
      rw [h2] at g1; cases g1
      exact g2.lt
  have hcase : ∀ j, look (m.put id (.map [] 0)) j ≠ none → j ≠ id → look m j ≠ none := fun j h1 h2 => by rw [hW.lk, if_neg h2] at h1; exact h1
  have hu : ∀ j, j ≠ id → upd ρ id (w.heap.size, 0) j = ρ j := fun j hj => upd_other _ _ hj
  refine ⟨⟨fun i hi => ?_, fun i j b1 c1 c2 h1 h2 h3 h4 => ?_, fun j oj hj => ?_⟩, ⟨ht.ext.trans hext, fun i hi => ?_, fun b1 h1 => ?_, ht.mono, ht.os, ht.tape, ht.output, ?_, fun b1 h1 h2 => ?_⟩, hext⟩
  · have hi : m.n ≤ i := hi
    rw [hu i (by omega)]; exact hs.fresh i hi
  · by_cases e1 : i = id
    · by_cases e2 : j = id
      · rw [e1, e2]
      · subst e1
        rw [upd_same] at h3; cases h3
        rw [hu j e2] at h4
        have := hblt j _ _ (hcase j h2 e2) h4
        omega
    · by_cases e2 : j = id
      · subst e2
        rw [upd_same] at h4; cases h4
        rw [hu i e1] at h3
        have := hblt i _ _ (hcase i h1 e1) h3
        omega
      · rw [hu i e1] at h3
        rw [hu j e2] at h4
        exact hs.inj i j b1 c1 c2 (hcase i h1 e1) (hcase j h2 e2) h3 h4
  · by_cases e1 : j = id
    · subst e1
      rw [hW.lk, if_pos rfl] at hj
      cases hj
      exact ⟨w.heap.size, 0, upd_same _ _ _, #[], (by show (w.heap.push _)[_]? = _; simp), rfl, fun i e p h => by simp at h⟩
    · rw [hW.lk, if_neg e1] at hj
      obtain ⟨b, c, g1, g2⟩ := hs.obj j oj hj
      refine ⟨b, c, by rw [hu j e1]; exact g1, g2.mono hext ?_⟩
      have := g2.lt
      show (w.heap.push _)[_]? = _
      simp [Array.getElem?_push, Nat.ne_of_lt this]
  · by_cases e1 : i = id
    · subst e1; exact .inr ⟨h0, hlt⟩
    · rw [hu i e1] at hi; exact ht.dom i hi
  · obtain ⟨j, cj, q1, q2⟩ := h1
    by_cases e1 : j = id
    · subst e1
      rw [upd_same] at q2; cases q2
      exact .inr ht.size
    · rw [hu j e1] at q2
      exact ht.new b1 ⟨j, cj, hcase j q1 e1, q2⟩
  · have := ht.size
    show _ ≤ (w.heap.push _).size
    simp; omega
  · have := ht.size
    rw [← ht.block b1 h1 h2]
    show (w.heap.push _)[_]? = _
    simp [Array.getElem?_push, Nat.ne_of_lt (Nat.lt_of_lt_of_le h1 this)]

/-- a new block -/
theorem new_sat {id b c : Nat} {o : O} {m : Mem} {ρ ρ0 : Rho} {w w' w0 : World} {m0 : Mem} (hs : SatI ρ m w) (hid : ρ id = none) (hlt : id < m.n) (ht : Trans ρ0 ρ m0 m w0 w) (h0 : m0.n ≤ id)
    (hblk : ∀ k, k < w.heap.size → w'.heap[k]? = w.heap[k]?) (hb : w.heap.size ≤ b) (hsz : w.heap.size ≤ w'.heap.size) (hos : w'.os = w.os) (htp : w'.tape = w.tape) (hout : w'.output = w.output) (hro : RO (upd ρ id (b, c)) w' b c o) :
    SatI (upd ρ id (b, c)) (m.put id o) w' ∧ Trans ρ0 (upd ρ id (b, c)) m0 (m.put id o) w0 w' ∧ Ext ρ (upd ρ id (b, c)) := by
  have hext : Ext ρ (upd ρ id (b, c)) := ext_upd hid _
  have hlk : look m id = none := by
    cases hq : look m id with
    | none => rfl
    | some o =>
      obtain ⟨b, c, g1, _⟩ := hs.obj id o hq
      rw [hid] at g1; cases g1
  have hW := With.put id o m
  have hblt : ∀ j b c, look m j ≠ none → ρ j = some (b, c) → b < w.heap.size := fun j b c h1 h2 => by
    cases hq : look m j with
    | none => exact absurd hq h1
    | some o =>
      obtain ⟨b1, c1, g1, g2⟩ := hs.obj j o hq
      rw [h2] at g1; cases g1
      exact g2.lt
  have hcase : ∀ j, look (m.put id o) j ≠ none → j ≠ id → look m j ≠ none := fun j h1 h2 => by rw [hW.lk, if_neg h2] at h1; exact h1
  have hu : ∀ j, j ≠ id → upd ρ id (b, c) j = ρ j := fun j hj => upd_other _ _ hj
  refine ⟨⟨fun i hi => ?_, fun i j b1 c1 c2 h1 h2 h3 h4 => ?_, fun j oj hj => ?_⟩, ⟨ht.ext.trans hext, fun i hi => ?_, fun b1 h1 => ?_, ht.mono, hos.trans ht.os, htp.trans ht.tape, hout.trans ht.output, Nat.le_trans ht.size hsz, fun b1 h1 h2 => ?_⟩, hext⟩
  · have hi : m.n ≤ i := hi
    rw [hu i (by omega)]; exact hs.fresh i hi
  · by_cases e1 : i = id
    · by_cases e2 : j = id
      · rw [e1, e2]
      · subst e1
        rw [upd_same] at h3; cases h3
        rw [hu j e2] at h4
        have := hblt j _ _ (hcase j h2 e2) h4
        omega
    · by_cases e2 : j = id
      · subst e2
        rw [upd_same] at h4; cases h4
        rw [hu i e1] at h3
        have := hblt i _ _ (hcase i h1 e1) h3
        omega
      · rw [hu i e1] at h3
        rw [hu j e2] at h4
        exact hs.inj i j b1 c1 c2 (hcase i h1 e1) (hcase j h2 e2) h3 h4
  · by_cases e1 : j = id
    · subst e1
      rw [hW.lk, if_pos rfl] at hj
      cases hj
      exact ⟨b, c, upd_same _ _ _, hro⟩
    · rw [hW.lk, if_neg e1] at hj
      obtain ⟨b2, c2, g1, g2⟩ := hs.obj j oj hj
      exact ⟨b2, c2, by rw [hu j e1]; exact g1, g2.mono hext (hblk _ g2.lt)⟩
  · by_cases e1 : i = id
    · subst e1; exact .inr ⟨h0, hlt⟩
    · rw [hu i e1] at hi; exact ht.dom i hi
  · obtain ⟨j, cj, q1, q2⟩ := h1
    by_cases e1 : j = id
    · subst e1
      rw [upd_same] at q2; cases q2
      exact .inr (Nat.le_trans ht.size hb)
    · rw [hu j e1] at q2
      exact ht.new b1 ⟨j, cj, hcase j q1 e1, q2⟩
  · rw [hblk b1 (Nat.lt_of_lt_of_le h1 ht.size)]
    exact ht.block b1 h1 h2

theorem addA_weak {ρ : Rho} {w : World} : ∀ (l : List (Nat × O)) {m : Mem}, (l.map (·.1)).Nodup → (∀ q, q ∈ l → look m q.1 = none) → SatI ρ (addA l m) w → SatI ρ m w
  | [], _, _, _, h => h
  | q :: l, m, hn, hk, h => by
    have hn' : q.1 ∉ l.map (·.1) ∧ (l.map (·.1)).Nodup := List.nodup_cons.1 hn
    rw [addA_cons] at h
    have h1 := addA_weak l hn'.2 (fun r hr => by
      rw [look_put, if_neg (fun e : r.1 = q.1 => hn'.1 (by rw [← e]; exact List.mem_map_of_mem hr))]
      exact hk r (by simp [hr])) h
    exact (With.put q.1 q.2 m).weak (hk q (by simp)) h1

theorem frames {ρ ρ' : Rho} {w w' : World} : ∀ (l : List (Nat × O)) {m m' : Mem}, (l.map (·.1)).Nodup → (∀ q, q ∈ l → look m q.1 = none ∧ q.1 < m.n) → SatI ρ (addA l m) w → SatI ρ' m' w' → Trans ρ ρ' m m' w w' → SatI ρ' (addA l m') w' ∧ Trans ρ ρ' (addA l m) (addA l m') w w' ∧ ∀ q, q ∈ l → look m' q.1 = none
  | [], _, _, _, _, _, h2, h3 => ⟨h2, h3, fun q hq => by cases hq⟩
  | q :: l, m, m', hn, hk, h1, h2, h3 => by
    have hn' : q.1 ∉ l.map (·.1) ∧ (l.map (·.1)).Nodup := List.nodup_cons.1 hn
    rw [addA_cons] at h1 ⊢
    rw [addA_cons]
    have hne : ∀ r, r ∈ l → r.1 ≠ q.1 := fun r hr e => hn'.1 (by rw [← e]; exact List.mem_map_of_mem hr)
    have hk' : ∀ r, r ∈ l → look (m.put q.1 q.2) r.1 = none ∧ r.1 < (m.put q.1 q.2).n := fun r hr => by
      rw [look_put, if_neg (hne r hr)]
      exact hk r (by simp [hr])
    have hw := addA_weak l hn'.2 (fun r hr => (hk' r hr).1) h1
    obtain ⟨g1, g2, g3, g4⟩ := frame (With.put q.1 q.2 m) (hk q (by simp)).1 (hk q (by simp)).2 hw h2 h3 (With.put q.1 q.2 m')
    obtain ⟨f1, f2, f3⟩ := frames l hn'.2 hk' h1 g1 g2
    refine ⟨f1, f2, fun r hr => ?_⟩
    rcases List.mem_cons.1 hr with rfl | hr
    · exact g3
    · have := f3 r hr
      rw [look_put, if_neg (hne r hr)] at this
      exact this

/-- what has been laid into the map of a literal -/
structure LitM (id : Nat) (mk : Bool) (S : List (V × V)) (m M : Mem) : Prop where
  no : mk = false → (∀ j, look M j = look m j) ∧ M.n = m.n ∧ S = []
  yes : mk = true → ∃ ls, ls.Perm S ∧ With id (.map (bornE ls 0) ls.length) m M

theorem LitM.weak {id : Nat} {mk : Bool} {S : List (V × V)} {m M : Mem} (h : LitM id mk S m M) (hlk : look m id = none) {ρ : Rho} {w : World} (hs : SatI ρ M w) : SatI ρ m w := by
  cases mk with
  | false => exact hs.congr (fun j => ((h.no rfl).1 j).symm) (h.no rfl).2.1.symm
  | true => obtain ⟨ls, _, h2⟩ := h.yes rfl; exact h2.weak hlk hs

theorem LitM.forget {id : Nat} {mk : Bool} {S : List (V × V)} {m M : Mem} (h : LitM id mk S m M) (hlk : look m id = none) {ρ0 ρ : Rho} {m0 : Mem} {w0 w : World} (ht : Trans ρ0 ρ m0 M w0 w) : Trans ρ0 ρ m0 m w0 w := by
  cases mk with
  | false => exact ht.forget (fun j hj => by rw [(h.no rfl).1]; exact hj) (h.no rfl).2.1.symm
  | true =>
    obtain ⟨ls, _, h2⟩ := h.yes rfl
    exact ht.forget (fun j hj => by rw [h2.lk, if_neg (fun e : j = id => hj (by rw [e]; exact hlk))]; exact hj) h2.n.symm

/-- an operation that does not know of that map -/
theorem LitM.step {id : Nat} {mk : Bool} {S : List (V × V)} {m m' M : Mem} (h : LitM id mk S m M) (hlk : look m id = none) (hlt : id < m.n) {ρ ρ' : Rho} {w w' : World} (hs : SatI ρ M w) (hno : mk = false → ρ id = none) (hs' : SatI ρ' m' w') (ht : Trans ρ ρ' m m' w w') :
    ∃ M', LitM id mk S m' M' ∧ SatI ρ' M' w' ∧ Trans ρ ρ' M M' w w' ∧ look m' id = none ∧ id < m'.n ∧ (mk = false → ρ' id = none) := by
  cases mk with
  | false =>
    obtain ⟨h1, h2, h3⟩ := h.no rfl
    have hid' : ρ' id = none := by
      cases hq : ρ' id with
      | none => rfl
      | some p =>
        rcases ht.dom id (by rw [hq]; simp) with h3 | h3
        · exact absurd (hno rfl) h3
        · omega
    refine ⟨m', ⟨fun _ => ⟨fun _ => rfl, rfl, h3⟩, fun h => (by cases h)⟩, hs', ht.congr h1 h2 (fun _ => rfl) rfl, ?_, Nat.lt_of_lt_of_le hlt ht.mono, fun _ => hid'⟩
    cases hq : look m' id with
    | none => rfl
    | some o =>
      obtain ⟨b, c, g1, _⟩ := hs'.obj id o hq
      rw [hid'] at g1; cases g1
  | true =>
    obtain ⟨ls, h1, h2⟩ := h.yes rfl
    obtain ⟨q1, q2, q3, q4⟩ := frame h2 hlk hlt hs hs' ht (With.put id _ m')
    exact ⟨_, ⟨fun h => (by cases h), fun _ => ⟨ls, h1, With.put id _ m'⟩⟩, q1, q2, q3, q4, fun h => (by cases h)⟩

theorem newKey_mem {q : KK} {x : V} : ∀ {l : List (V × V)}, newKey q x l = true → ∀ p, p ∈ l → keyEq q x p.1 = some false ∧ keyEq q p.1 x = some false
  | [], _, p, hp => by cases hp
  | a :: r, h, p, hp => by
    unfold newKey at h
    split at h
    · rename_i h1 h2
      rcases List.mem_cons.1 hp with rfl | hp
      · exact ⟨h1, h2⟩
      · exact newKey_mem h p hp
    · cases h

theorem setMap_new {q : KK} {k v : V} (clk : Nat) : ∀ (l : List (V × V)) (n : Nat), (∀ p, p ∈ l → keyEq q k p.1 = some false) → n + l.length = clk → setMap q k v clk (bornE l n) = some (bornE (l ++ [(k, v)]) n, clk + 1)
  | [], n, _, hn => by
    have : n = clk := by simpa using hn
    subst this
    rfl
  | p :: r, n, h, hn => by
    show (match keyEq q k p.1 with | some true => _ | some false => (setMap q k v clk (bornE r (n + 1))).map _ | none => none) = _
    rw [h p (by simp)]
    simp only
    rw [setMap_new clk r (n + 1) (fun p hp => h p (by simp [hp])) (by simp at hn; omega)]
    rfl

theorem sd_two {md : Option (Option (Nat × TypeId))} {o : Oper} (h : sdOf md o = 2) : ∃ p k v, md = some (some p) ∧ o.op = .insert p.2 (.tmp p.1) k v := by
  unfold sdOf at h
  cases md with
  | none => cases h
  | some lit =>
    simp only at h
    unfold sdO at h
    split at h
    · split at h
      · unfold sdL at h
        cases lit with
        | none => cases h
        | some p =>
          simp only at h
          unfold sdMk at h
          split at h
          · split at h <;> cases h
          · cases h
      · cases h
    · rename_i t y k v ho
      unfold sdL at h
      cases lit with
      | none => cases h
      | some p =>
        simp only at h
        unfold sdIns at h
        split at h
        · split at h
          · rename_i hb
            rw [Bool.and_eq_true] at hb
            refine ⟨p, k, v, rfl, ?_⟩
            rw [ho, Nat.eq_of_beq_eq_true hb.1, Nat.eq_of_beq_eq_true hb.2]
          · cases h
        · cases h
    · cases h
    · cases h

theorem sd_one {md : Option (Option (Nat × TypeId))} {o : Oper} (h : sdOf md o = 1) : ∃ t, o.op = .makeMap t none := by
  unfold sdOf at h
  cases md with
  | none => cases h
  | some lit =>
    simp only at h
    unfold sdO at h
    split at h
    · rename_i t r ho
      split at h
      · exact ⟨t, ho⟩
      · cases h
    · unfold sdL at h
      cases lit with
      | none => cases h
      | some p =>
        simp only at h
        unfold sdIns at h
        split at h
        · split at h <;> cases h
        · cases h
    · cases h
    · cases h

theorem insO_inv {id : Nat} {E : Env} {l l' : List (V × V)} {o : Op} (h : insO T id E l o = some l') : ∃ t y k v, o = .insert t y k v ∧ opX E y = .map id ∧ (keyT T t).ok = true ∧ newKey (keyT T t) (opX E k) l = true ∧ l' = l ++ [(opX E k, opX E v)] := by
  unfold insO at h
  split at h
  · rename_i t y k v
    unfold insW at h
    split at h
    · rename_i i hi
      split at h
      · rename_i hc
        rw [Bool.and_eq_true, Bool.and_eq_true] at hc
        cases h
        exact ⟨t, y, k, v, rfl, by rw [hi, Nat.eq_of_beq_eq_true hc.1.1], hc.1.2, hc.2, rfl⟩
      · cases h
    · cases h
  · cases h

theorem get_anyD (E : Env) (t : Nat) : ∀ (l : List Oper), get (anyD l E) t = .any ∨ (get (anyD l E) t = get E t ∧ ∀ o, o ∈ l → o.dst ≠ some t)
  | [] => .inr ⟨rfl, fun o h => by cases h⟩
  | o :: os => by
    show get (put o.dst .any (anyD os E)) t = .any ∨ (get (put o.dst .any (anyD os E)) t = get E t ∧ _)
    rw [get_put]
    by_cases h : o.dst = some t
    · rw [if_pos h]; exact .inl rfl
    · rw [if_neg h]
      rcases get_anyD E t os with h1 | ⟨h1, h2⟩
      · exact .inl h1
      · refine .inr ⟨h1, fun o' ho' => ?_⟩
        rcases List.mem_cons.1 ho' with rfl | ho'
        · exact h
        · exact h2 o' ho'

theorem RE.anyD {ρ : Rho} {ts : Array Value} {E0 : Env} {d : Nat → Bool} {en : List En} (hen : ∀ e, e ∈ en → e.s.o ∈ all.toList) (h : RE ρ ts (envD d en E0)) : RE ρ ts (Ev.anyD all.toList E0) := fun t => by
  rcases get_anyD E0 t all.toList with h1 | ⟨h1, h2⟩
  · rw [h1]; exact .any _
  · rw [h1]
    have h3 : get (envD d en E0) t = get (envD (fun _ => false) en E0) t := envD_agree en _ _ (fun p hp _ => h2 _ (hen p hp)) rfl
    rw [envD_no (d := fun _ => false) en _ fun _ _ => rfl] at h3
    rw [← h3]
    exact h t

def OutR (P : Program) (base : List Frame) (f0 : FuncId) (ρ0 : Rho) (m0 : Mem) (w0 : World) (k : List It) (x : Cx) (fr : Frame) (frs : List Frame) (w : World) : DR → Prop
  | .fin E' m' => ∃ fr' w' ρ', Steps P (lone fr frs w) (lone fr' frs w') ∧ Cfg base f0 ρ0 m0 w0 ρ' .run E' k x m' fr' frs w'
  | .lit E' m' id ls => ∃ fr' w' ρ' ls' M, Steps P (lone fr frs w) (lone fr' frs w') ∧ ls'.Perm ls ∧ With id (.map (bornE ls' 0) ls'.length) m' M ∧ Cfg base f0 ρ0 m0 w0 ρ' .run E' k x M fr' frs w' ∧ fr'.tmps.size = fr.tmps.size
  | .pan ch E' m' => ∃ fr' w' ρ', Steps P (lone fr frs w) (lone fr' frs w') ∧ Cfg base f0 ρ0 m0 w0 ρ' (.pan ch) E' k x m' fr' frs w'
  | .no _ => True
theorem OutR.steps {k : List It} {x : Cx} {fr fr1 : Frame} {frs : List Frame} {w w1 : World} {r : DR} (h : Steps P (lone fr frs w) (lone fr1 frs w1)) (hz : fr1.tmps.size = fr.tmps.size) (hr : OutR P base f0 ρ0 m0 w0 k x fr1 frs w1 r) : OutR P base f0 ρ0 m0 w0 k x fr frs w r := by
  cases r with
  | fin E m => obtain ⟨a, b, c, h1, h2⟩ := hr; exact ⟨a, b, c, Steps.trans h h1, h2⟩
  | lit E m id ls => obtain ⟨a, b, c, d, e, h1, h2, h3, h4, h5⟩ := hr; exact ⟨a, b, c, d, e, Steps.trans h h1, h2, h3, h4, h5.trans hz⟩
  | pan ch E m => obtain ⟨a, b, c, h1, h2⟩ := hr; exact ⟨a, b, c, Steps.trans h h1, h2⟩
  | no n => trivial

theorem map_split {α β : Type} {f : α → β} : ∀ {l : List α} {x : α}, x ∈ l → ∃ a b, l = a ++ x :: b := by
  intro l x h
  exact List.append_of_mem h

section
variable {l : List PS} {E0 : Env} {m1 : Mem} {en : List En} {tail : List PS}

/-- all that must come before an operation of l has been done -/
def Before (all : Array Oper) (done : Array Bool) (s : PS) : Prop := ∀ e, e ∈ s.o.after → Region.binds .any e = true → done.getD e.on false = true

theorem before_pre (hO : OrdF T all l) {done : Array Bool} (hcl : Closed all.toList done) {s : PS} (hs : s ∈ l) (hb : Before all done s) {i : Nat} (hi : bit s.pre i = true) : done.getD i false = true := by
  obtain ⟨h1, h2, h3⟩ := hO.mem s hs
  have hp : Pre all.toList.toArray s.j i := by simpa using h3 i hi
  refine hcl.pre hp (.inr fun o ho e he hbd => ?_)
  have : o = s.o := by
    have h1' : all.toList[s.j]? = some s.o := by simpa using h1
    rw [h1'] at ho; exact (Option.some.inj ho).symm
  subst this
  exact hb e he hbd

theorem done_pre (hO : OrdF T all l) {done : Array Bool} (hcl : Closed all.toList done) {s : PS} (hs : s ∈ l) (hd : done.getD s.j false = true) {i : Nat} (hi : bit s.pre i = true) : done.getD i false = true := by
  obtain ⟨h1, h2, h3⟩ := hO.mem s hs
  have hp : Pre all.toList.toArray s.j i := by simpa using h3 i hi
  exact hcl.pre hp (.inl hd)

/-- what the entries are like -/
structure EnF (id : Nat) (m1 : Mem) (en : List En) : Prop where
  mv : ∀ p, p ∈ en → p.mv = true → p.s.ch = true
  al : ∀ p, p ∈ en → ∀ q, p.al = some q → q.1 = idA id p.s.j ∧ p.s.sd = 3 ∧ q.1 < m1.n
theorem EnF.isMv {id : Nat} {m1 : Mem} (h : EnF id m1 en) {p : En} (hp : p ∈ en) (hm : mvA p) : isMv p.s = true := by
  unfold Ev.isMv
  rcases hm with hm | hm
  · rw [h.mv p hp hm]; rfl
  · cases hq : p.al with
    | none => exact absurd hq hm
    | some q => rw [(h.al p hp q hq).2.1]; simp

/-- an operation that has been listed, and may be run -/
theorem rdy_of (hO : OrdF T all l) {id : Nat} {m1 : Mem} (hF : EnF id m1 en) (hl : l = en.map (·.s) ++ tail) {done : Array Bool} (hcl : Closed all.toList done) {a b : List En} {e : En} (hen : en = a ++ e :: b) (hd : done.getD e.s.j false = false) (hb : Before all done e.s) : Rdy all (fun i => done.getD i false) a e.s b := by
  have hsl : ∀ p, p ∈ en → p.s ∈ l := fun p hp => by rw [hl]; exact List.mem_append_left _ (List.mem_map_of_mem hp)
  have hel : e.s ∈ l := hsl e (by rw [hen]; simp)
  have ha := (hO.spl (a.map (·.s)) e.s (b.map (·.s) ++ tail) (by rw [hl, hen]; simp)).1
  have hbb : ∀ p, p ∈ b → e.s.j ≠ p.s.j ∧ (isMv e.s = true → mmS p.s = true → bit p.s.pre e.s.j = true) ∧ (bit p.s.pre e.s.j = true ∨ apartE all e.s.o p.s.o = true) := by
    intro p hp
    obtain ⟨b1, b2, rfl⟩ := List.append_of_mem hp
    exact (hO.spl (a.map (·.s) ++ e.s :: b1.map (·.s)) p.s (b2.map (·.s) ++ tail) (by rw [hl, hen]; simp)).1 e.s (by simp)
  have hnb : ∀ p, p ∈ b → done.getD p.s.j false = true → bit p.s.pre e.s.j = false := fun p hp hpd => by
    cases hq : bit p.s.pre e.s.j with
    | false => rfl
    | true =>
      have := done_pre hO hcl (hsl p (by rw [hen]; simp [hp])) hpd hq
      rw [this] at hd; cases hd
  refine ⟨hd, fun p hp hpd => ?_, fun hm p hp hmp => ?_, fun p hp hpd => ?_, fun hm p hp hpd => ?_, fun p hp => (ha p.s (List.mem_map_of_mem hp)).1, fun p hp h => (hbb p hp).1 h.symm⟩
  · obtain ⟨g1, g2, g3⟩ := ha p.s (List.mem_map_of_mem hp)
    refine g3.resolve_left fun h => ?_
    have := before_pre hO hcl hel hb h
    rw [this] at hpd; cases hpd
  · obtain ⟨g1, g2, g3⟩ := ha p.s (List.mem_map_of_mem hp)
    exact before_pre hO hcl hel hb (g2 (hF.isMv (by rw [hen]; simp [hp]) hmp) hm)
  · obtain ⟨g1, g2, g3⟩ := hbb p hp
    have := hnb p hp hpd
    exact ⟨g3.resolve_left (by rw [this]; simp), this⟩
  · cases hv : p.mv with
    | false => rfl
    | true =>
      obtain ⟨g1, g2, g3⟩ := hbb p hp
      have h1 := g2 hm (by unfold mmS; rw [hF.mv p (by rw [hen]; simp [hp]) hv]; rfl)
      rw [hnb p hp hpd] at h1; cases h1

/-- where nothing may be run, all that has been listed is done -/
theorem all_done (hO : OrdF T all l) (hl : l = en.map (·.s) ++ tail) {done : Array Bool} (hsz : done.size = all.size) (hnil : Region.ready .any all done = []) : ∀ (b a : List En), en = a ++ b → (∀ e, e ∈ a → done.getD e.s.j false = true) → ∀ e, e ∈ en → done.getD e.s.j false = true
  | [], a, h, ha, e, he => ha e (by rw [h] at he; simpa using he)
  | p :: b, a, h, ha, e, he => by
    refine all_done hO hl hsz hnil b (a ++ [p]) (by rw [h]; simp) (fun q hq => ?_) e he
    rcases List.mem_append.1 hq with hq | hq
    · exact ha q hq
    · rw [List.mem_singleton] at hq
      subst hq
      obtain ⟨g1, g2, g3⟩ := hO.mem q.s (by rw [hl, h]; simp)
      have hed := (hO.spl (a.map (·.s)) q.s (b.map (·.s) ++ tail) (by rw [hl, h]; simp)).2
      cases hd : done.getD q.s.j false with
      | true => rfl
      | false =>
        have hlt : q.s.j < done.size := by rw [hsz]; exact (Array.getElem?_eq_some_iff.1 g1).1
        have hdt : done.getD q.s.j true = false := by simpa [Array.getD, hlt] using hd
        have := mem_ready_of (l := all.toList) (o := q.s.o) (by simpa using g1) hdt fun e he hb => by
          obtain ⟨s, q1, q2⟩ := hed e he hb
          obtain ⟨p', hp', rfl⟩ := List.mem_map.1 q1
          rw [← q2]; exact ha p' hp'
        rw [show all.toList.toArray = all from by simp, hnil] at this
        cases this

/-- the frame, and the blocks, with a set of operations done -/
structure Inv (P : Program) (base : List Frame) (f0 : FuncId) (ρ0 : Rho) (m0 : Mem) (w0 : World) (all : Array Oper) (id : Nat) (en : List En) (E0 : Env) (m1 : Mem) (d : Nat → Bool) (ρ : Rho) (x : Cx) (M : Mem) (fr : Frame) (frs : List Frame) (w : World) : Prop where
  mid : Mid base f0 ρ0 m0 w0 ρ (envD d en E0) x M fr frs w
  lit : LitM id (madeD d en) (sideD d en) (memD d en m1) M
  lk : look (memD d en m1) id = none
  lt : id < (memD d en m1).n
  no : madeD d en = false → ρ id = none
  alno : ∀ p, p ∈ en → ∀ q, p.al = some q → d p.s.j = false → ρ q.1 = none
  alk : ∀ a p b, en = a ++ p :: b → (∀ r, r ∈ b → d r.s.j = true → r.mv = false) → ∀ q, p.al = some q → look (memX d en m1) q.1 = none
  aln : m1.n ≤ (memX d en m1).n

theorem En.cases {rec : Rec} {id : Nat} {ls : Option (List (V × V))} {e : En} (h : EnK T rec all id ls e) : (e.s.sd = 0 ∧ e.mkd = false ∧ e.kv = [] ∧ e.al = none) ∨ (e.s.sd = 1 ∧ e.mv = false ∧ e.mkd = true ∧ e.kv = [] ∧ e.al = none ∧ e.s.o.guard = none ∧ e.x = .map id) ∨
    (e.s.sd = 2 ∧ e.mv = false ∧ e.mkd = false ∧ e.al = none ∧ e.s.o.guard = none ∧ e.x = .tup [] ∧ ∃ l, ls = some l ∧ insO T id e.E l e.s.o.op = some (l ++ e.kv)) ∨
    (e.s.sd = 3 ∧ e.mv = false ∧ e.mkd = false ∧ e.kv = [] ∧ e.s.ch = false ∧ e.s.o.guard = none ∧ ∃ t ob, e.s.o.op = .alloc t ∧ allocO T t = some ob ∧ e.al = some (idA id e.s.j, ob) ∧ e.x = .ptr (idA id e.s.j) 0) := by
  cases h with
  | skip h0 hv hk ha hkv => exact .inl ⟨h0, hk, hkv, ha⟩
  | light h0 hv hk ha hkv => exact .inl ⟨h0, hk, hkv, ha⟩
  | ran h0 hv hk ha hkv => exact .inl ⟨h0, hk, hkv, ha⟩
  | sum h0 hv hk ha hkv => exact .inl ⟨h0, hk, hkv, ha⟩
  | call h0 hv hk ha hkv => exact .inl ⟨h0, hk, hkv, ha⟩
  | make h1 hv hk ha hkv hls hg hx => exact .inr (.inl ⟨h1, hv, hk, hkv, ha, hg, hx⟩)
  | ins h2 hv ha hk hg hx l hls hi => exact .inr (.inr (.inl ⟨h2, hv, hk, ha, hg, hx, l, hls, hi⟩))
  | alloc h3 hv hk hkv hc hg t hop ob hob ha hx => exact .inr (.inr (.inr ⟨h3, hv, hk, hkv, hc, hg, t, ob, hop, hob, ha, hx⟩))

theorem enF_of {rec : Rec} {id : Nat} {ls : Option (List (V × V))} (hcan : Can T rec all id E0 m1 ls en) (hid : ∀ p, p ∈ en → p.s.sd = 3 → idA id p.s.j < m1.n) : EnF id m1 en := by
  refine ⟨fun p hp => ?_, fun p hp q hq => ?_⟩
  · obtain ⟨a, b, hen⟩ := List.append_of_mem hp
    exact (Can.split (hen ▸ hcan)).2.2.2.1
  · obtain ⟨a, b, hen⟩ := List.append_of_mem hp
    rcases En.cases (Can.split (hen ▸ hcan)).2.2.1 with ⟨_, _, _, h⟩ | ⟨_, _, _, _, h, _⟩ | ⟨_, _, _, h, _⟩ | ⟨h3, _, _, _, _, _, t, ob, _, _, h, _⟩
    · rw [h] at hq; cases hq
    · rw [h] at hq; cases hq
    · rw [h] at hq; cases hq
    · rw [h] at hq
      cases hq
      exact ⟨rfl, h3, hid p hp h3⟩

/-- the names of new blocks differ -/
theorem al_ne {id : Nat} (hF : EnF id m1 en) (hO : OrdF T all l) (hl : l = en.map (·.s) ++ tail) {a b : List En} {p : En} (hen : en = a ++ p :: b) {q : Nat × O} (hq : p.al = some q) : ∀ r, (r ∈ a ∨ r ∈ b) → ∀ z, r.al = some z → z.1 ≠ q.1 := by
  intro r hr z hz e
  have hp : p ∈ en := by rw [hen]; simp
  have hrr : r ∈ en := by rw [hen]; rcases hr with h | h <;> simp [h]
  have h1 := (hF.al p hp q hq).1
  have h2 := (hF.al r hrr z hz).1
  have hj : r.s.j = p.s.j := by
    rw [h1, h2] at e
    unfold idA at e
    simp only [Nat.add_eq] at e
    omega
  rcases hr with hr | hr
  · exact ((hO.spl (a.map (·.s)) p.s (b.map (·.s) ++ tail) (by rw [hl, hen]; simp)).1 r.s (List.mem_map_of_mem hr)).1 hj
  · obtain ⟨b1, b2, rfl⟩ := List.append_of_mem hr
    exact ((hO.spl (a.map (·.s) ++ p.s :: b1.map (·.s)) r.s (b2.map (·.s) ++ tail) (by rw [hl, hen]; simp)).1 p.s (by simp)).1 hj.symm

theorem eaL_nodup {id : Nat} (hF : EnF id m1 en) (hO : OrdF T all l) (hl : l = en.map (·.s) ++ tail) {d : Nat → Bool} : ∀ (b a : List En), en = a ++ b → ((eaL d b).map (·.1)).Nodup
  | [], _, _ => List.nodup_nil
  | p :: b, a, hen => by
    have ih := eaL_nodup hF hO hl (d := d) b (a ++ [p]) (by rw [hen]; simp)
    rw [eaL_cons]
    split
    · cases hq : p.al with
      | none => simpa using ih
      | some q =>
        simp only [Option.toList_some, List.singleton_append, List.map_cons]
        refine List.nodup_cons.2 ⟨fun h => ?_, ih⟩
        obtain ⟨z, hz, e⟩ := List.mem_map.1 h
        obtain ⟨r, hr, _, hz2⟩ := eaL_mem hz
        exact al_ne hF hO hl hen hq r (.inr hr) z hz2 e
    · simpa using ih

theorem LitM.n {id : Nat} {mk : Bool} {S : List (V × V)} {m M : Mem} (h : LitM id mk S m M) : M.n = m.n := by
  cases mk with
  | false => exact (h.no rfl).2.1
  | true => obtain ⟨_, _, h2⟩ := h.yes rfl; exact h2.n

theorem allocO_ok {t : TypeId} {ob : O} (h : allocO T t = some ob) (m : Mem) : allocE T t m = .ok (.ptr m.n 0) (m.add ob) := by
  unfold allocO at h
  unfold allocE
  split at h
  · unfold boxE
    split at h
    · split at h
      · cases h
        rename_i h1 h2
        simp only [h2]
      · cases h
    · cases h
  · cases h

def noR0 : Rho := fun _ => none
/-- one operation more -/
theorem draw_step {id : Nat} (hT : TabOk P T) (hsum : SumOk P T) {rec : Rec} (hrec : RecOk P rec) (hO : OrdF T all l) (hl : l = en.map (·.s) ++ tail) (hcan : Can T rec all id E0 m1 none en) (hF : EnF id m1 en) (h0 : m0.n ≤ id)
    {d d' : Nat → Bool} {a b : List En} {e : En} (hen : en = a ++ e :: b) (hrd : Rdy all d a e.s b) (hset : ∀ i, d' i = (d i || decide (i = e.s.j)))
    {ρ : Rho} {x : Cx} {M : Mem} {fr : Frame} {frs : List Frame} {w : World} {rest : List Nat} {ks : List Item} (hinv : Inv P base f0 ρ0 m0 w0 all id en E0 m1 d ρ x M fr frs w) (htodo : fr.todo = .inRegion all (e.s.j :: rest) :: ks) (hok : okOps fr.tmps.size all = true) :
    ∃ fr' w' ρ' M', Steps P (lone fr frs w) (lone fr' frs w') ∧ fr'.todo = .inRegion all rest :: ks ∧ fr'.tmps.size = fr.tmps.size ∧ Ext ρ ρ' ∧ Inv P base f0 ρ0 m0 w0 all id en E0 m1 d' ρ' x M' fr' frs w' := by
  have hee : e ∈ en := by rw [hen]; simp
  have hsm : e.s ∈ l := by rw [hl]; exact List.mem_append_left _ (List.mem_map_of_mem hee)
  obtain ⟨g1, g2, g3⟩ := hO.mem e.s hsm
  obtain ⟨lit, hlit⟩ := hO.lit
  have g4 := hlit e.s hsm
  obtain ⟨c1, c2, c3, c5, c4⟩ := Can.split (hen ▸ hcan)
  have hmid := hinv.mid
  have hag : ∀ t, t ∈ looks all e.s.o → get (envD d en E0) t = get e.E t := fun t ht => by
    rw [hen, c1]; exact hrd.env ht
  have hside : (sideD d' en).Perm (sideD d en ++ e.kv) := by rw [hen]; exact hrd.side hset
  have hmade : madeD d' en = (madeD d en || e.mkd) := by rw [hen]; exact hrd.made hset
  have hde : d' e.s.j = true := by rw [hset]; simp
  have hdd : ∀ i, d i = true → d' i = true := fun i h => by rw [hset, h]; rfl
  have hdn : ∀ p, p ∈ en → d' p.s.j = false → d p.s.j = false := fun p _ h => by
    rw [hset, Bool.or_eq_false_iff] at h; exact h.1
  have hXD : (memD d en m1).n = (memX d en m1).n := by
    obtain ⟨l0, h1, _⟩ := memX_memD (d := d) en m1
    rw [h1, addA_n]
  have hDn : m1.n ≤ (memD d en m1).n := by rw [hXD]; exact hinv.aln
  have hMn : M.n = (memD d en m1).n := hinv.lit.n
  have hsatD : SatI ρ (memD d en m1) w := hinv.lit.weak hinv.lk hmid.sat
  -- the last blocks, where nothing has turned
  have hXs : e.mv = false → memX d' en m1 = memX d en m1 := fun hv => memX_congr en m1 fun p hp hpm => by
    rw [hset]
    have : p.s.j ≠ e.s.j := fun h => by
      rw [hen] at hp
      rcases List.mem_append.1 hp with h1 | h1
      · exact hrd.na p h1 h
      · rcases List.mem_cons.1 h1 with rfl | h1
        · rw [hv] at hpm; cases hpm
        · exact hrd.nb p h1 h
    rw [decide_eq_false this, Bool.or_false]
  have alkS : e.mv = false → ∀ a p b, en = a ++ p :: b → (∀ r, r ∈ b → d' r.s.j = true → r.mv = false) → ∀ q, p.al = some q → look (memX d' en m1) q.1 = none := fun hv a p b h1 h2 q hq => by
    rw [hXs hv]
    exact hinv.alk a p b h1 (fun r hr hd => h2 r hr (hdd _ hd)) q hq
  have alnS : e.mv = false → m1.n ≤ (memX d' en m1).n := fun hv => by rw [hXs hv]; exact hinv.aln
  -- behind the step
  have fin : ∀ (w' : World) (ρ' : Rho) (v : Value) (M' : Mem), Steps P (lone fr frs w) (lone (fr.atR ((actOf fr).put e.s.o.dst v) (.inRegion all rest :: ks)) frs w') → RV ρ' v e.x → Ext ρ ρ' → SatI ρ' M' w' → Trans ρ0 ρ' m0 M' w0 w' → LitM id (madeD d' en) (sideD d' en) (memD d' en m1) M' → look (memD d' en m1) id = none → id < (memD d' en m1).n → (madeD d' en = false → ρ' id = none) →
      (∀ p, p ∈ en → ∀ q, p.al = some q → d' p.s.j = false → ρ' q.1 = none) → (∀ a p b, en = a ++ p :: b → (∀ r, r ∈ b → d' r.s.j = true → r.mv = false) → ∀ q, p.al = some q → look (memX d' en m1) q.1 = none) → m1.n ≤ (memX d' en m1).n →
      ∃ fr' w' ρ' M', Steps P (lone fr frs w) (lone fr' frs w') ∧ fr'.todo = .inRegion all rest :: ks ∧ fr'.tmps.size = fr.tmps.size ∧ Ext ρ ρ' ∧ Inv P base f0 ρ0 m0 w0 all id en E0 m1 d' ρ' x M' fr' frs w' := by
    intro w' ρ' v M' q1 q2 q3 q4 q5 q6 q7 q8 q9 q10 q11 q12
    obtain ⟨e1, e2, e3⟩ := put_env hmid.env q3 q2 (fun t h => okOps_dst hok g1 h)
    refine ⟨_, w', ρ', M', q1, rfl, e2, q3, ⟨⟨hmid.fn, fun t => ?_, ?_, rfl, hmid.kind, hmid.rnd.ext q3, hmid.rest.ext q3, q4, q5, hmid.bot⟩, q6, q7, q8, q9, q10, q11, q12⟩⟩
    · have : get (envD d' en E0) t = get (Ev.put e.s.o.dst e.x (envD d en E0)) t := by
        rw [hen]; exact hrd.put hset t
      rw [this]
      exact e1 t
    · show DL ρ' x.dfs ((actOf fr).put e.s.o.dst v).defers
      rw [e3]; exact hmid.dfs.ext q3
  rcases En.cases c3 with ⟨hs0, hk, hkv, hal⟩ | ⟨hs1, hv, hk, hkv, hal, hg, hx⟩ | ⟨hs2, hv, hk, hal, hg, hx, lc, hlc, hi⟩ | ⟨hs3, hv, hk, hkv, hch, hg, t, ob, hop, hob, hal, hx⟩
  · -- an operation that does not know of what stands apart
    have lkX : ∀ (a' b' : List En), en = a' ++ b' → (∀ p, p ∈ b' → d p.s.j = true → p.mv = false) → ∀ q, q ∈ eaL d b' → look (memX d en m1) q.1 = none ∧ q.1 < (memX d en m1).n := by
      intro a' b' h1 h2 q hq
      obtain ⟨p, k1, k2, k3⟩ := eaL_mem hq
      obtain ⟨u, v, rfl⟩ := List.append_of_mem k1
      have hp : p ∈ en := by rw [h1]; simp
      exact ⟨hinv.alk (a' ++ u) p v (by rw [h1]; simp) (fun r hr => h2 r (by simp [hr])) q k3, Nat.lt_of_lt_of_le (hF.al p hp q k3).2.2 hinv.aln⟩
    have lk1 : mmS e.s = true → (∀ p, p ∈ b → d p.s.j = true → p.mv = false) → ∀ q, q ∈ eaL d b → look (memD yes a m1) q.1 = none ∧ q.1 < (memD yes a m1).n := by
      intro hm h2 q hq
      have hX : memX d en m1 = memX yes a m1 := by
        rw [hen, memX_append, memX_cons, if_neg (by rw [hrd.rd]; simp), memX_early b _ h2]
        exact memX_congr a m1 fun p hp hpm => hrd.ma hm p hp (.inl hpm)
      obtain ⟨k1, k2⟩ := lkX (a ++ [e]) b (by rw [hen]; simp) h2 q hq
      obtain ⟨p, k3, k4, k5⟩ := eaL_mem hq
      obtain ⟨l0, h5, h6⟩ := memX_memD (d := yes) a m1
      rw [hX] at k1 k2
      rw [h5, addA_n]
      refine ⟨?_, k2⟩
      rw [addA_look l0 _ _ fun z hz => ?_]
      · exact k1
      · obtain ⟨r, hr, hr2⟩ := h6 z hz
        obtain ⟨u, v, rfl⟩ := List.append_of_mem k3
        exact al_ne hF hO hl (a := a ++ e :: u) (p := p) (b := v) (by rw [hen]; simp) k5 r (.inl (by simp [hr])) z hr2
    have hna : e.mv = false → ¬ mvA e := fun hv h => by
      rcases h with h | h
      · rw [hv] at h; cases h
      · exact h hal
    have still : e.mv = false → memD d' en m1 = memD d en m1 := fun hv => by rw [hen]; exact hrd.memStill (hna hv) hset
    have hnd : ∀ b' a', en = a' ++ b' → ((eaL d b').map (·.1)).Nodup := fun b' a' h => eaL_nodup hF hO hl b' a' h
    obtain ⟨mc, mc', l1, k1, k2, k3, k4, k5, k6⟩ : ∃ mc mc' l1, memD d en m1 = addA l1 mc ∧ memD d' en m1 = addA l1 mc' ∧ (l1.map (·.1)).Nodup ∧ (∀ q, q ∈ l1 → look mc q.1 = none ∧ q.1 < mc.n) ∧ Does T rec all e.s.o e.E mc e.x mc' ∧ (e.mv = true → mc' = e.m' ∧ l1 = eaL d b) := by
      have chain : e.s.ch = true → mmS e.s = true ∧ isMv e.s = true := fun hc => by
        constructor
        · unfold mmS; rw [hc]; rfl
        · unfold isMv; rw [hc]; rfl
      cases c3 with
      | skip _ hv _ _ _ hg hx => exact ⟨_, _, [], rfl, still hv, List.nodup_nil, fun q hq => (by cases hq), .skip hg hx rfl, fun h => by rw [hv] at h; cases h⟩
      | light _ hv _ _ _ hc hg h =>
        have hli : isLight T e.s.o.op = true := by rw [hc, hs0] at g2; simpa using g2
        cases hrdd : isRead e.s.o.op with
        | false => exact ⟨_, _, [], rfl, still hv, List.nodup_nil, fun q hq => (by cases hq), .ran hg (light_any hli hrdd (actW_mk _) h _), fun h => by rw [hv] at h; cases h⟩
        | true =>
          have hm : mmS e.s = true := by unfold mmS; rw [hs0, hrdd]; simp
          rcases hrd.light (e := e) (m0 := m1) hm with ⟨h1, h2⟩ | ⟨b1, p, b2, h1, h2, h3, h4, h5, h6⟩
          · have hD : memD d en m1 = addA (eaL d b) (memD yes a m1) := by rw [hen]; exact h2
            refine ⟨_, _, eaL d b, hD, (still hv).trans hD, hnd b (a ++ [e]) (by rw [hen]; simp), lk1 hm h1, .ran hg ?_, fun h => by rw [hv] at h; cases h⟩
            have := light_mem hli (actW_mk _) h
            rw [this] at h
            rw [← c2]; exact h
          · have hD : memD d en m1 = addA (eaL d b2) p.m' := by rw [hen]; exact h6
            have hX : memX d en m1 = p.m' := by
              rw [hen, h1, show a ++ e :: (b1 ++ p :: b2) = (a ++ e :: b1) ++ p :: b2 by simp, memX_append, memX_cons, if_pos ⟨h3, h2⟩, memX_early b2 _ h5]
            refine ⟨_, _, eaL d b2, hD, (still hv).trans hD, hnd b2 (a ++ e :: b1 ++ [p]) (by rw [hen, h1]; simp), fun q hq => ?_, .ran hg ?_, fun h => by rw [hv] at h; cases h⟩
            · rw [← hX]; exact lkX (a ++ e :: b1 ++ [p]) b2 (by rw [hen, h1]; simp) h5 q hq
            · obtain ⟨m2, hm2⟩ := c4 hc hs0 hg hrdd p (by rw [h1]; simp) h2 h4
              have := light_mem hli (actW_mk _) hm2
              rw [this] at hm2
              exact hm2
      | ran _ hv _ _ _ hc hg h =>
        obtain ⟨hm, hi⟩ := chain hc
        have hD : memD d en m1 = addA (eaL d b) (memD yes a m1) := by rw [hen]; exact hrd.mem hm hi
        refine ⟨_, e.m', eaL d b, hD, by rw [hen]; exact hrd.memMv hv hi hset, hnd b (a ++ [e]) (by rw [hen]; simp), lk1 hm (hrd.mb hi), .ran hg (by rw [← c2]; exact h), fun _ => ⟨rfl, rfl⟩⟩
      | sum _ hv _ _ _ hg g args h hc hX hr =>
        obtain ⟨hm, hi⟩ := chain hc
        have hD : memD d en m1 = addA (eaL d b) (memD yes a m1) := by rw [hen]; exact hrd.mem hm hi
        exact ⟨_, _, eaL d b, hD, (still hv).trans hD, hnd b (a ++ [e]) (by rw [hen]; simp), lk1 hm (hrd.mb hi), .sum hg g args (by rw [← c2]; exact h) hX hr rfl, fun h => by rw [hv] at h; cases h⟩
      | call _ hv _ _ _ hg g args h hc hX hr =>
        obtain ⟨hm, hi⟩ := chain hc
        have hD : memD d en m1 = addA (eaL d b) (memD yes a m1) := by rw [hen]; exact hrd.mem hm hi
        refine ⟨_, e.m', eaL d b, hD, by rw [hen]; exact hrd.memMv hv hi hset, hnd b (a ++ [e]) (by rw [hen]; simp), lk1 hm (hrd.mb hi), .call hg g args (by rw [← c2]; exact h) hX (by rw [← c2]; exact hr), fun _ => ⟨rfl, rfl⟩⟩
      | make h1 => rw [hs0] at h1; cases h1
      | ins h1 => rw [hs0] at h1; cases h1
      | alloc h1 => rw [hs0] at h1; cases h1
    have hsc : SatI ρ mc w := addA_weak l1 k3 (fun q hq => (k4 q hq).1) (k1 ▸ hsatD)
    obtain ⟨w', ρ', v, q1, q2, q3, q4⟩ := does_step (P := P) (cs := frs) hT hsum hrec hmid.mode hmid.env hsc htodo g1 hok hag k5
    obtain ⟨f1, f2, f3⟩ := frames l1 k3 k4 (k1 ▸ hsatD) q3 q4
    rw [← k1, ← k2] at f2
    rw [← k2] at f1
    obtain ⟨M', y1, y2, y3, y4, y5, y6⟩ := hinv.lit.step hinv.lk hinv.lt hmid.sat hinv.no f1 f2
    have alno' : ∀ p, p ∈ en → ∀ q, p.al = some q → d' p.s.j = false → ρ' q.1 = none := fun p hp q hq hd => by
      cases hz : ρ' q.1 with
      | none => rfl
      | some z =>
        rcases f2.dom q.1 (by rw [hz]; simp) with h | h
        · exact absurd (hinv.alno p hp q hq (hdn p hp hd)) h
        · have := (hF.al p hp q hq).2.2
          omega
    refine fin w' ρ' v M' q1 q2 q4.ext y2 (hmid.tr.trans y3) ?_ y4 y5 ?_ alno' ?_ ?_
    · rw [hmade, hk, Bool.or_false]
      refine ⟨fun h => ⟨(y1.no h).1, (y1.no h).2.1, ?_⟩, fun h => ?_⟩
      · have := hside
        rw [(hinv.lit.no h).2.2, hkv] at this
        exact this.eq_nil
      · obtain ⟨ls, p1, p2⟩ := y1.yes h
        refine ⟨ls, p1.trans ?_, p2⟩
        have := hside.symm
        rw [hkv, List.append_nil] at this
        exact this
    · rw [hmade, hk, Bool.or_false]; exact y6
    · cases hv : e.mv with
      | false => exact alkS hv
      | true =>
        obtain ⟨z1, z2⟩ := k6 hv
        have hX' : memX d' en m1 = e.m' := by
          have hmb := hrd.mb (hF.isMv hee (.inl hv))
          rw [hen, memX_append, memX_cons, if_pos ⟨hde, hv⟩, memX_early b _ fun p hp hd => ?_]
          rw [hset, decide_eq_false (hrd.nb p hp), Bool.or_false] at hd
          exact hmb p hp hd
        rw [hX']
        intro a' p b' h1 h2 q hq
        have hp : p ∈ en := by rw [h1]; simp
        -- it stands behind
        have hpb : p ∈ b := by
          rw [hen] at hp
          rcases List.mem_append.1 hp with h | h
          · exfalso
            obtain ⟨u, v', rfl⟩ := List.append_of_mem h
            have hb' : e ∈ b' := by
              have h3 : (u ++ p :: v') ++ e :: b = a' ++ p :: b' := by rw [← hen, h1]
              have h4 : u = a' := by
                rcases List.append_eq_append_iff.1 (show u ++ (p :: v' ++ e :: b) = a' ++ p :: b' by rw [← h3]; simp) with ⟨c, hc1, hc2⟩ | ⟨c, hc1, hc2⟩
                · cases c with
                  | nil => simpa using hc1.symm
                  | cons y ys =>
                    exfalso
                    simp only [List.cons_append, List.cons.injEq] at hc2
                    have : p ∈ a' := by rw [hc1]; simp [hc2.1]
                    obtain ⟨u1, u2, rfl⟩ := List.append_of_mem this
                    exact al_ne hF hO hl h1 hq p (.inl (by simp)) q hq rfl
                · cases c with
                  | nil => simpa using hc1
                  | cons y ys =>
                    exfalso
                    simp only [List.cons_append, List.cons.injEq] at hc2
                    have : p ∈ u := by rw [hc1]; simp [hc2.1]
                    exact al_ne hF hO hl (a := u) (p := p) (b := v' ++ e :: b) (by rw [hen]; simp) hq p (.inl this) q hq rfl
              subst h4
              have h5 : p :: (v' ++ e :: b) = p :: b' := List.append_cancel_left («as» := u) (by rw [← h3]; simp)
              cases h5
              simp
            have := h2 e hb' hde
            rw [hv] at this; cases this
          · rcases List.mem_cons.1 h with rfl | h
            · rw [hal] at hq; cases hq
            · exact h
        cases hd : d p.s.j with
        | true =>
          rw [← z1]
          refine f3 q ?_
          rw [z2]
          obtain ⟨u, v', rfl⟩ := List.append_of_mem hpb
          have happ : ∀ (x y : List En), eaL d (x ++ y) = eaL d x ++ eaL d y := by
            intro x
            induction x with
            | nil => intro y; rfl
            | cons z x ih => intro y; rw [List.cons_append, eaL_cons, eaL_cons, ih, List.append_assoc]
          rw [happ, eaL_cons, if_pos hd, hq]
          simp
        | false =>
          have hn := alno' p hp q hq (by rw [hset, hd, decide_eq_false (hrd.nb p hpb)]; rfl)
          cases hz : look e.m' q.1 with
          | none => rfl
          | some z =>
            rw [← z1] at hz
            obtain ⟨b0, c0, h3, _⟩ := q3.obj _ z hz
            rw [hn] at h3; cases h3
    · cases hv : e.mv with
      | false => exact alnS hv
      | true =>
        obtain ⟨z1, z2⟩ := k6 hv
        have hX' : memX d' en m1 = e.m' := by
          have hmb := hrd.mb (hF.isMv hee (.inl hv))
          rw [hen, memX_append, memX_cons, if_pos ⟨hde, hv⟩, memX_early b _ fun p hp hd => ?_]
          rw [hset, decide_eq_false (hrd.nb p hp), Bool.or_false] at hd
          exact hmb p hp hd
        rw [hX', ← z1]
        have h1 := q4.mono
        have h2 : (memD d en m1).n = mc.n := by rw [k1, addA_n]
        omega
  · -- the map is made
    have hna : ¬ mvA e := fun h => by
      rcases h with h | h
      · rw [hv] at h; cases h
      · exact h hal
    have hm2 : memD d' en m1 = memD d en m1 := by rw [hen]; exact hrd.memStill hna hset
    obtain ⟨t, hop⟩ := sd_one (hs1 ▸ g4).symm
    have hca := hen ▸ hcan
    obtain ⟨p1, E2, m2, p2⟩ := Can.parts hca
    have hls : lsD a none = none := by
      cases c3 with
      | make _ _ _ _ _ hls => exact hls
      | _ => simp_all
    have hlsn : madeD d en = false := by
      cases hmd : madeD d en with
      | false => rfl
      | true =>
        exfalso
        obtain ⟨p, k1, k2, k3⟩ := madeD_mem hmd
        rw [hen] at k1
        rcases List.mem_append.1 k1 with k1 | k1
        · have := (Can.ls p1).2 rfl
          rw [hls, if_pos (madeD_of (d := yes) k1 rfl k3)] at this
          cases this
        · rcases List.mem_cons.1 k1 with rfl | k1
          · have := hrd.rd; rw [k2] at this; cases this
          · obtain ⟨_, _, _, _, _, p3⟩ := p2
            have hn : lsN e (lsD a none) = some [] := by unfold lsN; rw [if_pos hk]
            have := ((Can.ls p3).1 _ hn).2
            rw [madeD_of (d := yes) k1 rfl k3] at this
            cases this
    have hno := hinv.no hlsn
    obtain ⟨l1, l2, l3⟩ := hinv.lit.no hlsn
    have ht1 : Trans ρ0 ρ m0 (memD d en m1) w0 w := hmid.tr.congr (fun _ => rfl) rfl (fun j => (l1 j).symm) l2.symm
    obtain ⟨q3, q4, q5⟩ := make_sat hsatD hno hinv.lt ht1 h0
    have hw : Region.wanted e.s.o (yielded all fr.tmps) = true := by simp [Region.wanted, hg]
    have hst : step P (lone fr frs w) = .next (lone (fr.atR ((actOf fr).put e.s.o.dst (.map (some w.heap.size))) (.inRegion all rest :: ks)) frs (w.alloc (.map #[] 0))) := by
      have hrun := run_at hmid.mode
      rw [htodo] at hrun
      have hgo := stepGR_op (P := P) (b := fr) (a := actOf fr) (k := ks) (cs := frs) (w := w) (rest := rest) g1 hw
      have hr : (execOp (actOf fr).eval e.s.o).run P w = .ok (.value (.map (some w.heap.size))) (w.alloc (.map #[] 0)) := by simp [execOp, hop, Instr.makeMap]
      rw [Oper.semAt_eq _ _ _ (fun c e' => by rw [hop] at e'; cases e')] at hgo
      rw [hrun] at hgo
      refine step_lone_go ?_
      rw [hgo, ← fin_at hmid.mode htodo g1]
      simp [stepG.apply, hr]
    refine fin _ _ (.map (some w.heap.size)) _ (.one hst) ?_ q5 q3 q4 ?_ (by rw [hm2]; exact hinv.lk) (by rw [hm2]; exact hinv.lt) (fun h => by rw [hmade, hk, Bool.or_true] at h; cases h) (fun p hp q hq hd => ?_) (alkS hv) (alnS hv)
    · rw [hx]; exact .map id _ 0 (upd_same _ _ _)
    · rw [hm2]
      refine ⟨fun h => (by rw [hmade, hk, Bool.or_true] at h; cases h), fun _ => ⟨[], ?_, With.put id _ _⟩⟩
      rw [l3, hkv] at hside
      exact hside.symm
    · have hne : q.1 ≠ id := by
        rw [(hF.al p hp q hq).1]
        unfold idA
        simp only [Nat.add_eq]
        omega
      rw [upd_other _ _ hne]
      exact hinv.alno p hp q hq (hdn p hp hd)
  · -- an entry is laid
    have hna : ¬ mvA e := fun h => by
      rcases h with h | h
      · rw [hv] at h; cases h
      · exact h hal
    have hm2 : memD d' en m1 = memD d en m1 := by rw [hen]; exact hrd.memStill hna hset
    obtain ⟨t, y, k, v, hop, hy, hkey, hnew, hkv⟩ := insO_inv hi
    have hkv : e.kv = [(opX e.E k, opX e.E v)] := List.append_cancel_left hkv
    obtain ⟨p, k', v', hlp, hop'⟩ := sd_two (hs2 ▸ g4).symm
    rw [hop] at hop'
    cases hop'
    have hops := opX_looks hag
    rw [hop] at hops
    have hyE : opX (envD d en E0) (.tmp p.1) = .map id := by rw [hops _ (by simp [Op.operands]), hy]
    have hmd : madeD d en = true := by
      cases hq : madeD d en with
      | true => rfl
      | false =>
        have hr := eval_rel (a := actOf fr) hmid.env (.tmp p.1)
        rw [hyE] at hr
        generalize (actOf fr).eval (.tmp p.1) = u at hr
        cases hr with
        | map _ b' c' hr' => rw [hinv.no hq] at hr'; cases hr'
    obtain ⟨ls, hp, hW⟩ := hinv.lit.yes hmd
    have hca := hen ▸ hcan
    obtain ⟨pa, E2, m2, pb⟩ := Can.parts hca
    have hlc' : lc = sideD yes a := by
      have := (Can.ls pa).2 rfl
      rw [hlc] at this
      split at this
      · cases this; rfl
      · cases this
    have hdist : ∀ q, q ∈ ls → keyEq (keyT T p.2) (opX e.E k) q.1 = some false := by
      intro q hq
      obtain ⟨e', k1, k2, k3⟩ := sideD_mem (hp.subset hq)
      rw [hen] at k1
      rcases List.mem_append.1 k1 with k1 | k1
      · refine (newKey_mem hnew q ?_).1
        rw [hlc']
        obtain ⟨a1, a2, rfl⟩ := List.append_of_mem k1
        rw [sideD_append]
        exact List.mem_append_right _ (by rw [sideD_yes]; exact List.mem_append_left _ k3)
      · rcases List.mem_cons.1 k1 with rfl | k1
        · have := hrd.rd; rw [k2] at this; cases this
        · obtain ⟨b1, b2, rfl⟩ := List.append_of_mem k1
          have hen2 : en = (a ++ e :: b1) ++ e' :: b2 := by rw [hen]; simp
          obtain ⟨d1, d2, d3, _⟩ := Can.split (hen2 ▸ hcan)
          obtain ⟨pa2, _⟩ := Can.parts (hen2 ▸ hcan)
          rcases En.cases d3 with ⟨_, _, z, _⟩ | ⟨_, _, _, z, _⟩ | ⟨z2, _, _, _, _, _, lc2, z3, z4⟩ | ⟨_, _, _, z, _⟩
          · rw [z] at k3; cases k3
          · rw [z] at k3; cases k3
          · obtain ⟨t2, y2, k2', v2, hop2, hy2, hkey2, hnew2, hkv2⟩ := insO_inv z4
            have hkv2 : e'.kv = [(opX e'.E k2', opX e'.E v2)] := List.append_cancel_left hkv2
            have g5 := hlit e'.s (by rw [hl, hen2]; simp)
            obtain ⟨p', k4, v4, hlp2, hop3⟩ := sd_two (z2 ▸ g5).symm
            rw [hop2] at hop3
            cases hop3
            rw [hlp] at hlp2
            cases hlp2
            have hlc2 : lc2 = sideD yes (a ++ e :: b1) := by
              have := (Can.ls pa2).2 rfl
              rw [z3] at this
              split at this
              · cases this; rfl
              · cases this
            have := (newKey_mem hnew2 (opX e.E k, opX e.E v) (by
              rw [hlc2, sideD_append]
              refine List.mem_append_right _ ?_
              rw [sideD_yes, hkv]
              simp)).2
            rw [hkv2, List.mem_singleton] at k3
            rw [k3]
            exact this
          · rw [z] at k3; cases k3
    have hset' := setMap_new (q := keyT T p.2) (k := opX e.E k) (v := opX e.E v) ls.length ls 0 hdist (by simp)
    have hact : actW (opW T e.s.o.op) e.E M = .ok e.x (M.put id (.map (bornE (ls ++ [(opX e.E k, opX e.E v)]) 0) (ls.length + 1))) := by
      rw [hop, hx]
      show mapSetE T p.2 (opX e.E k) (opX e.E v) M (opX e.E (.tmp p.1)) = _
      rw [hy]
      unfold mapSetE
      simp only
      rw [hkey]
      simp only
      rw [hW.lk, if_pos rfl]
      unfold mapSetO
      simp only
      rw [hset']
      rfl
    have hdoes : Does T rec all e.s.o e.E M e.x (M.put id (.map (bornE (ls ++ [(opX e.E k, opX e.E v)]) 0) (ls.length + 1))) := .ran (by unfold wantG; rw [hg]) hact
    obtain ⟨w', ρ', u, q1, q2, q3, q4⟩ := does_step (P := P) (cs := frs) hT hsum hrec hmid.mode hmid.env hmid.sat htodo g1 hok hag hdoes
    refine fin w' ρ' u _ q1 q2 q4.ext q3 (hmid.tr.trans q4) ?_ (by rw [hm2]; exact hinv.lk) (by rw [hm2]; exact hinv.lt) (fun h => by rw [hmade, hmd] at h; cases h) (fun pp hpp q hq hd => ?_) (alkS hv) (alnS hv)
    · rw [hm2]
      refine ⟨fun h => (by rw [hmade, hmd] at h; cases h), fun _ => ⟨ls ++ [(opX e.E k, opX e.E v)], ?_, ?_, ?_⟩⟩
      · rw [hkv] at hside
        exact (hp.append_right _).trans hside.symm
      · intro j
        rw [look_put, List.length_append, List.length_singleton]
        by_cases hj : j = id
        · rw [if_pos hj, if_pos hj]
        · rw [if_neg hj, if_neg hj, hW.lk, if_neg hj]
      · exact hW.n
    · cases hz : ρ' q.1 with
      | none => rfl
      | some z =>
        rcases q4.dom q.1 (by rw [hz]; simp) with h | h
        · exact absurd (hinv.alno pp hpp q hq (hdn pp hpp hd)) h
        · have := (hF.al pp hpp q hq).2.2
          omega
  · -- a new block
    have hida := (hF.al e hee _ hal)
    have hne : id ≠ idA id e.s.j := by
      unfold idA
      simp only [Nat.add_eq]
      omega
    have hf : opW T e.s.o.op = .mk fun _ m => allocE T t m := by rw [hop]; rfl
    have hsn : SatI noR0 ⟨.nil, idA id e.s.j⟩ w := ⟨fun _ _ => rfl, fun i j b c c' h => absurd rfl h, fun i o h => by cases h⟩
    obtain ⟨nx, v, w', ρ1, h1, h2, h3, h4, h5⟩ := (opW_ok (P := P) hT e.s.o.op _ hf (E := e.E) (allocO_ok hob ⟨.nil, idA id e.s.j⟩)).inf (ev := (actOf fr).eval) (fun y hy => by rw [hop] at hy; simp [Op.operands] at hy) hsn
    obtain ⟨bb, cc, hv1, hρ1⟩ : ∃ bb cc, v = .pointer (some ⟨bb, 0, none⟩) ∧ ρ1 (idA id e.s.j) = some (bb, cc) := by
      cases h3 with
      | ptr _ _ b c h => exact ⟨b, c, rfl, h⟩
    have hlk1 : look ((⟨.nil, idA id e.s.j⟩ : Mem).add ob) (idA id e.s.j) = some ob := by rw [look_add, if_pos rfl]
    obtain ⟨b2, c2', g5, hro⟩ := h4.obj _ ob hlk1
    rw [hρ1] at g5
    cases g5
    have hnb : ∀ k, ¬ Named noR0 (⟨.nil, idA id e.s.j⟩ : Mem) k := fun k ⟨i, c, hi, _⟩ => hi rfl
    have hbig : w.heap.size ≤ bb := by
      rcases h5.new bb ⟨idA id e.s.j, cc, by rw [hlk1]; simp, hρ1⟩ with h | h
      · exact absurd h (hnb bb)
      · exact h
    have hext1 : Ext ρ1 (upd ρ (idA id e.s.j) (bb, cc)) := fun i p hp => by
      rcases h5.dom i (by rw [hp]; simp) with h | ⟨h6, h7⟩
      · exact absurd rfl h
      · have : i = idA id e.s.j := by
          have h6 : idA id e.s.j ≤ i := h6
          have h7 : i < idA id e.s.j + 1 := h7
          omega
        subst this
        rw [hρ1] at hp
        rw [upd_same]; exact hp
    have hnd : d e.s.j = false := hrd.rd
    obtain ⟨q3, q4, q5⟩ := new_sat (id := idA id e.s.j) (b := bb) (c := cc) (o := ob) (w' := w') hmid.sat (hinv.alno e hee _ hal hnd) (by rw [hMn]; exact Nat.lt_of_lt_of_le hida.2.2 hDn) hmid.tr (Nat.le_trans h0 (by unfold idA; simp only [Nat.add_eq]; omega))
      (fun k hk => h5.block k hk (hnb k)) hbig h5.size h5.os h5.tape h5.output (hro.mono hext1 rfl)
    obtain ⟨y1, y2⟩ := hrd.memAl (m0 := m1) hv hal (hF.isMv hee (.inr (by rw [hal]; simp))) hset
    rw [← hen] at y1 y2
    have hlook : ∀ j, look (memD d' en m1) j = if j = idA id e.s.j then some ob else look (memD d en m1) j := fun j => by
      rw [y1, y2]
      exact addA_put (idA id e.s.j, ob) (eaL d b) (memD d a m1) j fun r hr => by
        obtain ⟨p, k1, _, k2⟩ := eaL_mem hr
        exact al_ne hF hO hl hen hal p (.inr k1) r k2
    have hn' : (memD d' en m1).n = (memD d en m1).n := by rw [y1, y2, addA_n, addA_n]; rfl
    have hw : Region.wanted e.s.o (yielded all fr.tmps) = true := by simp [Region.wanted, hg]
    have hst : step P (lone fr frs w) = .next (lone (fr.atR ((actOf fr).put e.s.o.dst v) (.inRegion all rest :: ks)) frs w') := by
      have hrun := run_at hmid.mode
      rw [htodo] at hrun
      have hgo := stepGR_op (P := P) (b := fr) (a := actOf fr) (k := ks) (cs := frs) (w := w) (rest := rest) g1 hw
      have hr := h1 e.s.o rfl
      rw [Oper.semAt_eq _ _ _ (fun c e' => by rw [hop] at e'; cases e')] at hgo
      rw [hrun] at hgo
      refine step_lone_go ?_
      rcases h2 with rfl | ⟨rfl, rfl⟩
      · rw [hgo, ← fin_at hmid.mode htodo g1]
        simp [stepG.apply, hr]
      · cases hv1
    refine fin w' _ v _ (.one hst) (by rw [hx]; exact h3.ext hext1) q5 q3 q4 ?_ (by rw [hlook, if_neg hne]; exact hinv.lk) (by rw [hn']; exact hinv.lt) (fun h => ?_) (fun p hp q hq hd => ?_) (alkS hv) (alnS hv)
    · rw [hmade, hk, Bool.or_false]
      refine ⟨fun h => ⟨fun j => ?_, ?_, ?_⟩, fun h => ?_⟩
      · rw [look_put, hlook, (hinv.lit.no h).1]
      · rw [hn']; exact hMn
      · have := hside
        rw [(hinv.lit.no h).2.2, hkv] at this
        exact this.eq_nil
      · obtain ⟨ls, z1, z2⟩ := hinv.lit.yes h
        refine ⟨ls, z1.trans ?_, fun j => ?_, by rw [hn']; exact hMn⟩
        · have := hside.symm
          rw [hkv, List.append_nil] at this
          exact this
        · rw [look_put, hlook, z2.lk]
          by_cases h6 : j = id
          · subst h6
            rw [if_neg hne, if_pos rfl, if_pos rfl]
          · rw [if_neg h6, if_neg h6]
    · rw [hmade, hk, Bool.or_false] at h
      rw [upd_other _ _ hne]
      exact hinv.no h
    · have hj : p.s.j ≠ e.s.j := fun h => by rw [h, hde] at hd; cases hd
      have hne2 : q.1 ≠ idA id e.s.j := by
        rw [(hF.al p hp q hq).1]
        unfold idA
        simp only [Nat.add_eq]
        omega
      rw [upd_other _ _ hne2]
      exact hinv.alno p hp q hq (hdn p hp hd)

theorem draw_run {id : Nat} (hT : TabOk P T) (hsum : SumOk P T) {rec : Rec} (hrec : RecOk P rec) (hO : OrdF T all l) (hl : l = en.map (·.s) ++ tail) (hcan : Can T rec all id E0 m1 none en) (hF : EnF id m1 en) (h0 : m0.n ≤ id) {k : List It} {ks : List Item} {x : Cx} {frs : List Frame} {r : DR}
    (hend : (tail = [] ∧ ((lsD en none = none ∧ r = .fin (envD yes en E0) (memD yes en m1)) ∨ ∃ ls, lsD en none = some ls ∧ r = .lit (envD yes en E0) (memD yes en m1) id ls)) ∨ ∃ s b g args ch m', tail = s :: b ∧ (∀ t, t ∈ b → bit t.pre s.j = true) ∧ PanK T rec all s (envD yes en E0) (memD yes en m1) g args ch m' ∧ r = .pan ch (Ev.anyD all.toList E0) m') :
    ∀ (fuel t : Nat) (done : Array Bool) (ρ : Rho) (M : Mem) (fr : Frame) (w : World), done.size = all.size → done.toList.count false = fuel → Closed all.toList done → (∀ i, done.getD i false = true → ∃ e, e ∈ en ∧ e.s.j = i) →
      fr.todo = .inRegion all (Region.linearise.go .any all fuel t done []) :: ks → TR ρ fr.tmps.size k ks → okOps fr.tmps.size all = true →
      Inv P base f0 ρ0 m0 w0 all id en E0 m1 (fun i => done.getD i false) ρ x M fr frs w → OutR P base f0 ρ0 m0 w0 k x fr frs w r := by
  have hsl : ∀ p, p ∈ en → p.s ∈ l := fun p hp => by rw [hl]; exact List.mem_append_left _ (List.mem_map_of_mem hp)
  have hin : ∀ e, e ∈ en → e.s.o ∈ all.toList := fun e he => by
    have := (hO.mem e.s (hsl e he)).1
    rw [Array.mem_toList_iff]; exact Array.mem_of_getElem? this
  -- nothing may be run
  have stop : ∀ (done : Array Bool) (ρ : Rho) (M : Mem) (fr : Frame) (w : World), done.size = all.size → Closed all.toList done → (∀ i, done.getD i false = true → ∃ e, e ∈ en ∧ e.s.j = i) → Region.ready .any all done = [] → fr.todo = .inRegion all [] :: ks → TR ρ fr.tmps.size k ks →
      Inv P base f0 ρ0 m0 w0 all id en E0 m1 (fun i => done.getD i false) ρ x M fr frs w → OutR P base f0 ρ0 m0 w0 k x fr frs w r := by
    intro done ρ M fr w hsz hcl hsub hnil htodo hk hinv
    have hmid := hinv.mid
    have hall := all_done hO hl hsz hnil en [] rfl (fun e he => by cases he)
    rcases hend with ⟨rfl, hfin⟩ | ⟨s, b, g, args, ch, m', rfl, hbeh, hp, rfl⟩
    · have e1 : ∀ t, get (envD (fun i => done.getD i false) en E0) t = get (envD yes en E0) t := fun t => envD_agree en _ _ (fun p hp hne => absurd (hall p hp) hne) rfl
      have e2 : memD (fun i => done.getD i false) en m1 = memD yes en m1 := memD_congr en m1 fun p hp _ => hall p hp
      have e3 : madeD (fun i => done.getD i false) en = madeD yes en := madeD_congr en fun p hp => hall p hp
      have e4 : sideD (fun i => done.getD i false) en = sideD yes en := sideD_congr en fun p hp => hall p hp
      have hrun := run_at hmid.mode
      rw [htodo] at hrun
      have hst := stepR_region_end (P := P) (b := fr) (a := actOf fr) (k := ks) (cs := frs) (w := w) (ops := all)
      rw [hrun] at hst
      have hls := (Can.ls hcan).2 rfl
      have hcfg : ∀ M', (∀ j, look M' j = look M j) → M'.n = M.n → Cfg base f0 ρ0 m0 w0 ρ .run (envD yes en E0) k x M' (fr.atR (actOf fr) ks) frs w := fun M' h1 h2 =>
        ⟨⟨hmid.fn, fun t => by rw [← e1 t]; exact hmid.env t, fun _ => hk, hmid.dfs, .run, hmid.kind, hmid.rnd⟩, hmid.rest, hmid.sat.congr h1 h2, hmid.tr.congr (fun _ => rfl) rfl h1 h2, hmid.bot⟩
      rcases hfin with ⟨h1, rfl⟩ | ⟨ls, h1, rfl⟩
      · have hmd : madeD yes en = false := by
          cases hq : madeD yes en with
          | false => rfl
          | true => rw [hq, h1] at hls; cases hls
        obtain ⟨g1, g2, g3⟩ := hinv.lit.no (e3 ▸ hmd)
        rw [e2] at g1 g2
        exact ⟨_, w, ρ, .one hst, hcfg _ (fun j => (g1 j).symm) g2.symm⟩
      · have hmd : madeD yes en = true := by
          cases hq : madeD yes en with
          | true => rfl
          | false => rw [hq, h1] at hls; cases hls
        rw [hmd, h1] at hls
        cases hls
        obtain ⟨ls', g1, g2⟩ := hinv.lit.yes (e3 ▸ hmd)
        rw [e2] at g2
        rw [e4] at g1
        exact ⟨_, w, ρ, ls', M, .one hst, g1, g2, hcfg M (fun _ => rfl) rfl, rfl⟩
    · exfalso
      have hsm : s ∈ l := by rw [hl]; simp
      obtain ⟨g1, g2, g3⟩ := hO.mem s hsm
      have hsp := hO.spl (en.map (·.s)) s b hl
      have hlt : s.j < done.size := by rw [hsz]; exact (Array.getElem?_eq_some_iff.1 g1).1
      cases hd : done.getD s.j false with
      | true =>
        obtain ⟨e, h1, h2⟩ := hsub s.j hd
        exact (hsp.1 e.s (List.mem_map_of_mem h1)).1 h2
      | false =>
        have hdt : done.getD s.j true = false := by simpa [Array.getD, hlt] using hd
        have := mem_ready_of (l := all.toList) (o := s.o) (by simpa using g1) hdt fun e he hb => by
          obtain ⟨s', q1, q2⟩ := hsp.2 e he hb
          obtain ⟨p', hp', rfl⟩ := List.mem_map.1 q1
          rw [← q2]; exact hall p' hp'
        rw [show all.toList.toArray = all from by simp, hnil] at this
        cases this
  intro fuel
  induction fuel with
  | zero =>
    intro t done ρ M fr w hsz hcnt hcl hsub htodo hk hok hinv
    refine stop done ρ M fr w hsz hcl hsub ?_ htodo hk hinv
    rw [List.eq_nil_iff_forall_not_mem]
    intro i hi
    obtain ⟨o, ho, hil, hd, _⟩ := ready_mem (l := all.toList) (by simpa using hi)
    have := count_set hd
    omega
  | succ fuel ih =>
    intro t done ρ M fr w hsz hcnt hcl hsub htodo hk hok hinv
    simp only [Region.linearise.go] at htodo
    change fr.todo = .inRegion all (match (Region.ready .any all done)[t % (Region.ready .any all done).length]? with
      | some i => Region.linearise.go .any all fuel (t / (Region.ready .any all done).length) (done.setIfInBounds i true) [i]
      | none => [].reverse) :: ks at htodo
    cases hi : (Region.ready .any all done)[t % (Region.ready .any all done).length]? with
    | none =>
      have hnil : Region.ready .any all done = [] := by
        cases hr : Region.ready .any all done with
        | nil => rfl
        | cons x xs =>
          rw [hr] at hi
          have hlt : t % (x :: xs).length < (x :: xs).length := Nat.mod_lt _ (by simp)
          simp at hi
          simp at hlt
          omega
      rw [hi] at htodo
      exact stop done ρ M fr w hsz hcl hsub hnil htodo hk hinv
    | some i =>
      rw [hi] at htodo
      simp only at htodo
      rw [linearise_go_acc, List.reverse_singleton, List.singleton_append] at htodo
      have hir := List.mem_of_getElem? hi
      obtain ⟨o, ho, hil, hdt, hedge⟩ := ready_mem (l := all.toList) (i := i) (done := done) (by simpa using hir)
      have hid : i < done.size := by rw [hsz]; simpa using hil
      have hdf : done.getD i false = false := by simpa [Array.getD, hid] using hdt
      have ho' : all[i]? = some o := by simpa using ho
      obtain ⟨s, hsm, rfl⟩ := hO.cover i (by simpa using hil)
      obtain ⟨g1, g2, g3⟩ := hO.mem s hsm
      have hso : s.o = o := by rw [g1] at ho'; exact Option.some.inj ho'
      subst hso
      have hbef : Before all done s := hedge
      have hset : ∀ j, (done.setIfInBounds s.j true).getD j false = (done.getD j false || decide (j = s.j)) := fun j => getD_set_true hid
      have hsm' := hsm
      rw [hl] at hsm'
      rcases List.mem_append.1 hsm' with hm | hm
      · -- one that has been listed
        obtain ⟨e, hee, rfl⟩ := List.mem_map.1 hm
        obtain ⟨a, b, hen⟩ := List.append_of_mem hee
        have hrd := rdy_of hO hF hl hcl hen hdf hbef
        obtain ⟨fr', w', ρ', M', q1, q2, q3, q4, q5⟩ := draw_step hT hsum hrec hO hl hcan hF h0 hen hrd hset hinv htodo hok
        refine OutR.steps q1 q3 ?_
        refine ih _ _ ρ' M' fr' w' (by simpa using hsz) (by have := count_set hdt; omega) ?_ (fun j hj => ?_) q2 (hk.ext q4 q3) (by rw [q3]; exact hok) q5
        · intro j oj hj hjd ed hed hb
          rw [hset] at hjd ⊢
          rw [Bool.or_eq_true] at hjd
          rcases hjd with hjd | hjd
          · rw [hcl j oj hj hjd ed hed hb]; rfl
          · have : j = e.s.j := of_decide_eq_true hjd
            subst this
            rw [ho] at hj
            cases hj
            rw [hbef ed hed hb]; rfl
        · rw [hset, Bool.or_eq_true] at hj
          rcases hj with hj | hj
          · exact hsub j hj
          · exact ⟨e, hee, (of_decide_eq_true hj).symm⟩
      · -- the one that panics
        have hmid := hinv.mid
        rcases hend with ⟨rfl, _⟩ | ⟨s', b, g, args, ch, m', rfl, hbeh, hp, rfl⟩
        · cases hm
        · rcases List.mem_cons.1 hm with rfl | hm
          · have hsp := hO.spl (en.map (·.s)) s b hl
            have hrd : Rdy all (fun i => done.getD i false) en s [] := by
              refine ⟨hdf, fun p hp hpd => ?_, fun hm p hp hmp => ?_, fun p hp => (by cases hp), fun _ p hp => (by cases hp), fun p hp => (hsp.1 p.s (List.mem_map_of_mem hp)).1, fun p hp => (by cases hp)⟩
              · obtain ⟨k1, k2, k3⟩ := hsp.1 p.s (List.mem_map_of_mem hp)
                refine k3.resolve_left fun h => ?_
                have := before_pre hO hcl hsm hbef h
                rw [this] at hpd; cases hpd
              · obtain ⟨k1, k2, k3⟩ := hsp.1 p.s (List.mem_map_of_mem hp)
                exact before_pre hO hcl hsm hbef (k2 (hF.isMv hp hmp) hm)
            have hmm : memD (fun i => done.getD i false) en m1 = memD yes en m1 := hrd.memA (by unfold mmS; rw [hp.hc]; rfl)
            have hag : ∀ t, t ∈ looks all s.o → get (envD (fun i => done.getD i false) en E0) t = get (envD yes en E0) t := fun t ht => hrd.env' ht
            have hc := hrec g args (memD yes en m1)
            rw [hp.hr] at hc
            obtain ⟨hen, hc⟩ := hc
            obtain ⟨vals, h1, h2⟩ := op_callL (P := P) (cs := frs) (w := w) hmid.mode hmid.env htodo g1 (wantG_ok hmid.env hok hag hp.hg) (opX_looks hag) (actW_mk _) hp.h hp.hX hen
            have hsat := hinv.lit.weak hinv.lk hmid.sat
            obtain ⟨e, w', fr', ⟨c, ρ', rfl, q1, q2, q3⟩, q4, q5, q6⟩ := hc ρ w vals h2 (hmm ▸ hsat) (fr :: frs)
            have hlv := step_leave_panicked (P := P) (c := fr) (cs := frs) q6
            rw [Frame.raise_mode, hmid.mode] at hlv
            have htr : Trans ρ0 ρ' m0 m' w0 w' := (hmm ▸ hinv.lit.forget hinv.lk hmid.tr).trans q3
            refine ⟨_, w', ρ', .head h1 (Steps.trans q4 (.one hlv)), ⟨⟨hmid.fn, ?_, fun e => (by cases e), hmid.dfs.ext q3.ext, .pan q1, hmid.kind, hmid.rnd.ext q3.ext⟩, hmid.rest.ext q3.ext, q2, htr, hmid.bot⟩⟩
            exact RE.anyD hin (hmid.env.ext q3.ext)
          · -- one behind it
            obtain ⟨b1, b2, rfl⟩ := List.append_of_mem hm
            have hsp := (hO.spl (en.map (·.s) ++ s' :: b1) s b2 (by rw [hl]; simp)).1 s' (by simp)
            have hpre : bit s.pre s'.j = true := hbeh s (by simp)
            have := before_pre hO hcl hsm hbef hpre
            obtain ⟨e, q1, q2⟩ := hsub _ this
            exact absurd q2 ((hO.spl (en.map (·.s)) s' (b1 ++ s :: b2) hl).1 e.s (List.mem_map_of_mem q1)).1

end
end
end Ev
end Go.Proofs.YtaacgmcgmljjeaaGreat

/- The evaluator: the machine as a whole. -/
namespace Go.Proofs.YtaacgmcgmljjeaaGreat
namespace Ev
open Go.RowKit

section
variable {P : Program} {T : Tab}
variable {base : List Frame} {f0 : FuncId} {ρ0 : Rho} {m0 : Mem} {w0 : World} {ρ : Rho} {E : Env} {todo k : List It} {x : Cx} {m : Mem} {fr : Frame} {frs : List Frame} {w : World}

theorem getD_repl (n i : Nat) : (Array.replicate n false).getD i false = false := by
  simp [Array.getD_eq_getD_getElem?, Array.getElem?_replicate]
  split <;> rfl

/-- a region that draws its order, where the order serves -/
theorem drawL_ok (hT : TabOk P T) (hsum : SumOk P T) {rec : Rec} (hrec : RecOk P rec) {id n : Nat} {ops : Array Oper} {lit : Option (Option (Nat × TypeId))} (hn : lit ≠ none → ops.size ≤ n) (hord : orderOk ops (planE T lit ops) [] 0 0 = true) {ks : List Item} (h : Cfg base f0 ρ0 m0 w0 ρ .run E (.code (.region id ops true) :: k) x m fr frs w) (ht : fr.todo = .code (.region id ops true) :: ks) (hk : TR ρ fr.tmps.size k ks) (hok : okOps fr.tmps.size ops = true) :
    OutR P base f0 ρ0 m0 w0 k x fr frs w (drawL T rec ops m.n (anyD ops.toList E) (planE T lit ops) E (keep m n) [] none) := by
  have hO := ordF_of hord
  have hsp := draw_spec (T := T) (rec := rec) (all := ops) (id := m.n) (Ea := anyD ops.toList E) (planE T lit ops) (fun s hs h3 => by
    rw [(planE_mem hs).2.1, h3, show Nat.beq 3 0 = false from rfl, Bool.and_false]) E (keep m n) [] none
  generalize drawL T rec ops m.n (anyD ops.toList E) (planE T lit ops) E (keep m n) [] none = r at hsp
  have hst := stepR_region_draw (P := P) (b := fr) (a := actOf fr) (k := ks) (cs := frs) (w := w) (ops := ops) (id := id)
  rw [h.at ht] at hst
  have hmode : fr.mode = .run := by
    have := h.top.mode
    generalize e : fr.mode = fm at this
    cases this; rfl
  have hfn := h.top.fn
  have hkn : (keep m n).n = m.n + 1 + n + 1 := by
    show Nat.succ (idA m.n n) = _
    unfold idA
    simp only [Nat.add_eq]
  have hkl : ∀ j, look (keep m n) j = look m j := fun _ => rfl
  have hw : SatI ρ (keep m n) { w with drawn := w.drawn + 1 } ∧ Trans ρ ρ m (keep m n) w { w with drawn := w.drawn + 1 } :=
    ⟨⟨fun i hi => h.sat.fresh i (by rw [hkn] at hi; omega), h.sat.inj, fun id o ho => by
      obtain ⟨b, c, h1, h2⟩ := h.sat.obj id o ho
      exact ⟨b, c, h1, h2.mono (Ext.refl ρ) rfl⟩⟩, ⟨Ext.refl ρ, fun _ h => .inl h, fun _ h => .inl h, by rw [hkn]; omega, rfl, rfl, rfl, Nat.le_refl _, fun _ _ _ => rfl⟩⟩
  have hsch : Region.schedule (P.follows .mixedOrders) ops (w.tape w.drawn (.order fr.fn id)) = Region.linearise.go .any ops ops.size (w.tape w.drawn (.order fr.fn id)) (Array.replicate ops.size false) [] := by
    simp only [Region.schedule, hT.mixed, Bool.true_or, if_true]
    rfl
  rw [hsch] at hst
  generalize w.tape w.drawn (.order fr.fn id) = t at hst
  obtain ⟨hs1, hs2⟩ := hw
  generalize { w with drawn := w.drawn + 1 } = w1 at hst hs1 hs2
  have hnone : ∀ i, m.n ≤ i → look m i = none := fun i hi => by
    cases hq : look m i with
    | none => rfl
    | some o =>
      obtain ⟨b, c, g1, _⟩ := h.sat.obj _ o hq
      rw [h.sat.fresh _ hi] at g1; cases g1
  have key : ∀ (en : List En) (tail : List PS), planE T lit ops = en.map (·.s) ++ tail → Can T rec ops m.n E (keep m n) none en →
      ((tail = [] ∧ ((lsD en none = none ∧ r = .fin (envD yes en E) (memD yes en (keep m n))) ∨ ∃ ls, lsD en none = some ls ∧ r = .lit (envD yes en E) (memD yes en (keep m n)) m.n ls)) ∨ ∃ s b g args ch m', tail = s :: b ∧ (∀ t, t ∈ b → bit t.pre s.j = true) ∧ PanK T rec ops s (envD yes en E) (memD yes en (keep m n)) g args ch m' ∧ r = .pan ch (anyD ops.toList E) m') → OutR P base f0 ρ0 m0 w0 k x fr frs w r := by
    intro en tail hl hcan hend
    refine OutR.steps (.one hst) rfl ?_
    have hd : ∀ i, (Array.replicate ops.size false).getD i false = false := fun i => getD_repl _ _
    have hF : EnF m.n (keep m n) en := enF_of hcan fun p hp h3 => by
      have hpl : p.s ∈ planE T lit ops := by rw [hl]; exact List.mem_append_left _ (List.mem_map_of_mem hp)
      obtain ⟨g1, _, _, g4⟩ := planE_mem hpl
      have hlit : lit ≠ none := fun e => by
        rw [e] at g4
        have : p.s.sd = 0 := g4
        omega
      have := (Array.getElem?_eq_some_iff.1 g1).1
      have := hn hlit
      rw [hkn]
      unfold idA
      simp only [Nat.add_eq]
      omega
    have hE1 : envD (fun i => (Array.replicate ops.size false).getD i false) en E = E := envD_no en E fun p _ => hd _
    have hE2 : memD (fun i => (Array.replicate ops.size false).getD i false) en (keep m n) = keep m n := memD_no en _ fun p _ => hd _
    have hE5 : memX (fun i => (Array.replicate ops.size false).getD i false) en (keep m n) = keep m n := memX_early en _ fun p _ hp => by rw [hd] at hp; cases hp
    have hE3 : madeD (fun i => (Array.replicate ops.size false).getD i false) en = false := by
      cases hq : madeD (fun i => (Array.replicate ops.size false).getD i false) en with
      | false => rfl
      | true =>
        obtain ⟨p, _, k2, _⟩ := madeD_mem hq
        rw [hd] at k2; cases k2
    have hE4 : sideD (fun i => (Array.replicate ops.size false).getD i false) en = [] := by
      cases hq : sideD (fun i => (Array.replicate ops.size false).getD i false) en with
      | nil => rfl
      | cons q rr =>
        obtain ⟨p, _, k2, _⟩ := sideD_mem (q := q) (by rw [hq]; simp)
        rw [hd] at k2; cases k2
    have hq : ∀ p, p ∈ en → ∀ q, p.al = some q → m.n ≤ q.1 := fun p hp q hq => by
      rw [(hF.al p hp q hq).1]
      unfold idA
      simp only [Nat.add_eq]
      omega
    refine draw_run (id := m.n) (E0 := E) (m1 := keep m n) hT hsum hrec hO hl hcan hF h.tr.mono hend ops.size t (Array.replicate ops.size false) ρ (keep m n) _ _ (by simp) (by simp) ?_ ?_ rfl hk hok ?_
    · intro j o _ hdj
      rw [hd] at hdj; cases hdj
    · intro i hdi
      rw [hd] at hdi; cases hdi
    · refine ⟨?_, ?_, ?_, ?_, fun _ => h.sat.fresh _ (Nat.le_refl _), fun p hp q hq' _ => h.sat.fresh _ (hq p hp q hq'), fun a p b hen _ q hq' => ?_, ?_⟩
      · rw [hE1]
        exact ⟨hfn, h.top.env, h.top.dfs, rfl, h.top.kind, h.top.rnd, h.rest, hs1, h.tr.trans hs2, h.bot⟩
      · rw [hE2, hE3, hE4]
        exact ⟨fun _ => ⟨fun _ => rfl, rfl, rfl⟩, fun h => (by cases h)⟩
      · rw [hE2, hkl]; exact hnone _ (Nat.le_refl _)
      · rw [hE2, hkn]; omega
      · rw [hE5, hkl]; exact hnone _ (hq p (by rw [hen]; simp) q hq')
      · rw [hE5]; exact Nat.le_refl _
  cases r with
  | fin E' m' =>
    obtain ⟨en, h1, h2, h3, h4, h5, h6⟩ := hsp
    subst h3 h4
    exact key en [] (by rw [h1]; simp) h2 (.inl ⟨rfl, .inl ⟨h6, rfl⟩⟩)
  | lit E' m' id' ls' =>
    obtain ⟨en, h1, h2, h3, h4, h5, h6, h7⟩ := hsp
    subst h3 h4 h6
    exact key en [] (by rw [h1]; simp) h2 (.inl ⟨rfl, .inr ⟨ls', h7, rfl⟩⟩)
  | pan ch E' m' =>
    obtain ⟨en, s, b, g, args, h1, h2, h3, h4, h6, h5⟩ := hsp
    subst h3
    exact key en (s :: b) h1 h2 (.inr ⟨s, b, g, args, ch, m', rfl, h6, h5, rfl⟩)
  | no n => trivial

theorem drawE_ok (hT : TabOk P T) (hsum : SumOk P T) {rec : Rec} (hrec : RecOk P rec) {id : Nat} {ops : Array Oper} {ks : List Item} (h : Cfg base f0 ρ0 m0 w0 ρ .run E (.code (.region id ops true) :: k) x m fr frs w) (ht : fr.todo = .code (.region id ops true) :: ks) (hk : TR ρ fr.tmps.size k ks) (hok : okOps fr.tmps.size ops = true) :
    OutR P base f0 ρ0 m0 w0 k x fr frs w (drawE T rec ops E m) := by
  unfold drawE drawP
  split
  · rename_i hord; exact drawL_ok hT hsum hrec (fun e => absurd rfl e) hord h ht hk hok
  · unfold drawQ
    split
    · rename_i hord; exact drawL_ok hT hsum hrec (fun _ => Nat.le_refl _) hord h ht hk hok
    · trivial

theorem draw_ok (hT : TabOk P T) (hsum : SumOk P T) {rec : Rec} (hrec : RecOk P rec) (hint : Hint) {id : Nat} {ops : Array Oper} {ks : List Item} (h : Cfg base f0 ρ0 m0 w0 ρ .run E (.code (.region id ops true) :: k) x m fr frs w) (ht : fr.todo = .code (.region id ops true) :: ks) (hk : TR ρ fr.tmps.size k ks) (hok : okOps fr.tmps.size ops = true) :
    Reach P base f0 ρ0 m0 w0 fr frs w (drawM hint id k x (drawE T rec ops E m)) := by
  have ho := drawE_ok hT hsum hrec h ht hk hok
  generalize drawE T rec ops E m = r at ho
  unfold drawM
  cases r with
  | fin E' m' =>
    obtain ⟨fr', w', ρ', q1, q2⟩ := ho
    exact Reach.steps q1 (regE_ok q2 _)
  | pan ch E' m' =>
    obtain ⟨fr', w', ρ', q1, q2⟩ := ho
    exact ⟨fr', frs, w', q1, ρ', q2⟩
  | lit E' m' id ls => exact Reach.stop _ _ _ _ _
  | no n => exact Reach.stop _ _ _ _ _

theorem range_ok (hT : TabOk P T) {g : Operand} {ps : Array Nat} {a b : Code} {ks : List Item} (h : Cfg base f0 ρ0 m0 w0 ρ .run E (.code (.rangeFunc g ps a b) :: k) x m fr frs w) (ht : fr.todo = .code (.rangeFunc g ps a b) :: ks) (hk : TR ρ fr.tmps.size k ks) (hok : okC fr.tmps.size (.rangeFunc g ps a b) = true) :
    Reach P base f0 ρ0 m0 w0 fr frs w (rangeC T g ps.toList a b E k x m) := by
  unfold rangeC
  have hrnd := h.top.rnd
  have hfn := h.top.fn
  split
  · rename_i hx
    rw [hx] at hrnd
    have hro : fr.roundOf = none := hrnd
    unfold rangeV
    split
    · rename_i g' first caps hg
      have hv := eval_rel (a := actOf fr) h.top.env g
      rw [hg] at hv
      obtain ⟨fv, cv, e1, v1, v2⟩ := hv.func_inv
      simp only [okC, Bool.and_eq_true, List.all_eq_true] at hok
      -- the two blocks
      have hs1 := (h.sat.sat (m.n + 1)).add (by omega) (ob := .deferred (some [])) (o := .deferred) 0 (by simp [RO])
      have hsat1 := h.sat.of hs1.1 hs1.2
      generalize hρ1 : upd ρ m.n (w.heap.size, 0) = ρ1 at hs1 hsat1
      have hid : ρ1 m.n = some (w.heap.size, 0) := by rw [← hρ1]; exact upd_same _ _ _
      have he1 : Ext ρ ρ1 := hs1.2.ext
      generalize hw1 : ({ w with heap := w.heap.push (.deferred (some [])) } : World) = w1 at hs1 hsat1
      have hn1 : (m.add .deferred).n = m.n + 1 := rfl
      have hsz1 : w1.heap.size = w.heap.size + 1 := by rw [← hw1]; simp
      have hs2 := (hsat1.sat (m.n + 2)).add (by rw [hn1]; omega) (ob := .loop { state := .ready, pending := none, fn := fr.fn, tmps := fr.tmps, params := ps, assign := a, body := b, defers := w.heap.size }) (o := .loop .ready none fr.fn E ps.toList a b m.n) 0
        ⟨fr.tmps, w.heap.size, 0, by simp, fun t => (h.top.env t).ext (he1.trans (ext_upd (hsat1.fresh _ (Nat.le_refl _)) _)), ext_upd (hsat1.fresh _ (Nat.le_refl _)) _ _ _ hid, hok.2.1, hok.2.2, fun q hq => Nat.le_of_ble_eq_true (hok.1 q hq), fun j hj => (by cases hj)⟩
      have hsat2 := hsat1.of hs2.1 hs2.2
      rw [hn1] at hs2 hsat2
      generalize hρ2 : upd ρ1 (m.n + 1) (w1.heap.size, 0) = ρ2 at hs2 hsat2
      have hid2 : ρ2 (m.n + 1) = some (w.heap.size + 1, 0) := by rw [← hρ2, ← hsz1]; exact upd_same _ _ _
      have he2 : Ext ρ1 ρ2 := hs2.2.ext
      refine enter_ok (df := false) hT fun hen => ?_
      have hel := run_enterLoop_outer (P := P) (w := w) fr.fn fr.tmps ps a b
      have hw2 : ((w.alloc (.deferred (some []))).alloc (.loop { state := .ready, pending := none, fn := fr.fn, tmps := fr.tmps, params := ps, assign := a, body := b, defers := w.heap.size })) = { w1 with heap := w1.heap.push (.loop { state := .ready, pending := none, fn := fr.fn, tmps := fr.tmps, params := ps, assign := a, body := b, defers := w.heap.size }) } := by
        rw [← hw1]; rfl
      rw [hw2] at hel
      generalize hW : ({ w1 with heap := w1.heap.push (.loop { state := .ready, pending := none, fn := fr.fn, tmps := fr.tmps, params := ps, assign := a, body := b, defers := w.heap.size }) } : World) = W at hel hs2 hsat2
      have ec : ∀ v, (actOf fr).eval (.const v) = v := fun _ => rfl
      have hres : (resolve (actOf fr).eval (rangeCall g (w.heap.size + 1)) 0).run P W = .ok { target := .fn (.func g') cv, args := fv ++ #[.func (.yield (w.heap.size + 1)) #[] #[]] } W := by
        simp [resolve, e1, ec, Deferred.ofValue]
      have hinv : (invoke (.fn (.func g') cv) (fv ++ #[.func (.yield (w.heap.size + 1)) #[] #[]])).run P W = .ok (.enter g' (fv ++ #[.func (.yield (w.heap.size + 1)) #[] #[]] ++ cv)) W := by
        simp [invoke, run_callFunc hen]
      have hst := stepR_rangeFunc (P := P) (b := fr) (a := actOf fr) (k := ks) (cs := frs) (w := w) (g := g) (ps := ps) (assign := a) (body := b) (by rw [hro]; exact hel) hres hinv
      rw [h.at ht] at hst
      refine ⟨_, _, _, ρ2, hst, ?_, .cons ⟨h.top.fn, (h.top.env.ext he1).ext he2, fun _ => .cons (.rf (m.n + 1) _ _ hid2) (hk.ext (he1.trans he2) rfl), .cons (.mark m.n _ _ (he2 _ _ hid)) (h.top.dfs.ext (he1.trans he2)), .run, h.top.kind, h.top.rnd.ext (he1.trans he2)⟩ (h.rest.ext (he1.trans he2)), ?_, (h.tr.trans hs1.2).trans ?_, h.bot⟩
      · rw [Array.toList_append, Array.toList_append, List.append_assoc]
        exact ((v1.ext he1).ext he2).append (RL.cons (.yield _ _ _ hid2) ((v2.ext he1).ext he2))
      · rw [← hfn]; exact hsat2
      · rw [← hfn]; exact hs2.2
    · exact Reach.stop _ _ _ _ _
  · exact Reach.stop _ _ _ _ _

theorem codes_ok (hT : TabOk P T) (hsum : SumOk P T) {rec : Rec} (hrec : RecOk P rec) (hint : Hint) {c : Code} (h : Cfg base f0 ρ0 m0 w0 ρ .run E (.code c :: k) x m fr frs w) : Reach P base f0 ρ0 m0 w0 fr frs w (codeM E k x m (codeW T rec hint c)) := by
  obtain ⟨t, ks, ht, hi, hk⟩ := h.ahead
  cases hi with
  | code c hok =>
    unfold codeM codeW
    cases c with
    | skip => exact h.plain ht hk stepR_skip
    | label l => exact h.plain ht hk stepR_label
    | ret => exact leave_ok h (.ret ks ht) k
    | seq a b =>
      simp only [okC, Bool.and_eq_true] at hok
      exact h.plain ht (.cons (.code a hok.1) (.cons (.code b hok.2) hk)) stepR_seq
    | cond y a b =>
      simp only [okC, Bool.and_eq_true] at hok
      simp only
      unfold condB
      split
      · rename_i t hy
        have hv := eval_rel (a := actOf fr) h.top.env y
        rw [hy] at hv
        have hv := hv.bool_inv
        cases t with
        | true => exact h.plain ht (.cons (.code a hok.1) hk) (by have := stepR_cond (P := P) (b := fr) (k := ks) (cs := frs) (w := w) (x := a) (y := b) hv; simpa using this)
        | false => exact h.plain ht (.cons (.code b hok.2) hk) (by have := stepR_cond (P := P) (b := fr) (k := ks) (cs := frs) (w := w) (x := a) (y := b) hv; simpa using this)
      · exact Reach.stop _ _ _ _ _
    | block id a => exact h.plain ht (.cons (.code a hok) (.cons (.blk id) hk)) stepR_block
    | loop a => exact h.plain ht (.cons (.code a hok) (.cons (.lp a hok) hk)) stepR_loop
    | scope a => exact h.plain ht (.cons (.code a hok) (.cons (.scp a) hk)) stepR_scope
    | exit id =>
      simp only
      obtain ⟨e1, e2⟩ := exit_ok (id := id) hk
      unfold exitC
      cases he : exitE id k with
      | some k' =>
        obtain ⟨ts', q1, q2⟩ := e1 k' he
        exact h.plain ht q2 (stepR_exit q1)
      | none => exact leave_ok h (.exit id ks ht (e2 he)) k
    | region id ops draw =>
      cases draw with
      | false =>
        have hall : IR ρ fr.tmps.size (.reg id ops (ops.toList.drop 0)) (.inRegion ops (List.range' 0 (ops.size - 0))) := .reg id ops 0 hok
        rw [List.drop_zero, Nat.sub_zero] at hall
        refine h.plain ht (.cons hall hk) ?_
        have := stepR_region (P := P) (b := fr) (a := actOf fr) (k := ks) (cs := frs) (w := w) (ops := ops) (id := id)
        rw [List.range_eq_range'] at this
        exact this
      | true => exact draw_ok hT hsum hrec hint h ht hk hok
    | rangeFunc g ps a b => exact range_ok hT h ht hk hok
    | goto l => exact Reach.stop _ _ _ _ _
    | refuse s => exact Reach.stop _ _ _ _ _

theorem br_ok {t : Item} {ks : List Item} (h : Cfg base f0 ρ0 m0 w0 ρ .run E (.br :: k) x m fr frs w) (ht : fr.todo = t :: ks) (hi : IR ρ fr.tmps.size .br t) (hk : TR ρ fr.tmps.size k ks) : Reach P base f0 ρ0 m0 w0 fr frs w (brM E k x m x.rnd) := by
  have hrnd := h.top.rnd
  cases hi
  unfold brM
  cases hx : x.rnd with
  | none => exact Reach.stop _ _ _ _ _
  | some l =>
    rw [hx] at hrnd
    obtain ⟨b, c, hb, hro⟩ := hrnd
    simp only
    unfold brO
    split
    · rename_i st p f E' ps a bd d hl
      split
      · obtain ⟨lp, q1, q2, q3, q4, q5⟩ := putLoop (st' := .busy) (p' := p) h.sat hl hb (by
          obtain ⟨b', c', g1, ts, db, c2, h1, h2, h3, h4, h5, h6, h7⟩ := h.sat.obj l _ hl
          exact h7)
        have hbr := run_beginRound (P := P) q1 q2
        have hst := stepR_beginRound (P := P) (b := fr) (a := actOf fr) (k := ks) (cs := frs) hro hbr
        rw [h.at ht] at hst
        rw [← q3] at q4 q5 ⊢
        exact .one hst ⟨ρ, h.later (h.top.at hk) q4 q5⟩
      · exact Reach.stop _ _ _ _ _
    · exact Reach.stop _ _ _ _ _

theorem erf_ok {l : Nat} {t : Item} {ks : List Item} (h : Cfg base f0 ρ0 m0 w0 ρ .run E (.erf l :: k) x m fr frs w) (ht : fr.todo = t :: ks) (hi : IR ρ fr.tmps.size (.erf l) t) (hk : TR ρ fr.tmps.size k ks) : Reach P base f0 ρ0 m0 w0 fr frs w (erfO E k x l m (look m l)) := by
  cases hi with
  | erf _ b c hb =>
    unfold erfO
    split
    · rename_i st p f E' ps a bd d hl
      have hp : ∀ j, p = some j → ∀ n, okC n j = true := by
        obtain ⟨b', c', g1, ts, db, c2, h1, h2, h3, h4, h5, h6, h7⟩ := h.sat.obj l _ hl
        exact h7
      split
      · exact Reach.stop _ _ _ _ _
      · rename_i hst
        obtain ⟨lp, q1, q2, q3, q4, q5⟩ := putLoop (st' := .exhausted) (p' := p) h.sat hl hb hp
        have hend := run_endLoop (P := P) q1 (by rw [q2]; exact hst)
        have hs := stepR_endRangeFunc (P := P) (b := fr) (a := actOf fr) (k := ks) (cs := frs) hend
        rw [h.at ht] at hs
        cases p with
        | none =>
          rw [q3] at hs
          exact .one hs ⟨ρ, h.later (h.top.at hk) q4 q5⟩
        | some j =>
          rw [q3] at hs
          exact .one hs ⟨ρ, h.later (h.top.at (.cons (.code j (hp j rfl _)) hk)) q4 q5⟩
    · exact Reach.stop _ _ _ _ _

theorem run_ok (hT : TabOk P T) (hsum : SumOk P T) {rec : Rec} (hrec : RecOk P rec) (hint : Hint) (h : Cfg base f0 ρ0 m0 w0 ρ .run E todo x m fr frs w) : Reach P base f0 ρ0 m0 w0 fr frs w (runM T rec hint E x m todo) := by
  unfold runM
  cases todo with
  | nil =>
    have := h.top.todo rfl
    generalize e : fr.todo = l at this
    cases this
    exact leave_ok h (.fin e) []
  | cons it k =>
    obtain ⟨t, ks, ht, hi, hk⟩ := h.ahead
    simp only
    unfold itM
    cases it with
    | code c => exact codes_ok hT hsum hrec hint h
    | blk id => cases hi; exact h.plain ht hk stepR_inBlock
    | scp c => cases hi; exact h.plain ht hk stepR_inScope
    | lp c =>
      cases hi with
      | lp _ hok => exact h.plain ht (.cons (.code c hok) (.cons (.lp c hok) hk)) stepR_inLoop
    | reg id all os =>
      generalize ei : It.reg id all os = it at hi
      cases hi <;> cases ei
      rename_i j hok
      exact regM_ok hT hsum hint h rfl ht hk hok
    | br => exact br_ok h ht hi hk
    | erf l => exact erf_ok h ht hi hk
    | rf l => exact Reach.stop _ _ _ _ _

theorem loop_ok (hT : TabOk P T) (hsum : SumOk P T) (hint : Hint) : ∀ (n : Nat), (∀ (s : ST) (base : List Frame) f0 ρ0 m0 w0 fr frs w, StR P base f0 ρ0 m0 w0 s fr frs w → Reach P base f0 ρ0 m0 w0 fr frs w (.fin (loopM T hint n s))) ∧ RecOk P fun g args m => loopM T hint n (enterE T g args false [] m)
  | 0 => ⟨fun s base f0 ρ0 m0 w0 fr frs w _ => Reach.stop _ _ _ _ _, fun f args m => trivial⟩
  | n + 1 => by
    obtain ⟨ih1, ih2⟩ := loop_ok hT hsum hint n
    have step : ∀ (s : ST) (base : List Frame) f0 ρ0 m0 w0 fr frs w, StR P base f0 ρ0 m0 w0 s fr frs w → Reach P base f0 ρ0 m0 w0 fr frs w (.fin (loopM T hint (n + 1) s)) := by
      intro s base f0 ρ0 m0 w0 fr frs w h
      cases s with
      | go E todo x m =>
        obtain ⟨ρ, h⟩ := h
        obtain ⟨fr', frs', w', h1, h2⟩ := run_ok hT hsum ih2 hint h
        exact Reach.steps h1 (ih1 _ _ _ _ _ _ _ _ _ h2)
      | lft md E todo x m =>
        obtain ⟨ρ, h⟩ := h
        obtain ⟨fr', frs', w', h1, h2⟩ := left_ok hT h
        exact Reach.steps h1 (ih1 _ _ _ _ _ _ _ _ _ h2)
      | fin r => exact ⟨fr, frs, w, Steps.refl P _, h⟩
    refine ⟨step, fun f args m => ?_⟩
    have hent : (∃ n' f', loopM T hint (n + 1) (enterE T f args false [] m) = .no n' f') ∨ Enters P f := by
      unfold enterE enterB
      split
      · rename_i c hb
        obtain ⟨_, _, _, _, he⟩ := body_ok hT hb
        exact .inr he
      · exact .inl (by cases n <;> exact ⟨_, _, rfl⟩)
    have key : ∀ ρ w vals, RL ρ vals.toList args → SatI ρ m w → ∀ cs, (∃ n' f', loopM T hint (n + 1) (enterE T f args false [] m) = .no n' f') ∨ Reach P cs f ρ m w (Frame.enter P f vals .normal) cs w (.fin (loopM T hint (n + 1) (enterE T f args false [] m))) := by
      intro ρ w vals hv hs cs
      unfold enterE enterB
      split
      · rename_i c hb
        exact .inr (step _ _ _ _ _ _ _ _ _ ⟨ρ, enter_fr hT hb hv false, .nil, hs, Trans.refl ρ m w, rfl⟩)
      · exact .inl (by cases n <;> exact ⟨_, _, rfl⟩)
    show CallS P f args m (loopM T hint (n + 1) (enterE T f args false [] m))
    generalize loopM T hint (n + 1) (enterE T f args false [] m) = r at key hent
    cases r with
    | no n' f' => trivial
    | ret v m' =>
      refine ⟨hent.resolve_left (by rintro ⟨_, _, h⟩; cases h), ?_⟩
      intro ρ w vals hv hs cs
      rcases key ρ w vals hv hs cs with ⟨_, _, h⟩ | ⟨fr', frs', w', h1, ρ', u, h2, rfl, h4, h5, h6, h7⟩
      · cases h
      · exact ⟨.returned u, w', fr', ⟨u, ρ', rfl, h5, h6, h7⟩, h1, h4, h2⟩
    | pan ch m' =>
      refine ⟨hent.resolve_left (by rintro ⟨_, _, h⟩; cases h), ?_⟩
      intro ρ w vals hv hs cs
      rcases key ρ w vals hv hs cs with ⟨_, _, h⟩ | ⟨fr', frs', w', h1, ρ', u, h2, rfl, h4, h5, h6, h7⟩
      · cases h
      · exact ⟨.panicked u, w', fr', ⟨u, ρ', rfl, h5, h6, h7⟩, h1, h4, h2⟩

end
end Ev
end Go.Proofs.YtaacgmcgmljjeaaGreat

/- The evaluator: the program's tables; steps one by one; calls that turn no block. -/
namespace Go.Proofs.YtaacgmcgmljjeaaGreat
namespace Ev
open Go.RowKit

section
variable {P : Program} {T : Tab}

/-! ### the tables -/
theorem get_trOf {α : Type} : ∀ (l : List α) (i : Nat) (t : Tr α) (j : Nat), (trOf l i t).get j = if i ≤ j ∧ j < i + l.length then l[j - i]? else t.get j
  | [], i, t, j => by
    rw [if_neg (by simp)]
    rfl
  | x :: xs, i, t, j => by
    show (trOf xs (Nat.succ i) (t.set x i)).get j = _
    rw [get_trOf xs, Tr.get_set]
    by_cases h1 : i = j
    · subst h1
      rw [if_neg (by omega), if_pos rfl, if_pos (by simp), Nat.sub_self]
      rfl
    · rw [if_neg (fun e : j = i => h1 e.symm)]
      by_cases h2 : Nat.succ i ≤ j ∧ j < Nat.succ i + xs.length
      · rw [if_pos h2, if_pos (by simp; omega), show j - i = (j - Nat.succ i) + 1 by omega, List.getElem?_cons_succ]
      · rw [if_neg h2, if_neg (by simp; omega)]

theorem get_tab {α : Type} {l : List α} {j : Nat} {x : α} (h : (trOf l 0 .nil).get j = some x) : l[j]? = some x := by
  rw [get_trOf] at h
  split at h
  · simpa using h
  · cases h

def goodF (fn : Func) : Bool := match fn.body with | some c => okC fn.ntmps c && !(fn.name == "runtime.NumGoroutine") | none => true
def goodE (P : Program) (t : TypeId) : Bool := !P.stoodInHeld t && !P.eqGuardType P.depth t
theorem tab_ok {sum : FuncId → List V → Option V} {eqs : List TypeId} (hmix : P.follows .mixedOrders = true) (hg : P.funcs.toList.all goodF = true) (he : eqs.all (goodE P) = true) : TabOk P (Tab.of P sum eqs) := by
  refine ⟨fun t i h => ?_, fun f fn h => ?_, hmix, fun t ht => ?_, fun f fn c h hb => ?_⟩
  · have := get_tab h
    simp only [Array.getElem?_toList] at this
    show (if t < P.types.size then P.types[t]? else _) = _
    rw [if_pos (Array.getElem?_eq_some_iff.1 this).1]
    exact this
  · have := get_tab h
    simpa using this
  · have := List.all_eq_true.1 he t ht
    unfold goodE at this
    simpa using this
  · have h1 := List.mem_of_getElem? (get_tab h)
    have := List.all_eq_true.1 hg fn h1
    unfold goodF at this
    rw [hb] at this
    simpa using this

/-! ### steps, one by one -/
def noRec : Rec := fun _ _ _ => .no 0 0
theorem noRec_ok : RecOk P noRec := fun _ _ _ => trivial
def iterS (T : Tab) (hint : Hint) : Nat → ST → ST
  | 0 => fun s => s
  | n + 1 => fun s => match s with
    | .go E todo x m => iterS T hint n (runM T noRec hint E x m todo)
    | .lft md E todo x m => iterS T hint n (leftM T md E todo x m x.dfs)
    | .fin r => .fin r

theorem iter_ok (hT : TabOk P T) (hsum : SumOk P T) (hint : Hint) : ∀ (n : Nat) (s : ST) {base : List Frame} {f0 : FuncId} {ρ0 : Rho} {m0 : Mem} {w0 : World} {fr : Frame} {frs : List Frame} {w : World}, StR P base f0 ρ0 m0 w0 s fr frs w → Reach P base f0 ρ0 m0 w0 fr frs w (iterS T hint n s)
  | 0, s, base, f0, ρ0, m0, w0, fr, frs, w, h => ⟨fr, frs, w, Steps.refl P _, h⟩
  | n + 1, s, base, f0, ρ0, m0, w0, fr, frs, w, h => by
    cases s with
    | go E todo x m =>
      obtain ⟨ρ, h⟩ := h
      obtain ⟨fr', frs', w', h1, h2⟩ := run_ok hT hsum noRec_ok hint h
      exact Reach.steps h1 (iter_ok hT hsum hint n _ h2)
    | lft md E todo x m =>
      obtain ⟨ρ, h⟩ := h
      obtain ⟨fr', frs', w', h1, h2⟩ := left_ok hT h
      exact Reach.steps h1 (iter_ok hT hsum hint n _ h2)
    | fin r => exact ⟨fr, frs, w, Steps.refl P _, h⟩

/-! ### calls that turn no block -/
/-- values that name no block -/
def nml1 : V → Bool
  | .any => true
  | .bool _ => true
  | .nn _ => true
  | .int _ _ => true
  | .str _ => true
  | .nilp => true
  | .nils => true
  | .nilm => true
  | .nilf => true
  | .nili => true
  | .len _ => true
  | _ => false
def nml (x : V) : Bool := match x with | .agg cs => cs.all nml1 | x => nml1 x

theorem RV.nml1 {ρ ρ' : Rho} {v : Value} {x : V} (h : RV ρ v x) (hn : nml1 x = true) : RV ρ' v x := by
  cases h with
  | any => exact .any _
  | bool b => exact .bool b
  | nn n => exact .nn n
  | int k n => exact .int k n
  | str l => exact .str l
  | nilp => exact .nilp
  | nils => exact .nils
  | nilm => exact .nilm
  | nilf => exact .nilf
  | nili => exact .nili
  | len a n c => exact .len a n c
  | _ => cases hn
theorem RV.nml {ρ ρ' : Rho} {v : Value} {x : V} (h : RV ρ v x) (hn : nml x = true) : RV ρ' v x := by
  unfold Ev.nml at hn
  split at hn
  · cases h
    rename_i hs ho hh
    rw [List.all_eq_true] at hn
    exact .agg _ _ (by assumption) (by assumption) fun i v x h1 h2 => (hh i v x h1 h2).nml1 (hn x (List.mem_of_getElem? h2))
  · exact h.nml1 hn
theorem RL.nml {ρ ρ' : Rho} {vs : List Value} {xs : List V} (h : RL ρ vs xs) (hn : xs.all Ev.nml = true) : RL ρ' vs xs :=
  ⟨h.1, fun i v x h1 h2 => (h.2 i v x h1 h2).nml (List.all_eq_true.1 hn x (List.mem_of_getElem? h2))⟩

def noR : Rho := fun _ => none
theorem satI_nil (w : World) : SatI noR ⟨.nil, 0⟩ w := ⟨fun _ _ => rfl, fun i j b c c' h => absurd rfl h, fun i o h => by cases h⟩

/-- what a call answers that has been looked at with no block at hand -/
theorem blind {f : FuncId} {args : List V} {v : V} {m' : Mem} (h : CallS P f args ⟨.nil, 0⟩ (.ret v m')) (ha : args.all nml = true) (hv : nml1 v = true) (m : Mem) : CallS P f args m (.ret v m) := by
  obtain ⟨h1, h2⟩ := h
  refine ⟨h1, fun ρ w vals hr hs => ?_⟩
  refine (h2 noR w vals (hr.nml ha) (satI_nil w)).mono fun e w' he => ?_
  obtain ⟨u, ρ', rfl, q1, q2, q3⟩ := he
  have hnb : ∀ b, ¬ Named noR ⟨.nil, 0⟩ b := fun b ⟨i, c, hi, _⟩ => hi rfl
  have hblk : ∀ b, b < w.heap.size → w'.heap[b]? = w.heap[b]? := fun b hb => q3.block b hb (hnb b)
  refine ⟨u, ρ, rfl, q1.nml1 hv, ⟨hs.fresh, hs.inj, fun id o ho => ?_⟩, ⟨Ext.refl ρ, fun _ h => .inl h, fun _ h => .inl h, Nat.le_refl _, q3.os, q3.tape, q3.output, q3.size, fun b hb _ => hblk b hb⟩⟩
  obtain ⟨b, c, g1, g2⟩ := hs.obj id o ho
  exact ⟨b, c, g1, g2.mono (Ext.refl ρ) (hblk b g2.lt)⟩

/-- less is said of an argument -/
theorem CallS.weak {f : FuncId} {args args' : List V} {m m' : Mem} {v : V} (h : CallS P f args m (.ret v m')) (hw : ∀ ρ vals, RL ρ vals args' → RL ρ vals args) : CallS P f args' m (.ret v m') :=
  ⟨h.1, fun ρ w vals hr hs => h.2 ρ w vals (hw ρ _ hr) hs⟩

end
end Ev
end Go.Proofs.YtaacgmcgmljjeaaGreat

/- (element.step).only: what stands behind the map literal: an entry is deleted, and the map is ranged over, in whatever order. -/
namespace Go.Proofs.YtaacgmcgmljjeaaGreat
namespace Only

def restOf : Option Code → Code
  | some (.seq _ (.seq _ r)) => r
  | _ => .skip
/-- what stands behind the first two regions -/
noncomputable def restC : Code := restOf Tryz.f171.body

theorem next_tape {P : Program} {x : Value} {b : Bool} {ty : TypeId} {w w' : World} {v : Value} (h : (Instr.next x b ty).run P w = .ok v w') : w'.tape = w.tape := by
  unfold Instr.next at h
  simp only [getObj, setObj, choose] at h
  repeat' (first | (cases h; done) | (cases h; rfl) | split at h | simp only [Sem.run_bind, Sem.run, Sem.run_pure, Result.andThen_ok] at h)

def Al (w' w : World) : Prop := w'.Alike w ∧ w'.tape = w.tape

set_option maxRecDepth 1000000 in
theorem rest_wp (x0 x2 x3 x4 x6 x7 x8 x9 x10 x11 x12 x13 x14 x15 x16 x17 x18 x19 x20 x21 x22 x23 x24 x25 x26 x27 x28 x29 x30 x31 x32 x33 x34 x35 x36 x37 x38 x39 x40 x41 x42 x43 x44 x45 x46 x47 x48 x49 x50 x51 x52 x53 x54 x55 x56 x57 x58 : Value) (ds : List Deferred) (bm : Nat) (es : Array MapEntry) (clock : Nat) (k : Int) (w w1 : World) (hst : (∀ x ∈ es.toList, x.born < clock) ∧ (es.toList.map (·.born)).Nodup ∧ True) (hv : ∀ x ∈ es.toList, ∃ v, x.val = .bool v) (r : Bool) (hall : (∀ x ∈ es.toList, x.val = .bool false) → r = true) (hany : (∃ x ∈ es.toList, x.val = .bool true) → r = false)
    (hdel : ∀ ty, (Builtin.delete_ #[235, 3] ty #[.map (some bm), .int .i64 k]).run Tryz.prog w = .ok (.tuple #[]) w1) (hb : w1.heap[bm]? = some (.map es clock)) :
    restC.wp Tryz.prog (fun e a w' => e = .ret ∧ a.tmps.getD 4 undef = .bool r ∧ a.defers = ds ∧ ∃ (w2 : World) (seen : Array Nat), Al w2 w1 ∧ w' = w2.alloc (.mapIter (some bm) clock seen clock)) ⟨#[x0, .int .i64 k, x2, x3, x4, .map (some bm), x6, x7, x8, x9, x10, x11, x12, x13, x14, x15, x16, x17, x18, x19, x20, x21, x22, x23, x24, x25, x26, x27, x28, x29, x30, x31, x32, x33, x34, x35, x36, x37, x38, x39, x40, x41, x42, x43, x44, x45, x46, x47, x48, x49, x50, x51, x52, x53, x54, x55, x56, x57, x58], ds⟩ w := by
  have hrg := run_range_map (P := Tryz.prog) w1 235 3 4 bm es clock Tryz.underlying235 hb
  unfold restC restOf Tryz.f171
  dsimp only
  go_wp2
  go_loopw [] (fun w' => ∃ (w2 : World) (seen : Array Nat), Al w2 w1 ∧ w' = w2.alloc (.mapIter (some bm) clock seen clock) ∧ ∀ x ∈ es.toList, seen.contains x.born = true → x.val = .bool false) (fun w' => (leftOf es (w'.iterSeen w1.heap.size)).size)
  case atStart => exact ⟨w1, #[], ⟨⟨rfl, rfl, rfl⟩, rfl⟩, rfl, fun x _ h => by simp at h⟩
  case round =>
    obtain ⟨w2, seen, hal, rfl, hno⟩ := hrel
    have hsz : w2.heap.size = w1.heap.size := by rw [hal.1.1]
    have hb1 : w2.heap[bm]? = some (.map es clock) := by rw [hal.1.1]; exact hb
    have law := run_next_map (P := Tryz.prog) w2 0 bm clock clock seen es clock hb1 hst.1 (Nat.le_refl _)
    rw [hsz] at law
    rcases law with ⟨h0, hrun⟩ | ⟨e, he, w3, hal2, hrun⟩
    · have hnx : ∀ ty, (Instr.next (.pointer (some ⟨w1.heap.size, 0, none⟩)) false ty).run Tryz.prog (w2.alloc (.mapIter (some bm) clock seen clock)) = _ := fun _ => hrun
      go_wp2
      have hf : r = true := hall fun x hx => hno x hx (all_seen es seen h0 x hx)
      subst hf
      first | exact ⟨rfl, w2, hal, seen, rfl⟩ | exact ⟨trivial, rfl, trivial, w2, hal, seen, rfl⟩ | exact ⟨rfl, rfl, rfl, w2, seen, hal, rfl⟩
    · obtain ⟨v, hval⟩ := hv e (mem_left he).1
      rw [hval] at hrun
      have hnx : ∀ ty, (Instr.next (.pointer (some ⟨w1.heap.size, 0, none⟩)) false ty).run Tryz.prog (w2.alloc (.mapIter (some bm) clock seen clock)) = _ := fun _ => hrun
      have hsz2 : w3.heap.size = w1.heap.size := by rw [hal2.1, hal.1.1]
      have hb2 : w3.heap[bm]? = some (.map es clock) := by rw [hal2.1]; exact hb1
      have hen := run_entry_map (P := Tryz.prog) w3 bm clock seen es clock e hb2 (mem_left he).1 hst.2.1
      rw [hsz2, hval] at hen
      have htp : w3.tape = w2.tape := (next_tape hrun : (w3.alloc _).tape = (w2.alloc _).tape)
      have hal3 : Al w3 w1 := ⟨⟨hal2.1.trans hal.1.1, hal2.2.1.trans hal.1.2.1, hal2.2.2.trans hal.1.2.2⟩, htp.trans hal.2⟩
      cases v with
      | true =>
        go_wp2
        have ht : r = false := hany ⟨e, (mem_left he).1, hval⟩
        subst ht
        first | exact ⟨rfl, w3, hal3, _, rfl⟩ | exact ⟨trivial, rfl, trivial, w3, hal3, _, rfl⟩ | exact ⟨rfl, rfl, rfl, w3, _, hal3, rfl⟩ | exact ⟨trivial, rfl, trivial, w3, _, hal3, rfl⟩
      | false =>
        go_wp2
        go_roundw
        case rel =>
          refine ⟨w3, seen.push e.born, hal3, rfl, fun x hx hc => ?_⟩
          rw [contains_push] at hc
          rcases Bool.or_eq_true _ _ ▸ hc with h1 | h1
          · exact hno x hx h1
          · have : x = e := born_inj hst.2.1 hx (mem_left he).1 (beq_iff_eq.1 h1)
            subst this
            exact hval
        case measure =>
          rw [← hsz2, World.iterSeen_alloc, hsz2, ← hsz, World.iterSeen_alloc]
          exact left_shrinks es seen e he

attribute [irreducible] restC

end Only
end Go.Proofs.YtaacgmcgmljjeaaGreat
