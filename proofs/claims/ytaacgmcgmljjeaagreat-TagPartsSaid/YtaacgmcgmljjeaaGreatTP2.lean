/-
  Joined texts: The calculus of states: addresses, indices, lengths, parts of strings and slices. · The calculus of states: calls by contracts; octets of a string. · The calculus of states: forms for walks that a program prints. · The calculus of states: contracts that were proved in the other calculus; things that are  · The calculus of states: slices that are written out; strings of octets; slices that grow. · The calculus of states: slices of the call's own that grow by append; a slice that is done · The calculus of states: functions that answer a new block of the caller's own.
-/
import Derived.Test.YtaacgmcgmljjeaaGreatTP1
import Derived.IntWalk
import Derived.LoopN
import Derived.Laws.BytesString
import Derived.Laws.AppendOwn
set_option linter.unusedSimpArgs false
set_option linter.unusedVariables false

/- The calculus of states: addresses, indices, lengths, parts of strings and slices. -/
namespace Go.Proofs.YtaacgmcgmljjeaaGreat
open Go.RowKit

section
variable {P : Program} {o : Oper} {E : Env} {H : Heap} {R nw : List Nat}

theorem add_none (b off j : Nat) : (⟨b, off, none⟩ : Addr).add j = ⟨b, off + j, none⟩ := by unfold Addr.add; split <;> simp_all

theorem run_fieldAt {S : TypeId} {fs : Array Field} {f : Nat} {fd : Field} {i : TypeInfo} (hu : P.underlying S = some (.struct fs)) (hf : fs[f]? = some fd) (hi : P.info? fd.type = some i) (h0 : i.size ≠ 0) (b off : Nat) (w : World) :
    (Instr.fieldAt S (.pointer (some ⟨b, off, none⟩)) f).run P w = .ok (.pointer (some ⟨b, off + fd.offset, none⟩)) w := by
  simp [Instr.fieldAt, run_underlying hu, hf, Instr.sureAddr, fieldPlace, run_size hi, h0, add_none]

theorem LT_fieldAddr {S : TypeId} {y : Operand} {fs : Array Field} {f : Nat} {fd : Field} {i : TypeInfo} {id off : Nat} (ho : o.op = .fieldAddr S y f) (hy : opX E y = .ptr id off) (hu : P.underlying S = some (.struct fs)) (hf : fs[f]? = some fd) (hi : P.info? fd.type = some i) (h0 : i.size ≠ 0)
    (off' : Nat) (hoff : off + fd.offset = off') : LT P o E H R nw [] (.ptr id off') :=
  LT_read fun G ρ H1 a w hs hh _ => by
    have h1 := hh y (by simp [ho, Op.operands])
    rw [hy] at h1
    generalize he : a.eval y = v at h1
    cases h1 with
    | ptr _ _ b cap hr =>
      refine ⟨.pointer (some ⟨b, off', none⟩), ?_, .ptr id off' b cap hr⟩
      simp [execOp, ho, he, run_fieldAt hu hf hi h0, hoff]

theorem LT_fieldAddrD {S : TypeId} {y : Operand} {fs : Array Field} {f : Nat} {fd : Field} {i : TypeInfo} {c c' : List D} (ho : o.op = .fieldAddr S y f) (hy : opX E y = .dptr c) (hu : P.underlying S = some (.struct fs)) (hf : fs[f]? = some fd) (hi : P.info? fd.type = some i) (h0 : i.size ≠ 0)
    (hc : c.drop fd.offset = c') : LT P o E H R nw [] (.dptr c') :=
  LT_read fun G ρ H1 a w hs hh _ => by
    have h1 := hh y (by simp [ho, Op.operands])
    rw [hy] at h1
    generalize he : a.eval y = v at h1
    cases h1 with
    | dptr b off _ g hb hm hg hr =>
      refine ⟨.pointer (some ⟨b, off + fd.offset, none⟩), by simp [execOp, ho, he, run_fieldAt hu hf hi h0], .dptr b _ c' (fun i => g (fd.offset + i)) hb hm (fun i hi => ?_) fun i x hx => ?_⟩
      · rw [Nat.add_assoc]
        exact hg _ (by rw [← hc, List.length_drop] at hi; omega)
      · rw [← hc, List.getElem?_drop] at hx
        exact hr _ x hx

theorem LT_field {S : TypeId} {y : Operand} {fs : Array Field} {f : Nat} {fd : Field} {i : TypeInfo} {d : TypeDesc} {cs : List X} {x : X} (n : Nat) (ho : o.op = .field S y f) (hy : opX E y = .agg cs) (hu : P.underlying S = some (.struct fs)) (hf : fs[f]? = some fd) (hi : P.info? fd.type = some i)
    (hd : P.underlying fd.type = some d) (hn : fd.offset + n ≤ cs.length) (hx : (aggB d = true ∧ i.size = n ∧ x = .agg ((cs.drop fd.offset).take n)) ∨ (aggB d = false ∧ n = 1 ∧ cs[fd.offset]? = some x)) : LT P o E H R nw [] x :=
  LT_read fun G ρ H1 a w hs hh _ => by
    have h1 := hh y (by simp [ho, Op.operands])
    rw [hy] at h1
    generalize he : a.eval y = v at h1
    cases h1 with
    | agg vs _ hsz hall =>
      rcases hx with ⟨h1, h2, rfl⟩ | ⟨h1, h2, hx⟩
      · refine ⟨.agg (vs.extract fd.offset (fd.offset + n)), by simp [execOp, ho, he, Instr.field, run_underlying hu, hf, asAgg, part, run_isAgg hd, h1, run_size hi, h2], ?_⟩
        refine .agg _ _ (by simp; omega) fun j v x hv hx => ?_
        have hj : j < n := by
          have := (List.getElem?_eq_some_iff.1 hx).1
          simp at this; omega
        rw [List.getElem?_take_of_lt hj, List.getElem?_drop] at hx
        refine hall (fd.offset + j) v x ?_ hx
        have hjs : fd.offset + j < vs.size := by omega
        have : j < (vs.extract fd.offset (fd.offset + n)).size := by simp; omega
        rw [Array.getElem?_eq_getElem this, Array.getElem_extract] at hv
        rw [Array.getElem?_eq_getElem hjs]
        exact hv
      · have hlt : fd.offset < vs.size := by omega
        refine ⟨vs[fd.offset], ?_, hall _ _ _ (by simp [hlt]) hx⟩
        simp [execOp, ho, he, Instr.field, run_underlying hu, hf, asAgg, part, run_isAgg hd, h1, hlt]

theorem run_indexAt_arr {T e : TypeId} {n : Nat} {i : TypeInfo} {k : IntKind} {j : Int} (hu : P.underlying T = some (.array n e)) (hi : P.info? e = some i) (h0 : 0 ≤ j) (h1 : j < n) (b off : Nat) (w : World) :
    (Instr.indexAt T (.pointer (some ⟨b, off, none⟩)) (.int k j)).run P w = .ok (.pointer (some ⟨b, off + j.toNat * i.size, none⟩)) w := by
  simp [Instr.indexAt, asIntOf, run_underlying hu, Instr.sureAddr, h0, h1, run_size hi, add_none]

theorem LT_indexArr {T e : TypeId} {n : Nat} {i : TypeInfo} {k : IntKind} {j : Int} {y z : Operand} {id off : Nat} (ho : o.op = .indexAddr T y z) (hy : opX E y = .ptr id off) (hz : opX E z = .d (.int k j)) (hu : P.underlying T = some (.array n e)) (hi : P.info? e = some i) (h0 : 0 ≤ j) (h1 : j < n)
    (off' : Nat) (hoff : off + j.toNat * i.size = off') : LT P o E H R nw [] (.ptr id off') :=
  LT_read fun G ρ H1 a w hs hh _ => by
    have g1 := hh y (by simp [ho, Op.operands])
    have g2 := hh z (by simp [ho, Op.operands])
    rw [hy] at g1
    rw [hz] at g2
    generalize he : a.eval y = v at g1
    cases g1 with
    | ptr _ _ b cap hr =>
      refine ⟨.pointer (some ⟨b, off', none⟩), ?_, .ptr id off' b cap hr⟩
      simp [execOp, ho, he, g2.int_inv, run_indexAt_arr hu hi h0 h1, hoff]

theorem LT_indexOwn {T e : TypeId} {n m : Nat} {i : TypeInfo} {k : IntKind} {j : Int} {y z : Operand} {id : Nat} (ho : o.op = .indexAddr T y z) (hy : opX E y = .own id n m) (hz : opX E z = .d (.int k j)) (hu : P.underlying T = some (.slice e)) (hi : P.info? e = some i) (h0 : 0 ≤ j) (h1 : j < n)
    (off' : Nat) (hoff : j.toNat * i.size = off') : LT P o E H R nw [] (.ptr id off') :=
  LT_read fun G ρ H1 a w hs hh _ => by
    have g1 := hh y (by simp [ho, Op.operands])
    have g2 := hh z (by simp [ho, Op.operands])
    rw [hy] at g1
    rw [hz] at g2
    generalize he : a.eval y = v at g1
    cases g1 with
    | own0 => exact absurd h1 (by omega)
    | own _ _ _ b cap hr =>
      refine ⟨.pointer (some ⟨b, off', none⟩), ?_, .ptr id off' b cap hr⟩
      simp [execOp, ho, he, g2.int_inv, Instr.indexAt, asIntOf, run_underlying hu, h0, h1, run_size hi, add_none, hoff]

theorem RD.sl_inv {w : World} {M : Nat → Prop} {v : Value} {n e : Nat} {c : List D} (h : RD w M v (.sl n e c)) : ∃ a cap, v = .slice a n cap ∧ (0 < n → n ≤ cap) ∧ c.length = n * e ∧ (0 < n → ∃ (b off : Nat) (g : Nat → Value), a = some ⟨b, off, none⟩ ∧ b < w.heap.size ∧ ¬ M b ∧ (∀ i, i < n * e → w.cell? ⟨b, off + i, none⟩ = some (g i)) ∧ ∀ i x, c[i]? = some x → RD w M (g i) x) := by
  cases h with
  | nil0 => exact ⟨none, 0, rfl, fun h => absurd h (by omega), by simp, fun h => absurd h (by omega)⟩
  | nil a cap e he => exact ⟨a, cap, rfl, fun h => absurd h (by omega), by simp, fun h => absurd h (by omega)⟩
  | sl b off n cap e c g hn hcap hc hb hm hg hr => exact ⟨_, cap, rfl, fun _ => hcap, hc, fun _ => ⟨b, off, g, rfl, hb, hm, hg, hr⟩⟩

theorem RV.sl_inv {w : World} {M : Nat → Prop} {ρ : Rho} {v : Value} {n e : Nat} {c : List D} (h : RV w M ρ v (.d (.sl n e c))) : ∃ a cap, v = .slice a n cap ∧ (0 < n → n ≤ cap) ∧ c.length = n * e ∧ (0 < n → ∃ (b off : Nat) (g : Nat → Value), a = some ⟨b, off, none⟩ ∧ b < w.heap.size ∧ ¬ M b ∧ (∀ i, i < n * e → w.cell? ⟨b, off + i, none⟩ = some (g i)) ∧ ∀ i x, c[i]? = some x → RD w M (g i) x) := by
  cases h with | d h => exact h.sl_inv

theorem LT_indexD {T e : TypeId} {n m : Nat} {c c' : List D} {i : TypeInfo} {k : IntKind} {j : Int} {y z : Operand} (ho : o.op = .indexAddr T y z) (hy : opX E y = .d (.sl n m c)) (hz : opX E z = .d (.int k j)) (hu : P.underlying T = some (.slice e)) (hi : P.info? e = some i) (hm : i.size = m) (h0 : 0 ≤ j) (h1 : j < n)
    (hc' : (c.drop (j.toNat * m)).take m = c') : LT P o E H R nw [] (.dptr c') :=
  LT_read fun G ρ H1 a w hs hh _ => by
    have g1 := hh y (by simp [ho, Op.operands])
    have g2 := hh z (by simp [ho, Op.operands])
    rw [hy] at g1
    rw [hz] at g2
    obtain ⟨ad, cap, he, hncap, hlen, hpos⟩ := g1.sl_inv
    obtain ⟨b, off, g, rfl, hb, hmb, hg, hr⟩ := hpos (by omega)
    have hjn : j.toNat < n := by omega
    have hin : ∀ i, i < m → j.toNat * m + i < n * m := fun i hi => by
      have : (j.toNat + 1) * m ≤ n * m := Nat.mul_le_mul_right _ (by omega)
      rw [Nat.succ_mul] at this
      omega
    refine ⟨.pointer (some ⟨b, off + j.toNat * m, none⟩), ?_, .dptr b _ c' (fun i => g (j.toNat * m + i)) hb hmb (fun i hi => ?_) fun i x hx => ?_⟩
    · simp [execOp, ho, he, g2.int_inv, Instr.indexAt, asIntOf, run_underlying hu, h0, h1, run_size hi, add_none, hm]
    · rw [Nat.add_assoc]
      refine hg _ (hin i ?_)
      rw [← hc', List.length_take] at hi
      omega
    · rw [← hc'] at hx
      have hi : i < m := by
        have := (List.getElem?_eq_some_iff.1 hx).1
        rw [List.length_take] at this
        omega
      rw [List.getElem?_take_of_lt hi, List.getElem?_drop] at hx
      exact hr _ x hx

theorem LT_indexS {T : TypeId} {s : ByteArray} {k : IntKind} {j : Int} {y z : Operand} {c : Int} (ho : o.op = .index T y z) (hy : opX E y = .d (.str s)) (hz : opX E z = .d (.int k j)) (hu : P.underlying T = some .string) (h0 : 0 ≤ j) (h1 : j < s.size) (hc : (s[j.toNat]!.toNat : Int) = c) : LT P o E H R nw [] (.d (.int .u8 c)) :=
  LT_read fun G ρ H1 a w hs hh _ => by
    have g1 := hh y (by simp [ho, Op.operands])
    have g2 := hh z (by simp [ho, Op.operands])
    rw [hy] at g1
    rw [hz] at g2
    refine ⟨.int .u8 c, ?_, .d (.int _ _)⟩
    have hlt : j.toNat < s.size := by omega
    have hb : s[j.toNat]? = some s[j.toNat]! := by
      rw [getElem?_pos s j.toNat hlt]
      congr 1
      exact (getElem!_pos s j.toNat hlt).symm
    simp [execOp, ho, g1.str_inv, g2.int_inv, Instr.index, asIntOf, run_underlying hu, h0, hb, hc]

theorem LT_indexA {T e : TypeId} {n : Nat} {i : TypeInfo} {d : TypeDesc} {k : IntKind} {j : Int} {y z : Operand} {cs : List X} {x : X} (ho : o.op = .index T y z) (hy : opX E y = .agg cs) (hz : opX E z = .d (.int k j)) (hu : P.underlying T = some (.array n e)) (hi : P.info? e = some i) (hd : P.underlying e = some d) (h0 : 0 ≤ j) (h1 : j < n)
    (m : Nat) (hn : j.toNat * i.size + m ≤ cs.length) (hx : (aggB d = true ∧ i.size = m ∧ x = .agg ((cs.drop (j.toNat * i.size)).take m)) ∨ (aggB d = false ∧ m = 1 ∧ cs[j.toNat * i.size]? = some x)) : LT P o E H R nw [] x :=
  LT_read fun G ρ H1 a w hs hh _ => by
    have g1 := hh y (by simp [ho, Op.operands])
    have g2 := hh z (by simp [ho, Op.operands])
    rw [hy] at g1
    rw [hz] at g2
    generalize he : a.eval y = v at g1
    cases g1 with
    | agg vs _ hsz hall =>
      rcases hx with ⟨h3, h2, rfl⟩ | ⟨h3, h2, hx⟩
      · refine ⟨.agg (vs.extract (j.toNat * i.size) (j.toNat * i.size + m)), by simp [execOp, ho, he, g2.int_inv, Instr.index, asIntOf, run_underlying hu, h0, h1, run_size hi, part, run_isAgg hd, h3, h2], ?_⟩
        refine .agg _ _ (by simp; omega) fun q v x hv hx => ?_
        have hj : q < m := by
          have := (List.getElem?_eq_some_iff.1 hx).1
          simp at this; omega
        rw [List.getElem?_take_of_lt hj, List.getElem?_drop] at hx
        refine hall (j.toNat * i.size + q) v x ?_ hx
        have hjs : j.toNat * i.size + q < vs.size := by omega
        have : q < (vs.extract (j.toNat * i.size) (j.toNat * i.size + m)).size := by simp; omega
        rw [Array.getElem?_eq_getElem this, Array.getElem_extract] at hv
        rw [Array.getElem?_eq_getElem hjs]
        exact hv
      · have hlt : j.toNat * i.size < vs.size := by omega
        refine ⟨vs[j.toNat * i.size], ?_, hall _ _ _ (by simp [hlt]) hx⟩
        simp [execOp, ho, he, g2.int_inv, Instr.index, asIntOf, run_underlying hu, h0, h1, run_size hi, part, run_isAgg hd, h3, hlt]

/-! ### builtins -/
theorem LT_builtin {b : Builtin} {ys : Array Operand} {ts : Array TypeId} {x : X} (ho : o.op = .call ⟨.builtin b, ys, ts⟩) (h : ∀ (G : Ctx) (ρ : Rho) (H1 : Heap) (a : Act) (w : World), Sat G ρ H1 w → (∀ y, y ∈ ys.toList → RV w (G.M ρ H1) ρ (a.eval y) (opX E y)) → (∀ id, id ∈ R → look H1 id = look H id) →
    ∃ v, ∀ cs, (builtin b ts o.type cs (ys.map a.eval)).run P w = .ok (.value v) w ∧ RV w (G.M ρ H1) ρ v x) : LT P o E H R nw [] x :=
  LT_read fun G ρ H1 a w hs hh hR => by
    obtain ⟨v, hv⟩ := h G ρ H1 a w hs (fun y hy => hh y (by simp [ho, Op.operands, Call.operands]; simpa using hy)) hR
    refine ⟨v, ?_, (hv #[]).2⟩
    simp only [execOp, ho, resolve, Sem.run_bind, Sem.run_pure, Result.andThen_ok, invoke]
    exact (hv _).1

theorem LT_lenS {y : Operand} {T : TypeId} {s : ByteArray} (ho : o.op = .call ⟨.builtin .len, #[y], #[T]⟩) (hT : P.underlying T = some .string) (hy : opX E y = .d (.str s)) : LT P o E H R nw [] (.d (.int .i64 s.size)) :=
  LT_builtin ho fun G ρ H1 a w hs hh _ => by
    have g1 := hh y (by simp)
    rw [hy] at g1
    refine ⟨.int .i64 s.size, fun cs => ⟨?_, .d (.int _ _)⟩⟩
    simp [builtin, Builtin.len_, g1.str_inv, run_underlying hT, goInt]

theorem LT_lenD {y : Operand} {T e : TypeId} {n m : Nat} {c : List D} (ho : o.op = .call ⟨.builtin .len, #[y], #[T]⟩) (hT : P.underlying T = some (.slice e)) (hy : opX E y = .d (.sl n m c)) : LT P o E H R nw [] (.d (.int .i64 n)) :=
  LT_builtin ho fun G ρ H1 a w hs hh _ => by
    have g1 := hh y (by simp)
    rw [hy] at g1
    obtain ⟨ad, cap, he, _⟩ := g1.sl_inv
    refine ⟨.int .i64 n, fun cs => ⟨?_, .d (.int _ _)⟩⟩
    simp [builtin, Builtin.len_, he, run_underlying hT, goInt]

theorem LT_lenO {y : Operand} {T e : TypeId} {id n m : Nat} (ho : o.op = .call ⟨.builtin .len, #[y], #[T]⟩) (hT : P.underlying T = some (.slice e)) (hy : opX E y = .own id n m) : LT P o E H R nw [] (.d (.int .i64 n)) :=
  LT_builtin ho fun G ρ H1 a w hs hh _ => by
    have g1 := hh y (by simp)
    rw [hy] at g1
    generalize he : a.eval y = v at g1
    cases g1 with
    | own0 =>
      refine ⟨.int .i64 0, fun cs => ⟨?_, .d (.int _ _)⟩⟩
      simp [builtin, Builtin.len_, he, run_underlying hT, goInt]
    | own _ _ _ b cap hr =>
      refine ⟨.int .i64 n, fun cs => ⟨?_, .d (.int _ _)⟩⟩
      simp [builtin, Builtin.len_, he, run_underlying hT, goInt]

theorem LT_min2 {y z : Operand} {t u : TypeId} {k k2 : IntKind} {a b r : Int} (ho : o.op = .call ⟨.builtin .min, #[y, z], #[t, u]⟩) (hy : opX E y = .d (.int k a)) (hz : opX E z = .d (.int k2 b)) (hr : min a b = r) : LT P o E H R nw [] (.d (.int k r)) :=
  LT_builtin ho fun G ρ H1 ac w hs hh _ => by
    have g1 := hh y (by simp)
    have g2 := hh z (by simp)
    rw [hy] at g1
    rw [hz] at g2
    refine ⟨.int k r, fun cs => ⟨?_, .d (.int _ _)⟩⟩
    have : (if b < a then b else a) = r := by rw [← hr]; split <;> omega
    simp [builtin, Builtin.min_, Builtin.min2, g1.int_inv, g2.int_inv, this]
theorem LT_max2 {y z : Operand} {t u : TypeId} {k k2 : IntKind} {a b r : Int} (ho : o.op = .call ⟨.builtin .max, #[y, z], #[t, u]⟩) (hy : opX E y = .d (.int k a)) (hz : opX E z = .d (.int k2 b)) (hr : max a b = r) : LT P o E H R nw [] (.d (.int k r)) :=
  LT_builtin ho fun G ρ H1 ac w hs hh _ => by
    have g1 := hh y (by simp)
    have g2 := hh z (by simp)
    rw [hy] at g1
    rw [hz] at g2
    refine ⟨.int k r, fun cs => ⟨?_, .d (.int _ _)⟩⟩
    have : (if b > a then b else a) = r := by rw [← hr]; split <;> omega
    simp [builtin, Builtin.max_, Builtin.max2, g1.int_inv, g2.int_inv, this]

/-! ### parts -/
/-- a bound of a slice expression -/
def bnd (E : Env) : Option Operand → Option Int
  | none => none
  | some y => match opX E y with | .d (.int _ n) => some n | _ => none

theorem LT_sliceS {T : TypeId} {y : Operand} {lo hi : Option Operand} {s : ByteArray} {l h : Int} (ho : o.op = .slice T y lo hi none) (hT : P.underlying T = some .string) (hy : opX E y = .d (.str s))
    (hlo : (lo = none ∧ l = 0) ∨ ∃ z k, lo = some z ∧ opX E z = .d (.int k l)) (hhi : (hi = none ∧ h = s.size) ∨ ∃ z k, hi = some z ∧ opX E z = .d (.int k h)) (h0 : 0 ≤ l) (h1 : l ≤ h) (h2 : h ≤ s.size) {r : ByteArray} (hr : s.extract l.toNat h.toNat = r) : LT P o E H R nw [] (.d (.str r)) := by
  subst hr
  exact LT_read fun G ρ H1 a w hs hh _ => by
    have g1 := hh y (by simp [ho, Op.operands])
    rw [hy] at g1
    refine ⟨.string (s.extract l.toNat h.toNat), ?_, .d (.str _)⟩
    have hh2 : h.toNat ≤ s.size := by omega
    have hl2 : l.toNat ≤ h.toNat := by omega
    rcases hlo with ⟨rfl, rfl⟩ | ⟨z, k, rfl, hz⟩ <;> rcases hhi with ⟨rfl, rfl⟩ | ⟨z2, k2, rfl, hz2⟩
    · simp [execOp, ho, g1.str_inv, Instr.sliceAt, run_underlying hT, Instr.slice, Instr.sliceBounds]
    · have g3 := hh z2 (by simp [ho, Op.operands])
      rw [hz2] at g3
      have : 0 ≤ h := by omega
      simp [execOp, ho, g1.str_inv, Instr.sliceAt, run_underlying hT, Instr.slice, Instr.sliceBounds, Instr.sliceBound, asIntOf, g3.int_inv, h2, this]
    · have g3 := hh z (by simp [ho, Op.operands])
      rw [hz] at g3
      simp [execOp, ho, g1.str_inv, Instr.sliceAt, run_underlying hT, Instr.slice, Instr.sliceBounds, Instr.sliceBound, asIntOf, g3.int_inv, h0, h1]
    · have g3 := hh z (by simp [ho, Op.operands])
      have g4 := hh z2 (by simp [ho, Op.operands])
      rw [hz] at g3
      rw [hz2] at g4
      have : 0 ≤ h := by omega
      simp [execOp, ho, g1.str_inv, Instr.sliceAt, run_underlying hT, Instr.slice, Instr.sliceBounds, Instr.sliceBound, asIntOf, g3.int_inv, g4.int_inv, h0, h2, this]
      intro hq; omega

theorem cut_facts {l h : Int} {n r : Nat} (h0 : 0 ≤ l) (h1 : l ≤ h) (h2 : h ≤ n) (hr : (h - l).toNat = r) : h.toNat - l.toNat = r ∧ l.toNat + r ≤ n ∧ (r ≠ 0 → 0 < n) ∧ (r ≠ 0 → 0 < r) := by omega

theorem LT_sliceD {T e : TypeId} {y : Operand} {lo hi : Option Operand} {n m : Nat} {c c' : List D} {i : TypeInfo} {l h : Int} (r : Nat) (ho : o.op = .slice T y lo hi none) (hT : P.underlying T = some (.slice e)) (hi' : P.info? e = some i) (hm : i.size = m) (hy : opX E y = .d (.sl n m c))
    (hlo : (lo = none ∧ l = 0) ∨ ∃ z k, lo = some z ∧ opX E z = .d (.int k l)) (hhi : (hi = none ∧ h = n) ∨ ∃ z k, hi = some z ∧ opX E z = .d (.int k h)) (h0 : 0 ≤ l) (h1 : l ≤ h) (h2 : h ≤ n) (hr : (h - l).toNat = r) (hc' : (c.drop (l.toNat * m)).take (r * m) = c') (hm0 : 0 < m := by first | decide | omega) : LT P o E H R nw [] (.d (.sl r m c')) :=
  LT_read fun G ρ H1 a w hs hh _ => by
    have g1 := hh y (by simp [ho, Op.operands])
    rw [hy] at g1
    obtain ⟨ad, cap, he, hncap, hlen, hpos⟩ := g1.sl_inv
    have hnc : n ≤ cap := by
      rcases Nat.eq_zero_or_pos n with hq | hq
      · omega
      · exact hncap hq
    have hrun : (execOp a.eval o).run P w = .ok (.value (.slice (if cap = l.toNat then ad else ad.map (·.add (l.toNat * m))) (h.toNat - l.toNat) (cap - l.toNat))) w := by
      rcases hlo with ⟨rfl, rfl⟩ | ⟨z, k, rfl, hz⟩ <;> rcases hhi with ⟨rfl, rfl⟩ | ⟨z2, k2, rfl, hz2⟩
      · simp [execOp, ho, he, Instr.sliceAt, run_underlying hT, Instr.slice, Instr.sliceBounds, run_size hi', hm]
      · have g3 := hh z2 (by simp [ho, Op.operands])
        rw [hz2] at g3
        have b1 : 0 ≤ h := by omega
        have b2 : h ≤ cap := by omega
        simp [execOp, ho, he, Instr.sliceAt, run_underlying hT, Instr.slice, Instr.sliceBounds, Instr.sliceBound, asIntOf, g3.int_inv, b1, b2, run_size hi', hm]
      · have g3 := hh z (by simp [ho, Op.operands])
        rw [hz] at g3
        simp [execOp, ho, he, Instr.sliceAt, run_underlying hT, Instr.slice, Instr.sliceBounds, Instr.sliceBound, asIntOf, g3.int_inv, h0, h1, run_size hi', hm]
      · have g3 := hh z (by simp [ho, Op.operands])
        have g4 := hh z2 (by simp [ho, Op.operands])
        rw [hz] at g3
        rw [hz2] at g4
        have b1 : 0 ≤ h := by omega
        have b2 : h ≤ cap := by omega
        simp [execOp, ho, he, Instr.sliceAt, run_underlying hT, Instr.slice, Instr.sliceBounds, Instr.sliceBound, asIntOf, g3.int_inv, g4.int_inv, b1, b2, h0, run_size hi', hm]
        intro hq; omega
    refine ⟨_, hrun, .d ?_⟩
    obtain ⟨hr2, hr3, hr4, hr5⟩ := cut_facts h0 h1 h2 hr
    rw [hr2]
    have hcl : c'.length = r * m := by
      rw [← hc', List.length_take, List.length_drop, hlen]
      have : (l.toNat + r) * m ≤ n * m := Nat.mul_le_mul_right _ hr3
      rw [Nat.add_mul] at this
      omega
    by_cases hr0 : r = 0
    · subst hr0
      have : c' = [] := by rw [← List.length_eq_zero_iff]; simpa using hcl
      subst this
      exact .nil _ _ _ hm0
    · obtain ⟨b, off, g, rfl, hb, hmb, hg, hrr⟩ := hpos (hr4 hr0)
      rw [if_neg (show ¬ cap = l.toNat from Nat.ne_of_gt (Nat.lt_of_lt_of_le (Nat.lt_of_lt_of_le (Nat.lt_add_of_pos_right (hr5 hr0)) hr3) hnc))]
      simp only [Option.map_some, add_none]
      have hin : ∀ i, i < r * m → l.toNat * m + i < n * m := fun i hi => by
        have : (l.toNat + r) * m ≤ n * m := Nat.mul_le_mul_right _ hr3
        rw [Nat.add_mul] at this
        omega
      refine .sl b _ r _ m c' (fun i => g (l.toNat * m + i)) (hr5 hr0) (Nat.le_sub_of_add_le (Nat.add_comm _ _ ▸ Nat.le_trans hr3 hnc)) hcl hb hmb (fun i hi => ?_) fun i x hx => ?_
      · rw [Nat.add_assoc]; exact hg _ (hin i hi)
      · have hi : i < r * m := by
          have := (List.getElem?_eq_some_iff.1 hx).1
          omega
        rw [← hc', List.getElem?_take_of_lt hi, List.getElem?_drop] at hx
        exact hrr _ x hx

/-- []byte(s) -/
def bytesD (s : ByteArray) : List D := s.data.toList.map fun b => .int .u8 b.toNat

end
end Go.Proofs.YtaacgmcgmljjeaaGreat

/- The calculus of states: calls by contracts; octets of a string. -/
namespace Go.Proofs.YtaacgmcgmljjeaaGreat
open Go.RowKit

/-- nothing is named -/
def noRho : Rho := fun _ => none

/-- the function f, of what is only read, answers r, makes new memory alone, and what it answers lies outside of M -/
def PC (P : Program) (f : FuncId) (xs : List X) (r : X) : Prop :=
  ∀ (w : World) (M : Nat → Prop) (vs : Array Value), (∀ b, M b → b < w.heap.size) → vs.size = xs.length → (∀ (i : Nat) v x, vs[i]? = some v → xs[i]? = some x → RV w M noRho v x) →
    Calls P f vs w fun e w' => ∃ v, e = .returned v ∧ RV w' M noRho v r ∧ Below w.heap.size w w'

/-- the function f, called in a state: it reads the names R, gives the names nw, turns the blocks as u says, and answers r -/
def CT (P : Program) (f : FuncId) (xs : List X) (H : Heap) (R nw : List Nat) (u : Upds) (r : X) : Prop :=
  ∀ (G : Ctx) (ρ : Rho) (H1 : Heap) (vs : Array Value) (w : World), Sat G ρ H1 w → vs.size = xs.length → (∀ (i : Nat) v x, vs[i]? = some v → xs[i]? = some x → RV w (G.M ρ H1) ρ v x) → (∀ id, id ∈ R → look H1 id = look H id) → (∀ id, id ∈ nw → ρ id = none) →
    Calls P f vs w fun e w' => ∃ v ρ', e = .returned v ∧ Ext ρ ρ' ∧ (∀ id, ρ' id ≠ none → ρ id ≠ none ∨ id ∈ nw) ∧ Later w (G.M ρ H1) w' (G.M ρ' (u ++ H1)) ∧ RV w' (G.M ρ' (u ++ H1)) ρ' v r ∧ Sat G ρ' (u ++ H1) w'

theorem PC.ct {P : Program} {f : FuncId} {xs : List X} {r : X} {H : Heap} {R nw : List Nat} (h : PC P f xs r) (hx : (X.idsL xs).isEmpty = true) : CT P f xs H R nw [] r := by
  intro G ρ H1 vs w hs hsz hv _ _
  have hx' : X.idsL xs = [] := by simpa using hx
  refine (h w (G.M ρ H1) vs (fun b hb => hs.M_lt hb) hsz fun i v x h1 h2 => (hv i v x h1 h2).fewer fun id hid => ?_).mono ?_
  · have := X.mem_idsL (List.mem_of_getElem? h2) hid
    rw [hx'] at this
    cases this
  · rintro e w' ⟨v, he, hr, hb⟩
    exact ⟨v, ρ, he, Ext.refl _, fun _ h => .inl h, later_grow hb, (hr.later (Later.refl _ _) (fun _ _ h => by cases h)), hs.grow hb⟩

section
variable {P : Program} {o : Oper} {E : Env} {H : Heap} {R nw : List Nat}

theorem LT_grow {x : X} (h : ∀ (G : Ctx) (ρ : Rho) (H1 : Heap) (a : Act) (w : World), Sat G ρ H1 w → (∀ y, y ∈ o.op.operands.toList → RV w (G.M ρ H1) ρ (a.eval y) (opX E y)) →
    ∃ v w', (execOp a.eval o).run P w = .ok (.value v) w' ∧ Below w.heap.size w w' ∧ RV w' (G.M ρ H1) ρ v x) : LT P o E H R nw [] x := by
  intro G ρ H1 a w hs ho hR _ next Q hK
  obtain ⟨v, w', hr, hb, hv⟩ := h G ρ H1 a w hs ho
  unfold Oper.wp
  rw [hr]
  exact hK v w' ρ (Ext.refl _) (fun _ h => .inl h) (later_grow hb) hv (hs.grow hb)

def Ent (P : Program) (f : FuncId) : Prop := ∀ args w, (callFunc f args).run P w = .ok (.enter f args) w

theorem ent_of {f : FuncId} {fn : Func} (hf : P.funcs[f]? = some fn) (hn : (fn.name == "runtime.NumGoroutine") = false) (hb : fn.body.isNone = false) : Ent P f := by
  intro args w
  have hn' : (fn.name = "runtime.NumGoroutine") = False := by simpa using hn
  cases hbd : fn.body with
  | none => rw [hbd] at hb; cases hb
  | some c => simp [callFunc, hf, hn', hbd]

theorem upon_call {f : FuncId} {args : Array Value} {a : Act} {w : World} {next : Act → World → Prop} {Q : Exit → Act → World → Prop} {R' : Ending → World → Prop} (h : Calls P f args w R') (hn : ∀ e w', R' e w' → ∃ v, e = .returned v ∧ next (a.put o.dst v) w') : o.upon P a next Q (.ok (.enter f args) w) := by
  simp only [Oper.upon]
  refine h.mono fun e w' he => ?_
  obtain ⟨v, rfl, hh⟩ := hn e w' he
  exact hh

theorem RV.fn_inv {w : World} {M : Nat → Prop} {ρ : Rho} {v : Value} {f : FuncId} (h : RV w M ρ v (.d (.fn f))) : v = .func (.func f) #[] #[] := by
  cases h with | d h => cases h; rfl

/-- a call of a function that is named, or that a slot holds without anything captured -/
theorem LT_call {y : Operand} {ys : Array Operand} {ts : Array TypeId} {f : FuncId} {u : Upds} {r : X} (xs : List X) (ho : o.op = .call ⟨.value y, ys, ts⟩) (hy : opX E y = .d (.fn f)) (he : Ent P f) (hxs : ys.toList.map (opX E) = xs) (h : CT P f xs H R nw u r) : LT P o E H R nw u r := by
  intro G ρ H1 a w hs hh hR hn next Q hK
  have g1 := hh y (by simp [ho, Op.operands, Call.operands])
  rw [hy] at g1
  have hrun : (execOp a.eval o).run P w = .ok (.enter f (ys.map a.eval)) w := by
    simp [execOp, ho, resolve, g1.fn_inv, Deferred.ofValue, invoke]
    exact he _ _
  unfold Oper.wp
  rw [hrun]
  refine upon_call (h G ρ H1 (ys.map a.eval) w hs (by rw [← hxs]; simp) (fun i v x hv hx => ?_) hR hn) ?_
  · rw [← hxs, List.getElem?_map, Array.getElem?_toList] at hx
    rw [Array.getElem?_map] at hv
    cases hq : ys[i]? with
    | none => rw [hq] at hv; cases hv
    | some q =>
      rw [hq] at hv hx
      cases hv; cases hx
      exact hh q (by simp [ho, Op.operands, Call.operands, Array.mem_of_getElem? hq])
  · rintro e w' ⟨v, ρ', rfl, h1, h2, h3, h4, h5⟩
    exact ⟨v, rfl, hK v w' ρ' h1 h2 h3 h4 h5⟩

/-- a call of a closure -/
theorem LT_callC {y : Operand} {ys : Array Operand} {ts : Array TypeId} {f : FuncId} {fs cs : List X} {u : Upds} {r : X} (xs : List X) (ho : o.op = .call ⟨.value y, ys, ts⟩) (hy : opX E y = .func (.func f) fs cs) (he : Ent P f) (hxs : fs ++ ys.toList.map (opX E) ++ cs = xs) (h : CT P f xs H R nw u r) : LT P o E H R nw u r := by
  intro G ρ H1 a w hs hh hR hn next Q hK
  have g1 := hh y (by simp [ho, Op.operands, Call.operands])
  rw [hy] at g1
  generalize hv0 : a.eval y = v0 at g1
  cases g1 with
  | func _ vf vc _ _ hf hc k1 k2 =>
    have hrun : (execOp a.eval o).run P w = .ok (.enter f (vf ++ ys.map a.eval ++ vc)) w := by
      simp only [execOp, ho, resolve, hv0, Deferred.ofValue, invoke, Sem.run_bind, Sem.run_pure, Result.andThen_ok]
      exact he _ _
    unfold Oper.wp
    rw [hrun]
    refine upon_call (h G ρ H1 _ w hs (by rw [← hxs]; simp [hf, hc]) (fun i v x hv hx => ?_) hR hn) ?_
    · rw [← hxs] at hx
      rw [← Array.getElem?_toList, Array.toList_append, Array.toList_append, List.append_assoc] at hv
      rw [List.append_assoc] at hx
      have hf' : vf.toList.length = fs.length := by simpa using hf
      by_cases h1 : i < fs.length
      · rw [List.getElem?_append_left (by omega)] at hv hx
        exact k1 i v x (by simpa using hv) hx
      · rw [List.getElem?_append_right (by omega)] at hv hx
        rw [hf'] at hv
        have hy' : (ys.map a.eval).toList.length = (ys.toList.map (opX E)).length := by simp
        by_cases h2 : i - fs.length < (ys.toList.map (opX E)).length
        · rw [List.getElem?_append_left (by omega)] at hv hx
          rw [List.getElem?_map, Array.getElem?_toList] at hx
          rw [Array.getElem?_toList, Array.getElem?_map] at hv
          cases hq : ys[i - fs.length]? with
          | none => rw [hq] at hv; cases hv
          | some q =>
            rw [hq] at hv hx
            cases hv; cases hx
            exact hh q (by simp [ho, Op.operands, Call.operands, Array.mem_of_getElem? hq])
        · rw [List.getElem?_append_right (by omega)] at hv hx
          rw [hy'] at hv
          exact k2 _ v x (by simpa using hv) hx
    · rintro e w' ⟨v, ρ', rfl, h1, h2, h3, h4, h5⟩
      exact ⟨v, rfl, hK v w' ρ' h1 h2 h3 h4 h5⟩

/-! ### octets of a string -/
theorem LT_bytes {S T e : TypeId} {ds : TypeDesc} {y : Operand} {s : ByteArray} (ho : o.op = .convert S T y) (hS : P.underlying S = some ds) (hT : P.underlying T = some (.slice e)) (he : P.underlying e = some (.int .u8)) (hy : opX E y = .d (.str s)) : LT P o E H R nw [] (.d (.sl s.size 1 (bytesD s))) :=
  LT_grow fun G ρ H1 a w hs hh => by
    have g1 := hh y (by simp [ho, Op.operands])
    rw [hy] at g1
    let cap := (Question.appendCap s.size 0 e).cut (w.tape w.drawn (.appendCap s.size 0 e))
    let elems : Array Value := s.data.map fun b => .int .u8 b.toNat
    let cells : Array Value := elems ++ Array.replicate (cap - s.size) (.int .u8 0)
    let w1 : World := { w with drawn := w.drawn + 1 }
    let w2 := w1.alloc (.cells cells e)
    have hcap : s.size ≤ cap := by show s.size ≤ s.size + _; omega
    have hb2 : Below w.heap.size w w2 := ((Below.refl _ w).drew).alloc (Nat.le_refl _) _
    have hw2 : w2.heap[w.heap.size]? = some (.cells cells e (0, 0)) := heap_new w1 _
    let w3 := w2.freeze ⟨w.heap.size, cells.size, none⟩ 1
    have hw3 : w3.heap[w.heap.size]? = some (.cells cells e (cells.size, cells.size + 1)) := by
      show (w2.freeze _ 1).heap[_]? = _
      simp [World.freeze, Array.getElem?_modify, hw2]
    have hb3 : Below w.heap.size w w3 := hb2.trans ⟨by simp [w3, World.freeze], by simp [w3, World.freeze], by simp [w3, World.freeze], by simp [w3, World.freeze], fun k hk => by
      show (w2.freeze _ 1).heap[k]? = _
      simp only [World.freeze, Nat.one_ne_zero, if_false, Array.getElem?_modify]
      rw [if_neg (by omega)]⟩
    have hsh : w2.shape? w.heap.size = some (e, cells.size) := by simp [World.shape?, hw2]
    have hrun : (execOp a.eval o).run P w = .ok (.value (.slice (some ⟨w.heap.size, 0, none⟩) s.size cap)) w3 := by
      have hq : (Question.appendCap s.size 0 e).forced = false := rfl
      have hmk : (markStringish ⟨w.heap.size, 0, none⟩).run P w2 = .ok () w3 := by
        simp [markStringish, hsh]
        rfl
      simp only [execOp, ho, g1.str_inv, convert, Sem.run_bind, run_underlying hS, run_underlying hT, Result.andThen_ok, run_underlying he, Conv.stringToBytes, run_choose, hq, newRow, run_newObj, Sem.run_pure, Bool.false_eq_true, if_false]
      show Result.andThen (Result.andThen ((markStringish ⟨w.heap.size, 0, none⟩).run P w2) _) _ = _
      rw [hmk]
      rfl
    refine ⟨_, w3, hrun, hb3, .d ?_⟩
    rcases Nat.eq_zero_or_pos s.size with h0 | h0
    · rw [h0]
      have : bytesD s = [] := by
        have hl : s.data.toList.length = 0 := by simpa using h0
        simp [bytesD, List.length_eq_zero_iff.1 hl]
      rw [this]
      exact .nil _ _ _ (by omega)
    · have hsz : w.heap.size < w3.heap.size := lt_of_heap hw3
      refine .sl _ 0 _ cap 1 _ (fun i => .int .u8 (s.data.toList[i]?.getD 0).toNat) h0 hcap (by simp [bytesD]) hsz (fun hm => absurd (hs.M_lt hm) (by omega)) (fun i hi => ?_) fun i x hx => ?_
      · have hi' : i < s.data.size := by rw [Nat.mul_one] at hi; exact hi
        simp only [World.cell?, hw3, Nat.zero_add]
        have h1 : cells[i]? = elems[i]? := by
          show (elems ++ _)[i]? = _
          rw [Array.getElem?_append_left (by simpa [elems] using hi')]
        rw [h1]
        simp [elems, Array.getElem?_eq_getElem hi', hi']
      · unfold bytesD at hx
        rw [List.getElem?_map] at hx
        cases hq : s.data.toList[i]? with
        | none => rw [hq] at hx; cases hx
        | some q =>
          rw [hq] at hx
          cases hx
          simp only [Option.getD_some]
          exact .int _ _

/-! ### a function's contract from its body -/
/-- the answer of a body -/
def Res1 (P : Program) (s : St) : ResultVar → X → Prop
  | .tmp t, x => get s.E t = x
  | .cell a T, x => ∃ id off ob d i n, get s.E a = .ptr id off ∧ look s.H id = some ob ∧ P.underlying T = some d ∧ P.info? T = some i ∧ off + n ≤ ob.cs.length ∧
      ((aggB d = true ∧ i.size = n ∧ x = .agg ((ob.cs.drop off).take n)) ∨ (aggB d = false ∧ n = 1 ∧ ob.cs[off]? = some x))

def ResL (P : Program) (s : St) : List ResultVar → List X → Prop
  | [], [] => True
  | r :: rs, x :: xs => Res1 P s r x ∧ ResL P s rs xs
  | _, _ => False

def Fin (P : Program) (fn : Func) (r : X) (ex : Exit) (s : St) : Prop :=
  (ex = .ret ∨ ex = .normal) ∧ ∃ xs, ResL P s fn.results.toList xs ∧ (r = match xs with | [x] => x | xs => .tup xs)

def evR (tmps : Array Value) : ResultVar → Sem Value
  | .tmp t => pure (tmps.getD t undef)
  | .cell p T => do loadVar T (← asAddr (tmps.getD p undef))

theorem results_evR (fn : Func) (tmps : Array Value) : results fn tmps = (do
    let vs ← fn.results.mapM (evR tmps)
    pure (if h : vs.size = 1 then vs[0] else .tuple vs)) := by
  unfold results
  congr 2

theorem res1_run {G : Ctx} {N : Nat} {ρ : Rho} {s : St} {a : Act} {w : World} (hr : Rep G N ρ s a w) {rv : ResultVar} {x : X} (h : Res1 P s rv x) :
    ∃ v, (evR a.tmps rv).run P w = .ok v w ∧ RV w (G.M ρ s.H) ρ v x := by
  cases rv with
  | tmp t =>
    refine ⟨a.tmps.getD t undef, rfl, ?_⟩
    rw [← show get s.E t = x from h]
    exact hr.env t
  | cell p T =>
    obtain ⟨id, off, ob, d, i, n, h1, h2, h3, h4, h5, h6⟩ := h
    have hp := hr.env p
    rw [h1] at hp
    generalize he : a.tmps.getD p undef = v at hp
    cases hp with
    | ptr _ _ b cap hrr =>
      obtain ⟨g, g1, g2⟩ := obj_cells hr.sat h2 hrr h5
      have hv := run_loadVar_cells (P := P) (w := w) (b := b) (off := off) h3 h4 g n (fun h => by rcases h6 with hx | hx; exact hx.2.1; rw [hx.1] at h; cases h) (fun h => by rcases h6 with hx | hx; rw [hx.1] at h; cases h; exact hx.2.1) g1
      refine ⟨if aggB d then .agg ((List.range n).map g).toArray else g 0, by simp [evR, he, asAddr, hv], ?_⟩
      rcases h6 with ⟨hd, _, rfl⟩ | ⟨hd, hn1, hx⟩
      · rw [if_pos hd]
        refine .agg _ _ (by simp; omega) fun j v x hv hx => ?_
        have hj : j < n := by
          have := (Array.getElem?_eq_some_iff.1 hv).1
          simpa using this
        rw [List.getElem?_take_of_lt hj, List.getElem?_drop] at hx
        have e : v = g j := by simpa [hj] using hv.symm
        rw [e]
        exact g2 j x hj hx
      · rw [if_neg (by simp [hd])]
        exact g2 0 x (by omega) (by rw [Nat.add_zero]; exact hx)

theorem resL_run {G : Ctx} {N : Nat} {ρ : Rho} {s : St} {a : Act} {w : World} (hr : Rep G N ρ s a w) : ∀ {rs : List ResultVar} {xs : List X}, ResL P s rs xs →
    ∃ vs : List Value, (rs.mapM (evR a.tmps)).run P w = .ok vs w ∧ vs.length = xs.length ∧ ∀ (i : Nat) v x, vs[i]? = some v → xs[i]? = some x → RV w (G.M ρ s.H) ρ v x
  | [], [], _ => ⟨[], rfl, rfl, fun i v x hv => by simp at hv⟩
  | r :: rs, x :: xs, h => by
    obtain ⟨v, h1, h2⟩ := res1_run hr h.1
    obtain ⟨vs, h3, h4, h5⟩ := resL_run hr h.2
    refine ⟨v :: vs, ?_, by simp [h4], fun i u y hu hy => ?_⟩
    · rw [List.mapM_cons]
      simp only [Sem.run_bind, h1, h3, Result.andThen_ok, Sem.run_pure]
    · cases i with
      | zero => cases hu; cases hy; exact h2
      | succ i => exact h5 i u y hu hy
  | [], _ :: _, h => h.elim
  | _ :: _, [], h => h.elim

theorem fin_run {G : Ctx} {N : Nat} {ρ : Rho} {s : St} {a : Act} {w : World} {fn : Func} {r : X} {ex : Exit} (hr : Rep G N ρ s a w) (h : Fin P fn r ex s) : ∃ v, (results fn a.tmps).run P w = .ok v w ∧ RV w (G.M ρ s.H) ρ v r := by
  obtain ⟨_, xs, h1, h2⟩ := h
  obtain ⟨vs, g1, g2, g3⟩ := resL_run hr h1
  have hm : (fn.results.mapM (evR a.tmps)).run P w = .ok vs.toArray w := by
    rw [Array.mapM_eq_mapM_toList]
    simp only [Sem.run_map, g1, Result.andThen_ok]
  have hrun : (results fn a.tmps).run P w = .ok (if h : vs.toArray.size = 1 then vs.toArray[0] else .tuple vs.toArray) w := by
    rw [results_evR, Sem.run_bind, hm]
    rfl
  refine ⟨_, hrun, ?_⟩
  clear hrun hm g1 h1
  match vs, xs, g2, g3, h2 with
  | [], [], _, _, h2 => subst h2; exact .tup #[] [] rfl (fun i v x hv _ => by simp at hv)
  | [v], [x'], _, g3, h2 => subst h2; exact g3 0 v _ rfl rfl
  | v :: v' :: vs, y1 :: y2 :: ys, g2, g3, h2 =>
    subst h2
    rw [dif_neg (by simp)]
    exact .tup _ _ (by simpa using g2) fun i u y hu hy => g3 i u y (by simpa using hu) hy

def enumE : Nat → List X → Env
  | _, [] => []
  | k, x :: xs => (k, x) :: enumE (k + 1) xs

theorem get_enumE : ∀ (xs : List X) (k t : Nat), get (enumE k xs) t = if k ≤ t then xs[t - k]?.getD .undef else .undef
  | [], k, t => by simp [enumE, get]
  | x :: xs, k, t => by
    simp only [enumE, get]
    rw [get_enumE xs (k + 1) t]
    by_cases h : k = t
    · subst h; simp
    · rw [if_neg h]
      by_cases h2 : k + 1 ≤ t
      · rw [if_pos h2, if_pos (by omega), show t - k = (t - (k + 1)) + 1 by omega]; rfl
      · rw [if_neg h2, if_neg (by omega)]

/-- the contract of a function that only reads, from its body -/
theorem PC_of {f : FuncId} {fn : Func} {c : Code} {xs : List X} {r : X} (hf : P.funcs[f]? = some fn) (hb : fn.body = some c) (hn : xs.length ≤ fn.ntmps) (hr : r.ids.isEmpty = true)
    (h : ∀ G : Ctx, (∀ id, G.ρ0 id = none) → AW P G fn.ntmps c ⟨enumE 0 xs, [], []⟩ (Fin P fn r)) : PC P f xs r := by
  intro w M vs hM hsz hv
  let G : Ctx := { w0 := w, M0 := M, ρ0 := noRho, hM := hM }
  have hM0 : ∀ b, G.M noRho [] b ↔ M b := fun b => ⟨fun h => h.elim (fun h => h) fun ⟨_, _, _, h, _⟩ => (by cases h), .inl⟩
  refine calls_of_wp hf hb (h G (fun _ => rfl) noRho _ w ⟨⟨Turn.refl _ _, Ext.refl _, fun _ _ _ _ _ h => absurd rfl h, fun id o h => by cases h⟩, fun t => ?_, fun id hid => absurd rfl hid, by simp; omega, rfl⟩ _ fun ex s' ρ' a' w' hq hr' => ?_)
  · show RV _ _ _ ((vs ++ _).getD t undef) (get (enumE 0 xs) t)
    rw [get_enumE, if_pos (Nat.zero_le _), Nat.sub_zero]
    by_cases ht : t < xs.length
    · have ht' : t < vs.size := by omega
      have e1 : (vs ++ Array.replicate (fn.ntmps - vs.size) undef).getD t undef = vs[t] := by
        simp [Array.getD, Nat.lt_of_lt_of_le ht' (Nat.le_add_right vs.size _), Array.getElem_append_left ht']
      rw [e1, List.getElem?_eq_getElem ht, Option.getD_some]
      exact (hv t _ _ (by simp [ht']) (by simp [ht])).later ⟨Nat.le_refl _, fun _ _ _ => rfl, fun b _ h => (hM0 b).1 h⟩ (Ext.refl _)
    · rw [List.getElem?_eq_none (by omega)]
      exact .undef _
  · obtain ⟨v, g1, g2⟩ := fin_run hr' hq
    have hpost : a'.defers = [] ∧ ∃ v, (results fn a'.tmps).run P w' = .ok v w' ∧ (∃ v', Ending.returned v = .returned v' ∧ RV w' M noRho v' r ∧ Below w.heap.size w w') := by
      refine ⟨hr'.defers, v, g1, v, rfl, ?_, hr'.sat.below.below0⟩
      have : r.ids = [] := by simpa using hr
      exact (g2.later ⟨Nat.le_refl _, fun _ _ _ => rfl, fun b _ h => .inl h⟩ (Ext.refl _)).fewer fun id hid => by rw [this] at hid; cases hid
    rcases hq.1 with rfl | rfl <;> exact hpost

end
end Go.Proofs.YtaacgmcgmljjeaaGreat

/- The calculus of states: forms for walks that a program prints. -/
namespace Go.Proofs.YtaacgmcgmljjeaaGreat
open Go.RowKit

section
variable {P : Program} {G : Ctx} {N : Nat} {ops : Array Oper} {o : Oper} {os : List Oper} {ps : List Sp} {s : St} {Q : Exit → St → Prop}

theorem okY {p : Sp} (hw : wantX ops s.E o = some true) (h : LT P o s.E s.H p.R p.nw p.u p.x) (hr : OkL P ops os ps (s.step o.dst p)) : OkL P ops (o :: os) (p :: ps) s := ⟨.inl ⟨hw, h⟩, hr⟩
/-- under a guard that is not decided -/
theorem okG {y : X} {nw R : List Nat} (g : Bool) (hw : wantX ops s.E o = some g) (h : g = true → LT P o s.E s.H R nw [] y) (hr : OkL P ops os ps (s.step o.dst ⟨.opt g y, [], nw, R⟩)) : OkL P ops (o :: os) (⟨.opt g y, [], nw, R⟩ :: ps) s := ⟨.inr (.inr ⟨g, y, hw, rfl, rfl, h⟩), hr⟩
/-- under a guard that does not hold -/
theorem okN {nw R : List Nat} (hw : wantX ops s.E o = some false) (hr : OkL P ops os ps (s.step o.dst ⟨.tup [], [], nw, R⟩)) : OkL P ops (o :: os) (⟨.tup [], [], nw, R⟩ :: ps) s := ⟨.inr (.inl ⟨hw, rfl, rfl⟩), hr⟩
theorem okE : OkL P ops [] [] s := trivial

theorem sE {t : Nat} {x : X} {r E : Env} (h : get E t = x) (hr : subE r E) : subE ((t, x) :: r) E := ⟨h, hr⟩
theorem sE0 {E : Env} : subE [] E := trivial
theorem sH {i : Nat} {x : Option Ob} {r H : Heap} (h : look H i = x) (hr : subH r H) : subH ((i, x) :: r) H := ⟨h, hr⟩
theorem sH0 {H : Heap} : subH [] H := trivial

theorem aw_condT {t : Nat} {c d : Code} (hb : get s.E t = .d (.bool true)) (h : AW P G N c s Q) : AW P G N (.cond (.tmp t) c d) s Q := aw_cond true hb (fun _ => h) (fun h => by cases h)
theorem aw_condF {t : Nat} {c d : Code} (hb : get s.E t = .d (.bool false)) (h : AW P G N d s Q) : AW P G N (.cond (.tmp t) c d) s Q := aw_cond false hb (fun h => by cases h) (fun _ => h)

/-- a loop, by a family of states, of which J holds -/
theorem aw_loopJ {c : Code} {α : Type} (I : α → St) (J : α → Prop) (μ : α → Nat) (x0 : α) (hJ : J x0) (h0 : Weak G N s (I x0))
    (h : ∀ x, J x → AW P G N c (I x) (aft Q fun s' => ∃ y, J y ∧ μ y < μ x ∧ Weak G N s' (I y))) : AW P G N (.loop c) s Q := by
  refine aw_loop (α := { x // J x }) (fun x => I x.1) (fun x => μ x.1) ⟨x0, hJ⟩ h0 fun x => ?_
  refine (h x.1 x.2).mono fun ex s' hq => ?_
  cases ex <;> try exact hq
  obtain ⟨y, h1, h2, h3⟩ := hq
  exact ⟨⟨y, h1⟩, h2, h3⟩

theorem fin1 {fn : Func} {r x : X} {rv : ResultVar} {ex : Exit} (hex : ex = .ret ∨ ex = .normal) (hf : fn.results = #[rv]) (h : Res1 P s rv x) (hr : x = r) : Fin P fn r ex s :=
  ⟨hex, [x], by rw [hf]; exact ⟨h, trivial⟩, hr.symm⟩
theorem finN {fn : Func} {r : X} {xs : List X} {l : List ResultVar} {ex : Exit} (hex : ex = .ret ∨ ex = .normal) (hf : fn.results = l.toArray) (h : ResL P s l xs) (hx : xs.length ≠ 1) (hr : .tup xs = r) : Fin P fn r ex s := by
  refine ⟨hex, xs, by rw [hf]; exact h, ?_⟩
  rw [← hr]
  match xs, hx with
  | [], _ => rfl
  | [x], hx => simp at hx
  | _ :: _ :: _, _ => rfl
theorem rL {rv : ResultVar} {x : X} {l : List ResultVar} {xs : List X} (h : Res1 P s rv x) (hr : ResL P s l xs) : ResL P s (rv :: l) (x :: xs) := ⟨h, hr⟩
theorem rL0 : ResL P s [] [] := trivial
end

theorem band1 {a b : Bool} (h : (a && b) = true) : a = true := by cases a <;> simp_all
theorem band2 {a b : Bool} (h : (a && b) = true) : b = true := by cases a <;> simp_all
theorem opnT {E : Env} {t : Nat} {g : Bool} {x : X} (h : get E t = .opt g x) (hg : g = true) : opX E (.tmp t) = x := by
  subst hg
  show (get E t).opn = x
  rw [h]; rfl

section
variable {P : Program} {o : Oper} {E : Env} {H : Heap} {R nw : List Nat} {c : Operand} {a b : Bool}
/-- x || y, with y behind a guard -/
theorem LT_por {u : Nat} (ho : o.op = .pick c (.const (.bool true)) (.tmp u)) (hc : opX E c = .d (.bool a)) {h : Bool} (hu : get E u = .opt h (.d (.bool b))) (hh : a = false → h = true) : LT P o E H R nw [] (.d (.bool (a || b))) := by
  refine LT_pick ho hc (fun ha w M ρ v hv => ?_) (fun ha w M ρ v hv => ?_)
  · subst ha; exact hv
  · have hg := hh ha
    subst ha
    rw [show opX E (.tmp u) = .d (.bool b) from opnT hu hg] at hv
    exact hv
/-- x && y, with y behind a guard -/
theorem LT_pand {u : Nat} (ho : o.op = .pick c (.tmp u) (.const (.bool false))) (hc : opX E c = .d (.bool a)) {h : Bool} (hu : get E u = .opt h (.d (.bool b))) (hh : a = true → h = true) : LT P o E H R nw [] (.d (.bool (a && b))) := by
  refine LT_pick ho hc (fun ha w M ρ v hv => ?_) (fun ha w M ρ v hv => ?_)
  · have hg := hh ha
    subst ha
    rw [show opX E (.tmp u) = .d (.bool b) from opnT hu hg] at hv
    exact hv
  · subst ha; exact hv
end

def octN (s : ByteArray) (k : Nat) : Int := ((s.data.toList[k]?.getD 0).toNat : Int)
theorem octN_bd (s : ByteArray) (k : Nat) : 0 ≤ octN s k ∧ octN s k < 256 := by
  unfold octN
  have := UInt8.toNat_lt (s.data.toList[k]?.getD 0)
  omega
theorem bytesD_at {s : ByteArray} {k : Nat} (h : k < s.size) : ((bytesD s).drop (k * 1)).take 1 = [.int .u8 (octN s k)] := by
  have hl : k < (bytesD s).length := by simpa [bytesD] using h
  rw [Nat.mul_one, List.drop_eq_getElem_cons hl, List.take_succ_cons, List.take_zero]
  have hk : k < s.data.toList.length := by simpa using h
  simp only [bytesD, List.getElem_map, octN, List.getElem?_eq_getElem hk, Option.getD_some]

theorem wi64 {n : Int} (h0 : -9223372036854775808 ≤ n) (h1 : n < 9223372036854775808) : IntKind.i64.wrap n = n := IntWalk.i64_in _ (by omega)

end Go.Proofs.YtaacgmcgmljjeaaGreat

/- The calculus of states: contracts that were proved in the other calculus; things that are known to the last cell; loops unrolled; built values. -/
namespace Go.Proofs.YtaacgmcgmljjeaaGreat
open Go.RowKit

/-- known to the last cell -/
def D.ex : D → Bool
  | .bool _ | .int .. | .str _ | .fn _ | .nilf | .nili | .nilp => true
  | _ => false
def D.val : D → Value
  | .bool b => .bool b
  | .int k n => .int k n
  | .str s => .string s
  | .fn f => .func (.func f) #[] #[]
  | .nilf => .nilFunc
  | .nili => .nilIface
  | .nilp => .pointer none
  | _ => Go.undef
def X.lex : X → Bool
  | .d v => v.ex
  | _ => false
def X.lval : X → Value
  | .d v => v.val
  | _ => Go.undef
def X.ex : X → Bool
  | .d v => v.ex
  | .agg cs => cs.all X.lex
  | _ => false
def X.val : X → Value
  | .d v => v.val
  | .agg cs => .agg (cs.map X.lval).toArray
  | _ => Go.undef
def X.exT : X → Bool
  | .tup xs => xs.all X.ex
  | x => x.ex
def X.valT : X → Value
  | .tup xs => .tuple (xs.map X.val).toArray
  | x => x.val

theorem RD.of_ex {w : World} {M : Nat → Prop} {d : D} (h : d.ex = true) : RD w M d.val d := by
  cases d <;> first | (simp [D.ex] at h; done) | constructor
theorem RD.is_ex {w : World} {M : Nat → Prop} {d : D} {v : Value} (hd : d.ex = true) (h : RD w M v d) : v = d.val := by
  cases h <;> first | rfl | (simp [D.ex] at hd; done)
theorem RV.of_lex {w : World} {M : Nat → Prop} {ρ : Rho} {x : X} (h : x.lex = true) : RV w M ρ x.lval x := by
  cases x <;> first | (simp [X.lex] at h; done) | exact .d (.of_ex h)
theorem RV.is_lex {w : World} {M : Nat → Prop} {ρ : Rho} {x : X} {v : Value} (hx : x.lex = true) (h : RV w M ρ v x) : v = x.lval := by
  cases x <;> first | (simp [X.lex] at hx; done) | (cases h with | d h => exact h.is_ex hx)
theorem RV.of_ex {w : World} {M : Nat → Prop} {ρ : Rho} {x : X} (h : x.ex = true) : RV w M ρ x.val x := by
  cases x <;> first | (simp [X.ex] at h; done) | exact .d (.of_ex h) | skip
  rename_i cs
  simp only [X.ex, List.all_eq_true] at h
  refine .agg _ _ (by simp) fun i v x hv hx => ?_
  rw [List.getElem?_toArray, List.getElem?_map, hx] at hv
  cases hv
  exact .of_lex (h x (List.mem_of_getElem? hx))
theorem RV.is_ex {w : World} {M : Nat → Prop} {ρ : Rho} {x : X} {v : Value} (hx : x.ex = true) (h : RV w M ρ v x) : v = x.val := by
  cases x <;> first | (simp [X.ex] at hx; done) | (cases h with | d h => exact h.is_ex hx) | skip
  rename_i cs
  simp only [X.ex, List.all_eq_true] at hx
  cases h with
  | agg vs _ hs h =>
    show Value.agg vs = Value.agg (cs.map X.lval).toArray
    congr 1
    apply Array.ext
    · simp [hs]
    · intro i h1 h2
      have hi : i < cs.length := by rw [← hs]; exact h1
      have := (h i vs[i] cs[i] (by simp [h1]) (by simp [hi])).is_lex (hx _ (List.getElem_mem hi))
      rw [this]
      simp
theorem RV.of_exT {w : World} {M : Nat → Prop} {ρ : Rho} {x : X} (h : x.exT = true) : RV w M ρ x.valT x := by
  by_cases hx : ∃ xs, x = .tup xs
  · obtain ⟨xs, rfl⟩ := hx
    simp only [X.exT, List.all_eq_true] at h
    refine .tup _ _ (by simp) fun i v x hv hx => ?_
    rw [List.getElem?_toArray, List.getElem?_map, hx] at hv
    cases hv
    exact .of_ex (h x (List.mem_of_getElem? hx))
  · have h1 : x.exT = x.ex := by cases x <;> first | rfl | exact absurd ⟨_, rfl⟩ hx
    have h2 : x.valT = x.val := by cases x <;> first | rfl | exact absurd ⟨_, rfl⟩ hx
    rw [h2]
    exact .of_ex (h1 ▸ h)

section
variable {P : Program}

theorem args_ex {w : World} {M : Nat → Prop} {ρ : Rho} {vs : Array Value} {xs : List X} (hx : xs.all X.ex = true) (hs : vs.size = xs.length) (h : ∀ (i : Nat) v x, vs[i]? = some v → xs[i]? = some x → RV w M ρ v x) : vs = (xs.map X.val).toArray := by
  rw [List.all_eq_true] at hx
  apply Array.ext
  · simp [hs]
  · intro i h1 h2
    have hi : i < xs.length := by rw [← hs]; exact h1
    have := (h i vs[i] xs[i] (by simp [h1]) (by simp [hi])).is_ex (hx _ (List.getElem_mem hi))
    rw [this]
    simp

/-- a contract of the other calculus, of arguments and answers that are known to the last cell -/
theorem PC_old {f : FuncId} {xs : List X} {r : X} (hx : xs.all X.ex = true) (hr : r.exT = true) (h : ∀ w, Calls P f (xs.map X.val).toArray w fun e w' => e = .returned r.valT ∧ Below w.heap.size w w') : PC P f xs r := by
  intro w M vs _ hs hv
  rw [args_ex hx hs hv]
  exact (h w).mono fun e w' ⟨he, hb⟩ => ⟨_, he, .of_exT hr, hb⟩

/-- of answers that are known to the last cell; the arguments given by a reading -/
theorem PC_old' {f : FuncId} {xs : List X} {r : X} (hr : r.exT = true) (h : ∀ w M vs, vs.size = xs.length → (∀ (i : Nat) v x, vs[i]? = some v → xs[i]? = some x → RV w M noRho v x) → Calls P f vs w fun e w' => e = .returned r.valT ∧ Below w.heap.size w w') : PC P f xs r := by
  intro w M vs _ hs hv
  exact (h w M vs hs hv).mono fun e w' ⟨he, hb⟩ => ⟨_, he, .of_exT hr, hb⟩

section
variable {o : Oper} {E : Env} {H : Heap} {R nw : List Nat}
/-- an operation on two things that are known to the last cell -/
theorem LT_binX {op : BinOp} {T U : TypeId} {y z : Operand} {x1 x2 r : X} (ho : o.op = .binOp op T y z U) (hy : opX E y = x1) (hz : opX E z = x2) (h1 : x1.ex = true) (h2 : x2.ex = true) (hr : r.ex = true)
    (hg : ∀ w, (eqGuard op T y z x1.val x2.val).run P w = .ok () w) (hrun : ∀ w, (binOp op T x1.val x2.val).run P w = .ok r.val w) : LT P o E H R nw [] r :=
  LT_read fun G ρ H1 a w hs hh _ => by
    have g1 := hh y (by simp [ho, Op.operands])
    have g2 := hh z (by simp [ho, Op.operands])
    rw [hy] at g1
    rw [hz] at g2
    refine ⟨r.val, ?_, .of_ex hr⟩
    simp [execOp, ho, g1.is_ex h1, g2.is_ex h2, hg, hrun]

theorem LT_lenW {y : Operand} {T e : TypeId} {n m : Nat} {c : List D} (ho : o.op = .call ⟨.builtin .len, #[y], #[T]⟩) (hT : P.underlying T = some (.slice e)) (hy : opX E y = .d (.slw n m c)) : LT P o E H R nw [] (.d (.int .i64 n)) :=
  LT_builtin ho fun G ρ H1 a w hs hh _ => by
    have g1 := hh y (by simp)
    rw [hy] at g1
    generalize he : a.eval y = v at g1
    cases g1 with
    | d h =>
      cases h
      refine ⟨.int .i64 n, fun cs => ⟨?_, .d (.int _ _)⟩⟩
      simp [builtin, Builtin.len_, he, run_underlying hT, goInt]

theorem LT_indexW {T e : TypeId} {n m : Nat} {c c' : List D} {i : TypeInfo} {k : IntKind} {j : Int} {y z : Operand} (ho : o.op = .indexAddr T y z) (hy : opX E y = .d (.slw n m c)) (hz : opX E z = .d (.int k j)) (hu : P.underlying T = some (.slice e)) (hi : P.info? e = some i) (hm : i.size = m) (h0 : 0 ≤ j) (h1 : j < n)
    (hc' : (c.drop (j.toNat * m)).take m = c') : LT P o E H R nw [] (.dptr c') :=
  LT_read fun G ρ H1 a w hs hh _ => by
    have g1 := hh y (by simp [ho, Op.operands])
    have g2 := hh z (by simp [ho, Op.operands])
    rw [hy] at g1
    rw [hz] at g2
    generalize he : a.eval y = v at g1
    cases g1 with
    | d h =>
      cases h with
      | slw ad _ cap _ _ g hlen hpos hr =>
        obtain ⟨b, off, rfl, hb, hmb, hg⟩ := hpos (by omega)
        have hjn : j.toNat < n := by omega
        have hin : ∀ i, i < m → j.toNat * m + i < n * m := fun i hi => by
          have : (j.toNat + 1) * m ≤ n * m := Nat.mul_le_mul_right _ (by omega)
          rw [Nat.succ_mul] at this
          omega
        refine ⟨.pointer (some ⟨b, off + j.toNat * m, none⟩), ?_, .dptr b _ c' (fun i => g (j.toNat * m + i)) hb hmb (fun i hi => ?_) fun i x hx => ?_⟩
        · simp [execOp, ho, he, g2.int_inv, Instr.indexAt, asIntOf, run_underlying hu, h0, h1, run_size hi, add_none, hm]
        · rw [Nat.add_assoc]
          refine hg _ (hin i ?_)
          rw [← hc', List.length_take] at hi
          omega
        · rw [← hc'] at hx
          have hi : i < m := by
            have := (List.getElem?_eq_some_iff.1 hx).1
            rw [List.length_take] at this
            omega
          rw [List.getElem?_take_of_lt hi, List.getElem?_drop] at hx
          exact hr _ x hx

/-! ### built values -/
def putL (xs : List X) (off : Nat) (ys : List X) : List X := xs.take off ++ ys ++ xs.drop (off + ys.length)
def fillX (place : Nat → Option (Nat × Nat)) (xs : List X) : List (Nat × X) → Option (List X)
  | [] => some xs
  | (i, x) :: rest =>
    match place i with
    | none => none
    | some (off, size) => if x.cells.length ≠ size || off + x.cells.length > xs.length || !x.cells.all X.leaf then none else fillX place (putL xs off x.cells) rest

theorem foldl_put (cs : List Value) (off : Nat) : ∀ (k : Nat) (acc : Array Value), ((cs.zipIdx k).foldl (fun cs (p : Value × Nat) => cs.setIfInBounds (off + p.2) p.1) acc).size = acc.size ∧
    ∀ (i : Nat), i < acc.size → ((cs.zipIdx k).foldl (fun cs (p : Value × Nat) => cs.setIfInBounds (off + p.2) p.1) acc)[i]? = if off + k ≤ i ∧ i < off + k + cs.length then cs[i - (off + k)]? else acc[i]? := by
  induction cs with
  | nil =>
    intro k acc
    refine ⟨rfl, fun i hi => ?_⟩
    rw [if_neg (fun h => by have := h.2; simp only [List.length_nil] at this; omega)]
    rfl
  | cons c cs ih =>
    intro k acc
    rw [List.zipIdx_cons, List.foldl_cons]
    obtain ⟨h1, h2⟩ := ih (k + 1) (acc.setIfInBounds (off + k) c)
    refine ⟨by rw [h1]; simp, fun i hi => ?_⟩
    rw [h2 i (by simpa using hi)]
    by_cases ha : off + k = i
    · subst ha
      rw [if_neg (by omega), if_pos (by simp)]
      simp [hi]
    · by_cases hb : off + (k + 1) ≤ i ∧ i < off + (k + 1) + cs.length
      · rw [if_pos hb, if_pos (by simp; omega), show i - (off + k) = (i - (off + (k + 1))) + 1 by omega]
        rfl
      · rw [if_neg hb, if_neg (by simp; omega)]
        rw [Array.getElem?_setIfInBounds_ne ha]

theorem fill_rel {w : World} {M : Nat → Prop} {ρ : Rho} {place : Nat → Option (Nat × Nat)} : ∀ (ps : List (Nat × Value)) (qs : List (Nat × X)) (cs : Array Value) (xs xs' : List X), cs.size = xs.length → (∀ (i : Nat) v x, cs[i]? = some v → xs[i]? = some x → RV w M ρ v x) →
    ps.map (·.1) = qs.map (·.1) → (∀ (i : Nat) p q, ps[i]? = some p → qs[i]? = some q → RV w M ρ p.2 q.2) → fillX place xs qs = some xs' →
    ∃ cs', Instr.fill place cs ps = some cs' ∧ cs'.size = xs'.length ∧ ∀ (i : Nat) v x, cs'[i]? = some v → xs'[i]? = some x → RV w M ρ v x
  | [], [], cs, xs, xs', hs, hr, _, _, hf => by cases hf; exact ⟨cs, rfl, hs, hr⟩
  | [], _ :: _, _, _, _, _, _, hk, _, _ => by cases hk
  | _ :: _, [], _, _, _, _, _, hk, _, _ => by cases hk
  | (i, v) :: ps, (j, x) :: qs, cs, xs, xs', hs, hr, hk, hp, hf => by
    simp only [List.map_cons, List.cons.injEq] at hk
    obtain ⟨rfl, hk⟩ := hk
    unfold fillX at hf
    unfold Instr.fill
    cases hpl : place i with
    | none => rw [hpl] at hf; cases hf
    | some q =>
      obtain ⟨off, size⟩ := q
      rw [hpl] at hf
      simp only at hf ⊢
      split at hf
      · cases hf
      · rename_i hc
        simp only [Bool.or_eq_true, Bool.not_eq_true', decide_eq_true_eq, not_or, ne_eq, Decidable.not_not, Nat.not_lt, Bool.not_eq_false] at hc
        obtain ⟨⟨hc1, hc2⟩, hc3⟩ := hc
        have hv : RV w M ρ v x := hp 0 (i, v) (i, x) rfl rfl
        obtain ⟨d1, d2, d3⟩ := hv.cells hc3
        rw [if_neg (by simp [d1, hc1, hs]; omega)]
        have hfold : (v.cells.zipIdx.foldl (fun cs (p : Value × Nat) => cs.setIfInBounds (off + p.2) p.1) cs) = (v.cells.toList.zipIdx 0).foldl (fun cs (p : Value × Nat) => cs.setIfInBounds (off + p.2) p.1) cs := by
          rw [← Array.foldl_toList]
          simp
        obtain ⟨e1, e2⟩ := foldl_put v.cells.toList off 0 cs
        refine fill_rel ps qs _ (putL xs off x.cells) xs' ?_ ?_ hk (fun i p q h1 h2 => hp (i + 1) p q h1 h2) hf
        · show (v.cells.zipIdx.foldl (fun cs (p : Value × Nat) => cs.setIfInBounds (off + p.2) p.1) cs).size = _
          rw [hfold, e1, hs]
          unfold putL
          simp
          omega
        · intro k u y hu hy
          change (v.cells.zipIdx.foldl (fun cs (p : Value × Nat) => cs.setIfInBounds (off + p.2) p.1) cs)[k]? = some u at hu
          rw [hfold] at hu
          have hkl : k < cs.size := by
            have := (Array.getElem?_eq_some_iff.1 hu).1
            rw [e1] at this; exact this
          rw [e2 k hkl] at hu
          unfold putL at hy
          rw [List.append_assoc] at hy
          have htl : (xs.take off).length = off := by simp; omega
          have hvl : v.cells.toList.length = x.cells.length := by simpa using d1
          by_cases h1 : k < off
          · rw [if_neg (by omega)] at hu
            rw [List.getElem?_append_left (by omega), List.getElem?_take_of_lt h1] at hy
            exact hr k u y hu hy
          · rw [List.getElem?_append_right (by omega), htl] at hy
            by_cases h2 : k - off < x.cells.length
            · rw [if_pos (by rw [hvl]; omega)] at hu
              rw [List.getElem?_append_left h2] at hy
              exact d3 (k - off) u y (by simpa using hu) hy
            · rw [if_neg (by rw [hvl]; omega)] at hu
              rw [List.getElem?_append_right (by omega), List.getElem?_drop] at hy
              exact hr k u y hu (by rw [← hy]; congr 1; omega)

theorem LT_build {T : TypeId} {ps : Array (Nat × Operand)} {d : TypeDesc} {i : TypeInfo} {z : Value} {xs : List X} {qs : List (Nat × X)} (place : Nat → Option (Nat × Nat)) (ho : o.op = .build T ps) (hu : P.underlying T = some d) (hi : P.info? T = some i) (hz : i.zero = some z) (hqs : ps.toList.map (fun p => (p.1, opX E p.2)) = qs)
    (hpl : (∃ fs, d = .struct fs ∧ place = (fun j => (fs.map fun f => (f.offset, P.cellsOf f.type))[j]?) ∧ (fs.toList.all fun f => (P.info? f.type).isSome) = true) ∨ (∃ n e ie, d = .array n e ∧ P.info? e = some ie ∧ place = fun j => some (j * ie.size, ie.size)))
    (hf : fillX place (z.cells.toList.map cL) qs = some xs) : LT P o E H R nw [] (.agg xs) :=
  LT_read fun G ρ H1 a w hs hh _ => by
    have hrel := fill_rel (w := w) (M := G.M ρ H1) (ρ := ρ) (place := place) (ps.toList.map fun p => (p.1, a.eval p.2)) qs z.cells (z.cells.toList.map cL) xs (by simp) (fun j v x hv hx => by
      rw [List.getElem?_map, Array.getElem?_toList, hv] at hx
      cases hx
      exact cL_rel _ _ _ _) (by rw [← hqs]; simp) (fun j p q hp hq => by
        rw [← hqs, List.getElem?_map] at hq
        rw [List.getElem?_map] at hp
        cases hx : ps.toList[j]? with
        | none => rw [hx] at hp; cases hp
        | some y =>
          rw [hx] at hp hq
          cases hp; cases hq
          refine hh y.2 ?_
          simp only [ho, Op.operands, List.mem_map]
          exact ⟨y, List.mem_of_getElem? hx, rfl⟩) hf
    obtain ⟨cs', h1, h2, h3⟩ := hrel
    refine ⟨.agg cs', ?_, .agg _ _ h2 h3⟩
    have hpt : (ps.map fun (i, x) => (i, a.eval x)).toList = ps.toList.map fun p => (p.1, a.eval p.2) := by simp
    rcases hpl with ⟨fs, rfl, rfl, hall⟩ | ⟨n, e, ie, rfl, hie, rfl⟩
    · rw [List.all_eq_true] at hall
      have hm : (fs.mapM fun f => (do pure (f.offset, ← sizeOf f.type) : Sem (Nat × Nat))).run P w = .ok (fs.map fun f => (f.offset, P.cellsOf f.type)) w := by
        rw [Array.mapM_eq_mapM_toList]
        have key : ∀ l : List Field, (∀ f, f ∈ l → (P.info? f.type).isSome = true) → (l.mapM fun f => (do pure (f.offset, ← sizeOf f.type) : Sem (Nat × Nat))).run P w = .ok (l.map fun f => (f.offset, P.cellsOf f.type)) w := by
          intro l
          induction l with
          | nil => intro _; rfl
          | cons f l ih =>
            intro hl
            have hf := hl f (by simp)
            cases hq : P.info? f.type with
            | none => rw [hq] at hf; cases hf
            | some q =>
              rw [List.mapM_cons]
              simp only [Sem.run_bind, run_size hq, Result.andThen_ok, Sem.run_pure, ih (fun f h => hl f (by simp [h])), List.map_cons]
              simp [Program.cellsOf, hq]
        simp only [Sem.run_map, key fs.toList hall, Result.andThen_ok]
        congr 1
        apply Array.ext'
        simp
      simp only [execOp, ho, Instr.build, Sem.run_bind, run_zero hi hz, run_underlying hu, Result.andThen_ok, hm, hpt, h1, Sem.run_pure]
    · simp only [execOp, ho, Instr.build, Sem.run_bind, run_zero hi hz, run_underlying hu, Result.andThen_ok, run_size hie, hpt, h1, Sem.run_pure]

end

section
variable {G : Ctx} {N : Nat} {s : St} {Q : Exit → St → Prop}
/-- at most n rounds of a loop -/
def awRounds (P : Program) (G : Ctx) (N : Nat) (c : Code) (Q : Exit → St → Prop) : Nat → St → Prop
  | 0, _ => False
  | n + 1, s => AW P G N c s (aft Q (awRounds P G N c Q n))

theorem aw_rounds {c : Code} (n : Nat) (h : awRounds P G N c Q n s) : AW P G N (.loop c) s Q := by
  intro ρ a w hr K hK
  refine wp_loop_rounds n ?_
  induction n generalizing s ρ a w with
  | zero => exact h.elim
  | succ n ih =>
    rw [rounds_succ]
    refine h ρ a w hr _ fun ex s' ρ' a' w' hq hr' => ?_
    cases ex <;> try exact hK _ s' ρ' a' w' hq hr'
    exact ih hq ρ' a' w' hr'
end
end
end Go.Proofs.YtaacgmcgmljjeaaGreat

/- The calculus of states: slices that are written out; strings of octets; slices that grow. -/
namespace Go.Proofs.YtaacgmcgmljjeaaGreat
open Go.RowKit

section
variable {P : Program} {o : Oper} {E : Env} {H : Heap} {R nw : List Nat}

/-- the cells of parts that stand one behind the other -/
theorem fill_row {w : World} {M : Nat → Prop} {ρ : Rho} (size : Nat) : ∀ (ps : List (Nat × Value)) (xs : List X) (k : Nat) (cs : Array Value), ps.map (·.1) = List.range' k xs.length → (∀ (i : Nat) p x, ps[i]? = some p → xs[i]? = some x → RV w M ρ p.2 x ∧ x.cells.all X.leaf = true ∧ x.cells.length = size) → cs.size = (k + xs.length) * size →
    ∃ cs', Instr.fill (fun i => some (i * size, size)) cs ps = some cs' ∧ cs'.size = cs.size ∧ (∀ (i : Nat), i < k * size → cs'[i]? = cs[i]?) ∧ ∀ (i : Nat) v y, cs'[k * size + i]? = some v → (xs.flatMap X.cells)[i]? = some y → RV w M ρ v y
  | [], [], k, cs, _, _, _ => ⟨cs, rfl, rfl, fun _ _ => rfl, fun i v y _ h => by simp at h⟩
  | [], _ :: _, _, _, h, _, _ => by simp at h
  | _ :: _, [], _, _, h, _, _ => by simp at h
  | (i, v) :: ps, x :: xs, k, cs, hk, hr, hsz => by
    simp only [List.map_cons, List.length_cons, List.range'_succ, List.cons.injEq] at hk
    obtain ⟨rfl, hk⟩ := hk
    obtain ⟨h1, h2, h3⟩ := hr 0 (i, v) x rfl rfl
    obtain ⟨d1, d2, d3⟩ := h1.cells h2
    unfold Instr.fill
    simp only
    have hmul : (i + (x :: xs).length) * size = i * size + size + xs.length * size := by
      rw [List.length_cons, ← Nat.add_assoc, Nat.add_mul, Nat.add_mul]; omega
    have hle : i * size + size ≤ (i + (xs.length + 1)) * size := by
      rw [List.length_cons] at hmul
      rw [hmul]; omega
    rw [if_neg (by simp [d1, h3, hsz]; omega)]
    have hfold : (v.cells.zipIdx.foldl (fun cs (p : Value × Nat) => cs.setIfInBounds (i * size + p.2) p.1) cs) = (v.cells.toList.zipIdx 0).foldl (fun cs (p : Value × Nat) => cs.setIfInBounds (i * size + p.2) p.1) cs := by
      rw [← Array.foldl_toList]
      simp
    obtain ⟨e1, e2⟩ := foldl_put v.cells.toList (i * size) 0 cs
    rw [← hfold] at e1 e2
    have hvl : v.cells.toList.length = size := by simp [d1, h3]
    obtain ⟨cs', f1, f2, f3, f4⟩ := fill_row size ps xs (i + 1) (v.cells.zipIdx.foldl (fun cs (p : Value × Nat) => cs.setIfInBounds (i * size + p.2) p.1) cs) hk (fun j p y hp hy => hr (j + 1) p y hp hy) (by
      rw [e1, hsz, List.length_cons]; congr 1; omega)
    have hs1 : (i + 1) * size = i * size + size := by rw [Nat.add_mul]; omega
    refine ⟨cs', f1, f2.trans e1, fun j hj => ?_, fun j u y hu hy => ?_⟩
    · rw [f3 j (by omega), e2 j (by rw [hsz, hmul]; omega), if_neg (by omega)]
    · rw [List.flatMap_cons] at hy
      by_cases hj : j < size
      · rw [List.getElem?_append_left (by omega)] at hy
        rw [f3 _ (by omega), e2 _ (by rw [hsz, hmul]; omega), if_pos (by omega)] at hu
        refine d3 j u y ?_ hy
        rw [← Array.getElem?_toList, ← hu]
        congr 1
        omega
      · rw [List.getElem?_append_right (by omega), h3] at hy
        refine f4 (j - size) u y ?_ hy
        rw [← hu]
        congr 1
        omega

theorem run_buildSlice {T e : TypeId} {ie : TypeInfo} {z : Value} {w : World} {M : Nat → Prop} {ρ : Rho} {n : Nat} {ps : Array (Nat × Value)} {xs : List X} (hu : P.underlying T = some (.slice e)) (hi : P.info? e = some ie) (hz : ie.zero = some z) (hzs : z.cells.size = ie.size)
    (hn : xs.length = n) (hbig : n * ie.size ≤ 2 ^ 24) (hps : ps.toList.map (·.1) = List.range' 0 xs.length) (hr : ∀ (i : Nat) p x, ps.toList[i]? = some p → xs[i]? = some x → RV w M ρ p.2 x ∧ x.cells.all X.leaf = true ∧ x.cells.length = ie.size) :
    ∃ cells : Array Value, (Instr.buildSlice T n ps).run P w = .ok (.slice (some ⟨w.heap.size, 0, none⟩) n n) (w.alloc (.cells cells e)) ∧ cells.size = n * ie.size ∧ ∀ (i : Nat) v y, cells[i]? = some v → (xs.flatMap X.cells)[i]? = some y → RV w M ρ v y := by
  let zs : Array Value := if n * ie.size = 0 then #[] else z.cells
  obtain ⟨cs', f1, f2, _, f4⟩ := fill_row (w := w) (M := M) (ρ := ρ) ie.size ps.toList xs 0 ((Array.range (n * ie.size)).map (zs[· % zs.size]!)) hps hr (by simp [hn])
  refine ⟨cs', ?_, by rw [f2]; simp, fun i v y hv hy => f4 i v y (by rw [Nat.zero_mul, Nat.zero_add]; exact hv) hy⟩
  have hb : ¬ (n * ie.size > 2 ^ 24) := by omega
  unfold Instr.buildSlice
  by_cases hz0 : n * ie.size = 0
  · have hzs' : zs = #[] := if_pos hz0
    rw [hzs'] at f1
    simp only [Sem.run_bind, run_underlying hu, Result.andThen_ok, run_size hi, if_neg hb, if_pos hz0, Sem.run_pure, f1, newRow, run_newObj]
    rfl
  · have hzs' : zs = z.cells := if_neg hz0
    rw [hzs'] at f1
    simp only [Sem.run_bind, run_underlying hu, Result.andThen_ok, run_size hi, if_neg hb, if_neg hz0, run_zero hi hz, Sem.run_pure, f1, newRow, run_newObj]
    rfl

/-- the cells of things that are data -/
def dcells : X → Option (List D)
  | .d v => some [v]
  | .agg cs => cs.mapM fun | .d v => some v | _ => none
  | _ => none

theorem LT_buildSliceD {T e : TypeId} {ie : TypeInfo} {z : Value} {n : Nat} {ps : Array (Nat × Operand)} (xs : List X) (c : List D) (ho : o.op = .buildSlice T n ps) (hu : P.underlying T = some (.slice e)) (hi : P.info? e = some ie) (hz : ie.zero = some z) (hzs : z.cells.size = ie.size) (m : Nat) (hm : ie.size = m) (h0 : 0 < n) (hm0 : 0 < m)
    (hxs : ps.toList.map (fun p => opX E p.2) = xs) (hn : xs.length = n) (hbig : n * m ≤ 2 ^ 24) (hps : ps.toList.map (·.1) = List.range' 0 n) (hall : xs.all (fun x => x.cells.all X.leaf && x.cells.length == m) = true) (hc : xs.flatMap X.cells = c.map X.d) : LT P o E H R nw [] (.d (.sl n m c)) :=
  LT_grow fun G ρ H1 a w hs hh => by
    have hr : ∀ (i : Nat) p x, (ps.toList.map fun p => (p.1, a.eval p.2))[i]? = some p → xs[i]? = some x → RV w (G.M ρ H1) ρ p.2 x ∧ x.cells.all X.leaf = true ∧ x.cells.length = ie.size := by
      intro i p x hp hx
      rw [List.all_eq_true] at hall
      have := hall x (List.mem_of_getElem? hx)
      rw [Bool.and_eq_true] at this
      refine ⟨?_, this.1, by rw [hm]; simpa using this.2⟩
      rw [← hxs, List.getElem?_map] at hx
      rw [List.getElem?_map] at hp
      cases hq : ps.toList[i]? with
      | none => rw [hq] at hp; cases hp
      | some y =>
        rw [hq] at hp hx
        cases hp; cases hx
        refine hh y.2 ?_
        simp only [ho, Op.operands, List.mem_map]
        exact ⟨y, List.mem_of_getElem? hq, rfl⟩
    have hpt : (ps.map fun (i, x) => (i, a.eval x)).toList = ps.toList.map fun p => (p.1, a.eval p.2) := by simp
    obtain ⟨cells, g1, g2, g3⟩ := run_buildSlice (ps := ps.map fun (i, x) => (i, a.eval x)) hu hi hz hzs hn (by rw [hm]; exact hbig) (by rw [hpt, List.map_map, hn]; exact hps) (fun i p x hp hx => hr i p x (by rw [← hpt]; exact hp) hx)
    have hlen : c.length = n * m := by
      have h1 := congrArg List.length hc
      rw [List.length_map] at h1
      rw [← h1]
      have key : ∀ l : List X, l.all (fun x => x.cells.all X.leaf && x.cells.length == m) = true → (l.flatMap X.cells).length = l.length * m := by
        intro l
        induction l with
        | nil => intro _; simp
        | cons y l ih =>
          intro hl
          rw [List.all_cons, Bool.and_eq_true, Bool.and_eq_true] at hl
          rw [List.flatMap_cons, List.length_append, ih hl.2, List.length_cons, Nat.add_mul]
          have := hl.1.2
          simp only [beq_iff_eq] at this
          omega
      rw [key xs hall, hn]
    have hb : Below w.heap.size w (w.alloc (.cells cells e)) := (Below.refl _ _).alloc (Nat.le_refl _) _
    refine ⟨.slice (some ⟨w.heap.size, 0, none⟩) n n, w.alloc (.cells cells e), by simp only [execOp, ho, Sem.run_bind, g1, Result.andThen_ok, Sem.run_pure], hb, .d ?_⟩
    have hh1 := heap_new w (.cells cells e)
    refine .sl _ 0 n n m c (fun i => cells[i]?.getD Go.undef) h0 (Nat.le_refl _) hlen (lt_of_heap hh1) (fun hm => absurd (hs.M_lt hm) (by omega)) (fun i hi => ?_) fun i x hx => ?_
    · have hi' : i < cells.size := by rw [g2, hm]; exact hi
      simp only [World.cell?, hh1, Nat.zero_add]
      simp [hi']
    · have hi : i < c.length := (List.getElem?_eq_some_iff.1 hx).1
      have hi' : i < cells.size := by rw [g2, hm]; omega
      have h2 := g3 i cells[i] (.d x) (by simp [hi']) (by rw [hc, List.getElem?_map, hx]; rfl)
      have h3 := h2.later (later_grow hb) (Ext.refl _)
      rw [Array.getElem?_eq_getElem hi', Option.getD_some]
      generalize cells[i] = q at h3
      cases h3 with | d h => exact h

/-- the string of octets -/
def strD (ns : List Int) : ByteArray := ⟨(ns.map fun n => UInt8.ofNat n.toNat).toArray⟩
def u8D (ns : List Int) : List D := ns.map (.int .u8)

theorem foldl_push (ns : List Int) : ∀ acc : ByteArray, ns.foldl (fun r n => r.push (UInt8.ofNat n.toNat)) acc = ⟨acc.data ++ (ns.map fun n => UInt8.ofNat n.toNat).toArray⟩ := by
  induction ns with
  | nil => intro acc; simp
  | cons n ns ih =>
    intro acc
    rw [List.foldl_cons, ih]
    simp [ByteArray.push]

theorem LT_strOf {S T e : TypeId} {n : Nat} {y : Operand} (ns : List Int) (s : ByteArray) (ho : o.op = .convert S T y) (hS : P.underlying S = some (.slice e)) (hT : P.underlying T = some .string) (he : P.underlying e = some (.int .u8)) (hy : opX E y = .d (.sl n 1 (u8D ns))) (hs' : strD ns = s) : LT P o E H R nw [] (.d (.str s)) :=
  LT_read fun G ρ H1 a w hs hh _ => by
    have h1 := hh y (by simp [ho, Op.operands])
    rw [hy] at h1
    obtain ⟨ad, cap, hv, _, hlen, hpos⟩ := h1.sl_inv
    refine ⟨.string s, ?_, .d (.str s)⟩
    have hln : ns.length = n := by simpa [u8D] using hlen
    rcases Nat.eq_zero_or_pos n with h0 | h0
    · subst h0
      have hnil : ns = [] := List.eq_nil_of_length_eq_zero hln
      subst hnil
      cases ad with
      | none => simp [execOp, ho, hv, convert, run_underlying hS, run_underlying hT, run_underlying he, Conv.bytesToString, ← hs']; rfl
      | some ad =>
        have hl := run_loadCells (P := P) w ad 0 (fun _ => Go.undef) (fun j hj => by omega)
        simp [execOp, ho, hv, convert, run_underlying hS, run_underlying hT, run_underlying he, Conv.bytesToString, hl, ← hs']
        rfl
    · obtain ⟨b, off, g, rfl, _, _, hg, hr⟩ := hpos h0
      have hl := run_loadCells (P := P) w ⟨b, off, none⟩ n g (fun j hj => by rw [add_none]; exact hg j (by omega))
      have hcells : ((List.range n).map g) = ns.map (.int .u8) := by
        refine List.ext_getElem (by simp [hln]) fun i h2 h3 => ?_
        have hi : i < ns.length := by simpa using h3
        have := hr i (.int .u8 ns[i]) (by simp [u8D, hi])
        rw [List.getElem_map, List.getElem_range, List.getElem_map]
        generalize g i = u at this
        cases this
        rfl
      rw [hcells] at hl
      have hrun := run_bytesToString (P := P) w ⟨b, off, none⟩ n cap ns (by rw [hl])
      have hs2 : (ns.foldl (fun r n => r.push (UInt8.ofNat n.toNat)) ByteArray.empty) = s := by
        rw [foldl_push, ← hs']
        show (⟨(ByteArray.empty).data ++ _⟩ : ByteArray) = _
        rw [show (ByteArray.empty).data = #[] from rfl, Array.empty_append]
        rfl
      rw [hs2] at hrun
      simp only [execOp, ho, hv, Sem.run_bind, run_convert_bytes_string w S T e _ _ _ hS he hT, hrun, Result.andThen_ok, Sem.run_pure]

end
end Go.Proofs.YtaacgmcgmljjeaaGreat

/- The calculus of states: slices of the call's own that grow by append; a slice that is done turns into data; names are given anew. -/
namespace Go.Proofs.YtaacgmcgmljjeaaGreat
open Go.RowKit

theorem idsL_d (c : List D) : X.idsL (c.map X.d) = [] := by
  induction c with
  | nil => rfl
  | cons x xs ih => simpa [X.idsL, X.ids] using ih

theorem consE {a b : X} {l l' : List X} (h : a = b) (h' : l = l') : a :: l = b :: l' := by rw [h, h']

theorem RD.one {w : World} {M : Nat → Prop} {v : Value} {d : D} (h : RD w M v d) : v.oneCell' = true := by cases h <;> rfl

/-- a name is let go -/
theorem Sat.drop {G : Ctx} {ρ : Rho} {H : Heap} {w : World} (hs : Sat G ρ H w) (id : Nat) : Sat G ρ ((id, none) :: H) w ∧ Later w (G.M ρ H) w (G.M ρ ((id, none) :: H)) := by
  have hlk : ∀ j, look ((id, none) :: H) j ≠ none → look H j ≠ none := by
    intro j h
    by_cases hj : j = id
    · subst hj; exact absurd (by simp [look]) h
    · rwa [show look ((id, none) :: H) j = look H j by simp [look, Ne.symm hj]] at h
  have hlo : ∀ j o, look ((id, none) :: H) j = some o → look H j = some o := by
    intro j o h
    by_cases hj : j = id
    · subst hj; simp [look] at h
    · rwa [show look ((id, none) :: H) j = look H j by simp [look, Ne.symm hj]] at h
  have hl : Later w (G.M ρ H) w (G.M ρ ((id, none) :: H)) := ⟨Nat.le_refl _, fun _ _ _ => rfl, fun b _ h => h.imp (fun h => h) fun ⟨j, o, c, h1, h2⟩ => ⟨j, o, c, hlo j o h1, h2⟩⟩
  refine ⟨⟨hs.below, hs.base, fun i j b c c' h1 h2 h3 h4 => hs.inj i j b c c' (hlk i h1) (hlk j h2) h3 h4, fun j o hj => ?_⟩, hl⟩
  rcases hs.obj j o (hlo j o hj) with hz | ⟨b, cap, cs, h1, h2, h3, h4, h5, h6⟩
  · exact .inl hz
  · exact .inr ⟨b, cap, cs, h1, h2, h3, h4, h5, fun i v x hv hx => (h6 i v x hv hx).later hl (Ext.refl _)⟩

/-- what a name that is let go had named may turn no more -/
theorem Sat.still {G : Ctx} {ρ : Rho} {H : Heap} {w : World} (hs : Sat G ρ H w) {id b cap : Nat} (hl : look H id ≠ none) (hr : ρ id = some (b, cap)) (hb : G.w0.heap.size ≤ b ∨ G.F b) : ¬ G.M ρ ((id, none) :: H) b := by
  rintro (h | ⟨j, o, c, h1, h2⟩)
  · rcases hb with hb | hb
    · have := G.hM b h; omega
    · exact G.hF b hb h
  · by_cases hj : j = id
    · subst hj; simp [look] at h1
    · rw [show look ((id, none) :: H) j = look H j by simp [look, Ne.symm hj]] at h1
      exact hj (hs.inj j id b c cap (by rw [h1]; simp) hl h2 hr)

/-- what the name id had named gets the name id' -/
theorem Sat.move {G : Ctx} {ρ : Rho} {H : Heap} {w : World} (hs : Sat G ρ H w) {id id' b cap : Nat} {ob : Ob} (hl : look H id = some ob) (hr : ρ id = some (b, cap)) (hn : ρ id' = none) :
    ∃ ρ' : Rho, Ext ρ ρ' ∧ (∀ j, ρ' j ≠ none → ρ j ≠ none ∨ j = id') ∧ ρ' id' = some (b, cap) ∧ G.M ρ' ((id', some ob) :: (id, none) :: H) = G.M ρ H ∧ Sat G ρ' ((id', some ob) :: (id, none) :: H) w := by
  have hne : id' ≠ id := by rintro rfl; rw [hr] at hn; cases hn
  let ρ' : Rho := fun j => if j = id' then some (b, cap) else ρ j
  have he : Ext ρ ρ' := fun j p hj => by
    show (if j = id' then _ else _) = _
    rw [if_neg (by rintro rfl; rw [hn] at hj; cases hj)]
    exact hj
  have k1 : ρ' id' = some (b, cap) := if_pos rfl
  have hold : ∀ j, j ≠ id' → ρ' j = ρ j := fun j h => if_neg h
  have hlk : ∀ j, j ≠ id' → j ≠ id → look ((id', some ob) :: (id, none) :: H) j = look H j := fun j h1 h2 => by simp [look, Ne.symm h1, Ne.symm h2]
  have hl1 : look ((id', some ob) :: (id, none) :: H) id' = some ob := by simp [look]
  have hl2 : look ((id', some ob) :: (id, none) :: H) id = none := by simp [look, hne]
  have hM : G.M ρ' ((id', some ob) :: (id, none) :: H) = G.M ρ H := by
    funext c
    unfold Ctx.M Mt
    refine propext (or_congr Iff.rfl ⟨?_, ?_⟩)
    · rintro ⟨j, o1, c1, h1, h2⟩
      by_cases hj : j = id'
      · subst hj; rw [k1] at h2; cases h2; exact ⟨id, ob, cap, hl, hr⟩
      · by_cases hj2 : j = id
        · subst hj2; rw [hl2] at h1; cases h1
        · rw [hlk j hj hj2] at h1; rw [hold j hj] at h2; exact ⟨j, o1, c1, h1, h2⟩
    · rintro ⟨j, o1, c1, h1, h2⟩
      by_cases hj2 : j = id
      · subst hj2; rw [hr] at h2; cases h2; exact ⟨id', ob, cap, hl1, k1⟩
      · by_cases hj : j = id'
        · subst hj; rw [hn] at h2; cases h2
        · exact ⟨j, o1, c1, by rw [hlk j hj hj2]; exact h1, by rw [hold j hj]; exact h2⟩
  have hlat : Later w (G.M ρ H) w (G.M ρ' ((id', some ob) :: (id, none) :: H)) := by rw [hM]; exact Later.refl _ _
  refine ⟨ρ', he, fun j hj => ?_, k1, hM, ⟨hs.below, hs.base.trans he, ?_, ?_⟩⟩
  · by_cases h : j = id'
    · exact .inr h
    · exact .inl (by rwa [hold j h] at hj)
  · intro i j c c1 c2 h1 h2 h3 h4
    have key : ∀ k d, look ((id', some ob) :: (id, none) :: H) k ≠ none → ρ' k = some (c, d) → (k = id' ∧ c = b) ∨ (k ≠ id' ∧ k ≠ id ∧ look H k ≠ none ∧ ρ k = some (c, d)) := by
      intro k d g1 g2
      by_cases e1 : k = id'
      · subst e1; rw [k1] at g2; cases g2; exact .inl ⟨rfl, rfl⟩
      · by_cases e2 : k = id
        · subst e2; exact absurd hl2 g1
        · rw [hlk k e1 e2] at g1; rw [hold k e1] at g2; exact .inr ⟨e1, e2, g1, g2⟩
    rcases key i c1 h1 h3 with ⟨a1, a2⟩ | ⟨a1, a2, a3, a4⟩ <;> rcases key j c2 h2 h4 with ⟨b1, b2⟩ | ⟨b1, b2, b3, b4⟩
    · rw [a1, b1]
    · subst a2; exact absurd (hs.inj j id c c2 cap b3 (by rw [hl]; simp) b4 hr) b2
    · subst b2; exact absurd (hs.inj i id c c1 cap a3 (by rw [hl]; simp) a4 hr) a2
    · exact hs.inj i j c c1 c2 a3 b3 a4 b4
  · intro j o1 hj
    by_cases e1 : j = id'
    · subst e1
      rw [hl1] at hj; cases hj
      rcases hs.obj id ob hl with ⟨_, z⟩ | ⟨b', cap', cs, h1, h2, h3, h4, h5, h6⟩
      · rw [hr] at z; cases z
      · rw [hr] at h1; cases h1
        exact .inr ⟨b, cap, cs, k1, h2, h3, h4, h5, fun i v x hv hx => (h6 i v x hv hx).later hlat he⟩
    · by_cases e2 : j = id
      · subst e2; rw [hl2] at hj; cases hj
      · rw [hlk j e1 e2] at hj
        rcases hs.obj j o1 hj with ⟨z1, z2⟩ | ⟨b', cap', cs, h1, h2, h3, h4, h5, h6⟩
        · exact .inl ⟨z1, (hold j e1).trans z2⟩
        · exact .inr ⟨b', cap', cs, he _ _ h1, h2, h3, h4, h5, fun i v x hv hx => (h6 i v x hv hx).later hlat he⟩

theorem Turn.of_grown {w w' : World} {b : Nat} (h : Turn (· = b) w w') : Turn (· = b) w w' := h

section
variable {P : Program} {o : Oper} {E : Env} {H : Heap} {R nw : List Nat}

theorem cells_new {w : World} {M : Nat → Prop} {ρ : Rho} {old news rest : List Value} {cs : List X} {c : List D} (ho : old.length = cs.length) (h1 : ∀ (i : Nat) v x, old[i]? = some v → cs[i]? = some x → RV w M ρ v x)
    (hn : news.length = c.length) (h2 : ∀ (i : Nat) v x, news[i]? = some v → c[i]? = some x → RD w M v x) (i : Nat) (v : Value) (x : X) (hv : (old ++ news ++ rest)[i]? = some v) (hx : (cs ++ c.map X.d)[i]? = some x) : RV w M ρ v x := by
  rw [List.append_assoc] at hv
  by_cases hi : i < cs.length
  · rw [List.getElem?_append_left (by omega)] at hv
    rw [List.getElem?_append_left hi] at hx
    exact h1 i v x hv hx
  · rw [List.getElem?_append_right (by omega), ho] at hv
    rw [List.getElem?_append_right (by omega), List.getElem?_map] at hx
    cases hc : c[i - cs.length]? with
    | none => rw [hc] at hx; cases hx
    | some d =>
      rw [hc] at hx
      cases hx
      have : i - cs.length < c.length := (List.getElem?_eq_some_iff.1 hc).1
      rw [List.getElem?_append_left (by omega)] at hv
      exact .d (h2 _ v d hv hc)

theorem LT_append {t e : TypeId} {i : TypeInfo} {z : Value} {y q : Operand} {id n k m : Nat} {ob : Ob} {c : List D} (id' : Nat) (ho : o.op = .call ⟨.builtin .append, #[y, q], #[t, t]⟩) (ht : P.underlying t = some (.slice e)) (hi : P.info? e = some i) (hz : i.zero = some z) (hm : i.size = m) (hzs : z.cells.size = m) (hm0 : 0 < m)
    (hy : opX E y = .own id n m) (hq : opX E q = .d (.sl k m c)) (hl : look H id = some ob) (hR : id ∈ R) (hid : id' ∈ nw) (hT : ob.T = e) (he : ob.e = m) (hcs : ob.cs.length = n * m) (hk : 0 < k) (hbig : n + k ≤ 9223372036854775807) (hby : (n + k) * i.bytes ≤ 140737488355328) (cs' : List X) (hcs' : ob.cs ++ c.map .d = cs') (n' : Nat) (hn' : n + k = n') :
    LT P o E H R nw [(id', some ⟨e, m, cs'⟩), (id, none)] (.own id' n' m) := by
  intro G ρ H1 a w hs hh hRR hnw next Q hK
  have g1 := hh y (by simp [ho, Op.operands, Call.operands])
  have g2 := hh q (by simp [ho, Op.operands, Call.operands])
  rw [hy] at g1
  rw [hq] at g2
  subst hn' hcs' hm
  have hl1 : look H1 id = some ob := (hRR id hR).trans hl
  have hnone := hnw id' hid
  generalize hey : a.eval y = vy at g1
  obtain ⟨aq, capq, heq, hkcap, hclen, hpos⟩ := g2.sl_inv
  obtain ⟨b2, off2, g, rfl, hb2, hm2, hg, hrr⟩ := hpos hk
  let news : List Value := (List.range (k * i.size)).map g
  have hnl : news.length = k * i.size := by simp [news]
  have hnews : ∀ (w' : World), w'.heap[b2]? = w.heap[b2]? → ∀ j u, news[j]? = some u → w'.cell? ((⟨b2, off2, none⟩ : Addr).add j) = some u := by
    intro w' hw' j u hu
    have hj : j < k * i.size := by rw [← hnl]; exact (List.getElem?_eq_some_iff.1 hu).1
    have : u = g j := by simpa [news, hj] using hu.symm
    rw [this, add_none, cell_eq hw']
    exact hg j hj
  have hnd : ∀ (j : Nat) u x, news[j]? = some u → c[j]? = some x → RD w (G.M ρ H1) u x := by
    intro j u x hu hx
    have hj : j < k * i.size := by rw [← hnl]; exact (List.getElem?_eq_some_iff.1 hu).1
    have : u = g j := by simpa [news, hj] using hu.symm
    rw [this]
    exact hrr j x hx
  have hone : ∀ u ∈ news, u.oneCell' = true := by
    intro u hu
    obtain ⟨j, hj, he⟩ := List.mem_iff_getElem.1 hu
    have hjc : j < c.length := by rw [hclen, ← hnl]; exact hj
    exact (hnd j u c[j] (by rw [List.getElem?_eq_getElem hj, he]) (by simp [hjc])).one
  -- how the operation runs
  have hwp : ∀ v w', (Builtin.append_ #[t, t] o.type #[vy, .slice (some ⟨b2, off2, none⟩) k capq]).run P w = .ok v w' → next (a.put o.dst v) w' → o.wp P a w next Q := by
    intro v w' hr hnx
    unfold Oper.wp execOp
    simp only [ho, resolve, invoke, builtin, Sem.run_bind, Sem.run_pure, Result.andThen_ok, List.map_toArray, List.map_cons, List.map_nil, hey, heq, hr]
    exact hnx
  -- the arm that makes a new block
  have grown : ∀ (xs : List Value) (old cap : Nat), xs.length = ob.cs.length → (∀ (j : Nat) v x, xs[j]? = some v → ob.cs[j]? = some x → RV w (G.M ρ H1) ρ v x) → cap = grownCap w (n + k) old e →
      (Builtin.append_ #[t, t] o.type #[vy, .slice (some ⟨b2, off2, none⟩) k capq]).run P w = .ok (.slice (some ⟨w.heap.size, 0, none⟩) (n + k) cap) (w.drew.alloc (.cells (xs.toArray ++ news.toArray ++ Builtin.zeroCells z.cells (cap - (n + k))) e)) → o.wp P a w next Q := by
    intro xs old cap hxl hxr hcap hrun
    have hge : n + k ≤ cap := hcap ▸ grownCap_ge w (n + k) old e
    have hd : Below w.heap.size w w.drew := (Below.refl _ w).drew
    have hs1 : Sat G ρ H1 w.drew := hs.grow hd
    obtain ⟨hs2, hl2⟩ := hs1.drop id
    have hlat1 : Later w (G.M ρ H1) w.drew (G.M ρ ((id, none) :: H1)) := ⟨hl2.size, fun _ _ _ => rfl, hl2.sub⟩
    obtain ⟨ρ', e1, e2, e3, e4, e5⟩ := hs2.new (id := id') hnone (xs.toArray ++ news.toArray ++ Builtin.zeroCells z.cells (cap - (n + k))) cap ⟨e, i.size, ob.cs ++ c.map .d⟩
      (by
        simp only [Array.size_append, List.size_toArray, size_zeroCells, hzs, hxl, hnl, hcs, ← Nat.add_mul]
        congr 1; omega)
      (by simp only [Array.size_append, List.size_toArray, size_zeroCells, hxl, hnl, List.length_append, List.length_map, hclen]; omega)
      (fun j v x hv hx => by
        refine cells_new (old := xs) (news := news) (rest := (Builtin.zeroCells z.cells (cap - (n + k))).toList) hxl (fun j v x h1 h2 => (hxr j v x h1 h2).later hlat1 (Ext.refl _)) (by rw [hnl, hclen]) (fun j v x h1 h2 => (hnd j v x h1 h2).later hlat1) j v x ?_ hx
        rw [← hv, ← Array.getElem?_toList]
        simp)
    refine hwp _ _ hrun (hK _ _ ρ' e1 (fun j hj => (e2 j hj).imp (fun h => h) fun h => by rw [h]; exact hid) ?_ (.own id' _ _ _ _ e3) e5)
    exact ⟨by have := e4.size; exact this, fun b h1 h2 => (e4.block b h1 fun h => h2 (hlat1.sub b h1 h)), fun b h1 h2 => hlat1.sub b h1 (e4.sub b h1 h2)⟩
  cases g1 with
  | own0 =>
    have hnil : ob.cs = [] := List.eq_nil_of_length_eq_zero (by simpa using hcs)
    have hr := run_append_nil (P := P) w t o.type e i z ht hi hz ⟨b2, off2, none⟩ k capq news hnl (hnews w rfl) hk (by omega) (by simp only [Nat.zero_add] at hby; omega)
    refine grown [] 0 _ (by rw [hnil]; rfl) (fun j v x h => by simp at h) rfl ?_
    simp only [Nat.zero_add]
    rw [hr]
    simp
  | own _ _ _ b cap hr =>
    rcases hs.obj id ob hl1 with ⟨_, z1⟩ | ⟨b', cap', cur, h1, h2, h3, h4, h5, h6⟩
    · rw [hr] at z1; cases z1
    rw [hr] at h1
    cases h1
    rw [hT] at h3
    rw [he] at h4
    have hcur : n * i.size ≤ cur.size := by rw [← hcs]; exact h5
    let xs : List Value := cur.toList.take (n * i.size)
    have hxl : xs.length = ob.cs.length := by simp [xs, hcs]; omega
    have hxr : ∀ (j : Nat) v x, xs[j]? = some v → ob.cs[j]? = some x → RV w (G.M ρ H1) ρ v x := by
      intro j v x hv hx
      have hj : j < n * i.size := by rw [← hcs]; exact (List.getElem?_eq_some_iff.1 hx).1
      refine h6 j v x ?_ hx
      rw [← hv, List.getElem?_take_of_lt hj, Array.getElem?_toList]
    by_cases hroom : n + k ≤ cap
    · have hfit : n * i.size + news.length ≤ cur.size := by rw [hnl, h4, ← Nat.add_mul]; exact Nat.mul_le_mul_right _ hroom
      have hrun := run_append_room (P := P) w t o.type e i ht hi b n cap cur h3 ⟨b2, off2, none⟩ k capq news hnl (hnews w rfl) hone hroom hfit
      obtain ⟨ρ', e1, e2, e3, e4, e5⟩ := hs.move hl1 hr hnone
      obtain ⟨f1, f2⟩ := e5.set (id := id') (ob := ob) (ob' := ⟨e, i.size, ob.cs ++ c.map .d⟩) (w' := w.setRow b (cur.toList.take (n * i.size) ++ news ++ cur.toList.drop (n * i.size + news.length)).toArray) (by simp [look]) e3
        (cur.toList.take (n * i.size) ++ news ++ cur.toList.drop (n * i.size + news.length)).toArray hT.symm he.symm
        (by simp only [List.size_toArray, List.length_append, List.length_take, List.length_drop, Array.length_toList, List.length_map, hclen, hcs]; omega)
        (by simp only [List.size_toArray, List.length_append, List.length_take, List.length_drop, Array.length_toList, he]; omega)
        (by rw [hT]; exact setRow_heap w b cur _ e _ h3) (turn_setRow _ _ _)
        (fun j v x hv hx => by
          rw [e4]
          rw [List.getElem?_toArray] at hv
          have hlat : Later w (G.M ρ H1) w (G.M ρ H1) := Later.refl _ _
          exact cells_new hxl (fun j v x h1 h2 => (hxr j v x h1 h2).later hlat e1) (by rw [hnl, hclen]) hnd j v x hv hx)
      have hH : ∀ j, look ((id', some (⟨e, i.size, ob.cs ++ c.map .d⟩ : Ob)) :: (id', some ob) :: (id, none) :: H1) j = look ((id', some ⟨e, i.size, ob.cs ++ c.map .d⟩) :: (id, none) :: H1) j := by
        intro j
        by_cases hj : id' = j <;> simp [look, hj]
      have hMM : G.M ρ' ((id', some (⟨e, i.size, ob.cs ++ c.map .d⟩ : Ob)) :: (id', some ob) :: (id, none) :: H1) = G.M ρ' ((id', some ⟨e, i.size, ob.cs ++ c.map .d⟩) :: (id, none) :: H1) := by
        funext b
        unfold Ctx.M Mt
        simp only [hH]
      rw [e4, hMM] at f1
      refine hwp _ _ hrun (hK _ _ ρ' e1 (fun j hj => (e2 j hj).imp (fun h => h) fun h => by rw [h]; exact hid) f1 (.own id' _ _ _ _ e3) ⟨f2.below, f2.base, fun p q b c1 c2 q1 q2 => f2.inj p q b c1 c2 (by rw [hH]; exact q1) (by rw [hH]; exact q2), fun j o1 hj => ?_⟩)
      have := f2.obj j o1 (by rw [hH]; exact hj)
      rw [hMM] at this
      exact this
    · have holds : ∀ j u, xs[j]? = some u → w.cell? ((⟨b, 0, none⟩ : Addr).add j) = some u := by
        intro j u hu
        have hj : j < n * i.size := by
          have := (List.getElem?_eq_some_iff.1 hu).1
          rw [hxl, hcs] at this; exact this
        rw [List.getElem?_take_of_lt hj, Array.getElem?_toList] at hu
        rw [add_none]
        simp [World.cell?, h3, hu]
      have hrun := run_append_grow (P := P) w t o.type e i z ht hi hz ⟨b, 0, none⟩ n cap xs (by rw [hxl, hcs]) holds ⟨b2, off2, none⟩ k capq news hnl (hnews w rfl) (by omega) (by omega) (growslice_fits (by omega) hby)
      exact grown xs cap _ hxl hxr rfl hrun

end

/-! ### a slice that is done -/
section
variable {G : Ctx} {N : Nat} {s : St}

theorem weak_frz (t id n m : Nat) (c : List D) {ob : Ob} (ht : get s.E t = .own id n m) (hl : look s.H id = some ob) (he : ob.e = m) (hc : ob.cs = c.map .d) (hn : c.length = n * m) (hm : 0 < m) : Weak G N s ⟨(t, .d (.sl n m c)) :: s.E, (id, none) :: s.H, s.U⟩ := by
  intro ρ a w hr
  obtain ⟨hs, hlat⟩ := hr.sat.drop id
  refine ⟨ρ, hs, fun t' => ?_, hr.used, hr.size, hr.defers⟩
  by_cases htt : t = t'
  · subst htt
    simp only [get, if_true]
    have h1 := hr.env t
    rw [ht] at h1
    generalize a.tmps.getD t undef = v at h1
    cases h1 with
    | own0 =>
      have : c = [] := List.eq_nil_of_length_eq_zero (by simpa using hn)
      subst this
      exact .d (.nil none 0 m hm)
    | own _ _ _ b cap h =>
      rcases hr.sat.obj id ob hl with ⟨_, z⟩ | ⟨b', cap', cs, h1, h2, h3, h4, h5, h6⟩
      · rw [h] at z; cases z
      rw [h] at h1
      cases h1
      rw [he] at h4
      rw [hc, List.length_map, hn] at h5
      rcases Nat.eq_zero_or_pos n with hz | hz
      · subst hz
        have : c = [] := List.eq_nil_of_length_eq_zero (by simpa using hn)
        subst this
        exact .d (.nil _ _ m hm)
      · refine .d (.sl b 0 n cap m c (fun j => cs[j]?.getD Go.undef) hz ?_ hn (lt_of_heap h3) (hr.sat.still (by rw [hl]; simp) h h2) (fun j hj => ?_) fun j x hx => ?_)
        · rw [h4] at h5
          exact Nat.le_of_mul_le_mul_right h5 hm
        · have : j < cs.size := by omega
          simp [World.cell?, h3, this]
        · have hj : j < c.length := (List.getElem?_eq_some_iff.1 hx).1
          have hj' : j < cs.size := by omega
          have h7 := h6 j cs[j] (.d x) (by simp [hj']) (by rw [hc, List.getElem?_map, hx]; rfl)
          have e7 : cs[j]?.getD Go.undef = cs[j] := by simp [hj']
          show RD w _ (cs[j]?.getD Go.undef) x
          rw [e7]
          generalize cs[j] = u at h7
          cases h7 with | d h => exact h.later hlat
  · simp only [get, if_neg htt]
    exact (hr.env t').later hlat (Ext.refl _)

/-! ### names given anew -/
mutual
def X.ren (σ : Nat → Nat) : X → X
  | .own id n e => .own (σ id) n e
  | .ptr id off => .ptr (σ id) off
  | .func f a b => .func f (X.renL σ a) (X.renL σ b)
  | .agg cs => .agg (X.renL σ cs)
  | .tup cs => .tup (X.renL σ cs)
  | .opt g x => .opt g (x.ren σ)
  | .d v => .d v
  | .dptr c => .dptr c
  | .undef => .undef
def X.renL (σ : Nat → Nat) : List X → List X
  | [] => []
  | x :: xs => x.ren σ :: X.renL σ xs
end

/-- the name a of a slice of data is changed to b -/
theorem weak_ren (h0 : ∀ id, G.ρ0 id = none) (t a b n m : Nat) (ob : Ob) (hab : a ≠ b) (ht : get s.E t = .own a n m) (hl : look s.H a = some ob) (hd : ob.cs.all (fun | .d _ => true | _ => false) = true) (E' : Env) (H' : Heap) (U' : List Nat) (hE : subE E' s.E) (hH : subH H' s.H)
    (hU : (E'.ids ++ H'.ids ++ H'.map (·.1)).all (fun i => U'.contains i && i != b && i != a) = true) (hbU : U'.contains b = true) : Weak G N s ⟨(t, .own b n m) :: E', (b, some ob) :: H', U'⟩ := by
  intro ρ ac w hr
  -- first: the rest
  have hU1 : (Env.ids ((t, X.own a n m) :: E') ++ Heap.ids ((a, some ob) :: H') ++ ((a, some ob) :: H').map (·.1)).all ((a :: U').contains ·) = true := by
    simp only [List.all_eq_true, List.mem_append, List.contains_iff_mem, Bool.and_eq_true] at hU ⊢
    intro i hi
    have hlist : ∀ cs : List X, cs.all (fun | .d _ => true | _ => false) = true → X.idsL cs = [] := by
      intro cs
      induction cs with
      | nil => intro _; rfl
      | cons x xs ih =>
        intro h
        simp only [List.all_cons, Bool.and_eq_true] at h
        cases x <;> simp at h
        simp only [X.idsL, X.ids, List.nil_append]
        exact ih (by simpa using h)
    simp only [Env.ids, X.ids, Heap.ids, hlist _ hd, List.nil_append, List.map_cons, List.mem_cons, List.mem_append, List.not_mem_nil, or_false] at hi
    rcases hi with ((rfl | hi) | hi) | (rfl | hi)
    · simp
    · simp [(hU i (.inl (.inl hi))).1.1]
    · simp [(hU i (.inl (.inr hi))).1.1]
    · simp
    · simp [(hU i (.inr hi)).1.1]
  obtain ⟨ρ1, hr1⟩ := weak_of (G := G) (N := N) (s := s) ((t, .own a n m) :: E') ((a, some ob) :: H') (a :: U') ⟨ht, hE⟩ ⟨hl, hH⟩ hU1 ρ ac w hr
  simp only [List.all_eq_true, List.mem_append, List.contains_iff_mem, Bool.and_eq_true, bne_iff_ne] at hU
  let ρ' : Rho := fun i => if i = b then ρ1 a else if i = a then none else ρ1 i
  have kb : ρ' b = ρ1 a := if_pos rfl
  have ko : ∀ i, i ≠ b → i ≠ a → ρ' i = ρ1 i := fun i h1 h2 => by show (if _ then _ else _) = _; rw [if_neg h1, if_neg h2]
  have hdom : ∀ i, look H' i ≠ none → i ≠ b ∧ i ≠ a := by
    intro i h
    have : i ∈ H'.map (·.1) := by
      clear hU hE hH hU1 hr1
      induction H' with
      | nil => exact absurd rfl h
      | cons p r ih =>
        obtain ⟨j, x⟩ := p
        by_cases hj : j = i
        · subst hj; simp
        · simp only [look, if_neg hj] at h
          simp only [List.map_cons, List.mem_cons]
          exact .inr (ih h)
    have := hU i (.inr this)
    exact ⟨this.1.2, this.2⟩
  have lb : look ((b, some ob) :: H') b = some ob := by simp [look]
  have la : look ((a, some ob) :: H') a = some ob := by simp [look]
  have lo : ∀ i, i ≠ b → look ((b, some ob) :: H') i = look H' i := fun i h => by simp [look, Ne.symm h]
  have lo' : ∀ i, i ≠ a → look ((a, some ob) :: H') i = look H' i := fun i h => by simp [look, Ne.symm h]
  -- a name of the new state, and the name that it had
  have back : ∀ i o, look ((b, some ob) :: H') i = some o → ∃ j, look ((a, some ob) :: H') j = some o ∧ ρ' i = ρ1 j ∧ ((i = b ∧ j = a) ∨ (i = j ∧ i ≠ b ∧ i ≠ a)) := by
    intro i o h
    by_cases hi : i = b
    · subst hi; rw [lb] at h; cases h; exact ⟨a, la, kb, .inl ⟨rfl, rfl⟩⟩
    · rw [lo i hi] at h
      obtain ⟨d1, d2⟩ := hdom i (by rw [h]; simp)
      exact ⟨i, by rw [lo' i d2]; exact h, ko i d1 d2, .inr ⟨rfl, d1, d2⟩⟩
  have hlat : Later w (G.M ρ1 ((a, some ob) :: H')) w (G.M ρ' ((b, some ob) :: H')) := ⟨Nat.le_refl _, fun _ _ _ => rfl, fun c _ h => h.imp (fun h => h) fun ⟨i, o, cap, h1, h2⟩ => by
    obtain ⟨j, h3, h4, _⟩ := back i o h1
    exact ⟨j, o, cap, h3, by rw [← h4]; exact h2⟩⟩
  refine ⟨ρ', ⟨hr1.sat.below, fun id p hp => (by rw [h0 id] at hp; cases hp), ?_, ?_⟩, ?_, ?_, hr1.size, hr1.defers⟩
  · intro i j c c1 c2 h1 h2 h3 h4
    cases e1 : look ((b, some ob) :: H') i with
    | none => exact absurd e1 h1
    | some o1 =>
      cases e2 : look ((b, some ob) :: H') j with
      | none => exact absurd e2 h2
      | some o2 =>
        obtain ⟨i', p1, p2, p3⟩ := back i o1 e1
        obtain ⟨j', q1, q2, q3⟩ := back j o2 e2
        have := hr1.sat.inj i' j' c c1 c2 (by rw [p1]; simp) (by rw [q1]; simp) (by rw [← p2]; exact h3) (by rw [← q2]; exact h4)
        rcases p3 with ⟨a1, a2⟩ | ⟨a1, a2, a3⟩ <;> rcases q3 with ⟨b1, b2⟩ | ⟨b1, b2, b3⟩
        · rw [a1, b1]
        · exact absurd (by rw [b1, ← this, a2]) b3
        · exact absurd (by rw [a1, this, b2]) a3
        · rw [a1, b1, this]
  · intro i o hi
    obtain ⟨j, p1, p2, p3⟩ := back i o hi
    rcases hr1.sat.obj j o p1 with ⟨z1, z2⟩ | ⟨b', cap', cs, h1, h2, h3, h4, h5, h6⟩
    · exact .inl ⟨z1, p2.trans z2⟩
    · refine .inr ⟨b', cap', cs, p2.trans h1, h2, h3, h4, h5, fun q v x hv hx => ((h6 q v x hv hx).later hlat (Ext.refl _)).fewer fun id hid => ?_⟩
      rcases p3 with ⟨a1, a2⟩ | ⟨a1, a2, a3⟩
      · subst a1 a2
        rw [la] at p1
        cases p1
        rw [List.all_eq_true] at hd
        have := hd x (List.mem_of_getElem? hx)
        cases x <;> simp at this
        simp [X.ids] at hid
      · rw [lo' j (by rw [← a1]; exact a3)] at p1
        have hin : id ∈ H'.ids := (subH_look hH p1).2 id (X.mem_idsL (List.mem_of_getElem? hx) hid)
        have := hU id (.inl (.inr hin))
        exact ko id this.1.2 this.2
  · intro t'
    by_cases htt : t = t'
    · subst htt
      have h1 := hr1.env t
      simp only [get, if_true] at h1 ⊢
      generalize ac.tmps.getD t undef = v at h1
      cases h1 with
      | own0 => exact .own0 b m
      | own _ _ _ bb cap h => exact .own b n m bb cap (kb.trans h)
    · have h1 := hr1.env t'
      simp only [get, if_neg htt] at h1 ⊢
      refine (h1.later hlat (Ext.refl _)).fewer fun id hid => ?_
      rcases subE_get hE t' with h | ⟨_, h2⟩
      · rw [h] at hid; simp [X.ids] at hid
      · have := hU id (.inl (.inl (h2 id hid)))
        exact ko id this.1.2 this.2
  · intro id hid _
    by_cases hb : id = b
    · subst hb; exact List.contains_iff_mem.1 hbU
    · by_cases ha : id = a
      · subst ha; exact absurd (by show (if _ then _ else _) = _; rw [if_neg hb, if_pos rfl]) hid
      · rw [ko id hb ha] at hid
        have := hr1.used id hid (h0 id)
        rcases List.mem_cons.1 this with h | h
        · exact absurd h ha
        · exact h

/-- nothing as yet: a slice that holds no element has a name of its own -/
theorem weak_nil (t id e : Nat) (T : TypeId) (h0 : ∀ id, G.ρ0 id = none) (ht : get s.E t = .d (.sl 0 0 [])) (hU : s.U.contains id = false) : Weak G N s ⟨(t, .own id 0 e) :: s.E, (id, some ⟨T, e, []⟩) :: s.H, id :: s.U⟩ := by
  intro ρ a w hr
  have hn : ρ id = none := by
    cases h : ρ id with
    | none => rfl
    | some p => exact absurd (List.contains_iff_mem.2 (hr.used id (by rw [h]; simp) (h0 id))) (by rw [hU]; simp)
  have hlo : ∀ j, j ≠ id → look ((id, some (⟨T, e, []⟩ : Ob)) :: s.H) j = look s.H j := fun j h => by simp [look, Ne.symm h]
  have hl : look ((id, some (⟨T, e, []⟩ : Ob)) :: s.H) id = some ⟨T, e, []⟩ := by simp [look]
  have hlat : Later w (G.M ρ s.H) w (G.M ρ ((id, some ⟨T, e, []⟩) :: s.H)) := ⟨Nat.le_refl _, fun _ _ _ => rfl, fun c _ h => h.imp (fun h => h) fun ⟨j, o, cap, h1, h2⟩ => by
    by_cases hj : j = id
    · subst hj; rw [hn] at h2; cases h2
    · exact ⟨j, o, cap, by rw [← hlo j hj]; exact h1, h2⟩⟩
  refine ⟨ρ, ⟨hr.sat.below, hr.sat.base, ?_, ?_⟩, ?_, fun i h1 h2 => List.mem_cons_of_mem _ (hr.used i h1 h2), hr.size, hr.defers⟩
  · intro i j b c c' h1 h2 h3 h4
    have hi : i ≠ id := by rintro rfl; rw [hn] at h3; cases h3
    have hj : j ≠ id := by rintro rfl; rw [hn] at h4; cases h4
    exact hr.sat.inj i j b c c' (by rw [← hlo i hi]; exact h1) (by rw [← hlo j hj]; exact h2) h3 h4
  · intro j o hj
    by_cases hi : j = id
    · subst hi; rw [hl] at hj; cases hj; exact .inl ⟨rfl, hn⟩
    · rw [hlo j hi] at hj
      rcases hr.sat.obj j o hj with hz | ⟨b, cap, cs, h1, h2, h3, h4, h5, h6⟩
      · exact .inl hz
      · exact .inr ⟨b, cap, cs, h1, h2, h3, h4, h5, fun q v x hv hx => (h6 q v x hv hx).later hlat (Ext.refl _)⟩
  · intro t'
    by_cases htt : t = t'
    · subst htt
      simp only [get, if_true]
      have h1 := hr.env t
      rw [ht] at h1
      generalize a.tmps.getD t undef = v at h1
      cases h1 with | d h1 =>
      cases h1 with
      | nil0 => exact .own0 id e
      | nil _ _ _ he => omega
      | sl _ _ _ _ _ _ _ hn => omega
    · simp only [get, if_neg htt]
      exact (hr.env t').later hlat (Ext.refl _)

end
end Go.Proofs.YtaacgmcgmljjeaaGreat

/- The calculus of states: functions that answer a new block of the caller's own. -/
namespace Go.Proofs.YtaacgmcgmljjeaaGreat
open Go.RowKit

/-- one name -/
def oneRho (p : Option (Nat × Nat)) : Rho := fun j => if j = 0 then p else none
/-- the caller's, and the new block -/
def orM (M : Nat → Prop) (p : Option (Nat × Nat)) (b : Nat) : Prop := M b ∨ ∃ cap, p = some (b, cap)

/-- the function f, of what is only read, answers r, which names one new block of elements of type T with the data c -/
def PO (P : Program) (f : FuncId) (xs : List X) (r : Nat → X) (T : TypeId) (e : Nat) (c : List D) : Prop :=
  ∀ (w : World) (M : Nat → Prop) (vs : Array Value), (∀ b, M b → b < w.heap.size) → vs.size = xs.length → (∀ (i : Nat) v x, vs[i]? = some v → xs[i]? = some x → RV w M noRho v x) →
    Calls P f vs w fun e' w' => ∃ v p, e' = .returned v ∧ Below w.heap.size w w' ∧ RV w' (orM M p) (oneRho p) v (r 0) ∧
      ((c = [] ∧ p = none) ∨ ∃ b cap cs, p = some (b, cap) ∧ w.heap.size ≤ b ∧ w'.heap[b]? = some (.cells cs T (0, 0)) ∧ cs.size = cap * e ∧ c.length ≤ cs.size ∧ ∀ (i : Nat) v d, cs[i]? = some v → c[i]? = some d → RD w' (orM M p) v d)

theorem RV.laterS {w : World} {M M' : Nat → Prop} {ρ : Rho} {v : Value} {x : X} (h : RV w M ρ v x) (hs : ∀ b, M' b → M b) : RV w M' ρ v x := h.later ⟨Nat.le_refl _, fun _ _ _ => rfl, fun b _ h => hs b h⟩ (Ext.refl _)
theorem RD.laterS {w : World} {M M' : Nat → Prop} {v : Value} {x : D} (h : RD w M v x) (hs : ∀ b, M' b → M b) : RD w M' v x := h.later ⟨Nat.le_refl _, fun _ _ _ => rfl, fun b _ h => hs b h⟩

/-- r names its name alone -/
def OneN (r : Nat → X) : Prop := ∀ (w : World) (M : Nat → Prop) (ρ ρ' : Rho) (v : Value) (i j : Nat), ρ i = ρ' j → RV w M ρ v (r i) → RV w M ρ' v (r j)

theorem oneN_own (n e : Nat) : OneN fun id => .own id n e := by
  intro w M ρ ρ' v i j h hv
  cases hv with
  | own0 => exact .own0 j e
  | own _ _ _ b cap hr => exact .own j n e b cap (h ▸ hr)

theorem oneN_tup (n e : Nat) (d : D) : OneN fun id => .tup [.own id n e, .d d] := by
  intro w M ρ ρ' v i j h hv
  cases hv with
  | tup cs xs hs hh =>
    refine .tup cs _ hs fun k u x hu hx => ?_
    match k with
    | 0 => cases hx; exact oneN_own n e w M ρ ρ' u i j h (hh 0 u _ hu rfl)
    | 1 =>
      cases hx
      have := hh 1 u _ hu rfl
      cases this with | d h => exact .d h
    | k + 2 => simp at hx

/-- a world that has grown, with a new block that gets a name -/
theorem Sat.came {G : Ctx} {ρ : Rho} {H1 : Heap} {w w' : World} (hs : Sat G ρ H1 w) (hb : Below w.heap.size w w') {id : Nat} (hid : ρ id = none) (p : Option (Nat × Nat)) (T : TypeId) (e : Nat) (c : List D)
    (ho : (c = [] ∧ p = none) ∨ ∃ b cap cs, p = some (b, cap) ∧ w.heap.size ≤ b ∧ w'.heap[b]? = some (.cells cs T (0, 0)) ∧ cs.size = cap * e ∧ c.length ≤ cs.size ∧ ∀ (i : Nat) v d, cs[i]? = some v → c[i]? = some d → RD w' (orM (G.M ρ H1) p) v d) :
    ∃ ρ' : Rho, Ext ρ ρ' ∧ (∀ j, ρ' j ≠ none → ρ j ≠ none ∨ j = id) ∧ ρ' id = p ∧ (∀ b, G.M ρ' ((id, some ⟨T, e, c.map .d⟩) :: H1) b → orM (G.M ρ H1) p b) ∧ Later w (G.M ρ H1) w' (G.M ρ' ((id, some ⟨T, e, c.map .d⟩) :: H1)) ∧ Sat G ρ' ((id, some ⟨T, e, c.map .d⟩) :: H1) w' := by
  let ρ' : Rho := fun j => if j = id then p else ρ j
  have ki : ρ' id = p := if_pos rfl
  have ko : ∀ j, j ≠ id → ρ' j = ρ j := fun j h => if_neg h
  have he : Ext ρ ρ' := fun j q hj => by rw [ko j (by rintro rfl; rw [hid] at hj; cases hj)]; exact hj
  have li : look ((id, some (⟨T, e, c.map .d⟩ : Ob)) :: H1) id = some ⟨T, e, c.map .d⟩ := by simp [look]
  have lo : ∀ j, j ≠ id → look ((id, some (⟨T, e, c.map .d⟩ : Ob)) :: H1) j = look H1 j := fun j h => by simp [look, Ne.symm h]
  have hp : ∀ b cap, p = some (b, cap) → w.heap.size ≤ b := by
    intro b cap h
    rcases ho with ⟨_, hn⟩ | ⟨b', cap', cs, h1, h2, _⟩
    · rw [h] at hn; cases hn
    · rw [h] at h1; cases h1; exact h2
  have hsub : ∀ b, G.M ρ' ((id, some ⟨T, e, c.map .d⟩) :: H1) b → orM (G.M ρ H1) p b := by
    rintro b (h | ⟨j, o, cap, h1, h2⟩)
    · exact .inl (.inl h)
    · by_cases hj : j = id
      · subst hj; exact .inr ⟨cap, by rw [← ki]; exact h2⟩
      · exact .inl (.inr ⟨j, o, cap, by rw [← lo j hj]; exact h1, by rw [← ko j hj]; exact h2⟩)
  have hl : Later w (G.M ρ H1) w' (G.M ρ' ((id, some ⟨T, e, c.map .d⟩) :: H1)) := ⟨hb.size, fun b h1 _ => hb.block b h1, fun b h1 h2 => by
    rcases hsub b h2 with h | ⟨cap, h⟩
    · exact h
    · have := hp b cap h; omega⟩
  have hlt : ∀ j o b cap, look H1 j = some o → ρ j = some (b, cap) → b < w.heap.size := fun j o b cap h1 h2 => (hs.Mt_lt ⟨j, o, cap, h1, h2⟩).2
  refine ⟨ρ', he, fun j hj => ?_, ki, hsub, hl, ⟨hs.below.trans (.of_below hb), hs.base.trans he, ?_, ?_⟩⟩
  · by_cases h : j = id
    · exact .inr h
    · exact .inl (by rwa [ko j h] at hj)
  · intro i j b c1 c2 h1 h2 h3 h4
    by_cases hi : i = id <;> by_cases hj : j = id
    · rw [hi, hj]
    · subst hi
      rw [ki] at h3
      rw [lo j hj] at h2; rw [ko j hj] at h4
      cases e2 : look H1 j with
      | none => exact absurd e2 h2
      | some o => have := hlt j o b c2 e2 h4; have := hp b c1 h3; omega
    · subst hj
      rw [ki] at h4
      rw [lo i hi] at h1; rw [ko i hi] at h3
      cases e2 : look H1 i with
      | none => exact absurd e2 h1
      | some o => have := hlt i o b c1 e2 h3; have := hp b c2 h4; omega
    · rw [lo i hi] at h1; rw [ko i hi] at h3
      rw [lo j hj] at h2; rw [ko j hj] at h4
      exact hs.inj i j b c1 c2 h1 h2 h3 h4
  · intro j o hj
    by_cases hji : j = id
    · subst hji
      rw [li] at hj; cases hj
      rcases ho with ⟨h1, h2⟩ | ⟨b, cap, cs, h1, h2, h3, h4, h5, h6⟩
      · exact .inl ⟨by rw [h1]; rfl, ki.trans h2⟩
      · refine .inr ⟨b, cap, cs, ki.trans h1, .inl (Nat.le_trans hs.size h2), h3, h4, by simpa using h5, fun i v x hv hx => ?_⟩
        rw [List.getElem?_map] at hx
        cases hq : c[i]? with
        | none => rw [hq] at hx; cases hx
        | some d => rw [hq] at hx; cases hx; exact .d ((h6 i v d hv hq).laterS hsub)
    · rw [lo j hji] at hj
      rcases hs.obj j o hj with ⟨z1, z2⟩ | ⟨b, cap, cs, h1, h2, h3, h4, h5, h6⟩
      · exact .inl ⟨z1, (ko j hji).trans z2⟩
      · exact .inr ⟨b, cap, cs, he _ _ h1, h2, (hb.block b (lt_of_heap h3)).trans h3, h4, h5, fun i v x hv hx => (h6 i v x hv hx).later hl he⟩

theorem PO.ct {P : Program} {f : FuncId} {xs : List X} {r : Nat → X} {T : TypeId} {e : Nat} {c : List D} {H : Heap} {R nw : List Nat} (h : PO P f xs r T e c) (hr : OneN r) (hx : (X.idsL xs).isEmpty = true) (id : Nat) (hid : id ∈ nw) : CT P f xs H R nw [(id, some ⟨T, e, c.map .d⟩)] (r id) := by
  intro G ρ H1 vs w hs hsz hv _ hn
  have hx' : X.idsL xs = [] := by simpa using hx
  refine (h w (G.M ρ H1) vs (fun b hb => hs.M_lt hb) hsz fun i v x h1 h2 => (hv i v x h1 h2).fewer fun id hid => ?_).mono ?_
  · have := X.mem_idsL (List.mem_of_getElem? h2) hid
    rw [hx'] at this
    cases this
  · rintro e' w' ⟨v, p, he, hb, hrv, ho⟩
    obtain ⟨ρ', g1, g2, g3, g4, g5, g6⟩ := hs.came hb (hn id hid) p T e c ho
    exact ⟨v, ρ', he, g1, fun j hj => (g2 j hj).imp (fun h => h) fun h => by rw [h]; exact hid, g5, (hr w' _ (oneRho p) ρ' v 0 id (by rw [g3]; rfl) hrv).laterS g4, g6⟩

/-- the contract of such a function from its body -/
theorem PO_of {P : Program} {f : FuncId} {fn : Func} {cd : Code} {xs : List X} {r : Nat → X} {T : TypeId} {e : Nat} {c : List D} (hf : P.funcs[f]? = some fn) (hb : fn.body = some cd) (hn : xs.length ≤ fn.ntmps) (hr : OneN r)
    (h : ∀ G : Ctx, (∀ id, G.ρ0 id = none) → AW P G fn.ntmps cd ⟨enumE 0 xs, [], []⟩ (fun ex s => ∃ id, Fin P fn (r id) ex s ∧ ∃ ob : Ob, look s.H id = some ob ∧ ob.T = T ∧ ob.e = e ∧ ob.cs = c.map .d)) : PO P f xs r T e c := by
  intro w M vs hM hsz hv
  let G : Ctx := { w0 := w, M0 := M, ρ0 := noRho, hM := hM }
  have hM0 : ∀ b, G.M noRho [] b ↔ M b := fun b => ⟨fun h => h.elim (fun h => h) fun ⟨_, _, _, h, _⟩ => (by cases h), .inl⟩
  refine calls_of_wp hf hb (h G (fun _ => rfl) noRho _ w ⟨⟨Turn.refl _ _, Ext.refl _, fun _ _ _ _ _ h => absurd rfl h, fun id o h => by cases h⟩, fun t => ?_, fun id hid => absurd rfl hid, by simp; omega, rfl⟩ _ fun ex s' ρ' a' w' hq hr' => ?_)
  · show RV _ _ _ ((vs ++ _).getD t undef) (get (enumE 0 xs) t)
    rw [get_enumE, if_pos (Nat.zero_le _), Nat.sub_zero]
    by_cases ht : t < xs.length
    · have ht' : t < vs.size := by omega
      have e1 : (vs ++ Array.replicate (fn.ntmps - vs.size) undef).getD t undef = vs[t] := by
        simp [Array.getD, Nat.lt_of_lt_of_le ht' (Nat.le_add_right vs.size _), Array.getElem_append_left ht']
      rw [e1, List.getElem?_eq_getElem ht, Option.getD_some]
      exact (hv t _ _ (by simp [ht']) (by simp [ht])).later ⟨Nat.le_refl _, fun _ _ _ => rfl, fun b _ h => (hM0 b).1 h⟩ (Ext.refl _)
    · rw [List.getElem?_eq_none (by omega)]
      exact .undef _
  · obtain ⟨id, hfin, ob, ho1, ho2, ho3, ho4⟩ := hq
    obtain ⟨v, g1, g2⟩ := fin_run hr' hfin
    have hsub : ∀ b, orM M (ρ' id) b → G.M ρ' s'.H b := by
      rintro b (h | ⟨cap, h⟩)
      · exact .inl h
      · exact .inr ⟨id, ob, cap, ho1, h⟩
    have hpost : a'.defers = [] ∧ ∃ v, (results fn a'.tmps).run P w' = .ok v w' ∧ (∃ v' p, Ending.returned v = .returned v' ∧ Below w.heap.size w w' ∧ RV w' (orM M p) (oneRho p) v' (r 0) ∧
        ((c = [] ∧ p = none) ∨ ∃ b cap cs, p = some (b, cap) ∧ w.heap.size ≤ b ∧ w'.heap[b]? = some (.cells cs T (0, 0)) ∧ cs.size = cap * e ∧ c.length ≤ cs.size ∧ ∀ (i : Nat) v d, cs[i]? = some v → c[i]? = some d → RD w' (orM M p) v d)) := by
      refine ⟨hr'.defers, v, g1, v, ρ' id, rfl, hr'.sat.below.below0, (hr w' _ ρ' (oneRho (ρ' id)) v id 0 rfl g2).laterS hsub, ?_⟩
      rcases hr'.sat.obj id ob ho1 with ⟨z1, z2⟩ | ⟨b, cap, cs, h1, h2, h3, h4, h5, h6⟩
      · rw [ho4] at z1
        exact .inl ⟨List.map_eq_nil_iff.1 z1, z2⟩
      · rw [ho2] at h3
        rw [ho3] at h4
        rw [ho4, List.length_map] at h5
        refine .inr ⟨b, cap, cs, h1, h2.resolve_right fun h => h, h3, h4, h5, fun i v d hv hd => ?_⟩
        have := h6 i v (.d d) hv (by rw [ho4, List.getElem?_map, hd]; rfl)
        cases this with | d h => exact h.laterS hsub
    rcases hfin.1 with rfl | rfl <;> exact hpost

/-- of a block less is known -/
theorem weak_und {G : Ctx} {N : Nat} {s : St} (id : Nat) {ob : Ob} (cs' : List X) (hl : look s.H id = some ob) (hlen : cs'.length ≤ ob.cs.length) (h : ∀ (i : Nat) x, cs'[i]? = some x → x = .undef ∨ ob.cs[i]? = some x) (hne : ob.cs ≠ []) : Weak G N s ⟨s.E, (id, some ⟨ob.T, ob.e, cs'⟩) :: s.H, s.U⟩ := by
  intro ρ a w hr
  have li : look ((id, some (⟨ob.T, ob.e, cs'⟩ : Ob)) :: s.H) id = some ⟨ob.T, ob.e, cs'⟩ := by simp [look]
  have lo : ∀ j, j ≠ id → look ((id, some (⟨ob.T, ob.e, cs'⟩ : Ob)) :: s.H) j = look s.H j := fun j h => by simp [look, Ne.symm h]
  have hM : G.M ρ ((id, some ⟨ob.T, ob.e, cs'⟩) :: s.H) = G.M ρ s.H := by
    funext b
    unfold Ctx.M Mt
    refine propext (or_congr Iff.rfl ⟨?_, ?_⟩)
    · rintro ⟨j, o, c, h1, h2⟩
      by_cases hj : j = id
      · subst hj; exact ⟨j, ob, c, hl, h2⟩
      · exact ⟨j, o, c, by rw [← lo j hj]; exact h1, h2⟩
    · rintro ⟨j, o, c, h1, h2⟩
      by_cases hj : j = id
      · subst hj; exact ⟨j, _, c, li, h2⟩
      · exact ⟨j, o, c, by rw [lo j hj]; exact h1, h2⟩
  have hk : ∀ j, look ((id, some (⟨ob.T, ob.e, cs'⟩ : Ob)) :: s.H) j ≠ none → look s.H j ≠ none := fun j hj => by
    by_cases h : j = id
    · subst h; rw [hl]; simp
    · rwa [lo j h] at hj
  refine ⟨ρ, ⟨hr.sat.below, hr.sat.base, fun i j b c c' h1 h2 h3 h4 => hr.sat.inj i j b c c' (hk i h1) (hk j h2) h3 h4, fun j o hj => ?_⟩, fun t => by rw [hM]; exact hr.env t, hr.used, hr.size, hr.defers⟩
  rw [hM]
  by_cases hji : j = id
  · subst hji
    rw [li] at hj; cases hj
    rcases hr.sat.obj j ob hl with ⟨z1, _⟩ | ⟨b, cap, cs, h1, h2, h3, h4, h5, h6⟩
    · exact absurd z1 hne
    · refine .inr ⟨b, cap, cs, h1, h2, h3, h4, Nat.le_trans hlen h5, fun i v x hv hx => ?_⟩
      rcases h i x hx with rfl | hh
      · exact .undef v
      · exact h6 i v x hv hh
  · rw [lo j hji] at hj
    exact hr.sat.obj j o hj

end Go.Proofs.YtaacgmcgmljjeaaGreat
