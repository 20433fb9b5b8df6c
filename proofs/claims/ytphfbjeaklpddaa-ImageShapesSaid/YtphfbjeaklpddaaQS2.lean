/-
  Joined texts: The calculus of states: addresses, indices, lengths, parts of strings and slices. · The calculus of states: calls by contracts; octets of a string. · The calculus of states: forms for walks that a program prints. · The calculus of states: contracts that were proved in the other calculus; things that are  · What the program's tables say of its types. · The laws of this family that speak of no program's functions: worlds that have only grown  · Layer 42, the plain law of layouts: where the samples of an image stand in its octets. No  · Layer 42, the reference's small functions: within, shaped, row, stride, rows, place. · Layer 42, the program's small functions: between and what it calls, shaped. · Layer 42: shaped, the reference's and the program's.
-/
import Derived.Test.YtphfbjeaklpddaaQS1
import Derived.IntWalk
import Derived.LoopN
import Derived.Test.YtphfbjeaklpddaaChecked
import Derived.WalkKit
import Derived.WalkSpells
import Derived.WalkLawsBesides
import Derived.BigQuiet
import Derived.LoopTactic
import Derived.Lib.Hide
import Derived.WideMake
import Init
import Derived.Test.YtphfbjeaklpddaaRows
set_option linter.unusedSimpArgs false
set_option linter.unusedVariables false

/- The calculus of states: addresses, indices, lengths, parts of strings and slices. -/
namespace Go.Proofs.Ytphfbjeaklpddaa
open Go.RowKit

section
variable {P : Program} {o : Oper} {E : Env} {H : Heap} {R nw : List Nat}

theorem add_none (b off j : Nat) : (⟨b, off, none⟩ : Addr).add j = ⟨b, off + j, none⟩ := by unfold Addr.add; split <;> simp_all

theorem run_fieldAt {S : TypeId} {fs : Array Field} {f : Nat} {fd : Field} {i : TypeInfo} (hu : P.underlying S = some (.struct fs)) (hf : fs[f]? = some fd) (hi : P.info? fd.type = some i) (h0 : i.size ≠ 0) (b off : Nat) (w : World) :
    (Instr.fieldAt S (.pointer (some ⟨b, off, none⟩)) f).run P w = .ok (.pointer (some ⟨b, off + fd.offset, none⟩)) w := by
  simp [Instr.fieldAt, run_underlying hu, hf, Instr.sureAddr, fieldPlace, run_size hi, h0, add_none]

theorem LT_fieldAddr {S : TypeId} {y : Operand} {fs : Array Field} {f : Nat} {fd : Field} {i : TypeInfo} {id off : Nat} (ho : o.op = .fieldAddr S y f) (hy : opX E y = .ptr id off) (hu : P.underlying S = some (.struct fs)) (hf : fs[f]? = some fd) (hi : P.info? fd.type = some i) (h0 : i.size ≠ 0)
    (off' : Nat) (hoff : off + fd.offset = off') : LT P o E H R nw [] (.ptr id off') :=
  LT_read fun G ρ H1 a w hs hh _ => by
    have h1 := hh y (by simp [ho, Op.operands])
    rw [hy] at h1
    generalize he : a.eval y = v at h1
    cases h1 with
    | ptr _ _ b cap hr =>
      refine ⟨.pointer (some ⟨b, off', none⟩), ?_, .ptr id off' b cap hr⟩
      simp [execOp, ho, he, run_fieldAt hu hf hi h0, hoff]

theorem LT_fieldAddrD {S : TypeId} {y : Operand} {fs : Array Field} {f : Nat} {fd : Field} {i : TypeInfo} {c c' : List D} (ho : o.op = .fieldAddr S y f) (hy : opX E y = .dptr c) (hu : P.underlying S = some (.struct fs)) (hf : fs[f]? = some fd) (hi : P.info? fd.type = some i) (h0 : i.size ≠ 0)
    (hc : c.drop fd.offset = c') : LT P o E H R nw [] (.dptr c') :=
  LT_read fun G ρ H1 a w hs hh _ => by
    have h1 := hh y (by simp [ho, Op.operands])
    rw [hy] at h1
    generalize he : a.eval y = v at h1
    cases h1 with
    | dptr b off _ g hb hm hg hr =>
      refine ⟨.pointer (some ⟨b, off + fd.offset, none⟩), by simp [execOp, ho, he, run_fieldAt hu hf hi h0], .dptr b _ c' (fun i => g (fd.offset + i)) hb hm (fun i hi => ?_) fun i x hx => ?_⟩
      · rw [Nat.add_assoc]
        exact hg _ (by rw [← hc, List.length_drop] at hi; omega)
      · rw [← hc, List.getElem?_drop] at hx
        exact hr _ x hx

theorem LT_field {S : TypeId} {y : Operand} {fs : Array Field} {f : Nat} {fd : Field} {i : TypeInfo} {d : TypeDesc} {cs : List X} {x : X} (n : Nat) (ho : o.op = .field S y f) (hy : opX E y = .agg cs) (hu : P.underlying S = some (.struct fs)) (hf : fs[f]? = some fd) (hi : P.info? fd.type = some i)
    (hd : P.underlying fd.type = some d) (hn : fd.offset + n ≤ cs.length) (hx : (aggB d = true ∧ i.size = n ∧ x = .agg ((cs.drop fd.offset).take n)) ∨ (aggB d = false ∧ n = 1 ∧ cs[fd.offset]? = some x)) : LT P o E H R nw [] x :=
  LT_read fun G ρ H1 a w hs hh _ => by
    have h1 := hh y (by simp [ho, Op.operands])
    rw [hy] at h1
    generalize he : a.eval y = v at h1
    cases h1 with
    | agg vs _ hsz hall =>
      rcases hx with ⟨h1, h2, rfl⟩ | ⟨h1, h2, hx⟩
      · refine ⟨.agg (vs.extract fd.offset (fd.offset + n)), by simp [execOp, ho, he, Instr.field, run_underlying hu, hf, asAgg, part, run_isAgg hd, h1, run_size hi, h2], ?_⟩
        refine .agg _ _ (by simp; omega) fun j v x hv hx => ?_
        have hj : j < n := by
          have := (List.getElem?_eq_some_iff.1 hx).1
          simp at this; omega
        rw [List.getElem?_take_of_lt hj, List.getElem?_drop] at hx
        refine hall (fd.offset + j) v x ?_ hx
        have hjs : fd.offset + j < vs.size := by omega
        have : j < (vs.extract fd.offset (fd.offset + n)).size := by simp; omega
        rw [Array.getElem?_eq_getElem this, Array.getElem_extract] at hv
        rw [Array.getElem?_eq_getElem hjs]
        exact hv
      · have hlt : fd.offset < vs.size := by omega
        refine ⟨vs[fd.offset], ?_, hall _ _ _ (by simp [hlt]) hx⟩
        simp [execOp, ho, he, Instr.field, run_underlying hu, hf, asAgg, part, run_isAgg hd, h1, hlt]

theorem run_indexAt_arr {T e : TypeId} {n : Nat} {i : TypeInfo} {k : IntKind} {j : Int} (hu : P.underlying T = some (.array n e)) (hi : P.info? e = some i) (h0 : 0 ≤ j) (h1 : j < n) (b off : Nat) (w : World) :
    (Instr.indexAt T (.pointer (some ⟨b, off, none⟩)) (.int k j)).run P w = .ok (.pointer (some ⟨b, off + j.toNat * i.size, none⟩)) w := by
  simp [Instr.indexAt, asIntOf, run_underlying hu, Instr.sureAddr, h0, h1, run_size hi, add_none]

theorem LT_indexArr {T e : TypeId} {n : Nat} {i : TypeInfo} {k : IntKind} {j : Int} {y z : Operand} {id off : Nat} (ho : o.op = .indexAddr T y z) (hy : opX E y = .ptr id off) (hz : opX E z = .d (.int k j)) (hu : P.underlying T = some (.array n e)) (hi : P.info? e = some i) (h0 : 0 ≤ j) (h1 : j < n)
    (off' : Nat) (hoff : off + j.toNat * i.size = off') : LT P o E H R nw [] (.ptr id off') :=
  LT_read fun G ρ H1 a w hs hh _ => by
    have g1 := hh y (by simp [ho, Op.operands])
    have g2 := hh z (by simp [ho, Op.operands])
    rw [hy] at g1
    rw [hz] at g2
    generalize he : a.eval y = v at g1
    cases g1 with
    | ptr _ _ b cap hr =>
      refine ⟨.pointer (some ⟨b, off', none⟩), ?_, .ptr id off' b cap hr⟩
      simp [execOp, ho, he, g2.int_inv, run_indexAt_arr hu hi h0 h1, hoff]

theorem LT_indexOwn {T e : TypeId} {n m : Nat} {i : TypeInfo} {k : IntKind} {j : Int} {y z : Operand} {id : Nat} (ho : o.op = .indexAddr T y z) (hy : opX E y = .own id n m) (hz : opX E z = .d (.int k j)) (hu : P.underlying T = some (.slice e)) (hi : P.info? e = some i) (h0 : 0 ≤ j) (h1 : j < n)
    (off' : Nat) (hoff : j.toNat * i.size = off') : LT P o E H R nw [] (.ptr id off') :=
  LT_read fun G ρ H1 a w hs hh _ => by
    have g1 := hh y (by simp [ho, Op.operands])
    have g2 := hh z (by simp [ho, Op.operands])
    rw [hy] at g1
    rw [hz] at g2
    generalize he : a.eval y = v at g1
    cases g1 with
    | own0 => exact absurd h1 (by omega)
    | own _ _ _ b cap hr =>
      refine ⟨.pointer (some ⟨b, off', none⟩), ?_, .ptr id off' b cap hr⟩
      simp [execOp, ho, he, g2.int_inv, Instr.indexAt, asIntOf, run_underlying hu, h0, h1, run_size hi, add_none, hoff]

theorem RD.sl_inv {w : World} {M : Nat → Prop} {v : Value} {n e : Nat} {c : List D} (h : RD w M v (.sl n e c)) : ∃ a cap, v = .slice a n cap ∧ (0 < n → n ≤ cap) ∧ c.length = n * e ∧ (0 < n → ∃ (b off : Nat) (g : Nat → Value), a = some ⟨b, off, none⟩ ∧ b < w.heap.size ∧ ¬ M b ∧ (∀ i, i < n * e → w.cell? ⟨b, off + i, none⟩ = some (g i)) ∧ ∀ i x, c[i]? = some x → RD w M (g i) x) := by
  cases h with
  | nil0 => exact ⟨none, 0, rfl, fun h => absurd h (by omega), by simp, fun h => absurd h (by omega)⟩
  | nil a cap e he => exact ⟨a, cap, rfl, fun h => absurd h (by omega), by simp, fun h => absurd h (by omega)⟩
  | sl b off n cap e c g hn hcap hc hb hm hg hr => exact ⟨_, cap, rfl, fun _ => hcap, hc, fun _ => ⟨b, off, g, rfl, hb, hm, hg, hr⟩⟩

theorem RV.sl_inv {w : World} {M : Nat → Prop} {ρ : Rho} {v : Value} {n e : Nat} {c : List D} (h : RV w M ρ v (.d (.sl n e c))) : ∃ a cap, v = .slice a n cap ∧ (0 < n → n ≤ cap) ∧ c.length = n * e ∧ (0 < n → ∃ (b off : Nat) (g : Nat → Value), a = some ⟨b, off, none⟩ ∧ b < w.heap.size ∧ ¬ M b ∧ (∀ i, i < n * e → w.cell? ⟨b, off + i, none⟩ = some (g i)) ∧ ∀ i x, c[i]? = some x → RD w M (g i) x) := by
  cases h with | d h => exact h.sl_inv

theorem LT_indexD {T e : TypeId} {n m : Nat} {c c' : List D} {i : TypeInfo} {k : IntKind} {j : Int} {y z : Operand} (ho : o.op = .indexAddr T y z) (hy : opX E y = .d (.sl n m c)) (hz : opX E z = .d (.int k j)) (hu : P.underlying T = some (.slice e)) (hi : P.info? e = some i) (hm : i.size = m) (h0 : 0 ≤ j) (h1 : j < n)
    (hc' : (c.drop (j.toNat * m)).take m = c') : LT P o E H R nw [] (.dptr c') :=
  LT_read fun G ρ H1 a w hs hh _ => by
    have g1 := hh y (by simp [ho, Op.operands])
    have g2 := hh z (by simp [ho, Op.operands])
    rw [hy] at g1
    rw [hz] at g2
    obtain ⟨ad, cap, he, hncap, hlen, hpos⟩ := g1.sl_inv
    obtain ⟨b, off, g, rfl, hb, hmb, hg, hr⟩ := hpos (by omega)
    have hjn : j.toNat < n := by omega
    have hin : ∀ i, i < m → j.toNat * m + i < n * m := fun i hi => by
      have : (j.toNat + 1) * m ≤ n * m := Nat.mul_le_mul_right _ (by omega)
      rw [Nat.succ_mul] at this
      omega
    refine ⟨.pointer (some ⟨b, off + j.toNat * m, none⟩), ?_, .dptr b _ c' (fun i => g (j.toNat * m + i)) hb hmb (fun i hi => ?_) fun i x hx => ?_⟩
    · simp [execOp, ho, he, g2.int_inv, Instr.indexAt, asIntOf, run_underlying hu, h0, h1, run_size hi, add_none, hm]
    · rw [Nat.add_assoc]
      refine hg _ (hin i ?_)
      rw [← hc', List.length_take] at hi
      omega
    · rw [← hc'] at hx
      have hi : i < m := by
        have := (List.getElem?_eq_some_iff.1 hx).1
        rw [List.length_take] at this
        omega
      rw [List.getElem?_take_of_lt hi, List.getElem?_drop] at hx
      exact hr _ x hx

theorem LT_indexS {T : TypeId} {s : ByteArray} {k : IntKind} {j : Int} {y z : Operand} {c : Int} (ho : o.op = .index T y z) (hy : opX E y = .d (.str s)) (hz : opX E z = .d (.int k j)) (hu : P.underlying T = some .string) (h0 : 0 ≤ j) (h1 : j < s.size) (hc : (s[j.toNat]!.toNat : Int) = c) : LT P o E H R nw [] (.d (.int .u8 c)) :=
  LT_read fun G ρ H1 a w hs hh _ => by
    have g1 := hh y (by simp [ho, Op.operands])
    have g2 := hh z (by simp [ho, Op.operands])
    rw [hy] at g1
    rw [hz] at g2
    refine ⟨.int .u8 c, ?_, .d (.int _ _)⟩
    have hlt : j.toNat < s.size := by omega
    have hb : s[j.toNat]? = some s[j.toNat]! := by
      rw [getElem?_pos s j.toNat hlt]
      congr 1
      exact (getElem!_pos s j.toNat hlt).symm
    simp [execOp, ho, g1.str_inv, g2.int_inv, Instr.index, asIntOf, run_underlying hu, h0, hb, hc]

theorem LT_indexA {T e : TypeId} {n : Nat} {i : TypeInfo} {d : TypeDesc} {k : IntKind} {j : Int} {y z : Operand} {cs : List X} {x : X} (ho : o.op = .index T y z) (hy : opX E y = .agg cs) (hz : opX E z = .d (.int k j)) (hu : P.underlying T = some (.array n e)) (hi : P.info? e = some i) (hd : P.underlying e = some d) (h0 : 0 ≤ j) (h1 : j < n)
    (m : Nat) (hn : j.toNat * i.size + m ≤ cs.length) (hx : (aggB d = true ∧ i.size = m ∧ x = .agg ((cs.drop (j.toNat * i.size)).take m)) ∨ (aggB d = false ∧ m = 1 ∧ cs[j.toNat * i.size]? = some x)) : LT P o E H R nw [] x :=
  LT_read fun G ρ H1 a w hs hh _ => by
    have g1 := hh y (by simp [ho, Op.operands])
    have g2 := hh z (by simp [ho, Op.operands])
    rw [hy] at g1
    rw [hz] at g2
    generalize he : a.eval y = v at g1
    cases g1 with
    | agg vs _ hsz hall =>
      rcases hx with ⟨h3, h2, rfl⟩ | ⟨h3, h2, hx⟩
      · refine ⟨.agg (vs.extract (j.toNat * i.size) (j.toNat * i.size + m)), by simp [execOp, ho, he, g2.int_inv, Instr.index, asIntOf, run_underlying hu, h0, h1, run_size hi, part, run_isAgg hd, h3, h2], ?_⟩
        refine .agg _ _ (by simp; omega) fun q v x hv hx => ?_
        have hj : q < m := by
          have := (List.getElem?_eq_some_iff.1 hx).1
          simp at this; omega
        rw [List.getElem?_take_of_lt hj, List.getElem?_drop] at hx
        refine hall (j.toNat * i.size + q) v x ?_ hx
        have hjs : j.toNat * i.size + q < vs.size := by omega
        have : q < (vs.extract (j.toNat * i.size) (j.toNat * i.size + m)).size := by simp; omega
        rw [Array.getElem?_eq_getElem this, Array.getElem_extract] at hv
        rw [Array.getElem?_eq_getElem hjs]
        exact hv
      · have hlt : j.toNat * i.size < vs.size := by omega
        refine ⟨vs[j.toNat * i.size], ?_, hall _ _ _ (by simp [hlt]) hx⟩
        simp [execOp, ho, he, g2.int_inv, Instr.index, asIntOf, run_underlying hu, h0, h1, run_size hi, part, run_isAgg hd, h3, hlt]

/-! ### builtins -/
theorem LT_builtin {b : Builtin} {ys : Array Operand} {ts : Array TypeId} {x : X} (ho : o.op = .call ⟨.builtin b, ys, ts⟩) (h : ∀ (G : Ctx) (ρ : Rho) (H1 : Heap) (a : Act) (w : World), Sat G ρ H1 w → (∀ y, y ∈ ys.toList → RV w (G.M ρ H1) ρ (a.eval y) (opX E y)) → (∀ id, id ∈ R → look H1 id = look H id) →
    ∃ v, ∀ cs, (builtin b ts o.type cs (ys.map a.eval)).run P w = .ok (.value v) w ∧ RV w (G.M ρ H1) ρ v x) : LT P o E H R nw [] x :=
  LT_read fun G ρ H1 a w hs hh hR => by
    obtain ⟨v, hv⟩ := h G ρ H1 a w hs (fun y hy => hh y (by simp [ho, Op.operands, Call.operands]; simpa using hy)) hR
    refine ⟨v, ?_, (hv #[]).2⟩
    simp only [execOp, ho, resolve, Sem.run_bind, Sem.run_pure, Result.andThen_ok, invoke]
    exact (hv _).1

theorem LT_lenS {y : Operand} {T : TypeId} {s : ByteArray} (ho : o.op = .call ⟨.builtin .len, #[y], #[T]⟩) (hT : P.underlying T = some .string) (hy : opX E y = .d (.str s)) : LT P o E H R nw [] (.d (.int .i64 s.size)) :=
  LT_builtin ho fun G ρ H1 a w hs hh _ => by
    have g1 := hh y (by simp)
    rw [hy] at g1
    refine ⟨.int .i64 s.size, fun cs => ⟨?_, .d (.int _ _)⟩⟩
    simp [builtin, Builtin.len_, g1.str_inv, run_underlying hT, goInt]

theorem LT_lenD {y : Operand} {T e : TypeId} {n m : Nat} {c : List D} (ho : o.op = .call ⟨.builtin .len, #[y], #[T]⟩) (hT : P.underlying T = some (.slice e)) (hy : opX E y = .d (.sl n m c)) : LT P o E H R nw [] (.d (.int .i64 n)) :=
  LT_builtin ho fun G ρ H1 a w hs hh _ => by
    have g1 := hh y (by simp)
    rw [hy] at g1
    obtain ⟨ad, cap, he, _⟩ := g1.sl_inv
    refine ⟨.int .i64 n, fun cs => ⟨?_, .d (.int _ _)⟩⟩
    simp [builtin, Builtin.len_, he, run_underlying hT, goInt]

theorem LT_lenO {y : Operand} {T e : TypeId} {id n m : Nat} (ho : o.op = .call ⟨.builtin .len, #[y], #[T]⟩) (hT : P.underlying T = some (.slice e)) (hy : opX E y = .own id n m) : LT P o E H R nw [] (.d (.int .i64 n)) :=
  LT_builtin ho fun G ρ H1 a w hs hh _ => by
    have g1 := hh y (by simp)
    rw [hy] at g1
    generalize he : a.eval y = v at g1
    cases g1 with
    | own0 =>
      refine ⟨.int .i64 0, fun cs => ⟨?_, .d (.int _ _)⟩⟩
      simp [builtin, Builtin.len_, he, run_underlying hT, goInt]
    | own _ _ _ b cap hr =>
      refine ⟨.int .i64 n, fun cs => ⟨?_, .d (.int _ _)⟩⟩
      simp [builtin, Builtin.len_, he, run_underlying hT, goInt]

theorem LT_min2 {y z : Operand} {t u : TypeId} {k k2 : IntKind} {a b r : Int} (ho : o.op = .call ⟨.builtin .min, #[y, z], #[t, u]⟩) (hy : opX E y = .d (.int k a)) (hz : opX E z = .d (.int k2 b)) (hr : min a b = r) : LT P o E H R nw [] (.d (.int k r)) :=
  LT_builtin ho fun G ρ H1 ac w hs hh _ => by
    have g1 := hh y (by simp)
    have g2 := hh z (by simp)
    rw [hy] at g1
    rw [hz] at g2
    refine ⟨.int k r, fun cs => ⟨?_, .d (.int _ _)⟩⟩
    have : (if b < a then b else a) = r := by rw [← hr]; split <;> omega
    simp [builtin, Builtin.min_, Builtin.min2, g1.int_inv, g2.int_inv, this]
theorem LT_max2 {y z : Operand} {t u : TypeId} {k k2 : IntKind} {a b r : Int} (ho : o.op = .call ⟨.builtin .max, #[y, z], #[t, u]⟩) (hy : opX E y = .d (.int k a)) (hz : opX E z = .d (.int k2 b)) (hr : max a b = r) : LT P o E H R nw [] (.d (.int k r)) :=
  LT_builtin ho fun G ρ H1 ac w hs hh _ => by
    have g1 := hh y (by simp)
    have g2 := hh z (by simp)
    rw [hy] at g1
    rw [hz] at g2
    refine ⟨.int k r, fun cs => ⟨?_, .d (.int _ _)⟩⟩
    have : (if b > a then b else a) = r := by rw [← hr]; split <;> omega
    simp [builtin, Builtin.max_, Builtin.max2, g1.int_inv, g2.int_inv, this]

/-! ### parts -/
/-- a bound of a slice expression -/
def bnd (E : Env) : Option Operand → Option Int
  | none => none
  | some y => match opX E y with | .d (.int _ n) => some n | _ => none

theorem LT_sliceS {T : TypeId} {y : Operand} {lo hi : Option Operand} {s : ByteArray} {l h : Int} (ho : o.op = .slice T y lo hi none) (hT : P.underlying T = some .string) (hy : opX E y = .d (.str s))
    (hlo : (lo = none ∧ l = 0) ∨ ∃ z k, lo = some z ∧ opX E z = .d (.int k l)) (hhi : (hi = none ∧ h = s.size) ∨ ∃ z k, hi = some z ∧ opX E z = .d (.int k h)) (h0 : 0 ≤ l) (h1 : l ≤ h) (h2 : h ≤ s.size) {r : ByteArray} (hr : s.extract l.toNat h.toNat = r) : LT P o E H R nw [] (.d (.str r)) := by
  subst hr
  exact LT_read fun G ρ H1 a w hs hh _ => by
    have g1 := hh y (by simp [ho, Op.operands])
    rw [hy] at g1
    refine ⟨.string (s.extract l.toNat h.toNat), ?_, .d (.str _)⟩
    have hh2 : h.toNat ≤ s.size := by omega
    have hl2 : l.toNat ≤ h.toNat := by omega
    rcases hlo with ⟨rfl, rfl⟩ | ⟨z, k, rfl, hz⟩ <;> rcases hhi with ⟨rfl, rfl⟩ | ⟨z2, k2, rfl, hz2⟩
    · simp [execOp, ho, g1.str_inv, Instr.sliceAt, run_underlying hT, Instr.slice, Instr.sliceBounds]
    · have g3 := hh z2 (by simp [ho, Op.operands])
      rw [hz2] at g3
      have : 0 ≤ h := by omega
      simp [execOp, ho, g1.str_inv, Instr.sliceAt, run_underlying hT, Instr.slice, Instr.sliceBounds, Instr.sliceBound, asIntOf, g3.int_inv, h2, this]
    · have g3 := hh z (by simp [ho, Op.operands])
      rw [hz] at g3
      simp [execOp, ho, g1.str_inv, Instr.sliceAt, run_underlying hT, Instr.slice, Instr.sliceBounds, Instr.sliceBound, asIntOf, g3.int_inv, h0, h1]
    · have g3 := hh z (by simp [ho, Op.operands])
      have g4 := hh z2 (by simp [ho, Op.operands])
      rw [hz] at g3
      rw [hz2] at g4
      have : 0 ≤ h := by omega
      simp [execOp, ho, g1.str_inv, Instr.sliceAt, run_underlying hT, Instr.slice, Instr.sliceBounds, Instr.sliceBound, asIntOf, g3.int_inv, g4.int_inv, h0, h2, this]
      intro hq; omega

theorem cut_facts {l h : Int} {n r : Nat} (h0 : 0 ≤ l) (h1 : l ≤ h) (h2 : h ≤ n) (hr : (h - l).toNat = r) : h.toNat - l.toNat = r ∧ l.toNat + r ≤ n ∧ (r ≠ 0 → 0 < n) ∧ (r ≠ 0 → 0 < r) := by omega

theorem LT_sliceD {T e : TypeId} {y : Operand} {lo hi : Option Operand} {n m : Nat} {c c' : List D} {i : TypeInfo} {l h : Int} (r : Nat) (ho : o.op = .slice T y lo hi none) (hT : P.underlying T = some (.slice e)) (hi' : P.info? e = some i) (hm : i.size = m) (hy : opX E y = .d (.sl n m c))
    (hlo : (lo = none ∧ l = 0) ∨ ∃ z k, lo = some z ∧ opX E z = .d (.int k l)) (hhi : (hi = none ∧ h = n) ∨ ∃ z k, hi = some z ∧ opX E z = .d (.int k h)) (h0 : 0 ≤ l) (h1 : l ≤ h) (h2 : h ≤ n) (hr : (h - l).toNat = r) (hc' : (c.drop (l.toNat * m)).take (r * m) = c') (hm0 : 0 < m := by first | decide | omega) : LT P o E H R nw [] (.d (.sl r m c')) :=
  LT_read fun G ρ H1 a w hs hh _ => by
    have g1 := hh y (by simp [ho, Op.operands])
    rw [hy] at g1
    obtain ⟨ad, cap, he, hncap, hlen, hpos⟩ := g1.sl_inv
    have hnc : n ≤ cap := by
      rcases Nat.eq_zero_or_pos n with hq | hq
      · omega
      · exact hncap hq
    have hrun : (execOp a.eval o).run P w = .ok (.value (.slice (if cap = l.toNat then ad else ad.map (·.add (l.toNat * m))) (h.toNat - l.toNat) (cap - l.toNat))) w := by
      rcases hlo with ⟨rfl, rfl⟩ | ⟨z, k, rfl, hz⟩ <;> rcases hhi with ⟨rfl, rfl⟩ | ⟨z2, k2, rfl, hz2⟩
      · simp [execOp, ho, he, Instr.sliceAt, run_underlying hT, Instr.slice, Instr.sliceBounds, run_size hi', hm]
      · have g3 := hh z2 (by simp [ho, Op.operands])
        rw [hz2] at g3
        have b1 : 0 ≤ h := by omega
        have b2 : h ≤ cap := by omega
        simp [execOp, ho, he, Instr.sliceAt, run_underlying hT, Instr.slice, Instr.sliceBounds, Instr.sliceBound, asIntOf, g3.int_inv, b1, b2, run_size hi', hm]
      · have g3 := hh z (by simp [ho, Op.operands])
        rw [hz] at g3
        simp [execOp, ho, he, Instr.sliceAt, run_underlying hT, Instr.slice, Instr.sliceBounds, Instr.sliceBound, asIntOf, g3.int_inv, h0, h1, run_size hi', hm]
      · have g3 := hh z (by simp [ho, Op.operands])
        have g4 := hh z2 (by simp [ho, Op.operands])
        rw [hz] at g3
        rw [hz2] at g4
        have b1 : 0 ≤ h := by omega
        have b2 : h ≤ cap := by omega
        simp [execOp, ho, he, Instr.sliceAt, run_underlying hT, Instr.slice, Instr.sliceBounds, Instr.sliceBound, asIntOf, g3.int_inv, g4.int_inv, b1, b2, h0, run_size hi', hm]
        intro hq; omega
    refine ⟨_, hrun, .d ?_⟩
    obtain ⟨hr2, hr3, hr4, hr5⟩ := cut_facts h0 h1 h2 hr
    rw [hr2]
    have hcl : c'.length = r * m := by
      rw [← hc', List.length_take, List.length_drop, hlen]
      have : (l.toNat + r) * m ≤ n * m := Nat.mul_le_mul_right _ hr3
      rw [Nat.add_mul] at this
      omega
    by_cases hr0 : r = 0
    · subst hr0
      have : c' = [] := by rw [← List.length_eq_zero_iff]; simpa using hcl
      subst this
      exact .nil _ _ _ hm0
    · obtain ⟨b, off, g, rfl, hb, hmb, hg, hrr⟩ := hpos (hr4 hr0)
      rw [if_neg (show ¬ cap = l.toNat from Nat.ne_of_gt (Nat.lt_of_lt_of_le (Nat.lt_of_lt_of_le (Nat.lt_add_of_pos_right (hr5 hr0)) hr3) hnc))]
      simp only [Option.map_some, add_none]
      have hin : ∀ i, i < r * m → l.toNat * m + i < n * m := fun i hi => by
        have : (l.toNat + r) * m ≤ n * m := Nat.mul_le_mul_right _ hr3
        rw [Nat.add_mul] at this
        omega
      refine .sl b _ r _ m c' (fun i => g (l.toNat * m + i)) (hr5 hr0) (Nat.le_sub_of_add_le (Nat.add_comm _ _ ▸ Nat.le_trans hr3 hnc)) hcl hb hmb (fun i hi => ?_) fun i x hx => ?_
      · rw [Nat.add_assoc]; exact hg _ (hin i hi)
      · have hi : i < r * m := by
          have := (List.getElem?_eq_some_iff.1 hx).1
          omega
        rw [← hc', List.getElem?_take_of_lt hi, List.getElem?_drop] at hx
        exact hrr _ x hx

/-- []byte(s) -/
def bytesD (s : ByteArray) : List D := s.data.toList.map fun b => .int .u8 b.toNat

end
end Go.Proofs.Ytphfbjeaklpddaa

/- The calculus of states: calls by contracts; octets of a string. -/
namespace Go.Proofs.Ytphfbjeaklpddaa
open Go.RowKit

/-- nothing is named -/
def noRho : Rho := fun _ => none

/-- the function f, of what is only read, answers r, makes new memory alone, and what it answers lies outside of M -/
def PC (P : Program) (f : FuncId) (xs : List X) (r : X) : Prop :=
  ∀ (w : World) (M : Nat → Prop) (vs : Array Value), (∀ b, M b → b < w.heap.size) → vs.size = xs.length → (∀ (i : Nat) v x, vs[i]? = some v → xs[i]? = some x → RV w M noRho v x) →
    Calls P f vs w fun e w' => ∃ v, e = .returned v ∧ RV w' M noRho v r ∧ Below w.heap.size w w'

/-- the function f, called in a state: it reads the names R, gives the names nw, turns the blocks as u says, and answers r -/
def CT (P : Program) (f : FuncId) (xs : List X) (H : Heap) (R nw : List Nat) (u : Upds) (r : X) : Prop :=
  ∀ (G : Ctx) (ρ : Rho) (H1 : Heap) (vs : Array Value) (w : World), Sat G ρ H1 w → vs.size = xs.length → (∀ (i : Nat) v x, vs[i]? = some v → xs[i]? = some x → RV w (G.M ρ H1) ρ v x) → (∀ id, id ∈ R → look H1 id = look H id) → (∀ id, id ∈ nw → ρ id = none) →
    Calls P f vs w fun e w' => ∃ v ρ', e = .returned v ∧ Ext ρ ρ' ∧ (∀ id, ρ' id ≠ none → ρ id ≠ none ∨ id ∈ nw) ∧ Later w (G.M ρ H1) w' (G.M ρ' (u ++ H1)) ∧ RV w' (G.M ρ' (u ++ H1)) ρ' v r ∧ Sat G ρ' (u ++ H1) w'

theorem PC.ct {P : Program} {f : FuncId} {xs : List X} {r : X} {H : Heap} {R nw : List Nat} (h : PC P f xs r) (hx : (X.idsL xs).isEmpty = true) : CT P f xs H R nw [] r := by
  intro G ρ H1 vs w hs hsz hv _ _
  have hx' : X.idsL xs = [] := by simpa using hx
  refine (h w (G.M ρ H1) vs (fun b hb => hs.M_lt hb) hsz fun i v x h1 h2 => (hv i v x h1 h2).fewer fun id hid => ?_).mono ?_
  · have := X.mem_idsL (List.mem_of_getElem? h2) hid
    rw [hx'] at this
    cases this
  · rintro e w' ⟨v, he, hr, hb⟩
    exact ⟨v, ρ, he, Ext.refl _, fun _ h => .inl h, later_grow hb, (hr.later (Later.refl _ _) (fun _ _ h => by cases h)), hs.grow hb⟩

section
variable {P : Program} {o : Oper} {E : Env} {H : Heap} {R nw : List Nat}

theorem LT_grow {x : X} (h : ∀ (G : Ctx) (ρ : Rho) (H1 : Heap) (a : Act) (w : World), Sat G ρ H1 w → (∀ y, y ∈ o.op.operands.toList → RV w (G.M ρ H1) ρ (a.eval y) (opX E y)) →
    ∃ v w', (execOp a.eval o).run P w = .ok (.value v) w' ∧ Below w.heap.size w w' ∧ RV w' (G.M ρ H1) ρ v x) : LT P o E H R nw [] x := by
  intro G ρ H1 a w hs ho hR _ next Q hK
  obtain ⟨v, w', hr, hb, hv⟩ := h G ρ H1 a w hs ho
  unfold Oper.wp
  rw [hr]
  exact hK v w' ρ (Ext.refl _) (fun _ h => .inl h) (later_grow hb) hv (hs.grow hb)

def Ent (P : Program) (f : FuncId) : Prop := ∀ args w, (callFunc f args).run P w = .ok (.enter f args) w

theorem ent_of {f : FuncId} {fn : Func} (hf : P.funcs[f]? = some fn) (hn : (fn.name == "runtime.NumGoroutine") = false) (hb : fn.body.isNone = false) : Ent P f := by
  intro args w
  have hn' : (fn.name = "runtime.NumGoroutine") = False := by simpa using hn
  cases hbd : fn.body with
  | none => rw [hbd] at hb; cases hb
  | some c => simp [callFunc, hf, hn', hbd]

theorem upon_call {f : FuncId} {args : Array Value} {a : Act} {w : World} {next : Act → World → Prop} {Q : Exit → Act → World → Prop} {R' : Ending → World → Prop} (h : Calls P f args w R') (hn : ∀ e w', R' e w' → ∃ v, e = .returned v ∧ next (a.put o.dst v) w') : o.upon P a next Q (.ok (.enter f args) w) := by
  simp only [Oper.upon]
  refine h.mono fun e w' he => ?_
  obtain ⟨v, rfl, hh⟩ := hn e w' he
  exact hh

theorem RV.fn_inv {w : World} {M : Nat → Prop} {ρ : Rho} {v : Value} {f : FuncId} (h : RV w M ρ v (.d (.fn f))) : v = .func (.func f) #[] #[] := by
  cases h with | d h => cases h; rfl

/-- a call of a function that is named, or that a slot holds without anything captured -/
theorem LT_call {y : Operand} {ys : Array Operand} {ts : Array TypeId} {f : FuncId} {u : Upds} {r : X} (xs : List X) (ho : o.op = .call ⟨.value y, ys, ts⟩) (hy : opX E y = .d (.fn f)) (he : Ent P f) (hxs : ys.toList.map (opX E) = xs) (h : CT P f xs H R nw u r) : LT P o E H R nw u r := by
  intro G ρ H1 a w hs hh hR hn next Q hK
  have g1 := hh y (by simp [ho, Op.operands, Call.operands])
  rw [hy] at g1
  have hrun : (execOp a.eval o).run P w = .ok (.enter f (ys.map a.eval)) w := by
    simp [execOp, ho, resolve, g1.fn_inv, Deferred.ofValue, invoke]
    exact he _ _
  unfold Oper.wp
  rw [hrun]
  refine upon_call (h G ρ H1 (ys.map a.eval) w hs (by rw [← hxs]; simp) (fun i v x hv hx => ?_) hR hn) ?_
  · rw [← hxs, List.getElem?_map, Array.getElem?_toList] at hx
    rw [Array.getElem?_map] at hv
    cases hq : ys[i]? with
    | none => rw [hq] at hv; cases hv
    | some q =>
      rw [hq] at hv hx
      cases hv; cases hx
      exact hh q (by simp [ho, Op.operands, Call.operands, Array.mem_of_getElem? hq])
  · rintro e w' ⟨v, ρ', rfl, h1, h2, h3, h4, h5⟩
    exact ⟨v, rfl, hK v w' ρ' h1 h2 h3 h4 h5⟩

/-- a call of a closure -/
theorem LT_callC {y : Operand} {ys : Array Operand} {ts : Array TypeId} {f : FuncId} {fs cs : List X} {u : Upds} {r : X} (xs : List X) (ho : o.op = .call ⟨.value y, ys, ts⟩) (hy : opX E y = .func (.func f) fs cs) (he : Ent P f) (hxs : fs ++ ys.toList.map (opX E) ++ cs = xs) (h : CT P f xs H R nw u r) : LT P o E H R nw u r := by
  intro G ρ H1 a w hs hh hR hn next Q hK
  have g1 := hh y (by simp [ho, Op.operands, Call.operands])
  rw [hy] at g1
  generalize hv0 : a.eval y = v0 at g1
  cases g1 with
  | func _ vf vc _ _ hf hc k1 k2 =>
    have hrun : (execOp a.eval o).run P w = .ok (.enter f (vf ++ ys.map a.eval ++ vc)) w := by
      simp only [execOp, ho, resolve, hv0, Deferred.ofValue, invoke, Sem.run_bind, Sem.run_pure, Result.andThen_ok]
      exact he _ _
    unfold Oper.wp
    rw [hrun]
    refine upon_call (h G ρ H1 _ w hs (by rw [← hxs]; simp [hf, hc]) (fun i v x hv hx => ?_) hR hn) ?_
    · rw [← hxs] at hx
      rw [← Array.getElem?_toList, Array.toList_append, Array.toList_append, List.append_assoc] at hv
      rw [List.append_assoc] at hx
      have hf' : vf.toList.length = fs.length := by simpa using hf
      by_cases h1 : i < fs.length
      · rw [List.getElem?_append_left (by omega)] at hv hx
        exact k1 i v x (by simpa using hv) hx
      · rw [List.getElem?_append_right (by omega)] at hv hx
        rw [hf'] at hv
        have hy' : (ys.map a.eval).toList.length = (ys.toList.map (opX E)).length := by simp
        by_cases h2 : i - fs.length < (ys.toList.map (opX E)).length
        · rw [List.getElem?_append_left (by omega)] at hv hx
          rw [List.getElem?_map, Array.getElem?_toList] at hx
          rw [Array.getElem?_toList, Array.getElem?_map] at hv
          cases hq : ys[i - fs.length]? with
          | none => rw [hq] at hv; cases hv
          | some q =>
            rw [hq] at hv hx
            cases hv; cases hx
            exact hh q (by simp [ho, Op.operands, Call.operands, Array.mem_of_getElem? hq])
        · rw [List.getElem?_append_right (by omega)] at hv hx
          rw [hy'] at hv
          exact k2 _ v x (by simpa using hv) hx
    · rintro e w' ⟨v, ρ', rfl, h1, h2, h3, h4, h5⟩
      exact ⟨v, rfl, hK v w' ρ' h1 h2 h3 h4 h5⟩

/-! ### octets of a string -/
theorem LT_bytes {S T e : TypeId} {ds : TypeDesc} {y : Operand} {s : ByteArray} (ho : o.op = .convert S T y) (hS : P.underlying S = some ds) (hT : P.underlying T = some (.slice e)) (he : P.underlying e = some (.int .u8)) (hy : opX E y = .d (.str s)) : LT P o E H R nw [] (.d (.sl s.size 1 (bytesD s))) :=
  LT_grow fun G ρ H1 a w hs hh => by
    have g1 := hh y (by simp [ho, Op.operands])
    rw [hy] at g1
    let cap := (Question.appendCap s.size 0 e).cut (w.tape w.drawn (.appendCap s.size 0 e))
    let elems : Array Value := s.data.map fun b => .int .u8 b.toNat
    let cells : Array Value := elems ++ Array.replicate (cap - s.size) (.int .u8 0)
    let w1 : World := { w with drawn := w.drawn + 1 }
    let w2 := w1.alloc (.cells cells e)
    have hcap : s.size ≤ cap := by show s.size ≤ s.size + _; omega
    have hb2 : Below w.heap.size w w2 := ((Below.refl _ w).drew).alloc (Nat.le_refl _) _
    have hw2 : w2.heap[w.heap.size]? = some (.cells cells e (0, 0)) := heap_new w1 _
    let w3 := w2.freeze ⟨w.heap.size, cells.size, none⟩ 1
    have hw3 : w3.heap[w.heap.size]? = some (.cells cells e (cells.size, cells.size + 1)) := by
      show (w2.freeze _ 1).heap[_]? = _
      simp [World.freeze, Array.getElem?_modify, hw2]
    have hb3 : Below w.heap.size w w3 := hb2.trans ⟨by simp [w3, World.freeze], by simp [w3, World.freeze], by simp [w3, World.freeze], by simp [w3, World.freeze], fun k hk => by
      show (w2.freeze _ 1).heap[k]? = _
      simp only [World.freeze, Nat.one_ne_zero, if_false, Array.getElem?_modify]
      rw [if_neg (by omega)]⟩
    have hsh : w2.shape? w.heap.size = some (e, cells.size) := by simp [World.shape?, hw2]
    have hrun : (execOp a.eval o).run P w = .ok (.value (.slice (some ⟨w.heap.size, 0, none⟩) s.size cap)) w3 := by
      have hq : (Question.appendCap s.size 0 e).forced = false := rfl
      have hmk : (markStringish ⟨w.heap.size, 0, none⟩).run P w2 = .ok () w3 := by
        simp [markStringish, hsh]
        rfl
      simp only [execOp, ho, g1.str_inv, convert, Sem.run_bind, run_underlying hS, run_underlying hT, Result.andThen_ok, run_underlying he, Conv.stringToBytes, run_choose, hq, newRow, run_newObj, Sem.run_pure, Bool.false_eq_true, if_false]
      show Result.andThen (Result.andThen ((markStringish ⟨w.heap.size, 0, none⟩).run P w2) _) _ = _
      rw [hmk]
      rfl
    refine ⟨_, w3, hrun, hb3, .d ?_⟩
    rcases Nat.eq_zero_or_pos s.size with h0 | h0
    · rw [h0]
      have : bytesD s = [] := by
        have hl : s.data.toList.length = 0 := by simpa using h0
        simp [bytesD, List.length_eq_zero_iff.1 hl]
      rw [this]
      exact .nil _ _ _ (by omega)
    · have hsz : w.heap.size < w3.heap.size := lt_of_heap hw3
      refine .sl _ 0 _ cap 1 _ (fun i => .int .u8 (s.data.toList[i]?.getD 0).toNat) h0 hcap (by simp [bytesD]) hsz (fun hm => absurd (hs.M_lt hm) (by omega)) (fun i hi => ?_) fun i x hx => ?_
      · have hi' : i < s.data.size := by rw [Nat.mul_one] at hi; exact hi
        simp only [World.cell?, hw3, Nat.zero_add]
        have h1 : cells[i]? = elems[i]? := by
          show (elems ++ _)[i]? = _
          rw [Array.getElem?_append_left (by simpa [elems] using hi')]
        rw [h1]
        simp [elems, Array.getElem?_eq_getElem hi', hi']
      · unfold bytesD at hx
        rw [List.getElem?_map] at hx
        cases hq : s.data.toList[i]? with
        | none => rw [hq] at hx; cases hx
        | some q =>
          rw [hq] at hx
          cases hx
          simp only [Option.getD_some]
          exact .int _ _

/-! ### a function's contract from its body -/
/-- the answer of a body -/
def Res1 (P : Program) (s : St) : ResultVar → X → Prop
  | .tmp t, x => get s.E t = x
  | .cell a T, x => ∃ id off ob d i n, get s.E a = .ptr id off ∧ look s.H id = some ob ∧ P.underlying T = some d ∧ P.info? T = some i ∧ off + n ≤ ob.cs.length ∧
      ((aggB d = true ∧ i.size = n ∧ x = .agg ((ob.cs.drop off).take n)) ∨ (aggB d = false ∧ n = 1 ∧ ob.cs[off]? = some x))

def ResL (P : Program) (s : St) : List ResultVar → List X → Prop
  | [], [] => True
  | r :: rs, x :: xs => Res1 P s r x ∧ ResL P s rs xs
  | _, _ => False

def Fin (P : Program) (fn : Func) (r : X) (ex : Exit) (s : St) : Prop :=
  (ex = .ret ∨ ex = .normal) ∧ ∃ xs, ResL P s fn.results.toList xs ∧ (r = match xs with | [x] => x | xs => .tup xs)

def evR (tmps : Array Value) : ResultVar → Sem Value
  | .tmp t => pure (tmps.getD t undef)
  | .cell p T => do loadVar T (← asAddr (tmps.getD p undef))

theorem results_evR (fn : Func) (tmps : Array Value) : results fn tmps = (do
    let vs ← fn.results.mapM (evR tmps)
    pure (if h : vs.size = 1 then vs[0] else .tuple vs)) := by
  unfold results
  congr 2

theorem res1_run {G : Ctx} {N : Nat} {ρ : Rho} {s : St} {a : Act} {w : World} (hr : Rep G N ρ s a w) {rv : ResultVar} {x : X} (h : Res1 P s rv x) :
    ∃ v, (evR a.tmps rv).run P w = .ok v w ∧ RV w (G.M ρ s.H) ρ v x := by
  cases rv with
  | tmp t =>
    refine ⟨a.tmps.getD t undef, rfl, ?_⟩
    rw [← show get s.E t = x from h]
    exact hr.env t
  | cell p T =>
    obtain ⟨id, off, ob, d, i, n, h1, h2, h3, h4, h5, h6⟩ := h
    have hp := hr.env p
    rw [h1] at hp
    generalize he : a.tmps.getD p undef = v at hp
    cases hp with
    | ptr _ _ b cap hrr =>
      obtain ⟨g, g1, g2⟩ := obj_cells hr.sat h2 hrr h5
      have hv := run_loadVar_cells (P := P) (w := w) (b := b) (off := off) h3 h4 g n (fun h => by rcases h6 with hx | hx; exact hx.2.1; rw [hx.1] at h; cases h) (fun h => by rcases h6 with hx | hx; rw [hx.1] at h; cases h; exact hx.2.1) g1
      refine ⟨if aggB d then .agg ((List.range n).map g).toArray else g 0, by simp [evR, he, asAddr, hv], ?_⟩
      rcases h6 with ⟨hd, _, rfl⟩ | ⟨hd, hn1, hx⟩
      · rw [if_pos hd]
        refine .agg _ _ (by simp; omega) fun j v x hv hx => ?_
        have hj : j < n := by
          have := (Array.getElem?_eq_some_iff.1 hv).1
          simpa using this
        rw [List.getElem?_take_of_lt hj, List.getElem?_drop] at hx
        have e : v = g j := by simpa [hj] using hv.symm
        rw [e]
        exact g2 j x hj hx
      · rw [if_neg (by simp [hd])]
        exact g2 0 x (by omega) (by rw [Nat.add_zero]; exact hx)

theorem resL_run {G : Ctx} {N : Nat} {ρ : Rho} {s : St} {a : Act} {w : World} (hr : Rep G N ρ s a w) : ∀ {rs : List ResultVar} {xs : List X}, ResL P s rs xs →
    ∃ vs : List Value, (rs.mapM (evR a.tmps)).run P w = .ok vs w ∧ vs.length = xs.length ∧ ∀ (i : Nat) v x, vs[i]? = some v → xs[i]? = some x → RV w (G.M ρ s.H) ρ v x
  | [], [], _ => ⟨[], rfl, rfl, fun i v x hv => by simp at hv⟩
  | r :: rs, x :: xs, h => by
    obtain ⟨v, h1, h2⟩ := res1_run hr h.1
    obtain ⟨vs, h3, h4, h5⟩ := resL_run hr h.2
    refine ⟨v :: vs, ?_, by simp [h4], fun i u y hu hy => ?_⟩
    · rw [List.mapM_cons]
      simp only [Sem.run_bind, h1, h3, Result.andThen_ok, Sem.run_pure]
    · cases i with
      | zero => cases hu; cases hy; exact h2
      | succ i => exact h5 i u y hu hy
  | [], _ :: _, h => h.elim
  | _ :: _, [], h => h.elim

theorem fin_run {G : Ctx} {N : Nat} {ρ : Rho} {s : St} {a : Act} {w : World} {fn : Func} {r : X} {ex : Exit} (hr : Rep G N ρ s a w) (h : Fin P fn r ex s) : ∃ v, (results fn a.tmps).run P w = .ok v w ∧ RV w (G.M ρ s.H) ρ v r := by
  obtain ⟨_, xs, h1, h2⟩ := h
  obtain ⟨vs, g1, g2, g3⟩ := resL_run hr h1
  have hm : (fn.results.mapM (evR a.tmps)).run P w = .ok vs.toArray w := by
    rw [Array.mapM_eq_mapM_toList]
    simp only [Sem.run_map, g1, Result.andThen_ok]
  have hrun : (results fn a.tmps).run P w = .ok (if h : vs.toArray.size = 1 then vs.toArray[0] else .tuple vs.toArray) w := by
    rw [results_evR, Sem.run_bind, hm]
    rfl
  refine ⟨_, hrun, ?_⟩
  clear hrun hm g1 h1
  match vs, xs, g2, g3, h2 with
  | [], [], _, _, h2 => subst h2; exact .tup #[] [] rfl (fun i v x hv _ => by simp at hv)
  | [v], [x'], _, g3, h2 => subst h2; exact g3 0 v _ rfl rfl
  | v :: v' :: vs, y1 :: y2 :: ys, g2, g3, h2 =>
    subst h2
    rw [dif_neg (by simp)]
    exact .tup _ _ (by simpa using g2) fun i u y hu hy => g3 i u y (by simpa using hu) hy

def enumE : Nat → List X → Env
  | _, [] => []
  | k, x :: xs => (k, x) :: enumE (k + 1) xs

theorem get_enumE : ∀ (xs : List X) (k t : Nat), get (enumE k xs) t = if k ≤ t then xs[t - k]?.getD .undef else .undef
  | [], k, t => by simp [enumE, get]
  | x :: xs, k, t => by
    simp only [enumE, get]
    rw [get_enumE xs (k + 1) t]
    by_cases h : k = t
    · subst h; simp
    · rw [if_neg h]
      by_cases h2 : k + 1 ≤ t
      · rw [if_pos h2, if_pos (by omega), show t - k = (t - (k + 1)) + 1 by omega]; rfl
      · rw [if_neg h2, if_neg (by omega)]

/-- the contract of a function that only reads, from its body -/
theorem PC_of {f : FuncId} {fn : Func} {c : Code} {xs : List X} {r : X} (hf : P.funcs[f]? = some fn) (hb : fn.body = some c) (hn : xs.length ≤ fn.ntmps) (hr : r.ids.isEmpty = true)
    (h : ∀ G : Ctx, (∀ id, G.ρ0 id = none) → AW P G fn.ntmps c ⟨enumE 0 xs, [], []⟩ (Fin P fn r)) : PC P f xs r := by
  intro w M vs hM hsz hv
  let G : Ctx := ⟨w, M, noRho, hM⟩
  have hM0 : ∀ b, G.M noRho [] b ↔ M b := fun b => ⟨fun h => h.elim (fun h => h) fun ⟨_, _, _, h, _⟩ => (by cases h), .inl⟩
  refine calls_of_wp hf hb (h G (fun _ => rfl) noRho _ w ⟨⟨Below.refl _ _, Ext.refl _, fun _ _ _ _ _ h => absurd rfl h, fun id o h => by cases h⟩, fun t => ?_, fun id hid => absurd rfl hid, by simp; omega, rfl⟩ _ fun ex s' ρ' a' w' hq hr' => ?_)
  · show RV _ _ _ ((vs ++ _).getD t undef) (get (enumE 0 xs) t)
    rw [get_enumE, if_pos (Nat.zero_le _), Nat.sub_zero]
    by_cases ht : t < xs.length
    · have ht' : t < vs.size := by omega
      have e1 : (vs ++ Array.replicate (fn.ntmps - vs.size) undef).getD t undef = vs[t] := by
        simp [Array.getD, Nat.lt_of_lt_of_le ht' (Nat.le_add_right vs.size _), Array.getElem_append_left ht']
      rw [e1, List.getElem?_eq_getElem ht, Option.getD_some]
      exact (hv t _ _ (by simp [ht']) (by simp [ht])).later ⟨Nat.le_refl _, fun _ _ _ => rfl, fun b _ h => (hM0 b).1 h⟩ (Ext.refl _)
    · rw [List.getElem?_eq_none (by omega)]
      exact .undef _
  · obtain ⟨v, g1, g2⟩ := fin_run hr' hq
    have hpost : a'.defers = [] ∧ ∃ v, (results fn a'.tmps).run P w' = .ok v w' ∧ (∃ v', Ending.returned v = .returned v' ∧ RV w' M noRho v' r ∧ Below w.heap.size w w') := by
      refine ⟨hr'.defers, v, g1, v, rfl, ?_, hr'.sat.below⟩
      have : r.ids = [] := by simpa using hr
      exact (g2.later ⟨Nat.le_refl _, fun _ _ _ => rfl, fun b _ h => .inl h⟩ (Ext.refl _)).fewer fun id hid => by rw [this] at hid; cases hid
    rcases hq.1 with rfl | rfl <;> exact hpost

end
end Go.Proofs.Ytphfbjeaklpddaa

/- The calculus of states: forms for walks that a program prints. -/
namespace Go.Proofs.Ytphfbjeaklpddaa
open Go.RowKit

section
variable {P : Program} {G : Ctx} {N : Nat} {ops : Array Oper} {o : Oper} {os : List Oper} {ps : List Sp} {s : St} {Q : Exit → St → Prop}

theorem okY {p : Sp} (hw : wantX ops s.E o = some true) (h : LT P o s.E s.H p.R p.nw p.u p.x) (hr : OkL P ops os ps (s.step o.dst p)) : OkL P ops (o :: os) (p :: ps) s := ⟨.inl ⟨hw, h⟩, hr⟩
/-- under a guard that is not decided -/
theorem okG {y : X} {nw R : List Nat} (g : Bool) (hw : wantX ops s.E o = some g) (h : g = true → LT P o s.E s.H R nw [] y) (hr : OkL P ops os ps (s.step o.dst ⟨.opt g y, [], nw, R⟩)) : OkL P ops (o :: os) (⟨.opt g y, [], nw, R⟩ :: ps) s := ⟨.inr (.inr ⟨g, y, hw, rfl, rfl, h⟩), hr⟩
/-- under a guard that does not hold -/
theorem okN {nw R : List Nat} (hw : wantX ops s.E o = some false) (hr : OkL P ops os ps (s.step o.dst ⟨.tup [], [], nw, R⟩)) : OkL P ops (o :: os) (⟨.tup [], [], nw, R⟩ :: ps) s := ⟨.inr (.inl ⟨hw, rfl, rfl⟩), hr⟩
theorem okE : OkL P ops [] [] s := trivial

theorem sE {t : Nat} {x : X} {r E : Env} (h : get E t = x) (hr : subE r E) : subE ((t, x) :: r) E := ⟨h, hr⟩
theorem sE0 {E : Env} : subE [] E := trivial
theorem sH {i : Nat} {x : Option Ob} {r H : Heap} (h : look H i = x) (hr : subH r H) : subH ((i, x) :: r) H := ⟨h, hr⟩
theorem sH0 {H : Heap} : subH [] H := trivial

theorem aw_condT {t : Nat} {c d : Code} (hb : get s.E t = .d (.bool true)) (h : AW P G N c s Q) : AW P G N (.cond (.tmp t) c d) s Q := aw_cond true hb (fun _ => h) (fun h => by cases h)
theorem aw_condF {t : Nat} {c d : Code} (hb : get s.E t = .d (.bool false)) (h : AW P G N d s Q) : AW P G N (.cond (.tmp t) c d) s Q := aw_cond false hb (fun h => by cases h) (fun _ => h)

/-- a loop, by a family of states, of which J holds -/
theorem aw_loopJ {c : Code} {α : Type} (I : α → St) (J : α → Prop) (μ : α → Nat) (x0 : α) (hJ : J x0) (h0 : Weak G N s (I x0))
    (h : ∀ x, J x → AW P G N c (I x) (aft Q fun s' => ∃ y, J y ∧ μ y < μ x ∧ Weak G N s' (I y))) : AW P G N (.loop c) s Q := by
  refine aw_loop (α := { x // J x }) (fun x => I x.1) (fun x => μ x.1) ⟨x0, hJ⟩ h0 fun x => ?_
  refine (h x.1 x.2).mono fun ex s' hq => ?_
  cases ex <;> try exact hq
  obtain ⟨y, h1, h2, h3⟩ := hq
  exact ⟨⟨y, h1⟩, h2, h3⟩

theorem fin1 {fn : Func} {r x : X} {rv : ResultVar} {ex : Exit} (hex : ex = .ret ∨ ex = .normal) (hf : fn.results = #[rv]) (h : Res1 P s rv x) (hr : x = r) : Fin P fn r ex s :=
  ⟨hex, [x], by rw [hf]; exact ⟨h, trivial⟩, hr.symm⟩
theorem finN {fn : Func} {r : X} {xs : List X} {l : List ResultVar} {ex : Exit} (hex : ex = .ret ∨ ex = .normal) (hf : fn.results = l.toArray) (h : ResL P s l xs) (hx : xs.length ≠ 1) (hr : .tup xs = r) : Fin P fn r ex s := by
  refine ⟨hex, xs, by rw [hf]; exact h, ?_⟩
  rw [← hr]
  match xs, hx with
  | [], _ => rfl
  | [x], hx => simp at hx
  | _ :: _ :: _, _ => rfl
theorem rL {rv : ResultVar} {x : X} {l : List ResultVar} {xs : List X} (h : Res1 P s rv x) (hr : ResL P s l xs) : ResL P s (rv :: l) (x :: xs) := ⟨h, hr⟩
theorem rL0 : ResL P s [] [] := trivial
end

theorem band1 {a b : Bool} (h : (a && b) = true) : a = true := by cases a <;> simp_all
theorem band2 {a b : Bool} (h : (a && b) = true) : b = true := by cases a <;> simp_all
theorem opnT {E : Env} {t : Nat} {g : Bool} {x : X} (h : get E t = .opt g x) (hg : g = true) : opX E (.tmp t) = x := by
  subst hg
  show (get E t).opn = x
  rw [h]; rfl

section
variable {P : Program} {o : Oper} {E : Env} {H : Heap} {R nw : List Nat} {c : Operand} {a b : Bool}
/-- x || y, with y behind a guard -/
theorem LT_por {u : Nat} (ho : o.op = .pick c (.const (.bool true)) (.tmp u)) (hc : opX E c = .d (.bool a)) {h : Bool} (hu : get E u = .opt h (.d (.bool b))) (hh : a = false → h = true) : LT P o E H R nw [] (.d (.bool (a || b))) := by
  refine LT_pick ho hc (fun ha w M ρ v hv => ?_) (fun ha w M ρ v hv => ?_)
  · subst ha; exact hv
  · have hg := hh ha
    subst ha
    rw [show opX E (.tmp u) = .d (.bool b) from opnT hu hg] at hv
    exact hv
/-- x && y, with y behind a guard -/
theorem LT_pand {u : Nat} (ho : o.op = .pick c (.tmp u) (.const (.bool false))) (hc : opX E c = .d (.bool a)) {h : Bool} (hu : get E u = .opt h (.d (.bool b))) (hh : a = true → h = true) : LT P o E H R nw [] (.d (.bool (a && b))) := by
  refine LT_pick ho hc (fun ha w M ρ v hv => ?_) (fun ha w M ρ v hv => ?_)
  · have hg := hh ha
    subst ha
    rw [show opX E (.tmp u) = .d (.bool b) from opnT hu hg] at hv
    exact hv
  · subst ha; exact hv
end

def octN (s : ByteArray) (k : Nat) : Int := ((s.data.toList[k]?.getD 0).toNat : Int)
theorem octN_bd (s : ByteArray) (k : Nat) : 0 ≤ octN s k ∧ octN s k < 256 := by
  unfold octN
  have := UInt8.toNat_lt (s.data.toList[k]?.getD 0)
  omega
theorem bytesD_at {s : ByteArray} {k : Nat} (h : k < s.size) : ((bytesD s).drop (k * 1)).take 1 = [.int .u8 (octN s k)] := by
  have hl : k < (bytesD s).length := by simpa [bytesD] using h
  rw [Nat.mul_one, List.drop_eq_getElem_cons hl, List.take_succ_cons, List.take_zero]
  have hk : k < s.data.toList.length := by simpa using h
  simp only [bytesD, List.getElem_map, octN, List.getElem?_eq_getElem hk, Option.getD_some]

theorem wi64 {n : Int} (h0 : -9223372036854775808 ≤ n) (h1 : n < 9223372036854775808) : IntKind.i64.wrap n = n := IntWalk.i64_in _ (by omega)

end Go.Proofs.Ytphfbjeaklpddaa

/- The calculus of states: contracts that were proved in the other calculus; things that are known to the last cell; loops unrolled; built values. -/
namespace Go.Proofs.Ytphfbjeaklpddaa
open Go.RowKit

/-- known to the last cell -/
def D.ex : D → Bool
  | .bool _ | .int .. | .str _ | .fn _ | .nilf | .nili => true
  | _ => false
def D.val : D → Value
  | .bool b => .bool b
  | .int k n => .int k n
  | .str s => .string s
  | .fn f => .func (.func f) #[] #[]
  | .nilf => .nilFunc
  | .nili => .nilIface
  | _ => Go.undef
def X.lex : X → Bool
  | .d v => v.ex
  | _ => false
def X.lval : X → Value
  | .d v => v.val
  | _ => Go.undef
def X.ex : X → Bool
  | .d v => v.ex
  | .agg cs => cs.all X.lex
  | _ => false
def X.val : X → Value
  | .d v => v.val
  | .agg cs => .agg (cs.map X.lval).toArray
  | _ => Go.undef
def X.exT : X → Bool
  | .tup xs => xs.all X.ex
  | x => x.ex
def X.valT : X → Value
  | .tup xs => .tuple (xs.map X.val).toArray
  | x => x.val

theorem RD.of_ex {w : World} {M : Nat → Prop} {d : D} (h : d.ex = true) : RD w M d.val d := by
  cases d <;> first | (simp [D.ex] at h; done) | constructor
theorem RD.is_ex {w : World} {M : Nat → Prop} {d : D} {v : Value} (hd : d.ex = true) (h : RD w M v d) : v = d.val := by
  cases h <;> first | rfl | (simp [D.ex] at hd; done)
theorem RV.of_lex {w : World} {M : Nat → Prop} {ρ : Rho} {x : X} (h : x.lex = true) : RV w M ρ x.lval x := by
  cases x <;> first | (simp [X.lex] at h; done) | exact .d (.of_ex h)
theorem RV.is_lex {w : World} {M : Nat → Prop} {ρ : Rho} {x : X} {v : Value} (hx : x.lex = true) (h : RV w M ρ v x) : v = x.lval := by
  cases x <;> first | (simp [X.lex] at hx; done) | (cases h with | d h => exact h.is_ex hx)
theorem RV.of_ex {w : World} {M : Nat → Prop} {ρ : Rho} {x : X} (h : x.ex = true) : RV w M ρ x.val x := by
  cases x <;> first | (simp [X.ex] at h; done) | exact .d (.of_ex h) | skip
  rename_i cs
  simp only [X.ex, List.all_eq_true] at h
  refine .agg _ _ (by simp) fun i v x hv hx => ?_
  rw [List.getElem?_toArray, List.getElem?_map, hx] at hv
  cases hv
  exact .of_lex (h x (List.mem_of_getElem? hx))
theorem RV.is_ex {w : World} {M : Nat → Prop} {ρ : Rho} {x : X} {v : Value} (hx : x.ex = true) (h : RV w M ρ v x) : v = x.val := by
  cases x <;> first | (simp [X.ex] at hx; done) | (cases h with | d h => exact h.is_ex hx) | skip
  rename_i cs
  simp only [X.ex, List.all_eq_true] at hx
  cases h with
  | agg vs _ hs h =>
    show Value.agg vs = Value.agg (cs.map X.lval).toArray
    congr 1
    apply Array.ext
    · simp [hs]
    · intro i h1 h2
      have hi : i < cs.length := by rw [← hs]; exact h1
      have := (h i vs[i] cs[i] (by simp [h1]) (by simp [hi])).is_lex (hx _ (List.getElem_mem hi))
      rw [this]
      simp
theorem RV.of_exT {w : World} {M : Nat → Prop} {ρ : Rho} {x : X} (h : x.exT = true) : RV w M ρ x.valT x := by
  by_cases hx : ∃ xs, x = .tup xs
  · obtain ⟨xs, rfl⟩ := hx
    simp only [X.exT, List.all_eq_true] at h
    refine .tup _ _ (by simp) fun i v x hv hx => ?_
    rw [List.getElem?_toArray, List.getElem?_map, hx] at hv
    cases hv
    exact .of_ex (h x (List.mem_of_getElem? hx))
  · have h1 : x.exT = x.ex := by cases x <;> first | rfl | exact absurd ⟨_, rfl⟩ hx
    have h2 : x.valT = x.val := by cases x <;> first | rfl | exact absurd ⟨_, rfl⟩ hx
    rw [h2]
    exact .of_ex (h1 ▸ h)

section
variable {P : Program}

theorem args_ex {w : World} {M : Nat → Prop} {ρ : Rho} {vs : Array Value} {xs : List X} (hx : xs.all X.ex = true) (hs : vs.size = xs.length) (h : ∀ (i : Nat) v x, vs[i]? = some v → xs[i]? = some x → RV w M ρ v x) : vs = (xs.map X.val).toArray := by
  rw [List.all_eq_true] at hx
  apply Array.ext
  · simp [hs]
  · intro i h1 h2
    have hi : i < xs.length := by rw [← hs]; exact h1
    have := (h i vs[i] xs[i] (by simp [h1]) (by simp [hi])).is_ex (hx _ (List.getElem_mem hi))
    rw [this]
    simp

/-- a contract of the other calculus, of arguments and answers that are known to the last cell -/
theorem PC_old {f : FuncId} {xs : List X} {r : X} (hx : xs.all X.ex = true) (hr : r.exT = true) (h : ∀ w, Calls P f (xs.map X.val).toArray w fun e w' => e = .returned r.valT ∧ Below w.heap.size w w') : PC P f xs r := by
  intro w M vs _ hs hv
  rw [args_ex hx hs hv]
  exact (h w).mono fun e w' ⟨he, hb⟩ => ⟨_, he, .of_exT hr, hb⟩

/-- of answers that are known to the last cell; the arguments given by a reading -/
theorem PC_old' {f : FuncId} {xs : List X} {r : X} (hr : r.exT = true) (h : ∀ w M vs, vs.size = xs.length → (∀ (i : Nat) v x, vs[i]? = some v → xs[i]? = some x → RV w M noRho v x) → Calls P f vs w fun e w' => e = .returned r.valT ∧ Below w.heap.size w w') : PC P f xs r := by
  intro w M vs _ hs hv
  exact (h w M vs hs hv).mono fun e w' ⟨he, hb⟩ => ⟨_, he, .of_exT hr, hb⟩

section
variable {o : Oper} {E : Env} {H : Heap} {R nw : List Nat}
/-- an operation on two things that are known to the last cell -/
theorem LT_binX {op : BinOp} {T U : TypeId} {y z : Operand} {x1 x2 r : X} (ho : o.op = .binOp op T y z U) (hy : opX E y = x1) (hz : opX E z = x2) (h1 : x1.ex = true) (h2 : x2.ex = true) (hr : r.ex = true)
    (hg : ∀ w, (eqGuard op T y z x1.val x2.val).run P w = .ok () w) (hrun : ∀ w, (binOp op T x1.val x2.val).run P w = .ok r.val w) : LT P o E H R nw [] r :=
  LT_read fun G ρ H1 a w hs hh _ => by
    have g1 := hh y (by simp [ho, Op.operands])
    have g2 := hh z (by simp [ho, Op.operands])
    rw [hy] at g1
    rw [hz] at g2
    refine ⟨r.val, ?_, .of_ex hr⟩
    simp [execOp, ho, g1.is_ex h1, g2.is_ex h2, hg, hrun]

theorem LT_lenW {y : Operand} {T e : TypeId} {n m : Nat} {c : List D} (ho : o.op = .call ⟨.builtin .len, #[y], #[T]⟩) (hT : P.underlying T = some (.slice e)) (hy : opX E y = .d (.slw n m c)) : LT P o E H R nw [] (.d (.int .i64 n)) :=
  LT_builtin ho fun G ρ H1 a w hs hh _ => by
    have g1 := hh y (by simp)
    rw [hy] at g1
    generalize he : a.eval y = v at g1
    cases g1 with
    | d h =>
      cases h
      refine ⟨.int .i64 n, fun cs => ⟨?_, .d (.int _ _)⟩⟩
      simp [builtin, Builtin.len_, he, run_underlying hT, goInt]

theorem LT_indexW {T e : TypeId} {n m : Nat} {c c' : List D} {i : TypeInfo} {k : IntKind} {j : Int} {y z : Operand} (ho : o.op = .indexAddr T y z) (hy : opX E y = .d (.slw n m c)) (hz : opX E z = .d (.int k j)) (hu : P.underlying T = some (.slice e)) (hi : P.info? e = some i) (hm : i.size = m) (h0 : 0 ≤ j) (h1 : j < n)
    (hc' : (c.drop (j.toNat * m)).take m = c') : LT P o E H R nw [] (.dptr c') :=
  LT_read fun G ρ H1 a w hs hh _ => by
    have g1 := hh y (by simp [ho, Op.operands])
    have g2 := hh z (by simp [ho, Op.operands])
    rw [hy] at g1
    rw [hz] at g2
    generalize he : a.eval y = v at g1
    cases g1 with
    | d h =>
      cases h with
      | slw ad _ cap _ _ g hlen hpos hr =>
        obtain ⟨b, off, rfl, hb, hmb, hg⟩ := hpos (by omega)
        have hjn : j.toNat < n := by omega
        have hin : ∀ i, i < m → j.toNat * m + i < n * m := fun i hi => by
          have : (j.toNat + 1) * m ≤ n * m := Nat.mul_le_mul_right _ (by omega)
          rw [Nat.succ_mul] at this
          omega
        refine ⟨.pointer (some ⟨b, off + j.toNat * m, none⟩), ?_, .dptr b _ c' (fun i => g (j.toNat * m + i)) hb hmb (fun i hi => ?_) fun i x hx => ?_⟩
        · simp [execOp, ho, he, g2.int_inv, Instr.indexAt, asIntOf, run_underlying hu, h0, h1, run_size hi, add_none, hm]
        · rw [Nat.add_assoc]
          refine hg _ (hin i ?_)
          rw [← hc', List.length_take] at hi
          omega
        · rw [← hc'] at hx
          have hi : i < m := by
            have := (List.getElem?_eq_some_iff.1 hx).1
            rw [List.length_take] at this
            omega
          rw [List.getElem?_take_of_lt hi, List.getElem?_drop] at hx
          exact hr _ x hx

/-! ### built values -/
def putL (xs : List X) (off : Nat) (ys : List X) : List X := xs.take off ++ ys ++ xs.drop (off + ys.length)
def fillX (place : Nat → Option (Nat × Nat)) (xs : List X) : List (Nat × X) → Option (List X)
  | [] => some xs
  | (i, x) :: rest =>
    match place i with
    | none => none
    | some (off, size) => if x.cells.length ≠ size || off + x.cells.length > xs.length || !x.cells.all X.leaf then none else fillX place (putL xs off x.cells) rest

theorem foldl_put (cs : List Value) (off : Nat) : ∀ (k : Nat) (acc : Array Value), ((cs.zipIdx k).foldl (fun cs (p : Value × Nat) => cs.setIfInBounds (off + p.2) p.1) acc).size = acc.size ∧
    ∀ (i : Nat), i < acc.size → ((cs.zipIdx k).foldl (fun cs (p : Value × Nat) => cs.setIfInBounds (off + p.2) p.1) acc)[i]? = if off + k ≤ i ∧ i < off + k + cs.length then cs[i - (off + k)]? else acc[i]? := by
  induction cs with
  | nil =>
    intro k acc
    refine ⟨rfl, fun i hi => ?_⟩
    rw [if_neg (fun h => by have := h.2; simp only [List.length_nil] at this; omega)]
    rfl
  | cons c cs ih =>
    intro k acc
    rw [List.zipIdx_cons, List.foldl_cons]
    obtain ⟨h1, h2⟩ := ih (k + 1) (acc.setIfInBounds (off + k) c)
    refine ⟨by rw [h1]; simp, fun i hi => ?_⟩
    rw [h2 i (by simpa using hi)]
    by_cases ha : off + k = i
    · subst ha
      rw [if_neg (by omega), if_pos (by simp)]
      simp [hi]
    · by_cases hb : off + (k + 1) ≤ i ∧ i < off + (k + 1) + cs.length
      · rw [if_pos hb, if_pos (by simp; omega), show i - (off + k) = (i - (off + (k + 1))) + 1 by omega]
        rfl
      · rw [if_neg hb, if_neg (by simp; omega)]
        rw [Array.getElem?_setIfInBounds_ne ha]

theorem fill_rel {w : World} {M : Nat → Prop} {ρ : Rho} {place : Nat → Option (Nat × Nat)} : ∀ (ps : List (Nat × Value)) (qs : List (Nat × X)) (cs : Array Value) (xs xs' : List X), cs.size = xs.length → (∀ (i : Nat) v x, cs[i]? = some v → xs[i]? = some x → RV w M ρ v x) →
    ps.map (·.1) = qs.map (·.1) → (∀ (i : Nat) p q, ps[i]? = some p → qs[i]? = some q → RV w M ρ p.2 q.2) → fillX place xs qs = some xs' →
    ∃ cs', Instr.fill place cs ps = some cs' ∧ cs'.size = xs'.length ∧ ∀ (i : Nat) v x, cs'[i]? = some v → xs'[i]? = some x → RV w M ρ v x
  | [], [], cs, xs, xs', hs, hr, _, _, hf => by cases hf; exact ⟨cs, rfl, hs, hr⟩
  | [], _ :: _, _, _, _, _, _, hk, _, _ => by cases hk
  | _ :: _, [], _, _, _, _, _, hk, _, _ => by cases hk
  | (i, v) :: ps, (j, x) :: qs, cs, xs, xs', hs, hr, hk, hp, hf => by
    simp only [List.map_cons, List.cons.injEq] at hk
    obtain ⟨rfl, hk⟩ := hk
    unfold fillX at hf
    unfold Instr.fill
    cases hpl : place i with
    | none => rw [hpl] at hf; cases hf
    | some q =>
      obtain ⟨off, size⟩ := q
      rw [hpl] at hf
      simp only at hf ⊢
      split at hf
      · cases hf
      · rename_i hc
        simp only [Bool.or_eq_true, Bool.not_eq_true', decide_eq_true_eq, not_or, ne_eq, Decidable.not_not, Nat.not_lt, Bool.not_eq_false] at hc
        obtain ⟨⟨hc1, hc2⟩, hc3⟩ := hc
        have hv : RV w M ρ v x := hp 0 (i, v) (i, x) rfl rfl
        obtain ⟨d1, d2, d3⟩ := hv.cells hc3
        rw [if_neg (by simp [d1, hc1, hs]; omega)]
        have hfold : (v.cells.zipIdx.foldl (fun cs (p : Value × Nat) => cs.setIfInBounds (off + p.2) p.1) cs) = (v.cells.toList.zipIdx 0).foldl (fun cs (p : Value × Nat) => cs.setIfInBounds (off + p.2) p.1) cs := by
          rw [← Array.foldl_toList]
          simp
        obtain ⟨e1, e2⟩ := foldl_put v.cells.toList off 0 cs
        refine fill_rel ps qs _ (putL xs off x.cells) xs' ?_ ?_ hk (fun i p q h1 h2 => hp (i + 1) p q h1 h2) hf
        · show (v.cells.zipIdx.foldl (fun cs (p : Value × Nat) => cs.setIfInBounds (off + p.2) p.1) cs).size = _
          rw [hfold, e1, hs]
          unfold putL
          simp
          omega
        · intro k u y hu hy
          change (v.cells.zipIdx.foldl (fun cs (p : Value × Nat) => cs.setIfInBounds (off + p.2) p.1) cs)[k]? = some u at hu
          rw [hfold] at hu
          have hkl : k < cs.size := by
            have := (Array.getElem?_eq_some_iff.1 hu).1
            rw [e1] at this; exact this
          rw [e2 k hkl] at hu
          unfold putL at hy
          rw [List.append_assoc] at hy
          have htl : (xs.take off).length = off := by simp; omega
          have hvl : v.cells.toList.length = x.cells.length := by simpa using d1
          by_cases h1 : k < off
          · rw [if_neg (by omega)] at hu
            rw [List.getElem?_append_left (by omega), List.getElem?_take_of_lt h1] at hy
            exact hr k u y hu hy
          · rw [List.getElem?_append_right (by omega), htl] at hy
            by_cases h2 : k - off < x.cells.length
            · rw [if_pos (by rw [hvl]; omega)] at hu
              rw [List.getElem?_append_left h2] at hy
              exact d3 (k - off) u y (by simpa using hu) hy
            · rw [if_neg (by rw [hvl]; omega)] at hu
              rw [List.getElem?_append_right (by omega), List.getElem?_drop] at hy
              exact hr k u y hu (by rw [← hy]; congr 1; omega)

theorem LT_build {T : TypeId} {ps : Array (Nat × Operand)} {d : TypeDesc} {i : TypeInfo} {z : Value} {xs : List X} {qs : List (Nat × X)} (place : Nat → Option (Nat × Nat)) (ho : o.op = .build T ps) (hu : P.underlying T = some d) (hi : P.info? T = some i) (hz : i.zero = some z) (hqs : ps.toList.map (fun p => (p.1, opX E p.2)) = qs)
    (hpl : (∃ fs, d = .struct fs ∧ place = (fun j => (fs.map fun f => (f.offset, P.cellsOf f.type))[j]?) ∧ (fs.toList.all fun f => (P.info? f.type).isSome) = true) ∨ (∃ n e ie, d = .array n e ∧ P.info? e = some ie ∧ place = fun j => some (j * ie.size, ie.size)))
    (hf : fillX place (z.cells.toList.map cL) qs = some xs) : LT P o E H R nw [] (.agg xs) :=
  LT_read fun G ρ H1 a w hs hh _ => by
    have hrel := fill_rel (w := w) (M := G.M ρ H1) (ρ := ρ) (place := place) (ps.toList.map fun p => (p.1, a.eval p.2)) qs z.cells (z.cells.toList.map cL) xs (by simp) (fun j v x hv hx => by
      rw [List.getElem?_map, Array.getElem?_toList, hv] at hx
      cases hx
      exact cL_rel _ _ _ _) (by rw [← hqs]; simp) (fun j p q hp hq => by
        rw [← hqs, List.getElem?_map] at hq
        rw [List.getElem?_map] at hp
        cases hx : ps.toList[j]? with
        | none => rw [hx] at hp; cases hp
        | some y =>
          rw [hx] at hp hq
          cases hp; cases hq
          refine hh y.2 ?_
          simp only [ho, Op.operands, List.mem_map]
          exact ⟨y, List.mem_of_getElem? hx, rfl⟩) hf
    obtain ⟨cs', h1, h2, h3⟩ := hrel
    refine ⟨.agg cs', ?_, .agg _ _ h2 h3⟩
    have hpt : (ps.map fun (i, x) => (i, a.eval x)).toList = ps.toList.map fun p => (p.1, a.eval p.2) := by simp
    rcases hpl with ⟨fs, rfl, rfl, hall⟩ | ⟨n, e, ie, rfl, hie, rfl⟩
    · rw [List.all_eq_true] at hall
      have hm : (fs.mapM fun f => (do pure (f.offset, ← sizeOf f.type) : Sem (Nat × Nat))).run P w = .ok (fs.map fun f => (f.offset, P.cellsOf f.type)) w := by
        rw [Array.mapM_eq_mapM_toList]
        have key : ∀ l : List Field, (∀ f, f ∈ l → (P.info? f.type).isSome = true) → (l.mapM fun f => (do pure (f.offset, ← sizeOf f.type) : Sem (Nat × Nat))).run P w = .ok (l.map fun f => (f.offset, P.cellsOf f.type)) w := by
          intro l
          induction l with
          | nil => intro _; rfl
          | cons f l ih =>
            intro hl
            have hf := hl f (by simp)
            cases hq : P.info? f.type with
            | none => rw [hq] at hf; cases hf
            | some q =>
              rw [List.mapM_cons]
              simp only [Sem.run_bind, run_size hq, Result.andThen_ok, Sem.run_pure, ih (fun f h => hl f (by simp [h])), List.map_cons]
              simp [Program.cellsOf, hq]
        simp only [Sem.run_map, key fs.toList hall, Result.andThen_ok]
        congr 1
        apply Array.ext'
        simp
      simp only [execOp, ho, Instr.build, Sem.run_bind, run_zero hi hz, run_underlying hu, Result.andThen_ok, hm, hpt, h1, Sem.run_pure]
    · simp only [execOp, ho, Instr.build, Sem.run_bind, run_zero hi hz, run_underlying hu, Result.andThen_ok, run_size hie, hpt, h1, Sem.run_pure]

end

section
variable {G : Ctx} {N : Nat} {s : St} {Q : Exit → St → Prop}
/-- at most n rounds of a loop -/
def awRounds (P : Program) (G : Ctx) (N : Nat) (c : Code) (Q : Exit → St → Prop) : Nat → St → Prop
  | 0, _ => False
  | n + 1, s => AW P G N c s (aft Q (awRounds P G N c Q n))

theorem aw_rounds {c : Code} (n : Nat) (h : awRounds P G N c Q n s) : AW P G N (.loop c) s Q := by
  intro ρ a w hr K hK
  refine wp_loop_rounds n ?_
  induction n generalizing s ρ a w with
  | zero => exact h.elim
  | succ n ih =>
    rw [rounds_succ]
    refine h ρ a w hr _ fun ex s' ρ' a' w' hq hr' => ?_
    cases ex <;> try exact hK _ s' ρ' a' w' hq hr'
    exact ih hq ρ' a' w' hr'
end
end
end Go.Proofs.Ytphfbjeaklpddaa

/- What the program's tables say of its types. -/
namespace Go.Proofs.Ytphfbjeaklpddaa

theorem inf0 : Try.prog.info? 0 = some Try.t0 := by kernel_rfl
theorem inf1 : Try.prog.info? 1 = some Try.t1 := by kernel_rfl
theorem inf2 : Try.prog.info? 2 = some Try.t2 := by kernel_rfl
theorem inf3 : Try.prog.info? 3 = some Try.t3 := by kernel_rfl
theorem inf4 : Try.prog.info? 4 = some Try.t4 := by kernel_rfl
theorem inf5 : Try.prog.info? 5 = some Try.t5 := by kernel_rfl
theorem inf6 : Try.prog.info? 6 = some Try.t6 := by kernel_rfl
theorem inf7 : Try.prog.info? 7 = some Try.t7 := by kernel_rfl
theorem inf8 : Try.prog.info? 8 = some Try.t8 := by kernel_rfl
theorem inf9 : Try.prog.info? 9 = some Try.t9 := by kernel_rfl
theorem inf10 : Try.prog.info? 10 = some Try.t10 := by kernel_rfl
theorem inf11 : Try.prog.info? 11 = some Try.t11 := by kernel_rfl
theorem inf12 : Try.prog.info? 12 = some Try.t12 := by kernel_rfl
theorem inf13 : Try.prog.info? 13 = some Try.t13 := by kernel_rfl
theorem inf14 : Try.prog.info? 14 = some Try.t14 := by kernel_rfl
theorem inf15 : Try.prog.info? 15 = some Try.t15 := by kernel_rfl
theorem inf16 : Try.prog.info? 16 = some Try.t16 := by kernel_rfl
theorem inf17 : Try.prog.info? 17 = some Try.t17 := by kernel_rfl
theorem inf18 : Try.prog.info? 18 = some Try.t18 := by kernel_rfl
theorem inf19 : Try.prog.info? 19 = some Try.t19 := by kernel_rfl
theorem inf20 : Try.prog.info? 20 = some Try.t20 := by kernel_rfl
theorem inf21 : Try.prog.info? 21 = some Try.t21 := by kernel_rfl
theorem inf22 : Try.prog.info? 22 = some Try.t22 := by kernel_rfl
theorem inf23 : Try.prog.info? 23 = some Try.t23 := by kernel_rfl
theorem inf24 : Try.prog.info? 24 = some Try.t24 := by kernel_rfl
theorem inf25 : Try.prog.info? 25 = some Try.t25 := by kernel_rfl
theorem inf26 : Try.prog.info? 26 = some Try.t26 := by kernel_rfl
theorem inf27 : Try.prog.info? 27 = some Try.t27 := by kernel_rfl
theorem inf28 : Try.prog.info? 28 = some Try.t28 := by kernel_rfl
theorem inf29 : Try.prog.info? 29 = some Try.t29 := by kernel_rfl
theorem inf30 : Try.prog.info? 30 = some Try.t30 := by kernel_rfl
theorem inf31 : Try.prog.info? 31 = some Try.t31 := by kernel_rfl
theorem inf32 : Try.prog.info? 32 = some Try.t32 := by kernel_rfl
theorem inf33 : Try.prog.info? 33 = some Try.t33 := by kernel_rfl
theorem inf34 : Try.prog.info? 34 = some Try.t34 := by kernel_rfl
theorem inf35 : Try.prog.info? 35 = some Try.t35 := by kernel_rfl
theorem inf36 : Try.prog.info? 36 = some Try.t36 := by kernel_rfl
theorem inf37 : Try.prog.info? 37 = some Try.t37 := by kernel_rfl
theorem inf38 : Try.prog.info? 38 = some Try.t38 := by kernel_rfl
theorem inf39 : Try.prog.info? 39 = some Try.t39 := by kernel_rfl
theorem inf40 : Try.prog.info? 40 = some Try.t40 := by kernel_rfl
theorem inf41 : Try.prog.info? 41 = some Try.t41 := by kernel_rfl
theorem inf42 : Try.prog.info? 42 = some Try.t42 := by kernel_rfl
theorem inf43 : Try.prog.info? 43 = some Try.t43 := by kernel_rfl
theorem inf44 : Try.prog.info? 44 = some Try.t44 := by kernel_rfl
theorem inf45 : Try.prog.info? 45 = some Try.t45 := by kernel_rfl
theorem inf46 : Try.prog.info? 46 = some Try.t46 := by kernel_rfl
theorem inf47 : Try.prog.info? 47 = some Try.t47 := by kernel_rfl
theorem inf48 : Try.prog.info? 48 = some Try.t48 := by kernel_rfl
theorem inf49 : Try.prog.info? 49 = some Try.t49 := by kernel_rfl
theorem inf50 : Try.prog.info? 50 = some Try.t50 := by kernel_rfl
theorem inf51 : Try.prog.info? 51 = some Try.t51 := by kernel_rfl
theorem inf52 : Try.prog.info? 52 = some Try.t52 := by kernel_rfl
theorem inf53 : Try.prog.info? 53 = some Try.t53 := by kernel_rfl
theorem inf54 : Try.prog.info? 54 = some Try.t54 := by kernel_rfl
theorem inf55 : Try.prog.info? 55 = some Try.t55 := by kernel_rfl
theorem inf56 : Try.prog.info? 56 = some Try.t56 := by kernel_rfl
theorem inf57 : Try.prog.info? 57 = some Try.t57 := by kernel_rfl
theorem inf58 : Try.prog.info? 58 = some Try.t58 := by kernel_rfl
theorem inf59 : Try.prog.info? 59 = some Try.t59 := by kernel_rfl
theorem inf60 : Try.prog.info? 60 = some Try.t60 := by kernel_rfl
theorem inf61 : Try.prog.info? 61 = some Try.t61 := by kernel_rfl
theorem inf62 : Try.prog.info? 62 = some Try.t62 := by kernel_rfl
theorem inf63 : Try.prog.info? 63 = some Try.t63 := by kernel_rfl
theorem inf64 : Try.prog.info? 64 = some Try.t64 := by kernel_rfl
theorem inf65 : Try.prog.info? 65 = some Try.t65 := by kernel_rfl
theorem inf66 : Try.prog.info? 66 = some Try.t66 := by kernel_rfl
theorem inf67 : Try.prog.info? 67 = some Try.t67 := by kernel_rfl
theorem inf68 : Try.prog.info? 68 = some Try.t68 := by kernel_rfl
theorem inf69 : Try.prog.info? 69 = some Try.t69 := by kernel_rfl
theorem inf70 : Try.prog.info? 70 = some Try.t70 := by kernel_rfl
theorem inf71 : Try.prog.info? 71 = some Try.t71 := by kernel_rfl
theorem inf72 : Try.prog.info? 72 = some Try.t72 := by kernel_rfl
theorem inf73 : Try.prog.info? 73 = some Try.t73 := by kernel_rfl
theorem inf74 : Try.prog.info? 74 = some Try.t74 := by kernel_rfl
theorem inf75 : Try.prog.info? 75 = some Try.t75 := by kernel_rfl
theorem inf76 : Try.prog.info? 76 = some Try.t76 := by kernel_rfl
theorem inf77 : Try.prog.info? 77 = some Try.t77 := by kernel_rfl
theorem inf78 : Try.prog.info? 78 = some Try.t78 := by kernel_rfl
theorem inf79 : Try.prog.info? 79 = some Try.t79 := by kernel_rfl
theorem inf80 : Try.prog.info? 80 = some Try.t80 := by kernel_rfl
theorem inf81 : Try.prog.info? 81 = some Try.t81 := by kernel_rfl
theorem inf82 : Try.prog.info? 82 = some Try.t82 := by kernel_rfl
theorem inf83 : Try.prog.info? 83 = some Try.t83 := by kernel_rfl
theorem inf84 : Try.prog.info? 84 = some Try.t84 := by kernel_rfl
theorem inf85 : Try.prog.info? 85 = some Try.t85 := by kernel_rfl
theorem inf86 : Try.prog.info? 86 = some Try.t86 := by kernel_rfl
theorem inf87 : Try.prog.info? 87 = some Try.t87 := by kernel_rfl
theorem inf88 : Try.prog.info? 88 = some Try.t88 := by kernel_rfl
theorem inf89 : Try.prog.info? 89 = some Try.t89 := by kernel_rfl
theorem inf90 : Try.prog.info? 90 = some Try.t90 := by kernel_rfl
theorem inf91 : Try.prog.info? 91 = some Try.t91 := by kernel_rfl
theorem inf92 : Try.prog.info? 92 = some Try.t92 := by kernel_rfl
theorem inf93 : Try.prog.info? 93 = some Try.t93 := by kernel_rfl
theorem inf94 : Try.prog.info? 94 = some Try.t94 := by kernel_rfl
theorem inf95 : Try.prog.info? 95 = some Try.t95 := by kernel_rfl
theorem inf96 : Try.prog.info? 96 = some Try.t96 := by kernel_rfl
theorem inf97 : Try.prog.info? 97 = some Try.t97 := by kernel_rfl
theorem inf98 : Try.prog.info? 98 = some Try.t98 := by kernel_rfl
theorem inf99 : Try.prog.info? 99 = some Try.t99 := by kernel_rfl
theorem inf100 : Try.prog.info? 100 = some Try.t100 := by kernel_rfl
theorem inf101 : Try.prog.info? 101 = some Try.t101 := by kernel_rfl
theorem inf102 : Try.prog.info? 102 = some Try.t102 := by kernel_rfl
theorem inf103 : Try.prog.info? 103 = some Try.t103 := by kernel_rfl
theorem inf104 : Try.prog.info? 104 = some Try.t104 := by kernel_rfl
theorem inf105 : Try.prog.info? 105 = some Try.t105 := by kernel_rfl
theorem inf106 : Try.prog.info? 106 = some Try.t106 := by kernel_rfl
theorem inf107 : Try.prog.info? 107 = some Try.t107 := by kernel_rfl
theorem inf108 : Try.prog.info? 108 = some Try.t108 := by kernel_rfl
theorem inf109 : Try.prog.info? 109 = some Try.t109 := by kernel_rfl
theorem inf110 : Try.prog.info? 110 = some Try.t110 := by kernel_rfl
theorem inf111 : Try.prog.info? 111 = some Try.t111 := by kernel_rfl
theorem inf112 : Try.prog.info? 112 = some Try.t112 := by kernel_rfl
theorem inf113 : Try.prog.info? 113 = some Try.t113 := by kernel_rfl
theorem inf114 : Try.prog.info? 114 = some Try.t114 := by kernel_rfl
theorem inf115 : Try.prog.info? 115 = some Try.t115 := by kernel_rfl
theorem inf116 : Try.prog.info? 116 = some Try.t116 := by kernel_rfl
theorem inf117 : Try.prog.info? 117 = some Try.t117 := by kernel_rfl
theorem inf118 : Try.prog.info? 118 = some Try.t118 := by kernel_rfl
theorem inf119 : Try.prog.info? 119 = some Try.t119 := by kernel_rfl
theorem inf120 : Try.prog.info? 120 = some Try.t120 := by kernel_rfl
theorem inf121 : Try.prog.info? 121 = some Try.t121 := by kernel_rfl
theorem inf122 : Try.prog.info? 122 = some Try.t122 := by kernel_rfl
theorem inf123 : Try.prog.info? 123 = some Try.t123 := by kernel_rfl
theorem inf124 : Try.prog.info? 124 = some Try.t124 := by kernel_rfl
theorem inf125 : Try.prog.info? 125 = some Try.t125 := by kernel_rfl
theorem inf126 : Try.prog.info? 126 = some Try.t126 := by kernel_rfl
theorem inf127 : Try.prog.info? 127 = some Try.t127 := by kernel_rfl

end Go.Proofs.Ytphfbjeaklpddaa

/- The laws of this family that speak of no program's functions: worlds that have only grown ('Below'), and regions that draw their order whose operations read below and make new memory alone. -/
namespace Go.Proofs.Ytphfbjeaklpddaa
open Go.RowKit

open Classical in
/-- x, if it has only grown out of w; else w -/
noncomputable def grow (w x : World) : World := if Below w.heap.size w x then x else w

theorem grow_below (w x : World) : Below w.heap.size w (grow w x) := by
  unfold grow; split
  · assumption
  · exact Below.refl _ _

theorem below_grow {w W : World} (h : Below w.heap.size w W) : ∃ x, W = grow w x := ⟨W, by unfold grow; rw [if_pos h]⟩

@[go_sem] theorem cell_grow (w x : World) (b o : Nat) (h : b < w.heap.size) : (grow w x).cell? ⟨b, o, none⟩ = w.cell? ⟨b, o, none⟩ :=
  (grow_below w x).cell (p := ⟨b, o, none⟩) h

@[go_sem] theorem frozen_grow (w x : World) (b o : Nat) (h : b < w.heap.size) : (grow w x).frozen? ⟨b, o, none⟩ = w.frozen? ⟨b, o, none⟩ :=
  (grow_below w x).frozen (p := ⟨b, o, none⟩) h

theorem grow_size (w x : World) : w.heap.size ≤ (grow w x).heap.size := (grow_below w x).size

/-- a callee's contract, met in a grown world -/
theorem calls_grow {P : Program} {f : FuncId} {args : Array Value} {w x : World} {v : Value}
    (h : Calls P f args (grow w x) fun e w' => e = .returned v ∧ Below (grow w x).heap.size (grow w x) w') :
    Calls P f args (grow w x) fun e w'' => e = .returned v ∧ ∃ y, w'' = grow w y :=
  h.mono fun _ _ ⟨he, hb⟩ => ⟨he, below_grow ((grow_below w x).trans (hb.mono (grow_size w x)))⟩

theorem calls_grow_same {P : Program} {f : FuncId} {args : Array Value} {w x : World} {v : Value}
    (h : Calls P f args (grow w x) fun e w' => e = .returned v ∧ grow w x = w') :
    Calls P f args (grow w x) fun e w'' => e = .returned v ∧ ∃ y, w'' = grow w y :=
  h.mono fun _ _ ⟨he, hb⟩ => ⟨he, x, hb.symm⟩

theorem wp_region_grow {P : Program} {id : Nat} {Q : Exit → Act → World → Prop} {a : Act} {w : World} {l : List Oper} (hm : P.follows .mixedOrders = true) (hB : Region.lexB .any l.toArray = true)
    (h : wpQuiet P l.toArray (fun w' => ∃ n, w' = grow w n) (fun a' => ∀ w', (∃ n, w' = grow w n) → Q .normal a' w') l a) : (Code.region id l.toArray true).wp P Q a w :=
  wp_region_quiet (C := fun w' => ∃ n, w' = grow w n) hm hB (below_grow ((Below.refl _ w).drew)) (by simpa using h)

theorem bcell {W w1 : World} (hb : Below W.heap.size W w1) : (∀ b o, b < W.heap.size → w1.cell? ⟨b, o, none⟩ = W.cell? ⟨b, o, none⟩) ∧ (∀ b o, b < W.heap.size → w1.frozen? ⟨b, o, none⟩ = W.frozen? ⟨b, o, none⟩) :=
  ⟨fun b o h => hb.cell (p := ⟨b, o, none⟩) h, fun b o h => hb.frozen (p := ⟨b, o, none⟩) h⟩

theorem after {W w1 : World} (hb : Below W.heap.size W w1) : (∀ b o, b < W.heap.size → w1.cell? ⟨b, o, none⟩ = W.cell? ⟨b, o, none⟩) ∧ (∀ b o, b < W.heap.size → w1.frozen? ⟨b, o, none⟩ = W.frozen? ⟨b, o, none⟩) ∧ W.heap.size ≤ w1.heap.size :=
  ⟨fun b o h => hb.cell (p := ⟨b, o, none⟩) h, fun b o h => hb.frozen (p := ⟨b, o, none⟩) h, hb.size⟩

theorem mul_bd {a b A B : Int} (a0 : 0 ≤ a) (aA : a ≤ A) (b0 : 0 ≤ b) (bB : b ≤ B) : 0 ≤ a * b ∧ a * b ≤ A * B :=
  ⟨Int.mul_nonneg a0 b0, Int.mul_le_mul aA bB b0 (by omega)⟩

/-- the slice's head a: the numbers xs lie there -/
def Ints (w : World) (a : Option Addr) (xs : List Int) : Prop :=
  xs ≠ [] → ∃ b off, a = some ⟨b, off, none⟩ ∧ ∀ i, i < xs.length → w.cell? ⟨b, off + i, none⟩ = some (.int .i64 (xs[i]?.getD 0))

theorem Ints.at {w : World} {a : Option Addr} {xs : List Int} (h : Ints w a xs) {k : Nat} (hk : k < xs.length) :
    ∃ b off x, a = some ⟨b, off, none⟩ ∧ w.cell? ⟨b, off + k, none⟩ = some (.int .i64 x) ∧ Hid (xs[k]? = some x) := by
  obtain ⟨b, off, e, g⟩ := h (by rintro rfl; simp at hk)
  exact ⟨b, off, xs[k], e, by have := g k hk; simpa [hk] using this, Lib.hid (by simp [hk])⟩

theorem Ints.below {w w' : World} {a : Option Addr} {xs : List Int} (h : Ints w a xs) (hb : Below w.heap.size w w') : Ints w' a xs := by
  intro hx
  obtain ⟨b, off, e, g⟩ := h hx
  refine ⟨b, off, e, fun i hi => ?_⟩
  have := g i hi
  rw [hb.cell (p := ⟨b, off + i, none⟩) (World.block_lt_of_cell? _ _ this)]
  exact this

def idxF (p : Int → Bool) (xs : List Int) : Int := if xs.any p then (xs.findIdx p : Int) else -1

theorem any_take_succ {p : Int → Bool} {xs : List Int} {k : Nat} {x : Int} (hx : xs[k]? = some x) (h : (xs.take k).any p = false) : (xs.take (k + 1)).any p = p x := by
  obtain ⟨hk, rfl⟩ := List.getElem?_eq_some_iff.1 hx
  rw [List.take_succ_eq_append_getElem hk, List.any_append, h]
  simp

theorem idxF_here {p : Int → Bool} {xs : List Int} {k : Nat} {x : Int} (hx : xs[k]? = some x) (h : (xs.take k).any p = false) (hp : p x = true) : idxF p xs = k := by
  obtain ⟨hk, rfl⟩ := List.getElem?_eq_some_iff.1 hx
  unfold idxF
  rw [if_pos (by rw [List.any_eq_true]; exact ⟨xs[k], List.getElem_mem hk, hp⟩)]
  have : xs.findIdx p = k := by
    rw [List.findIdx_eq hk]
    refine ⟨hp, fun j hj => ?_⟩
    have h1 : ∀ x ∈ xs.take k, ¬ p x = true := by
      intro x hx hpx
      have : (xs.take k).any p = true := by rw [List.any_eq_true]; exact ⟨x, hx, hpx⟩
      rw [h] at this; cases this
    have := h1 xs[j] (by rw [List.mem_take_iff_getElem]; exact ⟨j, by omega, rfl⟩)
    simpa using this
  rw [this]

theorem idxF_none (p : Int → Bool) (xs : List Int) (k : Nat) (hk : xs.length ≤ k) (h : (xs.take k).any p = false) : idxF p xs = -1 := by
  unfold idxF
  rw [List.take_of_length_le hk] at h
  rw [h]; rfl

theorem idxF_nonneg (p : Int → Bool) (xs : List Int) : decide (0 ≤ idxF p xs) = xs.any p := by
  unfold idxF
  cases xs.any p
  · rfl
  · simp

theorem idxF_bd (p : Int → Bool) (xs : List Int) : -1 ≤ idxF p xs := by
  unfold idxF; split <;> omega

/-! ### a map that has just been made, with integers for keys -/
theorem run_mapInsert_int {P : Program} {T K E : TypeId} {q : IntKind} (hT : P.underlying T = some (.map K E)) (hK : P.underlying K = some (.int q)) (w : World) (r : Nat) (hr : r = w.heap.size) (es : Array MapEntry) (clock : Nat) (n : Int) (v : Value)
    (hno : Instr.findNow (.int q) (.int q n) es.toList 0 = some none) :
    (Instr.mapUpdate T (.map (some r)) (.int q n) v).run P (w.alloc (.map es clock)) = .ok () (w.alloc (.map (es.push { key := .int q n, val := v, born := clock }) (clock + 1))) := by
  subst hr
  have hb : (w.alloc (.map es clock)).heap[w.heap.size]? = some (.map es clock) := (MapKept.heap_alloc w _).1
  have hc : (Instr.checkKey false 10000 K (.int q n)).run P (w.alloc (.map es clock)) = .ok () (w.alloc (.map es clock)) := MapKept.run_checkKey (k := .int q n) hK (by simp [MapKept.IsKey]) false 9999
  have hset : ({ w.alloc (.map es clock) with heap := (w.alloc (.map es clock)).heap.setIfInBounds w.heap.size (.map (es.push { key := .int q n, val := v, born := clock }) (clock + 1)) } : World) = w.alloc (.map (es.push { key := .int q n, val := v, born := clock }) (clock + 1)) := by
    show ({ w with heap := (w.heap.push _).setIfInBounds w.heap.size _ } : World) = { w with heap := w.heap.push _ }
    congr 1
    apply Array.ext
    · simp
    · intro i h1 h2
      have h3 : i < (w.heap.push (Obj.map es clock)).size := by simpa using h1
      rw [Array.getElem_setIfInBounds h3]
      split
      · rename_i h; subst h; simp
      · rename_i h
        have : i < w.heap.size := by simp at h1; omega
        rw [Array.getElem_push_lt this, Array.getElem_push_lt this]
  rw [← hset]
  simp [Instr.mapUpdate, run_underlying hT, MapKept.run_getObj_map hb, hc, MapKept.run_findKey hK hno, MapKept.run_setObj_map _ hb, Result.andThen]

theorem run_lookup_int {P : Program} {T K E : TypeId} {q : IntKind} (hT : P.underlying T = some (.map K E)) (hK : P.underlying K = some (.int q)) (w : World) (r : Nat) (es : Array MapEntry) (clock : Nat) (hg : w.heap[r]? = some (.map es clock)) (n : Int) (i : Nat) (v : Value)
    (hno : Instr.findNow (.int q) (.int q n) es.toList 0 = some (some (i, v))) :
    (Instr.lookup T (.map (some r)) (.int q n) false).run P w = .ok v w := by
  have hc : ∀ b, (Instr.checkKey b 10000 K (.int q n)).run P w = .ok () w := fun b => MapKept.run_checkKey (k := .int q n) hK (by simp [MapKept.IsKey]) b 9999
  simp [Instr.lookup, run_underlying hT, MapKept.run_getObj_map hg, hc, MapKept.run_findKey hK hno, Result.andThen]

theorem sameNow_int (q : IntKind) (a b : Int) : Instr.sameNow (.int q) (.int q a) (.int q b) = some (a == b) := by simp [Instr.sameNow]

/-- a literal map of two entries: its making, and its look-ups -/
theorem map2 {P : Program} {T K E : TypeId} {q : IntKind} (hT : P.underlying T = some (.map K E)) (hK : P.underlying K = some (.int q)) (w : World) (r : Nat) (hr : r = w.heap.size) (n1 n2 : Int) (v1 v2 : Value) (hne : n1 ≠ n2) :
    (Instr.mapUpdate T (.map (some r)) (.int q n1) v1).run P (w.alloc (.map #[] 0)) = .ok () (w.alloc (.map #[{ key := .int q n1, val := v1, born := 0 }] 1)) ∧
    (Instr.mapUpdate T (.map (some r)) (.int q n2) v2).run P (w.alloc (.map #[{ key := .int q n1, val := v1, born := 0 }] 1)) = .ok () (w.alloc (.map #[{ key := .int q n1, val := v1, born := 0 }, { key := .int q n2, val := v2, born := 1 }] 2)) ∧
    (Instr.lookup T (.map (some r)) (.int q n1) false).run P (w.alloc (.map #[{ key := .int q n1, val := v1, born := 0 }, { key := .int q n2, val := v2, born := 1 }] 2)) = .ok v1 (w.alloc (.map #[{ key := .int q n1, val := v1, born := 0 }, { key := .int q n2, val := v2, born := 1 }] 2)) ∧
    (Instr.lookup T (.map (some r)) (.int q n2) false).run P (w.alloc (.map #[{ key := .int q n1, val := v1, born := 0 }, { key := .int q n2, val := v2, born := 1 }] 2)) = .ok v2 (w.alloc (.map #[{ key := .int q n1, val := v1, born := 0 }, { key := .int q n2, val := v2, born := 1 }] 2)) := by
  have e1 : (n2 == n1) = false := by simp; omega
  have e2 : (n1 == n2) = false := by simp; omega
  refine ⟨run_mapInsert_int hT hK w r hr #[] 0 n1 v1 rfl, run_mapInsert_int hT hK w r hr #[_] 1 n2 v2 ?_, ?_, ?_⟩
  · simp [Instr.findNow, sameNow_int, e1]
  · refine run_lookup_int hT hK _ r _ 2 (by rw [hr]; exact (MapKept.heap_alloc w _).1) n1 0 v1 ?_
    simp [Instr.findNow, sameNow_int]
  · refine run_lookup_int hT hK _ r _ 2 (by rw [hr]; exact (MapKept.heap_alloc w _).1) n2 1 v2 ?_
    simp [Instr.findNow, sameNow_int, e1]

end Go.Proofs.Ytphfbjeaklpddaa

/- Layer 42, the plain law of layouts: where the samples of an image stand in its octets. No program in sight. -/
namespace Go.Proofs.Ytphfbjeaklpddaa

def inB (n lo hi : Int) : Bool := decide (lo ≤ n) && decide (n ≤ hi)


/-- the numbers of an image are right -/
structure Shp (W H C B P : Int) : Prop where
  w1 : 1 ≤ W
  w2 : W ≤ 64
  h1 : 1 ≤ H
  h2 : H ≤ 64
  c1 : 1 ≤ C
  c2 : C ≤ 4
  b : B = 8 ∨ B = 16
  p : P = 1 ∨ P = 2 ∨ P = 4 ∨ P = 8
  s : W * H * C ≤ 4096

def shpB (W H C B P : Int) : Bool :=
  inB W 1 64 && (inB H 1 64 && (inB C 1 4 && (decide (W * H * C ≤ 4096) && ((B == 8 || B == 16) && (P == 1 || P == 2 || P == 4 || P == 8)))))

theorem inB_iff (n lo hi : Int) : inB n lo hi = true ↔ lo ≤ n ∧ n ≤ hi := by simp [inB]
theorem inB_no (n lo hi : Int) : inB n lo hi = false ↔ ¬ (lo ≤ n ∧ n ≤ hi) := by rw [← inB_iff]; simp

theorem shpB_iff (W H C B P : Int) : shpB W H C B P = true ↔ Shp W H C B P := by
  simp only [shpB, Bool.and_eq_true, inB_iff, decide_eq_true_eq, Bool.or_eq_true, beq_iff_eq]
  constructor
  · rintro ⟨⟨a, b⟩, ⟨c, d⟩, ⟨e, f⟩, g, h, i⟩
    exact ⟨a, b, c, d, e, f, h, by omega, g⟩
  · rintro ⟨a, b, c, d, e, f, h, i, g⟩
    exact ⟨⟨a, b⟩, ⟨c, d⟩, ⟨e, f⟩, g, h, by omega⟩

def rowS (W C B : Int) (pl : Bool) : Int := if pl then W * B / 8 else W * C * B / 8

def strS (W C B : Int) (pl : Bool) (P : Int) : Int := (rowS W C B pl + P - 1) / P * P

def rowsS (H C : Int) (pl : Bool) : Int := if pl then H * C else H


theorem rowS_bd (W H C B P : Int) (pl : Bool) (h : Shp W H C B P) : 1 ≤ rowS W C B pl ∧ rowS W C B pl ≤ 512 := by
  obtain ⟨w1, w2, h1, h2, c1, c2, hb, hp, _⟩ := h
  unfold rowS
  have hc : C = 1 ∨ C = 2 ∨ C = 3 ∨ C = 4 := by omega
  rcases hc with rfl | rfl | rfl | rfl <;> rcases hb with rfl | rfl <;> cases pl <;> simp <;> omega

theorem strS_bd (W H C B P : Int) (pl : Bool) (h : Shp W H C B P) :
    rowS W C B pl ≤ strS W C B pl P ∧ strS W C B pl P ≤ 520 ∧ strS W C B pl P % P = 0 ∧ (∀ n, rowS W C B pl ≤ n → n ≤ strS W C B pl P → n % P = 0 → n = strS W C B pl P) := by
  obtain ⟨r1, r2⟩ := rowS_bd W H C B P pl h
  have hp := h.p
  unfold strS
  generalize rowS W C B pl = r at *
  rcases hp with rfl | rfl | rfl | rfl <;> (refine ⟨by omega, by omega, by omega, fun n => by omega⟩)


def plcS (W H C B : Int) (pl : Bool) (P : Int) (x y c : Int) : Int :=
  if pl then (c * H + y) * strS W C B pl P + x * B / 8 else y * strS W C B pl P + (x * C + c) * B / 8


theorem rowS_alt (W H C B P : Int) (pl : Bool) (h : Shp W H C B P) : rowS W C B pl = if pl then W * B / 8 else W * B / 8 * C := by
  obtain ⟨w1, w2, h1, h2, c1, c2, hb, hp, _⟩ := h
  unfold rowS
  have hc : C = 1 ∨ C = 2 ∨ C = 3 ∨ C = 4 := by omega
  rcases hc with rfl | rfl | rfl | rfl <;> rcases hb with rfl | rfl <;> cases pl <;> simp <;> omega


/-! ### octets -/
theorem dm (b q k : Int) (h0 : 0 ≤ k) (hb : k < b) : (q * b + k) / b = q ∧ (q * b + k) % b = k := by
  have hb0 : 0 < b := by omega
  constructor
  · rw [Int.add_comm, Int.add_mul_ediv_right _ _ (by omega), Int.ediv_eq_zero_of_lt h0 hb]; omega
  · rw [Int.add_comm, Int.add_mul_emod_self_right, Int.emod_eq_of_lt h0 hb]

structure Lay where
  W : Int
  H : Int
  C : Int
  B : Int
  pl : Bool
  P : Int

namespace Lay
variable (L : Lay)
def ok : Prop := Shp L.W L.H L.C L.B L.P
def row : Int := rowS L.W L.C L.B L.pl
def str : Int := strS L.W L.C L.B L.pl L.P
def rows : Int := rowsS L.H L.C L.pl
def len : Int := L.rows * L.str
def plc (x y c : Int) : Int := plcS L.W L.H L.C L.B L.pl L.P x y c
def n : Int := L.B / 8
def dom (x y c : Int) : Prop := (0 ≤ x ∧ x < L.W) ∧ (0 ≤ y ∧ y < L.H) ∧ (0 ≤ c ∧ c < L.C)
/-- the coordinates of a position -/
def cx (p : Int) : Int := if L.pl then p % L.str / L.n else p % L.str / L.n / L.C
def cy (p : Int) : Int := if L.pl then p / L.str % L.H else p / L.str
def cc (p : Int) : Int := if L.pl then p / L.str / L.H else p % L.str / L.n % L.C
def cd (p : Int) : Int := p % L.str % L.n
def pad (p : Int) : Prop := L.row ≤ p % L.str
instance (p : Int) : Decidable (L.pad p) := inferInstanceAs (Decidable (_ ≤ _))
/-- the octet number d of a value -/
def byt (d v : Int) : Int := if L.n = 2 ∧ d = 0 then v / 256 % 256 else v % 256
def octF (f : Int → Int → Int → Int) (p : Int) : Int :=
  if L.pad p then 0 else L.byt (L.cd p) (f (L.cx p) (L.cy p) (L.cc p))

theorem n_cases (h : L.ok) : (L.n = 1 ∧ L.B = 8) ∨ (L.n = 2 ∧ L.B = 16) := by
  have := h.b
  unfold n
  rcases this with e | e <;> rw [e] <;> simp

theorem plc_eq (h : L.ok) (x y c : Int) : L.plc x y c = if L.pl then (c * L.H + y) * L.str + x * L.n else y * L.str + (x * L.C + c) * L.n := by
  unfold plc plcS str
  rcases L.n_cases h with ⟨hn, hB⟩ | ⟨hn, hB⟩ <;> rw [hn, hB] <;> split <;> congr 1 <;> omega

theorem row_eq (h : L.ok) : L.row = if L.pl then L.W * L.n else L.W * L.C * L.n := by
  unfold row rowS
  rcases L.n_cases h with ⟨hn, hB⟩ | ⟨hn, hB⟩ <;> rw [hn, hB] <;> split <;> omega

theorem row_str (h : L.ok) : 1 ≤ L.row ∧ L.row ≤ L.str ∧ L.str ≤ 520 := by
  have h1 := rowS_bd L.W L.H L.C L.B L.P L.pl h
  have h2 := strS_bd L.W L.H L.C L.B L.P L.pl h
  exact ⟨h1.1, h2.1, h2.2.1⟩

theorem mul_lt {a b A : Int} (h : a < A) (hb : 0 < b) : a * b + b ≤ A * b := by
  have : (a + 1) * b ≤ A * b := Int.mul_le_mul_of_nonneg_right (by omega) (by omega)
  rw [Int.add_mul] at this; omega

/-- the place of an octet of a sample, and back -/
theorem coords (h : L.ok) {x y c d : Int} (hd : L.dom x y c) (d0 : 0 ≤ d) (dn : d < L.n) :
    0 ≤ L.plc x y c + d ∧ L.plc x y c + d < L.len ∧ ¬ L.pad (L.plc x y c + d) ∧ L.cx (L.plc x y c + d) = x ∧ L.cy (L.plc x y c + d) = y ∧ L.cc (L.plc x y c + d) = c ∧ L.cd (L.plc x y c + d) = d := by
  obtain ⟨⟨x0, xW⟩, ⟨y0, yH⟩, ⟨c0, cC⟩⟩ := hd
  obtain ⟨r1, r2, r3⟩ := L.row_str h
  have hn : 0 < L.n := by rcases L.n_cases h with ⟨e, _⟩ | ⟨e, _⟩ <;> omega
  have hH : 0 < L.H := by omega
  have hC : 0 < L.C := by omega
  rw [L.plc_eq h]
  have hr := L.row_eq h
  unfold len rows rowsS cx cy cc cd pad
  by_cases hp : L.pl = true
  · simp only [hp, if_true] at hr ⊢
    have e1 := mul_lt xW hn
    have x1 : 0 ≤ x * L.n := Int.mul_nonneg x0 (by omega)
    have k0 : 0 ≤ x * L.n + d := by omega
    have k1 : x * L.n + d < L.str := by omega
    obtain ⟨a1, a2⟩ := dm L.str (c * L.H + y) (x * L.n + d) k0 k1
    obtain ⟨a3, a4⟩ := dm L.n x d d0 dn
    obtain ⟨a5, a6⟩ := dm L.H c y y0 yH
    have q0 : 0 ≤ c * L.H + y := by have := Int.mul_nonneg c0 (by omega : 0 ≤ L.H); omega
    have q1 : c * L.H + y < L.H * L.C := by have := mul_lt cC hH; rw [Int.mul_comm L.H]; omega
    have e2 := mul_lt q1 (by omega : 0 < L.str)
    have q2 : 0 ≤ (c * L.H + y) * L.str := Int.mul_nonneg q0 (by omega)
    rw [Int.add_assoc]
    rw [a1, a2, a3, a4, a5, a6]
    refine ⟨by omega, by omega, by omega, rfl, rfl, rfl, rfl⟩
  · simp only [hp, if_false, Bool.false_eq_true] at hr ⊢
    have e0 := mul_lt xW hC
    have x1 : 0 ≤ x * L.C := Int.mul_nonneg x0 (by omega)
    have s1 : x * L.C + c < L.W * L.C := by omega
    have e1 := mul_lt s1 hn
    have s0 : 0 ≤ (x * L.C + c) * L.n := Int.mul_nonneg (by omega) (by omega)
    have k0 : 0 ≤ (x * L.C + c) * L.n + d := by omega
    have k1 : (x * L.C + c) * L.n + d < L.str := by omega
    obtain ⟨a1, a2⟩ := dm L.str y ((x * L.C + c) * L.n + d) k0 k1
    obtain ⟨a3, a4⟩ := dm L.n (x * L.C + c) d d0 dn
    obtain ⟨a5, a6⟩ := dm L.C x c c0 cC
    have e2 := mul_lt yH (by omega : 0 < L.str)
    have q2 : 0 ≤ y * L.str := Int.mul_nonneg y0 (by omega)
    rw [Int.add_assoc]
    rw [a1, a2, a3, a4, a5, a6]
    refine ⟨by omega, by omega, by omega, rfl, rfl, rfl, rfl⟩

theorem back (h : L.ok) {p : Int} (p0 : 0 ≤ p) (p1 : p < L.len) (hp : ¬ L.pad p) :
    L.dom (L.cx p) (L.cy p) (L.cc p) ∧ 0 ≤ L.cd p ∧ L.cd p < L.n ∧ L.plc (L.cx p) (L.cy p) (L.cc p) + L.cd p = p := by
  obtain ⟨r1, r2, r3⟩ := L.row_str h
  have hn : 0 < L.n := by rcases L.n_cases h with ⟨e, _⟩ | ⟨e, _⟩ <;> omega
  have hs : 0 < L.str := by omega
  have hH : 0 < L.H := by have := h.h1; omega
  have hC : 0 < L.C := by have := h.c1; omega
  have e1 := Int.mul_ediv_add_emod p L.str
  have e2 := Int.mul_ediv_add_emod (p % L.str) L.n
  have k0 := Int.emod_nonneg p (by omega : L.str ≠ 0)
  have d0 := Int.emod_nonneg (p % L.str) (by omega : L.n ≠ 0)
  have d1 := Int.emod_lt_of_pos (p % L.str) hn
  have r0 : 0 ≤ p / L.str := Int.ediv_nonneg p0 (by omega)
  have s0 : 0 ≤ p % L.str / L.n := Int.ediv_nonneg k0 (by omega)
  have rr : p / L.str < L.rows := Int.ediv_lt_of_lt_mul hs p1
  unfold pad at hp
  have hr := L.row_eq h
  rw [L.plc_eq h]
  unfold dom
  unfold rows rowsS at rr
  unfold cx cy cc cd
  by_cases hpl : L.pl = true
  · simp only [hpl, if_true] at hr rr ⊢
    have e3 := Int.mul_ediv_add_emod (p / L.str) L.H
    have y0 := Int.emod_nonneg (p / L.str) (by omega : L.H ≠ 0)
    have y1 := Int.emod_lt_of_pos (p / L.str) hH
    have c0 : 0 ≤ p / L.str / L.H := Int.ediv_nonneg r0 (by omega)
    have c1 : p / L.str / L.H < L.C := Int.ediv_lt_of_lt_mul hH (by rw [Int.mul_comm]; exact rr)
    have x1 : p % L.str / L.n < L.W := Int.ediv_lt_of_lt_mul hn (by omega)
    refine ⟨⟨⟨s0, x1⟩, ⟨y0, y1⟩, ⟨c0, c1⟩⟩, d0, d1, ?_⟩
    rw [Int.mul_comm (p / L.str / L.H), e3, Int.mul_comm (p / L.str), Int.mul_comm (p % L.str / L.n), Int.add_assoc, e2, e1]
  · simp only [hpl, if_false, Bool.false_eq_true] at hr rr ⊢
    have e3 := Int.mul_ediv_add_emod (p % L.str / L.n) L.C
    have c0 := Int.emod_nonneg (p % L.str / L.n) (by omega : L.C ≠ 0)
    have c1 := Int.emod_lt_of_pos (p % L.str / L.n) hC
    have x0 : 0 ≤ p % L.str / L.n / L.C := Int.ediv_nonneg s0 (by omega)
    have x1 : p % L.str / L.n / L.C < L.W := Int.ediv_lt_of_lt_mul hC (Int.ediv_lt_of_lt_mul hn (by omega))
    refine ⟨⟨⟨x0, x1⟩, ⟨r0, rr⟩, ⟨c0, c1⟩⟩, d0, d1, ?_⟩
    rw [Int.mul_comm (p % L.str / L.n / L.C), e3, Int.mul_comm (p / L.str), Int.mul_comm (p % L.str / L.n), Int.add_assoc, e2, e1]

/-- one sample changed -/
def upd (f : Int → Int → Int → Int) (x y c v : Int) : Int → Int → Int → Int := fun i j k => if i = x ∧ j = y ∧ k = c then v else f i j k

theorem octF_here (h : L.ok) {x y c d : Int} (hd : L.dom x y c) (d0 : 0 ≤ d) (dn : d < L.n) (f : Int → Int → Int → Int) :
    L.octF f (L.plc x y c + d) = L.byt d (f x y c) := by
  obtain ⟨_, _, h3, h4, h5, h6, h7⟩ := L.coords h hd d0 dn
  unfold octF
  rw [if_neg h3, h4, h5, h6, h7]

theorem octF_upd (h : L.ok) {x y c v : Int} (hd : L.dom x y c) (f : Int → Int → Int → Int) {p : Int} (p0 : 0 ≤ p) (p1 : p < L.len) :
    L.octF (upd f x y c v) p = if 0 ≤ p - L.plc x y c ∧ p - L.plc x y c < L.n then L.byt (p - L.plc x y c) v else L.octF f p := by
  split
  · rename_i hh
    have := L.octF_here h hd hh.1 hh.2 (upd f x y c v)
    rw [show L.plc x y c + (p - L.plc x y c) = p by omega] at this
    rw [this]
    simp [upd]
  · rename_i hh
    unfold octF
    split
    · rfl
    · rename_i hpad
      obtain ⟨hd', e0, en, ep⟩ := L.back h p0 p1 hpad
      have : ¬ (L.cx p = x ∧ L.cy p = y ∧ L.cc p = c) := by
        rintro ⟨rfl, rfl, rfl⟩
        apply hh
        constructor <;> omega
      unfold upd
      rw [if_neg this]

theorem byt_range (d v : Int) : 0 ≤ L.byt d v ∧ L.byt d v < 256 := by
  unfold byt; split <;> omega

theorem octF_range (f : Int → Int → Int → Int) (p : Int) : 0 ≤ L.octF f p ∧ L.octF f p < 256 := by
  unfold octF; split
  · omega
  · exact L.byt_range _ _

/-- functions that agree on the image give the same octets -/
theorem octF_congr (h : L.ok) {f g : Int → Int → Int → Int} (hfg : ∀ x y c, L.dom x y c → f x y c = g x y c) {p : Int} (p0 : 0 ≤ p) (p1 : p < L.len) : L.octF f p = L.octF g p := by
  unfold octF
  split
  · rfl
  · rename_i hpad
    rw [hfg _ _ _ (L.back h p0 p1 hpad).1]

/-- reading a sample -/
def smp (o : Int → Int) (x y c : Int) : Int := if L.B = 8 then o (L.plc x y c) else 256 * o (L.plc x y c) + o (L.plc x y c + 1)

theorem smp_octF (h : L.ok) {x y c : Int} (hd : L.dom x y c) (f : Int → Int → Int → Int) (v0 : 0 ≤ f x y c) (v1 : f x y c < if L.B = 8 then 256 else 65536) : L.smp (L.octF f) x y c = f x y c := by
  unfold smp
  rcases L.n_cases h with ⟨hn, hB⟩ | ⟨hn, hB⟩
  · have := L.octF_here h hd (d := 0) (by omega) (by omega) f
    rw [Int.add_zero] at this
    rw [if_pos hB, this]
    rw [if_pos hB] at v1
    unfold byt
    rw [if_neg (by omega)]; omega
  · have e0 := L.octF_here h hd (d := 0) (by omega) (by omega) f
    have e1 := L.octF_here h hd (d := 1) (by omega) (by omega) f
    rw [Int.add_zero] at e0
    rw [if_neg (by omega), e0, e1]
    rw [if_neg (by omega)] at v1
    unfold byt
    rw [if_pos ⟨hn, rfl⟩, if_neg (by omega)]; omega

theorem smp_bd (h : L.ok) (o : Int → Int) (ho : ∀ p, 0 ≤ o p ∧ o p < 256) (x y c : Int) : 0 ≤ L.smp o x y c ∧ L.smp o x y c < if L.B = 8 then 256 else 65536 := by
  unfold smp
  have h1 := ho (L.plc x y c)
  have h2 := ho (L.plc x y c + 1)
  rcases L.n_cases h with ⟨hn, hB⟩ | ⟨hn, hB⟩
  · rw [if_pos hB, if_pos hB]; omega
  · rw [if_neg (by omega), if_neg (by omega)]; omega

/-- octets with zeros in the padding are the octets of their samples -/
theorem octF_smp (h : L.ok) (o : Int → Int) (ho : ∀ p, 0 ≤ o p ∧ o p < 256) (hz : ∀ p, 0 ≤ p → p < L.len → L.pad p → o p = 0) {p : Int} (p0 : 0 ≤ p) (p1 : p < L.len) : L.octF (L.smp o) p = o p := by
  unfold octF
  split
  · rename_i hp; exact (hz p p0 p1 hp).symm
  · rename_i hp
    obtain ⟨hd, d0, dn, e⟩ := L.back h p0 p1 hp
    generalize L.cx p = x at *
    generalize L.cy p = y at *
    generalize L.cc p = c at *
    generalize L.cd p = d at *
    have h1 := ho (L.plc x y c)
    have h2 := ho (L.plc x y c + 1)
    unfold smp byt
    rcases L.n_cases h with ⟨hn, hB⟩ | ⟨hn, hB⟩
    · have : d = 0 := by omega
      subst this
      rw [if_neg (by omega), if_pos hB, ← e, Int.add_zero]; omega
    · have : d = 0 ∨ d = 1 := by omega
      rw [if_neg (by omega : ¬ L.B = 8)]
      rcases this with rfl | rfl
      · rw [if_pos ⟨hn, rfl⟩, ← e, Int.add_zero]; omega
      · rw [if_neg (by omega), ← e]; omega

theorem rows_bd (h : L.ok) : 1 ≤ L.rows ∧ L.rows ≤ 256 := by
  unfold rows rowsS
  have h1 := h.h1; have h2 := h.h2; have c1 := h.c1; have c2 := h.c2
  split
  · constructor
    · have := Int.mul_le_mul (a := 1) (b := 1) h1 c1 (by omega) (by omega); omega
    · have := Int.mul_le_mul h2 c2 (by omega) (by omega); omega
  · omega

theorem len_bd (h : L.ok) : 1 ≤ L.len ∧ L.len ≤ 133120 := by
  obtain ⟨r1, r2, r3⟩ := L.row_str h
  have hr := L.rows_bd h
  unfold len
  constructor
  · have := Int.mul_le_mul (a := 1) (b := 1) hr.1 (show 1 ≤ L.str by omega) (by omega) (by omega); omega
  · have := Int.mul_le_mul hr.2 r3 (by omega) (by omega); omega

end Lay
end Go.Proofs.Ytphfbjeaklpddaa

/- Layer 42, the reference's small functions: within, shaped, row, stride, rows, place. -/
namespace Go.Proofs.Ytphfbjeaklpddaa
open Go.RowKit

set_option maxHeartbeats 400000 in
theorem within_any (n lo hi : Int) (w : World) :
    Calls Try.prog 67 #[.int .i64 n, .int .i64 lo, .int .i64 hi] w fun e w' => e = .returned (.bool (inB n lo hi)) ∧ w = w' := by
  unfold inB
  by_cases h1 : lo ≤ n
  · go_enter Try.func67, Try.ntmps67
    go_wp2
    go_ret
    exact ⟨by simp [h1], rfl⟩
  · go_enter Try.func67, Try.ntmps67
    go_wp2
    go_ret
    exact ⟨by rw [decide_eq_false (by omega : ¬ lo ≤ n)]; rfl, rfl⟩

abbrev imgV (W H C B : Int) (pl : Bool) (P : Int) (O : ByteArray) : Value :=
  .agg #[.int .i64 W, .int .i64 H, .int .i64 C, .int .i64 B, .bool pl, .int .i64 P, .string O]

set_option maxHeartbeats 400000 in
theorem rrow_any (W H C B : Int) (pl : Bool) (P : Int) (O : ByteArray) (w : World) (h : Shp W H C B P) :
    Calls Try.prog 66 #[imgV W H C B pl P O] w fun e w' => e = .returned (.int .i64 (rowS W C B pl)) ∧ Below w.heap.size w w' := by
  obtain ⟨w1, w2, h1, h2, c1, c2, hb, hp, _⟩ := h
  obtain ⟨b1, b2⟩ : 8 ≤ B ∧ B ≤ 16 := by omega
  obtain ⟨m1, m2⟩ := mul_bd (a := W) (b := B) (A := 64) (B := 16) (by omega) w2 (by omega) b2
  obtain ⟨n1, n2⟩ := mul_bd (a := W) (b := C) (A := 64) (B := 4) (by omega) w2 (by omega) c2
  obtain ⟨k1, k2⟩ := mul_bd (a := W * C) (b := B) (A := 256) (B := 16) (by omega) n2 (by omega) b2
  clear hb hp
  cases pl
  all_goals
    go_enter Try.func66, Try.ntmps66
    go_wp2
    go_ret
    exact ⟨rfl, (Below.refl _ _).alloc (Nat.le_refl _) _⟩

set_option maxHeartbeats 400000 in
theorem rrows_any (W H C B : Int) (pl : Bool) (P : Int) (O : ByteArray) (w : World) (h : Shp W H C B P) :
    Calls Try.prog 45 #[imgV W H C B pl P O] w fun e w' => e = .returned (.int .i64 (rowsS H C pl)) ∧ Below w.heap.size w w' := by
  obtain ⟨w1, w2, h1, h2, c1, c2, hb, hp, _⟩ := h
  obtain ⟨m1, m2⟩ := mul_bd (a := H) (b := C) (A := 64) (B := 4) (by omega) h2 (by omega) c2
  clear hb hp
  cases pl
  all_goals
    go_enter Try.func45, Try.ntmps45
    go_wp2
    go_ret
    exact ⟨rfl, (Below.refl _ _).alloc (Nat.le_refl _) _⟩

set_option maxHeartbeats 400000 in
theorem rstride_any (W H C B : Int) (pl : Bool) (P : Int) (O : ByteArray) (w : World) (h : Shp W H C B P) :
    Calls Try.prog 40 #[imgV W H C B pl P O] w fun e w' => e = .returned (.int .i64 (strS W C B pl P)) ∧ Below w.heap.size w w' := by
  obtain ⟨r1, r2⟩ := rowS_bd W H C B P pl h
  obtain ⟨s1, s2, s3, s4⟩ := strS_bd W H C B P pl h
  have hp := h.p
  have p1 : 1 ≤ P := by omega
  have p2 : P ≤ 8 := by omega
  have S4 := Lib.hid s4
  have S3 := Lib.hid s3
  clear s3 s4 hp
  go_enter Try.func40, Try.ntmps40
  go_wp2_with (go_at_call 66; refine (rrow_any _ _ _ _ _ _ _ _ h).mono ?_; rintro e w1 ⟨rfl, hb⟩)
  obtain ⟨hc, hf⟩ := bcell hb
  go_loop [3] (fun n => ∃ k : Int, rowS W C B pl ≤ k ∧ k ≤ strS W C B pl P ∧ n = .int .i64 k) (fun n => (strS W C B pl P - intOf n).toNat)
  case atStart => exact ⟨_, by omega, by omega, rfl⟩
  case round =>
    obtain ⟨k, k1, k2, rfl⟩ := hrel
    by_cases hk : k % P = 0
    · have hk' : k = strS W C B pl P := S4.out k k1 k2 hk
      have HK := Lib.hid hk'
      clear hk'
      go_wp2
      go_ret
      exact ⟨by rw [HK.out]; rfl, ((Below.refl _ _).alloc (Nat.le_refl _) _).trans (hb.mono (by simp))⟩
    · have : k < strS W C B pl P := by
        by_cases e : k = strS W C B pl P
        · exact absurd (e ▸ S3.out) hk
        · omega
      go_wp2
      go_round
      case rel => exact ⟨k + 1, by omega, by omega, by go_num⟩
      case measure => simp [intOf]; omega


set_option maxHeartbeats 400000 in
theorem rplace_any (W H C B : Int) (pl : Bool) (P : Int) (O : ByteArray) (x y c : Int) (w : World) (h : Shp W H C B P) (x0 : 0 ≤ x) (xW : x < W) (y0 : 0 ≤ y) (yH : y < H) (c0 : 0 ≤ c) (cC : c < C) :
    Calls Try.prog 72 #[imgV W H C B pl P O, .int .i64 x, .int .i64 y, .int .i64 c] w fun e w' => e = .returned (.int .i64 (plcS W H C B pl P x y c)) ∧ Below w.heap.size w w' := by
  obtain ⟨r1, r2⟩ := rowS_bd W H C B P pl h
  obtain ⟨s1, s2, s3, s4⟩ := strS_bd W H C B P pl h
  have h' := h
  obtain ⟨w1, w2, h1, h2, c1, c2, hb, hp, _⟩ := h'
  have b1 : 0 ≤ B ∧ B ≤ 16 := by omega
  obtain ⟨a1, a2⟩ := mul_bd (a := c) (b := H) (A := 4) (B := 64) c0 (by omega) (by omega) h2
  obtain ⟨a3, a4⟩ := mul_bd (a := c * H + y) (b := strS W C B pl P) (A := 320) (B := 520) (by omega) (by omega) (by omega) s2
  obtain ⟨a5, a6⟩ := mul_bd (a := x) (b := B) (A := 64) (B := 16) x0 (by omega) (by omega) b1.2
  obtain ⟨a7, a8⟩ := mul_bd (a := y) (b := strS W C B pl P) (A := 64) (B := 520) y0 (by omega) (by omega) s2
  obtain ⟨a9, a10⟩ := mul_bd (a := x) (b := C) (A := 64) (B := 4) x0 (by omega) (by omega) c2
  obtain ⟨a11, a12⟩ := mul_bd (a := x * C + c) (b := B) (A := 320) (B := 16) (by omega) (by omega) (by omega) b1.2
  clear hb hp s3 s4
  cases pl
  all_goals
    go_enter Try.func72, Try.ntmps72
    go_wp2
    refine wp_region_grow (by kernel_rfl) (by kernel_rfl) ?_
    repeat (go_big_quiet_step ((go_at_call 40; exact calls_grow (rstride_any _ _ _ _ _ _ _ _ h))))
    refine wpQuiet_nil ?_
    intro _ hw'
    obtain ⟨nq, hw''⟩ := hw'
    subst hw''
    go_wp2
    go_ret
    exact ⟨rfl, ((Below.refl _ _).alloc (Nat.le_refl _) _).trans ((grow_below _ _).mono (by simp))⟩

end Go.Proofs.Ytphfbjeaklpddaa

/- Layer 42, the program's small functions: between and what it calls, shaped. -/
namespace Go.Proofs.Ytphfbjeaklpddaa
open Go.RowKit

set_option maxHeartbeats 400000 in
theorem btw1_any (x lo hi : Int) (a b : Addr) (w : World) (ha : w.cell? a = some (.int .i64 lo)) (hb : w.cell? b = some (.int .i64 hi)) :
    Calls Try.prog 74 #[.int .i64 x, .pointer (some a), .pointer (some b)] w fun e w' => e = .returned (.bool (!inB x lo hi)) ∧ w = w' := by
  unfold inB
  by_cases h1 : lo ≤ x
  · have e1 : decide (x < lo) = false := decide_eq_false (by omega)
    have e2 : decide (lo ≤ x) = true := decide_eq_true (by omega)
    have H1 := Lib.hid e2
    clear e2
    go_enter Try.func74, Try.ntmps74
    go_wp2
    go_ret
    exact ⟨by rw [H1.out]; (cases h : decide (x ≤ hi) <;> simp at h ⊢ <;> omega), rfl⟩
  · have e1 : decide (x < lo) = true := decide_eq_true (by omega)
    have e2 : decide (lo ≤ x) = false := decide_eq_false (by omega)
    have H1 := Lib.hid e2
    clear e2
    go_enter Try.func74, Try.ntmps74
    go_wp2
    go_ret
    exact ⟨by rw [H1.out]; rfl, rfl⟩

set_option maxHeartbeats 400000 in
theorem indexFunc_btw (xs : List Int) (a : Option Addr) (cap : Nat) (lo hi : Int) (p q : Addr) (w : World) (hx : Ints w a xs) (hl : xs.length ≤ maxLen) (ha : w.cell? p = some (.int .i64 lo)) (hb : w.cell? q = some (.int .i64 hi)) :
    Calls Try.prog 79 #[.slice a xs.length cap, .func (.func 74) #[] #[.pointer (some p), .pointer (some q)]] w fun e w' => e = .returned (.int .i64 (idxF (fun x => !inB x lo hi) xs)) ∧ w = w' := by
  unfold maxLen at hl
  go_enter Try.func79, Try.ntmps79
  go_wp2
  go_loop [8] (fun i => ∃ k : Nat, k ≤ xs.length ∧ i = .int .i64 k ∧ (xs.take k).any (fun x => !inB x lo hi) = false) (fun i => xs.length - (intOf i).toNat)
  case atStart => exact ⟨0, Nat.zero_le _, rfl, rfl⟩
  case round =>
    obtain ⟨k, hk, rfl, ht⟩ := hrel
    have HT := Lib.hid ht
    clear ht
    by_cases hlt : k < xs.length
    · obtain ⟨b, off, x, rfl, hc, HX⟩ := hx.at hlt
      have hs := any_take_succ (p := fun x => !inB x lo hi) HX.out HT.out
      cases hp : (!inB x lo hi)
      · have HS := Lib.hid (hs.trans hp)
        have HP := Lib.hid hp
        clear hs hp
        go_wp2_with (go_at_call 74; refine (btw1_any _ lo hi p q _ ha hb).mono ?_; rintro e w1 ⟨rfl, rfl⟩; rw [HP.out])
        go_round
        case rel => exact ⟨k + 1, by omega, by go_num, HS.out⟩
        case measure => simp [intOf]; omega
      · have HS := Lib.hid (idxF_here (p := fun x => !inB x lo hi) HX.out HT.out hp)
        have HP := Lib.hid hp
        clear hs hp
        go_wp2_with (go_at_call 74; refine (btw1_any _ lo hi p q _ ha hb).mono ?_; rintro e w1 ⟨rfl, rfl⟩; rw [HP.out])
        go_ret
        exact ⟨by rw [HS.out]; rfl, rfl⟩
    · have HS := Lib.hid (idxF_none (fun x => !inB x lo hi) xs k (by omega) HT.out)
      go_wp2
      go_ret
      exact ⟨by rw [HS.out]; rfl, rfl⟩

theorem any_not_all (p : Int → Bool) (xs : List Int) : (!xs.any (fun x => !p x)) = xs.all p := by
  induction xs with
  | nil => rfl
  | cons x xs ih => simp only [List.any_cons, List.all_cons, Bool.not_or, Bool.not_not, ih]

set_option maxHeartbeats 400000 in
theorem containsFunc_btw (xs : List Int) (a : Option Addr) (cap : Nat) (lo hi : Int) (p q : Addr) (w : World) (hx : Ints w a xs) (hl : xs.length ≤ maxLen) (ha : w.cell? p = some (.int .i64 lo)) (hb : w.cell? q = some (.int .i64 hi)) :
    Calls Try.prog 73 #[.slice a xs.length cap, .func (.func 74) #[] #[.pointer (some p), .pointer (some q)]] w fun e w' => e = .returned (.bool (xs.any (fun x => !inB x lo hi))) ∧ w = w' := by
  have h0 := idxF_nonneg (fun x => !inB x lo hi) xs
  have H0 := Lib.hid h0
  clear h0
  go_enter Try.func73, Try.ntmps73
  go_wp2_with (go_at_call 79; refine (indexFunc_btw _ _ _ lo hi p q _ hx hl ha hb).mono ?_; rintro e w1 ⟨rfl, rfl⟩)
  go_ret
  exact ⟨by rw [← H0.out]; rfl, rfl⟩

set_option maxHeartbeats 400000 in
theorem between_any (lo hi : Int) (xs : List Int) (a : Option Addr) (cap : Nat) (w : World) (hx : Ints w a xs) (hl : xs.length ≤ maxLen) :
    Calls Try.prog 50 #[.int .i64 lo, .int .i64 hi, .slice a xs.length cap] w fun e w' => e = .returned (.bool (xs.all (fun x => inB x lo hi))) ∧ Below w.heap.size w w' := by
  have h0 := any_not_all (fun x => inB x lo hi) xs
  have H0 := Lib.hid h0
  clear h0
  have hb2 : Below w.heap.size w ((w.alloc (.cells #[.int .i64 lo] 3)).alloc (.cells #[.int .i64 hi] 3)) := ((Below.refl _ _).alloc (Nat.le_refl _) _).alloc (by simp) _
  go_enter Try.func50, Try.ntmps50
  go_wp2_with (go_at_call 73; refine (containsFunc_btw xs a cap lo hi _ _ _ (hx.below hb2) hl ?_ ?_).mono ?_; go_simp; go_simp; rintro e w1 ⟨rfl, rfl⟩)
  go_ret
  exact ⟨by rw [← H0.out]; rfl, hb2⟩

set_option maxHeartbeats 400000 in
theorem index_any (xs : List Int) (a : Option Addr) (cap : Nat) (v : Int) (w : World) (hx : Ints w a xs) (hl : xs.length ≤ maxLen) :
    Calls Try.prog 80 #[.slice a xs.length cap, .int .i64 v] w fun e w' => e = .returned (.int .i64 (idxF (fun x => v == x) xs)) ∧ w = w' := by
  unfold maxLen at hl
  go_enter Try.func80, Try.ntmps80
  go_wp2
  go_loop [8] (fun i => ∃ k : Nat, k ≤ xs.length ∧ i = .int .i64 k ∧ (xs.take k).any (fun x => v == x) = false) (fun i => xs.length - (intOf i).toNat)
  case atStart => exact ⟨0, Nat.zero_le _, rfl, rfl⟩
  case round =>
    obtain ⟨k, hk, rfl, ht⟩ := hrel
    have HT := Lib.hid ht
    clear ht
    by_cases hlt : k < xs.length
    · obtain ⟨b, off, x, rfl, hc, HX⟩ := hx.at hlt
      have hs := any_take_succ (p := fun x => v == x) HX.out HT.out
      cases hp : (v == x)
      · have HS := Lib.hid (hs.trans hp)
        clear hs
        go_wp2
        go_round
        case rel => exact ⟨k + 1, by omega, by go_num, HS.out⟩
        case measure => simp [intOf]; omega
      · have HS := Lib.hid (idxF_here (p := fun x => v == x) HX.out HT.out hp)
        clear hs
        go_wp2
        go_ret
        exact ⟨by rw [HS.out]; rfl, rfl⟩
    · have HS := Lib.hid (idxF_none (fun x => v == x) xs k (by omega) HT.out)
      go_wp2
      go_ret
      exact ⟨by rw [HS.out]; rfl, rfl⟩

set_option maxHeartbeats 400000 in
theorem contains_any (xs : List Int) (a : Option Addr) (cap : Nat) (v : Int) (w : World) (hx : Ints w a xs) (hl : xs.length ≤ maxLen) :
    Calls Try.prog 78 #[.slice a xs.length cap, .int .i64 v] w fun e w' => e = .returned (.bool (xs.any (fun x => v == x))) ∧ w = w' := by
  have h0 := idxF_nonneg (fun x => v == x) xs
  have H0 := Lib.hid h0
  clear h0
  go_enter Try.func78, Try.ntmps78
  go_wp2_with (go_at_call 80; refine (index_any _ _ _ _ _ hx hl).mono ?_; rintro e w1 ⟨rfl, rfl⟩)
  go_ret
  exact ⟨by rw [← H0.out]; rfl, rfl⟩

end Go.Proofs.Ytphfbjeaklpddaa

/- Layer 42: shaped, the reference's and the program's. -/
namespace Go.Proofs.Ytphfbjeaklpddaa
open Go.RowKit

set_option maxHeartbeats 2000000 in
theorem rshaped_any (W H C B : Int) (pl : Bool) (P : Int) (O : ByteArray) (w : World) :
    Calls Try.prog 43 #[imgV W H C B pl P O] w fun e w' => e = .returned (.bool (shpB W H C B P)) ∧ Below w.heap.size w w' := by
  have hb0 : ∀ o, Below w.heap.size w (w.alloc o) := fun o => (Below.refl _ _).alloc (Nat.le_refl _) _
  cases hW : inB W 1 64
  · go_enter Try.func43, Try.ntmps43
    go_wp2_with (go_at_call 67; refine (within_any _ _ _ _).mono ?_; rintro e w1 ⟨rfl, rfl⟩)
    go_ret
    exact ⟨by simp [shpB, hW], hb0 _⟩
  cases hH : inB H 1 64
  · go_enter Try.func43, Try.ntmps43
    go_wp2_with (go_at_call 67; refine (within_any _ _ _ _).mono ?_; rintro e w1 ⟨rfl, rfl⟩)
    go_ret
    exact ⟨by simp [shpB, hW, hH], hb0 _⟩
  cases hC : inB C 1 4
  · go_enter Try.func43, Try.ntmps43
    go_wp2_with (go_at_call 67; refine (within_any _ _ _ _).mono ?_; rintro e w1 ⟨rfl, rfl⟩)
    go_ret
    exact ⟨by simp [shpB, hW, hH, hC], hb0 _⟩
  obtain ⟨w1, w2⟩ := (inB_iff _ _ _).1 hW
  obtain ⟨h1, h2⟩ := (inB_iff _ _ _).1 hH
  obtain ⟨c1, c2⟩ := (inB_iff _ _ _).1 hC
  obtain ⟨m1, m2⟩ := mul_bd (a := W) (b := H) (A := 64) (B := 64) (by omega) w2 (by omega) h2
  obtain ⟨k1, k2⟩ := mul_bd (a := W * H) (b := C) (A := 4096) (B := 4) (by omega) m2 (by omega) c2
  cases hs : decide (W * H * C ≤ 4096)
  · have hs' : 4096 < W * H * C := by simpa using hs
    have HS := Lib.hid hs
    clear hs
    go_enter Try.func43, Try.ntmps43
    go_wp2_with (go_at_call 67; refine (within_any _ _ _ _).mono ?_; rintro e w1 ⟨rfl, rfl⟩)
    go_ret
    exact ⟨by simp [shpB, hW, hH, hC, HS.out], hb0 _⟩
  · have hs' : W * H * C ≤ 4096 := by simpa using hs
    have HS := Lib.hid hs
    clear hs
    go_enter Try.func43, Try.ntmps43
    go_wp2_with (go_at_call 67; refine (within_any _ _ _ _).mono ?_; rintro e w1 ⟨rfl, rfl⟩)
    all_goals
      go_ret
      exact ⟨by simp [shpB, hW, hH, hC, HS.out, *], hb0 _⟩

theorem ints_mk {w : World} {b off : Nat} {xs : List Int} (h : ∀ i, i < xs.length → w.cell? ⟨b, off + i, none⟩ = some (.int .i64 (xs[i]?.getD 0))) : Ints w (some ⟨b, off, none⟩) xs :=
  fun _ => ⟨b, off, rfl, h⟩

theorem between1 (lo hi x : Int) (b cap : Nat) (w : World) (h0 : w.cell? ⟨b, 0, none⟩ = some (.int .i64 x)) :
    Calls Try.prog 50 #[.int .i64 lo, .int .i64 hi, .slice (some ⟨b, 0, none⟩) 1 cap] w fun e w' => e = .returned (.bool (inB x lo hi)) ∧ Below w.heap.size w w' := by
  have := between_any lo hi [x] (some ⟨b, 0, none⟩) cap w (ints_mk (fun i hi => by
    have : i = 0 := by simpa using hi
    subst this; simpa using h0)) (by unfold maxLen; simp)
  simpa using this

theorem between2 (lo hi x y : Int) (b cap : Nat) (w : World) (h0 : w.cell? ⟨b, 0, none⟩ = some (.int .i64 x)) (h1 : w.cell? ⟨b, 1, none⟩ = some (.int .i64 y)) :
    Calls Try.prog 50 #[.int .i64 lo, .int .i64 hi, .slice (some ⟨b, 0, none⟩) 2 cap] w fun e w' => e = .returned (.bool (inB x lo hi && inB y lo hi)) ∧ Below w.heap.size w w' := by
  have := between_any lo hi [x, y] (some ⟨b, 0, none⟩) cap w (ints_mk (fun i hi => by
    have : i = 0 ∨ i = 1 := by simp at hi; omega
    rcases this with rfl | rfl
    · simpa using h0
    · simpa using h1)) (by unfold maxLen; simp)
  simpa using this

theorem contains4 (x y z t v : Int) (b cap : Nat) (w : World) (h0 : w.cell? ⟨b, 0, none⟩ = some (.int .i64 x)) (h1 : w.cell? ⟨b, 1, none⟩ = some (.int .i64 y)) (h2 : w.cell? ⟨b, 2, none⟩ = some (.int .i64 z)) (h3 : w.cell? ⟨b, 3, none⟩ = some (.int .i64 t)) :
    Calls Try.prog 78 #[.slice (some ⟨b, 0, none⟩) 4 cap, .int .i64 v] w fun e w' => e = .returned (.bool (v == x || v == y || v == z || v == t)) ∧ w = w' := by
  have := contains_any [x, y, z, t] (some ⟨b, 0, none⟩) cap v w (ints_mk (fun i hi => by
    have : i = 0 ∨ i = 1 ∨ i = 2 ∨ i = 3 := by simp at hi; omega
    rcases this with rfl | rfl | rfl | rfl
    · simpa using h0
    · simpa using h1
    · simpa using h2
    · simpa using h3)) (by unfold maxLen; simp)
  simpa [Bool.or_assoc] using this

end Go.Proofs.Ytphfbjeaklpddaa
