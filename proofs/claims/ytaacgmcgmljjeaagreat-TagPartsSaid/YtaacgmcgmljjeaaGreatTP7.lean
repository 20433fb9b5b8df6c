/-
  Joined texts: The evaluator: operations on two values. · The evaluator: loads, stores, new variables. · The evaluator: parts of values; builtins that only read. · The evaluator: equality. · The evaluator: equality. · The evaluator: builtins, slices, functions. · The evaluator: slices of strings and of rows; conversions. · The evaluator: values and rows that are built. · The evaluator: rows that are built and made; what a slice or a string holds.
-/
import Derived.Test.YtaacgmcgmljjeaaGreatTP6
import Derived.Laws.StructEq
set_option linter.unusedSimpArgs false
set_option linter.unusedVariables false

/- The evaluator: operations on two values. -/
namespace Go.Proofs.YtaacgmcgmljjeaaGreat
namespace Ev
open Go.RowKit

section
variable {P : Program} {T : Tab}

theorem op_bin {E : Env} {m : Mem} {x : V} {op : BinOp} {t U : TypeId} (y z : Operand)
    (h : ∀ ρ w v1 v2, RV ρ v1 (opX E y) → RV ρ v2 (opX E z) → ∃ u, (∀ y z : Operand, (eqGuard op t y z v1 v2).run P w = .ok () w) ∧ (binOp op t v1 v2).run P w = .ok u w ∧ RV ρ u x) : OpS P (.binOp op t y z U) E m x m :=
  .read fun L ρ w ev ho _ => by
    obtain ⟨u, h1, h2, h3⟩ := h ρ w (ev y) (ev z) (ho y (by simp [Op.operands])) (ho z (by simp [Op.operands]))
    exact ⟨u, fun o e => by simp [execOp, e, h1, h2], h3⟩

theorem guard_int (op : BinOp) (t : TypeId) (y z : Operand) (k j : IntKind) (a b : Int) (w : World) : (eqGuard op t y z (.int k a) (.int j b)).run P w = .ok () w := by
  unfold eqGuard; split <;> rfl
theorem guard_str (op : BinOp) (t : TypeId) (y z : Operand) (a b : ByteArray) (w : World) : (eqGuard op t y z (.string a) (.string b)).run P w = .ok () w := by
  unfold eqGuard; split <;> rfl

/-! ### numbers -/
theorem cmpI_run {op : BinOp} {k : IntKind} {a b : Int} {t : TypeId} {r : V} (h : cmpI op a b = some r) (ρ : Rho) (w : World) : ∃ u, (binOp op t (.int k a) (.int k b)).run P w = .ok u w ∧ RV ρ u r := by
  have hk : ¬ (k ≠ k) := fun h => h rfl
  cases op <;> simp only [cmpI] at h <;> cases h
  · exact ⟨.bool (a == b), by simp [binOp, Op.intCmp], .bool _⟩
  · exact ⟨.bool (a != b), by simp [binOp, Op.intCmp], .bool _⟩
  · exact ⟨.bool (decide (a < b)), by simp [binOp, Op.intCmp], .bool _⟩
  · exact ⟨.bool (decide (a ≤ b)), by simp [binOp, Op.intCmp], .bool _⟩
  · exact ⟨.bool (decide (b < a)), by simp [binOp, Op.intCmp], .bool _⟩
  · exact ⟨.bool (decide (b ≤ a)), by simp [binOp, Op.intCmp], .bool _⟩

theorem wrap_mod (k : IntKind) (m : Nat) : k.wrap ((m % 2 ^ k.bits : Nat) : Int) = k.wrap (m : Int) := by
  unfold IntKind.wrap
  have : (((m % 2 ^ k.bits : Nat) : Int)) % (2 ^ k.bits : Int) = (m : Int) % (2 ^ k.bits : Int) := by
    rw [Int.natCast_emod]
    simp
  rw [this]

theorem natI_eq {a : Int} {x : Nat} (h : natI a = some x) : a = (x : Int) := by
  cases a with
  | ofNat m => simp only [natI] at h; cases h; rfl
  | negSucc m => cases h

theorem ofInt_nat (n x : Nat) : (BitVec.ofInt n (x : Int)).toNat = x % 2 ^ n := by
  rw [BitVec.toNat_ofInt]
  have : ((x : Int) % ((2 ^ n : Nat) : Int)) = ((x % 2 ^ n : Nat) : Int) := by rw [Int.natCast_emod]
  rw [this]
  rfl

theorem arithI_run {op : BinOp} {k : IntKind} {a b : Int} {t : TypeId} {r : V} (h : arithI op k a b = some r) (ρ : Rho) (w : World) : ∃ u, (binOp op t (.int k a) (.int k b)).run P w = .ok u w ∧ RV ρ u r := by
  have hbit : ∀ f : Nat → Nat → Nat, ∀ g : BitVec k.bits → BitVec k.bits → BitVec k.bits, (∀ x y, (g x y).toNat = f x.toNat y.toNat) → (∀ x y, f (x % 2 ^ k.bits) (y % 2 ^ k.bits) = f x y % 2 ^ k.bits) → bitI k f a b = some r →
      RV ρ (.int k (k.wrap ((g (BitVec.ofInt k.bits a) (BitVec.ofInt k.bits b)).toNat : Int))) r := by
    intro f g hg hf h
    unfold bitI at h
    split at h
    · rename_i x y hx hy
      cases h
      rw [natI_eq hx, natI_eq hy, hg, ofInt_nat, ofInt_nat, hf, wrap_mod]
      exact ofN_rel ρ k _
    · cases h
  cases op with
  | add => cases h; exact ⟨.int k (k.wrap (a + b)), by simp [binOp, Op.intArith], ofI_rel ρ k _⟩
  | sub => cases h; exact ⟨.int k (k.wrap (a - b)), by simp [binOp, Op.intArith], ofI_rel ρ k _⟩
  | mul => cases h; exact ⟨.int k (k.wrap (a * b)), by simp [binOp, Op.intArith], ofI_rel ρ k _⟩
  | quo =>
    simp only [arithI, divI] at h
    split at h
    · cases h
    · rename_i hb
      cases h
      have hb' : b ≠ 0 := by simpa using hb
      exact ⟨.int k (k.wrap (a.tdiv b)), by simp [binOp, Op.intDiv, hb'], ofI_rel ρ k _⟩
  | rem =>
    simp only [arithI, remI] at h
    split at h
    · cases h
    · rename_i hb
      cases h
      have hb' : b ≠ 0 := by simpa using hb
      exact ⟨.int k (a.tmod b), by simp [binOp, Op.intDiv, hb'], ofR_rel ρ k _⟩
  | and => exact ⟨.int k (k.wrap ((BitVec.ofInt k.bits a &&& BitVec.ofInt k.bits b).toNat : Int)), by simp [binOp, Op.intBits], hbit Nat.land (· &&& ·) (fun x y => BitVec.toNat_and ..) (fun x y => (Nat.and_mod_two_pow ..).symm) h⟩
  | or => exact ⟨.int k (k.wrap ((BitVec.ofInt k.bits a ||| BitVec.ofInt k.bits b).toNat : Int)), by simp [binOp, Op.intBits], hbit Nat.lor (· ||| ·) (fun x y => BitVec.toNat_or ..) (fun x y => (Nat.or_mod_two_pow ..).symm) h⟩
  | xor => exact ⟨.int k (k.wrap ((BitVec.ofInt k.bits a ^^^ BitVec.ofInt k.bits b).toNat : Int)), by simp [binOp, Op.intBits], hbit Nat.xor (· ^^^ ·) (fun x y => BitVec.toNat_xor ..) (fun x y => (Nat.xor_mod_two_pow ..).symm) h⟩
  | shl => simp only [arithI, cmpI] at h; cases h
  | shr => simp only [arithI, cmpI] at h; cases h
  | andNot => simp only [arithI, cmpI] at h; cases h
  | eql => exact cmpI_run (show cmpI .eql a b = some r from h) ρ w
  | neq => exact cmpI_run (show cmpI .neq a b = some r from h) ρ w
  | lss => exact cmpI_run (show cmpI .lss a b = some r from h) ρ w
  | leq => exact cmpI_run (show cmpI .leq a b = some r from h) ρ w
  | gtr => exact cmpI_run (show cmpI .gtr a b = some r from h) ρ w
  | geq => exact cmpI_run (show cmpI .geq a b = some r from h) ρ w

theorem bitsN_eq (k : IntKind) : bitsN k = k.bits := by cases k <;> rfl

theorem intI_run {op : BinOp} {k j : IntKind} {a b : Int} {t : TypeId} {r : V} (h : intI op k j a b = some r) (ρ : Rho) (w : World) : ∃ u, (binOp op t (.int k a) (.int j b)).run P w = .ok u w ∧ RV ρ u r := by
  have hsame : sameK op k j a b = some r → ∃ u, (binOp op t (.int k a) (.int j b)).run P w = .ok u w ∧ RV ρ u r := fun hs => by
    unfold sameK at hs
    split at hs
    · rename_i hk
      have := kEq_eq hk
      subst this
      exact arithI_run hs ρ w
    · cases hs
  have hsh : ∀ s : Nat, ¬ (((s : Nat) : Int) < 0) := fun s => by omega
  cases op with
  | shl =>
    simp only [intI, shiftE] at h
    cases hb : natI b with
    | none => rw [hb] at h; cases h
    | some s =>
      rw [hb] at h
      cases h
      rw [natI_eq hb]
      refine ⟨.int k (k.wrap (a * 2 ^ (min s k.bits))), by simp [binOp, Op.shift, hsh], ?_⟩
      unfold shlE
      rw [bitsN_eq]
      have : (a * 2 ^ (min s k.bits) : Int) = Int.mul a (Int.ofNat (Nat.pow 2 (Nat.min s k.bits))) := by
        show a * 2 ^ (min s k.bits) = a * ((2 ^ (min s k.bits) : Nat) : Int)
        rw [Int.natCast_pow]; rfl
      rw [this]
      exact ofI_rel ρ k _
  | shr =>
    simp only [intI, shiftE] at h
    cases hb : natI b with
    | none => rw [hb] at h; cases h
    | some s =>
      rw [hb] at h
      cases h
      rw [natI_eq hb]
      refine ⟨.int k (a.fdiv (2 ^ (min s k.bits))), by simp [binOp, Op.shift, hsh], ?_⟩
      unfold shrE
      rw [bitsN_eq]
      have : (2 ^ (min s k.bits) : Int) = Int.ofNat (Nat.pow 2 (Nat.min s k.bits)) := by
        show (2 : Int) ^ (min s k.bits) = ((2 ^ (min s k.bits) : Nat) : Int)
        rw [Int.natCast_pow]; rfl
      rw [this]
      exact ofR_rel ρ k _
  | _ => exact hsame (by simpa only [intI] using h)

theorem intE_run {op : BinOp} {x y r : V} {t : TypeId} (h : intE op x y = some r) (ρ : Rho) (w : World) {v1 v2 : Value} (h1 : RV ρ v1 x) (h2 : RV ρ v2 y) :
    ∃ u, (∀ y z : Operand, (eqGuard op t y z v1 v2).run P w = .ok () w) ∧ (binOp op t v1 v2).run P w = .ok u w ∧ RV ρ u r := by
  unfold intE at h
  split at h
  · rename_i p q hp hq
    have e1 := h1.toI hp
    have e2 := h2.toI hq
    subst e1 e2
    obtain ⟨u, g1, g2⟩ := intI_run (P := P) (t := t) h ρ w
    exact ⟨u, fun y z => guard_int _ _ _ _ _ _ _ _ _, g1, g2⟩
  · cases h

theorem nb (a b : Nat) : (Nat.beq a b = true) = (a = b) := by
  rw [eq_iff_iff]
  exact ⟨Nat.eq_of_beq_eq_true, fun h => by subst h; exact Nat.beq_refl a⟩
theorem nl (a b : Nat) : (Nat.ble a b = true) = (a ≤ b) := by
  rw [eq_iff_iff]
  exact ⟨Nat.le_of_ble_eq_true, Nat.ble_eq_true_of_le⟩

theorem bN (a b : Nat) : ((a : Int) == (b : Int)) = Nat.beq a b := by
  rw [Bool.eq_iff_iff, nb, beq_iff_eq]
  omega

theorem nnE_run {op : BinOp} {a b : Nat} {r : V} {t : TypeId} (h : nnE op a b = some r) (ρ : Rho) (w : World) : ∃ u, (binOp op t (.int .i64 (a : Int)) (.int .i64 (b : Int))).run P w = .ok u w ∧ RV ρ u r := by
  have hb : ∀ {x y : Nat}, Nat.ble x y = true → x ≤ y := fun h => Nat.le_of_ble_eq_true h
  cases op with
  | add =>
    simp only [nnE, addN] at h
    split at h
    · rename_i hl
      cases h
      have := hb hl
      refine ⟨.int .i64 ((a + b : Nat) : Int), ?_, .nn _⟩
      have e : IntKind.i64.wrap ((a : Int) + (b : Int)) = ((a + b : Nat) : Int) := by
        rw [← Int.natCast_add]; exact fits_max (k := .i64) this
      simp [binOp, Op.intArith, e]
    · cases h
  | sub =>
    simp only [nnE, subN] at h
    split at h
    · rename_i hl
      cases h
      rw [Bool.and_eq_true] at hl
      have h1 := hb hl.1
      have h2 := hb hl.2
      refine ⟨.int .i64 ((a - b : Nat) : Int), ?_, .nn _⟩
      have e : IntKind.i64.wrap ((a : Int) - (b : Int)) = ((a - b : Nat) : Int) := by
        rw [← Int.ofNat_sub h1]; exact fits_max (k := .i64) h2
      simp [binOp, Op.intArith, e]
    · cases h
  | mul =>
    simp only [nnE, mulN] at h
    split at h
    · rename_i hl
      cases h
      have := hb hl
      refine ⟨.int .i64 ((a * b : Nat) : Int), ?_, .nn _⟩
      have e : IntKind.i64.wrap ((a : Int) * (b : Int)) = ((a * b : Nat) : Int) := by
        rw [← Int.natCast_mul]; exact fits_max (k := .i64) this
      simp [binOp, Op.intArith, e]
    · cases h
  | quo =>
    simp only [nnE, quoN] at h
    split at h
    · cases h
    · rename_i hl
      cases h
      simp only [Bool.or_eq_false_iff, Bool.not_eq_false'] at hl
      have h0 : b ≠ 0 := fun e => by subst e; exact absurd hl.1 (by decide)
      have h1 := hb hl.2
      refine ⟨.int .i64 ((a / b : Nat) : Int), ?_, .nn _⟩
      have e : IntKind.i64.wrap (((a : Int)).tdiv (b : Int)) = ((a / b : Nat) : Int) := by
        rw [Int.tdiv_eq_ediv_of_nonneg (by omega), ← Int.natCast_ediv]; exact fits_max (k := .i64) h1
      have h0' : ¬ ((b : Int) = 0) := by omega
      have hr : binOp .quo t (.int .i64 (a : Int)) (.int .i64 (b : Int)) = (pure (.int .i64 (IntKind.i64.wrap ((a : Int).tdiv (b : Int)))) : Sem Value) := by
        simp only [binOp, Op.intDiv, ne_eq, not_true_eq_false, if_false, if_neg h0']
      rw [hr, e]
      rfl
  | rem =>
    simp only [nnE, remN] at h
    split at h
    · cases h
    · rename_i hl
      cases h
      have h0 : b ≠ 0 := fun e => by subst e; exact absurd hl (by decide)
      refine ⟨.int .i64 ((a % b : Nat) : Int), ?_, .nn _⟩
      have h0' : ¬ ((b : Int) = 0) := by omega
      have e : ((a : Int)).tmod (b : Int) = ((a % b : Nat) : Int) := by
        rw [Int.tmod_eq_emod_of_nonneg (by omega), ← Int.natCast_emod]
      have hr : binOp .rem t (.int .i64 (a : Int)) (.int .i64 (b : Int)) = (pure (.int .i64 ((a : Int).tmod (b : Int))) : Sem Value) := by
        simp only [binOp, Op.intDiv, ne_eq, not_true_eq_false, if_false, if_neg h0']
      rw [hr, e]
      rfl
  | eql =>
    simp only [nnE, cmpN] at h
    cases h
    refine ⟨.bool ((a : Int) == b), by simp [binOp, Op.intCmp], ?_⟩
    rw [bN]
    exact .bool _
  | neq =>
    simp only [nnE, cmpN] at h
    cases h
    refine ⟨.bool ((a : Int) != b), by simp [binOp, Op.intCmp], ?_⟩
    rw [show ((a : Int) != b) = (!Nat.beq a b) from by rw [← bN]; rfl]
    exact .bool _
  | lss =>
    simp only [nnE, cmpN] at h
    cases h
    refine ⟨.bool (decide ((a : Int) < b)), by simp [binOp, Op.intCmp], ?_⟩
    rw [show (decide ((a : Int) < b)) = Nat.ble (Nat.succ a) b from by rw [Bool.eq_iff_iff]; simp only [nl, decide_eq_true_eq]; omega]
    exact .bool _
  | leq =>
    simp only [nnE, cmpN] at h
    cases h
    refine ⟨.bool (decide ((a : Int) ≤ b)), by simp [binOp, Op.intCmp], ?_⟩
    rw [show (decide ((a : Int) ≤ b)) = Nat.ble a b from by rw [Bool.eq_iff_iff]; simp only [nl, decide_eq_true_eq]; omega]
    exact .bool _
  | gtr =>
    simp only [nnE, cmpN] at h
    cases h
    refine ⟨.bool (decide ((b : Int) < a)), by simp [binOp, Op.intCmp], ?_⟩
    rw [show (decide ((b : Int) < a)) = Nat.ble (Nat.succ b) a from by rw [Bool.eq_iff_iff]; simp only [nl, decide_eq_true_eq]; omega]
    exact .bool _
  | geq =>
    simp only [nnE, cmpN] at h
    cases h
    refine ⟨.bool (decide ((b : Int) ≤ a)), by simp [binOp, Op.intCmp], ?_⟩
    rw [show (decide ((b : Int) ≤ a)) = Nat.ble b a from by rw [Bool.eq_iff_iff]; simp only [nl, decide_eq_true_eq]; omega]
    exact .bool _
  | _ => simp only [nnE, cmpN] at h; cases h

/-! ### strings -/
theorem bytesEq_eq : ∀ a b : List UInt8, bytesEq a b = (a == b)
  | [], b => by cases b <;> rfl
  | a :: «as», b => by
    cases b with
    | nil => rfl
    | cons b bs =>
      show (match Nat.beq a.toNat b.toNat with | true => bytesEq «as» bs | false => false) = _
      cases h : Nat.beq a.toNat b.toNat with
      | true =>
        have : a = b := UInt8.toNat_inj.1 (Nat.eq_of_beq_eq_true h)
        subst this
        simp only [bytesEq_eq «as» bs]
        simp [BEq.beq, List.beq]
      | false =>
        have : ¬ a = b := fun e => by subst e; rw [Nat.beq_refl] at h; cases h
        simp only
        rw [eq_comm, beq_eq_false_iff_ne]
        intro e
        exact this (List.cons.inj e).1

theorem strE_run {op : BinOp} {a b : List UInt8} {t : TypeId} {r : V} (h : strE op a b = some r) (ρ : Rho) (w : World) : ∃ u, (binOp op t (.string ⟨⟨a⟩⟩) (.string ⟨⟨b⟩⟩)).run P w = .ok u w ∧ RV ρ u r := by
  have e : ((⟨⟨a⟩⟩ : ByteArray).toList == (⟨⟨b⟩⟩ : ByteArray).toList) = bytesEq a b := by
    rw [ByteArray.toList_eq, ByteArray.toList_eq, bytesEq_eq]
  cases op with
  | add =>
    simp only [strE] at h
    split at h
    · rename_i hl
      cases h
      have hl' : a.length + b.length ≤ 1000000 := Nat.le_of_ble_eq_true hl
      refine ⟨.string (⟨⟨a⟩⟩ ++ ⟨⟨b⟩⟩), ?_, ?_⟩
      · have hr : binOp .add t (.string ⟨⟨a⟩⟩) (.string ⟨⟨b⟩⟩) = (pure (.string (⟨⟨a⟩⟩ ++ ⟨⟨b⟩⟩)) : Sem Value) := by
          simp only [binOp, Op.stringOp]
          rw [if_neg]
          show ¬ (((a.length + b.length : Nat) : Int) > 9223372036854775807)
          omega
        rw [hr]; rfl
      · have : (⟨⟨a⟩⟩ ++ ⟨⟨b⟩⟩ : ByteArray) = ⟨⟨a ++ b⟩⟩ := by
          apply ByteArray.ext
          simp
        rw [this]; exact .str _
    · cases h
  | eql => simp only [strE] at h; cases h; exact ⟨.bool (bytesEq a b), by simp only [binOp, Op.stringOp, e]; rfl, .bool _⟩
  | neq => simp only [strE] at h; cases h; exact ⟨.bool (!bytesEq a b), by simp only [binOp, Op.stringOp, e]; rfl, .bool _⟩
  | _ => simp only [strE] at h; cases h

end
end Ev
end Go.Proofs.YtaacgmcgmljjeaaGreat

/- The evaluator: loads, stores, new variables. -/
namespace Go.Proofs.YtaacgmcgmljjeaaGreat
namespace Ev
open Go.RowKit

section
variable {P : Program} {T : Tab}

theorem takeD_spec : ∀ (n off : Nat) (c : Tr V) (l : List V), takeD c n off = some l → l.length = n ∧ ∀ j x, l[j]? = some x → c.get (off + j) = some x
  | 0, off, c, l, h => by cases h; exact ⟨rfl, fun j x h => by simp at h⟩
  | n + 1, off, c, l, h => by
    unfold takeD at h
    split at h
    · rename_i x hx
      cases hr : takeD c n (Nat.succ off) with
      | none => rw [hr] at h; cases h
      | some r =>
        rw [hr] at h
        cases h
        obtain ⟨h1, h2⟩ := takeD_spec n _ c r hr
        refine ⟨by simp [h1], fun j y hy => ?_⟩
        cases j with
        | zero => simp at hy; subst hy; exact hx
        | succ j =>
          have := h2 j y (by simpa using hy)
          rwa [show Nat.succ off + j = off + (j + 1) by omega] at this
    · cases h

theorem putD_get : ∀ (l : List V) (c : Tr V) (off j : Nat), (putD l c off).get j = if off ≤ j ∧ j < off + l.length then l[j - off]? else c.get j
  | [], c, off, j => by
    show c.get j = _
    rw [if_neg (by simp only [List.length_nil]; omega)]
  | x :: xs, c, off, j => by
    show (putD xs (c.set x off) (Nat.succ off)).get j = _
    rw [putD_get xs, Tr.get_set]
    by_cases h1 : j = off
    · subst h1
      rw [if_neg (by omega), if_pos rfl, if_pos (by simp)]
      simp
    · rw [if_neg h1]
      by_cases h2 : Nat.succ off ≤ j ∧ j < Nat.succ off + xs.length
      · rw [if_pos h2, if_pos (by simp only [List.length_cons]; omega), show j - off = (j - Nat.succ off) + 1 by omega, List.getElem?_cons_succ]
      · rw [if_neg h2, if_neg (by simp only [List.length_cons]; omega)]

/-- cells that are known, in the world -/
theorem cells_at {ρ : Rho} {w : World} {b off n : Nat} {tr : Tr V} {l : List V} (ho : RC ρ w b tr) (h : takeD tr n off = some l) :
    ∃ vs : List Value, RL ρ vs l ∧ (∀ v, v ∈ vs → v.oneCell' = true) ∧ (∀ j v, vs[j]? = some v → w.cell? ⟨b, off + j, none⟩ = some v) := by
  obtain ⟨h1, h2⟩ := takeD_spec n off tr l h
  obtain ⟨cs, U, fr, g1, g4⟩ := ho
  have hin : ∀ j, j < l.length → ∃ v, cs[off + j]? = some v ∧ v.oneCell' = true ∧ ∀ x, l[j]? = some x → RV ρ v x := fun j hj => by
    obtain ⟨v, k1, k2, k3⟩ := g4 (off + j) l[j] (h2 j _ (by simp [hj]))
    exact ⟨v, k1, k2, fun x hx => by rw [show l[j]? = some l[j] by simp [hj]] at hx; cases hx; exact k3⟩
  have hget : ∀ j v, ((List.range l.length).map fun j => cs[off + j]?.getD undef)[j]? = some v → j < l.length ∧ cs[off + j]? = some v := fun j v hv => by
    rw [List.getElem?_map] at hv
    by_cases hj : j < l.length
    · rw [List.getElem?_range hj] at hv
      obtain ⟨u, k1, _⟩ := hin j hj
      simp only [Option.map_some, k1, Option.getD_some] at hv
      exact ⟨hj, by rw [k1, hv]⟩
    · rw [List.getElem?_eq_none (by simpa using hj)] at hv; cases hv
  refine ⟨(List.range l.length).map fun j => cs[off + j]?.getD undef, ⟨by simp, fun j v x hv hx => ?_⟩, fun v hv => ?_, fun j v hv => ?_⟩
  · obtain ⟨hj, hc⟩ := hget j v hv
    obtain ⟨u, k1, _, k3⟩ := hin j hj
    rw [hc] at k1; cases k1
    exact k3 x hx
  · obtain ⟨j, hj⟩ := List.getElem?_of_mem hv
    obtain ⟨hj', hc⟩ := hget j v hj
    obtain ⟨u, k1, k2, _⟩ := hin j hj'
    rw [hc] at k1; cases k1
    exact k2
  · obtain ⟨_, hc⟩ := hget j v hv
    simp only [World.cell?, g1]
    simpa using hc

theorem addr_add (b off j : Nat) : (⟨b, off, none⟩ : Addr).add j = ⟨b, off + j, none⟩ := by unfold Addr.add; split <;> simp_all

/-! ### loads -/
theorem loadE_run (hT : TabOk P T) {t : TypeId} {m : Mem} {x y : V} (h : loadE T t m y = some x) {L : Nat} {ρ : Rho} {w : World} (hs : Sat L ρ m w) {v : Value} (hv : RV ρ v y) :
    ∃ a u, v = .pointer (some a) ∧ (loadVar t a).run P w = .ok u w ∧ RV ρ u x := by
  unfold loadE at h
  split at h
  · rename_i id off
    cases hv with
    | ptr _ _ b c hr =>
      refine ⟨⟨b, off, none⟩, ?_⟩
      have key : ∀ tr, RC ρ w b tr → loadL tr off (layT T t) = some x → ∃ u, Value.pointer (some ⟨b, off, none⟩) = .pointer (some ⟨b, off, none⟩) ∧ (loadVar t ⟨b, off, none⟩).run P w = .ok u w ∧ RV ρ u x := fun tr g2 h => by
        unfold loadL at h
        split at h
        · rename_i hlay
          obtain ⟨d, i, hu, hi, ha⟩ := layT_one hT hlay
          obtain ⟨cs, U, fr, k1, k4⟩ := g2
          obtain ⟨u, q1, q2, q3⟩ := k4 off x h
          have hc : w.cell? ⟨b, off, none⟩ = some u := by simp [World.cell?, k1, q1]
          have := run_loadVar_cells (P := P) (w := w) (b := b) (off := off) hu hi (fun _ => u) 1 (fun h => by rw [ha] at h; cases h) (fun _ => rfl) (fun j hj => by
            have : j = 0 := by omega
            subst this
            exact hc)
          rw [if_neg (by rw [ha]; simp)] at this
          exact ⟨u, rfl, this, q3⟩
        · rename_i n hlay
          obtain ⟨d, i, hu, hi, ha, hz⟩ := layT_agg hT hlay
          cases hl2 : takeD tr n off with
          | none => rw [hl2] at h; cases h
          | some l =>
            rw [hl2] at h
            cases h
            obtain ⟨vs, q1, q2, q3⟩ := cells_at g2 hl2
            have hlen : vs.length = n := q1.1.trans (takeD_spec _ _ _ _ hl2).1
            have := run_loadVar_cells (P := P) (w := w) (b := b) (off := off) hu hi (fun j => vs[j]?.getD undef) n (fun _ => hz) (fun h => by rw [ha] at h; cases h) (fun j hj => by
              have hj' : j < vs.length := by omega
              rw [q3 j vs[j] (by simp [hj'])]
              simp [hj'])
            rw [if_pos ha] at this
            have he : (List.range n).map (fun j => vs[j]?.getD undef) = vs := by
              apply List.ext_getElem?
              intro j
              rw [List.getElem?_map]
              by_cases hj : j < n
              · rw [List.getElem?_range hj]
                have hj' : j < vs.length := by omega
                simp [hj']
              · rw [List.getElem?_eq_none (by simpa using hj), List.getElem?_eq_none (by omega)]; rfl
            rw [he] at this
            exact ⟨.agg vs.toArray, rfl, this, .agg' (by simpa using q1) fun v hv => q2 v (by simpa using hv)⟩
        · cases h
      unfold loadO at h
      split at h
      · rename_i U e z tr hl
        obtain ⟨b', c', g1, g2⟩ := hs.obj id _ hl
        rw [hr] at g1
        cases g1
        exact key tr g2.rc h
      · rename_i tr hl
        obtain ⟨b', c', g1, g2⟩ := hs.obj id _ hl
        rw [hr] at g1
        cases g1
        exact key tr g2 h
      · cases h
  · cases h

theorem op_load (hT : TabOk P T) {E : Env} {m : Mem} {x : V} (t : TypeId) (y : Operand) (h : loadE T t m (opX E y) = some x) : OpS P (.load t y) E m x m := .read fun L ρ w ev ho hs => by
  obtain ⟨a, u, h1, h2, h3⟩ := loadE_run hT h hs (ho y (by simp [Op.operands]))
  exact ⟨u, fun op e => by simp [execOp, e, h1, Instr.loadAt, Instr.sureAddr, h2], h3⟩

/-! ### stores -/
theorem putAt_run {id off : Nat} {l : List V} {m m' : Mem} (h : putAt id off l m = some m') {L : Nat} {ρ : Rho} {w : World} (hs : Sat L ρ m w) {b c : Nat} (hr : ρ id = some (b, c)) {vs : List Value} (hv : RL ρ vs l) (h1 : ∀ v, v ∈ vs → v.oneCell' = true) :
    ∃ w', (storeCells ⟨b, off, none⟩ vs).run P w = .ok () w' ∧ Sat L ρ m' w' ∧ Trans ρ ρ m m' w w' := by
  unfold putAt putO at h
  split at h
  · rename_i U e z tr hl
    split at h
    · rename_i hz
      cases h
      have hz' : off + l.length ≤ z := Nat.le_of_ble_eq_true hz
      obtain ⟨b', c', g1, cs, g2, g3, g4, g4', g5⟩ := hs.obj id _ hl
      rw [hr] at g1
      cases g1
      have hlen : vs.length = l.length := hv.1
      have hst := run_storeCells_at P b off U vs 0 cs w g2 (by omega) h1
      rw [Nat.add_zero] at hst
      have hsz : (cs.toList.take off ++ vs ++ cs.toList.drop (off + vs.length)).length = cs.size := by simp; omega
      refine ⟨_, hst, hs.put hl hr (by simp [World.setRow]) (fun b' hb => ?_) rfl rfl rfl ?_⟩
      · simp only [World.setRow, Array.getElem?_modify]
        rw [if_neg (fun e => hb e.symm)]
      · refine ⟨_, setRow_heap w b cs _ U _ g2, by rw [List.size_toArray, hsz]; exact g3, by rw [List.size_toArray, hsz]; exact g4, fun j x hx => ?_, fun j x hx => ?_⟩
        · rw [putD_get] at hx
          by_cases hj : off ≤ j ∧ j < off + l.length
          · omega
          · rw [if_neg hj] at hx
            exact g4' j x hx
        rw [putD_get] at hx
        rw [List.getElem?_toArray, List.append_assoc]
        by_cases hj : off ≤ j ∧ j < off + l.length
        · rw [if_pos hj] at hx
          obtain ⟨v, k1, k2⟩ := hv.get hx
          refine ⟨v, ?_, h1 v (List.mem_of_getElem? k1), k2⟩
          rw [List.getElem?_append_right (by simp; omega)]
          have e1 : (cs.toList.take off).length = off := by simp; omega
          rw [e1, List.getElem?_append_left (by omega)]
          exact k1
        · rw [if_neg hj] at hx
          obtain ⟨v, k1, k2, k3⟩ := g5 j x hx
          refine ⟨v, ?_, k2, k3⟩
          have k1' : cs.toList[j]? = some v := by simpa using k1
          by_cases hj2 : j < off
          · rw [List.getElem?_append_left (by simp; have := (Array.getElem?_eq_some_iff.1 k1).1; omega), List.getElem?_take_of_lt hj2]
            exact k1'
          · rw [List.getElem?_append_right (by simp; omega)]
            have e1 : (cs.toList.take off).length = off := by simp; omega
            rw [e1, List.getElem?_append_right (by omega), List.getElem?_drop]
            rw [show off + vs.length + (j - off - vs.length) = j by omega]
            exact k1'
    · cases h
  · cases h

theorem okM_inv {x y : V} {o : Option Mem} {m : Mem} (h : okM x o = .ok y m) : x = y ∧ o = some m := by
  unfold okM at h
  split at h
  · cases h; exact ⟨rfl, rfl⟩
  · cases h
theorem okO_inv {m m' : Mem} {o : Option V} {x : V} (h : okO m o = .ok x m') : o = some x ∧ m = m' := by
  unfold okO at h
  split at h
  · cases h; exact ⟨rfl, rfl⟩
  · cases h

theorem op_store (hT : TabOk P T) {E : Env} {m m' : Mem} {x : V} (t : TypeId) (y z : Operand) (h : storeP T t (opX E z) m (opX E y) = .ok x m') : OpS P (.store t y z) E m x m' := by
  intro L ρ w ev ho hs _
  have h1 := ho y (by simp [Op.operands])
  have h2 := ho z (by simp [Op.operands])
  unfold storeP at h
  split at h
  · rename_i id off hy
    rw [hy] at h1
    split at h
    · rename_i hsz
      obtain ⟨rfl, hp⟩ := okM_inv h
      unfold sized at hsz
      split at hsz
      · rename_i s hs'
        rw [Bool.and_eq_true] at hsz
        obtain ⟨i, hi, hiz⟩ := sizeT_ok hT hs'
        obtain ⟨c1, c2⟩ := h2.cells hsz.2
        generalize he : ev y = v at h1
        cases h1 with
        | ptr _ _ b c hr =>
          obtain ⟨w', k1, k2, k3⟩ := putAt_run (P := P) hp hs hr c1 (fun u hu => c2 u (by simpa using hu))
          have hn : (ev z).cells.size = i.size := by
            have := c1.1
            have e := Nat.eq_of_beq_eq_true hsz.1
            rw [hiz, ← e, ← this]; simp
          refine ⟨.skip, undef, w', ρ, fun op e => ?_, .inr ⟨rfl, rfl⟩, .tup' (RL.nil ρ), k2, k3⟩
          simp [execOp, e, he, Instr.storeAt, Instr.sureAddr, storeVar, run_size hi, hn, k1]
      · cases hsz
    · cases h
  · cases h

/-! ### new variables -/
theorem row_ro {ρ ρ' : Rho} {w : World} {t : TypeId} {e c : Nat} {vs : List Value} {l : List V} (hv : RL ρ vs l) (h1 : ∀ v, v ∈ vs → v.oneCell' = true) (hc : vs.length = c * e) (he : Ext ρ ρ') :
    RO ρ' { w with heap := w.heap.push (.cells vs.toArray t) } w.heap.size c (rowE t e l) := by
  refine ⟨vs.toArray, by simp, by simpa using hc, by simp [hv.1], fun j x hx => ?_, fun j x hx => ?_⟩
  · rw [putD_get] at hx
    by_cases hj : 0 ≤ j ∧ j < 0 + l.length
    · omega
    · rw [if_neg hj] at hx; cases hx
  rw [putD_get] at hx
  by_cases hj : 0 ≤ j ∧ j < 0 + l.length
  · rw [if_pos hj] at hx
    obtain ⟨v, k1, k2⟩ := hv.get hx
    exact ⟨v, by simpa using k1, h1 v (List.mem_of_getElem? k1), k2.ext he⟩
  · rw [if_neg hj] at hx
    cases hx

/-- a row of cells, new -/
theorem add_row {L : Nat} {ρ : Rho} {m : Mem} {w : World} (hs : Sat L ρ m w) (hL : m.n < L) {t : TypeId} {e c : Nat} {vs : List Value} {l : List V} (hv : RL ρ vs l) (h1 : ∀ v, v ∈ vs → v.oneCell' = true) (hc : vs.length = c * e) :
    ∃ ρ', ρ' m.n = some (w.heap.size, c) ∧ Sat L ρ' (m.add (rowE t e l)) (w.alloc (.cells vs.toArray t)) ∧ Trans ρ ρ' m (m.add (rowE t e l)) w (w.alloc (.cells vs.toArray t)) :=
  ⟨upd ρ m.n (w.heap.size, c), upd_same _ _ _, hs.add hL c (row_ro hv h1 hc (ext_upd (hs.fresh m.n (Nat.le_refl _) hL) _))⟩

theorem boxE_run (hT : TabOk P T) {t : TypeId} {m m' : Mem} {x z : V} (h : boxE T t m z = .ok x m') {L : Nat} {ρ : Rho} {w : World} (hs : Sat L ρ m w) (hL : m'.n ≤ L) {v : Value} (hv : RV ρ v z) :
    ∃ ρ', (newVar t v).run P w = .ok ⟨w.heap.size, 0, none⟩ (w.alloc (.cells v.cells t)) ∧ RV ρ' (.pointer (some ⟨w.heap.size, 0, none⟩)) x ∧ Sat L ρ' m' (w.alloc (.cells v.cells t)) ∧ Trans ρ ρ' m m' w (w.alloc (.cells v.cells t)) := by
  unfold boxE at h
  split at h
  · rename_i s hs'
    split at h
    · rename_i hc
      cases h
      rw [Bool.and_eq_true] at hc
      obtain ⟨c1, c2⟩ := hv.cells hc.2
      have hL' : m.n < L := hL
      obtain ⟨ρ', k1, k2, k3⟩ := add_row hs hL' (t := t) (e := s) (c := 1) c1 (fun u hu => c2 u (by simpa using hu)) (by rw [c1.1, Nat.one_mul]; exact Nat.eq_of_beq_eq_true hc.1)
      rw [Array.toArray_toList] at k2 k3
      exact ⟨ρ', run_newVar t v w, .ptr _ _ _ _ k1, k2, k3⟩
    · cases h
  · cases h

theorem op_box (hT : TabOk P T) {E : Env} {m m' : Mem} {x : V} (t : TypeId) (y : Operand) (h : boxE T t m (opX E y) = .ok x m') : OpS P (.box t y) E m x m' := by
  intro L ρ w ev ho hs hL
  obtain ⟨ρ', k1, k2, k3, k4⟩ := boxE_run (P := P) hT h hs hL (ho y (by simp [Op.operands]))
  exact ⟨_, _, _, ρ', fun op e => by simp [execOp, e, Instr.box, k1], .inl rfl, k2, k3, k4⟩

theorem zeroE_ok (hT : TabOk P T) {t : TypeId} {z : V} (h : zeroE T t = some z) : ∃ i v, P.info? t = some i ∧ i.zero = some v ∧ z = constV v := by
  unfold zeroE at h
  cases hi : infoT T t with
  | none => rw [hi] at h; cases h
  | some i =>
    rw [hi] at h
    cases hz : i.zero with
    | none => simp [hz] at h
    | some v =>
      simp [hz] at h
      exact ⟨i, v, infoT_ok hT hi, hz, h.symm⟩

theorem op_alloc (hT : TabOk P T) {E : Env} {m m' : Mem} {x : V} (t : TypeId) (h : allocE T t m = .ok x m') : OpS P (.alloc t) E m x m' := by
  intro L ρ w ev ho hs hL
  unfold allocE at h
  split at h
  · rename_i z hz
    obtain ⟨i, v, hi, hv, rfl⟩ := zeroE_ok hT hz
    obtain ⟨ρ', k1, k2, k3, k4⟩ := boxE_run (P := P) hT h hs hL (constV_rel ρ v)
    exact ⟨_, _, _, ρ', fun op e => by simp [execOp, e, Instr.alloc, run_zero hi hv, k1], .inl rfl, k2, k3, k4⟩
  · cases h

end
end Ev
end Go.Proofs.YtaacgmcgmljjeaaGreat

/- The evaluator: parts of values; builtins that only read. -/
namespace Go.Proofs.YtaacgmcgmljjeaaGreat
namespace Ev
open Go.RowKit

section
variable {P : Program} {T : Tab}

theorem pieceL_run (hT : TabOk P T) {t : TypeId} {cs : List V} {off : Nat} {x : V} (h : pieceL cs off (layT T t) = some x) {ρ : Rho} {vs : Array Value} (hv : RL ρ vs.toList cs) (h1 : ∀ v, v ∈ vs → v.oneCell' = true) (w : World) :
    ∃ u, (part t vs off).run P w = .ok u w ∧ RV ρ u x := by
  unfold pieceL at h
  split at h
  · rename_i hl
    obtain ⟨d, i, hu, hi, ha⟩ := layT_one hT hl
    obtain ⟨u, k1, k2⟩ := hv.get h
    have k1' : vs[off]? = some u := by simpa using k1
    exact ⟨u, by simp [part, run_isAgg hu, ha, k1'], k2⟩
  · rename_i z hl
    obtain ⟨d, i, hu, hi, ha, hz⟩ := layT_agg hT hl
    cases h
    refine ⟨.agg (vs.extract off (off + z)), by simp [part, run_isAgg hu, ha, run_size hi, hz], .agg' ?_ fun v hv' => h1 v ?_⟩
    · have : (vs.extract off (off + z)).toList = (vs.toList.drop off).take z := by
        simp [Array.toList_extract, List.extract_eq_take_drop]
      rw [this]
      exact (hv.drop off).take z
    · obtain ⟨j, hj, e⟩ := Array.getElem_of_mem hv'
      rw [Array.getElem_extract] at e
      rw [← e]
      exact Array.getElem_mem _
  · cases h

theorem fieldOf_ok (hT : TabOk P T) {t : TypeId} {f : Nat} {fd : Field} (h : fieldOf T t f = some fd) : ∃ fs, P.underlying t = some (.struct fs) ∧ fs[f]? = some fd := by
  unfold fieldOf at h
  split at h
  · rename_i fs hu
    exact ⟨fs, undT_ok hT hu, by simpa using h⟩
  · cases h

theorem op_fieldAddr (hT : TabOk P T) {E : Env} {m m' : Mem} {x : V} (t : TypeId) (y : Operand) (f : Nat) (h : fieldAddrE (fieldW T t f) m (opX E y) = .ok x m') : OpS P (.fieldAddr t y f) E m x m' := by
  unfold fieldAddrE at h
  split at h
  · rename_i off l hw
    split at h
    · rename_i id o hy
      cases h
      unfold fieldW at hw
      split at hw
      · rename_i fd hf
        split at hw
        · rename_i z hz
          cases hw
          obtain ⟨fs, hu, hfs⟩ := fieldOf_ok hT hf
          obtain ⟨i, hi, hiz⟩ := sizeT_ok hT hz
          refine op1 y (by simp [Op.operands]) fun ρ w v hv => ?_
          rw [hy] at hv
          cases hv with
          | ptr _ _ b c hr =>
            have := run_fieldAt (P := P) hu hfs hi (by rw [hiz]; omega) b o w
            exact ⟨_, fun op ev e he => by simp [execOp, e, he, this], .ptr _ _ b c hr⟩
        · cases hw
      · cases hw
    · cases h
  · cases h

theorem op_field (hT : TabOk P T) {E : Env} {m m' : Mem} {x : V} (t : TypeId) (y : Operand) (f : Nat) (h : fieldE (fieldW T t f) m (opX E y) = .ok x m') : OpS P (.field t y f) E m x m' := by
  unfold fieldE at h
  split at h
  · rename_i off l hw
    split at h
    · rename_i cs hy
      obtain ⟨hp, rfl⟩ := okO_inv h
      unfold fieldW at hw
      split at hw
      · rename_i fd hf
        split at hw
        · rename_i z hz
          cases hw
          obtain ⟨fs, hu, hfs⟩ := fieldOf_ok hT hf
          refine op1 y (by simp [Op.operands]) fun ρ w v hv => ?_
          rw [hy] at hv
          obtain ⟨vs, rfl, hl, h1⟩ := hv.agg_inv
          obtain ⟨u, k1, k2⟩ := pieceL_run (P := P) hT hp hl h1 w
          exact ⟨u, fun op ev e he => by simp [execOp, e, he, Instr.field, run_underlying hu, hfs, asAgg, k1], k2⟩
        · cases hw
      · cases hw
    · cases h
  · cases h

theorem indexW_arr (hT : TabOk P T) {t : TypeId} {n z : Nat} (h : indexW T t = .arr n z) : ∃ e i, undT T t = some (.array n e) ∧ P.underlying t = some (.array n e) ∧ P.info? e = some i ∧ i.size = z := by
  unfold indexW at h
  split at h
  · rename_i k e hu
    split at h
    · rename_i s hs
      cases h
      obtain ⟨i, hi, hz⟩ := sizeT_ok hT hs
      exact ⟨e, i, hu, undT_ok hT hu, hi, hz⟩
    · cases h
  · split at h <;> cases h
  · cases h
  · cases h
theorem indexW_sl (hT : TabOk P T) {t : TypeId} {z : Nat} (h : indexW T t = .sl z) : ∃ e i, P.underlying t = some (.slice e) ∧ P.info? e = some i ∧ i.size = z := by
  unfold indexW at h
  split at h
  · split at h <;> cases h
  · rename_i e hu
    split at h
    · rename_i s hs
      cases h
      obtain ⟨i, hi, hz⟩ := sizeT_ok hT hs
      exact ⟨e, i, undT_ok hT hu, hi, hz⟩
    · cases h
  · cases h
  · cases h
theorem indexW_str (hT : TabOk P T) {t : TypeId} (h : indexW T t = .str) : P.underlying t = some .string := by
  unfold indexW at h
  split at h
  · split at h <;> cases h
  · split at h <;> cases h
  · rename_i hu; exact undT_ok hT hu
  · cases h

theorem atE_inv {id off n z i : Nat} {x : V} (h : atE id off n z i = some x) : i < n ∧ x = .ptr id (off + i * z) := by
  unfold atE at h
  split at h
  · rename_i hb
    cases h
    exact ⟨Nat.le_of_ble_eq_true hb, rfl⟩
  · cases h

/-- an operation of two operands that only reads -/
theorem op2 {E : Env} {m : Mem} {o : Op} {x : V} (y z : Operand) (hy : y ∈ o.operands.toList) (hz : z ∈ o.operands.toList)
    (h : ∀ ρ w v u, RV ρ v (opX E y) → RV ρ u (opX E z) → ∃ r, (∀ (op : Oper) ev, op.op = o → ev y = v → ev z = u → (execOp ev op).run P w = .ok (.value r) w) ∧ RV ρ r x) : OpS P o E m x m :=
  .read fun L ρ w ev ho _ => let ⟨r, h1, h2⟩ := h ρ w (ev y) (ev z) (ho y hy) (ho z hz); ⟨r, fun op e => h1 op ev e rfl rfl, h2⟩

theorem op_indexAddr (hT : TabOk P T) {E : Env} {m m' : Mem} {x : V} (t : TypeId) (y z : Operand) (h : indexAddrV T t (opX E z) m (opX E y) = .ok x m') : OpS P (.indexAddr t y z) E m x m' := by
  obtain ⟨g, rfl⟩ := okO_inv h
  clear h
  have h := g
  clear g
  cases hn : toN (opX E z) with
  | none => rw [hn] at h; cases h
  | some i =>
    rw [hn] at h
    simp only [Option.bind_some] at h
    refine op2 y z (by simp [Op.operands]) (by simp [Op.operands]) fun ρ w v u hv hu => ?_
    obtain ⟨k, rfl⟩ := hu.toN hn
    have h0 : 0 ≤ ((i : Nat) : Int) := by omega
    unfold indexAddrE at h
    split at h
    · rename_i n z' hw
      obtain ⟨e, inf, _, ht, hi, hz⟩ := indexW_arr hT hw
      unfold indexP at h
      split at h
      · rename_i id off hy
        obtain ⟨hlt, rfl⟩ := atE_inv h
        rw [hy] at hv
        cases hv with
        | ptr _ _ b c hr =>
          have := run_indexAt_arr (P := P) (k := k) (j := ((i : Nat) : Int)) ht hi h0 (by omega) b off w
          refine ⟨_, fun op ev e he he2 => by simp [execOp, e, he, he2, this]; rfl, ?_⟩
          rw [hz]
          exact .ptr _ _ b c hr
      · cases h
    · rename_i z' hw
      obtain ⟨e, inf, ht, hi, hz⟩ := indexW_sl hT hw
      unfold indexS at h
      split at h
      · rename_i id off n cap hy
        obtain ⟨hlt, rfl⟩ := atE_inv h
        rw [hy] at hv
        cases hv with
        | sl _ _ _ _ b c hr =>
          have hlt' : ((i : Nat) : Int) < (n : Nat) := by omega
          exact ⟨.pointer (some ⟨b, off + i * z', none⟩), fun op ev e he he2 => by simp [execOp, e, he, he2, Instr.indexAt, asIntOf, run_underlying ht, hlt, run_size hi, addr_add, hz], .ptr _ _ b c hr⟩
      · rename_i id n hy
        obtain ⟨hlt, rfl⟩ := atE_inv h
        rw [hy] at hv
        cases hv with
        | own _ _ b c hr hnc =>
          exact ⟨.pointer (some ⟨b, 0 + i * z', none⟩), fun op ev e he he2 => by simp [execOp, e, he, he2, Instr.indexAt, asIntOf, run_underlying ht, hlt, run_size hi, addr_add, hz], .ptr _ _ b c hr⟩
      · cases h
    · cases h

theorem op_index (hT : TabOk P T) {E : Env} {m m' : Mem} {x : V} (t : TypeId) (y z : Operand) (h : indexV T t (opX E z) m (opX E y) = .ok x m') : OpS P (.index t y z) E m x m' := by
  obtain ⟨g, rfl⟩ := okO_inv h
  clear h
  have h := g
  clear g
  cases hn : toN (opX E z) with
  | none => rw [hn] at h; cases h
  | some i =>
    rw [hn] at h
    simp only [Option.bind_some] at h
    refine op2 y z (by simp [Op.operands]) (by simp [Op.operands]) fun ρ w v u hv hu => ?_
    obtain ⟨k, rfl⟩ := hu.toN hn
    unfold indexE at h
    split at h
    · rename_i n z' hw
      obtain ⟨e, inf, hud, ht, hi, hz⟩ := indexW_arr hT hw
      unfold indexC at h
      split at h
      · rename_i cs hy
        split at h
        · rename_i hb
          have hlt : i < n := Nat.le_of_ble_eq_true hb
          rw [hy] at hv
          obtain ⟨vs, rfl, hl, h1⟩ := hv.agg_inv
          have he : elemA T t = layT T e := by unfold elemA; rw [hud]
          rw [he] at h
          obtain ⟨u, k1, k2⟩ := pieceL_run (P := P) hT h hl h1 w
          exact ⟨u, fun op ev e1 he he2 => by simp [execOp, e1, he, he2, Instr.index, asIntOf, run_underlying ht, hlt, run_size hi, hz]; rw [show i * z' = Nat.mul i z' from rfl, k1]; rfl, k2⟩
        · cases h
      · cases h
    · rename_i hw
      have ht := indexW_str hT hw
      unfold indexB at h
      split at h
      · rename_i s hy
        cases hs : s[i]? with
        | none => rw [hs] at h; cases h
        | some b =>
          rw [hs] at h
          cases h
          rw [hy] at hv
          have := hv.str_inv
          subst this
          have hb : (⟨⟨s⟩⟩ : ByteArray)[i]? = some b := by
            have hi : i < s.length := (List.getElem?_eq_some_iff.1 hs).1
            have hi2 : i < (⟨⟨s⟩⟩ : ByteArray).size := hi
            rw [getElem?_pos (⟨⟨s⟩⟩ : ByteArray) i hi2]
            have : s[i] = b := (List.getElem?_eq_some_iff.1 hs).2
            rw [← this]; rfl
          exact ⟨.int .u8 b.toNat, fun op ev e1 he he2 => by simp [execOp, e1, he, he2, Instr.index, asIntOf, run_underlying ht, hb], .int _ _⟩
      · cases h
    · cases h

/-! ### builtins -/
theorem op_builtin {E : Env} {m m' : Mem} {x : V} {b : Builtin} {ys : Array Operand} {ts : Array TypeId}
    (h : ∀ (L : Nat) (ρ : Rho) (w : World) (vs : Array Value), RL ρ vs.toList (ys.toList.map (opX E)) → Sat L ρ m w → m'.n ≤ L → ∃ v w' ρ', (∀ ty cs, (builtin b ts ty cs vs).run P w = .ok (.value v) w') ∧ RV ρ' v x ∧ Sat L ρ' m' w' ∧ Trans ρ ρ' m m' w w') : OpS P (.call ⟨.builtin b, ys, ts⟩) E m x m' := by
  intro L ρ w ev ho hs hL
  obtain ⟨v, w', ρ', h1, h2, h3, h4⟩ := h L ρ w (ys.map ev) (by
    rw [Array.toList_map]
    exact RL.map ev (opX E) ys.toList fun y hy => ho y (by simp [Op.operands, Call.operands]; simpa using hy)) hs hL
  exact ⟨.value v, v, w', ρ', fun op e => by
    simp only [execOp, e, resolve, Sem.run_bind, Sem.run_pure, Result.andThen_ok, invoke]
    exact h1 _ _, .inl rfl, h2, h3, h4⟩

theorem args1 {ρ : Rho} {vs : Array Value} {x : V} (h : RL ρ vs.toList [x]) : ∃ v, vs = #[v] ∧ RV ρ v x := by
  obtain ⟨v, ws, h1, h2, h3⟩ := h.inv_cons
  have := h3.inv_nil
  subst this
  exact ⟨v, by cases vs; simp_all, h2⟩
theorem args2 {ρ : Rho} {vs : Array Value} {x y : V} (h : RL ρ vs.toList [x, y]) : ∃ v u, vs = #[v, u] ∧ RV ρ v x ∧ RV ρ u y := by
  obtain ⟨v, ws, h1, h2, h3⟩ := h.inv_cons
  obtain ⟨u, ws', g1, g2, g3⟩ := h3.inv_cons
  have := g3.inv_nil
  subst this g1
  exact ⟨v, u, by cases vs; simp_all, h2, g2⟩

end
end Ev
end Go.Proofs.YtaacgmcgmljjeaaGreat

/- The evaluator: equality. -/
namespace Go.Proofs.YtaacgmcgmljjeaaGreat
namespace Ev
open Go.RowKit

section
variable {P : Program} {T : Tab}

/-! ### equality -/
theorem guard_nili (op : BinOp) {t : TypeId} {ms : Array (String × TypeId)} (hu : P.underlying t = some (.interface ms)) (hms : ms.isEmpty = true) (y z : Operand) (w : World) : (eqGuard op t y z .nilIface .nilIface).run P w = .ok () w := by
  have hg : ∀ d, (Op.eqGuardIn (d + 1) t .nilIface .nilIface).run P w = .ok false w := fun d => by
    simp [Op.eqGuardIn, run_underlying hu, hms]
  have hg' : (Op.eqGuardIn Op.maxDepth t .nilIface .nilIface).run P w = .ok false w := hg 9999
  unfold eqGuard
  cases op <;> first
    | rfl
    | (simp only [Bool.not_true, Bool.false_eq_true, if_false]
       cases y <;> cases z <;> first
         | rfl
         | (show Sem.run P ((Op.eqGuardIn Op.maxDepth t .nilIface .nilIface).bind _) w = _
            erw [Sem.run_bind, hg']
            rfl))

theorem hasT_mem {t : TypeId} : ∀ {l : List TypeId}, hasT t l = true → t ∈ l
  | [], h => by cases h
  | a :: r, h => by
    unfold hasT at h
    split at h
    · rename_i hb; rw [Nat.eq_of_beq_eq_true hb]; simp
    · simp [hasT_mem h]

theorem eqFields_run (hT : TabOk P T) {n : Nat} {q : TypeId → V → V → Option Bool} (hq : ∀ t x y r, q t x y = some r → ∀ (ρ : Rho) (w : World) v1 v2, RV ρ v1 x → RV ρ v2 y → ∀ d, (Op.equalIn (d + n) t v1 v2).run P w = .ok r w) {ρ : Rho} {w : World} {vs us : Array Value} {xs ys : List V} (h1 : RL ρ vs.toList xs) (h2 : RL ρ us.toList ys) (o1 : ∀ v, v ∈ vs → v.oneCell' = true) (o2 : ∀ v, v ∈ us → v.oneCell' = true) (d : Nat) :
    ∀ (fs : List Field) (r : Bool), eqFields T q xs ys fs = some r → (Op.eqFields (d + n) vs us fs).run P w = .ok r w
  | [], r, h => by cases h; rfl
  | f :: fs, r, h => by
    unfold eqFields at h
    split at h
    · cases h
    · rename_i hn
      have hn : f.name ≠ "_" := of_decide_eq_false hn
      split at h
      · rename_i x y hx hy
        obtain ⟨u1, k1, k2⟩ := pieceL_run (P := P) hT hx h1 o1 w
        obtain ⟨u2, k3, k4⟩ := pieceL_run (P := P) hT hy h2 o2 w
        unfold Op.eqFields
        rw [if_pos hn]
        split at h
        · rename_i hqe
          have hr := hq _ _ _ _ hqe ρ w u1 u2 k2 k4 d
          simp only [Sem.run_bind, k1, k3, hr, Result.andThen_ok, Bool.not_true, Bool.false_eq_true, if_false]
          exact eqFields_run hT hq h1 h2 o1 o2 d fs r h
        · rename_i hne
          cases r with
          | true => exact absurd h hne
          | false =>
            have hr := hq _ _ _ _ h ρ w u1 u2 k2 k4 d
            simp [Sem.run_bind, k1, k3, hr]
      · cases h

theorem eqStep_run (hT : TabOk P T) {n : Nat} {q : TypeId → V → V → Option Bool} (hq : ∀ t x y r, q t x y = some r → ∀ (ρ : Rho) (w : World) v1 v2, RV ρ v1 x → RV ρ v2 y → ∀ d, (Op.equalIn (d + n) t v1 v2).run P w = .ok r w) {t : TypeId} {x y : V} {r : Bool} (h : eqStep T q t x y = some r) (ρ : Rho) (w : World) {v1 v2 : Value} (h1 : RV ρ v1 x) (h2 : RV ρ v2 y) :
    (∀ d, (Op.equalIn (d + (n + 1)) t v1 v2).run P w = .ok r w) ∧ (∀ (op : BinOp) (y z : Operand), (eqGuard op t y z v1 v2).run P w = .ok () w) ∧
    ((∃ k n, v1 = .int k n) ∨ (∃ s, v1 = .string s) ∨ (binOp .eql t v1 v2 = (do pure (.bool (← Op.equal t v1 v2))) ∧ binOp .neq t v1 v2 = (do pure (.bool (!(← Op.equal t v1 v2)))))) := by
  unfold eqStep at h
  split at h
  · rename_i hu; have hu := undT_ok hT hu
    split at h <;> cases h
    cases h1; cases h2
    exact ⟨fun d => by simp [Op.equalIn, run_underlying hu], fun op y z => by unfold eqGuard; split <;> rfl, .inr (.inr ⟨rfl, rfl⟩)⟩
  · rename_i k hu; have hu := undT_ok hT hu
    unfold eqInt at h
    split at h
    · rename_i p q' hp hq
      split at h
      · rename_i hk
        cases h
        have e1 := h1.toI hp
        have e2 := h2.toI hq
        subst e1 e2
        have := kEq_eq hk
        refine ⟨fun d => ?_, fun op y z => guard_int _ _ _ _ _ _ _ _ _, .inl ⟨_, _, rfl⟩⟩
        simp only [Op.equalIn]
        rw [Sem.run_bind, run_underlying hu]
        simp only [Result.andThen_ok, if_pos this]
        rfl
      · cases h
    · cases h
  · rename_i hu; have hu := undT_ok hT hu
    split at h <;> cases h
    cases h1; cases h2
    rename_i a b
    refine ⟨fun d => ?_, fun op y z => guard_str _ _ _ _ _ _ _, .inr (.inl ⟨_, rfl⟩)⟩
    rw [show d + (n + 1) = (d + n) + 1 from rfl, run_equalIn_string w (d + n) t _ _ hu, ByteArray.toList_eq, ByteArray.toList_eq, bytesEq_eq]
  · rename_i e hu; have hu := undT_ok hT hu
    split at h
    · cases h; cases h1; cases h2
      exact ⟨fun d => by simp [Op.equalIn, run_underlying hu], fun op y z => by unfold eqGuard; split <;> rfl, .inr (.inr ⟨rfl, rfl⟩)⟩
    · cases h; cases h1; cases h2
      exact ⟨fun d => by simp [Op.equalIn, run_underlying hu], fun op y z => by unfold eqGuard; split <;> rfl, .inr (.inr ⟨rfl, rfl⟩)⟩
    · cases h; cases h1; cases h2
      exact ⟨fun d => by simp [Op.equalIn, run_underlying hu], fun op y z => by unfold eqGuard; split <;> rfl, .inr (.inr ⟨rfl, rfl⟩)⟩
    · split at h
      · rename_i z he hij
        cases h
        obtain ⟨inf, hi, hz⟩ := sizeT_ok hT he
        cases h1 with
        | ptr i1 o1 b1 c1 hr1 =>
          cases h2 with
          | ptr i2 o2 b2 c2 hr2 =>
            have := Nat.eq_of_beq_eq_true hij
            subst this
            rw [hr1] at hr2
            cases hr2
            refine ⟨fun d => ?_, fun op y z => by unfold eqGuard; split <;> rfl, .inr (.inr ⟨rfl, rfl⟩)⟩
            have hz' : inf.size ≠ 0 := by omega
            have ha : ∀ o1 o2 : Nat, ((⟨b1, o1, none⟩ : Addr) == ⟨b1, o2, none⟩) = Nat.beq o1 o2 := fun o1 o2 => by
              rw [Bool.eq_iff_iff, beq_iff_eq, nb]
              exact ⟨fun e => by cases e; rfl, fun e => by rw [e]⟩
            simp [Op.equalIn, run_underlying hu, sizeOf, typeInfo, hi, hz', sameAddr, ha]
      · cases h
    · cases h
  · rename_i ms hu; have hu := undT_ok hT hu
    split at h
    · split at h
      · rename_i hms
        cases h; cases h1; cases h2
        exact ⟨fun d => by simp [Op.equalIn, run_underlying hu], fun op y z => guard_nili op hu hms y z w, .inr (.inr ⟨rfl, rfl⟩)⟩
      · cases h
    · cases h; cases h1; cases h2
      exact ⟨fun d => by simp [Op.equalIn, run_underlying hu], fun op y z => by unfold eqGuard; split <;> rfl, .inr (.inr ⟨rfl, rfl⟩)⟩
    · cases h; cases h1; cases h2
      exact ⟨fun d => by simp [Op.equalIn, run_underlying hu], fun op y z => by unfold eqGuard; split <;> rfl, .inr (.inr ⟨rfl, rfl⟩)⟩
    · cases h
  · rename_i e hu; have hu := undT_ok hT hu
    split at h <;> cases h <;> cases h1 <;> cases h2 <;>
      exact ⟨fun d => by simp [Op.equalIn, run_underlying hu], fun op y z => by unfold eqGuard; split <;> rfl, .inr (.inr ⟨rfl, rfl⟩)⟩
  · rename_i e1 e2 e3 hu; have hu := undT_ok hT hu
    split at h <;> cases h <;> cases h1 <;> cases h2 <;>
      exact ⟨fun d => by simp [Op.equalIn, run_underlying hu], fun op y z => by unfold eqGuard; split <;> rfl, .inr (.inr ⟨rfl, rfl⟩)⟩
  · rename_i fs hu; have hu := undT_ok hT hu
    unfold eqStr at h
    split at h
    · rename_i he
      obtain ⟨e1, e2⟩ := hT.eqs t (hasT_mem he)
      split at h
      · have hf : P.fieldsOf t = fs := by unfold Program.fieldsOf; rw [hu]
        obtain ⟨cs1, rfl, r1, o1⟩ := h1.agg_inv
        obtain ⟨cs2, rfl, r2, o2⟩ := h2.agg_inv
        refine ⟨fun d => ?_, fun op y z => ?_, .inr (.inr ⟨rfl, rfl⟩)⟩
        · rw [show d + (n + 1) = (d + n) + 1 by omega, run_equalIn_struct w (d + n) t _ _ (by rw [hf]; exact hu) e1, hf]
          exact eqFields_run hT hq r1 r2 o1 o2 d fs.toList r h
        · have key : ∀ z : Sem Unit, Sem.run P (do
              let p ← program
              let p' ← program
              if (!p.eqGuardType p'.depth t) = true then pure () else z) w = .ok () w := fun z => by
            simp only [Sem.run_bind, run_program, Result.andThen_ok]
            rw [if_pos (by rw [e2]; rfl)]
            rfl
          cases op <;> first
            | rfl
            | exact key _
      · cases h
    · cases h
  · cases h

theorem eqE_run (hT : TabOk P T) : ∀ {n : Nat} {t : TypeId} {x y : V} {r : Bool} (h : eqE T n t x y = some r) (ρ : Rho) (w : World) {v1 v2 : Value} (h1 : RV ρ v1 x) (h2 : RV ρ v2 y),
    (∀ d, (Op.equalIn (d + n) t v1 v2).run P w = .ok r w) ∧ (∀ (op : BinOp) (y z : Operand), (eqGuard op t y z v1 v2).run P w = .ok () w) ∧
    ((∃ k n, v1 = .int k n) ∨ (∃ s, v1 = .string s) ∨ (binOp .eql t v1 v2 = (do pure (.bool (← Op.equal t v1 v2))) ∧ binOp .neq t v1 v2 = (do pure (.bool (!(← Op.equal t v1 v2))))))
  | 0, _, _, _, _, h, _, _, _, _, _, _ => by cases h
  | n + 1, t, x, y, r, h, ρ, w, v1, v2, h1, h2 => eqStep_run hT (n := n) (fun t x y r hq ρ w v1 v2 g1 g2 => (eqE_run hT hq ρ w g1 g2).1) h ρ w h1 h2

theorem RV.not_int {ρ : Rho} {v : Value} {x : V} (h : RV ρ v x) (hx : x ≠ .any) (h1 : ∀ n, x ≠ .nn n) (h2 : ∀ k n, x ≠ .int k n) (h3 : ∀ s, x ≠ .str s) : (∀ k n, v ≠ .int k n) ∧ ∀ s, v ≠ .string s := by
  cases h <;> first
    | exact absurd rfl hx
    | exact absurd rfl (h1 _)
    | exact absurd rfl (h2 _ _)
    | exact absurd rfl (h3 _)
    | exact ⟨nofun, nofun⟩

theorem op_binX (hT : TabOk P T) {op : BinOp} {t : TypeId} {x y r : V} (h : binX T op t x y = some r) (ρ : Rho) (w : World) {v1 v2 : Value} (h1 : RV ρ v1 x) (h2 : RV ρ v2 y) (hx : x ≠ .any) (n1 : ∀ n, x ≠ .nn n) (n2 : ∀ k n, x ≠ .int k n) (n3 : ∀ s, x ≠ .str s) :
    ∃ u, (∀ y z : Operand, (eqGuard op t y z v1 v2).run P w = .ok () w) ∧ (binOp op t v1 v2).run P w = .ok u w ∧ RV ρ u r := by
  obtain ⟨k1, k2⟩ := h1.not_int hx n1 n2 n3
  have key : ∀ b, eqE T 3 t x y = some b → (∀ op, ∀ y z : Operand, (eqGuard op t y z v1 v2).run P w = .ok () w) ∧ (Op.equal t v1 v2).run P w = .ok b w ∧ (binOp .eql t v1 v2 = (do pure (.bool (← Op.equal t v1 v2))) ∧ binOp .neq t v1 v2 = (do pure (.bool (!(← Op.equal t v1 v2))))) := fun b hb => by
    obtain ⟨g1, g2, g3⟩ := eqE_run (P := P) hT hb ρ w h1 h2
    rcases g3 with ⟨k, n, e⟩ | ⟨s, e⟩ | g3
    · exact absurd e (k1 k n)
    · exact absurd e (k2 s)
    · exact ⟨g2, g1 9997, g3⟩
  cases op with
  | eql =>
    simp only [binX, eqlE] at h
    cases hb : eqE T 3 t x y with
    | none => rw [hb] at h; cases h
    | some b =>
      rw [hb] at h; cases h
      obtain ⟨g1, g2, g3, _⟩ := key b hb
      exact ⟨.bool b, fun y z => g1 _ y z, by rw [g3, Sem.run_bind, g2]; rfl, .bool b⟩
  | neq =>
    simp only [binX, neqE] at h
    cases hb : eqE T 3 t x y with
    | none => rw [hb] at h; cases h
    | some b =>
      rw [hb] at h; cases h
      obtain ⟨g1, g2, _, g3⟩ := key b hb
      exact ⟨.bool !b, fun y z => g1 _ y z, by rw [g3, Sem.run_bind, g2]; rfl, .bool _⟩
  | _ => simp only [binX] at h; cases h

end
end Ev
end Go.Proofs.YtaacgmcgmljjeaaGreat

/- The evaluator: equality. -/
namespace Go.Proofs.YtaacgmcgmljjeaaGreat
namespace Ev
open Go.RowKit

section
variable {P : Program} {T : Tab}

theorem op_binE (hT : TabOk P T) {E : Env} {m : Mem} {x : V} (op : BinOp) (t U : TypeId) (y z : Operand) (h : binE T op t (opX E z) (opX E y) = some x) : OpS P (.binOp op t y z U) E m x m := by
  refine op_bin y z fun ρ w v1 v2 h1 h2 => ?_
  generalize opX E y = X1 at h h1
  generalize opX E z = X2 at h h2
  cases X1 with
  | nn a =>
    have e1 := h1.toI (p := (.i64, (a : Int))) rfl
    subst e1
    have hi : intE op (.nn a) X2 = some x → ∃ u, (∀ y z : Operand, (eqGuard op t y z (.int .i64 (a : Int)) v2).run P w = .ok () w) ∧ (binOp op t (.int .i64 (a : Int)) v2).run P w = .ok u w ∧ RV ρ u x := fun h => intE_run h ρ w h1 h2
    have hn : binN op a (.nn a) X2 = some x := h
    cases X2 with
    | nn b =>
      have e2 := h2.toI (p := (.i64, (b : Int))) rfl
      subst e2
      simp only [binN, orS] at hn
      split at hn
      · rename_i r hr
        cases hn
        obtain ⟨u, g1, g2⟩ := nnE_run (P := P) (t := t) hr ρ w
        exact ⟨u, fun y z => guard_int _ _ _ _ _ _ _ _ _, g1, g2⟩
      · exact hi hn
    | _ => exact hi (by simpa only [binN] using hn)
  | int k n => exact intE_run (by simpa only [binE] using h) ρ w h1 h2
  | str a =>
    have hs : binS op a X2 = some x := by simpa only [binE] using h
    cases X2 with
    | str b =>
      have e1 := h1.str_inv
      have e2 := h2.str_inv
      subst e1 e2
      obtain ⟨u, g1, g2⟩ := strE_run (P := P) (t := t) (by simpa only [binS] using hs) ρ w
      exact ⟨u, fun y z => guard_str _ _ _ _ _ _ _, g1, g2⟩
    | _ => simp only [binS] at hs; cases hs
  | any =>
    have : binX T op t .any X2 = some x := by simpa only [binE] using h
    exfalso
    have hno : ∀ d, eqE T (d + 1) t .any X2 = none := fun d => by
      show eqStep T _ t .any X2 = none
      unfold eqStep
      split <;> first | rfl | (unfold eqInt; rfl) | (unfold eqStr; split <;> rfl)
    cases op <;> simp only [binX, eqlE, neqE] at this <;> first | (rw [hno 2] at this; cases this) | cases this
  | _ => exact op_binX hT (by simpa only [binE] using h) ρ w h1 h2 (by simp) (by simp) (by simp) (by simp)

end
end Ev
end Go.Proofs.YtaacgmcgmljjeaaGreat

/- The evaluator: builtins, slices, functions. -/
namespace Go.Proofs.YtaacgmcgmljjeaaGreat
namespace Ev
open Go.RowKit

section
variable {P : Program} {T : Tab}

/-- a builtin that only reads -/
theorem op_bread {E : Env} {m : Mem} {x : V} {b : Builtin} {ys : Array Operand} {ts : Array TypeId}
    (h : ∀ (L : Nat) (ρ : Rho) (w : World) (vs : Array Value), RL ρ vs.toList (ys.toList.map (opX E)) → Sat L ρ m w → ∃ v, (∀ ty cs, (builtin b ts ty cs vs).run P w = .ok (.value v) w) ∧ RV ρ v x) : OpS P (.call ⟨.builtin b, ys, ts⟩) E m x m :=
  op_builtin fun L ρ w vs hv hs _ => let ⟨v, h1, h2⟩ := h L ρ w vs hv hs; ⟨v, w, ρ, h1, h2, hs, Trans.refl ρ m w⟩

theorem toList1 {α : Type} {a : Array α} {x : α} (h : a.toList = [x]) : a = #[x] := by cases a; simp_all
theorem toList2 {α : Type} {a : Array α} {x y : α} (h : a.toList = [x, y]) : a = #[x, y] := by cases a; simp_all
theorem head_ats {ts : Array TypeId} {t : TypeId} {r : List TypeId} (h : ts.toList = t :: r) : ts[0]? = some t := by
  rw [← Array.getElem?_toList, h]; rfl

theorem op_len (hT : TabOk P T) {E : Env} {m m' : Mem} {x : V} (y : Operand) (ts : Array TypeId) {t : TypeId} {r : List TypeId} (ht : ts.toList = t :: r) (h : lenB (undT T t) m (opX E y) = .ok x m') : OpS P (.call ⟨.builtin .len, #[y], ts⟩) E m x m' := by
  have h0 := head_ats ht
  unfold lenB at h
  split at h
  · rename_i hu; have hu := undT_ok hT hu
    unfold lenS at h
    split at h
    · rename_i s hy
      cases h
      refine op_bread fun L ρ w vs hv hs => ?_
      simp only [List.map_cons, List.map_nil] at hv
      rw [hy] at hv
      obtain ⟨v, rfl, h1⟩ := args1 hv
      have := h1.str_inv; subst this
      exact ⟨.int .i64 s.length, fun ty cs => by simp [builtin, Builtin.len_, h0, run_underlying hu, goInt]; rfl, .nn _⟩
    · cases h
  · rename_i e hu; have hu := undT_ok hT hu
    unfold lenL at h
    split at h <;> first | (cases h; done) | skip
    all_goals
      rename_i hy
      cases h
      refine op_bread fun L ρ w vs hv hs => ?_
      simp only [List.map_cons, List.map_nil] at hv
      rw [hy] at hv
      obtain ⟨v, rfl, h1⟩ := args1 hv
      cases h1
      exact ⟨_, fun ty cs => by simp [builtin, Builtin.len_, h0, run_underlying hu, goInt], .nn _⟩
  · rename_i k e hu; have hu := undT_ok hT hu
    unfold lenM at h
    split at h
    · rename_i id hy
      obtain ⟨g, rfl⟩ := okO_inv h
      unfold entsO at g
      cases hl : look m id with
      | none => rw [hl] at g; cases g
      | some o =>
        rw [hl] at g
        cases o with
        | map es clk =>
          simp only [Option.map_some] at g
          cases g
          refine op_bread fun L ρ w vs hv hs => ?_
          simp only [List.map_cons, List.map_nil] at hv
          rw [hy] at hv
          obtain ⟨v, rfl, h1⟩ := args1 hv
          cases h1 with
          | map _ b c hr =>
            obtain ⟨b', c', g1, es', g2, g3, g4⟩ := hs.obj id _ hl
            rw [hr] at g1
            cases g1
            refine ⟨.int .i64 es.length, fun ty cs => ?_, .nn _⟩
            rw [← g3]
            simp [builtin, Builtin.len_, h0, run_underlying hu, goInt, getObj, Sem.run, g2]
        | _ => cases g
    · rename_i hy
      cases h
      refine op_bread fun L ρ w vs hv hs => ?_
      simp only [List.map_cons, List.map_nil] at hv
      rw [hy] at hv
      obtain ⟨v, rfl, h1⟩ := args1 hv
      cases h1
      exact ⟨.int .i64 0, fun ty cs => by simp [builtin, Builtin.len_, h0, run_underlying hu, goInt], .nn 0⟩
    · cases h
  · rename_i n e hu; have hu := undT_ok hT hu
    cases h
    refine op_bread fun L ρ w vs hv hs => ?_
    simp only [List.map_cons, List.map_nil] at hv
    obtain ⟨v, rfl, h1⟩ := args1 hv
    exact ⟨.int .i64 n, fun ty cs => by simp [builtin, Builtin.len_, h0, run_underlying hu, goInt], .nn _⟩
  · cases h

theorem op_cap (hT : TabOk P T) {E : Env} {m m' : Mem} {x : V} (y : Operand) (ts : Array TypeId) {t : TypeId} {r : List TypeId} (ht : ts.toList = t :: r) (h : capB (undT T t) m (opX E y) = .ok x m') : OpS P (.call ⟨.builtin .cap, #[y], ts⟩) E m x m' := by
  have h0 := head_ats ht
  unfold capB at h
  split at h
  · rename_i e hu; have hu := undT_ok hT hu
    unfold capL at h
    split at h <;> first | (cases h; done) | skip
    all_goals
      rename_i hy
      cases h
      refine op_bread fun L ρ w vs hv hs => ?_
      simp only [List.map_cons, List.map_nil] at hv
      rw [hy] at hv
      obtain ⟨v, rfl, h1⟩ := args1 hv
      cases h1
      exact ⟨_, fun ty cs => by simp [builtin, Builtin.cap_, h0, run_underlying hu, goInt], .nn _⟩
  · cases h

theorem minE_inv {lt : Bool} {x y r : V} (h : minE lt x y = some r) : ∃ p q, toI x = some p ∧ toI y = some q ∧ p.1 = q.1 ∧ r = if (decide (p.2 ≤ q.2) == lt) = true then x else y := by
  unfold minE at h
  split at h
  · rename_i p q hp hq
    split at h
    · rename_i hk
      refine ⟨p, q, hp, hq, kEq_eq hk, ?_⟩
      split at h
      · rename_i hd; cases h; rw [if_pos hd]
      · rename_i hd; cases h; rw [if_neg (by simp [hd])]
    · cases h
  · cases h

theorem op_min {E : Env} {m m' : Mem} {x : V} (y z : Operand) (ts : Array TypeId) (h : okO m (minE true (opX E y) (opX E z)) = .ok x m') : OpS P (.call ⟨.builtin .min, #[y, z], ts⟩) E m x m' := by
  obtain ⟨g, rfl⟩ := okO_inv h
  obtain ⟨p, q, hp, hq, hk, hr⟩ := minE_inv g
  refine op_bread fun L ρ w vs hv hs => ?_
  simp only [List.map_cons, List.map_nil] at hv
  obtain ⟨v, u, rfl, h1, h2⟩ := args2 hv
  have e1 := h1.toI hp
  have e2 := h2.toI hq
  refine ⟨if (decide (p.2 ≤ q.2) == true) = true then v else u, fun ty cs => ?_, ?_⟩
  · rw [e1, e2]
    simp only [builtin, Builtin.min_]
    by_cases hc : p.2 ≤ q.2
    · have hc' : ¬ q.2 < p.2 := by omega
      simp [Builtin.min2, hc, hc']
    · have hc' : q.2 < p.2 := by omega
      simp [Builtin.min2, hc, hc', hk]
  · rw [hr]
    split
    · exact h1
    · exact h2
theorem op_max {E : Env} {m m' : Mem} {x : V} (y z : Operand) (ts : Array TypeId) (h : okO m (minE false (opX E y) (opX E z)) = .ok x m') : OpS P (.call ⟨.builtin .max, #[y, z], ts⟩) E m x m' := by
  obtain ⟨g, rfl⟩ := okO_inv h
  obtain ⟨p, q, hp, hq, hk, hr⟩ := minE_inv g
  refine op_bread fun L ρ w vs hv hs => ?_
  simp only [List.map_cons, List.map_nil] at hv
  obtain ⟨v, u, rfl, h1, h2⟩ := args2 hv
  have e1 := h1.toI hp
  have e2 := h2.toI hq
  refine ⟨if (decide (p.2 ≤ q.2) == false) = true then v else u, fun ty cs => ?_, ?_⟩
  · rw [e1, e2]
    simp only [builtin, Builtin.max_]
    by_cases hc : p.2 ≤ q.2
    · by_cases hq' : p.2 < q.2
      · simp [Builtin.max2, hc, hq', hk]
      · have : p.2 = q.2 := by omega
        simp [Builtin.max2, hc, hq', hk, this]
    · have hc' : ¬ q.2 > p.2 := by omega
      simp [Builtin.max2, hc, hc']
  · rw [hr]
    split
    · exact h1
    · exact h2

theorem op_makeFunc {E : Env} {m : Mem} (f : FuncId) (fs cs : Array Operand) : OpS P (.makeFunc (.func f) fs cs) E m (.func f (fs.toList.map (opX E)) (cs.toList.map (opX E))) m := .read fun L ρ w ev ho _ =>
  ⟨.func (.func f) (fs.map ev) (cs.map ev), fun op e => by simp [execOp, e, Instr.makeFunc], .func'
    (by rw [Array.toList_map]; exact RL.map ev (opX E) fs.toList fun y hy => ho y (by simp [Op.operands]; exact .inl (by simpa using hy)))
    (by rw [Array.toList_map]; exact RL.map ev (opX E) cs.toList fun y hy => ho y (by simp [Op.operands]; exact .inr (by simpa using hy)))⟩

end
end Ev
end Go.Proofs.YtaacgmcgmljjeaaGreat

/- The evaluator: slices of strings and of rows; conversions. -/
namespace Go.Proofs.YtaacgmcgmljjeaaGreat
namespace Ev
open Go.RowKit

section
variable {P : Program} {T : Tab}

/-- a bound, as the program meets it -/
def BndOk (ρ : Rho) (ev : Operand → Value) (E : Env) (y : Option Operand) : Prop := ∀ z, y = some z → RV ρ (ev z) (opX E z)

theorem optN_none {E : Env} {d n : Nat} (h : optN E d none = some n) : n = d := by
  simp only [optN] at h; cases h; rfl
theorem optN_some {E : Env} {d n : Nat} {y : Operand} (h : optN E d (some y) = some n) {ρ : Rho} {v : Value} (hv : RV ρ v (opX E y)) : ∃ k, v = .int k (n : Int) := hv.toN h

theorem sliceBound_run {k : IntKind} {n y : Nat} {code : BoundsCode} (h : n ≤ y) (w : World) : (Instr.sliceBound (.int k (n : Int)) y code).run P w = .ok n w := by
  have h2 : (n : Int) ≤ (y : Int) := by omega
  simp [Instr.sliceBound, asIntOf, h2]

theorem bounds_run {E : Env} {lo hi mx : Option Operand} {len cap cap' : Nat} {p : Nat × Nat × Nat} (h : boundsE E lo hi mx len cap = some p) (hcc : cap ≤ cap') {ρ : Rho} {ev : Operand → Value} (h1 : BndOk ρ ev E lo) (h2 : BndOk ρ ev E hi) (h3 : BndOk ρ ev E mx) (isS : Bool) (w : World) :
    (Instr.sliceBounds isS len cap' (lo.map ev) (hi.map ev) (mx.map ev)).run P w = .ok (p.1, p.2.1, if mx.isSome then p.2.2 else cap') w ∧ p.1 ≤ p.2.1 ∧ p.2.1 ≤ p.2.2 ∧ p.2.2 ≤ cap ∧ (mx = none → p.2.2 = cap) := by
  unfold boundsE at h
  split at h
  · rename_i l hh c hl hhi hc
    unfold bndOk at h
    split at h
    · rename_i hb
      cases h
      simp only [Bool.and_eq_true, Bool.or_eq_true] at hb
      obtain ⟨⟨⟨b1, b2⟩, b3⟩, b4⟩ := hb
      have b1 := Nat.le_of_ble_eq_true b1
      have b2 := Nat.le_of_ble_eq_true b2
      have b3 := Nat.le_of_ble_eq_true b3
      have b5 := Nat.le_trans b3 hcc
      have b6 := Nat.le_trans b2 b5
      refine ⟨?_, b1, b2, b3, fun e => by subst e; exact optN_none hc⟩
      cases lo <;> cases hi <;> cases mx <;> simp only [Option.map_none, Option.map_some] <;>
        (try (have q := optN_none hl; subst q)) <;> (try (have q := optN_none hhi; subst q)) <;> (try (have q := optN_none hc; subst q)) <;>
        (try (obtain ⟨k1, e1⟩ := optN_some hl (h1 _ rfl); rw [e1])) <;> (try (obtain ⟨k2, e2⟩ := optN_some hhi (h2 _ rfl); rw [e2])) <;> (try (obtain ⟨k3, e3⟩ := optN_some hc (h3 _ rfl); rw [e3])) <;>
        first
          | (simp at b4; done)
          | (simp [Instr.sliceBounds, sliceBound_run, b1, b2, b3, b5, b6]; done)
          | (simp [Instr.sliceBounds, sliceBound_run, b1, b2, b3, b5, b6]; omega)
    · cases h
  · cases h

theorem bounds_same {E : Env} {lo hi mx : Option Operand} {len cap : Nat} {p : Nat × Nat × Nat} (h : boundsE E lo hi mx len cap = some p) {ρ : Rho} {ev : Operand → Value} (h1 : BndOk ρ ev E lo) (h2 : BndOk ρ ev E hi) (h3 : BndOk ρ ev E mx) (isS : Bool) (w : World) :
    (Instr.sliceBounds isS len cap (lo.map ev) (hi.map ev) (mx.map ev)).run P w = .ok p w := by
  obtain ⟨k1, _, _, _, k5⟩ := bounds_run (P := P) h (Nat.le_refl _) h1 h2 h3 isS w
  rw [k1]
  cases mx with
  | none => simp [← k5 rfl]
  | some z => simp

theorem elemT_ok (hT : TabOk P T) {t e : TypeId} (h : elemT T t = some e) : P.underlying t = some (.slice e) := by
  unfold elemT at h
  split at h
  · rename_i e' hu; cases h; exact undT_ok hT hu
  · cases h

theorem offS_eq (off z : Nat) (p : Nat × Nat × Nat) : offS off z p = if p.2.2 = p.1 then off else off + p.1 * z := by
  unfold offS
  cases hb : Nat.beq p.2.2 p.1 with
  | true => rw [if_pos (Nat.eq_of_beq_eq_true hb)]
  | false => rw [if_neg (fun e => by rw [e, Nat.beq_refl] at hb; cases hb)]; rfl

theorem op_slice (hT : TabOk P T) {E : Env} {m : Mem} {x : V} (t : TypeId) (y : Operand) (lo hi mx : Option Operand) (h : sliceE T t lo hi mx E (opX E y) = some x) : OpS P (.slice t y lo hi mx) E m x m := .read fun L ρ w ev ho hs => by
  have h0 := ho y (by simp [Op.operands])
  have h1 : BndOk ρ ev E lo := fun z e => ho z (by simp [Op.operands, e])
  have h2 : BndOk ρ ev E hi := fun z e => ho z (by simp [Op.operands, e])
  have h3 : BndOk ρ ev E mx := fun z e => ho z (by simp [Op.operands, e])
  -- a row, sliced
  have hrow : ∀ {e : TypeId} {i : TypeInfo} {b off n cap : Nat} {p : Nat × Nat × Nat}, P.underlying t = some (.slice e) → P.info? e = some i → ev y = .slice (some ⟨b, off, none⟩) n cap → (Instr.sliceBounds true n cap (lo.map ev) (hi.map ev) (mx.map ev)).run P w = .ok p w →
      ∀ op : Oper, op.op = .slice t y lo hi mx → (execOp ev op).run P w = .ok (.value (.slice (some ⟨b, offS off i.size p, none⟩) (p.2.1 - p.1) (p.2.2 - p.1))) w := fun {e i b off n cap p} hu hi' hv hb op ho => by
    obtain ⟨l, h, c⟩ := p
    rw [offS_eq]
    simp only [execOp, ho, hv, Instr.sliceAt, Sem.run_bind, run_underlying hu, Result.andThen_ok, Instr.slice, hb, run_size hi', Sem.run_pure]
    by_cases hc : c = l
    · simp [hc]
    · simp [hc, addr_add]
  unfold sliceE at h
  split at h
  · rename_i s hy
    rw [hy] at h0
    have hv := h0.str_inv
    split at h
    · rename_i hu
      have hu := undT_ok hT hu
      cases hb : boundsE E lo hi none s.length s.length with
      | none => rw [hb] at h; cases h
      | some p =>
        rw [hb] at h
        cases h
        have k := bounds_same (P := P) hb h1 h2 (fun z e => by cases e) false w
        have e : (⟨⟨s⟩⟩ : ByteArray).extract p.1 p.2.1 = ⟨⟨(s.drop p.1).take (p.2.1 - p.1)⟩⟩ := by
          apply ByteArray.ext
          simp [ByteArray.data_extract, List.extract_eq_take_drop]
        refine ⟨.string ((⟨⟨s⟩⟩ : ByteArray).extract p.1 p.2.1), fun op ho => ?_, by rw [e]; exact .str _⟩
        simp only [execOp, ho, hv, Instr.sliceAt, Sem.run_bind, run_underlying hu, Result.andThen_ok, Instr.slice, Option.map_none, Option.isSome_none, Bool.false_eq_true, if_false, Sem.run_pure]
        rw [show (⟨⟨s⟩⟩ : ByteArray).size = s.length from rfl]
        rw [show (none : Option Operand).map ev = none from rfl] at k
        rw [k]
        rfl
    · cases h
  · rename_i id off n cap hy
    rw [hy] at h0
    cases he : elemT T t with
    | none => rw [he] at h; cases h
    | some e =>
      cases hz : sizeT T e with
      | none => rw [he] at h; simp only [Option.bind_some, hz] at h; cases h
      | some z =>
        rw [he] at h; simp only [Option.bind_some, hz] at h
        cases hb : boundsE E lo hi mx n cap with
        | none => rw [hb] at h; cases h
        | some p =>
          rw [hb] at h
          cases h
          obtain ⟨i, hi', hiz⟩ := sizeT_ok hT hz
          generalize hv : ev y = v at h0
          cases h0 with
          | sl _ _ _ _ b c hr =>
            refine ⟨_, hrow (elemT_ok hT he) hi' hv (bounds_same hb h1 h2 h3 true w), ?_⟩
            rw [hiz]
            exact .sl _ _ _ _ b c hr
  · rename_i id n hy
    rw [hy] at h0
    cases he : elemT T t with
    | none => rw [he] at h; cases h
    | some e =>
      cases hz : sizeT T e with
      | none => rw [he] at h; simp only [Option.bind_some, hz] at h; cases h
      | some z =>
        rw [he] at h; simp only [Option.bind_some, hz] at h
        obtain ⟨i, hi', hiz⟩ := sizeT_ok hT hz
        generalize hv : ev y = v at h0
        cases h0 with
        | own _ _ b c hr hn =>
          unfold sliceOwn at h
          split at h
          · rename_i q
            cases hb : boundsE E lo hi (some q) n n with
            | none => rw [hb] at h; cases h
            | some p =>
              rw [hb] at h
              cases h
              obtain ⟨k1, _, _, _, _⟩ := bounds_run (P := P) hb hn h1 h2 h3 true w
              rw [show (if (some q).isSome = true then p.2.2 else c) = p.2.2 from rfl] at k1
              refine ⟨_, hrow (elemT_ok hT he) hi' hv k1, ?_⟩
              rw [hiz]
              exact .sl _ _ _ _ b c hr
          · cases hb : boundsE E lo hi none n n with
            | none => rw [hb] at h; cases h
            | some p =>
              rw [hb] at h
              simp only [Option.bind_some] at h
              unfold cutO at h
              split at h
              · rename_i h00
                cases h
                have hp0 : p.1 = 0 := Nat.eq_of_beq_eq_true h00
                obtain ⟨k1, g2, g3, g4, _⟩ := bounds_run (P := P) hb hn h1 h2 h3 true w
                rw [show (if (none : Option Operand).isSome = true then p.2.2 else c) = c from rfl] at k1
                refine ⟨_, hrow (elemT_ok hT he) hi' hv k1, ?_⟩
                rw [offS_eq]
                simp only [hp0, Nat.zero_mul, Nat.add_zero, ite_self, Nat.sub_zero]
                exact .own _ _ b c hr (by omega)
              · cases h
  · rename_i hy
    rw [hy] at h0
    cases he : elemT T t with
    | none => rw [he] at h; cases h
    | some e =>
      rw [he] at h; simp only [Option.bind_some] at h
      cases hsz : sizeT T e with
      | none => rw [hsz] at h; cases h
      | some zz =>
      rw [hsz] at h; simp only [Option.bind_some] at h
      cases hb : boundsE E lo hi mx 0 0 with
      | none => rw [hb] at h; cases h
      | some p =>
        rw [hb] at h
        cases h
        have hu := elemT_ok hT he
        obtain ⟨k1, k2, k3, k4, _⟩ := bounds_run (P := P) hb (Nat.le_refl _) h1 h2 h3 true w
        have hk := bounds_same (P := P) hb h1 h2 h3 true w
        generalize hv : ev y = v at h0
        cases h0
        refine ⟨.slice none 0 0, fun op ho => ?_, .nils⟩
        obtain ⟨l, hh, c⟩ := p
        simp only at k2 k3 k4
        have e1 : l = 0 := by omega
        have e2 : hh = 0 := by omega
        have e3 : c = 0 := by omega
        subst e1 e2 e3
        obtain ⟨i, hz, _⟩ := sizeT_ok hT hsz
        · simp only [execOp, ho, hv, Instr.sliceAt, Sem.run_bind, run_underlying hu, Result.andThen_ok, Instr.slice, hk, run_size hz, Sem.run_pure]
          rfl
  · rename_i id off hy
    rw [hy] at h0
    cases ha : arrT T t with
    | none => rw [ha] at h; cases h
    | some q =>
      obtain ⟨n, e⟩ := q
      rw [ha] at h; simp only [Option.bind_some] at h
      cases hz : sizeT T e with
      | none => rw [hz] at h; cases h
      | some z =>
        rw [hz] at h; simp only [Option.bind_some] at h
        cases hb : boundsE E lo hi mx n n with
        | none => rw [hb] at h; cases h
        | some p =>
          rw [hb] at h
          cases h
          obtain ⟨i, hi', hiz⟩ := sizeT_ok hT hz
          have hk := bounds_same (P := P) hb h1 h2 h3 false w
          generalize hv : ev y = v at h0
          cases h0 with
          | ptr _ _ b c hr =>
            refine ⟨.slice (some ⟨b, offS off i.size p, none⟩) (p.2.1 - p.1) (p.2.2 - p.1), fun op ho => ?_, by rw [hiz]; exact .sl _ _ _ _ b c hr⟩
            obtain ⟨l, hh, c'⟩ := p
            rw [offS_eq]
            unfold arrT at ha
            split at ha
            · rename_i n' e' hu
              cases ha
              simp only [execOp, ho, hv, Instr.sliceAt, Sem.run_bind, run_underlying (undT_ok hT hu), Result.andThen_ok, Instr.sureAddr, hk, run_size hi', Sem.run_pure]
              by_cases hc : c' = l
              · simp [hc]
              · simp [hc, addr_add]
            · rename_i a hu
              split at ha
              · rename_i n' e' hu2
                cases ha
                simp only [execOp, ho, hv, Instr.sliceAt, Sem.run_bind, run_underlying (undT_ok hT hu), Result.andThen_ok, Instr.slice, asAddr, run_underlying (undT_ok hT hu2), hk, run_size hi', Sem.run_pure]
                by_cases hc : c' = l
                · simp [hc]
                · simp [hc, addr_add]
              · cases ha
            · cases ha
  · cases h

end
end Ev
end Go.Proofs.YtaacgmcgmljjeaaGreat

/- The evaluator: values and rows that are built. -/
namespace Go.Proofs.YtaacgmcgmljjeaaGreat
namespace Ev
open Go.RowKit

section
variable {P : Program} {T : Tab}

theorem zeroC_ok (hT : TabOk P T) {t : TypeId} {z : V} (h : zeroC T t = some z) : ∃ i v, P.info? t = some i ∧ i.zero = some v ∧ z = constV v ∧ z.okc = true := by
  unfold zeroC at h
  cases hz : zeroE T t with
  | none => rw [hz] at h; cases h
  | some z' =>
    rw [hz] at h
    simp only [Option.bind_some] at h
    split at h
    · rename_i hk
      cases h
      obtain ⟨i, v, h1, h2, h3⟩ := zeroE_ok hT hz
      exact ⟨i, v, h1, h2, h3, hk⟩
    · cases h

/-- parts put into cells -/
theorem fill_run {ρ : Rho} {E : Env} {ev : Operand → Value} {place place' : Nat → Option (Nat × Nat)} (hpl : ∀ i q, place i = some q → place' i = some q) : ∀ (ps : List (Nat × Operand)) (cs : Array Value) (xs xs' : List V), RL ρ cs.toList xs → (∀ v, v ∈ cs → v.oneCell' = true) →
    (∀ p, p ∈ ps → RV ρ (ev p.2) (opX E p.2)) → fillD place E ps xs = some xs' → ∃ cs', Instr.fill place' cs (ps.map fun p => (p.1, ev p.2)) = some cs' ∧ RL ρ cs'.toList xs' ∧ ∀ v, v ∈ cs' → v.oneCell' = true
  | [], cs, xs, xs', hv, h1, _, h => by
    cases h
    exact ⟨cs, rfl, hv, h1⟩
  | p :: ps, cs, xs, xs', hv, h1, hp, h => by
    unfold fillD at h
    split at h
    · rename_i q hq
      split at h
      · rename_i hc
        simp only [Bool.and_eq_true] at hc
        obtain ⟨⟨c1, c2⟩, c3⟩ := hc
        have c1 := Nat.eq_of_beq_eq_true c1
        have c2 := Nat.le_of_ble_eq_true c2
        have c2' : q.1 + q.2 ≤ xs.length := c2
        obtain ⟨k1, k2⟩ := (hp p (by simp)).cells c3
        have hvl : (ev p.2).cells.toList.length = q.2 := k1.1.trans c1
        have hvs : (ev p.2).cells.size = q.2 := by simpa using hvl
        have hcs : cs.size = xs.length := by simpa using hv.1
        have hfold : ((ev p.2).cells.zipIdx.foldl (fun cs (c : Value × Nat) => cs.setIfInBounds (q.1 + c.2) c.1) cs) = ((ev p.2).cells.toList.zipIdx 0).foldl (fun cs (c : Value × Nat) => cs.setIfInBounds (q.1 + c.2) c.1) cs := by
          rw [← Array.foldl_toList]
          simp
        obtain ⟨e1, e2⟩ := foldl_put (ev p.2).cells.toList q.1 0 cs
        have hnew : ((ev p.2).cells.zipIdx.foldl (fun cs (c : Value × Nat) => cs.setIfInBounds (q.1 + c.2) c.1) cs).toList = cs.toList.take q.1 ++ ((ev p.2).cells.toList ++ cs.toList.drop (q.1 + q.2)) := by
          rw [hfold]
          apply List.ext_getElem?
          intro i
          by_cases hi : i < cs.size
          · rw [Array.getElem?_toList, e2 i hi, Nat.add_zero]
            by_cases ha : i < q.1
            · rw [if_neg (by omega), List.getElem?_append_left (by simp; omega), List.getElem?_take_of_lt ha, Array.getElem?_toList]
            · have htl : (cs.toList.take q.1).length = q.1 := by simp; omega
              rw [List.getElem?_append_right (by omega), htl]
              by_cases hb : i < q.1 + q.2
              · rw [if_pos (by rw [hvl]; omega), List.getElem?_append_left (by omega)]
              · rw [if_neg (by rw [hvl]; omega), List.getElem?_append_right (by omega), List.getElem?_drop, hvl, Array.getElem?_toList]
                congr 1
                omega
          · rw [List.getElem?_eq_none (by simp [e1]; omega), List.getElem?_eq_none (by simp [hvs]; omega)]
        have hrel : RL ρ (cs.toList.take q.1 ++ ((ev p.2).cells.toList ++ cs.toList.drop (q.1 + q.2))) (xs.take q.1 ++ ((opX E p.2).cells ++ xs.drop (q.1 + q.2))) := (hv.take _).append (k1.append (hv.drop _))
        obtain ⟨cs', g1, g2, g3⟩ := fill_run hpl ps ((ev p.2).cells.zipIdx.foldl (fun cs (c : Value × Nat) => cs.setIfInBounds (q.1 + c.2) c.1) cs) _ xs' (by rw [hnew]; exact hrel) (fun v hv' => by
          have : v ∈ (cs.toList.take q.1 ++ ((ev p.2).cells.toList ++ cs.toList.drop (q.1 + q.2))) := by
            rw [← hnew]; simpa using hv'
          simp only [List.mem_append] at this
          rcases this with h | h | h
          · exact h1 v (by simpa using List.mem_of_mem_take h)
          · exact k2 v (by simpa using h)
          · exact h1 v (by simpa using List.mem_of_mem_drop h)) (fun r hr => hp r (by simp [hr])) h
        refine ⟨cs', ?_, g2, g3⟩
        rw [List.map_cons]
        unfold Instr.fill
        rw [hpl _ _ hq]
        simp only
        rw [if_neg (by simp [hvs, hcs]; omega)]
        exact g1
      · cases h
    · cases h

theorem op_build (hT : TabOk P T) {E : Env} {m m' : Mem} {x : V} (t : TypeId) (ps : Array (Nat × Operand)) (h : okO m (buildE ps.toList E (buildW T t)) = .ok x m') : OpS P (.build t ps) E m x m' := by
  obtain ⟨g, rfl⟩ := okO_inv h
  unfold buildE at g
  split at g
  · rename_i place z hw
    cases hf : fillD place E ps.toList z with
    | none => rw [hf] at g; cases g
    | some xs' =>
      rw [hf] at g
      cases g
      refine .read fun L ρ w ev ho hs => ?_
      have hp : ∀ p, p ∈ ps.toList → RV ρ (ev p.2) (opX E p.2) := fun p hp => ho p.2 (by
        simp only [Op.operands, List.mem_map]
        exact ⟨p, hp, rfl⟩)
      have hpt : (ps.map fun (i, x) => (i, ev x)).toList = ps.toList.map fun p => (p.1, ev p.2) := by simp
      unfold buildW at hw
      split at hw
      · rename_i z0 fs hz hu
        split at hw
        · rename_i hall
          cases hw
          obtain ⟨i, v, hi, hv, rfl, hk⟩ := zeroC_ok hT hz
          have hu := undT_ok hT hu
          obtain ⟨k1, k2⟩ := (constV_rel ρ v).cells hk
          rw [List.all_eq_true] at hall
          have hm : (fs.mapM fun f => (do pure (f.offset, ← sizeOf f.type) : Sem (Nat × Nat))).run P w = .ok (fs.map fun f => (f.offset, P.cellsOf f.type)) w := by
            rw [Array.mapM_eq_mapM_toList]
            have key : ∀ l : List Field, (∀ f, f ∈ l → (sizeT T f.type).isSome = true) → (l.mapM fun f => (do pure (f.offset, ← sizeOf f.type) : Sem (Nat × Nat))).run P w = .ok (l.map fun f => (f.offset, P.cellsOf f.type)) w := by
              intro l
              induction l with
              | nil => intro _; rfl
              | cons f l ih =>
                intro hl
                have hf := hl f (by simp)
                cases hq0 : sizeT T f.type with
                | none => rw [hq0] at hf; cases hf
                | some s =>
                  obtain ⟨q, hq, _⟩ := sizeT_ok hT hq0
                  rw [List.mapM_cons]
                  simp only [Sem.run_bind, run_size hq, Result.andThen_ok, Sem.run_pure, ih (fun f h => hl f (by simp [h])), List.map_cons]
                  simp [Program.cellsOf, hq]
            simp only [Sem.run_map, key fs.toList hall, Result.andThen_ok]
            congr 1
            apply Array.ext'
            simp
          obtain ⟨cs', g1, g2, g3⟩ := fill_run (place' := fun j => (fs.map fun f => (f.offset, P.cellsOf f.type))[j]?) (fun j q hq => by
            unfold placeF at hq
            cases hfj : fs.toList[j]? with
            | none => rw [hfj] at hq; cases hq
            | some f =>
              rw [hfj] at hq
              simp only [Option.bind_some] at hq
              cases hs0 : sizeT T f.type with
              | none => rw [hs0] at hq; cases hq
              | some s =>
                rw [hs0] at hq
                cases hq
                obtain ⟨qi, hqi, hqs⟩ := sizeT_ok hT hs0
                have : fs[j]? = some f := by simpa using hfj
                rw [Array.getElem?_map, this]
                simp [Program.cellsOf, hqi, hqs]) ps.toList v.cells _ xs' k1 k2 hp hf
          refine ⟨.agg cs', fun op e => ?_, .agg' g2 g3⟩
          simp only [execOp, e, Instr.build, Sem.run_bind, run_zero hi hv, run_underlying hu, Result.andThen_ok, hm, hpt, g1, Sem.run_pure]
        · cases hw
      · rename_i z0 n e hz hu
        split at hw
        · rename_i s hsz
          cases hw
          obtain ⟨i, v, hi, hv, rfl, hk⟩ := zeroC_ok hT hz
          have hu := undT_ok hT hu
          obtain ⟨ie, hie, his⟩ := sizeT_ok hT hsz
          obtain ⟨k1, k2⟩ := (constV_rel ρ v).cells hk
          obtain ⟨cs', g1, g2, g3⟩ := fill_run (place' := fun j => some (j * ie.size, ie.size)) (fun j q hq => by
            unfold placeA at hq
            cases hq
            rw [his]; rfl) ps.toList v.cells _ xs' k1 k2 hp hf
          refine ⟨.agg cs', fun op e => ?_, .agg' g2 g3⟩
          simp only [execOp, e, Instr.build, Sem.run_bind, run_zero hi hv, run_underlying hu, run_size hie, Result.andThen_ok, hpt, g1, Sem.run_pure]
        · cases hw
      · cases hw
  · cases g

/-! ### rows -/
theorem sliceW_ok (hT : TabOk P T) {t e s b : Nat} {z : List V} (h : sliceW T t = .mk e s b z) : ∃ i v, P.underlying t = some (.slice e) ∧ P.info? e = some i ∧ i.size = s ∧ i.bytes = b ∧ i.zero = some v ∧ z = (constV v).cells ∧ (constV v).okc = true ∧ v.cells.size = s := by
  unfold sliceW at h
  split at h
  · rename_i e' hu
    split at h
    · rename_i i z' hi hz
      split at h <;> cases h
      rename_i hb
      have hb := Nat.eq_of_beq_eq_true hb
      obtain ⟨i', v, h1, h2, rfl, hk⟩ := zeroC_ok hT hz
      have := infoT_ok hT hi
      rw [this] at h1
      cases h1
      refine ⟨i, v, undT_ok hT hu, this, rfl, rfl, h2, rfl, hk, ?_⟩
      rw [← hb, ← ((constV_rel (fun _ => none) v).cells hk).1.1]
      simp
    · cases h
  · cases h

theorem rep_len (l : List V) (n : Nat) : (rep l n).length = n * l.length := by
  induction n with
  | zero => simp [rep]
  | succ n ih => simp only [rep, List.length_append, ih, Nat.succ_mul]; omega

theorem rep_get (l : List V) : ∀ (n j : Nat), j < n * l.length → (rep l n)[j]? = l[j % l.length]?
  | 0, j, h => by simp at h
  | n + 1, j, h => by
    unfold rep
    by_cases hj : j < l.length
    · rw [List.getElem?_append_left hj, Nat.mod_eq_of_lt hj]
    · rw [List.getElem?_append_right (by omega), rep_get l n _ (by rw [Nat.succ_mul] at h; omega)]
      congr 1
      rw [← Nat.mod_eq_sub_mod (by omega)]

/-- a row of zeros -/
theorem zeros_rel {ρ : Rho} {v : Value} (hk : (constV v).okc = true) (n s : Nat) (hs : v.cells.size = s) : RL ρ ((Array.range (n * s)).map (v.cells[· % v.cells.size]!)).toList (rep (constV v).cells n) ∧ ∀ u, u ∈ (Array.range (n * s)).map (v.cells[· % v.cells.size]!) → u.oneCell' = true := by
  obtain ⟨k1, k2⟩ := (constV_rel ρ v).cells hk
  have hl : (constV v).cells.length = s := by rw [← k1.1]; simpa using hs
  have hget : ∀ j, j < n * s → ∃ u, v.cells[j % s]? = some u ∧ v.cells[j % v.cells.size]! = u := fun j hj => by
    have hs0 : 0 < s := by
      rcases Nat.eq_zero_or_pos s with h | h
      · subst h; simp at hj
      · exact h
    have hlt : j % s < v.cells.size := by rw [hs]; exact Nat.mod_lt _ hs0
    exact ⟨v.cells[j % s], by simp [hlt], by rw [hs]; exact getElem!_pos v.cells _ hlt⟩
  refine ⟨⟨by simp [rep_len, hl], fun j u x hu hx => ?_⟩, fun u hu => ?_⟩
  · have hj : j < n * s := by
      have := (List.getElem?_eq_some_iff.1 hu).1
      simpa using this
    rw [rep_get _ _ _ (by rw [hl]; exact hj), hl] at hx
    obtain ⟨u', g1, g2⟩ := hget j hj
    have : u = u' := by
      rw [Array.getElem?_toList, Array.getElem?_map] at hu
      simp only [Array.getElem?_range, hj, if_true, Option.map_some] at hu
      cases hu
      exact g2
    subst this
    exact k1.2 (j % s) u x (by simpa using g1) hx
  · obtain ⟨j, hj, rfl⟩ := Array.mem_map.1 hu
    have hj' : j < n * s := by simpa using hj
    obtain ⟨u', g1, g2⟩ := hget j hj'
    rw [g2]
    exact k2 u' (Array.mem_of_getElem? g1)

end
end Ev
end Go.Proofs.YtaacgmcgmljjeaaGreat

/- The evaluator: rows that are built and made; what a slice or a string holds. -/
namespace Go.Proofs.YtaacgmcgmljjeaaGreat
namespace Ev
open Go.RowKit

section
variable {P : Program} {T : Tab}

/-- a new row of cells, at an operation -/
theorem row_op {L : Nat} {ρ : Rho} {m : Mem} {w : World} (hs : Sat L ρ m w) {e s len : Nat} {xs : List V} (hL : (m.add (rowE e s xs)).n ≤ L) {cs : Array Value} (hv : RL ρ cs.toList xs) (h1 : ∀ v, v ∈ cs → v.oneCell' = true) (hc : cs.size = len * s) (l c : Nat) (hl : l ≤ c) (hcl : c = len) :
    ∃ ρ', RV ρ' (.slice (some ⟨w.heap.size, 0, none⟩) l c) (.sl m.n 0 l c) ∧ Sat L ρ' (m.add (rowE e s xs)) (w.alloc (.cells cs e)) ∧ Trans ρ ρ' m (m.add (rowE e s xs)) w (w.alloc (.cells cs e)) := by
  have hL' : m.n < L := hL
  obtain ⟨ρ', k1, k2, k3⟩ := add_row hs hL' (t := e) (e := s) (c := len) hv (fun v hv => h1 v (by simpa using hv)) (by simpa using hc)
  rw [Array.toArray_toList] at k2 k3
  exact ⟨ρ', .sl _ _ _ _ _ _ k1, k2, k3⟩

theorem zero_row {v : Value} {n s : Nat} (hs : v.cells.size = s) : ((Array.range (n * s)).map ((if n * s = 0 then (#[] : Array Value) else v.cells)[· % (if n * s = 0 then (#[] : Array Value) else v.cells).size]!)) = (Array.range (n * s)).map (v.cells[· % v.cells.size]!) := by
  by_cases h : n * s = 0
  · rw [h]; simp
  · simp only [h, if_false]

theorem fillD_len {place : Nat → Option (Nat × Nat)} {E : Env} : ∀ (ps : List (Nat × Operand)) (cs cs' : List V), fillD place E ps cs = some cs' → cs'.length = cs.length
  | [], cs, cs', h => by cases h; rfl
  | p :: r, cs, cs', h => by
    unfold fillD at h
    split at h
    · rename_i q hq
      split at h
      · rename_i hc
        simp only [Bool.and_eq_true] at hc
        have c1 := Nat.eq_of_beq_eq_true hc.1.1
        have c2 : q.1 + q.2 ≤ cs.length := Nat.le_of_ble_eq_true hc.1.2
        rw [fillD_len r _ _ h]
        simp only [List.length_append, List.length_take, List.length_drop, c1]
        show min q.1 cs.length + (q.2 + (cs.length - (q.1 + q.2))) = cs.length
        omega
      · cases h
    · cases h

theorem op_buildSlice (hT : TabOk P T) {E : Env} {m m' : Mem} {x : V} (t : TypeId) (len : Nat) (ps : Array (Nat × Operand)) (h : buildSliceE len ps.toList E m (sliceW T t) = .ok x m') : OpS P (.buildSlice t len ps) E m x m' := by
  intro L ρ w ev ho hs hL
  unfold buildSliceE at h
  split at h
  · rename_i et s b z hw
    obtain ⟨i, v, hu, hi, his, _, hz, rfl, hk, hsz⟩ := sliceW_ok hT hw
    split at h
    · rename_i hb
      have hb : len * s ≤ 16777216 := Nat.le_of_ble_eq_true hb
      unfold sliceRow at h
      split at h
      · rename_i cs hf
        cases h
        have hp : ∀ p, p ∈ ps.toList → RV ρ (ev p.2) (opX E p.2) := fun p hp => ho p.2 (by
          simp only [Op.operands, List.mem_map]
          exact ⟨p, hp, rfl⟩)
        have hpt : (ps.map fun (i, x) => (i, ev x)).toList = ps.toList.map fun p => (p.1, ev p.2) := by simp
        obtain ⟨z1, z2⟩ := zeros_rel (ρ := ρ) hk len s hsz
        obtain ⟨cs', g1, g2, g3⟩ := fill_run (place' := fun j => some (j * s, s)) (fun j q hq => by
            unfold placeA at hq
            cases hq
            rfl) ps.toList _ _ cs z1 z2 hp hf
        have hsz' : cs'.size = len * s := by
          have := g2.1
          have e2 := fillD_len _ _ _ hf
          have e3 := z1.1
          simp only [Array.length_toList] at this e3
          rw [this, e2, ← e3]; simp
        obtain ⟨ρ', k1, k2, k3⟩ := row_op hs hL (len := len) g2 g3 hsz' len len (Nat.le_refl _) rfl
        refine ⟨_, _, _, ρ', fun op e => ?_, .inl rfl, k1, k2, k3⟩
        simp only [execOp, e, Instr.buildSlice, Sem.run_bind, run_underlying hu, run_size hi, his, Result.andThen_ok]
        rw [if_neg (by omega)]
        by_cases h0 : len * s = 0
        · have hr : ∀ f : Nat → Value, Array.map f (Array.range (len * s)) = #[] := fun f => by rw [h0]; simp
          rw [hr] at g1
          have hr0 : Array.map (fun _ : Nat => (default : Value)) (Array.range 0) = #[] := by simp
          have g1' := g1
          simp [h0, hpt, hr0] at g1' ⊢
          simp [g1', newRow]
        · simp [h0, run_zero hi hz, hpt, g1, newRow]
      · cases h
    · cases h
  · cases h

theorem run_askRoom {n : Nat} (w : World) : (askRoom n).run P w = .ok () w := by
  unfold askRoom
  split <;> rfl

theorem op_makeSlice (hT : TabOk P T) {E : Env} {m m' : Mem} {x : V} (t : TypeId) (l c : Operand) (h : makeSlE T t (opX E c) m (opX E l) = .ok x m') : OpS P (.makeSlice t l c) E m x m' := by
  intro L ρ w ev ho hs hL
  unfold makeSlE at h
  split at h
  · rename_i l' c' hl hc
    obtain ⟨kl, el⟩ := (ho l (by simp [Op.operands])).toN hl
    obtain ⟨kc, ec⟩ := (ho c (by simp [Op.operands])).toN hc
    unfold makeSl at h
    split at h
    · rename_i et s b z hw
      obtain ⟨i, v, hu, hi, his, hib, hz, rfl, hk, hsz⟩ := sliceW_ok hT hw
      split at h
      · rename_i hb
        cases h
        simp only [Bool.and_eq_true] at hb
        have b1 : l' ≤ c' := Nat.le_of_ble_eq_true hb.1.1
        have b2 : c' ≤ 1000000 := Nat.le_of_ble_eq_true hb.1.2
        have b3 : b ≤ 100000 := Nat.le_of_ble_eq_true hb.2
        obtain ⟨z1, z2⟩ := zeros_rel (ρ := ρ) hk c' s hsz
        obtain ⟨ρ', k1, k2, k3⟩ := row_op hs hL (len := c') z1 z2 (by simp) l' c' b1 rfl
        refine ⟨_, _, _, ρ', fun op e => ?_, .inl rfl, k1, k2, k3⟩
        have w1 : IntKind.i64.wrap (l' : Int) = l' := fits_max (by simp only [maxN]; omega)
        have w2 : IntKind.i64.wrap (c' : Int) = c' := fits_max (by simp only [maxN]; omega)
        have hbc : (b : Int) * (c' : Int) ≤ 100000000000 := by
          have : b * c' ≤ 100000 * 1000000 := Nat.mul_le_mul b3 b2
          have : ((b * c' : Nat) : Int) ≤ ((100000 * 1000000 : Nat) : Int) := by exact_mod_cast this
          simpa using this
        have hti : (typeInfo et).run P w = .ok i w := by simp [typeInfo, hi]
        simp only [execOp, e, Instr.makeSlice, Sem.run_bind, run_underlying hu, Result.andThen_ok, el, ec, asInt, asIntOf, Sem.run_pure, hti, hib, w1, w2]
        have hg : ((decide ((c' : Int) < 0) || decide ((b : Int) * (c' : Int) > 2 ^ 48)) || decide ((l' : Int) < 0) || decide ((l' : Int) > (c' : Int))) = false := by
          simp only [Bool.or_eq_false_iff, decide_eq_false_iff_not]
          refine ⟨⟨⟨by omega, by omega⟩, by omega⟩, by omega⟩
        rw [if_neg (by rw [hg]; simp)]
        simp only [Sem.run_bind, Sem.run_pure, Result.andThen_ok, run_askRoom, run_size hi, his, Int.toNat_natCast]
        by_cases h0 : c' * s = 0
        · have hr : ∀ f : Nat → Value, Array.map f (Array.range (c' * s)) = #[] := fun f => by rw [h0]; simp
          have hr0 : ∀ f : Nat → Value, Array.map f (Array.range 0) = #[] := fun f => by simp
          simp [h0, newRow]
          rw [hr0, hr0]
        · simp [h0, run_zero hi hz, newRow]
      · cases h
    · cases h
  · cases h

/-! ### what slices and strings hold -/
theorem lenE_run {ρ : Rho} {v : Value} {y : V} {k : Nat} (hv : RV ρ v y) (h : lenE y = some k) (w : World) : (Builtin.lenOf v).run P w = .ok k w := by
  unfold lenE at h
  split at h <;> cases h
  · cases hv; rfl
  · cases hv; rfl
  · cases hv; rfl
  · cases hv; rfl

theorem loadCells_of {w : World} {b off n : Nat} {vs : List Value} (hl : vs.length = n) (h : ∀ j v, vs[j]? = some v → w.cell? ⟨b, off + j, none⟩ = some v) :
    ∀ j v, vs[j]? = some v → w.cell? ((⟨b, off, none⟩ : Addr).add j) = some v := fun j v hj => by rw [addr_add]; exact h j v hj

/-- the cells that a slice or a string holds; also in a world with the same blocks -/
theorem cont_run {e : Nat} {m : Mem} {y : V} {l : List V} {k : Nat} (h : contents e m y = some l) (hk : lenE y = some k) {L : Nat} {ρ : Rho} {w : World} (hs : Sat L ρ m w) {v : Value} (hv : RV ρ v y) :
    ∃ vs : List Value, RL ρ vs l ∧ (∀ u, u ∈ vs → u.oneCell' = true) ∧ vs.length = k * e ∧ ∀ w2 : World, w2.heap = w.heap → ∀ j, j ≤ k → (Builtin.firstCells e j v).run P w2 = .ok (vs.take (j * e)).toArray w2 := by
  have key : ∀ (id off n b c : Nat) (tr : Tr V), ρ id = some (b, c) → RC ρ w b tr → takeD tr (n * e) off = some l → ∀ (len cap : Nat), ∃ vs : List Value, RL ρ vs l ∧ (∀ u, u ∈ vs → u.oneCell' = true) ∧ vs.length = n * e ∧ ∀ w2 : World, w2.heap = w.heap → ∀ j, j ≤ n → (Builtin.firstCells e j (.slice (some ⟨b, off, none⟩) len cap)).run P w2 = .ok (vs.take (j * e)).toArray w2 := by
    intro id off n b c tr hr hc ht len cap
    obtain ⟨vs, h1, h2, h3⟩ := cells_at hc ht
    have hl : vs.length = n * e := h1.1.trans (takeD_spec _ _ _ _ ht).1
    refine ⟨vs, h1, h2, hl, fun w2 hw j hj => run_firstCells_some w2 e j _ len cap _ ?_ fun i u hi => ?_⟩
    · have : j * e ≤ n * e := Nat.mul_le_mul_right e hj
      simp; omega
    · have hlt : i < j * e := by
        have := (List.getElem?_eq_some_iff.1 hi).1
        simp at this; omega
      rw [List.getElem?_take_of_lt hlt] at hi
      rw [addr_add]
      have := h3 i u hi
      unfold World.cell? at this ⊢
      rw [hw]; exact this
  have obj : ∀ (id off n len cap b c : Nat), ρ id = some (b, c) → contO off (n * e) (look m id) = some l → ∃ vs : List Value, RL ρ vs l ∧ (∀ u, u ∈ vs → u.oneCell' = true) ∧ vs.length = n * e ∧ ∀ w2 : World, w2.heap = w.heap → ∀ j, j ≤ n → (Builtin.firstCells e j (.slice (some ⟨b, off, none⟩) len cap)).run P w2 = .ok (vs.take (j * e)).toArray w2 := by
    intro id off n len cap b c hr h
    unfold contO at h
    split at h
    · rename_i U e' z tr hl
      obtain ⟨b', c', g1, g2⟩ := hs.obj id _ hl
      rw [hr] at g1; cases g1
      exact key id off n b c tr hr g2.rc h len cap
    · rename_i tr hl
      obtain ⟨b', c', g1, g2⟩ := hs.obj id _ hl
      rw [hr] at g1; cases g1
      exact key id off n b c tr hr g2 h len cap
    · cases h
  unfold contents at h
  split at h
  · cases h
    cases hk
    cases hv
    exact ⟨[], RL.nil ρ, fun u hu => (by cases hu), by simp, fun w2 _ j hj => by simp [Builtin.firstCells]⟩
  · rename_i s
    split at h
    · rename_i he
      have he := Nat.eq_of_beq_eq_true he
      subst he
      cases h
      cases hk
      cases hv
      refine ⟨s.map fun b => .int .u8 b.toNat, RL.map _ _ _ fun b _ => .int _ _, fun u hu => ?_, by simp, fun w2 _ j hj => ?_⟩
      · obtain ⟨b, _, rfl⟩ := List.mem_map.1 hu; rfl
      · simp only [Builtin.firstCells, Sem.run_pure, Nat.mul_one]
        congr 1
        apply Array.ext'
        rw [← List.map_take]
        simp [ByteArray.data_extract]
    · cases h
  · rename_i id off n cap
    cases hk
    cases hv with
    | sl _ _ _ _ b c hr => exact obj id off _ _ _ b c hr h
  · rename_i id n
    cases hk
    cases hv with
    | own _ _ b c hr hn => exact obj id 0 _ _ _ b c hr h
  · cases h

end
end Ev
end Go.Proofs.YtaacgmcgmljjeaaGreat
