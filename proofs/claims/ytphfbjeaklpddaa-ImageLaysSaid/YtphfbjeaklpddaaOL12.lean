/-
  Joined texts: Layer 42, the reference: Get, whose slice is the caller's own; Bits; Shape. · Layer 42: values written as octets, read as an image of one row: plain law. · Layer 42: names of blocks changed for one another; values written as octets, what the walk
-/
import Derived.Test.YtphfbjeaklpddaaOL11
import Derived.Test.YtphfbjeaklpddaaOL2
import Derived.Test.YtphfbjeaklpddaaOL9
import Derived.Test.YtphfbjeaklpddaaOL3
import Derived.Test.YtphfbjeaklpddaaOL10
set_option linter.unusedSimpArgs false
set_option linter.unusedVariables false

/- Layer 42, the reference: Get, whose slice is the caller's own; Bits; Shape. -/
namespace Go.Proofs.Ytphfbjeaklpddaa
open Go.RowKit

theorem pc_sample (I : Im) (x y c : Int) (hv : I.vB = true) (hd : I.L.dom x y c) : PC Try.prog 49 [imX I, iX x, iX y, iX c] (iX (I.L.fn I.O x y c)) := PC_old rfl rfl fun w => rsample_any I x y c w hv hd

theorem got_snoc (I : Im) (x y : Int) (c : Nat) : (intsD ((List.range c).map fun k => I.L.fn I.O x y (k : Nat))).map X.d ++ (([I.L.fn I.O x y ((c : Nat) : Int)].map (D.int .i64)).map X.d) = (intsD ((List.range (c + 1)).map fun k => I.L.fn I.O x y (k : Nat))).map X.d := by
  rw [List.range_succ]
  simp only [intsD, List.map_append, List.map_cons, List.map_nil]

theorem bits_f1 {v f t : Int} (hf : f = 8 ∨ f = 16) (ht : t = 8 ∨ t = 16) (h : (((f : Int) == 8) && ((t : Int) == 16)) = true) : X.d (.int .i64 (257 * v)) = X.d (.int .i64 (chgT f t v)) := by
  simp only [Bool.and_eq_true, beq_iff_eq] at h
  unfold chgT
  rw [if_pos (by omega)]
theorem bits_f2 {v f t : Int} (hf : f = 8 ∨ f = 16) (ht : t = 8 ∨ t = 16) (h : (((f : Int) == 16) && ((t : Int) == 8)) = true) : X.d (.int .i64 ((v + 128) / 257)) = X.d (.int .i64 (chgT f t v)) := by
  simp only [Bool.and_eq_true, beq_iff_eq] at h
  unfold chgT
  rw [if_neg (by omega), if_pos (by omega)]
theorem bits_f3 {v f t : Int} (hf : f = 8 ∨ f = 16) (ht : t = 8 ∨ t = 16) (h : (((f : Int) == 8) && ((t : Int) == 16)) = false) (h2 : (((f : Int) == 16) && ((t : Int) == 8)) = false) : X.d (.int .i64 v) = X.d (.int .i64 (chgT f t v)) := by
  simp only [Bool.and_eq_false_iff, beq_eq_false_iff_ne, ne_eq] at h h2
  unfold chgT
  rw [if_neg (by omega), if_neg (by omega)]

/-- the first k done -/
def mixL (f g : Nat → Int) (n k : Nat) : List Int := (List.range n).map fun c => if c < k then g c else f c
theorem mix_zero (f g : Nat → Int) (n : Nat) : (List.range n).map f = mixL f g n 0 := by
  unfold mixL
  simp
theorem mix_all (f g : Nat → Int) (n : Nat) : mixL f g n n = (List.range n).map g := by
  unfold mixL
  refine List.map_congr_left fun c hc => ?_
  rw [if_pos (by simpa using hc)]
theorem mix_at {f g : Nat → Int} {n k : Nat} (h : k < n) : ((intsD (mixL f g n k)).map X.d)[k]? = some (.d (.int .i64 (f k))) := by
  simp [intsD, mixL, h]
theorem mix_set {f g : Nat → Int} {n k : Nat} (h : k < n) : ((intsD (mixL f g n k)).map X.d).take k ++ (X.d (.int .i64 (g k))).cells ++ ((intsD (mixL f g n k)).map X.d).drop (k + (X.d (.int .i64 (g k))).cells.length) = (intsD (mixL f g n (k + 1))).map X.d := by
  have hc : (X.d (.int .i64 (g k))).cells = [X.d (.int .i64 (g k))] := rfl
  rw [hc]
  refine List.ext_getElem? fun i => ?_
  have hl : (((intsD (mixL f g n k)).map X.d).take k).length = k := by simp [intsD, mixL]; omega
  simp only [List.length_cons, List.length_nil, Nat.zero_add, List.append_assoc]
  rcases Nat.lt_trichotomy i k with hi | hi | hi
  · rw [List.getElem?_append_left (by omega), List.getElem?_take_of_lt hi]
    have hin : i < n := by omega
    simp [intsD, mixL, hin, hi, Nat.lt_succ_of_lt hi]
  · subst hi
    rw [List.getElem?_append_right (by omega), hl]
    simp [intsD, mixL, h]
  · rw [List.getElem?_append_right (by omega), hl]
    rw [List.getElem?_append_right (by simp; omega), List.getElem?_drop]
    have e : k + 1 + (i - k - [X.d (D.int IntKind.i64 (g k))].length) = i := by simp; omega
    rw [e]
    by_cases hin : i < n
    · simp [intsD, mixL, hin, show ¬ i < k by omega, show ¬ i < k + 1 by omega]
    · simp [intsD, mixL, hin]

def shqF (I : Im) (bits : Int) (a b c : Int) : Int := chgT I.L.B bits (I.L.fn I.O a b c)

theorem shp_val {I : Im} (hv : I.vB = true) (a b c : Int) : 0 ≤ I.L.fn I.O a b c ∧ I.L.fn I.O a b c < 65536 := by
  have := I.L.smp_bd (vB_yes hv).1 (octAt I.O) (octAt_range I.O) a b c
  refine ⟨this.1, Int.lt_of_lt_of_le this.2 ?_⟩
  split <;> decide
theorem shqF_bd {I : Im} (hv : I.vB = true) {bits : Int} (hb : bits = 8 ∨ bits = 16) (a b c : Int) : 0 ≤ shqF I bits a b c ∧ shqF I bits a b c < if bits = 8 then 256 else 65536 := by
  have := I.L.smp_bd (vB_yes hv).1 (octAt I.O) (octAt_range I.O) a b c
  exact chgT_bd (vB_yes hv).1.b hb this.1 this.2

theorem shp_f1 {I : Im} {bits pad : Int} {pl : Bool} (h : (!I.vB) = true) : shpR I bits pl pad = (Im.z, 420) := by
  unfold shpR
  rw [if_neg (by simpa using h)]
theorem shp_mk {I : Im} {bits pad : Int} {pl : Bool} (h : (((makR ⟨I.L.W, I.L.H, I.L.C, bits, pl, pad⟩).2 : Int) != 0) = false) : Shp I.L.W I.L.H I.L.C bits pad := by
  refine (shpB_iff _ _ _ _ _).1 ?_
  cases e : shpB I.L.W I.L.H I.L.C bits pad
  · exfalso
    simp [makR, e] at h
  · rfl
theorem shp_f2 {I : Im} {bits pad : Int} {pl : Bool} (hv : I.vB = true) (h : (((makR ⟨I.L.W, I.L.H, I.L.C, bits, pl, pad⟩).2 : Int) != 0) = true) : shpR I bits pl pad = (Im.z, 2) := by
  have e : shpB I.L.W I.L.H I.L.C bits pad = false := by
    cases e : shpB I.L.W I.L.H I.L.C bits pad
    · rfl
    · simp [makR, e] at h
  unfold shpR
  rw [if_pos hv, if_neg, if_neg (by simp [e])]
  intro hh
  simp only [Bool.and_eq_true, decide_eq_true_eq] at hh
  have : shpB I.L.W I.L.H I.L.C bits pad = true := (shpB_iff _ _ _ _ _).2 (by rw [hh.1, hh.2.2]; exact (vB_yes hv).1)
  rw [e] at this
  cases this
theorem shp_make {I : Im} {bits pad : Int} {pl : Bool} (hm : Shp I.L.W I.L.H I.L.C bits pad) : (makR ⟨I.L.W, I.L.H, I.L.C, bits, pl, pad⟩).1 = imF (I.L.lay bits pl pad) (rowF (shqF I bits) (fun _ _ _ => 0) 0 0 0 0 I.L.W 0 0) := by
  rw [row_zero]
  have h : shpB I.L.W I.L.H I.L.C bits pad = true := (shpB_iff _ _ _ _ _).2 hm
  have h2 : makR ⟨I.L.W, I.L.H, I.L.C, bits, pl, pad⟩ = (⟨⟨I.L.W, I.L.H, I.L.C, bits, pl, pad⟩, octS (⟨I.L.W, I.L.H, I.L.C, bits, pl, pad⟩ : Lay).len.toNat fun _ => 0⟩, 0) := if_pos h
  rw [h2]
  exact imF_zero ⟨I.L.W, I.L.H, I.L.C, bits, pl, pad⟩
theorem shp_f3 {I : Im} {bits pad : Int} {pl : Bool} {j : Nat} (hv : I.vB = true) (hm : Shp I.L.W I.L.H I.L.C bits pad) (hj : (j : Int) = I.L.H) : shpR I bits pl pad = (imF (I.L.lay bits pl pad) (rowF (shqF I bits) (fun _ _ _ => 0) 0 0 0 0 I.L.W j 0), 0) := by
  have e : imF (I.L.lay bits pl pad) (rowF (shqF I bits) (fun _ _ _ => 0) 0 0 0 0 I.L.W j 0) = I.lay bits pl pad := by
    refine imF_congr (I.L.lay bits pl pad) hm _ _ fun a b c hd => ?_
    obtain ⟨h1, h2, h3⟩ := hd
    have h1' : 0 ≤ a ∧ a < I.L.W := h1
    have h2' : 0 ≤ b ∧ b < I.L.H := h2
    unfold rowF
    rw [if_pos (by omega)]
    simp [shqF]
  rw [e]
  unfold shpR
  rw [if_pos hv]
  split
  · rename_i hh
    simp only [Bool.and_eq_true, decide_eq_true_eq, beq_iff_eq] at hh
    obtain ⟨rfl, rfl, rfl⟩ := hh
    have : I.lay I.L.B I.L.pl I.L.P = I := by
      have h := Im.eq_imF I hv
      unfold Im.lay
      simp only [chgT_same]
      exact h.symm
    rw [this]
  · rw [if_pos ((shpB_iff _ _ _ _ _).2 hm)]
theorem PC.sl4 {P : Program} {f : FuncId} {a b c : X} {n e : Nat} {l : List D} {r : X} (h : PC P f [a, b, c, .d (.slw n e l)] r) : PC P f [a, b, c, .d (.sl n e l)] r := by
  intro w M vs hM hs hv
  refine h w M vs hM hs fun i v x h1 h2 => ?_
  match i with
  | 0 => exact hv 0 v x h1 h2
  | 1 => exact hv 1 v x h1 h2
  | 2 => exact hv 2 v x h1 h2
  | 3 =>
    cases h2
    have := hv 3 v _ h1 rfl
    cases this with | d h => exact .d h.to_slw
  | i + 4 => simp at h2
theorem shp_put {I : Im} {bits pad : Int} {pl : Bool} {j i k : Nat} (hv : I.vB = true) (hm : Shp I.L.W I.L.H I.L.C bits pad) (hi : (i : Int) < I.L.W) (hj : (j : Int) < I.L.H) (hk : k = I.L.C.toNat) :
    PC Try.prog 52 [imX (imF (I.L.lay bits pl pad) (rowF (shqF I bits) (fun _ _ _ => 0) 0 0 0 0 I.L.W j i)), iX ((i : Nat) : Int), iX ((j : Nat) : Int), .d (.sl I.L.C.toNat 1 (intsD (mixL (fun c => I.L.fn I.O ((i : Nat) : Int) ((j : Nat) : Int) (c : Nat)) (fun c => shqF I bits ((i : Nat) : Int) ((j : Nat) : Int) (c : Nat)) I.L.C.toNat k)))] (imX (imF (I.L.lay bits pl pad) (rowF (shqF I bits) (fun _ _ _ => 0) 0 0 0 0 I.L.W j (i + 1)))) := by
  subst hk
  have hs5 := (vB_yes hv).1.c1
  rw [mix_all]
  refine PC.sl4 (pc_putF (L := I.L.lay bits pl pad) hm ?_ (by omega) (show (i : Int) < I.L.W from hi) (by omega) (show (j : Int) < I.L.H from hj) (by simp) (show ((I.L.C.toNat : Nat) : Int) = I.L.C by omega) ?_ fun p q c hd => ?_)
  · exact row_fits (fun p q c _ _ _ _ _ _ => shqF_bd hv hm.b _ _ _) (fun p q c _ => ⟨Int.le_refl _, by split <;> decide⟩)
  · intro v hvm
    rw [List.mem_map] at hvm
    obtain ⟨c, _, rfl⟩ := hvm
    have := shqF_bd hv hm.b ((i : Nat) : Int) ((j : Nat) : Int) (c : Nat)
    refine ⟨this.1, Int.lt_of_lt_of_le this.2 ?_⟩
    split <;> decide
  · have hd3 := hd.2.2
    rw [row_put _ _ 0 0 0 0 I.L.W j i hi I.L.C.toNat p q c (by omega) (by have : c < I.L.C := hd3.2; omega)]
    simp only [Int.zero_add]

set_option maxRecDepth 100000 in
set_option maxHeartbeats 2000000 in
theorem po_rget (I : Im) (x y : Int) (hv : I.vB = true) (x0 : 0 ≤ x) (x1 : x < I.L.W) (y0 : 0 ≤ y) (y1 : y < I.L.H) : PO Try.prog 20 [.agg (imC I), .d (.int .i64 x), .d (.int .i64 y)] (fun id => .tup [.own id I.L.C.toNat 1, .d (.int .i64 0)]) 3 1 (intsD ((List.range I.L.C.toNat).map fun c => I.L.fn I.O x y (c : Nat))) := by
  refine PO_of (fn := Try.f20) Try.func20 rfl (by simp [Try.ntmps20]) (oneN_tup _ _ _) fun G hG => ?_
  rw [Try.ntmps20]
  have hs5 := (vB_yes hv).1.c1
  have hs6 := (vB_yes hv).1.c2
  refine aw_seq ?_
  refine aw_region_seq [⟨.ptr 1 0, [(1, some ⟨31, 7, (imC I)⟩)], [1], []⟩, ⟨.d (.sl 0 0 []), [], [], []⟩, ⟨.d (.int .i64 0), [], [], []⟩] (by kernel_rfl) (by kernel_rfl) (fun id _ => hG id) ?_ ?_
  · exact okY rfl (LT_box (x := .agg (imC I)) 1 rfl rfl rfl 7 rfl (List.Mem.head _)) <| okY rfl (LT_assign rfl rfl) <| okY rfl (LT_assign rfl rfl) <| okE
  change AW _ _ _ _ _ _
  refine aw_weak (weak_of [(1, .d (.int .i64 x)), (2, .d (.int .i64 y)), (3, .ptr 1 0)] [(1, some ⟨31, 7, (imC I)⟩)] [1] (sE rfl (sE rfl (sE rfl sE0))) (sH rfl sH0) (by kernel_rfl)) ?_
  refine aw_seq ?_
  refine aw_seq ?_
  refine aw_region_seq [⟨.agg (imC I), [], [], [1]⟩, ⟨.d (.bool I.vB), [], [], []⟩, ⟨.d (.bool (!I.vB)), [], [], []⟩] (by kernel_rfl) (by kernel_rfl) (fun id _ => hG id) ?_ ?_
  · exact okY rfl (LT_load 7 rfl rfl rfl (List.Mem.head _) Try.underlying31 inf31 (by simp [imC]) (.inl ⟨rfl, rfl, rfl⟩)) <| okY rfl (LT_call [.agg (imC I)] rfl rfl Try.call39 rfl ((pc_right I).ct rfl)) <| okY rfl (LT_not rfl rfl rfl) <| okE
  change AW _ _ _ _ _ _
  refine aw_weak (weak_of [(1, .d (.int .i64 x)), (2, .d (.int .i64 y)), (3, .ptr 1 0), (12, .d (.bool (!I.vB)))] [(1, some ⟨31, 7, (imC I)⟩)] [1] (sE rfl (sE rfl (sE rfl (sE rfl sE0)))) (sH rfl sH0) (by kernel_rfl)) ?_
  refine aw_cond (!I.vB) rfl (fun hb1 => ?_) (fun hb1 => ?_)
  ·
    rw [hv] at hb1
    cases hb1
  ·
    refine aw_skip ?_
    change AW _ _ _ _ _ _
    refine aw_weak (weak_of [(1, .d (.int .i64 x)), (2, .d (.int .i64 y)), (3, .ptr 1 0)] [(1, some ⟨31, 7, (imC I)⟩)] [1] (sE rfl (sE rfl (sE rfl sE0))) (sH rfl sH0) (by kernel_rfl)) ?_
    refine aw_seq ?_
    refine aw_seq ?_
    refine aw_region_seq [⟨.agg (imC I), [], [], [1]⟩, ⟨.d (.int .i64 x), [], [], []⟩, ⟨.d (.int .i64 y), [], [], []⟩, ⟨.d (.bool (thereB I.L x y)), [], [], []⟩, ⟨.d (.bool (!(thereB I.L x y))), [], [], []⟩] (by kernel_rfl) (by kernel_rfl) (fun id _ => hG id) ?_ ?_
    · exact okY rfl (LT_load 7 rfl rfl rfl (List.Mem.head _) Try.underlying31 inf31 (by simp [imC]) (.inl ⟨rfl, rfl, rfl⟩)) <| okY rfl (LT_move rfl rfl) <| okY rfl (LT_move rfl rfl) <| okY rfl (LT_call [.agg (imC I), .d (.int .i64 x), .d (.int .i64 y)] rfl rfl Try.call48 rfl ((pc_there I x y hv).ct rfl)) <| okY rfl (LT_not rfl rfl rfl) <| okE
    change AW _ _ _ _ _ _
    refine aw_weak (weak_of [(1, .d (.int .i64 x)), (2, .d (.int .i64 y)), (3, .ptr 1 0), (17, .d (.bool (!(thereB I.L x y))))] [(1, some ⟨31, 7, (imC I)⟩)] [1] (sE rfl (sE rfl (sE rfl (sE rfl sE0)))) (sH rfl sH0) (by kernel_rfl)) ?_
    refine aw_cond (!(thereB I.L x y)) rfl (fun hb2 => ?_) (fun hb2 => ?_)
    ·
      rw [thereB_yes I.L x y x0 x1 y0 y1] at hb2
      cases hb2
    ·
      refine aw_skip ?_
      change AW _ _ _ _ _ _
      refine aw_weak (weak_of [(1, .d (.int .i64 x)), (2, .d (.int .i64 y)), (3, .ptr 1 0)] [(1, some ⟨31, 7, (imC I)⟩)] [1] (sE rfl (sE rfl (sE rfl sE0))) (sH rfl sH0) (by kernel_rfl)) ?_
      refine aw_seq ?_
      refine aw_region_seq [⟨.d (.sl 0 0 []), [], [], []⟩] (by kernel_rfl) (by kernel_rfl) (fun id _ => hG id) ?_ ?_
      · exact okY rfl (LT_assign rfl rfl) <| okE
      change AW _ _ _ _ _ _
      refine aw_weak (weak_of [(1, .d (.int .i64 x)), (2, .d (.int .i64 y)), (3, .ptr 1 0), (8, .d (.sl 0 0 []))] [(1, some ⟨31, 7, (imC I)⟩)] [1] (sE rfl (sE rfl (sE rfl (sE rfl sE0)))) (sH rfl sH0) (by kernel_rfl)) ?_
      refine aw_seq ?_
      refine aw_seq ?_
      refine aw_weak (weak_nil 8 2 1 3 hG rfl (by kernel_rfl)) ?_
      refine aw_region_seq [⟨.d (.int .i64 0), [], [], []⟩] (by kernel_rfl) (by kernel_rfl) (fun id _ => hG id) ?_ ?_
      · exact okY rfl (LT_assign rfl rfl) <| okE
      change AW _ _ _ _ _ _
      refine aw_weak (weak_of [(1, .d (.int .i64 x)), (2, .d (.int .i64 y)), (3, .ptr 1 0), (8, .own 2 0 1), (9, .d (.int .i64 0))] [(1, some ⟨31, 7, (imC I)⟩), (2, some ⟨3, 1, []⟩)] [1, 2] (sE rfl (sE rfl (sE rfl (sE rfl (sE rfl sE0))))) (sH rfl (sH rfl sH0)) (by kernel_rfl)) ?_
      refine aw_block ?_
      refine aw_loopJ (fun c => ⟨[(1, .d (.int .i64 x)), (2, .d (.int .i64 y)), (3, .ptr 1 0), (8, .own 2 c 1), (9, .d (.int .i64 ((c : Nat) : Int)))], [(1, some ⟨31, 7, (imC I)⟩), (2, some ⟨3, 1, (intsD ((List.range c).map fun c => I.L.fn I.O x y (c : Nat))).map X.d⟩)], [1, 2]⟩) (fun c => ((c : Nat) : Int) ≤ I.L.C) (fun c => I.L.C.toNat - c) 0 (by omega) ?_ ?_
      · exact weak_of _ _ _ (sE rfl (sE rfl (sE rfl (sE rfl (sE rfl sE0))))) (sH rfl (sH rfl sH0)) (by simp only [Heap.ids, idsL_d, List.nil_append]; kernel_rfl)
      intro c hc0
      refine aw_seq ?_
      refine aw_seq ?_
      refine aw_region_seq [⟨.d (.int .i64 ((c : Nat) : Int)), [], [], []⟩, ⟨.ptr 1 2, [], [], []⟩, ⟨.d (.int .i64 I.L.C), [], [], [1]⟩, ⟨.d (.bool (decide ((((c : Nat) : Int) : Int) < I.L.C))), [], [], []⟩] (by kernel_rfl) (by kernel_rfl) (fun id _ => hG id) ?_ ?_
      · exact okY rfl (LT_move rfl rfl) <| okY rfl (LT_fieldAddr rfl rfl Try.underlying31 rfl inf3 (by decide) _ rfl) <| okY rfl (LT_load 1 rfl rfl rfl (List.Mem.head _) Try.underlying3 inf3 (by simp [imC]) (.inr ⟨rfl, rfl, rfl⟩)) <| okY rfl (LT_cmp rfl rfl rfl rfl rfl) <| okE
      change AW _ _ _ _ _ _
      refine aw_weak (weak_of [(1, .d (.int .i64 x)), (2, .d (.int .i64 y)), (3, .ptr 1 0), (8, .own 2 c 1), (9, .d (.int .i64 ((c : Nat) : Int))), (21, .d (.bool (decide ((((c : Nat) : Int) : Int) < I.L.C))))] [(1, some ⟨31, 7, (imC I)⟩), (2, some ⟨3, 1, (intsD ((List.range c).map fun c => I.L.fn I.O x y (c : Nat))).map X.d⟩)] [1, 2] (sE rfl (sE rfl (sE rfl (sE rfl (sE rfl (sE rfl sE0)))))) (sH rfl (sH rfl sH0)) (by simp only [Heap.ids, idsL_d, List.nil_append]; kernel_rfl)) ?_
      refine aw_cond (decide ((((c : Nat) : Int) : Int) < I.L.C)) rfl (fun hb3 => ?_) (fun hb3 => ?_)
      ·
        replace hb3 := of_decide_eq_true hb3
        refine aw_skip ?_
        change AW _ _ _ _ _ _
        refine aw_weak (weak_of [(1, .d (.int .i64 x)), (2, .d (.int .i64 y)), (3, .ptr 1 0), (8, .own 2 c 1), (9, .d (.int .i64 ((c : Nat) : Int)))] [(1, some ⟨31, 7, (imC I)⟩), (2, some ⟨3, 1, (intsD ((List.range c).map fun c => I.L.fn I.O x y (c : Nat))).map X.d⟩)] [1, 2] (sE rfl (sE rfl (sE rfl (sE rfl (sE rfl sE0))))) (sH rfl (sH rfl sH0)) (by simp only [Heap.ids, idsL_d, List.nil_append]; kernel_rfl)) ?_
        refine aw_seq ?_
        refine aw_block ?_
        refine aw_region_seq [⟨.own 2 c 1, [], [], []⟩, ⟨.agg (imC I), [], [], [1]⟩, ⟨.d (.int .i64 x), [], [], []⟩, ⟨.d (.int .i64 y), [], [], []⟩, ⟨.d (.int .i64 ((c : Nat) : Int)), [], [], []⟩, ⟨.d (.int .i64 (I.L.fn I.O x y ((c : Nat) : Int))), [], [], []⟩, ⟨.d (.sl 1 1 ([(I.L.fn I.O x y ((c : Nat) : Int))].map (.int .i64))), [], [], []⟩, ⟨.own 3 (c + 1) 1, [(3, some ⟨3, 1, (intsD ((List.range (c + 1)).map fun c => I.L.fn I.O x y (c : Nat))).map X.d⟩), (2, none)], [3], [2]⟩, ⟨.own 3 (c + 1) 1, [], [], []⟩] (by kernel_rfl) (by kernel_rfl) (fun id _ => hG id) ?_ ?_
        · exact okY rfl (LT_move rfl rfl) <| okY rfl (LT_load 7 rfl rfl rfl (List.Mem.head _) Try.underlying31 inf31 (by simp [imC]) (.inl ⟨rfl, rfl, rfl⟩)) <| okY rfl (LT_move rfl rfl) <| okY rfl (LT_move rfl rfl) <| okY rfl (LT_move rfl rfl) <| okY rfl (LT_call [.agg (imC I), .d (.int .i64 x), .d (.int .i64 y), .d (.int .i64 ((c : Nat) : Int))] rfl rfl Try.call49 rfl ((pc_sample I x y _ hv ⟨⟨x0, x1⟩, ⟨y0, y1⟩, ⟨by omega, by omega⟩⟩).ct rfl)) <| okY rfl (LT_buildSliceD [.d (.int .i64 (I.L.fn I.O x y ((c : Nat) : Int)))] ([(I.L.fn I.O x y ((c : Nat) : Int))].map (.int .i64)) rfl Try.underlying44 inf3 rfl rfl 1 rfl (by decide) (by decide) rfl rfl (by decide) rfl (by kernel_rfl) rfl) <| okY rfl (LT_append 3 rfl Try.underlying44 inf3 rfl rfl rfl (by decide) rfl rfl rfl (List.Mem.head _) (List.Mem.head _) rfl rfl (by show _ = c * 1; simp [intsD]) (by omega) (by omega) (by show (_ + _) * 8 ≤ _; omega) ((intsD ((List.range (c + 1)).map fun c => I.L.fn I.O x y (c : Nat))).map X.d) (got_snoc I x y c) (c + 1) rfl) <| okY rfl (LT_assign rfl rfl) <| okE
        change AW _ _ _ _ _ _
        refine aw_weak (weak_of [(1, .d (.int .i64 x)), (2, .d (.int .i64 y)), (3, .ptr 1 0), (9, .d (.int .i64 ((c : Nat) : Int))), (8, .own 3 (c + 1) 1)] [(1, some ⟨31, 7, (imC I)⟩), (3, some ⟨3, 1, (intsD ((List.range (c + 1)).map fun c => I.L.fn I.O x y (c : Nat))).map X.d⟩)] [1, 3] (sE rfl (sE rfl (sE rfl (sE rfl (sE rfl sE0))))) (sH rfl (sH rfl sH0)) (by simp only [Heap.ids, idsL_d, List.nil_append]; kernel_rfl)) ?_
        refine aw_region_seq [⟨.d (.int .i64 ((c : Nat) : Int)), [], [], []⟩, ⟨.d (.int .i64 (((c : Nat) : Int) + 1)), [], [], []⟩, ⟨.d (.int .i64 (((c : Nat) : Int) + 1)), [], [], []⟩] (by kernel_rfl) (by kernel_rfl) (fun id _ => hG id) ?_ ?_
        · exact okY rfl (LT_move rfl rfl) <| okY rfl (LT_add rfl rfl rfl (wi64 (by omega) (by omega))) <| okY rfl (LT_assign rfl rfl) <| okE
        refine ⟨(c + 1), by omega, by omega, (weak_ren hG 8 3 2 (c + 1) 1 ⟨3, 1, (intsD ((List.range (c + 1)).map fun c => I.L.fn I.O x y (c : Nat))).map X.d⟩ (by decide) rfl rfl (all_d _) [(1, .d (.int .i64 x)), (2, .d (.int .i64 y)), (3, .ptr 1 0), (9, .d (.int .i64 (((c : Nat) : Int) + 1)))] [(1, some ⟨31, 7, (imC I)⟩)] [1, 2] (sE rfl (sE rfl (sE rfl (sE rfl sE0)))) (sH rfl sH0) (by kernel_rfl) (by kernel_rfl)).trans ?_⟩
        exact weak_of _ _ _ (sE rfl (sE rfl (sE rfl (sE rfl (sE rfl sE0))))) (sH rfl (sH rfl sH0)) (by simp only [Heap.ids, idsL_d, List.nil_append]; kernel_rfl)
      ·
        replace hb3 := of_decide_eq_false hb3
        refine aw_exit ?_
        change AW _ _ _ _ _ _
        refine aw_weak (weak_of [(8, .own 2 c 1)] [(2, some ⟨3, 1, (intsD ((List.range c).map fun c => I.L.fn I.O x y (c : Nat))).map X.d⟩)] [2] (sE rfl sE0) (sH rfl sH0) (by simp only [Heap.ids, idsL_d, List.nil_append]; kernel_rfl)) ?_
        refine aw_seq ?_
        have hce : c = I.L.C.toNat := by omega
        refine aw_region_seq [⟨.own 2 c 1, [], [], []⟩, ⟨.own 2 c 1, [], [], []⟩, ⟨.d (.int .i64 0), [], [], []⟩] (by kernel_rfl) (by kernel_rfl) (fun id _ => hG id) ?_ ?_
        · exact okY rfl (LT_move rfl rfl) <| okY rfl (LT_assign rfl rfl) <| okY rfl (LT_assign rfl rfl) <| okE
        change AW _ _ _ _ _ _
        refine aw_weak (weak_of [(6, .own 2 c 1), (7, .d (.int .i64 0))] [(2, some ⟨3, 1, (intsD ((List.range c).map fun c => I.L.fn I.O x y (c : Nat))).map X.d⟩)] [2] (sE rfl (sE rfl sE0)) (sH rfl sH0) (by simp only [Heap.ids, idsL_d, List.nil_append]; kernel_rfl)) ?_
        refine aw_ret ?_
        refine ⟨2, ?_, _, rfl, rfl, rfl, (by rw [hce])⟩
        refine finN (xs := [.own 2 c 1, .d (.int .i64 0)]) (l := [.tmp 6, .tmp 7]) (.inl rfl) Try.results20 (rL rfl (rL rfl (rL0))) (by simp [imC]) ?_
        exact by rw [hce]

set_option maxRecDepth 100000 in
set_option maxHeartbeats 2000000 in
theorem pc_rbits (v f t : Int) (hf : f = 8 ∨ f = 16) (ht : t = 8 ∨ t = 16) (v0 : 0 ≤ v) (v1 : v < 65536) : PC Try.prog 59 [.d (.int .i64 v), .d (.int .i64 f), .d (.int .i64 t)] (.d (.int .i64 (chgT f t v))) := by
  refine PC_of (fn := Try.f59) Try.func59 rfl (by simp [Try.ntmps59]) (by kernel_rfl) fun G hG => ?_
  rw [Try.ntmps59]
  refine aw_seq ?_
  refine aw_region_seq [⟨.d (.int .i64 0), [], [], []⟩] (by kernel_rfl) (by kernel_rfl) (fun id _ => hG id) ?_ ?_
  · exact okY rfl (LT_assign rfl rfl) <| okE
  change AW _ _ _ _ _ _
  refine aw_weak (weak_of [(0, .d (.int .i64 v)), (1, .d (.int .i64 f)), (2, .d (.int .i64 t))] [] [] (sE rfl (sE rfl (sE rfl sE0))) sH0 (by kernel_rfl)) ?_
  refine aw_seq ?_
  refine aw_seq ?_
  refine aw_region_seq [⟨.d (.int .i64 f), [], [], []⟩, ⟨.d (.bool ((f : Int) == 8)), [], [], []⟩, ⟨.d (.bool ((f : Int) == 8)), [], [], []⟩, ⟨.opt (((f : Int) == 8) == true) (.d (.int .i64 t)), [], [], []⟩, ⟨.opt (((f : Int) == 8) == true) (.d (.bool ((t : Int) == 16))), [], [], []⟩, ⟨.d (.bool (((f : Int) == 8) && ((t : Int) == 16))), [], [], []⟩] (by kernel_rfl) (by kernel_rfl) (fun id _ => hG id) ?_ ?_
  · exact okY rfl (LT_move rfl rfl) <| okY rfl (LT_cmp rfl rfl rfl rfl rfl) <| okY rfl (LT_move rfl rfl) <| okG (((f : Int) == 8) == true) rfl (fun hg => (LT_move rfl rfl)) <| okG (((f : Int) == 8) == true) rfl (fun hg => (LT_cmp rfl rfl (opnT rfl hg) rfl rfl)) <| okY rfl (LT_pand rfl rfl rfl (fun h => by rw [h]; rfl)) <| okE
  change AW _ _ _ _ _ _
  refine aw_weak (weak_of [(0, .d (.int .i64 v)), (1, .d (.int .i64 f)), (2, .d (.int .i64 t)), (12, .d (.bool (((f : Int) == 8) && ((t : Int) == 16))))] [] [] (sE rfl (sE rfl (sE rfl (sE rfl sE0)))) sH0 (by kernel_rfl)) ?_
  refine aw_cond (((f : Int) == 8) && ((t : Int) == 16)) rfl (fun hb1 => ?_) (fun hb1 => ?_)
  ·
    refine aw_seq ?_
    refine aw_region_seq [⟨.d (.int .i64 v), [], [], []⟩, ⟨.d (.int .i64 (257 * v)), [], [], []⟩, ⟨.d (.int .i64 (257 * v)), [], [], []⟩] (by kernel_rfl) (by kernel_rfl) (fun id _ => hG id) ?_ ?_
    · exact okY rfl (LT_move rfl rfl) <| okY rfl (LT_mul rfl rfl rfl (wi64 (by omega) (by omega))) <| okY rfl (LT_assign rfl rfl) <| okE
    change AW _ _ _ _ _ _
    refine aw_weak (weak_of [(6, .d (.int .i64 (257 * v)))] [] [] (sE rfl sE0) sH0 (by kernel_rfl)) ?_
    refine aw_ret ?_
    refine fin1 (x := .d (.int .i64 (257 * v))) (.inl rfl) Try.results59 rfl ?_
    exact bits_f1 hf ht hb1
  ·
    refine aw_skip ?_
    change AW _ _ _ _ _ _
    refine aw_weak (weak_of [(0, .d (.int .i64 v)), (1, .d (.int .i64 f)), (2, .d (.int .i64 t))] [] [] (sE rfl (sE rfl (sE rfl sE0))) sH0 (by kernel_rfl)) ?_
    refine aw_seq ?_
    refine aw_seq ?_
    refine aw_region_seq [⟨.d (.int .i64 f), [], [], []⟩, ⟨.d (.bool ((f : Int) == 16)), [], [], []⟩, ⟨.d (.bool ((f : Int) == 16)), [], [], []⟩, ⟨.opt (((f : Int) == 16) == true) (.d (.int .i64 t)), [], [], []⟩, ⟨.opt (((f : Int) == 16) == true) (.d (.bool ((t : Int) == 8))), [], [], []⟩, ⟨.d (.bool (((f : Int) == 16) && ((t : Int) == 8))), [], [], []⟩] (by kernel_rfl) (by kernel_rfl) (fun id _ => hG id) ?_ ?_
    · exact okY rfl (LT_move rfl rfl) <| okY rfl (LT_cmp rfl rfl rfl rfl rfl) <| okY rfl (LT_move rfl rfl) <| okG (((f : Int) == 16) == true) rfl (fun hg => (LT_move rfl rfl)) <| okG (((f : Int) == 16) == true) rfl (fun hg => (LT_cmp rfl rfl (opnT rfl hg) rfl rfl)) <| okY rfl (LT_pand rfl rfl rfl (fun h => by rw [h]; rfl)) <| okE
    change AW _ _ _ _ _ _
    refine aw_weak (weak_of [(0, .d (.int .i64 v)), (20, .d (.bool (((f : Int) == 16) && ((t : Int) == 8))))] [] [] (sE rfl (sE rfl sE0)) sH0 (by kernel_rfl)) ?_
    refine aw_cond (((f : Int) == 16) && ((t : Int) == 8)) rfl (fun hb2 => ?_) (fun hb2 => ?_)
    ·
      refine aw_seq ?_
      refine aw_region_seq [⟨.d (.int .i64 v), [], [], []⟩, ⟨.d (.int .i64 (v + 128)), [], [], []⟩, ⟨.d (.int .i64 ((v + 128) / 257)), [], [], []⟩, ⟨.d (.int .i64 ((v + 128) / 257)), [], [], []⟩] (by kernel_rfl) (by kernel_rfl) (fun id _ => hG id) ?_ ?_
      · exact okY rfl (LT_move rfl rfl) <| okY rfl (LT_add rfl rfl rfl (wi64 (by omega) (by omega))) <| okY rfl (LT_quo rfl rfl rfl (by omega) (IntWalk.i64_quo _ _ (by omega))) <| okY rfl (LT_assign rfl rfl) <| okE
      change AW _ _ _ _ _ _
      refine aw_weak (weak_of [(6, .d (.int .i64 ((v + 128) / 257)))] [] [] (sE rfl sE0) sH0 (by kernel_rfl)) ?_
      refine aw_ret ?_
      refine fin1 (x := .d (.int .i64 ((v + 128) / 257))) (.inl rfl) Try.results59 rfl ?_
      exact bits_f2 hf ht hb2
    ·
      refine aw_skip ?_
      change AW _ _ _ _ _ _
      refine aw_weak (weak_of [(0, .d (.int .i64 v))] [] [] (sE rfl sE0) sH0 (by kernel_rfl)) ?_
      refine aw_seq ?_
      refine aw_region_seq [⟨.d (.int .i64 v), [], [], []⟩, ⟨.d (.int .i64 v), [], [], []⟩] (by kernel_rfl) (by kernel_rfl) (fun id _ => hG id) ?_ ?_
      · exact okY rfl (LT_move rfl rfl) <| okY rfl (LT_assign rfl rfl) <| okE
      change AW _ _ _ _ _ _
      refine aw_weak (weak_of [(6, .d (.int .i64 v))] [] [] (sE rfl sE0) sH0 (by kernel_rfl)) ?_
      refine aw_ret ?_
      refine fin1 (x := .d (.int .i64 v)) (.inl rfl) Try.results59 rfl ?_
      exact bits_f3 hf ht hb1 hb2

set_option maxRecDepth 100000 in
set_option maxHeartbeats 2000000 in
theorem pc_rshape (I : Im) (bits : Int) (pl : Bool) (pad : Int) : PC Try.prog 27 [.agg (imC I), .d (.int .i64 bits), .d (.bool pl), .d (.int .i64 pad)] (.tup [imX (shpR I bits pl pad).1, iX (shpR I bits pl pad).2]) := by
  refine PC_of (fn := Try.f27) Try.func27 rfl (by simp [Try.ntmps27]) (by kernel_rfl) fun G hG => ?_
  rw [Try.ntmps27]
  refine aw_seq ?_
  refine aw_region_seq [⟨.ptr 1 0, [(1, some ⟨31, 7, (imC I)⟩)], [1], []⟩, ⟨.ptr 2 0, [(2, some ⟨31, 7, [.d (.int .i64 0), .d (.int .i64 0), .d (.int .i64 0), .d (.int .i64 0), .d (.bool false), .d (.int .i64 0), .d (.str (⟨#[]⟩))]⟩)], [2], []⟩, ⟨.d (.int .i64 0), [], [], []⟩] (by kernel_rfl) (by kernel_rfl) (fun id _ => hG id) ?_ ?_
  · exact okY rfl (LT_box (x := .agg (imC I)) 1 rfl rfl rfl 7 rfl (List.Mem.head _)) <| okY rfl (LT_alloc 2 rfl inf31 rfl 7 rfl (List.Mem.head _)) <| okY rfl (LT_assign rfl rfl) <| okE
  change AW _ _ _ _ _ _
  refine aw_weak (weak_of [(1, .d (.int .i64 bits)), (2, .d (.bool pl)), (3, .d (.int .i64 pad)), (4, .ptr 1 0), (8, .ptr 2 0)] [(1, some ⟨31, 7, (imC I)⟩), (2, some ⟨31, 7, [.d (.int .i64 0), .d (.int .i64 0), .d (.int .i64 0), .d (.int .i64 0), .d (.bool false), .d (.int .i64 0), .d (.str (⟨#[]⟩))]⟩)] [1, 2] (sE rfl (sE rfl (sE rfl (sE rfl (sE rfl sE0))))) (sH rfl (sH rfl sH0)) (by kernel_rfl)) ?_
  refine aw_seq ?_
  refine aw_seq ?_
  refine aw_region_seq [⟨.agg (imC I), [], [], [1]⟩, ⟨.d (.bool I.vB), [], [], []⟩, ⟨.d (.bool (!I.vB)), [], [], []⟩] (by kernel_rfl) (by kernel_rfl) (fun id _ => hG id) ?_ ?_
  · exact okY rfl (LT_load 7 rfl rfl rfl (List.Mem.head _) Try.underlying31 inf31 (by simp [imC]) (.inl ⟨rfl, rfl, rfl⟩)) <| okY rfl (LT_call [.agg (imC I)] rfl rfl Try.call39 rfl ((pc_right I).ct rfl)) <| okY rfl (LT_not rfl rfl rfl) <| okE
  change AW _ _ _ _ _ _
  refine aw_weak (weak_of [(1, .d (.int .i64 bits)), (2, .d (.bool pl)), (3, .d (.int .i64 pad)), (4, .ptr 1 0), (8, .ptr 2 0), (19, .d (.bool (!I.vB)))] [(1, some ⟨31, 7, (imC I)⟩), (2, some ⟨31, 7, [.d (.int .i64 0), .d (.int .i64 0), .d (.int .i64 0), .d (.int .i64 0), .d (.bool false), .d (.int .i64 0), .d (.str (⟨#[]⟩))]⟩)] [1, 2] (sE rfl (sE rfl (sE rfl (sE rfl (sE rfl (sE rfl sE0)))))) (sH rfl (sH rfl sH0)) (by kernel_rfl)) ?_
  refine aw_cond (!I.vB) rfl (fun hb1 => ?_) (fun hb1 => ?_)
  ·
    refine aw_seq ?_
    refine aw_region_seq [⟨.agg [.d (.int .i64 0), .d (.int .i64 0), .d (.int .i64 0), .d (.int .i64 0), .d (.bool false), .d (.int .i64 0), .d (.str (⟨#[]⟩))], [], [], []⟩, ⟨.tup [], [(2, some ⟨31, 7, [.d (.int .i64 0), .d (.int .i64 0), .d (.int .i64 0), .d (.int .i64 0), .d (.bool false), .d (.int .i64 0), .d (.str (⟨#[]⟩))]⟩)], [], [2]⟩, ⟨.d (.int .i64 420), [], [], []⟩] (by kernel_rfl) (by kernel_rfl) (fun id _ => hG id) ?_ ?_
    · exact okY rfl (LT_build (qs := []) (fun j => (#[(0, 1), (1, 1), (2, 1), (3, 1), (4, 1), (5, 1), (6, 1)] : Array (Nat × Nat))[j]?) rfl Try.underlying31 inf31 rfl rfl (.inl ⟨_, rfl, by kernel_rfl, by kernel_rfl⟩) rfl) <| okY rfl (LT_store (ob := ⟨31, 7, [.d (.int .i64 0), .d (.int .i64 0), .d (.int .i64 0), .d (.int .i64 0), .d (.bool false), .d (.int .i64 0), .d (.str (⟨#[]⟩))]⟩) (x := .agg [.d (.int .i64 0), .d (.int .i64 0), .d (.int .i64 0), .d (.int .i64 0), .d (.bool false), .d (.int .i64 0), .d (.str (⟨#[]⟩))]) rfl rfl rfl (List.Mem.head _) inf31 rfl rfl rfl (by simp [X.cells, imC]) _ rfl) <| okY rfl (LT_assign rfl rfl) <| okE
    change AW _ _ _ _ _ _
    refine aw_weak (weak_of [(8, .ptr 2 0), (9, .d (.int .i64 420))] [(2, some ⟨31, 7, [.d (.int .i64 0), .d (.int .i64 0), .d (.int .i64 0), .d (.int .i64 0), .d (.bool false), .d (.int .i64 0), .d (.str (⟨#[]⟩))]⟩)] [2] (sE rfl (sE rfl sE0)) (sH rfl sH0) (by kernel_rfl)) ?_
    refine aw_ret ?_
    refine finN (xs := [.agg [.d (.int .i64 0), .d (.int .i64 0), .d (.int .i64 0), .d (.int .i64 0), .d (.bool false), .d (.int .i64 0), .d (.str (⟨#[]⟩))], .d (.int .i64 420)]) (l := [.cell 8 31, .tmp 9]) (.inl rfl) Try.results27 (rL ⟨2, 0, _, _, _, 7, rfl, rfl, Try.underlying31, inf31, by simp [imC], .inl ⟨rfl, rfl, rfl⟩⟩ (rL rfl (rL0))) (by simp [imC]) ?_
    rw [shp_f1 hb1]
    rfl
  ·
    have hv : I.vB = true := by simpa using hb1
    have hs := (vB_yes hv).1
    have hs1 := hs.w1
    have hs2 := hs.w2
    have hs3 := hs.h1
    have hs4 := hs.h2
    have hs5 := hs.c1
    have hs6 := hs.c2
    have hsb := hs.b
    refine aw_skip ?_
    change AW _ _ _ _ _ _
    refine aw_weak (weak_of [(1, .d (.int .i64 bits)), (2, .d (.bool pl)), (3, .d (.int .i64 pad)), (4, .ptr 1 0), (8, .ptr 2 0)] [(1, some ⟨31, 7, (imC I)⟩), (2, some ⟨31, 7, [.d (.int .i64 0), .d (.int .i64 0), .d (.int .i64 0), .d (.int .i64 0), .d (.bool false), .d (.int .i64 0), .d (.str (⟨#[]⟩))]⟩)] [1, 2] (sE rfl (sE rfl (sE rfl (sE rfl (sE rfl sE0))))) (sH rfl (sH rfl sH0)) (by kernel_rfl)) ?_
    refine aw_seq ?_
    refine aw_region_seq [⟨.ptr 1 0, [], [], []⟩, ⟨.d (.int .i64 I.L.W), [], [], [1]⟩, ⟨.ptr 1 1, [], [], []⟩, ⟨.d (.int .i64 I.L.H), [], [], [1]⟩, ⟨.ptr 1 2, [], [], []⟩, ⟨.d (.int .i64 I.L.C), [], [], [1]⟩, ⟨.d (.int .i64 bits), [], [], []⟩, ⟨.d (.bool pl), [], [], []⟩, ⟨.d (.int .i64 pad), [], [], []⟩, ⟨.tup [.agg (imC (makR ⟨I.L.W, I.L.H, I.L.C, bits, pl, pad⟩).1), .d (.int .i64 ((makR ⟨I.L.W, I.L.H, I.L.C, bits, pl, pad⟩).2))], [], [], []⟩, ⟨.tup [.agg (imC (makR ⟨I.L.W, I.L.H, I.L.C, bits, pl, pad⟩).1), .d (.int .i64 ((makR ⟨I.L.W, I.L.H, I.L.C, bits, pl, pad⟩).2))], [], [], []⟩, ⟨.agg (imC (makR ⟨I.L.W, I.L.H, I.L.C, bits, pl, pad⟩).1), [], [], []⟩, ⟨.d (.int .i64 ((makR ⟨I.L.W, I.L.H, I.L.C, bits, pl, pad⟩).2)), [], [], []⟩, ⟨.ptr 3 0, [(3, some ⟨31, 7, [.d (.int .i64 0), .d (.int .i64 0), .d (.int .i64 0), .d (.int .i64 0), .d (.bool false), .d (.int .i64 0), .d (.str (⟨#[]⟩))]⟩)], [3], []⟩, ⟨.tup [], [(3, some ⟨31, 7, (imC (makR ⟨I.L.W, I.L.H, I.L.C, bits, pl, pad⟩).1)⟩)], [], [3]⟩, ⟨.d (.int .i64 ((makR ⟨I.L.W, I.L.H, I.L.C, bits, pl, pad⟩).2)), [], [], []⟩] (by kernel_rfl) (by kernel_rfl) (fun id _ => hG id) ?_ ?_
    · exact okY rfl (LT_fieldAddr rfl rfl Try.underlying31 rfl inf3 (by decide) _ rfl) <| okY rfl (LT_load 1 rfl rfl rfl (List.Mem.head _) Try.underlying3 inf3 (by simp [imC]) (.inr ⟨rfl, rfl, rfl⟩)) <| okY rfl (LT_fieldAddr rfl rfl Try.underlying31 rfl inf3 (by decide) _ rfl) <| okY rfl (LT_load 1 rfl rfl rfl (List.Mem.head _) Try.underlying3 inf3 (by simp [imC]) (.inr ⟨rfl, rfl, rfl⟩)) <| okY rfl (LT_fieldAddr rfl rfl Try.underlying31 rfl inf3 (by decide) _ rfl) <| okY rfl (LT_load 1 rfl rfl rfl (List.Mem.head _) Try.underlying3 inf3 (by simp [imC]) (.inr ⟨rfl, rfl, rfl⟩)) <| okY rfl (LT_move rfl rfl) <| okY rfl (LT_move rfl rfl) <| okY rfl (LT_move rfl rfl) <| okY rfl (LT_call [.d (.int .i64 I.L.W), .d (.int .i64 I.L.H), .d (.int .i64 I.L.C), .d (.int .i64 bits), .d (.bool pl), .d (.int .i64 pad)] rfl rfl Try.call18 rfl ((pc_rmake I.L.W I.L.H I.L.C bits pl pad).ct rfl)) <| okY rfl (LT_move rfl rfl) <| okY rfl (LT_extract rfl rfl rfl) <| okY rfl (LT_extract rfl rfl rfl) <| okY rfl (LT_alloc 3 rfl inf31 rfl 7 rfl (List.Mem.head _)) <| okY rfl (LT_store (ob := ⟨31, 7, [.d (.int .i64 0), .d (.int .i64 0), .d (.int .i64 0), .d (.int .i64 0), .d (.bool false), .d (.int .i64 0), .d (.str (⟨#[]⟩))]⟩) (x := .agg (imC (makR ⟨I.L.W, I.L.H, I.L.C, bits, pl, pad⟩).1)) rfl rfl rfl (List.Mem.head _) inf31 rfl rfl rfl (by simp [X.cells, imC]) _ rfl) <| okY rfl (LT_assign rfl rfl) <| okE
    change AW _ _ _ _ _ _
    refine aw_weak (weak_of [(1, .d (.int .i64 bits)), (4, .ptr 1 0), (8, .ptr 2 0), (10, .ptr 3 0), (11, .d (.int .i64 ((makR ⟨I.L.W, I.L.H, I.L.C, bits, pl, pad⟩).2)))] [(1, some ⟨31, 7, (imC I)⟩), (2, some ⟨31, 7, [.d (.int .i64 0), .d (.int .i64 0), .d (.int .i64 0), .d (.int .i64 0), .d (.bool false), .d (.int .i64 0), .d (.str (⟨#[]⟩))]⟩), (3, some ⟨31, 7, (imC (makR ⟨I.L.W, I.L.H, I.L.C, bits, pl, pad⟩).1)⟩)] [1, 2, 3] (sE rfl (sE rfl (sE rfl (sE rfl (sE rfl sE0))))) (sH rfl (sH rfl (sH rfl sH0))) (by kernel_rfl)) ?_
    refine aw_seq ?_
    refine aw_seq ?_
    refine aw_region_seq [⟨.d (.int .i64 ((makR ⟨I.L.W, I.L.H, I.L.C, bits, pl, pad⟩).2)), [], [], []⟩, ⟨.d (.bool (((makR ⟨I.L.W, I.L.H, I.L.C, bits, pl, pad⟩).2 : Int) != 0)), [], [], []⟩] (by kernel_rfl) (by kernel_rfl) (fun id _ => hG id) ?_ ?_
    · exact okY rfl (LT_move rfl rfl) <| okY rfl (LT_cmp rfl rfl rfl rfl rfl) <| okE
    change AW _ _ _ _ _ _
    refine aw_weak (weak_of [(1, .d (.int .i64 bits)), (4, .ptr 1 0), (8, .ptr 2 0), (10, .ptr 3 0), (35, .d (.bool (((makR ⟨I.L.W, I.L.H, I.L.C, bits, pl, pad⟩).2 : Int) != 0)))] [(1, some ⟨31, 7, (imC I)⟩), (2, some ⟨31, 7, [.d (.int .i64 0), .d (.int .i64 0), .d (.int .i64 0), .d (.int .i64 0), .d (.bool false), .d (.int .i64 0), .d (.str (⟨#[]⟩))]⟩), (3, some ⟨31, 7, (imC (makR ⟨I.L.W, I.L.H, I.L.C, bits, pl, pad⟩).1)⟩)] [1, 2, 3] (sE rfl (sE rfl (sE rfl (sE rfl (sE rfl sE0))))) (sH rfl (sH rfl (sH rfl sH0))) (by kernel_rfl)) ?_
    refine aw_cond (((makR ⟨I.L.W, I.L.H, I.L.C, bits, pl, pad⟩).2 : Int) != 0) rfl (fun hb2 => ?_) (fun hb2 => ?_)
    ·
      refine aw_seq ?_
      refine aw_region_seq [⟨.agg [.d (.int .i64 0), .d (.int .i64 0), .d (.int .i64 0), .d (.int .i64 0), .d (.bool false), .d (.int .i64 0), .d (.str (⟨#[]⟩))], [], [], []⟩, ⟨.tup [], [(2, some ⟨31, 7, [.d (.int .i64 0), .d (.int .i64 0), .d (.int .i64 0), .d (.int .i64 0), .d (.bool false), .d (.int .i64 0), .d (.str (⟨#[]⟩))]⟩)], [], [2]⟩, ⟨.d (.int .i64 2), [], [], []⟩] (by kernel_rfl) (by kernel_rfl) (fun id _ => hG id) ?_ ?_
      · exact okY rfl (LT_build (qs := []) (fun j => (#[(0, 1), (1, 1), (2, 1), (3, 1), (4, 1), (5, 1), (6, 1)] : Array (Nat × Nat))[j]?) rfl Try.underlying31 inf31 rfl rfl (.inl ⟨_, rfl, by kernel_rfl, by kernel_rfl⟩) rfl) <| okY rfl (LT_store (ob := ⟨31, 7, [.d (.int .i64 0), .d (.int .i64 0), .d (.int .i64 0), .d (.int .i64 0), .d (.bool false), .d (.int .i64 0), .d (.str (⟨#[]⟩))]⟩) (x := .agg [.d (.int .i64 0), .d (.int .i64 0), .d (.int .i64 0), .d (.int .i64 0), .d (.bool false), .d (.int .i64 0), .d (.str (⟨#[]⟩))]) rfl rfl rfl (List.Mem.head _) inf31 rfl rfl rfl (by simp [X.cells, imC]) _ rfl) <| okY rfl (LT_assign rfl rfl) <| okE
      change AW _ _ _ _ _ _
      refine aw_weak (weak_of [(8, .ptr 2 0), (9, .d (.int .i64 2))] [(2, some ⟨31, 7, [.d (.int .i64 0), .d (.int .i64 0), .d (.int .i64 0), .d (.int .i64 0), .d (.bool false), .d (.int .i64 0), .d (.str (⟨#[]⟩))]⟩)] [2] (sE rfl (sE rfl sE0)) (sH rfl sH0) (by kernel_rfl)) ?_
      refine aw_ret ?_
      refine finN (xs := [.agg [.d (.int .i64 0), .d (.int .i64 0), .d (.int .i64 0), .d (.int .i64 0), .d (.bool false), .d (.int .i64 0), .d (.str (⟨#[]⟩))], .d (.int .i64 2)]) (l := [.cell 8 31, .tmp 9]) (.inl rfl) Try.results27 (rL ⟨2, 0, _, _, _, 7, rfl, rfl, Try.underlying31, inf31, by simp [imC], .inl ⟨rfl, rfl, rfl⟩⟩ (rL rfl (rL0))) (by simp [imC]) ?_
      rw [shp_f2 hv hb2]
      rfl
    ·
      have hm := shp_mk hb2
      refine aw_skip ?_
      change AW _ _ _ _ _ _
      refine aw_weak (weak_of [(1, .d (.int .i64 bits)), (4, .ptr 1 0), (8, .ptr 2 0), (10, .ptr 3 0)] [(1, some ⟨31, 7, (imC I)⟩), (2, some ⟨31, 7, [.d (.int .i64 0), .d (.int .i64 0), .d (.int .i64 0), .d (.int .i64 0), .d (.bool false), .d (.int .i64 0), .d (.str (⟨#[]⟩))]⟩), (3, some ⟨31, 7, (imC (makR ⟨I.L.W, I.L.H, I.L.C, bits, pl, pad⟩).1)⟩)] [1, 2, 3] (sE rfl (sE rfl (sE rfl (sE rfl sE0)))) (sH rfl (sH rfl (sH rfl sH0))) (by kernel_rfl)) ?_
      refine aw_seq ?_
      refine aw_seq ?_
      refine aw_region_seq [⟨.d (.int .i64 0), [], [], []⟩] (by kernel_rfl) (by kernel_rfl) (fun id _ => hG id) ?_ ?_
      · exact okY rfl (LT_assign rfl rfl) <| okE
      change AW _ _ _ _ _ _
      refine aw_weak (weak_of [(1, .d (.int .i64 bits)), (4, .ptr 1 0), (8, .ptr 2 0), (10, .ptr 3 0), (12, .d (.int .i64 0))] [(1, some ⟨31, 7, (imC I)⟩), (2, some ⟨31, 7, [.d (.int .i64 0), .d (.int .i64 0), .d (.int .i64 0), .d (.int .i64 0), .d (.bool false), .d (.int .i64 0), .d (.str (⟨#[]⟩))]⟩), (3, some ⟨31, 7, (imC (makR ⟨I.L.W, I.L.H, I.L.C, bits, pl, pad⟩).1)⟩)] [1, 2, 3] (sE rfl (sE rfl (sE rfl (sE rfl (sE rfl sE0))))) (sH rfl (sH rfl (sH rfl sH0))) (by kernel_rfl)) ?_
      refine aw_block ?_
      refine aw_loopJ (fun j => ⟨[(1, .d (.int .i64 bits)), (4, .ptr 1 0), (8, .ptr 2 0), (10, .ptr 3 0), (12, .d (.int .i64 ((j : Nat) : Int)))], [(1, some ⟨31, 7, (imC I)⟩), (2, some ⟨31, 7, [.d (.int .i64 0), .d (.int .i64 0), .d (.int .i64 0), .d (.int .i64 0), .d (.bool false), .d (.int .i64 0), .d (.str (⟨#[]⟩))]⟩), (3, some ⟨31, 7, (imC (imF (I.L.lay bits pl pad) (rowF (shqF I bits) (fun _ _ _ => 0) 0 0 0 0 I.L.W j 0)))⟩)], [1, 2, 3]⟩) (fun j => ((j : Nat) : Int) ≤ I.L.H) (fun j => I.L.H.toNat - j) 0 (by omega) ?_ ?_
      · exact weak_of _ _ _ (sE rfl (sE rfl (sE rfl (sE rfl (sE rfl sE0))))) (sH rfl (sH rfl (sH (congrArg (fun K => some (Ob.mk 31 7 (imC K))) (shp_make hm)) sH0))) (by kernel_rfl)
      intro j hj0
      refine aw_seq ?_
      refine aw_seq ?_
      refine aw_region_seq [⟨.d (.int .i64 ((j : Nat) : Int)), [], [], []⟩, ⟨.ptr 1 1, [], [], []⟩, ⟨.d (.int .i64 I.L.H), [], [], [1]⟩, ⟨.d (.bool (decide ((((j : Nat) : Int) : Int) < I.L.H))), [], [], []⟩] (by kernel_rfl) (by kernel_rfl) (fun id _ => hG id) ?_ ?_
      · exact okY rfl (LT_move rfl rfl) <| okY rfl (LT_fieldAddr rfl rfl Try.underlying31 rfl inf3 (by decide) _ rfl) <| okY rfl (LT_load 1 rfl rfl rfl (List.Mem.head _) Try.underlying3 inf3 (by simp [imC]) (.inr ⟨rfl, rfl, rfl⟩)) <| okY rfl (LT_cmp rfl rfl rfl rfl rfl) <| okE
      change AW _ _ _ _ _ _
      refine aw_weak (weak_of [(1, .d (.int .i64 bits)), (4, .ptr 1 0), (8, .ptr 2 0), (10, .ptr 3 0), (12, .d (.int .i64 ((j : Nat) : Int))), (40, .d (.bool (decide ((((j : Nat) : Int) : Int) < I.L.H))))] [(1, some ⟨31, 7, (imC I)⟩), (2, some ⟨31, 7, [.d (.int .i64 0), .d (.int .i64 0), .d (.int .i64 0), .d (.int .i64 0), .d (.bool false), .d (.int .i64 0), .d (.str (⟨#[]⟩))]⟩), (3, some ⟨31, 7, (imC (imF (I.L.lay bits pl pad) (rowF (shqF I bits) (fun _ _ _ => 0) 0 0 0 0 I.L.W j 0)))⟩)] [1, 2, 3] (sE rfl (sE rfl (sE rfl (sE rfl (sE rfl (sE rfl sE0)))))) (sH rfl (sH rfl (sH rfl sH0))) (by kernel_rfl)) ?_
      refine aw_cond (decide ((((j : Nat) : Int) : Int) < I.L.H)) rfl (fun hb3 => ?_) (fun hb3 => ?_)
      ·
        replace hb3 := of_decide_eq_true hb3
        refine aw_skip ?_
        change AW _ _ _ _ _ _
        refine aw_weak (weak_of [(1, .d (.int .i64 bits)), (4, .ptr 1 0), (8, .ptr 2 0), (10, .ptr 3 0), (12, .d (.int .i64 ((j : Nat) : Int)))] [(1, some ⟨31, 7, (imC I)⟩), (2, some ⟨31, 7, [.d (.int .i64 0), .d (.int .i64 0), .d (.int .i64 0), .d (.int .i64 0), .d (.bool false), .d (.int .i64 0), .d (.str (⟨#[]⟩))]⟩), (3, some ⟨31, 7, (imC (imF (I.L.lay bits pl pad) (rowF (shqF I bits) (fun _ _ _ => 0) 0 0 0 0 I.L.W j 0)))⟩)] [1, 2, 3] (sE rfl (sE rfl (sE rfl (sE rfl (sE rfl sE0))))) (sH rfl (sH rfl (sH rfl sH0))) (by kernel_rfl)) ?_
        refine aw_seq ?_
        refine aw_block ?_
        refine aw_seq ?_
        refine aw_region_seq [⟨.d (.int .i64 0), [], [], []⟩] (by kernel_rfl) (by kernel_rfl) (fun id _ => hG id) ?_ ?_
        · exact okY rfl (LT_assign rfl rfl) <| okE
        change AW _ _ _ _ _ _
        refine aw_weak (weak_of [(1, .d (.int .i64 bits)), (4, .ptr 1 0), (8, .ptr 2 0), (10, .ptr 3 0), (12, .d (.int .i64 ((j : Nat) : Int))), (13, .d (.int .i64 0))] [(1, some ⟨31, 7, (imC I)⟩), (2, some ⟨31, 7, [.d (.int .i64 0), .d (.int .i64 0), .d (.int .i64 0), .d (.int .i64 0), .d (.bool false), .d (.int .i64 0), .d (.str (⟨#[]⟩))]⟩), (3, some ⟨31, 7, (imC (imF (I.L.lay bits pl pad) (rowF (shqF I bits) (fun _ _ _ => 0) 0 0 0 0 I.L.W j 0)))⟩)] [1, 2, 3] (sE rfl (sE rfl (sE rfl (sE rfl (sE rfl (sE rfl sE0)))))) (sH rfl (sH rfl (sH rfl sH0))) (by kernel_rfl)) ?_
        refine aw_block ?_
        refine aw_loopJ (fun i => ⟨[(1, .d (.int .i64 bits)), (4, .ptr 1 0), (8, .ptr 2 0), (10, .ptr 3 0), (12, .d (.int .i64 ((j : Nat) : Int))), (13, .d (.int .i64 ((i : Nat) : Int)))], [(1, some ⟨31, 7, (imC I)⟩), (2, some ⟨31, 7, [.d (.int .i64 0), .d (.int .i64 0), .d (.int .i64 0), .d (.int .i64 0), .d (.bool false), .d (.int .i64 0), .d (.str (⟨#[]⟩))]⟩), (3, some ⟨31, 7, (imC (imF (I.L.lay bits pl pad) (rowF (shqF I bits) (fun _ _ _ => 0) 0 0 0 0 I.L.W j i)))⟩)], [1, 2, 3]⟩) (fun i => ((i : Nat) : Int) ≤ I.L.W) (fun i => I.L.W.toNat - i) 0 (by omega) ?_ ?_
        · exact weak_of _ _ _ (sE rfl (sE rfl (sE rfl (sE rfl (sE rfl (sE rfl sE0)))))) (sH rfl (sH rfl (sH rfl sH0))) (by kernel_rfl)
        intro i hi0
        refine aw_seq ?_
        refine aw_seq ?_
        refine aw_region_seq [⟨.d (.int .i64 ((i : Nat) : Int)), [], [], []⟩, ⟨.ptr 1 0, [], [], []⟩, ⟨.d (.int .i64 I.L.W), [], [], [1]⟩, ⟨.d (.bool (decide ((((i : Nat) : Int) : Int) < I.L.W))), [], [], []⟩] (by kernel_rfl) (by kernel_rfl) (fun id _ => hG id) ?_ ?_
        · exact okY rfl (LT_move rfl rfl) <| okY rfl (LT_fieldAddr rfl rfl Try.underlying31 rfl inf3 (by decide) _ rfl) <| okY rfl (LT_load 1 rfl rfl rfl (List.Mem.head _) Try.underlying3 inf3 (by simp [imC]) (.inr ⟨rfl, rfl, rfl⟩)) <| okY rfl (LT_cmp rfl rfl rfl rfl rfl) <| okE
        change AW _ _ _ _ _ _
        refine aw_weak (weak_of [(1, .d (.int .i64 bits)), (4, .ptr 1 0), (8, .ptr 2 0), (10, .ptr 3 0), (12, .d (.int .i64 ((j : Nat) : Int))), (13, .d (.int .i64 ((i : Nat) : Int))), (46, .d (.bool (decide ((((i : Nat) : Int) : Int) < I.L.W))))] [(1, some ⟨31, 7, (imC I)⟩), (2, some ⟨31, 7, [.d (.int .i64 0), .d (.int .i64 0), .d (.int .i64 0), .d (.int .i64 0), .d (.bool false), .d (.int .i64 0), .d (.str (⟨#[]⟩))]⟩), (3, some ⟨31, 7, (imC (imF (I.L.lay bits pl pad) (rowF (shqF I bits) (fun _ _ _ => 0) 0 0 0 0 I.L.W j i)))⟩)] [1, 2, 3] (sE rfl (sE rfl (sE rfl (sE rfl (sE rfl (sE rfl (sE rfl sE0))))))) (sH rfl (sH rfl (sH rfl sH0))) (by kernel_rfl)) ?_
        refine aw_cond (decide ((((i : Nat) : Int) : Int) < I.L.W)) rfl (fun hb4 => ?_) (fun hb4 => ?_)
        ·
          replace hb4 := of_decide_eq_true hb4
          refine aw_skip ?_
          change AW _ _ _ _ _ _
          refine aw_weak (weak_of [(1, .d (.int .i64 bits)), (4, .ptr 1 0), (8, .ptr 2 0), (10, .ptr 3 0), (12, .d (.int .i64 ((j : Nat) : Int))), (13, .d (.int .i64 ((i : Nat) : Int)))] [(1, some ⟨31, 7, (imC I)⟩), (2, some ⟨31, 7, [.d (.int .i64 0), .d (.int .i64 0), .d (.int .i64 0), .d (.int .i64 0), .d (.bool false), .d (.int .i64 0), .d (.str (⟨#[]⟩))]⟩), (3, some ⟨31, 7, (imC (imF (I.L.lay bits pl pad) (rowF (shqF I bits) (fun _ _ _ => 0) 0 0 0 0 I.L.W j i)))⟩)] [1, 2, 3] (sE rfl (sE rfl (sE rfl (sE rfl (sE rfl (sE rfl sE0)))))) (sH rfl (sH rfl (sH rfl sH0))) (by kernel_rfl)) ?_
          refine aw_seq ?_
          refine aw_block ?_
          refine aw_seq ?_
          refine aw_region_seq [⟨.agg (imC I), [], [], [1]⟩, ⟨.d (.int .i64 ((i : Nat) : Int)), [], [], []⟩, ⟨.d (.int .i64 ((j : Nat) : Int)), [], [], []⟩, ⟨.tup [.own 4 I.L.C.toNat 1, .d (.int .i64 0)], [(4, some ⟨3, 1, (intsD ((List.range I.L.C.toNat).map fun c => I.L.fn I.O ((i : Nat) : Int) ((j : Nat) : Int) (c : Nat))).map X.d⟩)], [4], []⟩, ⟨.tup [.own 4 I.L.C.toNat 1, .d (.int .i64 0)], [], [], []⟩, ⟨.own 4 I.L.C.toNat 1, [], [], []⟩, ⟨.d (.int .i64 0), [], [], []⟩, ⟨.own 4 I.L.C.toNat 1, [], [], []⟩, ⟨.d (.int .i64 0), [], [], []⟩] (by kernel_rfl) (by kernel_rfl) (fun id _ => hG id) ?_ ?_
          · exact okY rfl (LT_load 7 rfl rfl rfl (List.Mem.head _) Try.underlying31 inf31 (by simp [imC]) (.inl ⟨rfl, rfl, rfl⟩)) <| okY rfl (LT_move rfl rfl) <| okY rfl (LT_move rfl rfl) <| okY rfl (LT_call [.agg (imC I), .d (.int .i64 ((i : Nat) : Int)), .d (.int .i64 ((j : Nat) : Int))] rfl rfl Try.call20 rfl ((po_rget I ((i : Nat) : Int) ((j : Nat) : Int) hv (by omega) (by omega) (by omega) (by omega)).ct (oneN_tup _ _ _) rfl 4 (List.Mem.head _))) <| okY rfl (LT_move rfl rfl) <| okY rfl (LT_extract rfl rfl rfl) <| okY rfl (LT_extract rfl rfl rfl) <| okY rfl (LT_assign rfl rfl) <| okY rfl (LT_assign rfl rfl) <| okE
          change AW _ _ _ _ _ _
          refine aw_weak (weak_of [(1, .d (.int .i64 bits)), (4, .ptr 1 0), (8, .ptr 2 0), (10, .ptr 3 0), (12, .d (.int .i64 ((j : Nat) : Int))), (13, .d (.int .i64 ((i : Nat) : Int))), (14, .own 4 I.L.C.toNat 1)] [(1, some ⟨31, 7, (imC I)⟩), (2, some ⟨31, 7, [.d (.int .i64 0), .d (.int .i64 0), .d (.int .i64 0), .d (.int .i64 0), .d (.bool false), .d (.int .i64 0), .d (.str (⟨#[]⟩))]⟩), (3, some ⟨31, 7, (imC (imF (I.L.lay bits pl pad) (rowF (shqF I bits) (fun _ _ _ => 0) 0 0 0 0 I.L.W j i)))⟩), (4, some ⟨3, 1, (intsD ((List.range I.L.C.toNat).map fun c => I.L.fn I.O ((i : Nat) : Int) ((j : Nat) : Int) (c : Nat))).map X.d⟩)] [1, 2, 3, 4] (sE rfl (sE rfl (sE rfl (sE rfl (sE rfl (sE rfl (sE rfl sE0))))))) (sH rfl (sH rfl (sH rfl (sH rfl sH0)))) (by simp only [Heap.ids, idsL_d, List.nil_append]; kernel_rfl)) ?_
          refine aw_seq ?_
          refine aw_seq ?_
          refine aw_region_seq [⟨.d (.int .i64 0), [], [], []⟩] (by kernel_rfl) (by kernel_rfl) (fun id _ => hG id) ?_ ?_
          · exact okY rfl (LT_assign rfl rfl) <| okE
          change AW _ _ _ _ _ _
          refine aw_weak (weak_of [(1, .d (.int .i64 bits)), (4, .ptr 1 0), (8, .ptr 2 0), (10, .ptr 3 0), (12, .d (.int .i64 ((j : Nat) : Int))), (13, .d (.int .i64 ((i : Nat) : Int))), (14, .own 4 I.L.C.toNat 1), (16, .d (.int .i64 0))] [(1, some ⟨31, 7, (imC I)⟩), (2, some ⟨31, 7, [.d (.int .i64 0), .d (.int .i64 0), .d (.int .i64 0), .d (.int .i64 0), .d (.bool false), .d (.int .i64 0), .d (.str (⟨#[]⟩))]⟩), (3, some ⟨31, 7, (imC (imF (I.L.lay bits pl pad) (rowF (shqF I bits) (fun _ _ _ => 0) 0 0 0 0 I.L.W j i)))⟩), (4, some ⟨3, 1, (intsD ((List.range I.L.C.toNat).map fun c => I.L.fn I.O ((i : Nat) : Int) ((j : Nat) : Int) (c : Nat))).map X.d⟩)] [1, 2, 3, 4] (sE rfl (sE rfl (sE rfl (sE rfl (sE rfl (sE rfl (sE rfl (sE rfl sE0)))))))) (sH rfl (sH rfl (sH rfl (sH rfl sH0)))) (by simp only [Heap.ids, idsL_d, List.nil_append]; kernel_rfl)) ?_
          refine aw_block ?_
          refine aw_loopJ (fun k => ⟨[(1, .d (.int .i64 bits)), (4, .ptr 1 0), (8, .ptr 2 0), (10, .ptr 3 0), (12, .d (.int .i64 ((j : Nat) : Int))), (13, .d (.int .i64 ((i : Nat) : Int))), (14, .own 4 I.L.C.toNat 1), (16, .d (.int .i64 ((k : Nat) : Int)))], [(1, some ⟨31, 7, (imC I)⟩), (2, some ⟨31, 7, [.d (.int .i64 0), .d (.int .i64 0), .d (.int .i64 0), .d (.int .i64 0), .d (.bool false), .d (.int .i64 0), .d (.str (⟨#[]⟩))]⟩), (3, some ⟨31, 7, (imC (imF (I.L.lay bits pl pad) (rowF (shqF I bits) (fun _ _ _ => 0) 0 0 0 0 I.L.W j i)))⟩), (4, some ⟨3, 1, (intsD (mixL (fun c => I.L.fn I.O ((i : Nat) : Int) ((j : Nat) : Int) (c : Nat)) (fun c => shqF I bits ((i : Nat) : Int) ((j : Nat) : Int) (c : Nat)) I.L.C.toNat k)).map X.d⟩)], [1, 2, 3, 4]⟩) (fun k => k ≤ I.L.C.toNat) (fun k => I.L.C.toNat - k) 0 (by omega) ?_ ?_
          · exact weak_of _ _ _ (sE rfl (sE rfl (sE rfl (sE rfl (sE rfl (sE rfl (sE rfl (sE rfl sE0)))))))) (sH rfl (sH rfl (sH rfl (sH (congrArg (fun l => some (Ob.mk 3 1 ((intsD l).map X.d))) (mix_zero (fun c => I.L.fn I.O ((i : Nat) : Int) ((j : Nat) : Int) (c : Nat)) (fun c => shqF I bits ((i : Nat) : Int) ((j : Nat) : Int) (c : Nat)) I.L.C.toNat)) sH0)))) (by simp only [Heap.ids, idsL_d, List.nil_append]; kernel_rfl)
          intro k hk0
          refine aw_seq ?_
          refine aw_seq ?_
          refine aw_region_seq [⟨.d (.int .i64 ((k : Nat) : Int)), [], [], []⟩, ⟨.own 4 I.L.C.toNat 1, [], [], []⟩, ⟨.d (.int .i64 ((I.L.C.toNat : Nat) : Int)), [], [], []⟩, ⟨.d (.bool (decide ((((k : Nat) : Int) : Int) < ((I.L.C.toNat : Nat) : Int)))), [], [], []⟩] (by kernel_rfl) (by kernel_rfl) (fun id _ => hG id) ?_ ?_
          · exact okY rfl (LT_move rfl rfl) <| okY rfl (LT_move rfl rfl) <| okY rfl (LT_lenO rfl Try.underlying44 rfl) <| okY rfl (LT_cmp rfl rfl rfl rfl rfl) <| okE
          change AW _ _ _ _ _ _
          refine aw_weak (weak_of [(1, .d (.int .i64 bits)), (4, .ptr 1 0), (8, .ptr 2 0), (10, .ptr 3 0), (12, .d (.int .i64 ((j : Nat) : Int))), (13, .d (.int .i64 ((i : Nat) : Int))), (14, .own 4 I.L.C.toNat 1), (16, .d (.int .i64 ((k : Nat) : Int))), (59, .d (.bool (decide ((((k : Nat) : Int) : Int) < ((I.L.C.toNat : Nat) : Int)))))] [(1, some ⟨31, 7, (imC I)⟩), (2, some ⟨31, 7, [.d (.int .i64 0), .d (.int .i64 0), .d (.int .i64 0), .d (.int .i64 0), .d (.bool false), .d (.int .i64 0), .d (.str (⟨#[]⟩))]⟩), (3, some ⟨31, 7, (imC (imF (I.L.lay bits pl pad) (rowF (shqF I bits) (fun _ _ _ => 0) 0 0 0 0 I.L.W j i)))⟩), (4, some ⟨3, 1, (intsD (mixL (fun c => I.L.fn I.O ((i : Nat) : Int) ((j : Nat) : Int) (c : Nat)) (fun c => shqF I bits ((i : Nat) : Int) ((j : Nat) : Int) (c : Nat)) I.L.C.toNat k)).map X.d⟩)] [1, 2, 3, 4] (sE rfl (sE rfl (sE rfl (sE rfl (sE rfl (sE rfl (sE rfl (sE rfl (sE rfl sE0))))))))) (sH rfl (sH rfl (sH rfl (sH rfl sH0)))) (by simp only [Heap.ids, idsL_d, List.nil_append]; kernel_rfl)) ?_
          refine aw_cond (decide ((((k : Nat) : Int) : Int) < ((I.L.C.toNat : Nat) : Int))) rfl (fun hb5 => ?_) (fun hb5 => ?_)
          ·
            replace hb5 := of_decide_eq_true hb5
            refine aw_skip ?_
            change AW _ _ _ _ _ _
            refine aw_weak (weak_of [(1, .d (.int .i64 bits)), (4, .ptr 1 0), (8, .ptr 2 0), (10, .ptr 3 0), (12, .d (.int .i64 ((j : Nat) : Int))), (13, .d (.int .i64 ((i : Nat) : Int))), (14, .own 4 I.L.C.toNat 1), (16, .d (.int .i64 ((k : Nat) : Int)))] [(1, some ⟨31, 7, (imC I)⟩), (2, some ⟨31, 7, [.d (.int .i64 0), .d (.int .i64 0), .d (.int .i64 0), .d (.int .i64 0), .d (.bool false), .d (.int .i64 0), .d (.str (⟨#[]⟩))]⟩), (3, some ⟨31, 7, (imC (imF (I.L.lay bits pl pad) (rowF (shqF I bits) (fun _ _ _ => 0) 0 0 0 0 I.L.W j i)))⟩), (4, some ⟨3, 1, (intsD (mixL (fun c => I.L.fn I.O ((i : Nat) : Int) ((j : Nat) : Int) (c : Nat)) (fun c => shqF I bits ((i : Nat) : Int) ((j : Nat) : Int) (c : Nat)) I.L.C.toNat k)).map X.d⟩)] [1, 2, 3, 4] (sE rfl (sE rfl (sE rfl (sE rfl (sE rfl (sE rfl (sE rfl (sE rfl sE0)))))))) (sH rfl (sH rfl (sH rfl (sH rfl sH0)))) (by simp only [Heap.ids, idsL_d, List.nil_append]; kernel_rfl)) ?_
            refine aw_seq ?_
            refine aw_block ?_
            have hx := shp_val hv ((i : Nat) : Int) ((j : Nat) : Int) ((k : Nat) : Int)
            refine aw_region_any rfl [⟨.own 4 I.L.C.toNat 1, [], [], []⟩, ⟨.d (.int .i64 ((k : Nat) : Int)), [], [], []⟩, ⟨.own 4 I.L.C.toNat 1, [], [], []⟩, ⟨.d (.int .i64 ((k : Nat) : Int)), [], [], []⟩, ⟨.ptr 4 k, [], [], []⟩, ⟨.d (.int .i64 (I.L.fn I.O ((i : Nat) : Int) ((j : Nat) : Int) ((k : Nat) : Int))), [], [], [4]⟩, ⟨.ptr 1 3, [], [], []⟩, ⟨.d (.int .i64 I.L.B), [], [], [1]⟩, ⟨.d (.int .i64 bits), [], [], []⟩, ⟨.d (.int .i64 (chgT I.L.B bits (I.L.fn I.O ((i : Nat) : Int) ((j : Nat) : Int) ((k : Nat) : Int)))), [], [], []⟩, ⟨.ptr 4 k, [], [], []⟩, ⟨.tup [], [(4, some ⟨3, 1, (intsD (mixL (fun c => I.L.fn I.O ((i : Nat) : Int) ((j : Nat) : Int) (c : Nat)) (fun c => shqF I bits ((i : Nat) : Int) ((j : Nat) : Int) (c : Nat)) I.L.C.toNat (k + 1))).map X.d⟩)], [], [4]⟩] (by kernel_rfl) (by kernel_rfl) (by kernel_rfl) (fun id _ => hG id) ?_ ?_
            · exact okY rfl (LT_move rfl rfl) <| okY rfl (LT_move rfl rfl) <| okY rfl (LT_move rfl rfl) <| okY rfl (LT_move rfl rfl) <| okY rfl (LT_indexOwn rfl rfl rfl Try.underlying44 inf3 (by omega) (by omega) _ (Nat.mul_one _)) <| okY rfl (LT_load 1 rfl rfl rfl (List.Mem.head _) Try.underlying3 inf3 (by show k + 1 ≤ _; simp [intsD, mixL]; omega) (.inr ⟨rfl, rfl, mix_at (by omega)⟩)) <| okY rfl (LT_fieldAddr rfl rfl Try.underlying31 rfl inf3 (by decide) _ rfl) <| okY rfl (LT_load 1 rfl rfl rfl (List.Mem.head _) Try.underlying3 inf3 (by simp [imC]) (.inr ⟨rfl, rfl, rfl⟩)) <| okY rfl (LT_move rfl rfl) <| okY rfl (LT_call [.d (.int .i64 (I.L.fn I.O ((i : Nat) : Int) ((j : Nat) : Int) ((k : Nat) : Int))), .d (.int .i64 I.L.B), .d (.int .i64 bits)] rfl rfl Try.call59 rfl ((pc_rbits _ _ _ hsb hm.b hx.1 hx.2).ct rfl)) <| okY rfl (LT_indexOwn rfl rfl rfl Try.underlying44 inf3 (by omega) (by omega) _ (Nat.mul_one _)) <| okY rfl (LT_store (ob := ⟨3, 1, (intsD (mixL (fun c => I.L.fn I.O ((i : Nat) : Int) ((j : Nat) : Int) (c : Nat)) (fun c => shqF I bits ((i : Nat) : Int) ((j : Nat) : Int) (c : Nat)) I.L.C.toNat k)).map X.d⟩) (x := .d (.int .i64 (chgT I.L.B bits (I.L.fn I.O ((i : Nat) : Int) ((j : Nat) : Int) ((k : Nat) : Int))))) rfl rfl rfl (List.Mem.head _) inf3 rfl rfl rfl (by show k + 1 ≤ _; simp [intsD, mixL]; omega) _ (mix_set (by omega))) <| okE
            change AW _ _ _ _ _ _
            refine aw_weak (weak_of [(1, .d (.int .i64 bits)), (4, .ptr 1 0), (8, .ptr 2 0), (10, .ptr 3 0), (12, .d (.int .i64 ((j : Nat) : Int))), (13, .d (.int .i64 ((i : Nat) : Int))), (14, .own 4 I.L.C.toNat 1), (16, .d (.int .i64 ((k : Nat) : Int)))] [(1, some ⟨31, 7, (imC I)⟩), (2, some ⟨31, 7, [.d (.int .i64 0), .d (.int .i64 0), .d (.int .i64 0), .d (.int .i64 0), .d (.bool false), .d (.int .i64 0), .d (.str (⟨#[]⟩))]⟩), (3, some ⟨31, 7, (imC (imF (I.L.lay bits pl pad) (rowF (shqF I bits) (fun _ _ _ => 0) 0 0 0 0 I.L.W j i)))⟩), (4, some ⟨3, 1, (intsD (mixL (fun c => I.L.fn I.O ((i : Nat) : Int) ((j : Nat) : Int) (c : Nat)) (fun c => shqF I bits ((i : Nat) : Int) ((j : Nat) : Int) (c : Nat)) I.L.C.toNat (k + 1))).map X.d⟩)] [1, 2, 3, 4] (sE rfl (sE rfl (sE rfl (sE rfl (sE rfl (sE rfl (sE rfl (sE rfl sE0)))))))) (sH rfl (sH rfl (sH rfl (sH rfl sH0)))) (by simp only [Heap.ids, idsL_d, List.nil_append]; kernel_rfl)) ?_
            refine aw_region_seq [⟨.d (.int .i64 ((k : Nat) : Int)), [], [], []⟩, ⟨.d (.int .i64 (((k : Nat) : Int) + 1)), [], [], []⟩, ⟨.d (.int .i64 (((k : Nat) : Int) + 1)), [], [], []⟩] (by kernel_rfl) (by kernel_rfl) (fun id _ => hG id) ?_ ?_
            · exact okY rfl (LT_move rfl rfl) <| okY rfl (LT_add rfl rfl rfl (wi64 (by omega) (by omega))) <| okY rfl (LT_assign rfl rfl) <| okE
            exact ⟨(k + 1), by omega, by omega, weak_of _ _ _ (sE rfl (sE rfl (sE rfl (sE rfl (sE rfl (sE rfl (sE rfl (sE rfl sE0)))))))) (sH rfl (sH rfl (sH rfl (sH rfl sH0)))) (by simp only [Heap.ids, idsL_d, List.nil_append]; kernel_rfl)⟩
          ·
            replace hb5 := of_decide_eq_false hb5
            refine aw_exit ?_
            change AW _ _ _ _ _ _
            refine aw_weak (weak_of [(1, .d (.int .i64 bits)), (4, .ptr 1 0), (8, .ptr 2 0), (10, .ptr 3 0), (12, .d (.int .i64 ((j : Nat) : Int))), (13, .d (.int .i64 ((i : Nat) : Int))), (14, .own 4 I.L.C.toNat 1)] [(1, some ⟨31, 7, (imC I)⟩), (2, some ⟨31, 7, [.d (.int .i64 0), .d (.int .i64 0), .d (.int .i64 0), .d (.int .i64 0), .d (.bool false), .d (.int .i64 0), .d (.str (⟨#[]⟩))]⟩), (3, some ⟨31, 7, (imC (imF (I.L.lay bits pl pad) (rowF (shqF I bits) (fun _ _ _ => 0) 0 0 0 0 I.L.W j i)))⟩), (4, some ⟨3, 1, (intsD (mixL (fun c => I.L.fn I.O ((i : Nat) : Int) ((j : Nat) : Int) (c : Nat)) (fun c => shqF I bits ((i : Nat) : Int) ((j : Nat) : Int) (c : Nat)) I.L.C.toNat k)).map X.d⟩)] [1, 2, 3, 4] (sE rfl (sE rfl (sE rfl (sE rfl (sE rfl (sE rfl (sE rfl sE0))))))) (sH rfl (sH rfl (sH rfl (sH rfl sH0)))) (by simp only [Heap.ids, idsL_d, List.nil_append]; kernel_rfl)) ?_
            have hi : ((i : Nat) : Int) < I.L.W := by omega
            have hj : ((j : Nat) : Int) < I.L.H := by omega
            refine aw_weak (weak_frz 14 4 I.L.C.toNat 1 (intsD (mixL (fun c => I.L.fn I.O ((i : Nat) : Int) ((j : Nat) : Int) (c : Nat)) (fun c => shqF I bits ((i : Nat) : Int) ((j : Nat) : Int) (c : Nat)) I.L.C.toNat k)) rfl rfl rfl rfl (by simp [intsD, mixL]) (by decide)) ?_
            refine aw_region_seq [⟨.agg (imC (imF (I.L.lay bits pl pad) (rowF (shqF I bits) (fun _ _ _ => 0) 0 0 0 0 I.L.W j i))), [], [], [3]⟩, ⟨.d (.int .i64 ((i : Nat) : Int)), [], [], []⟩, ⟨.d (.int .i64 ((j : Nat) : Int)), [], [], []⟩, ⟨.d (.sl I.L.C.toNat 1 (intsD (mixL (fun c => I.L.fn I.O ((i : Nat) : Int) ((j : Nat) : Int) (c : Nat)) (fun c => shqF I bits ((i : Nat) : Int) ((j : Nat) : Int) (c : Nat)) I.L.C.toNat k))), [], [], []⟩, ⟨.agg (imC (imF (I.L.lay bits pl pad) (rowF (shqF I bits) (fun _ _ _ => 0) 0 0 0 0 I.L.W j (i + 1)))), [], [], []⟩, ⟨.tup [], [(3, some ⟨31, 7, (imC (imF (I.L.lay bits pl pad) (rowF (shqF I bits) (fun _ _ _ => 0) 0 0 0 0 I.L.W j (i + 1))))⟩)], [], [3]⟩] (by kernel_rfl) (by kernel_rfl) (fun id _ => hG id) ?_ ?_
            · exact okY rfl (LT_load 7 rfl rfl rfl (List.Mem.head _) Try.underlying31 inf31 (by simp [imC]) (.inl ⟨rfl, rfl, rfl⟩)) <| okY rfl (LT_move rfl rfl) <| okY rfl (LT_move rfl rfl) <| okY rfl (LT_move rfl rfl) <| okY rfl (LT_call [.agg (imC (imF (I.L.lay bits pl pad) (rowF (shqF I bits) (fun _ _ _ => 0) 0 0 0 0 I.L.W j i))), .d (.int .i64 ((i : Nat) : Int)), .d (.int .i64 ((j : Nat) : Int)), .d (.sl I.L.C.toNat 1 (intsD (mixL (fun c => I.L.fn I.O ((i : Nat) : Int) ((j : Nat) : Int) (c : Nat)) (fun c => shqF I bits ((i : Nat) : Int) ((j : Nat) : Int) (c : Nat)) I.L.C.toNat k)))] rfl rfl Try.call52 rfl ((shp_put hv hm hi hj (by omega)).ct rfl)) <| okY rfl (LT_store (ob := ⟨31, 7, (imC (imF (I.L.lay bits pl pad) (rowF (shqF I bits) (fun _ _ _ => 0) 0 0 0 0 I.L.W j i)))⟩) (x := .agg (imC (imF (I.L.lay bits pl pad) (rowF (shqF I bits) (fun _ _ _ => 0) 0 0 0 0 I.L.W j (i + 1))))) rfl rfl rfl (List.Mem.head _) inf31 rfl rfl rfl (by simp [X.cells, imC]) _ rfl) <| okE
            change AW _ _ _ _ _ _
            refine aw_weak (weak_of [(1, .d (.int .i64 bits)), (4, .ptr 1 0), (8, .ptr 2 0), (10, .ptr 3 0), (12, .d (.int .i64 ((j : Nat) : Int))), (13, .d (.int .i64 ((i : Nat) : Int)))] [(1, some ⟨31, 7, (imC I)⟩), (2, some ⟨31, 7, [.d (.int .i64 0), .d (.int .i64 0), .d (.int .i64 0), .d (.int .i64 0), .d (.bool false), .d (.int .i64 0), .d (.str (⟨#[]⟩))]⟩), (3, some ⟨31, 7, (imC (imF (I.L.lay bits pl pad) (rowF (shqF I bits) (fun _ _ _ => 0) 0 0 0 0 I.L.W j (i + 1))))⟩)] [1, 2, 3] (sE rfl (sE rfl (sE rfl (sE rfl (sE rfl (sE rfl sE0)))))) (sH rfl (sH rfl (sH rfl sH0))) (by kernel_rfl)) ?_
            refine aw_region_seq [⟨.d (.int .i64 ((i : Nat) : Int)), [], [], []⟩, ⟨.d (.int .i64 (((i : Nat) : Int) + 1)), [], [], []⟩, ⟨.d (.int .i64 (((i : Nat) : Int) + 1)), [], [], []⟩] (by kernel_rfl) (by kernel_rfl) (fun id _ => hG id) ?_ ?_
            · exact okY rfl (LT_move rfl rfl) <| okY rfl (LT_add rfl rfl rfl (wi64 (by omega) (by omega))) <| okY rfl (LT_assign rfl rfl) <| okE
            exact ⟨(i + 1), by omega, by omega, weak_of _ _ _ (sE rfl (sE rfl (sE rfl (sE rfl (sE rfl (sE rfl sE0)))))) (sH rfl (sH rfl (sH rfl sH0))) (by kernel_rfl)⟩
        ·
          replace hb4 := of_decide_eq_false hb4
          refine aw_exit ?_
          change AW _ _ _ _ _ _
          refine aw_weak (weak_of [(1, .d (.int .i64 bits)), (4, .ptr 1 0), (8, .ptr 2 0), (10, .ptr 3 0), (12, .d (.int .i64 ((j : Nat) : Int)))] [(1, some ⟨31, 7, (imC I)⟩), (2, some ⟨31, 7, [.d (.int .i64 0), .d (.int .i64 0), .d (.int .i64 0), .d (.int .i64 0), .d (.bool false), .d (.int .i64 0), .d (.str (⟨#[]⟩))]⟩), (3, some ⟨31, 7, (imC (imF (I.L.lay bits pl pad) (rowF (shqF I bits) (fun _ _ _ => 0) 0 0 0 0 I.L.W j i)))⟩)] [1, 2, 3] (sE rfl (sE rfl (sE rfl (sE rfl (sE rfl sE0))))) (sH rfl (sH rfl (sH rfl sH0))) (by kernel_rfl)) ?_
          refine aw_region_seq [⟨.d (.int .i64 ((j : Nat) : Int)), [], [], []⟩, ⟨.d (.int .i64 (((j : Nat) : Int) + 1)), [], [], []⟩, ⟨.d (.int .i64 (((j : Nat) : Int) + 1)), [], [], []⟩] (by kernel_rfl) (by kernel_rfl) (fun id _ => hG id) ?_ ?_
          · exact okY rfl (LT_move rfl rfl) <| okY rfl (LT_add rfl rfl rfl (wi64 (by omega) (by omega))) <| okY rfl (LT_assign rfl rfl) <| okE
          exact ⟨(j + 1), by omega, by omega, weak_of _ _ _ (sE rfl (sE rfl (sE rfl (sE rfl (sE rfl sE0))))) (sH rfl (sH rfl (sH (congrArg (fun F => some (Ob.mk 31 7 (imC (imF (I.L.lay bits pl pad) F)))) (row_full (show ((i : Nat) : Int) = I.L.W by omega))) sH0))) (by kernel_rfl)⟩
      ·
        replace hb3 := of_decide_eq_false hb3
        refine aw_exit ?_
        change AW _ _ _ _ _ _
        refine aw_weak (weak_of [(8, .ptr 2 0), (10, .ptr 3 0)] [(2, some ⟨31, 7, [.d (.int .i64 0), .d (.int .i64 0), .d (.int .i64 0), .d (.int .i64 0), .d (.bool false), .d (.int .i64 0), .d (.str (⟨#[]⟩))]⟩), (3, some ⟨31, 7, (imC (imF (I.L.lay bits pl pad) (rowF (shqF I bits) (fun _ _ _ => 0) 0 0 0 0 I.L.W j 0)))⟩)] [2, 3] (sE rfl (sE rfl sE0)) (sH rfl (sH rfl sH0)) (by kernel_rfl)) ?_
        refine aw_seq ?_
        refine aw_region_seq [⟨.agg (imC (imF (I.L.lay bits pl pad) (rowF (shqF I bits) (fun _ _ _ => 0) 0 0 0 0 I.L.W j 0))), [], [], [3]⟩, ⟨.tup [], [(2, some ⟨31, 7, (imC (imF (I.L.lay bits pl pad) (rowF (shqF I bits) (fun _ _ _ => 0) 0 0 0 0 I.L.W j 0)))⟩)], [], [2]⟩, ⟨.d (.int .i64 0), [], [], []⟩] (by kernel_rfl) (by kernel_rfl) (fun id _ => hG id) ?_ ?_
        · exact okY rfl (LT_load 7 rfl rfl rfl (List.Mem.head _) Try.underlying31 inf31 (by simp [imC]) (.inl ⟨rfl, rfl, rfl⟩)) <| okY rfl (LT_store (ob := ⟨31, 7, [.d (.int .i64 0), .d (.int .i64 0), .d (.int .i64 0), .d (.int .i64 0), .d (.bool false), .d (.int .i64 0), .d (.str (⟨#[]⟩))]⟩) (x := .agg (imC (imF (I.L.lay bits pl pad) (rowF (shqF I bits) (fun _ _ _ => 0) 0 0 0 0 I.L.W j 0)))) rfl rfl rfl (List.Mem.head _) inf31 rfl rfl rfl (by simp [X.cells, imC]) _ rfl) <| okY rfl (LT_assign rfl rfl) <| okE
        change AW _ _ _ _ _ _
        refine aw_weak (weak_of [(8, .ptr 2 0), (9, .d (.int .i64 0))] [(2, some ⟨31, 7, (imC (imF (I.L.lay bits pl pad) (rowF (shqF I bits) (fun _ _ _ => 0) 0 0 0 0 I.L.W j 0)))⟩)] [2] (sE rfl (sE rfl sE0)) (sH rfl sH0) (by kernel_rfl)) ?_
        refine aw_ret ?_
        refine finN (xs := [.agg (imC (imF (I.L.lay bits pl pad) (rowF (shqF I bits) (fun _ _ _ => 0) 0 0 0 0 I.L.W j 0))), .d (.int .i64 0)]) (l := [.cell 8 31, .tmp 9]) (.inl rfl) Try.results27 (rL ⟨2, 0, _, _, _, 7, rfl, rfl, Try.underlying31, inf31, by simp [imC], .inl ⟨rfl, rfl, rfl⟩⟩ (rL rfl (rL0))) (by simp [imC]) ?_
        rw [shp_f3 (j := j) hv hm (by omega)]
        rfl

end Go.Proofs.Ytphfbjeaklpddaa

/- Layer 42: values written as octets, read as an image of one row: plain law. -/
namespace Go.Proofs.Ytphfbjeaklpddaa
open Go.RowKit

/-- the layout of one row -/
def oneRow (W C B : Int) (pl : Bool) : Lay := ⟨W, 1, C, B, pl, 1⟩
/-- where a sample's value stands -/
def oneIx (W C : Int) (pl : Bool) (a c : Int) : Int := if pl then c * W + a else a * C + c
def oneF (W C : Int) (pl : Bool) (v : Int → Int) (a _b c : Int) : Int := v (oneIx W C pl a c)

theorem one_len {W C B : Int} {pl : Bool} (h : (oneRow W C B pl).ok) : (oneRow W C B pl).len = W * C * (oneRow W C B pl).n := by
  have hr := (oneRow W C B pl).row_eq h
  have hs : (oneRow W C B pl).str = (oneRow W C B pl).row := by
    unfold Lay.str Lay.row strS oneRow
    simp
  unfold Lay.len Lay.rows rowsS
  rw [hs, hr]
  unfold oneRow
  cases pl
  · simp
  · simp only [if_true, Int.one_mul]
    rw [Int.mul_comm C, Int.mul_right_comm, Int.mul_assoc]

theorem one_octF {W C B : Int} {pl : Bool} (h : (oneRow W C B pl).ok) (v : Int → Int) {q d : Int} (q0 : 0 ≤ q) (q1 : q < W * C) (d0 : 0 ≤ d) (d1 : d < (oneRow W C B pl).n) :
    (oneRow W C B pl).octF (oneF W C pl v) (q * (oneRow W C B pl).n + d) = (oneRow W C B pl).byt d (v q) := by
  have hW : 0 < W := by have := h.w1; exact this
  have hC : 0 < C := by have := h.c1; exact this
  -- the sample that stands there
  let a : Int := if pl then q % W else q / C
  let c : Int := if pl then q / W else q % C
  have hix : oneIx W C pl a c = q := by
    unfold oneIx
    cases pl
    · show q / C * C + q % C = q
      have := Int.mul_ediv_add_emod q C
      rw [Int.mul_comm] at this
      exact this
    · show q / W * W + q % W = q
      have := Int.mul_ediv_add_emod q W
      rw [Int.mul_comm] at this
      exact this
  have hd : (oneRow W C B pl).dom a 0 c := by
    cases pl
    · refine ⟨⟨Int.ediv_nonneg q0 (by omega), ?_⟩, ⟨by omega, by show (0 : Int) < 1; omega⟩, ⟨Int.emod_nonneg _ (by omega), Int.emod_lt_of_pos _ hC⟩⟩
      exact Int.ediv_lt_of_lt_mul hC q1
    · refine ⟨⟨Int.emod_nonneg _ (by omega), Int.emod_lt_of_pos _ hW⟩, ⟨by omega, by show (0 : Int) < 1; omega⟩, ⟨Int.ediv_nonneg q0 (by omega), ?_⟩⟩
      exact Int.ediv_lt_of_lt_mul hW (by rw [Int.mul_comm]; exact q1)
  obtain ⟨k1, k2, k3, k4, k5, k6, k7⟩ := (oneRow W C B pl).coords h hd d0 d1
  have hp : (oneRow W C B pl).plc a 0 c = q * (oneRow W C B pl).n := by
    rw [(oneRow W C B pl).plc_eq h, ← hix]
    have hr := (oneRow W C B pl).row_eq h
    have hs : (oneRow W C B pl).str = (oneRow W C B pl).row := by
      unfold Lay.str Lay.row strS oneRow
      simp
    rw [hs, hr]
    unfold oneIx
    cases pl
    · simp [oneRow]
    · simp only [oneRow, if_true]
      simp only [Int.mul_one, Int.add_zero, Int.add_mul, Int.mul_assoc]
  rw [← hp]
  unfold Lay.octF
  rw [if_neg k3, k4, k5, k6, k7]
  unfold oneF
  rw [hix]

/-- the octets of values, in order -/
def bytL (L : Lay) (v : Int → Int) (k : Nat) : List Int := if L.n = 2 then (List.range k).flatMap fun q => [L.byt 0 (v (q : Nat)), L.byt 1 (v (q : Nat))] else (List.range k).map fun q => L.byt 0 (v (q : Nat))

theorem bytL_len (L : Lay) (v : Int → Int) (k : Nat) : (bytL L v k).length = if L.n = 2 then k * 2 else k := by
  unfold bytL
  split
  · induction k with
    | zero => rfl
    | succ k ih => rw [List.range_succ, List.flatMap_append, List.length_append, ih]; simp; omega
  · simp

theorem bytL_one {L : Lay} (h : L.n = 1) (v : Int → Int) (k : Nat) : bytL L v k = (List.range k).map fun q => L.byt 0 (v (q : Nat)) := by
  unfold bytL
  rw [if_neg (by omega)]
theorem bytL_two {L : Lay} (h : L.n = 2) (v : Int → Int) (k : Nat) : bytL L v k = (List.range k).flatMap fun q => [L.byt 0 (v (q : Nat)), L.byt 1 (v (q : Nat))] := by
  unfold bytL
  rw [if_pos h]

theorem flat_two (g : Nat → Int) (k : Nat) : ((List.range k).flatMap fun q => [g (q * 2), g (q * 2 + 1)]) = (List.range (k * 2)).map g := by
  induction k with
  | zero => rfl
  | succ k ih =>
    rw [List.range_succ, List.flatMap_append, ih, show (k + 1) * 2 = k * 2 + 1 + 1 by omega, List.range_succ, List.range_succ]
    simp

theorem flat_congr {α β : Type} {f g : α → List β} : ∀ {l : List α}, (∀ q, q ∈ l → f q = g q) → l.flatMap f = l.flatMap g
  | [], _ => rfl
  | a :: l, h => by
    rw [List.flatMap_cons, List.flatMap_cons, h a (List.mem_cons_self ..), flat_congr fun q hq => h q (List.mem_cons_of_mem _ hq)]

/-- the octets written are the image's -/
theorem one_list {W C B : Int} {pl : Bool} (h : (oneRow W C B pl).ok) (v : Int → Int) {k : Nat} (hk : (k : Int) = W * C) :
    bytL (oneRow W C B pl) v k = (List.range (oneRow W C B pl).len.toNat).map fun p => (oneRow W C B pl).octF (oneF W C pl v) (p : Nat) := by
  have hl := one_len h
  have hn := (oneRow W C B pl).n_cases h
  rcases hn with ⟨hn, _⟩ | ⟨hn, _⟩
  · rw [bytL_one hn, show (oneRow W C B pl).len.toNat = k by rw [hl, hn]; omega]
    refine List.map_congr_left fun q hq => ?_
    have hq' : q < k := by simpa using hq
    have := one_octF h v (q := (q : Nat)) (d := 0) (by omega) (by omega) (by omega) (by omega)
    rw [hn, Int.mul_one, Int.add_zero] at this
    exact this.symm
  · rw [bytL_two hn, show (oneRow W C B pl).len.toNat = k * 2 by rw [hl, hn]; omega, ← flat_two]
    refine flat_congr fun q hq => ?_
    have hq' : q < k := by simpa using hq
    have h0 := one_octF h v (q := (q : Nat)) (d := 0) (by omega) (by omega) (by omega) (by omega)
    have h1 := one_octF h v (q := (q : Nat)) (d := 1) (by omega) (by omega) (by omega) (by omega)
    rw [hn] at h0 h1
    rw [Int.add_zero] at h0
    rw [← h0, ← h1]
    simp

/-- the image that the octets are -/
theorem one_im {W C B : Int} {pl : Bool} (h : (oneRow W C B pl).ok) (v : Int → Int) {k : Nat} (hk : (k : Int) = W * C) : (⟨oneRow W C B pl, strD (bytL (oneRow W C B pl) v k)⟩ : Im) = imF (oneRow W C B pl) (oneF W C pl v) := by
  rw [one_list h v hk]
  rfl

/-- what Get answers of it -/
theorem one_get {W C B : Int} {pl : Bool} (h : (oneRow W C B pl).ok) (v : Int → Int) (hv : ∀ q, 0 ≤ v q ∧ v q < if B = 8 then 256 else 65536) {k : Nat} (hk : (k : Int) = W * C) {x : Int} (x0 : 0 ≤ x) (x1 : x < W) :
    getR ⟨oneRow W C B pl, strD (bytL (oneRow W C B pl) v k)⟩ x 0 = ((List.range C.toNat).map fun c => v (oneIx W C pl x (c : Nat)), 0) := by
  rw [one_im h v hk]
  exact getR_imF (oneRow W C B pl) h (oneF W C pl v) (fun a b c _ => hv _) x 0 x0 x1 (Int.le_refl _) (show (0 : Int) < 1 by omega)

end Go.Proofs.Ytphfbjeaklpddaa

/- Layer 42: names of blocks changed for one another; values written as octets, what the walk needs. -/
namespace Go.Proofs.Ytphfbjeaklpddaa
open Go.RowKit

/-! ### two names changed for one another -/
def sw (a b i : Nat) : Nat := if i = a then b else if i = b then a else i
theorem sw_sw (a b i : Nat) : sw a b (sw a b i) = i := by
  unfold sw
  by_cases h1 : i = a
  · subst h1
    by_cases h2 : b = i
    · subst h2; simp
    · simp [h2]
  · by_cases h2 : i = b
    · subst h2; simp [h1]
    · simp [h1, h2]

theorem get_ren (σ : Nat → Nat) (E : Env) (t : Nat) : get (E.map fun p => (p.1, p.2.ren σ)) t = (get E t).ren σ := by
  induction E with
  | nil => rfl
  | cons p r ih =>
    obtain ⟨j, x⟩ := p
    by_cases h : j = t
    · subst h; simp [get]
    · simp only [List.map_cons, get, if_neg h, ih]

theorem weak_swap {G : Ctx} {N : Nat} {s : St} (h0 : ∀ id, G.ρ0 id = none) (a b : Nat) : Weak G N s ⟨s.E.map fun p => (p.1, p.2.ren (sw a b)), renU (sw a b) s.H, s.U.map (sw a b)⟩ := by
  intro ρ ac w hr
  have hl : ∀ i, look (renU (sw a b) s.H) i = (look s.H (sw a b i)).map (Ob.ren (sw a b)) := fun i => by
    have h := look_renU (σ := sw a b) (H := s.H) (j := sw a b i) fun k _ hk => by
      have := congrArg (sw a b) hk
      simpa only [sw_sw] using this
    rwa [sw_sw] at h
  let ρ' : Rho := fun i => ρ (sw a b i)
  have hρ : ∀ i, ρ' (sw a b i) = ρ i := fun i => congrArg ρ (sw_sw a b i)
  have hm : ∀ c, Mt ρ' (renU (sw a b) s.H) c → Mt ρ s.H c := by
    rintro c ⟨i, o, cap, h1, h2⟩
    rw [hl] at h1
    cases h3 : look s.H (sw a b i) with
    | none => rw [h3] at h1; cases h1
    | some o' => exact ⟨sw a b i, o', cap, h3, h2⟩
  have hlat : Later w (G.M ρ s.H) w (G.M ρ' (renU (sw a b) s.H)) := ⟨Nat.le_refl _, fun _ _ _ => rfl, fun c _ h => h.imp id (hm c)⟩
  have hlook : ∀ i, look (renU (sw a b) s.H) i ≠ none → look s.H (sw a b i) ≠ none := fun i h h' => h (by rw [hl, h']; rfl)
  -- first to fewer names that may turn, then by new names
  have hrv : ∀ {v x}, RV w (G.M ρ s.H) ρ v x → RV w (G.M ρ' (renU (sw a b) s.H)) ρ' v (x.ren (sw a b)) := fun h => (h.later hlat (Ext.refl _)).ren fun id _ => hρ id
  refine ⟨ρ', ⟨hr.sat.below, fun id p hp => (by rw [h0 id] at hp; cases hp), fun i j c c1 c2 h1 h2 h3 h4 => ?_, fun i o hi => ?_⟩, fun t => ?_, fun id hid hg => ?_, hr.size, hr.defers⟩
  · have := hr.sat.inj _ _ c c1 c2 (hlook i h1) (hlook j h2) h3 h4
    have := congrArg (sw a b) this
    simpa only [sw_sw] using this
  · rw [hl] at hi
    cases h3 : look s.H (sw a b i) with
    | none => rw [h3] at hi; cases hi
    | some o' =>
      rw [h3] at hi
      cases hi
      rcases hr.sat.obj _ o' h3 with ⟨z1, z2⟩ | ⟨c, cap, cs, g1, g2, g3, g4, g5, g6⟩
      · exact .inl ⟨by simp [Ob.ren, z1], z2⟩
      · refine .inr ⟨c, cap, cs, g1, g2, g3, g4, by simpa [Ob.ren] using g5, fun q v x hv hx => ?_⟩
        simp only [Ob.ren, List.getElem?_map] at hx
        cases hq : o'.cs[q]? with
        | none => rw [hq] at hx; cases hx
        | some y =>
          rw [hq] at hx
          cases hx
          exact hrv (g6 q v y hv hq)
  · show RV _ _ _ _ (get (s.E.map fun p => (p.1, p.2.ren (sw a b))) t)
    rw [get_ren]
    exact hrv (hr.env t)
  · show id ∈ s.U.map (sw a b)
    have := hr.used (sw a b id) hid (h0 _)
    exact List.mem_map.2 ⟨_, this, sw_sw a b id⟩

/-! ### octets in order -/
theorem shr8 (v : Int) : Op.shift .shr .u16 v .u64 8 = pure (.int .u16 (v / 256)) := by
  unfold Op.shift
  simp only [show ¬ ((8 : Int) < 0) by omega, if_false]
  rw [show v.fdiv (2 ^ min (8 : Int).toNat IntKind.u16.bits) = v / 256 from Int.fdiv_eq_ediv_of_nonneg v (by decide)]

theorem u16D_at {xs : List Int} {k : Nat} (h : k < xs.length) : ((u16D xs).drop (k * 1)).take 1 = [.int .u16 (xs.getD k 0)] := by
  unfold u16D
  rw [Nat.mul_one, ← List.map_drop, ← List.map_take, List.drop_eq_getElem_cons h, List.take_succ_cons, List.take_zero]
  simp [List.getD, h]

def vv (dp : Bool) (vs : List Int) (q : Int) : Int := if dp then vs.getD q.toNat 0 else vs.getD q.toNat 0 % 256

theorem vs_bd {vs : List Int} (hvs : ∀ v ∈ vs, 0 ≤ v ∧ v < 65536) (i : Nat) : 0 ≤ vs.getD i 0 ∧ vs.getD i 0 < 65536 := by
  rw [List.getD_eq_getElem?_getD]
  cases h : vs[i]? with
  | none => simp
  | some v => exact hvs v (List.mem_of_getElem? h)
theorem vs_nn {vs : List Int} (hvs : ∀ v ∈ vs, 0 ≤ v ∧ v < 65536) (i : Nat) : 0 ≤ vs.getD i 0 := (vs_bd hvs i).1
theorem vv_rngF {vs : List Int} (_hvs : ∀ v ∈ vs, 0 ≤ v ∧ v < 65536) (q : Int) : 0 ≤ vv false vs q ∧ vv false vs q < if (8 : Int) = 8 then 256 else 65536 := by
  unfold vv
  simp only [if_true, Bool.false_eq_true, if_false]
  omega
theorem vv_rngT {vs : List Int} (hvs : ∀ v ∈ vs, 0 ≤ v ∧ v < 65536) (q : Int) : 0 ≤ vv true vs q ∧ vv true vs q < if (16 : Int) = 8 then 256 else 65536 := by
  have := vs_bd hvs q.toNat
  unfold vv
  simp only [if_true, show ¬ ((16 : Int) = 8) by omega, if_false]
  exact this
section
variable (W C : Int) (pl : Bool) (v : Int → Int)
theorem one_n8 : (oneRow W C 8 pl).n = 1 := rfl
theorem one_n16 : (oneRow W C 16 pl).n = 2 := rfl
theorem bytL_0 (L : Lay) : bytL L v 0 = [] := by unfold bytL; split <;> rfl
theorem bytL_n1 (k : Nat) : (bytL (oneRow W C 8 pl) v k).length = k := by rw [bytL_len, if_neg (by rw [one_n8]; decide)]
theorem bytL_n2 (k : Nat) : (bytL (oneRow W C 16 pl) v k).length = 2 * k := by rw [bytL_len, if_pos (one_n16 W C pl)]; omega
theorem bytL_ne1 (k : Nat) : bytL (oneRow W C 8 pl) v (k + 1) ≠ [] := fun h => by have := bytL_n1 W C pl v (k + 1); rw [h] at this; simp at this
theorem bytL_ne2 (k : Nat) : bytL (oneRow W C 16 pl) v (k + 1) ≠ [] := fun h => by have := bytL_n2 W C pl v (k + 1); rw [h] at this; simp at this
theorem bytL_s1 (k : Nat) : bytL (oneRow W C 8 pl) v (k + 1) = bytL (oneRow W C 8 pl) v k ++ [v (k : Nat) % 256] := by
  rw [bytL_one (one_n8 W C pl), bytL_one (one_n8 W C pl), List.range_succ, List.map_append]
  have : ∀ x, (oneRow W C 8 pl).byt 0 x = x % 256 := fun x => by unfold Lay.byt; rw [if_neg (by rw [one_n8]; simp)]
  simp [this]
theorem bytL_s2 (k : Nat) : bytL (oneRow W C 16 pl) v (k + 1) = (bytL (oneRow W C 16 pl) v k ++ [v (k : Nat) / 256 % 256]) ++ [v (k : Nat) % 256] := by
  rw [bytL_two (one_n16 W C pl), bytL_two (one_n16 W C pl), List.range_succ, List.flatMap_append]
  have h0 : ∀ x, (oneRow W C 16 pl).byt 0 x = x / 256 % 256 := fun x => by unfold Lay.byt; rw [if_pos ⟨one_n16 W C pl, rfl⟩]
  have h1 : ∀ x, (oneRow W C 16 pl).byt 1 x = x % 256 := fun x => by unfold Lay.byt; rw [if_neg (by simp)]
  simp [h0, h1]
end
theorem bytL_rng (L : Lay) (v : Int → Int) (k : Nat) : ∀ x ∈ bytL L v k, 0 ≤ x ∧ x < 256 := by
  intro x hx
  unfold bytL at hx
  split at hx
  · rw [List.mem_flatMap] at hx
    obtain ⟨q, _, hq⟩ := hx
    simp only [List.mem_cons, List.not_mem_nil, or_false] at hq
    rcases hq with rfl | rfl <;> exact L.byt_range _ _
  · rw [List.mem_map] at hx
    obtain ⟨q, _, rfl⟩ := hx
    exact L.byt_range _ _

theorem lay_bd {ch C Q W : Int} {n : Nat} (hch : 0 ≤ ch ∧ ch < 256) (hC : 1 + ch % 4 = C) (hQ : ((n : Nat) : Int) / C = Q) (hW : min Q 64 = W) : (1 ≤ C ∧ C ≤ 4) ∧ (0 ≤ W ∧ W ≤ 64) ∧ 0 ≤ C * W ∧ C * W ≤ 256 ∧ C * W ≤ n := by
  have c1 : 1 ≤ C ∧ C ≤ 4 := by omega
  have q0 : 0 ≤ Q := by rw [← hQ]; exact Int.ediv_nonneg (by omega) (by omega)
  have w1 : 0 ≤ W ∧ W ≤ 64 := by omega
  have w2 : W ≤ Q := by omega
  have h1 : C * W ≤ C * Q := Int.mul_le_mul_of_nonneg_left w2 (by omega)
  have h2 : C * Q ≤ n := by rw [← hQ]; exact Int.mul_ediv_self_le (by omega)
  have h3 : C * W ≤ 4 * 64 := Int.mul_le_mul c1.2 w1.2 w1.1 (by omega)
  exact ⟨c1, w1, Int.mul_nonneg (by omega) w1.1, by omega, by omega⟩

theorem lin_bd {W C x c : Int} (x0 : 0 ≤ x) (x1 : x < W) (c0 : 0 ≤ c) (c1 : c < C) : (0 ≤ x * C ∧ x * C + c < C * W) ∧ 0 ≤ c * W ∧ c * W + x < C * W := by
  have h1 : (x + 1) * C ≤ W * C := Int.mul_le_mul_of_nonneg_right (by omega) (by omega)
  have h2 : (c + 1) * W ≤ C * W := Int.mul_le_mul_of_nonneg_right (by omega) (by omega)
  rw [Int.add_mul, Int.one_mul] at h1 h2
  rw [Int.mul_comm W C] at h1
  exact ⟨⟨Int.mul_nonneg x0 (by omega), by omega⟩, Int.mul_nonneg c0 (by omega), by omega⟩

end Go.Proofs.Ytphfbjeaklpddaa
