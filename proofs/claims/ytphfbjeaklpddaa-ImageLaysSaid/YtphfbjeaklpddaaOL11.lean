/-
  Layer 42, the reference: Cut and Paste.
-/
import Derived.Test.YtphfbjeaklpddaaOL10
import Derived.Test.YtphfbjeaklpddaaOL9
set_option linter.unusedSimpArgs false
set_option linter.unusedVariables false

/- Layer 42, the reference: Cut and Paste. -/
namespace Go.Proofs.Ytphfbjeaklpddaa
open Go.RowKit

/-- j rows and i samples of the next one have been copied -/
def rowF (s h : Int → Int → Int → Int) (x y dx dy wide : Int) (j i : Nat) : Int → Int → Int → Int :=
  fun a b c => if (dy ≤ b ∧ b < dy + j ∧ dx ≤ a ∧ a < dx + wide) ∨ (b = dy + j ∧ dx ≤ a ∧ a < dx + i) then s (x + (a - dx)) (y + (b - dy)) c else h a b c

theorem row_zero (s h : Int → Int → Int → Int) (x y dx dy wide : Int) : rowF s h x y dx dy wide 0 0 = h := by
  funext a b c
  unfold rowF
  rw [if_neg (by omega)]

theorem row_full {s h : Int → Int → Int → Int} {x y dx dy wide : Int} {j i : Nat} (hi : (i : Int) = wide) : rowF s h x y dx dy wide j i = rowF s h x y dx dy wide (j + 1) 0 := by
  funext a b c
  unfold rowF
  by_cases e : (dy ≤ b ∧ b < dy + j ∧ dx ≤ a ∧ a < dx + wide) ∨ (b = dy + j ∧ dx ≤ a ∧ a < dx + i)
  · rw [if_pos e, if_pos (by omega)]
  · rw [if_neg e, if_neg (by omega)]

theorem row_end {s h : Int → Int → Int → Int} {x y dx dy wide high : Int} {j : Nat} (hj : (j : Int) = high) : rowF s h x y dx dy wide j 0 = cpyF s h x y dx dy high wide 0 := by
  funext a b c
  unfold rowF cpyF
  by_cases e : (dy ≤ b ∧ b < dy + j ∧ dx ≤ a ∧ a < dx + wide) ∨ (b = dy + j ∧ dx ≤ a ∧ a < dx + (0 : Nat))
  · rw [if_pos e, if_pos (by omega)]
  · rw [if_neg e, if_neg (by omega)]

theorem row_put (s h : Int → Int → Int → Int) (x y dx dy wide : Int) (j i : Nat) (hi : (i : Int) < wide) (n : Nat) (a b c : Int) (c0 : 0 ≤ c) (cn : c < n) :
    rowF s h x y dx dy wide j (i + 1) a b c = if a = dx + i ∧ b = dy + j then ((List.range n).map fun k => s (x + i) (y + j) (k : Nat))[c.toNat]?.getD 0 else rowF s h x y dx dy wide j i a b c := by
  have hl : c.toNat < n := by omega
  by_cases e : a = dx + i ∧ b = dy + j
  · obtain ⟨rfl, rfl⟩ := e
    rw [if_pos ⟨rfl, rfl⟩]
    unfold rowF
    rw [if_pos (by omega)]
    simp [hl, Int.toNat_of_nonneg c0]
    congr 1 <;> omega
  · rw [if_neg e]
    unfold rowF
    by_cases e2 : (dy ≤ b ∧ b < dy + j ∧ dx ≤ a ∧ a < dx + wide) ∨ (b = dy + j ∧ dx ≤ a ∧ a < dx + i)
    · rw [if_pos e2, if_pos (by omega)]
    · rw [if_neg e2, if_neg (by omega)]

theorem row_fits {L : Lay} {s h : Int → Int → Int → Int} {x y dx dy wide : Int} {j i : Nat} (hs : ∀ a b c, L.dom a b c → dx ≤ a → dy ≤ b → a < dx + wide ∨ a < dx + i → b ≤ dy + j → (b < dy + j ∨ a < dx + i) → 0 ≤ s (x + (a - dx)) (y + (b - dy)) c ∧ s (x + (a - dx)) (y + (b - dy)) c < if L.B = 8 then 256 else 65536) (hh : Fits L h) : Fits L (rowF s h x y dx dy wide j i) := by
  intro a b c hd
  unfold rowF
  split
  · rename_i e
    exact hs a b c hd (by omega) (by omega) (by omega) (by omega) (by omega)
  · exact hh a b c hd

theorem pc_rmake' {W H C B : Int} {pl : Bool} {Pd : Int} {J : Im} {e : Int} (h : makR ⟨W, H, C, B, pl, Pd⟩ = (J, e)) : PC Try.prog 18 [iX W, iX H, iX C, iX B, .d (.bool pl), iX Pd] (.tup [imX J, iX e]) := by
  have := pc_rmake W H C B pl Pd
  rw [h] at this
  exact this
theorem pc_rget' {I : Im} {x y : Int} {l : List Int} {n : Nat} {e : Int} (h : getR I x y = (l, e)) (hl : l.length = n) : PC Try.prog 20 [imX I, iX x, iX y] (.tup [.d (.slw n 1 (intsD l)), iX e]) := by
  have := pc_rget I x y
  rw [h] at this
  subst hl
  exact this

/-- put, by functions -/
theorem pc_putF {L : Lay} {F F' : Int → Int → Int → Int} {px py : Int} {xs : List Int} {n : Nat} (hok : L.ok) (hf : Fits L F) (x0 : 0 ≤ px) (xW : px < L.W) (y0 : 0 ≤ py) (yH : py < L.H) (hn : xs.length = n) (hlen : (n : Int) = L.C) (hpos : ∀ v ∈ xs, 0 ≤ v ∧ v < 65536)
    (hF : ∀ a b c, L.dom a b c → F' a b c = if a = px ∧ b = py then xs[c.toNat]?.getD 0 else F a b c) :
    PC Try.prog 52 [imX (imF L F), iX px, iX py, .d (.slw n 1 (intsD xs))] (imX (imF L F')) := by
  subst hn
  have h := pc_put (I := imF L F) (x := px) (y := py) (xs := xs) (imF_valid L hok F) x0 xW y0 yH hlen hpos
  have e : imF L (putF (L.fn (imF L F).O) px py xs xs.length) = imF L F' := by
    refine imF_congr L hok _ _ fun a b c hd => ?_
    rw [hF a b c hd]
    unfold putF
    have hc := hd
    by_cases e : a = px ∧ b = py
    · rw [if_pos e, if_pos ⟨e.1, e.2, by have := hd.2.2; omega, by have := hd.2.2; omega⟩]
    · rw [if_neg e, if_neg (fun h => e ⟨h.1, h.2.1⟩)]
      exact imF_fn L hok F hf hd
  rw [show (imF L F).L = L from rfl, e] at h
  exact h

theorem range_pos {L : Lay} {O : ByteArray} {n : Nat} {x y : Int} (h : ∀ c : Nat, c < n → 0 ≤ L.fn O x y c ∧ L.fn O x y c < 65536) : ∀ v ∈ (List.range n).map fun c => L.fn O x y (c : Nat), 0 ≤ v ∧ v < 65536 := by
  intro v hv
  rw [List.mem_map] at hv
  obtain ⟨c, hc, rfl⟩ := hv
  exact h c (by simpa using hc)

/-! ### Cut -/
structure CutIn (I : Im) (x y a b : Int) : Prop where
  a1 : 1 ≤ a
  a2 : a ≤ I.L.W
  b1 : 1 ≤ b
  b2 : b ≤ I.L.H
  x0 : 0 ≤ x
  x1 : x ≤ I.L.W - a
  y0 : 0 ≤ y
  y1 : y ≤ I.L.H - b

theorem cut_in {I : Im} {x y a b : Int} (h : (((((((¬ a < 1) ∧ (¬ b < 1)) ∧ ¬ x < 0) ∧ ¬ y < 0) ∧ ¬ I.L.W < a) ∧ ¬ I.L.H < b) ∧ ¬ I.L.W - a < x) ∧ ¬ I.L.H - b < y) : CutIn I x y a b := by constructor <;> omega

theorem cut_f1 {I : Im} {x y a b : Int} (h : (!I.vB) = true) : cutR I x y a b = (Im.z, 420) := by
  unfold cutR
  rw [if_neg (by simpa using h)]
theorem cut_f2 {I : Im} {x y a b : Int} (hv : I.vB = true) (h : ((((((a < 1 ∨ b < 1) ∨ x < 0) ∨ y < 0) ∨ I.L.W < a) ∨ I.L.H < b) ∨ I.L.W - a < x) ∨ I.L.H - b < y) : cutR I x y a b = (Im.z, 2) := by
  unfold cutR
  rw [if_pos hv, if_neg]
  simp only [Bool.and_eq_true, insB, inB_iff]
  omega
theorem cut_f3 {I : Im} {x y a b : Int} {j : Nat} (hv : I.vB = true) (hc : CutIn I x y a b) (hj : (j : Int) = b) : cutR I x y a b = (imF (I.L.part a b) (rowF (I.L.fn I.O) (fun _ _ _ => 0) x y 0 0 a j 0), 0) := by
  unfold cutR
  obtain ⟨a1, a2, b1, b2, x0, x1, y0, y1⟩ := hc
  rw [if_pos hv, if_pos (by simp only [Bool.and_eq_true, insB, inB_iff]; omega), row_end hj]
  rfl
theorem cut_ok' {I : Im} {x y a b : Int} (hv : I.vB = true) (hc : CutIn I x y a b) : (I.L.part a b).ok := I.L.part_ok (vB_yes hv).1 a b hc.a1 hc.a2 hc.b1 hc.b2
theorem cut_make {I : Im} {x y a b : Int} (hv : I.vB = true) (hc : CutIn I x y a b) : makR ⟨a, b, I.L.C, I.L.B, I.L.pl, I.L.P⟩ = (imF (I.L.part a b) (rowF (I.L.fn I.O) (fun _ _ _ => 0) x y 0 0 a 0 0), 0) := by
  unfold makR
  have h : shpB a b I.L.C I.L.B I.L.P = true := (shpB_iff _ _ _ _ _).2 (cut_ok' hv hc)
  rw [row_zero]
  show (if shpB a b I.L.C I.L.B I.L.P = true then _ else _) = _
  rw [if_pos h, imF_zero]
  rfl
theorem cut_fits {I : Im} {x y a b : Int} (hv : I.vB = true) (hc : CutIn I x y a b) (j i : Nat) (hi : (i : Int) < a) (hj : (j : Int) < b) : Fits (I.L.part a b) (rowF (I.L.fn I.O) (fun _ _ _ => 0) x y 0 0 a j i) := by
  obtain ⟨a1, a2, b1, b2, x0, x1, y0, y1⟩ := hc
  refine row_fits (fun p q c hd h1 h2 h3 h4 h5 => ?_) (fun p q c _ => ⟨Int.le_refl _, by split <;> decide⟩)
  obtain ⟨d1, d2, d3⟩ := hd
  exact Im.fits I hv (x + (p - 0)) (y + (q - 0)) c ⟨by omega, by omega, d3⟩
theorem fn_pos {I : Im} (hv : I.vB = true) {x y : Int} (x0 : 0 ≤ x) (x1 : x < I.L.W) (y0 : 0 ≤ y) (y1 : y < I.L.H) : ∀ v ∈ (List.range I.L.C.toNat).map fun c => I.L.fn I.O x y (c : Nat), 0 ≤ v ∧ v < 65536 := by
  have hs5 := (vB_yes hv).1.c1
  refine range_pos fun c hc => ?_
  have := Im.fits I hv x y c ⟨⟨x0, x1⟩, ⟨y0, y1⟩, ⟨by omega, by omega⟩⟩
  refine ⟨this.1, Int.lt_of_lt_of_le this.2 ?_⟩
  split <;> decide
theorem cut_put {I : Im} {x y a b : Int} {j i : Nat} (hv : I.vB = true) (hc : CutIn I x y a b) (hi : (i : Int) < a) (hj : (j : Int) < b) :
    PC Try.prog 52 [imX (imF (I.L.part a b) (rowF (I.L.fn I.O) (fun _ _ _ => 0) x y 0 0 a j i)), iX ((i : Nat) : Int), iX ((j : Nat) : Int), .d (.slw I.L.C.toNat 1 (intsD ((List.range I.L.C.toNat).map fun c => I.L.fn I.O (x + (i : Nat)) (y + (j : Nat)) (c : Nat))))] (imX (imF (I.L.part a b) (rowF (I.L.fn I.O) (fun _ _ _ => 0) x y 0 0 a j (i + 1)))) := by
  have hs5 := (vB_yes hv).1.c1
  have hf := cut_fits hv hc j i hi hj
  have hok := cut_ok' hv hc
  obtain ⟨a1, a2, b1, b2, x0, x1, y0, y1⟩ := hc
  refine pc_putF hok hf (by omega) (show (i : Int) < a from hi) (by omega) (show (j : Int) < b from hj) (by simp) (show ((I.L.C.toNat : Nat) : Int) = I.L.C by omega) (fn_pos hv (by omega) (by omega) (by omega) (by omega)) fun p q c hd => ?_
  have hd3 := hd.2.2
  rw [row_put _ _ x y 0 0 a j i hi I.L.C.toNat p q c (by omega) (by have : c < I.L.C := hd3.2; omega)]
  simp only [Int.zero_add]

/-! ### Paste -/
structure PasIn (I J : Im) (x y : Int) : Prop where
  c : I.L.C = J.L.C
  b : I.L.B = J.L.B
  x0 : 0 ≤ x
  x1 : x ≤ I.L.W - J.L.W
  y0 : 0 ≤ y
  y1 : y ≤ I.L.H - J.L.H
theorem pas_in {I J : Im} {x y : Int} (h : (((((I.L.C = J.L.C) ∧ I.L.B = J.L.B) ∧ ¬ x < 0) ∧ ¬ y < 0) ∧ ¬ I.L.W - J.L.W < x) ∧ ¬ I.L.H - J.L.H < y) : PasIn I J x y := by constructor <;> omega
theorem pas_f1 {I J : Im} {x y : Int} (h : ((!I.vB) || (!J.vB)) = true) : pasR I J x y = (Im.z, 420) := by
  unfold pasR
  rw [if_neg (by intro hh; rw [Bool.and_eq_true] at hh; simp [hh.1, hh.2] at h)]
theorem pas_f2 {I J : Im} {x y : Int} (hv : I.vB = true) (hv2 : J.vB = true) (h : ((((I.L.C ≠ J.L.C ∨ I.L.B ≠ J.L.B) ∨ x < 0) ∨ y < 0) ∨ I.L.W - J.L.W < x) ∨ I.L.H - J.L.H < y) : pasR I J x y = (Im.z, 2) := by
  unfold pasR
  rw [if_pos (by simp [hv, hv2]), if_neg]
  simp only [Bool.and_eq_true, insB, inB_iff, decide_eq_true_eq]
  omega
theorem pas_f3 {I J : Im} {x y : Int} {j : Nat} (hv : I.vB = true) (hv2 : J.vB = true) (hc : PasIn I J x y) (hj : (j : Int) = J.L.H) : pasR I J x y = (imF I.L (rowF (J.L.fn J.O) (I.L.fn I.O) 0 0 x y J.L.W j 0), 0) := by
  unfold pasR
  obtain ⟨c, b, x0, x1, y0, y1⟩ := hc
  rw [if_pos (by simp [hv, hv2]), if_pos (by simp only [Bool.and_eq_true, insB, inB_iff, decide_eq_true_eq]; omega), row_end hj]
  rfl
theorem pas_init {I J : Im} {x y : Int} (hv : I.vB = true) : I = imF I.L (rowF (J.L.fn J.O) (I.L.fn I.O) 0 0 x y J.L.W 0 0) := by
  rw [row_zero]
  exact Im.eq_imF I hv
theorem pas_put {I J : Im} {x y : Int} {j i : Nat} (hv : I.vB = true) (hv2 : J.vB = true) (hc : PasIn I J x y) (hi : (i : Int) < J.L.W) (hj : (j : Int) < J.L.H) :
    PC Try.prog 52 [imX (imF I.L (rowF (J.L.fn J.O) (I.L.fn I.O) 0 0 x y J.L.W j i)), iX (x + (i : Nat)), iX (y + (j : Nat)), .d (.slw J.L.C.toNat 1 (intsD ((List.range J.L.C.toNat).map fun c => J.L.fn J.O (i : Nat) (j : Nat) (c : Nat))))] (imX (imF I.L (rowF (J.L.fn J.O) (I.L.fn I.O) 0 0 x y J.L.W j (i + 1)))) := by
  have hs5 := (vB_yes hv2).1.c1
  obtain ⟨c, b, x0, x1, y0, y1⟩ := hc
  have hf : Fits I.L (rowF (J.L.fn J.O) (I.L.fn I.O) 0 0 x y J.L.W j i) := row_fits (fun p q k hd h1 h2 h3 h4 h5 => by
    obtain ⟨d1, d2, d3⟩ := hd
    rw [b]
    exact Im.fits J hv2 (0 + (p - x)) (0 + (q - y)) k ⟨by omega, by omega, by rw [← c]; exact d3⟩) (Im.fits I hv)
  refine pc_putF (vB_yes hv).1 hf (by omega) (by omega) (by omega) (by omega) (by simp) (show ((J.L.C.toNat : Nat) : Int) = I.L.C by omega) (fn_pos hv2 (by omega) (by omega) (by omega) (by omega)) fun p q k hd => ?_
  have hd3 := hd.2.2
  rw [row_put _ _ 0 0 x y J.L.W j i hi J.L.C.toNat p q k (by omega) (by have : k < I.L.C := hd3.2; omega)]
  simp only [Int.zero_add]

set_option maxRecDepth 100000 in
set_option maxHeartbeats 2000000 in
theorem pc_rcut (I : Im) (x y a b : Int) : PC Try.prog 29 [.agg (imC I), .d (.int .i64 x), .d (.int .i64 y), .d (.int .i64 a), .d (.int .i64 b)] (.tup [imX (cutR I x y a b).1, iX (cutR I x y a b).2]) := by
  refine PC_of (fn := Try.f29) Try.func29 rfl (by simp [Try.ntmps29]) (by kernel_rfl) fun G hG => ?_
  rw [Try.ntmps29]
  refine aw_seq ?_
  refine aw_region_seq [⟨.ptr 1 0, [(1, some ⟨31, 7, (imC I)⟩)], [1], []⟩, ⟨.ptr 2 0, [(2, some ⟨31, 7, [.d (.int .i64 0), .d (.int .i64 0), .d (.int .i64 0), .d (.int .i64 0), .d (.bool false), .d (.int .i64 0), .d (.str (⟨#[]⟩))]⟩)], [2], []⟩, ⟨.d (.int .i64 0), [], [], []⟩] (by kernel_rfl) (by kernel_rfl) (fun id _ => hG id) ?_ ?_
  · exact okY rfl (LT_box (x := .agg (imC I)) 1 rfl rfl rfl 7 rfl (List.Mem.head _)) <| okY rfl (LT_alloc 2 rfl inf31 rfl 7 rfl (List.Mem.head _)) <| okY rfl (LT_assign rfl rfl) <| okE
  change AW _ _ _ _ _ _
  refine aw_weak (weak_of [(1, .d (.int .i64 x)), (2, .d (.int .i64 y)), (3, .d (.int .i64 a)), (4, .d (.int .i64 b)), (5, .ptr 1 0), (10, .ptr 2 0)] [(1, some ⟨31, 7, (imC I)⟩), (2, some ⟨31, 7, [.d (.int .i64 0), .d (.int .i64 0), .d (.int .i64 0), .d (.int .i64 0), .d (.bool false), .d (.int .i64 0), .d (.str (⟨#[]⟩))]⟩)] [1, 2] (sE rfl (sE rfl (sE rfl (sE rfl (sE rfl (sE rfl sE0)))))) (sH rfl (sH rfl sH0)) (by kernel_rfl)) ?_
  refine aw_seq ?_
  refine aw_seq ?_
  refine aw_region_seq [⟨.agg (imC I), [], [], [1]⟩, ⟨.d (.bool I.vB), [], [], []⟩, ⟨.d (.bool (!I.vB)), [], [], []⟩] (by kernel_rfl) (by kernel_rfl) (fun id _ => hG id) ?_ ?_
  · exact okY rfl (LT_load 7 rfl rfl rfl (List.Mem.head _) Try.underlying31 inf31 (by simp [imC]) (.inl ⟨rfl, rfl, rfl⟩)) <| okY rfl (LT_call [.agg (imC I)] rfl rfl Try.call39 rfl ((pc_right I).ct rfl)) <| okY rfl (LT_not rfl rfl rfl) <| okE
  change AW _ _ _ _ _ _
  refine aw_weak (weak_of [(1, .d (.int .i64 x)), (2, .d (.int .i64 y)), (3, .d (.int .i64 a)), (4, .d (.int .i64 b)), (5, .ptr 1 0), (10, .ptr 2 0), (20, .d (.bool (!I.vB)))] [(1, some ⟨31, 7, (imC I)⟩), (2, some ⟨31, 7, [.d (.int .i64 0), .d (.int .i64 0), .d (.int .i64 0), .d (.int .i64 0), .d (.bool false), .d (.int .i64 0), .d (.str (⟨#[]⟩))]⟩)] [1, 2] (sE rfl (sE rfl (sE rfl (sE rfl (sE rfl (sE rfl (sE rfl sE0))))))) (sH rfl (sH rfl sH0)) (by kernel_rfl)) ?_
  refine aw_cond (!I.vB) rfl (fun hb1 => ?_) (fun hb1 => ?_)
  ·
    refine aw_seq ?_
    refine aw_region_seq [⟨.agg [.d (.int .i64 0), .d (.int .i64 0), .d (.int .i64 0), .d (.int .i64 0), .d (.bool false), .d (.int .i64 0), .d (.str (⟨#[]⟩))], [], [], []⟩, ⟨.tup [], [(2, some ⟨31, 7, [.d (.int .i64 0), .d (.int .i64 0), .d (.int .i64 0), .d (.int .i64 0), .d (.bool false), .d (.int .i64 0), .d (.str (⟨#[]⟩))]⟩)], [], [2]⟩, ⟨.d (.int .i64 420), [], [], []⟩] (by kernel_rfl) (by kernel_rfl) (fun id _ => hG id) ?_ ?_
    · exact okY rfl (LT_build (qs := []) (fun j => (#[(0, 1), (1, 1), (2, 1), (3, 1), (4, 1), (5, 1), (6, 1)] : Array (Nat × Nat))[j]?) rfl Try.underlying31 inf31 rfl rfl (.inl ⟨_, rfl, by kernel_rfl, by kernel_rfl⟩) rfl) <| okY rfl (LT_store (ob := ⟨31, 7, [.d (.int .i64 0), .d (.int .i64 0), .d (.int .i64 0), .d (.int .i64 0), .d (.bool false), .d (.int .i64 0), .d (.str (⟨#[]⟩))]⟩) (x := .agg [.d (.int .i64 0), .d (.int .i64 0), .d (.int .i64 0), .d (.int .i64 0), .d (.bool false), .d (.int .i64 0), .d (.str (⟨#[]⟩))]) rfl rfl rfl (List.Mem.head _) inf31 rfl rfl rfl (by simp [X.cells, imC]) _ rfl) <| okY rfl (LT_assign rfl rfl) <| okE
    change AW _ _ _ _ _ _
    refine aw_weak (weak_of [(10, .ptr 2 0), (11, .d (.int .i64 420))] [(2, some ⟨31, 7, [.d (.int .i64 0), .d (.int .i64 0), .d (.int .i64 0), .d (.int .i64 0), .d (.bool false), .d (.int .i64 0), .d (.str (⟨#[]⟩))]⟩)] [2] (sE rfl (sE rfl sE0)) (sH rfl sH0) (by kernel_rfl)) ?_
    refine aw_ret ?_
    refine finN (xs := [.agg [.d (.int .i64 0), .d (.int .i64 0), .d (.int .i64 0), .d (.int .i64 0), .d (.bool false), .d (.int .i64 0), .d (.str (⟨#[]⟩))], .d (.int .i64 420)]) (l := [.cell 10 31, .tmp 11]) (.inl rfl) Try.results29 (rL ⟨2, 0, _, _, _, 7, rfl, rfl, Try.underlying31, inf31, by simp [imC], .inl ⟨rfl, rfl, rfl⟩⟩ (rL rfl (rL0))) (by simp [imC]) ?_
    rw [cut_f1 hb1]
    rfl
  ·
    have hv : I.vB = true := by simpa using hb1
    have hs := (vB_yes hv).1
    have hs1 := hs.w1
    have hs2 := hs.w2
    have hs3 := hs.h1
    have hs4 := hs.h2
    have hs5 := hs.c1
    have hs6 := hs.c2
    refine aw_skip ?_
    change AW _ _ _ _ _ _
    refine aw_weak (weak_of [(1, .d (.int .i64 x)), (2, .d (.int .i64 y)), (3, .d (.int .i64 a)), (4, .d (.int .i64 b)), (5, .ptr 1 0), (10, .ptr 2 0)] [(1, some ⟨31, 7, (imC I)⟩), (2, some ⟨31, 7, [.d (.int .i64 0), .d (.int .i64 0), .d (.int .i64 0), .d (.int .i64 0), .d (.bool false), .d (.int .i64 0), .d (.str (⟨#[]⟩))]⟩)] [1, 2] (sE rfl (sE rfl (sE rfl (sE rfl (sE rfl (sE rfl sE0)))))) (sH rfl (sH rfl sH0)) (by kernel_rfl)) ?_
    refine aw_seq ?_
    refine aw_seq ?_
    refine aw_region_seq [⟨.d (.int .i64 a), [], [], []⟩, ⟨.d (.bool (decide ((a : Int) < 1))), [], [], []⟩, ⟨.d (.bool (decide ((a : Int) < 1))), [], [], []⟩, ⟨.opt ((decide ((a : Int) < 1)) == false) (.d (.int .i64 b)), [], [], []⟩, ⟨.opt ((decide ((a : Int) < 1)) == false) (.d (.bool (decide ((b : Int) < 1)))), [], [], []⟩, ⟨.d (.bool ((decide ((a : Int) < 1)) || (decide ((b : Int) < 1)))), [], [], []⟩, ⟨.d (.bool ((decide ((a : Int) < 1)) || (decide ((b : Int) < 1)))), [], [], []⟩, ⟨.opt (((decide ((a : Int) < 1)) || (decide ((b : Int) < 1))) == false) (.d (.int .i64 x)), [], [], []⟩, ⟨.opt (((decide ((a : Int) < 1)) || (decide ((b : Int) < 1))) == false) (.d (.bool (decide ((x : Int) < 0)))), [], [], []⟩, ⟨.d (.bool (((decide ((a : Int) < 1)) || (decide ((b : Int) < 1))) || (decide ((x : Int) < 0)))), [], [], []⟩, ⟨.d (.bool (((decide ((a : Int) < 1)) || (decide ((b : Int) < 1))) || (decide ((x : Int) < 0)))), [], [], []⟩, ⟨.opt ((((decide ((a : Int) < 1)) || (decide ((b : Int) < 1))) || (decide ((x : Int) < 0))) == false) (.d (.int .i64 y)), [], [], []⟩, ⟨.opt ((((decide ((a : Int) < 1)) || (decide ((b : Int) < 1))) || (decide ((x : Int) < 0))) == false) (.d (.bool (decide ((y : Int) < 0)))), [], [], []⟩, ⟨.d (.bool ((((decide ((a : Int) < 1)) || (decide ((b : Int) < 1))) || (decide ((x : Int) < 0))) || (decide ((y : Int) < 0)))), [], [], []⟩, ⟨.d (.bool ((((decide ((a : Int) < 1)) || (decide ((b : Int) < 1))) || (decide ((x : Int) < 0))) || (decide ((y : Int) < 0)))), [], [], []⟩, ⟨.opt (((((decide ((a : Int) < 1)) || (decide ((b : Int) < 1))) || (decide ((x : Int) < 0))) || (decide ((y : Int) < 0))) == false) (.d (.int .i64 a)), [], [], []⟩, ⟨.opt (((((decide ((a : Int) < 1)) || (decide ((b : Int) < 1))) || (decide ((x : Int) < 0))) || (decide ((y : Int) < 0))) == false) (.ptr 1 0), [], [], []⟩, ⟨.opt (((((decide ((a : Int) < 1)) || (decide ((b : Int) < 1))) || (decide ((x : Int) < 0))) || (decide ((y : Int) < 0))) == false) (.d (.int .i64 I.L.W)), [], [], [1]⟩, ⟨.opt (((((decide ((a : Int) < 1)) || (decide ((b : Int) < 1))) || (decide ((x : Int) < 0))) || (decide ((y : Int) < 0))) == false) (.d (.bool (decide ((I.L.W : Int) < a)))), [], [], []⟩, ⟨.d (.bool (((((decide ((a : Int) < 1)) || (decide ((b : Int) < 1))) || (decide ((x : Int) < 0))) || (decide ((y : Int) < 0))) || (decide ((I.L.W : Int) < a)))), [], [], []⟩, ⟨.d (.bool (((((decide ((a : Int) < 1)) || (decide ((b : Int) < 1))) || (decide ((x : Int) < 0))) || (decide ((y : Int) < 0))) || (decide ((I.L.W : Int) < a)))), [], [], []⟩, ⟨.opt ((((((decide ((a : Int) < 1)) || (decide ((b : Int) < 1))) || (decide ((x : Int) < 0))) || (decide ((y : Int) < 0))) || (decide ((I.L.W : Int) < a))) == false) (.d (.int .i64 b)), [], [], []⟩, ⟨.opt ((((((decide ((a : Int) < 1)) || (decide ((b : Int) < 1))) || (decide ((x : Int) < 0))) || (decide ((y : Int) < 0))) || (decide ((I.L.W : Int) < a))) == false) (.ptr 1 1), [], [], []⟩, ⟨.opt ((((((decide ((a : Int) < 1)) || (decide ((b : Int) < 1))) || (decide ((x : Int) < 0))) || (decide ((y : Int) < 0))) || (decide ((I.L.W : Int) < a))) == false) (.d (.int .i64 I.L.H)), [], [], [1]⟩, ⟨.opt ((((((decide ((a : Int) < 1)) || (decide ((b : Int) < 1))) || (decide ((x : Int) < 0))) || (decide ((y : Int) < 0))) || (decide ((I.L.W : Int) < a))) == false) (.d (.bool (decide ((I.L.H : Int) < b)))), [], [], []⟩, ⟨.d (.bool ((((((decide ((a : Int) < 1)) || (decide ((b : Int) < 1))) || (decide ((x : Int) < 0))) || (decide ((y : Int) < 0))) || (decide ((I.L.W : Int) < a))) || (decide ((I.L.H : Int) < b)))), [], [], []⟩, ⟨.d (.bool ((((((decide ((a : Int) < 1)) || (decide ((b : Int) < 1))) || (decide ((x : Int) < 0))) || (decide ((y : Int) < 0))) || (decide ((I.L.W : Int) < a))) || (decide ((I.L.H : Int) < b)))), [], [], []⟩, ⟨.opt (((((((decide ((a : Int) < 1)) || (decide ((b : Int) < 1))) || (decide ((x : Int) < 0))) || (decide ((y : Int) < 0))) || (decide ((I.L.W : Int) < a))) || (decide ((I.L.H : Int) < b))) == false) (.d (.int .i64 x)), [], [], []⟩, ⟨.opt (((((((decide ((a : Int) < 1)) || (decide ((b : Int) < 1))) || (decide ((x : Int) < 0))) || (decide ((y : Int) < 0))) || (decide ((I.L.W : Int) < a))) || (decide ((I.L.H : Int) < b))) == false) (.ptr 1 0), [], [], []⟩, ⟨.opt (((((((decide ((a : Int) < 1)) || (decide ((b : Int) < 1))) || (decide ((x : Int) < 0))) || (decide ((y : Int) < 0))) || (decide ((I.L.W : Int) < a))) || (decide ((I.L.H : Int) < b))) == false) (.d (.int .i64 I.L.W)), [], [], [1]⟩, ⟨.opt (((((((decide ((a : Int) < 1)) || (decide ((b : Int) < 1))) || (decide ((x : Int) < 0))) || (decide ((y : Int) < 0))) || (decide ((I.L.W : Int) < a))) || (decide ((I.L.H : Int) < b))) == false) (.d (.int .i64 a)), [], [], []⟩, ⟨.opt (((((((decide ((a : Int) < 1)) || (decide ((b : Int) < 1))) || (decide ((x : Int) < 0))) || (decide ((y : Int) < 0))) || (decide ((I.L.W : Int) < a))) || (decide ((I.L.H : Int) < b))) == false) (.d (.int .i64 (I.L.W - a))), [], [], []⟩, ⟨.opt (((((((decide ((a : Int) < 1)) || (decide ((b : Int) < 1))) || (decide ((x : Int) < 0))) || (decide ((y : Int) < 0))) || (decide ((I.L.W : Int) < a))) || (decide ((I.L.H : Int) < b))) == false) (.d (.bool (decide (((I.L.W - a) : Int) < x)))), [], [], []⟩, ⟨.d (.bool (((((((decide ((a : Int) < 1)) || (decide ((b : Int) < 1))) || (decide ((x : Int) < 0))) || (decide ((y : Int) < 0))) || (decide ((I.L.W : Int) < a))) || (decide ((I.L.H : Int) < b))) || (decide (((I.L.W - a) : Int) < x)))), [], [], []⟩, ⟨.d (.bool (((((((decide ((a : Int) < 1)) || (decide ((b : Int) < 1))) || (decide ((x : Int) < 0))) || (decide ((y : Int) < 0))) || (decide ((I.L.W : Int) < a))) || (decide ((I.L.H : Int) < b))) || (decide (((I.L.W - a) : Int) < x)))), [], [], []⟩, ⟨.opt ((((((((decide ((a : Int) < 1)) || (decide ((b : Int) < 1))) || (decide ((x : Int) < 0))) || (decide ((y : Int) < 0))) || (decide ((I.L.W : Int) < a))) || (decide ((I.L.H : Int) < b))) || (decide (((I.L.W - a) : Int) < x))) == false) (.d (.int .i64 y)), [], [], []⟩, ⟨.opt ((((((((decide ((a : Int) < 1)) || (decide ((b : Int) < 1))) || (decide ((x : Int) < 0))) || (decide ((y : Int) < 0))) || (decide ((I.L.W : Int) < a))) || (decide ((I.L.H : Int) < b))) || (decide (((I.L.W - a) : Int) < x))) == false) (.ptr 1 1), [], [], []⟩, ⟨.opt ((((((((decide ((a : Int) < 1)) || (decide ((b : Int) < 1))) || (decide ((x : Int) < 0))) || (decide ((y : Int) < 0))) || (decide ((I.L.W : Int) < a))) || (decide ((I.L.H : Int) < b))) || (decide (((I.L.W - a) : Int) < x))) == false) (.d (.int .i64 I.L.H)), [], [], [1]⟩, ⟨.opt ((((((((decide ((a : Int) < 1)) || (decide ((b : Int) < 1))) || (decide ((x : Int) < 0))) || (decide ((y : Int) < 0))) || (decide ((I.L.W : Int) < a))) || (decide ((I.L.H : Int) < b))) || (decide (((I.L.W - a) : Int) < x))) == false) (.d (.int .i64 b)), [], [], []⟩, ⟨.opt ((((((((decide ((a : Int) < 1)) || (decide ((b : Int) < 1))) || (decide ((x : Int) < 0))) || (decide ((y : Int) < 0))) || (decide ((I.L.W : Int) < a))) || (decide ((I.L.H : Int) < b))) || (decide (((I.L.W - a) : Int) < x))) == false) (.d (.int .i64 (I.L.H - b))), [], [], []⟩, ⟨.opt ((((((((decide ((a : Int) < 1)) || (decide ((b : Int) < 1))) || (decide ((x : Int) < 0))) || (decide ((y : Int) < 0))) || (decide ((I.L.W : Int) < a))) || (decide ((I.L.H : Int) < b))) || (decide (((I.L.W - a) : Int) < x))) == false) (.d (.bool (decide (((I.L.H - b) : Int) < y)))), [], [], []⟩, ⟨.d (.bool ((((((((decide ((a : Int) < 1)) || (decide ((b : Int) < 1))) || (decide ((x : Int) < 0))) || (decide ((y : Int) < 0))) || (decide ((I.L.W : Int) < a))) || (decide ((I.L.H : Int) < b))) || (decide (((I.L.W - a) : Int) < x))) || (decide (((I.L.H - b) : Int) < y)))), [], [], []⟩] (by kernel_rfl) (by kernel_rfl) (fun id _ => hG id) ?_ ?_
    · exact okY rfl (LT_move rfl rfl) <| okY rfl (LT_cmp rfl rfl rfl rfl rfl) <| okY rfl (LT_move rfl rfl) <| okG ((decide ((a : Int) < 1)) == false) rfl (fun hg => (LT_move rfl rfl)) <| okG ((decide ((a : Int) < 1)) == false) rfl (fun hg => (LT_cmp rfl rfl (opnT rfl hg) rfl rfl)) <| okY rfl (LT_por rfl rfl rfl (fun h => by rw [h]; rfl)) <| okY rfl (LT_move rfl rfl) <| okG (((decide ((a : Int) < 1)) || (decide ((b : Int) < 1))) == false) rfl (fun hg => (LT_move rfl rfl)) <| okG (((decide ((a : Int) < 1)) || (decide ((b : Int) < 1))) == false) rfl (fun hg => (LT_cmp rfl rfl (opnT rfl hg) rfl rfl)) <| okY rfl (LT_por rfl rfl rfl (fun h => by rw [h]; rfl)) <| okY rfl (LT_move rfl rfl) <| okG ((((decide ((a : Int) < 1)) || (decide ((b : Int) < 1))) || (decide ((x : Int) < 0))) == false) rfl (fun hg => (LT_move rfl rfl)) <| okG ((((decide ((a : Int) < 1)) || (decide ((b : Int) < 1))) || (decide ((x : Int) < 0))) == false) rfl (fun hg => (LT_cmp rfl rfl (opnT rfl hg) rfl rfl)) <| okY rfl (LT_por rfl rfl rfl (fun h => by rw [h]; rfl)) <| okY rfl (LT_move rfl rfl) <| okG (((((decide ((a : Int) < 1)) || (decide ((b : Int) < 1))) || (decide ((x : Int) < 0))) || (decide ((y : Int) < 0))) == false) rfl (fun hg => (LT_move rfl rfl)) <| okG (((((decide ((a : Int) < 1)) || (decide ((b : Int) < 1))) || (decide ((x : Int) < 0))) || (decide ((y : Int) < 0))) == false) rfl (fun hg => (LT_fieldAddr rfl rfl Try.underlying31 rfl inf3 (by decide) _ rfl)) <| okG (((((decide ((a : Int) < 1)) || (decide ((b : Int) < 1))) || (decide ((x : Int) < 0))) || (decide ((y : Int) < 0))) == false) rfl (fun hg => (LT_load 1 rfl (opnT rfl hg) rfl (List.Mem.head _) Try.underlying3 inf3 (by simp [imC]) (.inr ⟨rfl, rfl, rfl⟩))) <| okG (((((decide ((a : Int) < 1)) || (decide ((b : Int) < 1))) || (decide ((x : Int) < 0))) || (decide ((y : Int) < 0))) == false) rfl (fun hg => (LT_cmp rfl rfl (opnT rfl hg) (opnT rfl hg) rfl)) <| okY rfl (LT_por rfl rfl rfl (fun h => by rw [h]; rfl)) <| okY rfl (LT_move rfl rfl) <| okG ((((((decide ((a : Int) < 1)) || (decide ((b : Int) < 1))) || (decide ((x : Int) < 0))) || (decide ((y : Int) < 0))) || (decide ((I.L.W : Int) < a))) == false) rfl (fun hg => (LT_move rfl rfl)) <| okG ((((((decide ((a : Int) < 1)) || (decide ((b : Int) < 1))) || (decide ((x : Int) < 0))) || (decide ((y : Int) < 0))) || (decide ((I.L.W : Int) < a))) == false) rfl (fun hg => (LT_fieldAddr rfl rfl Try.underlying31 rfl inf3 (by decide) _ rfl)) <| okG ((((((decide ((a : Int) < 1)) || (decide ((b : Int) < 1))) || (decide ((x : Int) < 0))) || (decide ((y : Int) < 0))) || (decide ((I.L.W : Int) < a))) == false) rfl (fun hg => (LT_load 1 rfl (opnT rfl hg) rfl (List.Mem.head _) Try.underlying3 inf3 (by simp [imC]) (.inr ⟨rfl, rfl, rfl⟩))) <| okG ((((((decide ((a : Int) < 1)) || (decide ((b : Int) < 1))) || (decide ((x : Int) < 0))) || (decide ((y : Int) < 0))) || (decide ((I.L.W : Int) < a))) == false) rfl (fun hg => (LT_cmp rfl rfl (opnT rfl hg) (opnT rfl hg) rfl)) <| okY rfl (LT_por rfl rfl rfl (fun h => by rw [h]; rfl)) <| okY rfl (LT_move rfl rfl) <| okG (((((((decide ((a : Int) < 1)) || (decide ((b : Int) < 1))) || (decide ((x : Int) < 0))) || (decide ((y : Int) < 0))) || (decide ((I.L.W : Int) < a))) || (decide ((I.L.H : Int) < b))) == false) rfl (fun hg => (LT_move rfl rfl)) <| okG (((((((decide ((a : Int) < 1)) || (decide ((b : Int) < 1))) || (decide ((x : Int) < 0))) || (decide ((y : Int) < 0))) || (decide ((I.L.W : Int) < a))) || (decide ((I.L.H : Int) < b))) == false) rfl (fun hg => (LT_fieldAddr rfl rfl Try.underlying31 rfl inf3 (by decide) _ rfl)) <| okG (((((((decide ((a : Int) < 1)) || (decide ((b : Int) < 1))) || (decide ((x : Int) < 0))) || (decide ((y : Int) < 0))) || (decide ((I.L.W : Int) < a))) || (decide ((I.L.H : Int) < b))) == false) rfl (fun hg => (LT_load 1 rfl (opnT rfl hg) rfl (List.Mem.head _) Try.underlying3 inf3 (by simp [imC]) (.inr ⟨rfl, rfl, rfl⟩))) <| okG (((((((decide ((a : Int) < 1)) || (decide ((b : Int) < 1))) || (decide ((x : Int) < 0))) || (decide ((y : Int) < 0))) || (decide ((I.L.W : Int) < a))) || (decide ((I.L.H : Int) < b))) == false) rfl (fun hg => (LT_move rfl rfl)) <| okG (((((((decide ((a : Int) < 1)) || (decide ((b : Int) < 1))) || (decide ((x : Int) < 0))) || (decide ((y : Int) < 0))) || (decide ((I.L.W : Int) < a))) || (decide ((I.L.H : Int) < b))) == false) rfl (fun hg => (LT_sub rfl (opnT rfl hg) (opnT rfl hg) (wi64 (by simp at hg; omega) (by simp at hg; omega)))) <| okG (((((((decide ((a : Int) < 1)) || (decide ((b : Int) < 1))) || (decide ((x : Int) < 0))) || (decide ((y : Int) < 0))) || (decide ((I.L.W : Int) < a))) || (decide ((I.L.H : Int) < b))) == false) rfl (fun hg => (LT_cmp rfl rfl (opnT rfl hg) (opnT rfl hg) rfl)) <| okY rfl (LT_por rfl rfl rfl (fun h => by rw [h]; rfl)) <| okY rfl (LT_move rfl rfl) <| okG ((((((((decide ((a : Int) < 1)) || (decide ((b : Int) < 1))) || (decide ((x : Int) < 0))) || (decide ((y : Int) < 0))) || (decide ((I.L.W : Int) < a))) || (decide ((I.L.H : Int) < b))) || (decide (((I.L.W - a) : Int) < x))) == false) rfl (fun hg => (LT_move rfl rfl)) <| okG ((((((((decide ((a : Int) < 1)) || (decide ((b : Int) < 1))) || (decide ((x : Int) < 0))) || (decide ((y : Int) < 0))) || (decide ((I.L.W : Int) < a))) || (decide ((I.L.H : Int) < b))) || (decide (((I.L.W - a) : Int) < x))) == false) rfl (fun hg => (LT_fieldAddr rfl rfl Try.underlying31 rfl inf3 (by decide) _ rfl)) <| okG ((((((((decide ((a : Int) < 1)) || (decide ((b : Int) < 1))) || (decide ((x : Int) < 0))) || (decide ((y : Int) < 0))) || (decide ((I.L.W : Int) < a))) || (decide ((I.L.H : Int) < b))) || (decide (((I.L.W - a) : Int) < x))) == false) rfl (fun hg => (LT_load 1 rfl (opnT rfl hg) rfl (List.Mem.head _) Try.underlying3 inf3 (by simp [imC]) (.inr ⟨rfl, rfl, rfl⟩))) <| okG ((((((((decide ((a : Int) < 1)) || (decide ((b : Int) < 1))) || (decide ((x : Int) < 0))) || (decide ((y : Int) < 0))) || (decide ((I.L.W : Int) < a))) || (decide ((I.L.H : Int) < b))) || (decide (((I.L.W - a) : Int) < x))) == false) rfl (fun hg => (LT_move rfl rfl)) <| okG ((((((((decide ((a : Int) < 1)) || (decide ((b : Int) < 1))) || (decide ((x : Int) < 0))) || (decide ((y : Int) < 0))) || (decide ((I.L.W : Int) < a))) || (decide ((I.L.H : Int) < b))) || (decide (((I.L.W - a) : Int) < x))) == false) rfl (fun hg => (LT_sub rfl (opnT rfl hg) (opnT rfl hg) (wi64 (by simp at hg; omega) (by simp at hg; omega)))) <| okG ((((((((decide ((a : Int) < 1)) || (decide ((b : Int) < 1))) || (decide ((x : Int) < 0))) || (decide ((y : Int) < 0))) || (decide ((I.L.W : Int) < a))) || (decide ((I.L.H : Int) < b))) || (decide (((I.L.W - a) : Int) < x))) == false) rfl (fun hg => (LT_cmp rfl rfl (opnT rfl hg) (opnT rfl hg) rfl)) <| okY rfl (LT_por rfl rfl rfl (fun h => by rw [h]; rfl)) <| okE
    change AW _ _ _ _ _ _
    refine aw_weak (weak_of [(1, .d (.int .i64 x)), (2, .d (.int .i64 y)), (3, .d (.int .i64 a)), (4, .d (.int .i64 b)), (5, .ptr 1 0), (10, .ptr 2 0), (63, .d (.bool ((((((((decide ((a : Int) < 1)) || (decide ((b : Int) < 1))) || (decide ((x : Int) < 0))) || (decide ((y : Int) < 0))) || (decide ((I.L.W : Int) < a))) || (decide ((I.L.H : Int) < b))) || (decide (((I.L.W - a) : Int) < x))) || (decide (((I.L.H - b) : Int) < y)))))] [(1, some ⟨31, 7, (imC I)⟩), (2, some ⟨31, 7, [.d (.int .i64 0), .d (.int .i64 0), .d (.int .i64 0), .d (.int .i64 0), .d (.bool false), .d (.int .i64 0), .d (.str (⟨#[]⟩))]⟩)] [1, 2] (sE rfl (sE rfl (sE rfl (sE rfl (sE rfl (sE rfl (sE rfl sE0))))))) (sH rfl (sH rfl sH0)) (by kernel_rfl)) ?_
    refine aw_cond ((((((((decide ((a : Int) < 1)) || (decide ((b : Int) < 1))) || (decide ((x : Int) < 0))) || (decide ((y : Int) < 0))) || (decide ((I.L.W : Int) < a))) || (decide ((I.L.H : Int) < b))) || (decide (((I.L.W - a) : Int) < x))) || (decide (((I.L.H - b) : Int) < y))) rfl (fun hb2 => ?_) (fun hb2 => ?_)
    ·
      refine aw_seq ?_
      refine aw_region_seq [⟨.agg [.d (.int .i64 0), .d (.int .i64 0), .d (.int .i64 0), .d (.int .i64 0), .d (.bool false), .d (.int .i64 0), .d (.str (⟨#[]⟩))], [], [], []⟩, ⟨.tup [], [(2, some ⟨31, 7, [.d (.int .i64 0), .d (.int .i64 0), .d (.int .i64 0), .d (.int .i64 0), .d (.bool false), .d (.int .i64 0), .d (.str (⟨#[]⟩))]⟩)], [], [2]⟩, ⟨.d (.int .i64 2), [], [], []⟩] (by kernel_rfl) (by kernel_rfl) (fun id _ => hG id) ?_ ?_
      · exact okY rfl (LT_build (qs := []) (fun j => (#[(0, 1), (1, 1), (2, 1), (3, 1), (4, 1), (5, 1), (6, 1)] : Array (Nat × Nat))[j]?) rfl Try.underlying31 inf31 rfl rfl (.inl ⟨_, rfl, by kernel_rfl, by kernel_rfl⟩) rfl) <| okY rfl (LT_store (ob := ⟨31, 7, [.d (.int .i64 0), .d (.int .i64 0), .d (.int .i64 0), .d (.int .i64 0), .d (.bool false), .d (.int .i64 0), .d (.str (⟨#[]⟩))]⟩) (x := .agg [.d (.int .i64 0), .d (.int .i64 0), .d (.int .i64 0), .d (.int .i64 0), .d (.bool false), .d (.int .i64 0), .d (.str (⟨#[]⟩))]) rfl rfl rfl (List.Mem.head _) inf31 rfl rfl rfl (by simp [X.cells, imC]) _ rfl) <| okY rfl (LT_assign rfl rfl) <| okE
      change AW _ _ _ _ _ _
      refine aw_weak (weak_of [(10, .ptr 2 0), (11, .d (.int .i64 2))] [(2, some ⟨31, 7, [.d (.int .i64 0), .d (.int .i64 0), .d (.int .i64 0), .d (.int .i64 0), .d (.bool false), .d (.int .i64 0), .d (.str (⟨#[]⟩))]⟩)] [2] (sE rfl (sE rfl sE0)) (sH rfl sH0) (by kernel_rfl)) ?_
      refine aw_ret ?_
      refine finN (xs := [.agg [.d (.int .i64 0), .d (.int .i64 0), .d (.int .i64 0), .d (.int .i64 0), .d (.bool false), .d (.int .i64 0), .d (.str (⟨#[]⟩))], .d (.int .i64 2)]) (l := [.cell 10 31, .tmp 11]) (.inl rfl) Try.results29 (rL ⟨2, 0, _, _, _, 7, rfl, rfl, Try.underlying31, inf31, by simp [imC], .inl ⟨rfl, rfl, rfl⟩⟩ (rL rfl (rL0))) (by simp [imC]) ?_
      rw [cut_f2 hv (by simpa only [Bool.or_eq_true, decide_eq_true_eq] using hb2)]
      rfl
    ·
      have hc : CutIn I x y a b := cut_in (by simpa only [Bool.or_eq_false_iff, decide_eq_false_iff_not] using hb2)
      have hc1 := hc.a1
      have hc2 := hc.a2
      have hc3 := hc.b1
      have hc4 := hc.b2
      have hc5 := hc.x0
      have hc6 := hc.x1
      have hc7 := hc.y0
      have hc8 := hc.y1
      refine aw_skip ?_
      change AW _ _ _ _ _ _
      refine aw_weak (weak_of [(1, .d (.int .i64 x)), (2, .d (.int .i64 y)), (3, .d (.int .i64 a)), (4, .d (.int .i64 b)), (5, .ptr 1 0), (10, .ptr 2 0)] [(1, some ⟨31, 7, (imC I)⟩), (2, some ⟨31, 7, [.d (.int .i64 0), .d (.int .i64 0), .d (.int .i64 0), .d (.int .i64 0), .d (.bool false), .d (.int .i64 0), .d (.str (⟨#[]⟩))]⟩)] [1, 2] (sE rfl (sE rfl (sE rfl (sE rfl (sE rfl (sE rfl sE0)))))) (sH rfl (sH rfl sH0)) (by kernel_rfl)) ?_
      refine aw_seq ?_
      refine aw_region_seq [⟨.d (.int .i64 a), [], [], []⟩, ⟨.d (.int .i64 b), [], [], []⟩, ⟨.ptr 1 2, [], [], []⟩, ⟨.d (.int .i64 I.L.C), [], [], [1]⟩, ⟨.ptr 1 3, [], [], []⟩, ⟨.d (.int .i64 I.L.B), [], [], [1]⟩, ⟨.ptr 1 4, [], [], []⟩, ⟨.d (.bool I.L.pl), [], [], [1]⟩, ⟨.ptr 1 5, [], [], []⟩, ⟨.d (.int .i64 I.L.P), [], [], [1]⟩, ⟨.tup [.agg (imC (imF (I.L.part a b) (rowF (I.L.fn I.O) (fun _ _ _ => 0) x y 0 0 a 0 0))), .d (.int .i64 0)], [], [], []⟩, ⟨.tup [.agg (imC (imF (I.L.part a b) (rowF (I.L.fn I.O) (fun _ _ _ => 0) x y 0 0 a 0 0))), .d (.int .i64 0)], [], [], []⟩, ⟨.agg (imC (imF (I.L.part a b) (rowF (I.L.fn I.O) (fun _ _ _ => 0) x y 0 0 a 0 0))), [], [], []⟩, ⟨.d (.int .i64 0), [], [], []⟩, ⟨.ptr 3 0, [(3, some ⟨31, 7, [.d (.int .i64 0), .d (.int .i64 0), .d (.int .i64 0), .d (.int .i64 0), .d (.bool false), .d (.int .i64 0), .d (.str (⟨#[]⟩))]⟩)], [3], []⟩, ⟨.tup [], [(3, some ⟨31, 7, (imC (imF (I.L.part a b) (rowF (I.L.fn I.O) (fun _ _ _ => 0) x y 0 0 a 0 0)))⟩)], [], [3]⟩, ⟨.d (.int .i64 0), [], [], []⟩] (by kernel_rfl) (by kernel_rfl) (fun id _ => hG id) ?_ ?_
      · exact okY rfl (LT_move rfl rfl) <| okY rfl (LT_move rfl rfl) <| okY rfl (LT_fieldAddr rfl rfl Try.underlying31 rfl inf3 (by decide) _ rfl) <| okY rfl (LT_load 1 rfl rfl rfl (List.Mem.head _) Try.underlying3 inf3 (by simp [imC]) (.inr ⟨rfl, rfl, rfl⟩)) <| okY rfl (LT_fieldAddr rfl rfl Try.underlying31 rfl inf3 (by decide) _ rfl) <| okY rfl (LT_load 1 rfl rfl rfl (List.Mem.head _) Try.underlying3 inf3 (by simp [imC]) (.inr ⟨rfl, rfl, rfl⟩)) <| okY rfl (LT_fieldAddr rfl rfl Try.underlying31 rfl inf4 (by decide) _ rfl) <| okY rfl (LT_load 1 rfl rfl rfl (List.Mem.head _) Try.underlying4 inf4 (by simp [imC]) (.inr ⟨rfl, rfl, rfl⟩)) <| okY rfl (LT_fieldAddr rfl rfl Try.underlying31 rfl inf3 (by decide) _ rfl) <| okY rfl (LT_load 1 rfl rfl rfl (List.Mem.head _) Try.underlying3 inf3 (by simp [imC]) (.inr ⟨rfl, rfl, rfl⟩)) <| okY rfl (LT_call [.d (.int .i64 a), .d (.int .i64 b), .d (.int .i64 I.L.C), .d (.int .i64 I.L.B), .d (.bool I.L.pl), .d (.int .i64 I.L.P)] rfl rfl Try.call18 rfl ((pc_rmake' (cut_make hv hc)).ct rfl)) <| okY rfl (LT_move rfl rfl) <| okY rfl (LT_extract rfl rfl rfl) <| okY rfl (LT_extract rfl rfl rfl) <| okY rfl (LT_alloc 3 rfl inf31 rfl 7 rfl (List.Mem.head _)) <| okY rfl (LT_store (ob := ⟨31, 7, [.d (.int .i64 0), .d (.int .i64 0), .d (.int .i64 0), .d (.int .i64 0), .d (.bool false), .d (.int .i64 0), .d (.str (⟨#[]⟩))]⟩) (x := .agg (imC (imF (I.L.part a b) (rowF (I.L.fn I.O) (fun _ _ _ => 0) x y 0 0 a 0 0)))) rfl rfl rfl (List.Mem.head _) inf31 rfl rfl rfl (by simp [X.cells, imC]) _ rfl) <| okY rfl (LT_assign rfl rfl) <| okE
      change AW _ _ _ _ _ _
      refine aw_weak (weak_of [(1, .d (.int .i64 x)), (2, .d (.int .i64 y)), (3, .d (.int .i64 a)), (4, .d (.int .i64 b)), (5, .ptr 1 0), (10, .ptr 2 0), (12, .ptr 3 0)] [(1, some ⟨31, 7, (imC I)⟩), (2, some ⟨31, 7, [.d (.int .i64 0), .d (.int .i64 0), .d (.int .i64 0), .d (.int .i64 0), .d (.bool false), .d (.int .i64 0), .d (.str (⟨#[]⟩))]⟩), (3, some ⟨31, 7, (imC (imF (I.L.part a b) (rowF (I.L.fn I.O) (fun _ _ _ => 0) x y 0 0 a 0 0)))⟩)] [1, 2, 3] (sE rfl (sE rfl (sE rfl (sE rfl (sE rfl (sE rfl (sE rfl sE0))))))) (sH rfl (sH rfl (sH rfl sH0))) (by kernel_rfl)) ?_
      refine aw_seq ?_
      refine aw_seq ?_
      refine aw_region_seq [⟨.d (.int .i64 0), [], [], []⟩] (by kernel_rfl) (by kernel_rfl) (fun id _ => hG id) ?_ ?_
      · exact okY rfl (LT_assign rfl rfl) <| okE
      change AW _ _ _ _ _ _
      refine aw_weak (weak_of [(1, .d (.int .i64 x)), (2, .d (.int .i64 y)), (3, .d (.int .i64 a)), (4, .d (.int .i64 b)), (5, .ptr 1 0), (10, .ptr 2 0), (12, .ptr 3 0), (14, .d (.int .i64 0))] [(1, some ⟨31, 7, (imC I)⟩), (2, some ⟨31, 7, [.d (.int .i64 0), .d (.int .i64 0), .d (.int .i64 0), .d (.int .i64 0), .d (.bool false), .d (.int .i64 0), .d (.str (⟨#[]⟩))]⟩), (3, some ⟨31, 7, (imC (imF (I.L.part a b) (rowF (I.L.fn I.O) (fun _ _ _ => 0) x y 0 0 a 0 0)))⟩)] [1, 2, 3] (sE rfl (sE rfl (sE rfl (sE rfl (sE rfl (sE rfl (sE rfl (sE rfl sE0)))))))) (sH rfl (sH rfl (sH rfl sH0))) (by kernel_rfl)) ?_
      refine aw_block ?_
      refine aw_loopJ (fun j => ⟨[(1, .d (.int .i64 x)), (2, .d (.int .i64 y)), (3, .d (.int .i64 a)), (4, .d (.int .i64 b)), (5, .ptr 1 0), (10, .ptr 2 0), (12, .ptr 3 0), (14, .d (.int .i64 ((j : Nat) : Int)))], [(1, some ⟨31, 7, (imC I)⟩), (2, some ⟨31, 7, [.d (.int .i64 0), .d (.int .i64 0), .d (.int .i64 0), .d (.int .i64 0), .d (.bool false), .d (.int .i64 0), .d (.str (⟨#[]⟩))]⟩), (3, some ⟨31, 7, (imC (imF (I.L.part a b) (rowF (I.L.fn I.O) (fun _ _ _ => 0) x y 0 0 a j 0)))⟩)], [1, 2, 3]⟩) (fun j => ((j : Nat) : Int) ≤ b) (fun j => b.toNat - j) 0 (by omega) ?_ ?_
      · exact weak_of _ _ _ (sE rfl (sE rfl (sE rfl (sE rfl (sE rfl (sE rfl (sE rfl (sE rfl sE0)))))))) (sH rfl (sH rfl (sH rfl sH0))) (by kernel_rfl)
      intro j hj0
      refine aw_seq ?_
      refine aw_seq ?_
      refine aw_region_seq [⟨.d (.int .i64 ((j : Nat) : Int)), [], [], []⟩, ⟨.d (.int .i64 b), [], [], []⟩, ⟨.d (.bool (decide ((((j : Nat) : Int) : Int) < b))), [], [], []⟩] (by kernel_rfl) (by kernel_rfl) (fun id _ => hG id) ?_ ?_
      · exact okY rfl (LT_move rfl rfl) <| okY rfl (LT_move rfl rfl) <| okY rfl (LT_cmp rfl rfl rfl rfl rfl) <| okE
      change AW _ _ _ _ _ _
      refine aw_weak (weak_of [(1, .d (.int .i64 x)), (2, .d (.int .i64 y)), (3, .d (.int .i64 a)), (4, .d (.int .i64 b)), (5, .ptr 1 0), (10, .ptr 2 0), (12, .ptr 3 0), (14, .d (.int .i64 ((j : Nat) : Int))), (81, .d (.bool (decide ((((j : Nat) : Int) : Int) < b))))] [(1, some ⟨31, 7, (imC I)⟩), (2, some ⟨31, 7, [.d (.int .i64 0), .d (.int .i64 0), .d (.int .i64 0), .d (.int .i64 0), .d (.bool false), .d (.int .i64 0), .d (.str (⟨#[]⟩))]⟩), (3, some ⟨31, 7, (imC (imF (I.L.part a b) (rowF (I.L.fn I.O) (fun _ _ _ => 0) x y 0 0 a j 0)))⟩)] [1, 2, 3] (sE rfl (sE rfl (sE rfl (sE rfl (sE rfl (sE rfl (sE rfl (sE rfl (sE rfl sE0))))))))) (sH rfl (sH rfl (sH rfl sH0))) (by kernel_rfl)) ?_
      refine aw_cond (decide ((((j : Nat) : Int) : Int) < b)) rfl (fun hb3 => ?_) (fun hb3 => ?_)
      ·
        replace hb3 := of_decide_eq_true hb3
        refine aw_skip ?_
        change AW _ _ _ _ _ _
        refine aw_weak (weak_of [(1, .d (.int .i64 x)), (2, .d (.int .i64 y)), (3, .d (.int .i64 a)), (4, .d (.int .i64 b)), (5, .ptr 1 0), (10, .ptr 2 0), (12, .ptr 3 0), (14, .d (.int .i64 ((j : Nat) : Int)))] [(1, some ⟨31, 7, (imC I)⟩), (2, some ⟨31, 7, [.d (.int .i64 0), .d (.int .i64 0), .d (.int .i64 0), .d (.int .i64 0), .d (.bool false), .d (.int .i64 0), .d (.str (⟨#[]⟩))]⟩), (3, some ⟨31, 7, (imC (imF (I.L.part a b) (rowF (I.L.fn I.O) (fun _ _ _ => 0) x y 0 0 a j 0)))⟩)] [1, 2, 3] (sE rfl (sE rfl (sE rfl (sE rfl (sE rfl (sE rfl (sE rfl (sE rfl sE0)))))))) (sH rfl (sH rfl (sH rfl sH0))) (by kernel_rfl)) ?_
        refine aw_seq ?_
        refine aw_block ?_
        refine aw_seq ?_
        refine aw_region_seq [⟨.d (.int .i64 0), [], [], []⟩] (by kernel_rfl) (by kernel_rfl) (fun id _ => hG id) ?_ ?_
        · exact okY rfl (LT_assign rfl rfl) <| okE
        change AW _ _ _ _ _ _
        refine aw_weak (weak_of [(1, .d (.int .i64 x)), (2, .d (.int .i64 y)), (3, .d (.int .i64 a)), (4, .d (.int .i64 b)), (5, .ptr 1 0), (10, .ptr 2 0), (12, .ptr 3 0), (14, .d (.int .i64 ((j : Nat) : Int))), (15, .d (.int .i64 0))] [(1, some ⟨31, 7, (imC I)⟩), (2, some ⟨31, 7, [.d (.int .i64 0), .d (.int .i64 0), .d (.int .i64 0), .d (.int .i64 0), .d (.bool false), .d (.int .i64 0), .d (.str (⟨#[]⟩))]⟩), (3, some ⟨31, 7, (imC (imF (I.L.part a b) (rowF (I.L.fn I.O) (fun _ _ _ => 0) x y 0 0 a j 0)))⟩)] [1, 2, 3] (sE rfl (sE rfl (sE rfl (sE rfl (sE rfl (sE rfl (sE rfl (sE rfl (sE rfl sE0))))))))) (sH rfl (sH rfl (sH rfl sH0))) (by kernel_rfl)) ?_
        refine aw_block ?_
        refine aw_loopJ (fun i => ⟨[(1, .d (.int .i64 x)), (2, .d (.int .i64 y)), (3, .d (.int .i64 a)), (4, .d (.int .i64 b)), (5, .ptr 1 0), (10, .ptr 2 0), (12, .ptr 3 0), (14, .d (.int .i64 ((j : Nat) : Int))), (15, .d (.int .i64 ((i : Nat) : Int)))], [(1, some ⟨31, 7, (imC I)⟩), (2, some ⟨31, 7, [.d (.int .i64 0), .d (.int .i64 0), .d (.int .i64 0), .d (.int .i64 0), .d (.bool false), .d (.int .i64 0), .d (.str (⟨#[]⟩))]⟩), (3, some ⟨31, 7, (imC (imF (I.L.part a b) (rowF (I.L.fn I.O) (fun _ _ _ => 0) x y 0 0 a j i)))⟩)], [1, 2, 3]⟩) (fun i => ((i : Nat) : Int) ≤ a) (fun i => a.toNat - i) 0 (by omega) ?_ ?_
        · exact weak_of _ _ _ (sE rfl (sE rfl (sE rfl (sE rfl (sE rfl (sE rfl (sE rfl (sE rfl (sE rfl sE0))))))))) (sH rfl (sH rfl (sH rfl sH0))) (by kernel_rfl)
        intro i hi0
        refine aw_seq ?_
        refine aw_seq ?_
        refine aw_region_seq [⟨.d (.int .i64 ((i : Nat) : Int)), [], [], []⟩, ⟨.d (.int .i64 a), [], [], []⟩, ⟨.d (.bool (decide ((((i : Nat) : Int) : Int) < a))), [], [], []⟩] (by kernel_rfl) (by kernel_rfl) (fun id _ => hG id) ?_ ?_
        · exact okY rfl (LT_move rfl rfl) <| okY rfl (LT_move rfl rfl) <| okY rfl (LT_cmp rfl rfl rfl rfl rfl) <| okE
        change AW _ _ _ _ _ _
        refine aw_weak (weak_of [(1, .d (.int .i64 x)), (2, .d (.int .i64 y)), (3, .d (.int .i64 a)), (4, .d (.int .i64 b)), (5, .ptr 1 0), (10, .ptr 2 0), (12, .ptr 3 0), (14, .d (.int .i64 ((j : Nat) : Int))), (15, .d (.int .i64 ((i : Nat) : Int))), (86, .d (.bool (decide ((((i : Nat) : Int) : Int) < a))))] [(1, some ⟨31, 7, (imC I)⟩), (2, some ⟨31, 7, [.d (.int .i64 0), .d (.int .i64 0), .d (.int .i64 0), .d (.int .i64 0), .d (.bool false), .d (.int .i64 0), .d (.str (⟨#[]⟩))]⟩), (3, some ⟨31, 7, (imC (imF (I.L.part a b) (rowF (I.L.fn I.O) (fun _ _ _ => 0) x y 0 0 a j i)))⟩)] [1, 2, 3] (sE rfl (sE rfl (sE rfl (sE rfl (sE rfl (sE rfl (sE rfl (sE rfl (sE rfl (sE rfl sE0)))))))))) (sH rfl (sH rfl (sH rfl sH0))) (by kernel_rfl)) ?_
        refine aw_cond (decide ((((i : Nat) : Int) : Int) < a)) rfl (fun hb4 => ?_) (fun hb4 => ?_)
        ·
          replace hb4 := of_decide_eq_true hb4
          refine aw_skip ?_
          change AW _ _ _ _ _ _
          refine aw_weak (weak_of [(1, .d (.int .i64 x)), (2, .d (.int .i64 y)), (3, .d (.int .i64 a)), (4, .d (.int .i64 b)), (5, .ptr 1 0), (10, .ptr 2 0), (12, .ptr 3 0), (14, .d (.int .i64 ((j : Nat) : Int))), (15, .d (.int .i64 ((i : Nat) : Int)))] [(1, some ⟨31, 7, (imC I)⟩), (2, some ⟨31, 7, [.d (.int .i64 0), .d (.int .i64 0), .d (.int .i64 0), .d (.int .i64 0), .d (.bool false), .d (.int .i64 0), .d (.str (⟨#[]⟩))]⟩), (3, some ⟨31, 7, (imC (imF (I.L.part a b) (rowF (I.L.fn I.O) (fun _ _ _ => 0) x y 0 0 a j i)))⟩)] [1, 2, 3] (sE rfl (sE rfl (sE rfl (sE rfl (sE rfl (sE rfl (sE rfl (sE rfl (sE rfl sE0))))))))) (sH rfl (sH rfl (sH rfl sH0))) (by kernel_rfl)) ?_
          refine aw_seq ?_
          refine aw_block ?_
          refine aw_seq ?_
          refine aw_region_seq [⟨.agg (imC I), [], [], [1]⟩, ⟨.d (.int .i64 x), [], [], []⟩, ⟨.d (.int .i64 ((i : Nat) : Int)), [], [], []⟩, ⟨.d (.int .i64 (x + ((i : Nat) : Int))), [], [], []⟩, ⟨.d (.int .i64 y), [], [], []⟩, ⟨.d (.int .i64 ((j : Nat) : Int)), [], [], []⟩, ⟨.d (.int .i64 (y + ((j : Nat) : Int))), [], [], []⟩, ⟨.tup [.d (.slw I.L.C.toNat 1 (intsD ((List.range I.L.C.toNat).map fun c => I.L.fn I.O (x + ((i : Nat) : Int)) (y + ((j : Nat) : Int)) (c : Nat)))), .d (.int .i64 0)], [], [], []⟩, ⟨.tup [.d (.slw I.L.C.toNat 1 (intsD ((List.range I.L.C.toNat).map fun c => I.L.fn I.O (x + ((i : Nat) : Int)) (y + ((j : Nat) : Int)) (c : Nat)))), .d (.int .i64 0)], [], [], []⟩, ⟨.d (.slw I.L.C.toNat 1 (intsD ((List.range I.L.C.toNat).map fun c => I.L.fn I.O (x + ((i : Nat) : Int)) (y + ((j : Nat) : Int)) (c : Nat)))), [], [], []⟩, ⟨.d (.int .i64 0), [], [], []⟩, ⟨.d (.slw I.L.C.toNat 1 (intsD ((List.range I.L.C.toNat).map fun c => I.L.fn I.O (x + ((i : Nat) : Int)) (y + ((j : Nat) : Int)) (c : Nat)))), [], [], []⟩, ⟨.d (.int .i64 0), [], [], []⟩] (by kernel_rfl) (by kernel_rfl) (fun id _ => hG id) ?_ ?_
          · exact okY rfl (LT_load 7 rfl rfl rfl (List.Mem.head _) Try.underlying31 inf31 (by simp [imC]) (.inl ⟨rfl, rfl, rfl⟩)) <| okY rfl (LT_move rfl rfl) <| okY rfl (LT_move rfl rfl) <| okY rfl (LT_add rfl rfl rfl (wi64 (by omega) (by omega))) <| okY rfl (LT_move rfl rfl) <| okY rfl (LT_move rfl rfl) <| okY rfl (LT_add rfl rfl rfl (wi64 (by omega) (by omega))) <| okY rfl (LT_call [.agg (imC I), .d (.int .i64 (x + ((i : Nat) : Int))), .d (.int .i64 (y + ((j : Nat) : Int)))] rfl rfl Try.call20 rfl ((pc_rget' (getR_ok I hv _ _ (by omega) (by omega) (by omega) (by omega)) (by simp [imC])).ct rfl)) <| okY rfl (LT_move rfl rfl) <| okY rfl (LT_extract rfl rfl rfl) <| okY rfl (LT_extract rfl rfl rfl) <| okY rfl (LT_assign rfl rfl) <| okY rfl (LT_assign rfl rfl) <| okE
          change AW _ _ _ _ _ _
          refine aw_weak (weak_of [(1, .d (.int .i64 x)), (2, .d (.int .i64 y)), (3, .d (.int .i64 a)), (4, .d (.int .i64 b)), (5, .ptr 1 0), (10, .ptr 2 0), (12, .ptr 3 0), (14, .d (.int .i64 ((j : Nat) : Int))), (15, .d (.int .i64 ((i : Nat) : Int))), (16, .d (.slw I.L.C.toNat 1 (intsD ((List.range I.L.C.toNat).map fun c => I.L.fn I.O (x + ((i : Nat) : Int)) (y + ((j : Nat) : Int)) (c : Nat)))))] [(1, some ⟨31, 7, (imC I)⟩), (2, some ⟨31, 7, [.d (.int .i64 0), .d (.int .i64 0), .d (.int .i64 0), .d (.int .i64 0), .d (.bool false), .d (.int .i64 0), .d (.str (⟨#[]⟩))]⟩), (3, some ⟨31, 7, (imC (imF (I.L.part a b) (rowF (I.L.fn I.O) (fun _ _ _ => 0) x y 0 0 a j i)))⟩)] [1, 2, 3] (sE rfl (sE rfl (sE rfl (sE rfl (sE rfl (sE rfl (sE rfl (sE rfl (sE rfl (sE rfl sE0)))))))))) (sH rfl (sH rfl (sH rfl sH0))) (by kernel_rfl)) ?_
          have hi : ((i : Nat) : Int) < a := by omega
          have hj : ((j : Nat) : Int) < b := by omega
          refine aw_region_seq [⟨.agg (imC (imF (I.L.part a b) (rowF (I.L.fn I.O) (fun _ _ _ => 0) x y 0 0 a j i))), [], [], [3]⟩, ⟨.d (.int .i64 ((i : Nat) : Int)), [], [], []⟩, ⟨.d (.int .i64 ((j : Nat) : Int)), [], [], []⟩, ⟨.d (.slw I.L.C.toNat 1 (intsD ((List.range I.L.C.toNat).map fun c => I.L.fn I.O (x + ((i : Nat) : Int)) (y + ((j : Nat) : Int)) (c : Nat)))), [], [], []⟩, ⟨.agg (imC (imF (I.L.part a b) (rowF (I.L.fn I.O) (fun _ _ _ => 0) x y 0 0 a j (i + 1)))), [], [], []⟩, ⟨.tup [], [(3, some ⟨31, 7, (imC (imF (I.L.part a b) (rowF (I.L.fn I.O) (fun _ _ _ => 0) x y 0 0 a j (i + 1))))⟩)], [], [3]⟩] (by kernel_rfl) (by kernel_rfl) (fun id _ => hG id) ?_ ?_
          · exact okY rfl (LT_load 7 rfl rfl rfl (List.Mem.head _) Try.underlying31 inf31 (by simp [imC]) (.inl ⟨rfl, rfl, rfl⟩)) <| okY rfl (LT_move rfl rfl) <| okY rfl (LT_move rfl rfl) <| okY rfl (LT_move rfl rfl) <| okY rfl (LT_call [.agg (imC (imF (I.L.part a b) (rowF (I.L.fn I.O) (fun _ _ _ => 0) x y 0 0 a j i))), .d (.int .i64 ((i : Nat) : Int)), .d (.int .i64 ((j : Nat) : Int)), .d (.slw I.L.C.toNat 1 (intsD ((List.range I.L.C.toNat).map fun c => I.L.fn I.O (x + ((i : Nat) : Int)) (y + ((j : Nat) : Int)) (c : Nat))))] rfl rfl Try.call52 rfl ((cut_put hv hc hi hj).ct rfl)) <| okY rfl (LT_store (ob := ⟨31, 7, (imC (imF (I.L.part a b) (rowF (I.L.fn I.O) (fun _ _ _ => 0) x y 0 0 a j i)))⟩) (x := .agg (imC (imF (I.L.part a b) (rowF (I.L.fn I.O) (fun _ _ _ => 0) x y 0 0 a j (i + 1))))) rfl rfl rfl (List.Mem.head _) inf31 rfl rfl rfl (by simp [X.cells, imC]) _ rfl) <| okE
          change AW _ _ _ _ _ _
          refine aw_weak (weak_of [(1, .d (.int .i64 x)), (2, .d (.int .i64 y)), (3, .d (.int .i64 a)), (4, .d (.int .i64 b)), (5, .ptr 1 0), (10, .ptr 2 0), (12, .ptr 3 0), (14, .d (.int .i64 ((j : Nat) : Int))), (15, .d (.int .i64 ((i : Nat) : Int)))] [(1, some ⟨31, 7, (imC I)⟩), (2, some ⟨31, 7, [.d (.int .i64 0), .d (.int .i64 0), .d (.int .i64 0), .d (.int .i64 0), .d (.bool false), .d (.int .i64 0), .d (.str (⟨#[]⟩))]⟩), (3, some ⟨31, 7, (imC (imF (I.L.part a b) (rowF (I.L.fn I.O) (fun _ _ _ => 0) x y 0 0 a j (i + 1))))⟩)] [1, 2, 3] (sE rfl (sE rfl (sE rfl (sE rfl (sE rfl (sE rfl (sE rfl (sE rfl (sE rfl sE0))))))))) (sH rfl (sH rfl (sH rfl sH0))) (by kernel_rfl)) ?_
          refine aw_region_seq [⟨.d (.int .i64 ((i : Nat) : Int)), [], [], []⟩, ⟨.d (.int .i64 (((i : Nat) : Int) + 1)), [], [], []⟩, ⟨.d (.int .i64 (((i : Nat) : Int) + 1)), [], [], []⟩] (by kernel_rfl) (by kernel_rfl) (fun id _ => hG id) ?_ ?_
          · exact okY rfl (LT_move rfl rfl) <| okY rfl (LT_add rfl rfl rfl (wi64 (by omega) (by omega))) <| okY rfl (LT_assign rfl rfl) <| okE
          exact ⟨(i + 1), by omega, by omega, weak_of _ _ _ (sE rfl (sE rfl (sE rfl (sE rfl (sE rfl (sE rfl (sE rfl (sE rfl (sE rfl sE0))))))))) (sH rfl (sH rfl (sH rfl sH0))) (by kernel_rfl)⟩
        ·
          replace hb4 := of_decide_eq_false hb4
          refine aw_exit ?_
          change AW _ _ _ _ _ _
          refine aw_weak (weak_of [(1, .d (.int .i64 x)), (2, .d (.int .i64 y)), (3, .d (.int .i64 a)), (4, .d (.int .i64 b)), (5, .ptr 1 0), (10, .ptr 2 0), (12, .ptr 3 0), (14, .d (.int .i64 ((j : Nat) : Int)))] [(1, some ⟨31, 7, (imC I)⟩), (2, some ⟨31, 7, [.d (.int .i64 0), .d (.int .i64 0), .d (.int .i64 0), .d (.int .i64 0), .d (.bool false), .d (.int .i64 0), .d (.str (⟨#[]⟩))]⟩), (3, some ⟨31, 7, (imC (imF (I.L.part a b) (rowF (I.L.fn I.O) (fun _ _ _ => 0) x y 0 0 a j i)))⟩)] [1, 2, 3] (sE rfl (sE rfl (sE rfl (sE rfl (sE rfl (sE rfl (sE rfl (sE rfl sE0)))))))) (sH rfl (sH rfl (sH rfl sH0))) (by kernel_rfl)) ?_
          refine aw_region_seq [⟨.d (.int .i64 ((j : Nat) : Int)), [], [], []⟩, ⟨.d (.int .i64 (((j : Nat) : Int) + 1)), [], [], []⟩, ⟨.d (.int .i64 (((j : Nat) : Int) + 1)), [], [], []⟩] (by kernel_rfl) (by kernel_rfl) (fun id _ => hG id) ?_ ?_
          · exact okY rfl (LT_move rfl rfl) <| okY rfl (LT_add rfl rfl rfl (wi64 (by omega) (by omega))) <| okY rfl (LT_assign rfl rfl) <| okE
          exact ⟨(j + 1), by omega, by omega, weak_of _ _ _ (sE rfl (sE rfl (sE rfl (sE rfl (sE rfl (sE rfl (sE rfl (sE rfl sE0)))))))) (sH rfl (sH rfl (sH (congrArg (fun F => some (Ob.mk 31 7 (imC (imF (I.L.part a b) F)))) (row_full (show ((i : Nat) : Int) = a by omega))) sH0))) (by kernel_rfl)⟩
      ·
        replace hb3 := of_decide_eq_false hb3
        refine aw_exit ?_
        change AW _ _ _ _ _ _
        refine aw_weak (weak_of [(10, .ptr 2 0), (12, .ptr 3 0)] [(2, some ⟨31, 7, [.d (.int .i64 0), .d (.int .i64 0), .d (.int .i64 0), .d (.int .i64 0), .d (.bool false), .d (.int .i64 0), .d (.str (⟨#[]⟩))]⟩), (3, some ⟨31, 7, (imC (imF (I.L.part a b) (rowF (I.L.fn I.O) (fun _ _ _ => 0) x y 0 0 a j 0)))⟩)] [2, 3] (sE rfl (sE rfl sE0)) (sH rfl (sH rfl sH0)) (by kernel_rfl)) ?_
        refine aw_seq ?_
        refine aw_region_seq [⟨.agg (imC (imF (I.L.part a b) (rowF (I.L.fn I.O) (fun _ _ _ => 0) x y 0 0 a j 0))), [], [], [3]⟩, ⟨.tup [], [(2, some ⟨31, 7, (imC (imF (I.L.part a b) (rowF (I.L.fn I.O) (fun _ _ _ => 0) x y 0 0 a j 0)))⟩)], [], [2]⟩, ⟨.d (.int .i64 0), [], [], []⟩] (by kernel_rfl) (by kernel_rfl) (fun id _ => hG id) ?_ ?_
        · exact okY rfl (LT_load 7 rfl rfl rfl (List.Mem.head _) Try.underlying31 inf31 (by simp [imC]) (.inl ⟨rfl, rfl, rfl⟩)) <| okY rfl (LT_store (ob := ⟨31, 7, [.d (.int .i64 0), .d (.int .i64 0), .d (.int .i64 0), .d (.int .i64 0), .d (.bool false), .d (.int .i64 0), .d (.str (⟨#[]⟩))]⟩) (x := .agg (imC (imF (I.L.part a b) (rowF (I.L.fn I.O) (fun _ _ _ => 0) x y 0 0 a j 0)))) rfl rfl rfl (List.Mem.head _) inf31 rfl rfl rfl (by simp [X.cells, imC]) _ rfl) <| okY rfl (LT_assign rfl rfl) <| okE
        change AW _ _ _ _ _ _
        refine aw_weak (weak_of [(10, .ptr 2 0), (11, .d (.int .i64 0))] [(2, some ⟨31, 7, (imC (imF (I.L.part a b) (rowF (I.L.fn I.O) (fun _ _ _ => 0) x y 0 0 a j 0)))⟩)] [2] (sE rfl (sE rfl sE0)) (sH rfl sH0) (by kernel_rfl)) ?_
        refine aw_ret ?_
        refine finN (xs := [.agg (imC (imF (I.L.part a b) (rowF (I.L.fn I.O) (fun _ _ _ => 0) x y 0 0 a j 0))), .d (.int .i64 0)]) (l := [.cell 10 31, .tmp 11]) (.inl rfl) Try.results29 (rL ⟨2, 0, _, _, _, 7, rfl, rfl, Try.underlying31, inf31, by simp [imC], .inl ⟨rfl, rfl, rfl⟩⟩ (rL rfl (rL0))) (by simp [imC]) ?_
        rw [cut_f3 (j := j) hv hc (by omega)]
        rfl

set_option maxRecDepth 100000 in
set_option maxHeartbeats 2000000 in
theorem pc_rpaste (I J : Im) (x y : Int) : PC Try.prog 32 [.agg (imC I), .agg (imC J), .d (.int .i64 x), .d (.int .i64 y)] (.tup [imX (pasR I J x y).1, iX (pasR I J x y).2]) := by
  refine PC_of (fn := Try.f32) Try.func32 rfl (by simp [Try.ntmps32]) (by kernel_rfl) fun G hG => ?_
  rw [Try.ntmps32]
  refine aw_seq ?_
  refine aw_region_seq [⟨.ptr 1 0, [(1, some ⟨31, 7, (imC I)⟩)], [1], []⟩, ⟨.ptr 2 0, [(2, some ⟨31, 7, (imC J)⟩)], [2], []⟩, ⟨.ptr 3 0, [(3, some ⟨31, 7, [.d (.int .i64 0), .d (.int .i64 0), .d (.int .i64 0), .d (.int .i64 0), .d (.bool false), .d (.int .i64 0), .d (.str (⟨#[]⟩))]⟩)], [3], []⟩, ⟨.d (.int .i64 0), [], [], []⟩] (by kernel_rfl) (by kernel_rfl) (fun id _ => hG id) ?_ ?_
  · exact okY rfl (LT_box (x := .agg (imC I)) 1 rfl rfl rfl 7 rfl (List.Mem.head _)) <| okY rfl (LT_box (x := .agg (imC J)) 2 rfl rfl rfl 7 rfl (List.Mem.head _)) <| okY rfl (LT_alloc 3 rfl inf31 rfl 7 rfl (List.Mem.head _)) <| okY rfl (LT_assign rfl rfl) <| okE
  change AW _ _ _ _ _ _
  refine aw_weak (weak_of [(2, .d (.int .i64 x)), (3, .d (.int .i64 y)), (4, .ptr 1 0), (5, .ptr 2 0), (8, .ptr 3 0)] [(1, some ⟨31, 7, (imC I)⟩), (2, some ⟨31, 7, (imC J)⟩), (3, some ⟨31, 7, [.d (.int .i64 0), .d (.int .i64 0), .d (.int .i64 0), .d (.int .i64 0), .d (.bool false), .d (.int .i64 0), .d (.str (⟨#[]⟩))]⟩)] [1, 2, 3] (sE rfl (sE rfl (sE rfl (sE rfl (sE rfl sE0))))) (sH rfl (sH rfl (sH rfl sH0))) (by kernel_rfl)) ?_
  refine aw_seq ?_
  refine aw_seq ?_
  refine aw_region_seq [⟨.agg (imC I), [], [], [1]⟩, ⟨.d (.bool I.vB), [], [], []⟩, ⟨.d (.bool (!I.vB)), [], [], []⟩, ⟨.d (.bool (!I.vB)), [], [], []⟩, ⟨.opt ((!I.vB) == false) (.agg (imC J)), [], [], [2]⟩, ⟨.opt ((!I.vB) == false) (.d (.bool J.vB)), [], [], []⟩, ⟨.opt ((!I.vB) == false) (.d (.bool (!J.vB))), [], [], []⟩, ⟨.d (.bool ((!I.vB) || (!J.vB))), [], [], []⟩] (by kernel_rfl) (by kernel_rfl) (fun id _ => hG id) ?_ ?_
  · exact okY rfl (LT_load 7 rfl rfl rfl (List.Mem.head _) Try.underlying31 inf31 (by simp [imC]) (.inl ⟨rfl, rfl, rfl⟩)) <| okY rfl (LT_call [.agg (imC I)] rfl rfl Try.call39 rfl ((pc_right I).ct rfl)) <| okY rfl (LT_not rfl rfl rfl) <| okY rfl (LT_move rfl rfl) <| okG ((!I.vB) == false) rfl (fun hg => (LT_load 7 rfl rfl rfl (List.Mem.head _) Try.underlying31 inf31 (by simp [imC]) (.inl ⟨rfl, rfl, rfl⟩))) <| okG ((!I.vB) == false) rfl (fun hg => (LT_call [.agg (imC J)] rfl rfl Try.call39 (consE (opnT rfl hg) rfl) ((pc_right J).ct rfl))) <| okG ((!I.vB) == false) rfl (fun hg => (LT_not rfl (opnT rfl hg) rfl)) <| okY rfl (LT_por rfl rfl rfl (fun h => by rw [h]; rfl)) <| okE
  change AW _ _ _ _ _ _
  refine aw_weak (weak_of [(2, .d (.int .i64 x)), (3, .d (.int .i64 y)), (4, .ptr 1 0), (5, .ptr 2 0), (8, .ptr 3 0), (21, .d (.bool ((!I.vB) || (!J.vB))))] [(1, some ⟨31, 7, (imC I)⟩), (2, some ⟨31, 7, (imC J)⟩), (3, some ⟨31, 7, [.d (.int .i64 0), .d (.int .i64 0), .d (.int .i64 0), .d (.int .i64 0), .d (.bool false), .d (.int .i64 0), .d (.str (⟨#[]⟩))]⟩)] [1, 2, 3] (sE rfl (sE rfl (sE rfl (sE rfl (sE rfl (sE rfl sE0)))))) (sH rfl (sH rfl (sH rfl sH0))) (by kernel_rfl)) ?_
  refine aw_cond ((!I.vB) || (!J.vB)) rfl (fun hb1 => ?_) (fun hb1 => ?_)
  ·
    refine aw_seq ?_
    refine aw_region_seq [⟨.agg [.d (.int .i64 0), .d (.int .i64 0), .d (.int .i64 0), .d (.int .i64 0), .d (.bool false), .d (.int .i64 0), .d (.str (⟨#[]⟩))], [], [], []⟩, ⟨.tup [], [(3, some ⟨31, 7, [.d (.int .i64 0), .d (.int .i64 0), .d (.int .i64 0), .d (.int .i64 0), .d (.bool false), .d (.int .i64 0), .d (.str (⟨#[]⟩))]⟩)], [], [3]⟩, ⟨.d (.int .i64 420), [], [], []⟩] (by kernel_rfl) (by kernel_rfl) (fun id _ => hG id) ?_ ?_
    · exact okY rfl (LT_build (qs := []) (fun j => (#[(0, 1), (1, 1), (2, 1), (3, 1), (4, 1), (5, 1), (6, 1)] : Array (Nat × Nat))[j]?) rfl Try.underlying31 inf31 rfl rfl (.inl ⟨_, rfl, by kernel_rfl, by kernel_rfl⟩) rfl) <| okY rfl (LT_store (ob := ⟨31, 7, [.d (.int .i64 0), .d (.int .i64 0), .d (.int .i64 0), .d (.int .i64 0), .d (.bool false), .d (.int .i64 0), .d (.str (⟨#[]⟩))]⟩) (x := .agg [.d (.int .i64 0), .d (.int .i64 0), .d (.int .i64 0), .d (.int .i64 0), .d (.bool false), .d (.int .i64 0), .d (.str (⟨#[]⟩))]) rfl rfl rfl (List.Mem.head _) inf31 rfl rfl rfl (by simp [X.cells, imC]) _ rfl) <| okY rfl (LT_assign rfl rfl) <| okE
    change AW _ _ _ _ _ _
    refine aw_weak (weak_of [(8, .ptr 3 0), (9, .d (.int .i64 420))] [(3, some ⟨31, 7, [.d (.int .i64 0), .d (.int .i64 0), .d (.int .i64 0), .d (.int .i64 0), .d (.bool false), .d (.int .i64 0), .d (.str (⟨#[]⟩))]⟩)] [3] (sE rfl (sE rfl sE0)) (sH rfl sH0) (by kernel_rfl)) ?_
    refine aw_ret ?_
    refine finN (xs := [.agg [.d (.int .i64 0), .d (.int .i64 0), .d (.int .i64 0), .d (.int .i64 0), .d (.bool false), .d (.int .i64 0), .d (.str (⟨#[]⟩))], .d (.int .i64 420)]) (l := [.cell 8 31, .tmp 9]) (.inl rfl) Try.results32 (rL ⟨3, 0, _, _, _, 7, rfl, rfl, Try.underlying31, inf31, by simp [imC], .inl ⟨rfl, rfl, rfl⟩⟩ (rL rfl (rL0))) (by simp [imC]) ?_
    rw [pas_f1 hb1]
    rfl
  ·
    have hvv : I.vB = true ∧ J.vB = true := by simpa using hb1
    have hv := hvv.1
    have hv2 := hvv.2
    have hs := (vB_yes hv).1
    have hs1 := hs.w1
    have hs2 := hs.w2
    have hs3 := hs.h1
    have hs4 := hs.h2
    have hs5 := hs.c1
    have hs6 := hs.c2
    have ht := (vB_yes hv2).1
    have ht1 := ht.w1
    have ht2 := ht.w2
    have ht3 := ht.h1
    have ht4 := ht.h2
    have ht5 := ht.c1
    have ht6 := ht.c2
    refine aw_skip ?_
    change AW _ _ _ _ _ _
    refine aw_weak (weak_of [(2, .d (.int .i64 x)), (3, .d (.int .i64 y)), (4, .ptr 1 0), (5, .ptr 2 0), (8, .ptr 3 0)] [(1, some ⟨31, 7, (imC I)⟩), (2, some ⟨31, 7, (imC J)⟩), (3, some ⟨31, 7, [.d (.int .i64 0), .d (.int .i64 0), .d (.int .i64 0), .d (.int .i64 0), .d (.bool false), .d (.int .i64 0), .d (.str (⟨#[]⟩))]⟩)] [1, 2, 3] (sE rfl (sE rfl (sE rfl (sE rfl (sE rfl sE0))))) (sH rfl (sH rfl (sH rfl sH0))) (by kernel_rfl)) ?_
    refine aw_seq ?_
    refine aw_seq ?_
    
    refine aw_region_seq [⟨.ptr 1 2, [], [], []⟩, ⟨.d (.int .i64 I.L.C), [], [], [1]⟩, ⟨.ptr 2 2, [], [], []⟩, ⟨.d (.int .i64 J.L.C), [], [], [2]⟩, ⟨.d (.bool ((I.L.C : Int) != J.L.C)), [], [], []⟩, ⟨.d (.bool ((I.L.C : Int) != J.L.C)), [], [], []⟩, ⟨.opt (((I.L.C : Int) != J.L.C) == false) (.ptr 1 3), [], [], []⟩, ⟨.opt (((I.L.C : Int) != J.L.C) == false) (.d (.int .i64 I.L.B)), [], [], [1]⟩, ⟨.opt (((I.L.C : Int) != J.L.C) == false) (.ptr 2 3), [], [], []⟩, ⟨.opt (((I.L.C : Int) != J.L.C) == false) (.d (.int .i64 J.L.B)), [], [], [2]⟩, ⟨.opt (((I.L.C : Int) != J.L.C) == false) (.d (.bool ((I.L.B : Int) != J.L.B))), [], [], []⟩, ⟨.d (.bool (((I.L.C : Int) != J.L.C) || ((I.L.B : Int) != J.L.B))), [], [], []⟩, ⟨.d (.bool (((I.L.C : Int) != J.L.C) || ((I.L.B : Int) != J.L.B))), [], [], []⟩, ⟨.opt ((((I.L.C : Int) != J.L.C) || ((I.L.B : Int) != J.L.B)) == false) (.d (.int .i64 x)), [], [], []⟩, ⟨.opt ((((I.L.C : Int) != J.L.C) || ((I.L.B : Int) != J.L.B)) == false) (.d (.bool (decide ((x : Int) < 0)))), [], [], []⟩, ⟨.d (.bool ((((I.L.C : Int) != J.L.C) || ((I.L.B : Int) != J.L.B)) || (decide ((x : Int) < 0)))), [], [], []⟩, ⟨.d (.bool ((((I.L.C : Int) != J.L.C) || ((I.L.B : Int) != J.L.B)) || (decide ((x : Int) < 0)))), [], [], []⟩, ⟨.opt (((((I.L.C : Int) != J.L.C) || ((I.L.B : Int) != J.L.B)) || (decide ((x : Int) < 0))) == false) (.d (.int .i64 y)), [], [], []⟩, ⟨.opt (((((I.L.C : Int) != J.L.C) || ((I.L.B : Int) != J.L.B)) || (decide ((x : Int) < 0))) == false) (.d (.bool (decide ((y : Int) < 0)))), [], [], []⟩, ⟨.d (.bool (((((I.L.C : Int) != J.L.C) || ((I.L.B : Int) != J.L.B)) || (decide ((x : Int) < 0))) || (decide ((y : Int) < 0)))), [], [], []⟩, ⟨.d (.bool (((((I.L.C : Int) != J.L.C) || ((I.L.B : Int) != J.L.B)) || (decide ((x : Int) < 0))) || (decide ((y : Int) < 0)))), [], [], []⟩, ⟨.opt ((((((I.L.C : Int) != J.L.C) || ((I.L.B : Int) != J.L.B)) || (decide ((x : Int) < 0))) || (decide ((y : Int) < 0))) == false) (.d (.int .i64 x)), [], [], []⟩, ⟨.opt ((((((I.L.C : Int) != J.L.C) || ((I.L.B : Int) != J.L.B)) || (decide ((x : Int) < 0))) || (decide ((y : Int) < 0))) == false) (.ptr 1 0), [], [], []⟩, ⟨.opt ((((((I.L.C : Int) != J.L.C) || ((I.L.B : Int) != J.L.B)) || (decide ((x : Int) < 0))) || (decide ((y : Int) < 0))) == false) (.d (.int .i64 I.L.W)), [], [], [1]⟩, ⟨.opt ((((((I.L.C : Int) != J.L.C) || ((I.L.B : Int) != J.L.B)) || (decide ((x : Int) < 0))) || (decide ((y : Int) < 0))) == false) (.ptr 2 0), [], [], []⟩, ⟨.opt ((((((I.L.C : Int) != J.L.C) || ((I.L.B : Int) != J.L.B)) || (decide ((x : Int) < 0))) || (decide ((y : Int) < 0))) == false) (.d (.int .i64 J.L.W)), [], [], [2]⟩, ⟨.opt ((((((I.L.C : Int) != J.L.C) || ((I.L.B : Int) != J.L.B)) || (decide ((x : Int) < 0))) || (decide ((y : Int) < 0))) == false) (.d (.int .i64 (I.L.W - J.L.W))), [], [], []⟩, ⟨.opt ((((((I.L.C : Int) != J.L.C) || ((I.L.B : Int) != J.L.B)) || (decide ((x : Int) < 0))) || (decide ((y : Int) < 0))) == false) (.d (.bool (decide (((I.L.W - J.L.W) : Int) < x)))), [], [], []⟩, ⟨.d (.bool ((((((I.L.C : Int) != J.L.C) || ((I.L.B : Int) != J.L.B)) || (decide ((x : Int) < 0))) || (decide ((y : Int) < 0))) || (decide (((I.L.W - J.L.W) : Int) < x)))), [], [], []⟩, ⟨.d (.bool ((((((I.L.C : Int) != J.L.C) || ((I.L.B : Int) != J.L.B)) || (decide ((x : Int) < 0))) || (decide ((y : Int) < 0))) || (decide (((I.L.W - J.L.W) : Int) < x)))), [], [], []⟩, ⟨.opt (((((((I.L.C : Int) != J.L.C) || ((I.L.B : Int) != J.L.B)) || (decide ((x : Int) < 0))) || (decide ((y : Int) < 0))) || (decide (((I.L.W - J.L.W) : Int) < x))) == false) (.d (.int .i64 y)), [], [], []⟩, ⟨.opt (((((((I.L.C : Int) != J.L.C) || ((I.L.B : Int) != J.L.B)) || (decide ((x : Int) < 0))) || (decide ((y : Int) < 0))) || (decide (((I.L.W - J.L.W) : Int) < x))) == false) (.ptr 1 1), [], [], []⟩, ⟨.opt (((((((I.L.C : Int) != J.L.C) || ((I.L.B : Int) != J.L.B)) || (decide ((x : Int) < 0))) || (decide ((y : Int) < 0))) || (decide (((I.L.W - J.L.W) : Int) < x))) == false) (.d (.int .i64 I.L.H)), [], [], [1]⟩, ⟨.opt (((((((I.L.C : Int) != J.L.C) || ((I.L.B : Int) != J.L.B)) || (decide ((x : Int) < 0))) || (decide ((y : Int) < 0))) || (decide (((I.L.W - J.L.W) : Int) < x))) == false) (.ptr 2 1), [], [], []⟩, ⟨.opt (((((((I.L.C : Int) != J.L.C) || ((I.L.B : Int) != J.L.B)) || (decide ((x : Int) < 0))) || (decide ((y : Int) < 0))) || (decide (((I.L.W - J.L.W) : Int) < x))) == false) (.d (.int .i64 J.L.H)), [], [], [2]⟩, ⟨.opt (((((((I.L.C : Int) != J.L.C) || ((I.L.B : Int) != J.L.B)) || (decide ((x : Int) < 0))) || (decide ((y : Int) < 0))) || (decide (((I.L.W - J.L.W) : Int) < x))) == false) (.d (.int .i64 (I.L.H - J.L.H))), [], [], []⟩, ⟨.opt (((((((I.L.C : Int) != J.L.C) || ((I.L.B : Int) != J.L.B)) || (decide ((x : Int) < 0))) || (decide ((y : Int) < 0))) || (decide (((I.L.W - J.L.W) : Int) < x))) == false) (.d (.bool (decide (((I.L.H - J.L.H) : Int) < y)))), [], [], []⟩, ⟨.d (.bool (((((((I.L.C : Int) != J.L.C) || ((I.L.B : Int) != J.L.B)) || (decide ((x : Int) < 0))) || (decide ((y : Int) < 0))) || (decide (((I.L.W - J.L.W) : Int) < x))) || (decide (((I.L.H - J.L.H) : Int) < y)))), [], [], []⟩] (by kernel_rfl) (by kernel_rfl) (fun id _ => hG id) ?_ ?_
    · exact okY rfl (LT_fieldAddr rfl rfl Try.underlying31 rfl inf3 (by decide) _ rfl) <| okY rfl (LT_load 1 rfl rfl rfl (List.Mem.head _) Try.underlying3 inf3 (by simp [imC]) (.inr ⟨rfl, rfl, rfl⟩)) <| okY rfl (LT_fieldAddr rfl rfl Try.underlying31 rfl inf3 (by decide) _ rfl) <| okY rfl (LT_load 1 rfl rfl rfl (List.Mem.head _) Try.underlying3 inf3 (by simp [imC]) (.inr ⟨rfl, rfl, rfl⟩)) <| okY rfl (LT_cmp rfl rfl rfl rfl rfl) <| okY rfl (LT_move rfl rfl) <| okG (((I.L.C : Int) != J.L.C) == false) rfl (fun hg => (LT_fieldAddr rfl rfl Try.underlying31 rfl inf3 (by decide) _ rfl)) <| okG (((I.L.C : Int) != J.L.C) == false) rfl (fun hg => (LT_load 1 rfl (opnT rfl hg) rfl (List.Mem.head _) Try.underlying3 inf3 (by simp [imC]) (.inr ⟨rfl, rfl, rfl⟩))) <| okG (((I.L.C : Int) != J.L.C) == false) rfl (fun hg => (LT_fieldAddr rfl rfl Try.underlying31 rfl inf3 (by decide) _ rfl)) <| okG (((I.L.C : Int) != J.L.C) == false) rfl (fun hg => (LT_load 1 rfl (opnT rfl hg) rfl (List.Mem.head _) Try.underlying3 inf3 (by simp [imC]) (.inr ⟨rfl, rfl, rfl⟩))) <| okG (((I.L.C : Int) != J.L.C) == false) rfl (fun hg => (LT_cmp rfl rfl (opnT rfl hg) (opnT rfl hg) rfl)) <| okY rfl (LT_por rfl rfl rfl (fun h => by rw [h]; rfl)) <| okY rfl (LT_move rfl rfl) <| okG ((((I.L.C : Int) != J.L.C) || ((I.L.B : Int) != J.L.B)) == false) rfl (fun hg => (LT_move rfl rfl)) <| okG ((((I.L.C : Int) != J.L.C) || ((I.L.B : Int) != J.L.B)) == false) rfl (fun hg => (LT_cmp rfl rfl (opnT rfl hg) rfl rfl)) <| okY rfl (LT_por rfl rfl rfl (fun h => by rw [h]; rfl)) <| okY rfl (LT_move rfl rfl) <| okG (((((I.L.C : Int) != J.L.C) || ((I.L.B : Int) != J.L.B)) || (decide ((x : Int) < 0))) == false) rfl (fun hg => (LT_move rfl rfl)) <| okG (((((I.L.C : Int) != J.L.C) || ((I.L.B : Int) != J.L.B)) || (decide ((x : Int) < 0))) == false) rfl (fun hg => (LT_cmp rfl rfl (opnT rfl hg) rfl rfl)) <| okY rfl (LT_por rfl rfl rfl (fun h => by rw [h]; rfl)) <| okY rfl (LT_move rfl rfl) <| okG ((((((I.L.C : Int) != J.L.C) || ((I.L.B : Int) != J.L.B)) || (decide ((x : Int) < 0))) || (decide ((y : Int) < 0))) == false) rfl (fun hg => (LT_move rfl rfl)) <| okG ((((((I.L.C : Int) != J.L.C) || ((I.L.B : Int) != J.L.B)) || (decide ((x : Int) < 0))) || (decide ((y : Int) < 0))) == false) rfl (fun hg => (LT_fieldAddr rfl rfl Try.underlying31 rfl inf3 (by decide) _ rfl)) <| okG ((((((I.L.C : Int) != J.L.C) || ((I.L.B : Int) != J.L.B)) || (decide ((x : Int) < 0))) || (decide ((y : Int) < 0))) == false) rfl (fun hg => (LT_load 1 rfl (opnT rfl hg) rfl (List.Mem.head _) Try.underlying3 inf3 (by simp [imC]) (.inr ⟨rfl, rfl, rfl⟩))) <| okG ((((((I.L.C : Int) != J.L.C) || ((I.L.B : Int) != J.L.B)) || (decide ((x : Int) < 0))) || (decide ((y : Int) < 0))) == false) rfl (fun hg => (LT_fieldAddr rfl rfl Try.underlying31 rfl inf3 (by decide) _ rfl)) <| okG ((((((I.L.C : Int) != J.L.C) || ((I.L.B : Int) != J.L.B)) || (decide ((x : Int) < 0))) || (decide ((y : Int) < 0))) == false) rfl (fun hg => (LT_load 1 rfl (opnT rfl hg) rfl (List.Mem.head _) Try.underlying3 inf3 (by simp [imC]) (.inr ⟨rfl, rfl, rfl⟩))) <| okG ((((((I.L.C : Int) != J.L.C) || ((I.L.B : Int) != J.L.B)) || (decide ((x : Int) < 0))) || (decide ((y : Int) < 0))) == false) rfl (fun hg => (LT_sub rfl (opnT rfl hg) (opnT rfl hg) (wi64 (by omega) (by omega)))) <| okG ((((((I.L.C : Int) != J.L.C) || ((I.L.B : Int) != J.L.B)) || (decide ((x : Int) < 0))) || (decide ((y : Int) < 0))) == false) rfl (fun hg => (LT_cmp rfl rfl (opnT rfl hg) (opnT rfl hg) rfl)) <| okY rfl (LT_por rfl rfl rfl (fun h => by rw [h]; rfl)) <| okY rfl (LT_move rfl rfl) <| okG (((((((I.L.C : Int) != J.L.C) || ((I.L.B : Int) != J.L.B)) || (decide ((x : Int) < 0))) || (decide ((y : Int) < 0))) || (decide (((I.L.W - J.L.W) : Int) < x))) == false) rfl (fun hg => (LT_move rfl rfl)) <| okG (((((((I.L.C : Int) != J.L.C) || ((I.L.B : Int) != J.L.B)) || (decide ((x : Int) < 0))) || (decide ((y : Int) < 0))) || (decide (((I.L.W - J.L.W) : Int) < x))) == false) rfl (fun hg => (LT_fieldAddr rfl rfl Try.underlying31 rfl inf3 (by decide) _ rfl)) <| okG (((((((I.L.C : Int) != J.L.C) || ((I.L.B : Int) != J.L.B)) || (decide ((x : Int) < 0))) || (decide ((y : Int) < 0))) || (decide (((I.L.W - J.L.W) : Int) < x))) == false) rfl (fun hg => (LT_load 1 rfl (opnT rfl hg) rfl (List.Mem.head _) Try.underlying3 inf3 (by simp [imC]) (.inr ⟨rfl, rfl, rfl⟩))) <| okG (((((((I.L.C : Int) != J.L.C) || ((I.L.B : Int) != J.L.B)) || (decide ((x : Int) < 0))) || (decide ((y : Int) < 0))) || (decide (((I.L.W - J.L.W) : Int) < x))) == false) rfl (fun hg => (LT_fieldAddr rfl rfl Try.underlying31 rfl inf3 (by decide) _ rfl)) <| okG (((((((I.L.C : Int) != J.L.C) || ((I.L.B : Int) != J.L.B)) || (decide ((x : Int) < 0))) || (decide ((y : Int) < 0))) || (decide (((I.L.W - J.L.W) : Int) < x))) == false) rfl (fun hg => (LT_load 1 rfl (opnT rfl hg) rfl (List.Mem.head _) Try.underlying3 inf3 (by simp [imC]) (.inr ⟨rfl, rfl, rfl⟩))) <| okG (((((((I.L.C : Int) != J.L.C) || ((I.L.B : Int) != J.L.B)) || (decide ((x : Int) < 0))) || (decide ((y : Int) < 0))) || (decide (((I.L.W - J.L.W) : Int) < x))) == false) rfl (fun hg => (LT_sub rfl (opnT rfl hg) (opnT rfl hg) (wi64 (by omega) (by omega)))) <| okG (((((((I.L.C : Int) != J.L.C) || ((I.L.B : Int) != J.L.B)) || (decide ((x : Int) < 0))) || (decide ((y : Int) < 0))) || (decide (((I.L.W - J.L.W) : Int) < x))) == false) rfl (fun hg => (LT_cmp rfl rfl (opnT rfl hg) (opnT rfl hg) rfl)) <| okY rfl (LT_por rfl rfl rfl (fun h => by rw [h]; rfl)) <| okE
    change AW _ _ _ _ _ _
    refine aw_weak (weak_of [(2, .d (.int .i64 x)), (3, .d (.int .i64 y)), (4, .ptr 1 0), (5, .ptr 2 0), (8, .ptr 3 0), (60, .d (.bool (((((((I.L.C : Int) != J.L.C) || ((I.L.B : Int) != J.L.B)) || (decide ((x : Int) < 0))) || (decide ((y : Int) < 0))) || (decide (((I.L.W - J.L.W) : Int) < x))) || (decide (((I.L.H - J.L.H) : Int) < y)))))] [(1, some ⟨31, 7, (imC I)⟩), (2, some ⟨31, 7, (imC J)⟩), (3, some ⟨31, 7, [.d (.int .i64 0), .d (.int .i64 0), .d (.int .i64 0), .d (.int .i64 0), .d (.bool false), .d (.int .i64 0), .d (.str (⟨#[]⟩))]⟩)] [1, 2, 3] (sE rfl (sE rfl (sE rfl (sE rfl (sE rfl (sE rfl sE0)))))) (sH rfl (sH rfl (sH rfl sH0))) (by kernel_rfl)) ?_
    refine aw_cond (((((((I.L.C : Int) != J.L.C) || ((I.L.B : Int) != J.L.B)) || (decide ((x : Int) < 0))) || (decide ((y : Int) < 0))) || (decide (((I.L.W - J.L.W) : Int) < x))) || (decide (((I.L.H - J.L.H) : Int) < y))) rfl (fun hb2 => ?_) (fun hb2 => ?_)
    ·
      refine aw_seq ?_
      refine aw_region_seq [⟨.agg [.d (.int .i64 0), .d (.int .i64 0), .d (.int .i64 0), .d (.int .i64 0), .d (.bool false), .d (.int .i64 0), .d (.str (⟨#[]⟩))], [], [], []⟩, ⟨.tup [], [(3, some ⟨31, 7, [.d (.int .i64 0), .d (.int .i64 0), .d (.int .i64 0), .d (.int .i64 0), .d (.bool false), .d (.int .i64 0), .d (.str (⟨#[]⟩))]⟩)], [], [3]⟩, ⟨.d (.int .i64 2), [], [], []⟩] (by kernel_rfl) (by kernel_rfl) (fun id _ => hG id) ?_ ?_
      · exact okY rfl (LT_build (qs := []) (fun j => (#[(0, 1), (1, 1), (2, 1), (3, 1), (4, 1), (5, 1), (6, 1)] : Array (Nat × Nat))[j]?) rfl Try.underlying31 inf31 rfl rfl (.inl ⟨_, rfl, by kernel_rfl, by kernel_rfl⟩) rfl) <| okY rfl (LT_store (ob := ⟨31, 7, [.d (.int .i64 0), .d (.int .i64 0), .d (.int .i64 0), .d (.int .i64 0), .d (.bool false), .d (.int .i64 0), .d (.str (⟨#[]⟩))]⟩) (x := .agg [.d (.int .i64 0), .d (.int .i64 0), .d (.int .i64 0), .d (.int .i64 0), .d (.bool false), .d (.int .i64 0), .d (.str (⟨#[]⟩))]) rfl rfl rfl (List.Mem.head _) inf31 rfl rfl rfl (by simp [X.cells, imC]) _ rfl) <| okY rfl (LT_assign rfl rfl) <| okE
      change AW _ _ _ _ _ _
      refine aw_weak (weak_of [(8, .ptr 3 0), (9, .d (.int .i64 2))] [(3, some ⟨31, 7, [.d (.int .i64 0), .d (.int .i64 0), .d (.int .i64 0), .d (.int .i64 0), .d (.bool false), .d (.int .i64 0), .d (.str (⟨#[]⟩))]⟩)] [3] (sE rfl (sE rfl sE0)) (sH rfl sH0) (by kernel_rfl)) ?_
      refine aw_ret ?_
      refine finN (xs := [.agg [.d (.int .i64 0), .d (.int .i64 0), .d (.int .i64 0), .d (.int .i64 0), .d (.bool false), .d (.int .i64 0), .d (.str (⟨#[]⟩))], .d (.int .i64 2)]) (l := [.cell 8 31, .tmp 9]) (.inl rfl) Try.results32 (rL ⟨3, 0, _, _, _, 7, rfl, rfl, Try.underlying31, inf31, by simp [imC], .inl ⟨rfl, rfl, rfl⟩⟩ (rL rfl (rL0))) (by simp [imC]) ?_
      rw [pas_f2 hv hv2 (by simpa only [Bool.or_eq_true, decide_eq_true_eq, bne_iff_ne] using hb2)]
      rfl
    ·
      have hc : PasIn I J x y := pas_in (by simpa only [Bool.or_eq_false_iff, decide_eq_false_iff_not, bne_eq_false_iff_eq] using hb2)
      have hc1 := hc.c
      have hc5 := hc.x0
      have hc6 := hc.x1
      have hc7 := hc.y0
      have hc8 := hc.y1
      refine aw_skip ?_
      change AW _ _ _ _ _ _
      refine aw_weak (weak_of [(2, .d (.int .i64 x)), (3, .d (.int .i64 y)), (4, .ptr 1 0), (5, .ptr 2 0), (8, .ptr 3 0)] [(1, some ⟨31, 7, (imC I)⟩), (2, some ⟨31, 7, (imC J)⟩), (3, some ⟨31, 7, [.d (.int .i64 0), .d (.int .i64 0), .d (.int .i64 0), .d (.int .i64 0), .d (.bool false), .d (.int .i64 0), .d (.str (⟨#[]⟩))]⟩)] [1, 2, 3] (sE rfl (sE rfl (sE rfl (sE rfl (sE rfl sE0))))) (sH rfl (sH rfl (sH rfl sH0))) (by kernel_rfl)) ?_
      refine aw_seq ?_
      refine aw_seq ?_
      refine aw_region_seq [⟨.d (.int .i64 0), [], [], []⟩] (by kernel_rfl) (by kernel_rfl) (fun id _ => hG id) ?_ ?_
      · exact okY rfl (LT_assign rfl rfl) <| okE
      change AW _ _ _ _ _ _
      refine aw_weak (weak_of [(2, .d (.int .i64 x)), (3, .d (.int .i64 y)), (4, .ptr 1 0), (5, .ptr 2 0), (8, .ptr 3 0), (10, .d (.int .i64 0))] [(1, some ⟨31, 7, (imC I)⟩), (2, some ⟨31, 7, (imC J)⟩), (3, some ⟨31, 7, [.d (.int .i64 0), .d (.int .i64 0), .d (.int .i64 0), .d (.int .i64 0), .d (.bool false), .d (.int .i64 0), .d (.str (⟨#[]⟩))]⟩)] [1, 2, 3] (sE rfl (sE rfl (sE rfl (sE rfl (sE rfl (sE rfl sE0)))))) (sH rfl (sH rfl (sH rfl sH0))) (by kernel_rfl)) ?_
      refine aw_block ?_
      refine aw_loopJ (fun j => ⟨[(2, .d (.int .i64 x)), (3, .d (.int .i64 y)), (4, .ptr 1 0), (5, .ptr 2 0), (8, .ptr 3 0), (10, .d (.int .i64 ((j : Nat) : Int)))], [(1, some ⟨31, 7, (imC (imF I.L (rowF (J.L.fn J.O) (I.L.fn I.O) 0 0 x y J.L.W j 0)))⟩), (2, some ⟨31, 7, (imC J)⟩), (3, some ⟨31, 7, [.d (.int .i64 0), .d (.int .i64 0), .d (.int .i64 0), .d (.int .i64 0), .d (.bool false), .d (.int .i64 0), .d (.str (⟨#[]⟩))]⟩)], [1, 2, 3]⟩) (fun j => ((j : Nat) : Int) ≤ J.L.H) (fun j => J.L.H.toNat - j) 0 (by omega) ?_ ?_
      · exact weak_of _ _ _ (sE rfl (sE rfl (sE rfl (sE rfl (sE rfl (sE rfl sE0)))))) (sH (congrArg (fun K => some (Ob.mk 31 7 (imC K))) (pas_init hv)) (sH rfl (sH rfl sH0))) (by kernel_rfl)
      intro j hj0
      refine aw_seq ?_
      refine aw_seq ?_
      refine aw_region_seq [⟨.d (.int .i64 ((j : Nat) : Int)), [], [], []⟩, ⟨.ptr 2 1, [], [], []⟩, ⟨.d (.int .i64 J.L.H), [], [], [2]⟩, ⟨.d (.bool (decide ((((j : Nat) : Int) : Int) < J.L.H))), [], [], []⟩] (by kernel_rfl) (by kernel_rfl) (fun id _ => hG id) ?_ ?_
      · exact okY rfl (LT_move rfl rfl) <| okY rfl (LT_fieldAddr rfl rfl Try.underlying31 rfl inf3 (by decide) _ rfl) <| okY rfl (LT_load 1 rfl rfl rfl (List.Mem.head _) Try.underlying3 inf3 (by simp [imC]) (.inr ⟨rfl, rfl, rfl⟩)) <| okY rfl (LT_cmp rfl rfl rfl rfl rfl) <| okE
      change AW _ _ _ _ _ _
      refine aw_weak (weak_of [(2, .d (.int .i64 x)), (3, .d (.int .i64 y)), (4, .ptr 1 0), (5, .ptr 2 0), (8, .ptr 3 0), (10, .d (.int .i64 ((j : Nat) : Int))), (65, .d (.bool (decide ((((j : Nat) : Int) : Int) < J.L.H))))] [(1, some ⟨31, 7, (imC (imF I.L (rowF (J.L.fn J.O) (I.L.fn I.O) 0 0 x y J.L.W j 0)))⟩), (2, some ⟨31, 7, (imC J)⟩), (3, some ⟨31, 7, [.d (.int .i64 0), .d (.int .i64 0), .d (.int .i64 0), .d (.int .i64 0), .d (.bool false), .d (.int .i64 0), .d (.str (⟨#[]⟩))]⟩)] [1, 2, 3] (sE rfl (sE rfl (sE rfl (sE rfl (sE rfl (sE rfl (sE rfl sE0))))))) (sH rfl (sH rfl (sH rfl sH0))) (by kernel_rfl)) ?_
      refine aw_cond (decide ((((j : Nat) : Int) : Int) < J.L.H)) rfl (fun hb3 => ?_) (fun hb3 => ?_)
      ·
        replace hb3 := of_decide_eq_true hb3
        refine aw_skip ?_
        change AW _ _ _ _ _ _
        refine aw_weak (weak_of [(2, .d (.int .i64 x)), (3, .d (.int .i64 y)), (4, .ptr 1 0), (5, .ptr 2 0), (8, .ptr 3 0), (10, .d (.int .i64 ((j : Nat) : Int)))] [(1, some ⟨31, 7, (imC (imF I.L (rowF (J.L.fn J.O) (I.L.fn I.O) 0 0 x y J.L.W j 0)))⟩), (2, some ⟨31, 7, (imC J)⟩), (3, some ⟨31, 7, [.d (.int .i64 0), .d (.int .i64 0), .d (.int .i64 0), .d (.int .i64 0), .d (.bool false), .d (.int .i64 0), .d (.str (⟨#[]⟩))]⟩)] [1, 2, 3] (sE rfl (sE rfl (sE rfl (sE rfl (sE rfl (sE rfl sE0)))))) (sH rfl (sH rfl (sH rfl sH0))) (by kernel_rfl)) ?_
        refine aw_seq ?_
        refine aw_block ?_
        refine aw_seq ?_
        refine aw_region_seq [⟨.d (.int .i64 0), [], [], []⟩] (by kernel_rfl) (by kernel_rfl) (fun id _ => hG id) ?_ ?_
        · exact okY rfl (LT_assign rfl rfl) <| okE
        change AW _ _ _ _ _ _
        refine aw_weak (weak_of [(2, .d (.int .i64 x)), (3, .d (.int .i64 y)), (4, .ptr 1 0), (5, .ptr 2 0), (8, .ptr 3 0), (10, .d (.int .i64 ((j : Nat) : Int))), (11, .d (.int .i64 0))] [(1, some ⟨31, 7, (imC (imF I.L (rowF (J.L.fn J.O) (I.L.fn I.O) 0 0 x y J.L.W j 0)))⟩), (2, some ⟨31, 7, (imC J)⟩), (3, some ⟨31, 7, [.d (.int .i64 0), .d (.int .i64 0), .d (.int .i64 0), .d (.int .i64 0), .d (.bool false), .d (.int .i64 0), .d (.str (⟨#[]⟩))]⟩)] [1, 2, 3] (sE rfl (sE rfl (sE rfl (sE rfl (sE rfl (sE rfl (sE rfl sE0))))))) (sH rfl (sH rfl (sH rfl sH0))) (by kernel_rfl)) ?_
        refine aw_block ?_
        refine aw_loopJ (fun i => ⟨[(2, .d (.int .i64 x)), (3, .d (.int .i64 y)), (4, .ptr 1 0), (5, .ptr 2 0), (8, .ptr 3 0), (10, .d (.int .i64 ((j : Nat) : Int))), (11, .d (.int .i64 ((i : Nat) : Int)))], [(1, some ⟨31, 7, (imC (imF I.L (rowF (J.L.fn J.O) (I.L.fn I.O) 0 0 x y J.L.W j i)))⟩), (2, some ⟨31, 7, (imC J)⟩), (3, some ⟨31, 7, [.d (.int .i64 0), .d (.int .i64 0), .d (.int .i64 0), .d (.int .i64 0), .d (.bool false), .d (.int .i64 0), .d (.str (⟨#[]⟩))]⟩)], [1, 2, 3]⟩) (fun i => ((i : Nat) : Int) ≤ J.L.W) (fun i => J.L.W.toNat - i) 0 (by omega) ?_ ?_
        · exact weak_of _ _ _ (sE rfl (sE rfl (sE rfl (sE rfl (sE rfl (sE rfl (sE rfl sE0))))))) (sH rfl (sH rfl (sH rfl sH0))) (by kernel_rfl)
        intro i hi0
        refine aw_seq ?_
        refine aw_seq ?_
        refine aw_region_seq [⟨.d (.int .i64 ((i : Nat) : Int)), [], [], []⟩, ⟨.ptr 2 0, [], [], []⟩, ⟨.d (.int .i64 J.L.W), [], [], [2]⟩, ⟨.d (.bool (decide ((((i : Nat) : Int) : Int) < J.L.W))), [], [], []⟩] (by kernel_rfl) (by kernel_rfl) (fun id _ => hG id) ?_ ?_
        · exact okY rfl (LT_move rfl rfl) <| okY rfl (LT_fieldAddr rfl rfl Try.underlying31 rfl inf3 (by decide) _ rfl) <| okY rfl (LT_load 1 rfl rfl rfl (List.Mem.head _) Try.underlying3 inf3 (by simp [imC]) (.inr ⟨rfl, rfl, rfl⟩)) <| okY rfl (LT_cmp rfl rfl rfl rfl rfl) <| okE
        change AW _ _ _ _ _ _
        refine aw_weak (weak_of [(2, .d (.int .i64 x)), (3, .d (.int .i64 y)), (4, .ptr 1 0), (5, .ptr 2 0), (8, .ptr 3 0), (10, .d (.int .i64 ((j : Nat) : Int))), (11, .d (.int .i64 ((i : Nat) : Int))), (71, .d (.bool (decide ((((i : Nat) : Int) : Int) < J.L.W))))] [(1, some ⟨31, 7, (imC (imF I.L (rowF (J.L.fn J.O) (I.L.fn I.O) 0 0 x y J.L.W j i)))⟩), (2, some ⟨31, 7, (imC J)⟩), (3, some ⟨31, 7, [.d (.int .i64 0), .d (.int .i64 0), .d (.int .i64 0), .d (.int .i64 0), .d (.bool false), .d (.int .i64 0), .d (.str (⟨#[]⟩))]⟩)] [1, 2, 3] (sE rfl (sE rfl (sE rfl (sE rfl (sE rfl (sE rfl (sE rfl (sE rfl sE0)))))))) (sH rfl (sH rfl (sH rfl sH0))) (by kernel_rfl)) ?_
        refine aw_cond (decide ((((i : Nat) : Int) : Int) < J.L.W)) rfl (fun hb4 => ?_) (fun hb4 => ?_)
        ·
          replace hb4 := of_decide_eq_true hb4
          refine aw_skip ?_
          change AW _ _ _ _ _ _
          refine aw_weak (weak_of [(2, .d (.int .i64 x)), (3, .d (.int .i64 y)), (4, .ptr 1 0), (5, .ptr 2 0), (8, .ptr 3 0), (10, .d (.int .i64 ((j : Nat) : Int))), (11, .d (.int .i64 ((i : Nat) : Int)))] [(1, some ⟨31, 7, (imC (imF I.L (rowF (J.L.fn J.O) (I.L.fn I.O) 0 0 x y J.L.W j i)))⟩), (2, some ⟨31, 7, (imC J)⟩), (3, some ⟨31, 7, [.d (.int .i64 0), .d (.int .i64 0), .d (.int .i64 0), .d (.int .i64 0), .d (.bool false), .d (.int .i64 0), .d (.str (⟨#[]⟩))]⟩)] [1, 2, 3] (sE rfl (sE rfl (sE rfl (sE rfl (sE rfl (sE rfl (sE rfl sE0))))))) (sH rfl (sH rfl (sH rfl sH0))) (by kernel_rfl)) ?_
          refine aw_seq ?_
          refine aw_block ?_
          refine aw_seq ?_
          refine aw_region_seq [⟨.agg (imC J), [], [], [2]⟩, ⟨.d (.int .i64 ((i : Nat) : Int)), [], [], []⟩, ⟨.d (.int .i64 ((j : Nat) : Int)), [], [], []⟩, ⟨.tup [.d (.slw J.L.C.toNat 1 (intsD ((List.range J.L.C.toNat).map fun c => J.L.fn J.O ((i : Nat) : Int) ((j : Nat) : Int) (c : Nat)))), .d (.int .i64 0)], [], [], []⟩, ⟨.tup [.d (.slw J.L.C.toNat 1 (intsD ((List.range J.L.C.toNat).map fun c => J.L.fn J.O ((i : Nat) : Int) ((j : Nat) : Int) (c : Nat)))), .d (.int .i64 0)], [], [], []⟩, ⟨.d (.slw J.L.C.toNat 1 (intsD ((List.range J.L.C.toNat).map fun c => J.L.fn J.O ((i : Nat) : Int) ((j : Nat) : Int) (c : Nat)))), [], [], []⟩, ⟨.d (.int .i64 0), [], [], []⟩, ⟨.d (.slw J.L.C.toNat 1 (intsD ((List.range J.L.C.toNat).map fun c => J.L.fn J.O ((i : Nat) : Int) ((j : Nat) : Int) (c : Nat)))), [], [], []⟩, ⟨.d (.int .i64 0), [], [], []⟩] (by kernel_rfl) (by kernel_rfl) (fun id _ => hG id) ?_ ?_
          · exact okY rfl (LT_load 7 rfl rfl rfl (List.Mem.head _) Try.underlying31 inf31 (by simp [imC]) (.inl ⟨rfl, rfl, rfl⟩)) <| okY rfl (LT_move rfl rfl) <| okY rfl (LT_move rfl rfl) <| okY rfl (LT_call [.agg (imC J), .d (.int .i64 ((i : Nat) : Int)), .d (.int .i64 ((j : Nat) : Int))] rfl rfl Try.call20 rfl ((pc_rget' (getR_ok J hv2 _ _ (by omega) (by omega) (by omega) (by omega)) (by simp [imC])).ct rfl)) <| okY rfl (LT_move rfl rfl) <| okY rfl (LT_extract rfl rfl rfl) <| okY rfl (LT_extract rfl rfl rfl) <| okY rfl (LT_assign rfl rfl) <| okY rfl (LT_assign rfl rfl) <| okE
          change AW _ _ _ _ _ _
          refine aw_weak (weak_of [(2, .d (.int .i64 x)), (3, .d (.int .i64 y)), (4, .ptr 1 0), (5, .ptr 2 0), (8, .ptr 3 0), (10, .d (.int .i64 ((j : Nat) : Int))), (11, .d (.int .i64 ((i : Nat) : Int))), (12, .d (.slw J.L.C.toNat 1 (intsD ((List.range J.L.C.toNat).map fun c => J.L.fn J.O ((i : Nat) : Int) ((j : Nat) : Int) (c : Nat)))))] [(1, some ⟨31, 7, (imC (imF I.L (rowF (J.L.fn J.O) (I.L.fn I.O) 0 0 x y J.L.W j i)))⟩), (2, some ⟨31, 7, (imC J)⟩), (3, some ⟨31, 7, [.d (.int .i64 0), .d (.int .i64 0), .d (.int .i64 0), .d (.int .i64 0), .d (.bool false), .d (.int .i64 0), .d (.str (⟨#[]⟩))]⟩)] [1, 2, 3] (sE rfl (sE rfl (sE rfl (sE rfl (sE rfl (sE rfl (sE rfl (sE rfl sE0)))))))) (sH rfl (sH rfl (sH rfl sH0))) (by kernel_rfl)) ?_
          have hi : ((i : Nat) : Int) < J.L.W := by omega
          have hj : ((j : Nat) : Int) < J.L.H := by omega
          refine aw_region_seq [⟨.agg (imC (imF I.L (rowF (J.L.fn J.O) (I.L.fn I.O) 0 0 x y J.L.W j i))), [], [], [1]⟩, ⟨.d (.int .i64 x), [], [], []⟩, ⟨.d (.int .i64 ((i : Nat) : Int)), [], [], []⟩, ⟨.d (.int .i64 (x + ((i : Nat) : Int))), [], [], []⟩, ⟨.d (.int .i64 y), [], [], []⟩, ⟨.d (.int .i64 ((j : Nat) : Int)), [], [], []⟩, ⟨.d (.int .i64 (y + ((j : Nat) : Int))), [], [], []⟩, ⟨.d (.slw J.L.C.toNat 1 (intsD ((List.range J.L.C.toNat).map fun c => J.L.fn J.O ((i : Nat) : Int) ((j : Nat) : Int) (c : Nat)))), [], [], []⟩, ⟨.agg (imC (imF I.L (rowF (J.L.fn J.O) (I.L.fn I.O) 0 0 x y J.L.W j (i + 1)))), [], [], []⟩, ⟨.tup [], [(1, some ⟨31, 7, (imC (imF I.L (rowF (J.L.fn J.O) (I.L.fn I.O) 0 0 x y J.L.W j (i + 1))))⟩)], [], [1]⟩] (by kernel_rfl) (by kernel_rfl) (fun id _ => hG id) ?_ ?_
          · exact okY rfl (LT_load 7 rfl rfl rfl (List.Mem.head _) Try.underlying31 inf31 (by simp [imC]) (.inl ⟨rfl, rfl, rfl⟩)) <| okY rfl (LT_move rfl rfl) <| okY rfl (LT_move rfl rfl) <| okY rfl (LT_add rfl rfl rfl (wi64 (by omega) (by omega))) <| okY rfl (LT_move rfl rfl) <| okY rfl (LT_move rfl rfl) <| okY rfl (LT_add rfl rfl rfl (wi64 (by omega) (by omega))) <| okY rfl (LT_move rfl rfl) <| okY rfl (LT_call [.agg (imC (imF I.L (rowF (J.L.fn J.O) (I.L.fn I.O) 0 0 x y J.L.W j i))), .d (.int .i64 (x + ((i : Nat) : Int))), .d (.int .i64 (y + ((j : Nat) : Int))), .d (.slw J.L.C.toNat 1 (intsD ((List.range J.L.C.toNat).map fun c => J.L.fn J.O ((i : Nat) : Int) ((j : Nat) : Int) (c : Nat))))] rfl rfl Try.call52 rfl ((pas_put hv hv2 hc hi hj).ct rfl)) <| okY rfl (LT_store (ob := ⟨31, 7, (imC (imF I.L (rowF (J.L.fn J.O) (I.L.fn I.O) 0 0 x y J.L.W j i)))⟩) (x := .agg (imC (imF I.L (rowF (J.L.fn J.O) (I.L.fn I.O) 0 0 x y J.L.W j (i + 1))))) rfl rfl rfl (List.Mem.head _) inf31 rfl rfl rfl (by simp [X.cells, imC]) _ rfl) <| okE
          change AW _ _ _ _ _ _
          refine aw_weak (weak_of [(2, .d (.int .i64 x)), (3, .d (.int .i64 y)), (4, .ptr 1 0), (5, .ptr 2 0), (8, .ptr 3 0), (10, .d (.int .i64 ((j : Nat) : Int))), (11, .d (.int .i64 ((i : Nat) : Int)))] [(1, some ⟨31, 7, (imC (imF I.L (rowF (J.L.fn J.O) (I.L.fn I.O) 0 0 x y J.L.W j (i + 1))))⟩), (2, some ⟨31, 7, (imC J)⟩), (3, some ⟨31, 7, [.d (.int .i64 0), .d (.int .i64 0), .d (.int .i64 0), .d (.int .i64 0), .d (.bool false), .d (.int .i64 0), .d (.str (⟨#[]⟩))]⟩)] [1, 2, 3] (sE rfl (sE rfl (sE rfl (sE rfl (sE rfl (sE rfl (sE rfl sE0))))))) (sH rfl (sH rfl (sH rfl sH0))) (by kernel_rfl)) ?_
          refine aw_region_seq [⟨.d (.int .i64 ((i : Nat) : Int)), [], [], []⟩, ⟨.d (.int .i64 (((i : Nat) : Int) + 1)), [], [], []⟩, ⟨.d (.int .i64 (((i : Nat) : Int) + 1)), [], [], []⟩] (by kernel_rfl) (by kernel_rfl) (fun id _ => hG id) ?_ ?_
          · exact okY rfl (LT_move rfl rfl) <| okY rfl (LT_add rfl rfl rfl (wi64 (by omega) (by omega))) <| okY rfl (LT_assign rfl rfl) <| okE
          exact ⟨(i + 1), by omega, by omega, weak_of _ _ _ (sE rfl (sE rfl (sE rfl (sE rfl (sE rfl (sE rfl (sE rfl sE0))))))) (sH rfl (sH rfl (sH rfl sH0))) (by kernel_rfl)⟩
        ·
          replace hb4 := of_decide_eq_false hb4
          refine aw_exit ?_
          change AW _ _ _ _ _ _
          refine aw_weak (weak_of [(2, .d (.int .i64 x)), (3, .d (.int .i64 y)), (4, .ptr 1 0), (5, .ptr 2 0), (8, .ptr 3 0), (10, .d (.int .i64 ((j : Nat) : Int)))] [(1, some ⟨31, 7, (imC (imF I.L (rowF (J.L.fn J.O) (I.L.fn I.O) 0 0 x y J.L.W j i)))⟩), (2, some ⟨31, 7, (imC J)⟩), (3, some ⟨31, 7, [.d (.int .i64 0), .d (.int .i64 0), .d (.int .i64 0), .d (.int .i64 0), .d (.bool false), .d (.int .i64 0), .d (.str (⟨#[]⟩))]⟩)] [1, 2, 3] (sE rfl (sE rfl (sE rfl (sE rfl (sE rfl (sE rfl sE0)))))) (sH rfl (sH rfl (sH rfl sH0))) (by kernel_rfl)) ?_
          refine aw_region_seq [⟨.d (.int .i64 ((j : Nat) : Int)), [], [], []⟩, ⟨.d (.int .i64 (((j : Nat) : Int) + 1)), [], [], []⟩, ⟨.d (.int .i64 (((j : Nat) : Int) + 1)), [], [], []⟩] (by kernel_rfl) (by kernel_rfl) (fun id _ => hG id) ?_ ?_
          · exact okY rfl (LT_move rfl rfl) <| okY rfl (LT_add rfl rfl rfl (wi64 (by omega) (by omega))) <| okY rfl (LT_assign rfl rfl) <| okE
          exact ⟨(j + 1), by omega, by omega, weak_of _ _ _ (sE rfl (sE rfl (sE rfl (sE rfl (sE rfl (sE rfl sE0)))))) (sH (congrArg (fun F => some (Ob.mk 31 7 (imC (imF I.L F)))) (row_full (show ((i : Nat) : Int) = J.L.W by omega))) (sH rfl (sH rfl sH0))) (by kernel_rfl)⟩
      ·
        replace hb3 := of_decide_eq_false hb3
        refine aw_exit ?_
        change AW _ _ _ _ _ _
        refine aw_weak (weak_of [(4, .ptr 1 0), (8, .ptr 3 0)] [(1, some ⟨31, 7, (imC (imF I.L (rowF (J.L.fn J.O) (I.L.fn I.O) 0 0 x y J.L.W j 0)))⟩), (3, some ⟨31, 7, [.d (.int .i64 0), .d (.int .i64 0), .d (.int .i64 0), .d (.int .i64 0), .d (.bool false), .d (.int .i64 0), .d (.str (⟨#[]⟩))]⟩)] [1, 3] (sE rfl (sE rfl sE0)) (sH rfl (sH rfl sH0)) (by kernel_rfl)) ?_
        refine aw_seq ?_
        refine aw_region_seq [⟨.agg (imC (imF I.L (rowF (J.L.fn J.O) (I.L.fn I.O) 0 0 x y J.L.W j 0))), [], [], [1]⟩, ⟨.tup [], [(3, some ⟨31, 7, (imC (imF I.L (rowF (J.L.fn J.O) (I.L.fn I.O) 0 0 x y J.L.W j 0)))⟩)], [], [3]⟩, ⟨.d (.int .i64 0), [], [], []⟩] (by kernel_rfl) (by kernel_rfl) (fun id _ => hG id) ?_ ?_
        · exact okY rfl (LT_load 7 rfl rfl rfl (List.Mem.head _) Try.underlying31 inf31 (by simp [imC]) (.inl ⟨rfl, rfl, rfl⟩)) <| okY rfl (LT_store (ob := ⟨31, 7, [.d (.int .i64 0), .d (.int .i64 0), .d (.int .i64 0), .d (.int .i64 0), .d (.bool false), .d (.int .i64 0), .d (.str (⟨#[]⟩))]⟩) (x := .agg (imC (imF I.L (rowF (J.L.fn J.O) (I.L.fn I.O) 0 0 x y J.L.W j 0)))) rfl rfl rfl (List.Mem.head _) inf31 rfl rfl rfl (by simp [X.cells, imC]) _ rfl) <| okY rfl (LT_assign rfl rfl) <| okE
        change AW _ _ _ _ _ _
        refine aw_weak (weak_of [(8, .ptr 3 0), (9, .d (.int .i64 0))] [(3, some ⟨31, 7, (imC (imF I.L (rowF (J.L.fn J.O) (I.L.fn I.O) 0 0 x y J.L.W j 0)))⟩)] [3] (sE rfl (sE rfl sE0)) (sH rfl sH0) (by kernel_rfl)) ?_
        refine aw_ret ?_
        refine finN (xs := [.agg (imC (imF I.L (rowF (J.L.fn J.O) (I.L.fn I.O) 0 0 x y J.L.W j 0))), .d (.int .i64 0)]) (l := [.cell 8 31, .tmp 9]) (.inl rfl) Try.results32 (rL ⟨3, 0, _, _, _, 7, rfl, rfl, Try.underlying31, inf31, by simp [imC], .inl ⟨rfl, rfl, rfl⟩⟩ (rL rfl (rL0))) (by simp [imC]) ?_
        rw [pas_f3 (j := j) hv hv2 hc (by omega)]
        rfl

end Go.Proofs.Ytphfbjeaklpddaa
