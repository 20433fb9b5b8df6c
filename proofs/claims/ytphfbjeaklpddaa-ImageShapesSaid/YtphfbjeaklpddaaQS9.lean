/-
  Joined texts: Layer 42: three images. · Layer 42, the reference: Set. · The calculus of states: slices of the call's own that grow by append; a slice that is done · Layer 42: what the laws on Get and Set need.
-/
import Derived.Test.YtphfbjeaklpddaaQS8
import Derived.Laws.AppendOwn
set_option linter.unusedSimpArgs false
set_option linter.unusedVariables false

/- Layer 42: three images. -/
namespace Go.Proofs.Ytphfbjeaklpddaa
open Go.RowKit

structure Bn.ok (b : Bn) : Prop where
  wh : 0 ≤ b.wh ∧ b.wh < 256
  ap : 0 ≤ b.ap ∧ b.ap < 256
  oc : 0 ≤ b.oc ∧ b.oc < 256

def Bn.at (b : Bn) (I : Im) : Im := b.of (b.ap % ((I.O.size : Int) + 1)) I
def bnX (b : Bn) : X := .agg [.d (.int .u8 b.wh), .d (.int .u8 b.ap), .d (.int .u8 b.oc), .d (.int .i64 b.n)]

def imC3 (m J1 J2 : Im) : List X := [.d (.int .i64 m.L.W), .d (.int .i64 m.L.H), .d (.int .i64 m.L.C), .d (.int .i64 m.L.B), .d (.bool m.L.pl), .d (.int .i64 m.L.P), .d (.str m.O), .d (.int .i64 J1.L.W), .d (.int .i64 J1.L.H), .d (.int .i64 J1.L.C), .d (.int .i64 J1.L.B), .d (.bool J1.L.pl), .d (.int .i64 J1.L.P), .d (.str J1.O), .d (.int .i64 J2.L.W), .d (.int .i64 J2.L.H), .d (.int .i64 J2.L.C), .d (.int .i64 J2.L.B), .d (.bool J2.L.pl), .d (.int .i64 J2.L.P), .d (.str J2.O)]
def bnC (b0 b1 : Bn) : List X := [.d (.int .u8 b0.wh), .d (.int .u8 b0.ap), .d (.int .u8 b0.oc), .d (.int .i64 b0.n), .d (.int .u8 b1.wh), .d (.int .u8 b1.ap), .d (.int .u8 b1.oc), .d (.int .i64 b1.n)]

theorem pc_of {b : Bn} {I J : Im} (hb : b.ok) (hO : I.O.size ≤ 1000000) (h : b.at I = J) : PC Try.prog 36 [bnX b, imX I] (imX J) := by
  subst h
  exact of_core b.wh b.ap b.oc b.n I.L.W I.L.H I.L.C I.L.B I.L.P _ I.L.pl I.O hb.wh hb.ap hb.oc hO rfl (Int.emod_nonneg _ (by omega)) (by have := Int.emod_lt_of_pos b.ap (show (0 : Int) < (I.O.size : Int) + 1 by omega); omega)

theorem im_size' (D : Dr) (hD : D.ok) : D.im.O.size ≤ 200000 := by
  have hv := vB_yes (im_vB D hD)
  have h1 := D.im.L.len_bd hv.1
  have h2 := hv.2.1
  omega
theorem im_size (D : Dr) (hD : D.ok) : D.im.O.size ≤ 1000000 := by have := im_size' D hD; omega
theorem at_size (b : Bn) (I : Im) (h : I.O.size ≤ 200000) : (b.at I).O.size ≤ 1000000 := by
  unfold Bn.at Bn.of
  have hs : (strD [b.oc]).size = 1 := by simp [strD, ByteArray.size]
  repeat' split
  all_goals (try simp only [ByteArray.size_append, ByteArray.size_extract]) <;> omega

theorem pc_rcheck (I : Im) : PC Try.prog 16 [imX I] (iX (chkR I)) := PC_old rfl rfl fun w => rcheck_any I w
theorem pc_rstride (I : Im) : PC Try.prog 14 [imX I] (.tup [iX (strR I).1, iX (strR I).2]) := PC_old rfl rfl fun w => rstride2_any I w
theorem pc_rmake (W H C B : Int) (pl : Bool) (Pd : Int) : PC Try.prog 18 [iX W, iX H, iX C, iX B, .d (.bool pl), iX Pd] (.tup [imX (makR ⟨W, H, C, B, pl, Pd⟩).1, iX (makR ⟨W, H, C, B, pl, Pd⟩).2]) := PC_old rfl rfl fun w => rmake_any ⟨W, H, C, B, pl, Pd⟩ w

set_option maxRecDepth 100000 in
set_option maxHeartbeats 2000000 in
theorem three_pc (D : Dr) (hD : D.ok) (b0 b1 : Bn) (m J1 J2 : Im) (hb0 : b0.ok) (hb1 : b1.ok) (hm : D.im = m) (hJ1 : b0.at m = J1) (hJ2 : b1.at J1 = J2) : PC Try.prog 12 [.agg (drC D), .agg (bnC b0 b1)] (.agg (imC3 m J1 J2)) := by
  refine PC_of (fn := Try.f12) Try.func12 rfl (by simp [Try.ntmps12]) (by kernel_rfl) fun G hG => ?_
  rw [Try.ntmps12]
  have hs0 : m.O.size ≤ 1000000 := by rw [← hm]; exact im_size D hD
  have hs1 : J1.O.size ≤ 1000000 := by
    rw [← hJ1]
    exact at_size b0 m (by rw [← hm]; exact im_size' D hD)
  refine aw_seq ?_
  refine aw_region_seq [⟨.ptr 1 0, [(1, some ⟨24, 7, (drC D)⟩)], [1], []⟩, ⟨.ptr 2 0, [(2, some ⟨27, 8, (bnC b0 b1)⟩)], [2], []⟩, ⟨.ptr 3 0, [(3, some ⟨32, 21, [.d (.int .i64 0), .d (.int .i64 0), .d (.int .i64 0), .d (.int .i64 0), .d (.bool false), .d (.int .i64 0), .d (.str (⟨#[]⟩)), .d (.int .i64 0), .d (.int .i64 0), .d (.int .i64 0), .d (.int .i64 0), .d (.bool false), .d (.int .i64 0), .d (.str (⟨#[]⟩)), .d (.int .i64 0), .d (.int .i64 0), .d (.int .i64 0), .d (.int .i64 0), .d (.bool false), .d (.int .i64 0), .d (.str (⟨#[]⟩))]⟩)], [3], []⟩] (by kernel_rfl) (by kernel_rfl) (fun id _ => hG id) ?_ ?_
  · exact okY rfl (LT_box (x := .agg (drC D)) 1 rfl rfl rfl 7 rfl (List.Mem.head _)) <| okY rfl (LT_box (x := .agg (bnC b0 b1)) 2 rfl rfl rfl 8 rfl (List.Mem.head _)) <| okY rfl (LT_alloc 3 rfl inf32 rfl 21 rfl (List.Mem.head _)) <| okE
  change AW _ _ _ _ _ _
  refine aw_weak (weak_of [(2, .ptr 1 0), (3, .ptr 2 0), (4, .ptr 3 0)] [(1, some ⟨24, 7, (drC D)⟩), (2, some ⟨27, 8, (bnC b0 b1)⟩), (3, some ⟨32, 21, [.d (.int .i64 0), .d (.int .i64 0), .d (.int .i64 0), .d (.int .i64 0), .d (.bool false), .d (.int .i64 0), .d (.str (⟨#[]⟩)), .d (.int .i64 0), .d (.int .i64 0), .d (.int .i64 0), .d (.int .i64 0), .d (.bool false), .d (.int .i64 0), .d (.str (⟨#[]⟩)), .d (.int .i64 0), .d (.int .i64 0), .d (.int .i64 0), .d (.int .i64 0), .d (.bool false), .d (.int .i64 0), .d (.str (⟨#[]⟩))]⟩)] [1, 2, 3] (sE rfl (sE rfl (sE rfl sE0))) (sH rfl (sH rfl (sH rfl sH0))) (by kernel_rfl)) ?_
  refine aw_seq ?_
  refine aw_region_seq [⟨.agg (drC D), [], [], [1]⟩, ⟨.agg (imC m), [], [], []⟩, ⟨.ptr 4 0, [(4, some ⟨31, 7, [.d (.int .i64 0), .d (.int .i64 0), .d (.int .i64 0), .d (.int .i64 0), .d (.bool false), .d (.int .i64 0), .d (.str (⟨#[]⟩))]⟩)], [4], []⟩, ⟨.tup [], [(4, some ⟨31, 7, (imC m)⟩)], [], [4]⟩] (by kernel_rfl) (by kernel_rfl) (fun id _ => hG id) ?_ ?_
  · exact okY rfl (LT_load 7 rfl rfl rfl (List.Mem.head _) Try.underlying24 inf24 (by simp [bnC, drC, imC3, imC]) (.inl ⟨rfl, rfl, rfl⟩)) <| okY rfl (LT_call [.agg (drC D)] rfl rfl Try.call24 rfl ((pc_image' hD hm).ct rfl)) <| okY rfl (LT_alloc 4 rfl inf31 rfl 7 rfl (List.Mem.head _)) <| okY rfl (LT_store (ob := ⟨31, 7, [.d (.int .i64 0), .d (.int .i64 0), .d (.int .i64 0), .d (.int .i64 0), .d (.bool false), .d (.int .i64 0), .d (.str (⟨#[]⟩))]⟩) (x := .agg (imC m)) rfl rfl rfl (List.Mem.head _) inf31 rfl rfl rfl (by simp [X.cells, bnC, drC, imC3, imC]) _ rfl) <| okE
  change AW _ _ _ _ _ _
  refine aw_weak (weak_of [(3, .ptr 2 0), (4, .ptr 3 0), (5, .ptr 4 0)] [(2, some ⟨27, 8, (bnC b0 b1)⟩), (3, some ⟨32, 21, [.d (.int .i64 0), .d (.int .i64 0), .d (.int .i64 0), .d (.int .i64 0), .d (.bool false), .d (.int .i64 0), .d (.str (⟨#[]⟩)), .d (.int .i64 0), .d (.int .i64 0), .d (.int .i64 0), .d (.int .i64 0), .d (.bool false), .d (.int .i64 0), .d (.str (⟨#[]⟩)), .d (.int .i64 0), .d (.int .i64 0), .d (.int .i64 0), .d (.int .i64 0), .d (.bool false), .d (.int .i64 0), .d (.str (⟨#[]⟩))]⟩), (4, some ⟨31, 7, (imC m)⟩)] [2, 3, 4] (sE rfl (sE rfl (sE rfl sE0))) (sH rfl (sH rfl (sH rfl sH0))) (by kernel_rfl)) ?_
  refine aw_seq ?_
  refine aw_region_seq [⟨.ptr 2 0, [], [], []⟩, ⟨.agg [.d (.int .u8 b0.wh), .d (.int .u8 b0.ap), .d (.int .u8 b0.oc), .d (.int .i64 b0.n)], [], [], [2]⟩, ⟨.agg (imC m), [], [], [4]⟩, ⟨.agg (imC J1), [], [], []⟩, ⟨.ptr 5 0, [(5, some ⟨31, 7, [.d (.int .i64 0), .d (.int .i64 0), .d (.int .i64 0), .d (.int .i64 0), .d (.bool false), .d (.int .i64 0), .d (.str (⟨#[]⟩))]⟩)], [5], []⟩, ⟨.tup [], [(5, some ⟨31, 7, (imC J1)⟩)], [], [5]⟩] (by kernel_rfl) (by kernel_rfl) (fun id _ => hG id) ?_ ?_
  · exact okY rfl (LT_indexArr rfl rfl rfl Try.underlying27 inf26 (by decide) (by decide) _ rfl) <| okY rfl (LT_load 4 rfl rfl rfl (List.Mem.head _) Try.underlying26 inf26 (by simp [bnC, drC, imC3, imC]) (.inl ⟨rfl, rfl, rfl⟩)) <| okY rfl (LT_load 7 rfl rfl rfl (List.Mem.head _) Try.underlying31 inf31 (by simp [bnC, drC, imC3, imC]) (.inl ⟨rfl, rfl, rfl⟩)) <| okY rfl (LT_call [.agg [.d (.int .u8 b0.wh), .d (.int .u8 b0.ap), .d (.int .u8 b0.oc), .d (.int .i64 b0.n)], .agg (imC m)] rfl rfl Try.call36 rfl ((pc_of hb0 hs0 hJ1).ct rfl)) <| okY rfl (LT_alloc 5 rfl inf31 rfl 7 rfl (List.Mem.head _)) <| okY rfl (LT_store (ob := ⟨31, 7, [.d (.int .i64 0), .d (.int .i64 0), .d (.int .i64 0), .d (.int .i64 0), .d (.bool false), .d (.int .i64 0), .d (.str (⟨#[]⟩))]⟩) (x := .agg (imC J1)) rfl rfl rfl (List.Mem.head _) inf31 rfl rfl rfl (by simp [X.cells, bnC, drC, imC3, imC]) _ rfl) <| okE
  change AW _ _ _ _ _ _
  refine aw_weak (weak_of [(3, .ptr 2 0), (4, .ptr 3 0), (5, .ptr 4 0), (6, .ptr 5 0)] [(2, some ⟨27, 8, (bnC b0 b1)⟩), (3, some ⟨32, 21, [.d (.int .i64 0), .d (.int .i64 0), .d (.int .i64 0), .d (.int .i64 0), .d (.bool false), .d (.int .i64 0), .d (.str (⟨#[]⟩)), .d (.int .i64 0), .d (.int .i64 0), .d (.int .i64 0), .d (.int .i64 0), .d (.bool false), .d (.int .i64 0), .d (.str (⟨#[]⟩)), .d (.int .i64 0), .d (.int .i64 0), .d (.int .i64 0), .d (.int .i64 0), .d (.bool false), .d (.int .i64 0), .d (.str (⟨#[]⟩))]⟩), (4, some ⟨31, 7, (imC m)⟩), (5, some ⟨31, 7, (imC J1)⟩)] [2, 3, 4, 5] (sE rfl (sE rfl (sE rfl (sE rfl sE0)))) (sH rfl (sH rfl (sH rfl (sH rfl sH0)))) (by kernel_rfl)) ?_
  refine aw_seq ?_
  refine aw_region_any rfl [⟨.agg (imC m), [], [], [4]⟩, ⟨.agg (imC J1), [], [], [5]⟩, ⟨.ptr 2 4, [], [], []⟩, ⟨.agg [.d (.int .u8 b1.wh), .d (.int .u8 b1.ap), .d (.int .u8 b1.oc), .d (.int .i64 b1.n)], [], [], [2]⟩, ⟨.agg (imC J1), [], [], [5]⟩, ⟨.agg (imC J2), [], [], []⟩, ⟨.agg (imC3 m J1 J2), [], [], []⟩, ⟨.tup [], [(3, some ⟨32, 21, (imC3 m J1 J2)⟩)], [], [3]⟩] (by kernel_rfl) (by kernel_rfl) (by kernel_rfl) (fun id _ => hG id) ?_ ?_
  · exact okY rfl (LT_load 7 rfl rfl rfl (List.Mem.head _) Try.underlying31 inf31 (by simp [bnC, drC, imC3, imC]) (.inl ⟨rfl, rfl, rfl⟩)) <| okY rfl (LT_load 7 rfl rfl rfl (List.Mem.head _) Try.underlying31 inf31 (by simp [bnC, drC, imC3, imC]) (.inl ⟨rfl, rfl, rfl⟩)) <| okY rfl (LT_indexArr rfl rfl rfl Try.underlying27 inf26 (by decide) (by decide) _ rfl) <| okY rfl (LT_load 4 rfl rfl rfl (List.Mem.head _) Try.underlying26 inf26 (by simp [bnC, drC, imC3, imC]) (.inl ⟨rfl, rfl, rfl⟩)) <| okY rfl (LT_load 7 rfl rfl rfl (List.Mem.head _) Try.underlying31 inf31 (by simp [bnC, drC, imC3, imC]) (.inl ⟨rfl, rfl, rfl⟩)) <| okY rfl (LT_call [.agg [.d (.int .u8 b1.wh), .d (.int .u8 b1.ap), .d (.int .u8 b1.oc), .d (.int .i64 b1.n)], .agg (imC J1)] rfl rfl Try.call36 rfl ((pc_of hb1 hs1 hJ2).ct rfl)) <| okY rfl (LT_build (qs := [(0, .agg (imC m)), (1, .agg (imC J1)), (2, .agg (imC J2))]) (fun j => some (j * 7, 7)) rfl Try.underlying32 inf32 rfl rfl (.inr ⟨_, _, _, rfl, inf31, rfl⟩) rfl) <| okY rfl (LT_store (ob := ⟨32, 21, [.d (.int .i64 0), .d (.int .i64 0), .d (.int .i64 0), .d (.int .i64 0), .d (.bool false), .d (.int .i64 0), .d (.str (⟨#[]⟩)), .d (.int .i64 0), .d (.int .i64 0), .d (.int .i64 0), .d (.int .i64 0), .d (.bool false), .d (.int .i64 0), .d (.str (⟨#[]⟩)), .d (.int .i64 0), .d (.int .i64 0), .d (.int .i64 0), .d (.int .i64 0), .d (.bool false), .d (.int .i64 0), .d (.str (⟨#[]⟩))]⟩) (x := .agg (imC3 m J1 J2)) rfl rfl rfl (List.Mem.head _) inf32 rfl rfl rfl (by simp [X.cells, bnC, drC, imC3, imC]) _ rfl) <| okE
  change AW _ _ _ _ _ _
  refine aw_weak (weak_of [(4, .ptr 3 0)] [(3, some ⟨32, 21, (imC3 m J1 J2)⟩)] [3] (sE rfl sE0) (sH rfl sH0) (by kernel_rfl)) ?_
  refine aw_ret ?_
  refine fin1 (x := .agg (imC3 m J1 J2)) (.inl rfl) Try.results12 ⟨3, 0, _, _, _, 21, rfl, rfl, Try.underlying32, inf32, by simp [bnC, drC, imC3, imC], .inl ⟨rfl, rfl, rfl⟩⟩ ?_
  exact rfl

end Go.Proofs.Ytphfbjeaklpddaa

/- Layer 42, the reference: Set. -/
namespace Go.Proofs.Ytphfbjeaklpddaa
open Go.RowKit

theorem intsD_at' {xs : List Int} {k : Nat} (h : k < xs.length) : ((intsD xs).drop (k * 1)).take 1 = [.int .i64 (xs[k]?.getD 0)] := by
  refine intsD_at ?_
  simp [h]

theorem pc_right (I : Im) : PC Try.prog 39 [imX I] (.d (.bool I.vB)) := PC_old rfl rfl fun w => right_any I w
theorem pc_there (I : Im) (x y : Int) (hv : I.vB = true) : PC Try.prog 48 [imX I, iX x, iX y] (.d (.bool (thereB I.L x y))) := PC_old rfl rfl fun w => there_any I x y w (Im.ok hv)
theorem pc_put {I : Im} {x y : Int} {xs : List Int} (hv : I.vB = true) (x0 : 0 ≤ x) (xW : x < I.L.W) (y0 : 0 ≤ y) (yH : y < I.L.H) (hlen : (xs.length : Int) = I.L.C) (hpos : ∀ v ∈ xs, 0 ≤ v ∧ v < 65536) :
    PC Try.prog 52 [imX I, iX x, iX y, .d (.slw xs.length 1 (intsD xs))] (imX (imF I.L (putF (I.L.fn I.O) x y xs xs.length))) := by
  refine PC_old' rfl fun w M vs hs hv' => ?_
  obtain ⟨l⟩ := vs
  match l, hs with
  | [u0, u1, u2, u3], _ =>
    have e0 := (hv' 0 u0 _ rfl rfl).is_ex (x := imX I) rfl
    have e1 := (hv' 1 u1 _ rfl rfl).int_inv
    have e2 := (hv' 2 u2 _ rfl rfl).int_inv
    have h3 := hv' 3 u3 _ rfl rfl
    cases h3 with | d h3 =>
    obtain ⟨a, cap, rfl, hi⟩ := slw_ints rfl h3
    subst e0 e1 e2
    exact rput_any I hv x y xs a cap w x0 xW y0 yH hi hlen hpos

/-- the reference's word for a value that fits -/
def okV (B v : Int) : Bool := !(((decide (v < 0)) || ((decide (255 < v)) && ((B : Int) == 8))) || (decide (65535 < v)))

theorem okV_iff (B v : Int) : okV B v = inB v 0 (if B = 8 then 255 else 65535) := by
  rw [Bool.eq_iff_iff, inB_iff]
  unfold okV
  simp only [Bool.not_eq_true', Bool.or_eq_false_iff, Bool.and_eq_false_iff, decide_eq_false_iff_not, beq_eq_false_iff_ne]
  split <;> omega

theorem okV_snoc {B : Int} {xs : List Int} {k : Nat} (hk : (k : Int) < (xs.length : Int)) (h : (xs.take k).all (okV B) = true)
    (h2 : (((decide ((xs[k]?.getD 0) < 0)) || ((decide (255 < (xs[k]?.getD 0))) && ((B : Int) == 8))) || (decide (65535 < (xs[k]?.getD 0)))) = false) : (xs.take (k + 1)).all (okV B) = true := by
  have hk' : k < xs.length := by omega
  rw [List.take_succ_eq_append_getElem hk', List.all_append, h]
  have : okV B xs[k] = true := by
    unfold okV
    have e : xs[k]?.getD 0 = xs[k] := by simp [hk']
    rw [e] at h2
    rw [h2]; rfl
  simp [this]

theorem set_f1 {I : Im} {x y : Int} {xs : List Int} (h : (!I.vB) = true) : setR I x y xs = (Im.z, 420) := by
  unfold setR
  rw [if_neg (by simpa using h)]
theorem set_f2 {I : Im} {x y : Int} {xs : List Int} (hv : I.vB = true) (h : ((!(thereB I.L x y)) || (((xs.length : Nat) : Int) != I.L.C)) = true) : setR I x y xs = (Im.z, 2) := by
  unfold setR
  rw [if_pos hv]
  rw [Bool.or_eq_true] at h
  rcases h with h | h
  · rw [show thereB I.L x y = false by simpa using h]; rfl
  · rw [show decide ((xs.length : Int) = I.L.C) = false by simpa using h]
    simp
theorem set_f3 {I : Im} {x y : Int} {xs : List Int} (hv : I.vB = true) (_ : ((!(thereB I.L x y)) || (((xs.length : Nat) : Int) != I.L.C)) = false) (k : Nat) (hk : (k : Int) < (xs.length : Int))
    (h2 : (((decide ((xs[k]?.getD 0) < 0)) || ((decide (255 < (xs[k]?.getD 0))) && ((I.L.B : Int) == 8))) || (decide (65535 < (xs[k]?.getD 0)))) = true) : setR I x y xs = (Im.z, 2) := by
  have hk' : k < xs.length := by omega
  have : rngB I.L xs = false := by
    unfold rngB
    rw [List.all_eq_false]
    refine ⟨xs[k], List.getElem_mem hk', ?_⟩
    rw [← okV_iff]
    have e : xs[k]?.getD 0 = xs[k] := by simp [hk']
    rw [e] at h2
    unfold okV
    rw [h2]; simp
  unfold setR
  rw [if_pos hv, this]
  simp
theorem set_in {I : Im} {x y : Int} {xs : List Int} (h : ((!(thereB I.L x y)) || (((xs.length : Nat) : Int) != I.L.C)) = false) : 0 ≤ x ∧ x < I.L.W ∧ 0 ≤ y ∧ y < I.L.H ∧ (xs.length : Int) = I.L.C := by
  rw [Bool.or_eq_false_iff] at h
  have h1 : thereB I.L x y = true := by simpa using h.1
  have h2 := (thereB_iff I.L x y).1 h1
  exact ⟨h2.1.1, h2.1.2, h2.2.1, h2.2.2, by simpa using h.2⟩
theorem set_f4 {I : Im} {x y : Int} {xs : List Int} (hv : I.vB = true) (h : ((!(thereB I.L x y)) || (((xs.length : Nat) : Int) != I.L.C)) = false) (hr : xs.all (okV I.L.B) = true) : setR I x y xs = (imF I.L (putF (I.L.fn I.O) x y xs xs.length), 0) := by
  obtain ⟨a, b, c, d, e⟩ := set_in h
  refine setR_ok I hv x y xs a b c d e fun v hm => ?_
  rw [List.all_eq_true] at hr
  have := hr v hm
  rw [okV_iff, inB_iff] at this
  split at this <;> rename_i hB
  · rw [if_pos hB]; omega
  · rw [if_neg hB]; omega
theorem set_pos {B : Int} {xs : List Int} {k : Nat} (hk : k ≤ xs.length) (h : (xs.take k).all (okV B) = true) (hk2 : xs.length ≤ k) : ∀ v ∈ xs, 0 ≤ v ∧ v < 65536 := by
  intro v hv
  rw [List.take_of_length_le hk2, List.all_eq_true] at h
  have := h v hv
  rw [okV_iff, inB_iff] at this
  split at this <;> omega

set_option maxRecDepth 100000 in
set_option maxHeartbeats 2000000 in
theorem pc_rset (I : Im) (x y : Int) (xs : List Int) (hl : xs.length ≤ 1000000) : PC Try.prog 23 [.agg (imC I), .d (.int .i64 x), .d (.int .i64 y), .d (.slw xs.length 1 (intsD xs))] (.tup [imX (setR I x y xs).1, iX (setR I x y xs).2]) := by
  refine PC_of (fn := Try.f23) Try.func23 rfl (by simp [Try.ntmps23]) (by kernel_rfl) fun G hG => ?_
  rw [Try.ntmps23]
  refine aw_seq ?_
  refine aw_region_seq [⟨.ptr 1 0, [(1, some ⟨31, 7, (imC I)⟩)], [1], []⟩, ⟨.ptr 2 0, [(2, some ⟨31, 7, [.d (.int .i64 0), .d (.int .i64 0), .d (.int .i64 0), .d (.int .i64 0), .d (.bool false), .d (.int .i64 0), .d (.str (⟨#[]⟩))]⟩)], [2], []⟩, ⟨.d (.int .i64 0), [], [], []⟩] (by kernel_rfl) (by kernel_rfl) (fun id _ => hG id) ?_ ?_
  · exact okY rfl (LT_box (x := .agg (imC I)) 1 rfl rfl rfl 7 rfl (List.Mem.head _)) <| okY rfl (LT_alloc 2 rfl inf31 rfl 7 rfl (List.Mem.head _)) <| okY rfl (LT_assign rfl rfl) <| okE
  change AW _ _ _ _ _ _
  refine aw_weak (weak_of [(1, .d (.int .i64 x)), (2, .d (.int .i64 y)), (3, .d (.slw xs.length 1 (intsD xs))), (4, .ptr 1 0), (8, .ptr 2 0)] [(1, some ⟨31, 7, (imC I)⟩), (2, some ⟨31, 7, [.d (.int .i64 0), .d (.int .i64 0), .d (.int .i64 0), .d (.int .i64 0), .d (.bool false), .d (.int .i64 0), .d (.str (⟨#[]⟩))]⟩)] [1, 2] (sE rfl (sE rfl (sE rfl (sE rfl (sE rfl sE0))))) (sH rfl (sH rfl sH0)) (by kernel_rfl)) ?_
  refine aw_seq ?_
  refine aw_seq ?_
  refine aw_region_seq [⟨.agg (imC I), [], [], [1]⟩, ⟨.d (.bool I.vB), [], [], []⟩, ⟨.d (.bool (!I.vB)), [], [], []⟩] (by kernel_rfl) (by kernel_rfl) (fun id _ => hG id) ?_ ?_
  · exact okY rfl (LT_load 7 rfl rfl rfl (List.Mem.head _) Try.underlying31 inf31 (by simp [imC]) (.inl ⟨rfl, rfl, rfl⟩)) <| okY rfl (LT_call [.agg (imC I)] rfl rfl Try.call39 rfl ((pc_right I).ct rfl)) <| okY rfl (LT_not rfl rfl rfl) <| okE
  change AW _ _ _ _ _ _
  refine aw_weak (weak_of [(1, .d (.int .i64 x)), (2, .d (.int .i64 y)), (3, .d (.slw xs.length 1 (intsD xs))), (4, .ptr 1 0), (8, .ptr 2 0), (13, .d (.bool (!I.vB)))] [(1, some ⟨31, 7, (imC I)⟩), (2, some ⟨31, 7, [.d (.int .i64 0), .d (.int .i64 0), .d (.int .i64 0), .d (.int .i64 0), .d (.bool false), .d (.int .i64 0), .d (.str (⟨#[]⟩))]⟩)] [1, 2] (sE rfl (sE rfl (sE rfl (sE rfl (sE rfl (sE rfl sE0)))))) (sH rfl (sH rfl sH0)) (by kernel_rfl)) ?_
  refine aw_cond (!I.vB) rfl (fun hb1 => ?_) (fun hb1 => ?_)
  ·
    refine aw_seq ?_
    refine aw_region_seq [⟨.agg [.d (.int .i64 0), .d (.int .i64 0), .d (.int .i64 0), .d (.int .i64 0), .d (.bool false), .d (.int .i64 0), .d (.str (⟨#[]⟩))], [], [], []⟩, ⟨.tup [], [(2, some ⟨31, 7, [.d (.int .i64 0), .d (.int .i64 0), .d (.int .i64 0), .d (.int .i64 0), .d (.bool false), .d (.int .i64 0), .d (.str (⟨#[]⟩))]⟩)], [], [2]⟩, ⟨.d (.int .i64 420), [], [], []⟩] (by kernel_rfl) (by kernel_rfl) (fun id _ => hG id) ?_ ?_
    · exact okY rfl (LT_build (qs := []) (fun j => (#[(0, 1), (1, 1), (2, 1), (3, 1), (4, 1), (5, 1), (6, 1)] : Array (Nat × Nat))[j]?) rfl Try.underlying31 inf31 rfl rfl (.inl ⟨_, rfl, by kernel_rfl, by kernel_rfl⟩) rfl) <| okY rfl (LT_store (ob := ⟨31, 7, [.d (.int .i64 0), .d (.int .i64 0), .d (.int .i64 0), .d (.int .i64 0), .d (.bool false), .d (.int .i64 0), .d (.str (⟨#[]⟩))]⟩) (x := .agg [.d (.int .i64 0), .d (.int .i64 0), .d (.int .i64 0), .d (.int .i64 0), .d (.bool false), .d (.int .i64 0), .d (.str (⟨#[]⟩))]) rfl rfl rfl (List.Mem.head _) inf31 rfl rfl rfl (by simp [X.cells, imC]) _ rfl) <| okY rfl (LT_assign rfl rfl) <| okE
    change AW _ _ _ _ _ _
    refine aw_weak (weak_of [(8, .ptr 2 0), (9, .d (.int .i64 420))] [(2, some ⟨31, 7, [.d (.int .i64 0), .d (.int .i64 0), .d (.int .i64 0), .d (.int .i64 0), .d (.bool false), .d (.int .i64 0), .d (.str (⟨#[]⟩))]⟩)] [2] (sE rfl (sE rfl sE0)) (sH rfl sH0) (by kernel_rfl)) ?_
    refine aw_ret ?_
    refine finN (xs := [.agg [.d (.int .i64 0), .d (.int .i64 0), .d (.int .i64 0), .d (.int .i64 0), .d (.bool false), .d (.int .i64 0), .d (.str (⟨#[]⟩))], .d (.int .i64 420)]) (l := [.cell 8 31, .tmp 9]) (.inl rfl) Try.results23 (rL ⟨2, 0, _, _, _, 7, rfl, rfl, Try.underlying31, inf31, by simp [imC], .inl ⟨rfl, rfl, rfl⟩⟩ (rL rfl (rL0))) (by simp [imC]) ?_
    rw [set_f1 hb1]
    rfl
  ·
    have hv : I.vB = true := by simpa using hb1
    refine aw_skip ?_
    change AW _ _ _ _ _ _
    refine aw_weak (weak_of [(1, .d (.int .i64 x)), (2, .d (.int .i64 y)), (3, .d (.slw xs.length 1 (intsD xs))), (4, .ptr 1 0), (8, .ptr 2 0)] [(1, some ⟨31, 7, (imC I)⟩), (2, some ⟨31, 7, [.d (.int .i64 0), .d (.int .i64 0), .d (.int .i64 0), .d (.int .i64 0), .d (.bool false), .d (.int .i64 0), .d (.str (⟨#[]⟩))]⟩)] [1, 2] (sE rfl (sE rfl (sE rfl (sE rfl (sE rfl sE0))))) (sH rfl (sH rfl sH0)) (by kernel_rfl)) ?_
    refine aw_seq ?_
    refine aw_seq ?_
    refine aw_region_seq [⟨.agg (imC I), [], [], [1]⟩, ⟨.d (.int .i64 x), [], [], []⟩, ⟨.d (.int .i64 y), [], [], []⟩, ⟨.d (.bool (thereB I.L x y)), [], [], []⟩, ⟨.d (.bool (!(thereB I.L x y))), [], [], []⟩, ⟨.d (.bool (!(thereB I.L x y))), [], [], []⟩, ⟨.opt ((!(thereB I.L x y)) == false) (.d (.slw xs.length 1 (intsD xs))), [], [], []⟩, ⟨.opt ((!(thereB I.L x y)) == false) (.d (.int .i64 ((xs.length : Nat) : Int))), [], [], []⟩, ⟨.opt ((!(thereB I.L x y)) == false) (.ptr 1 2), [], [], []⟩, ⟨.opt ((!(thereB I.L x y)) == false) (.d (.int .i64 I.L.C)), [], [], [1]⟩, ⟨.opt ((!(thereB I.L x y)) == false) (.d (.bool ((((xs.length : Nat) : Int) : Int) != I.L.C))), [], [], []⟩, ⟨.d (.bool ((!(thereB I.L x y)) || ((((xs.length : Nat) : Int) : Int) != I.L.C))), [], [], []⟩] (by kernel_rfl) (by kernel_rfl) (fun id _ => hG id) ?_ ?_
    · exact okY rfl (LT_load 7 rfl rfl rfl (List.Mem.head _) Try.underlying31 inf31 (by simp [imC]) (.inl ⟨rfl, rfl, rfl⟩)) <| okY rfl (LT_move rfl rfl) <| okY rfl (LT_move rfl rfl) <| okY rfl (LT_call [.agg (imC I), .d (.int .i64 x), .d (.int .i64 y)] rfl rfl Try.call48 rfl ((pc_there I x y hv).ct rfl)) <| okY rfl (LT_not rfl rfl rfl) <| okY rfl (LT_move rfl rfl) <| okG ((!(thereB I.L x y)) == false) rfl (fun hg => (LT_move rfl rfl)) <| okG ((!(thereB I.L x y)) == false) rfl (fun hg => (LT_lenW rfl Try.underlying44 (opnT rfl hg))) <| okG ((!(thereB I.L x y)) == false) rfl (fun hg => (LT_fieldAddr rfl rfl Try.underlying31 rfl inf3 (by decide) _ rfl)) <| okG ((!(thereB I.L x y)) == false) rfl (fun hg => (LT_load 1 rfl (opnT rfl hg) rfl (List.Mem.head _) Try.underlying3 inf3 (by simp [imC]) (.inr ⟨rfl, rfl, rfl⟩))) <| okG ((!(thereB I.L x y)) == false) rfl (fun hg => (LT_cmp rfl rfl (opnT rfl hg) (opnT rfl hg) rfl)) <| okY rfl (LT_por rfl rfl rfl (fun h => by rw [h]; rfl)) <| okE
    change AW _ _ _ _ _ _
    refine aw_weak (weak_of [(1, .d (.int .i64 x)), (2, .d (.int .i64 y)), (3, .d (.slw xs.length 1 (intsD xs))), (4, .ptr 1 0), (8, .ptr 2 0), (26, .d (.bool ((!(thereB I.L x y)) || ((((xs.length : Nat) : Int) : Int) != I.L.C))))] [(1, some ⟨31, 7, (imC I)⟩), (2, some ⟨31, 7, [.d (.int .i64 0), .d (.int .i64 0), .d (.int .i64 0), .d (.int .i64 0), .d (.bool false), .d (.int .i64 0), .d (.str (⟨#[]⟩))]⟩)] [1, 2] (sE rfl (sE rfl (sE rfl (sE rfl (sE rfl (sE rfl sE0)))))) (sH rfl (sH rfl sH0)) (by kernel_rfl)) ?_
    refine aw_cond ((!(thereB I.L x y)) || ((((xs.length : Nat) : Int) : Int) != I.L.C)) rfl (fun hb2 => ?_) (fun hb2 => ?_)
    ·
      refine aw_seq ?_
      refine aw_region_seq [⟨.agg [.d (.int .i64 0), .d (.int .i64 0), .d (.int .i64 0), .d (.int .i64 0), .d (.bool false), .d (.int .i64 0), .d (.str (⟨#[]⟩))], [], [], []⟩, ⟨.tup [], [(2, some ⟨31, 7, [.d (.int .i64 0), .d (.int .i64 0), .d (.int .i64 0), .d (.int .i64 0), .d (.bool false), .d (.int .i64 0), .d (.str (⟨#[]⟩))]⟩)], [], [2]⟩, ⟨.d (.int .i64 2), [], [], []⟩] (by kernel_rfl) (by kernel_rfl) (fun id _ => hG id) ?_ ?_
      · exact okY rfl (LT_build (qs := []) (fun j => (#[(0, 1), (1, 1), (2, 1), (3, 1), (4, 1), (5, 1), (6, 1)] : Array (Nat × Nat))[j]?) rfl Try.underlying31 inf31 rfl rfl (.inl ⟨_, rfl, by kernel_rfl, by kernel_rfl⟩) rfl) <| okY rfl (LT_store (ob := ⟨31, 7, [.d (.int .i64 0), .d (.int .i64 0), .d (.int .i64 0), .d (.int .i64 0), .d (.bool false), .d (.int .i64 0), .d (.str (⟨#[]⟩))]⟩) (x := .agg [.d (.int .i64 0), .d (.int .i64 0), .d (.int .i64 0), .d (.int .i64 0), .d (.bool false), .d (.int .i64 0), .d (.str (⟨#[]⟩))]) rfl rfl rfl (List.Mem.head _) inf31 rfl rfl rfl (by simp [X.cells, imC]) _ rfl) <| okY rfl (LT_assign rfl rfl) <| okE
      change AW _ _ _ _ _ _
      refine aw_weak (weak_of [(8, .ptr 2 0), (9, .d (.int .i64 2))] [(2, some ⟨31, 7, [.d (.int .i64 0), .d (.int .i64 0), .d (.int .i64 0), .d (.int .i64 0), .d (.bool false), .d (.int .i64 0), .d (.str (⟨#[]⟩))]⟩)] [2] (sE rfl (sE rfl sE0)) (sH rfl sH0) (by kernel_rfl)) ?_
      refine aw_ret ?_
      refine finN (xs := [.agg [.d (.int .i64 0), .d (.int .i64 0), .d (.int .i64 0), .d (.int .i64 0), .d (.bool false), .d (.int .i64 0), .d (.str (⟨#[]⟩))], .d (.int .i64 2)]) (l := [.cell 8 31, .tmp 9]) (.inl rfl) Try.results23 (rL ⟨2, 0, _, _, _, 7, rfl, rfl, Try.underlying31, inf31, by simp [imC], .inl ⟨rfl, rfl, rfl⟩⟩ (rL rfl (rL0))) (by simp [imC]) ?_
      rw [set_f2 hv hb2]
      rfl
    ·
      have hx := set_in hb2
      refine aw_skip ?_
      change AW _ _ _ _ _ _
      refine aw_weak (weak_of [(1, .d (.int .i64 x)), (2, .d (.int .i64 y)), (3, .d (.slw xs.length 1 (intsD xs))), (4, .ptr 1 0), (8, .ptr 2 0)] [(1, some ⟨31, 7, (imC I)⟩), (2, some ⟨31, 7, [.d (.int .i64 0), .d (.int .i64 0), .d (.int .i64 0), .d (.int .i64 0), .d (.bool false), .d (.int .i64 0), .d (.str (⟨#[]⟩))]⟩)] [1, 2] (sE rfl (sE rfl (sE rfl (sE rfl (sE rfl sE0))))) (sH rfl (sH rfl sH0)) (by kernel_rfl)) ?_
      refine aw_seq ?_
      refine aw_seq ?_
      refine aw_region_seq [⟨.d (.int .i64 0), [], [], []⟩] (by kernel_rfl) (by kernel_rfl) (fun id _ => hG id) ?_ ?_
      · exact okY rfl (LT_assign rfl rfl) <| okE
      change AW _ _ _ _ _ _
      refine aw_weak (weak_of [(1, .d (.int .i64 x)), (2, .d (.int .i64 y)), (3, .d (.slw xs.length 1 (intsD xs))), (4, .ptr 1 0), (8, .ptr 2 0), (10, .d (.int .i64 0))] [(1, some ⟨31, 7, (imC I)⟩), (2, some ⟨31, 7, [.d (.int .i64 0), .d (.int .i64 0), .d (.int .i64 0), .d (.int .i64 0), .d (.bool false), .d (.int .i64 0), .d (.str (⟨#[]⟩))]⟩)] [1, 2] (sE rfl (sE rfl (sE rfl (sE rfl (sE rfl (sE rfl sE0)))))) (sH rfl (sH rfl sH0)) (by kernel_rfl)) ?_
      refine aw_block ?_
      refine aw_loopJ (fun k => ⟨[(1, .d (.int .i64 x)), (2, .d (.int .i64 y)), (3, .d (.slw xs.length 1 (intsD xs))), (4, .ptr 1 0), (8, .ptr 2 0), (10, .d (.int .i64 ((k : Nat) : Int)))], [(1, some ⟨31, 7, (imC I)⟩), (2, some ⟨31, 7, [.d (.int .i64 0), .d (.int .i64 0), .d (.int .i64 0), .d (.int .i64 0), .d (.bool false), .d (.int .i64 0), .d (.str (⟨#[]⟩))]⟩)], [1, 2]⟩) (fun k => k ≤ xs.length ∧ (xs.take k).all (okV I.L.B) = true) (fun k => xs.length - k) 0 (⟨Nat.zero_le _, rfl⟩) ?_ ?_
      · exact weak_of _ _ _ (sE rfl (sE rfl (sE rfl (sE rfl (sE rfl (sE rfl sE0)))))) (sH rfl (sH rfl sH0)) (by kernel_rfl)
      rintro k ⟨hk, hk2⟩
      refine aw_seq ?_
      refine aw_seq ?_
      refine aw_region_seq [⟨.d (.int .i64 ((k : Nat) : Int)), [], [], []⟩, ⟨.d (.slw xs.length 1 (intsD xs)), [], [], []⟩, ⟨.d (.int .i64 ((xs.length : Nat) : Int)), [], [], []⟩, ⟨.d (.bool (decide ((((k : Nat) : Int) : Int) < ((xs.length : Nat) : Int)))), [], [], []⟩] (by kernel_rfl) (by kernel_rfl) (fun id _ => hG id) ?_ ?_
      · exact okY rfl (LT_move rfl rfl) <| okY rfl (LT_move rfl rfl) <| okY rfl (LT_lenW rfl Try.underlying44 rfl) <| okY rfl (LT_cmp rfl rfl rfl rfl rfl) <| okE
      change AW _ _ _ _ _ _
      refine aw_weak (weak_of [(1, .d (.int .i64 x)), (2, .d (.int .i64 y)), (3, .d (.slw xs.length 1 (intsD xs))), (4, .ptr 1 0), (8, .ptr 2 0), (10, .d (.int .i64 ((k : Nat) : Int))), (31, .d (.bool (decide ((((k : Nat) : Int) : Int) < ((xs.length : Nat) : Int)))))] [(1, some ⟨31, 7, (imC I)⟩), (2, some ⟨31, 7, [.d (.int .i64 0), .d (.int .i64 0), .d (.int .i64 0), .d (.int .i64 0), .d (.bool false), .d (.int .i64 0), .d (.str (⟨#[]⟩))]⟩)] [1, 2] (sE rfl (sE rfl (sE rfl (sE rfl (sE rfl (sE rfl (sE rfl sE0))))))) (sH rfl (sH rfl sH0)) (by kernel_rfl)) ?_
      refine aw_cond (decide ((((k : Nat) : Int) : Int) < ((xs.length : Nat) : Int))) rfl (fun hb3 => ?_) (fun hb3 => ?_)
      ·
        replace hb3 := of_decide_eq_true hb3
        refine aw_skip ?_
        change AW _ _ _ _ _ _
        refine aw_weak (weak_of [(1, .d (.int .i64 x)), (2, .d (.int .i64 y)), (3, .d (.slw xs.length 1 (intsD xs))), (4, .ptr 1 0), (8, .ptr 2 0), (10, .d (.int .i64 ((k : Nat) : Int)))] [(1, some ⟨31, 7, (imC I)⟩), (2, some ⟨31, 7, [.d (.int .i64 0), .d (.int .i64 0), .d (.int .i64 0), .d (.int .i64 0), .d (.bool false), .d (.int .i64 0), .d (.str (⟨#[]⟩))]⟩)] [1, 2] (sE rfl (sE rfl (sE rfl (sE rfl (sE rfl (sE rfl sE0)))))) (sH rfl (sH rfl sH0)) (by kernel_rfl)) ?_
        refine aw_seq ?_
        refine aw_block ?_
        refine aw_seq ?_
        refine aw_region_seq [⟨.d (.slw xs.length 1 (intsD xs)), [], [], []⟩, ⟨.d (.int .i64 ((k : Nat) : Int)), [], [], []⟩, ⟨.dptr [.int .i64 (xs[k]?.getD 0)], [], [], []⟩, ⟨.d (.int .i64 (xs[k]?.getD 0)), [], [], []⟩, ⟨.d (.bool (decide (((xs[k]?.getD 0) : Int) < 0))), [], [], []⟩, ⟨.d (.bool (decide (((xs[k]?.getD 0) : Int) < 0))), [], [], []⟩, ⟨.opt ((decide (((xs[k]?.getD 0) : Int) < 0)) == false) (.d (.slw xs.length 1 (intsD xs))), [], [], []⟩, ⟨.opt ((decide (((xs[k]?.getD 0) : Int) < 0)) == false) (.d (.int .i64 ((k : Nat) : Int))), [], [], []⟩, ⟨.opt ((decide (((xs[k]?.getD 0) : Int) < 0)) == false) (.dptr [.int .i64 (xs[k]?.getD 0)]), [], [], []⟩, ⟨.opt ((decide (((xs[k]?.getD 0) : Int) < 0)) == false) (.d (.int .i64 (xs[k]?.getD 0))), [], [], []⟩, ⟨.opt ((decide (((xs[k]?.getD 0) : Int) < 0)) == false) (.d (.bool (decide ((255 : Int) < (xs[k]?.getD 0))))), [], [], []⟩, ⟨.opt ((decide (((xs[k]?.getD 0) : Int) < 0)) == false) (.d (.bool (decide ((255 : Int) < (xs[k]?.getD 0))))), [], [], []⟩, ⟨.opt (((decide (((xs[k]?.getD 0) : Int) < 0)) == false) && ((decide ((255 : Int) < (xs[k]?.getD 0))) == true)) (.ptr 1 3), [], [], []⟩, ⟨.opt (((decide (((xs[k]?.getD 0) : Int) < 0)) == false) && ((decide ((255 : Int) < (xs[k]?.getD 0))) == true)) (.d (.int .i64 I.L.B)), [], [], [1]⟩, ⟨.opt (((decide (((xs[k]?.getD 0) : Int) < 0)) == false) && ((decide ((255 : Int) < (xs[k]?.getD 0))) == true)) (.d (.bool ((I.L.B : Int) == 8))), [], [], []⟩, ⟨.opt ((decide (((xs[k]?.getD 0) : Int) < 0)) == false) (.d (.bool ((decide ((255 : Int) < (xs[k]?.getD 0))) && ((I.L.B : Int) == 8)))), [], [], []⟩, ⟨.d (.bool ((decide (((xs[k]?.getD 0) : Int) < 0)) || ((decide ((255 : Int) < (xs[k]?.getD 0))) && ((I.L.B : Int) == 8)))), [], [], []⟩, ⟨.d (.bool ((decide (((xs[k]?.getD 0) : Int) < 0)) || ((decide ((255 : Int) < (xs[k]?.getD 0))) && ((I.L.B : Int) == 8)))), [], [], []⟩, ⟨.opt (((decide (((xs[k]?.getD 0) : Int) < 0)) || ((decide ((255 : Int) < (xs[k]?.getD 0))) && ((I.L.B : Int) == 8))) == false) (.d (.slw xs.length 1 (intsD xs))), [], [], []⟩, ⟨.opt (((decide (((xs[k]?.getD 0) : Int) < 0)) || ((decide ((255 : Int) < (xs[k]?.getD 0))) && ((I.L.B : Int) == 8))) == false) (.d (.int .i64 ((k : Nat) : Int))), [], [], []⟩, ⟨.opt (((decide (((xs[k]?.getD 0) : Int) < 0)) || ((decide ((255 : Int) < (xs[k]?.getD 0))) && ((I.L.B : Int) == 8))) == false) (.dptr [.int .i64 (xs[k]?.getD 0)]), [], [], []⟩, ⟨.opt (((decide (((xs[k]?.getD 0) : Int) < 0)) || ((decide ((255 : Int) < (xs[k]?.getD 0))) && ((I.L.B : Int) == 8))) == false) (.d (.int .i64 (xs[k]?.getD 0))), [], [], []⟩, ⟨.opt (((decide (((xs[k]?.getD 0) : Int) < 0)) || ((decide ((255 : Int) < (xs[k]?.getD 0))) && ((I.L.B : Int) == 8))) == false) (.d (.bool (decide ((65535 : Int) < (xs[k]?.getD 0))))), [], [], []⟩, ⟨.d (.bool (((decide (((xs[k]?.getD 0) : Int) < 0)) || ((decide ((255 : Int) < (xs[k]?.getD 0))) && ((I.L.B : Int) == 8))) || (decide ((65535 : Int) < (xs[k]?.getD 0))))), [], [], []⟩] (by kernel_rfl) (by kernel_rfl) (fun id _ => hG id) ?_ ?_
        · exact okY rfl (LT_move rfl rfl) <| okY rfl (LT_move rfl rfl) <| okY rfl (LT_indexW rfl rfl rfl Try.underlying44 inf3 rfl (by omega) (by omega) (intsD_at' (by omega))) <| okY rfl (LT_loadD 1 rfl rfl Try.underlying3 inf3 (by simp [imC]) (.inr ⟨rfl, rfl, rfl⟩)) <| okY rfl (LT_cmp rfl rfl rfl rfl rfl) <| okY rfl (LT_move rfl rfl) <| okG ((decide (((xs[k]?.getD 0) : Int) < 0)) == false) rfl (fun hg => (LT_move rfl rfl)) <| okG ((decide (((xs[k]?.getD 0) : Int) < 0)) == false) rfl (fun hg => (LT_move rfl rfl)) <| okG ((decide (((xs[k]?.getD 0) : Int) < 0)) == false) rfl (fun hg => (LT_indexW rfl (opnT rfl hg) (opnT rfl hg) Try.underlying44 inf3 rfl (by omega) (by omega) (intsD_at' (by omega)))) <| okG ((decide (((xs[k]?.getD 0) : Int) < 0)) == false) rfl (fun hg => (LT_loadD 1 rfl (opnT rfl hg) Try.underlying3 inf3 (by simp [imC]) (.inr ⟨rfl, rfl, rfl⟩))) <| okG ((decide (((xs[k]?.getD 0) : Int) < 0)) == false) rfl (fun hg => (LT_cmp rfl rfl (opnT rfl hg) rfl rfl)) <| okG ((decide (((xs[k]?.getD 0) : Int) < 0)) == false) rfl (fun hg => (LT_move rfl (opnT rfl hg))) <| okG (((decide (((xs[k]?.getD 0) : Int) < 0)) == false) && ((decide ((255 : Int) < (xs[k]?.getD 0))) == true)) rfl (fun hg => (LT_fieldAddr rfl rfl Try.underlying31 rfl inf3 (by decide) _ rfl)) <| okG (((decide (((xs[k]?.getD 0) : Int) < 0)) == false) && ((decide ((255 : Int) < (xs[k]?.getD 0))) == true)) rfl (fun hg => (LT_load 1 rfl (opnT rfl hg) rfl (List.Mem.head _) Try.underlying3 inf3 (by simp [imC]) (.inr ⟨rfl, rfl, rfl⟩))) <| okG (((decide (((xs[k]?.getD 0) : Int) < 0)) == false) && ((decide ((255 : Int) < (xs[k]?.getD 0))) == true)) rfl (fun hg => (LT_cmp rfl rfl (opnT rfl hg) rfl rfl)) <| okG ((decide (((xs[k]?.getD 0) : Int) < 0)) == false) rfl (fun hg => (LT_pand rfl (opnT rfl hg) rfl (fun h => by rw [hg]; rw [h]; rfl))) <| okY rfl (LT_por rfl rfl rfl (fun h => by rw [h]; rfl)) <| okY rfl (LT_move rfl rfl) <| okG (((decide (((xs[k]?.getD 0) : Int) < 0)) || ((decide ((255 : Int) < (xs[k]?.getD 0))) && ((I.L.B : Int) == 8))) == false) rfl (fun hg => (LT_move rfl rfl)) <| okG (((decide (((xs[k]?.getD 0) : Int) < 0)) || ((decide ((255 : Int) < (xs[k]?.getD 0))) && ((I.L.B : Int) == 8))) == false) rfl (fun hg => (LT_move rfl rfl)) <| okG (((decide (((xs[k]?.getD 0) : Int) < 0)) || ((decide ((255 : Int) < (xs[k]?.getD 0))) && ((I.L.B : Int) == 8))) == false) rfl (fun hg => (LT_indexW rfl (opnT rfl hg) (opnT rfl hg) Try.underlying44 inf3 rfl (by omega) (by omega) (intsD_at' (by omega)))) <| okG (((decide (((xs[k]?.getD 0) : Int) < 0)) || ((decide ((255 : Int) < (xs[k]?.getD 0))) && ((I.L.B : Int) == 8))) == false) rfl (fun hg => (LT_loadD 1 rfl (opnT rfl hg) Try.underlying3 inf3 (by simp [imC]) (.inr ⟨rfl, rfl, rfl⟩))) <| okG (((decide (((xs[k]?.getD 0) : Int) < 0)) || ((decide ((255 : Int) < (xs[k]?.getD 0))) && ((I.L.B : Int) == 8))) == false) rfl (fun hg => (LT_cmp rfl rfl (opnT rfl hg) rfl rfl)) <| okY rfl (LT_por rfl rfl rfl (fun h => by rw [h]; rfl)) <| okE
        change AW _ _ _ _ _ _
        refine aw_weak (weak_of [(1, .d (.int .i64 x)), (2, .d (.int .i64 y)), (3, .d (.slw xs.length 1 (intsD xs))), (4, .ptr 1 0), (8, .ptr 2 0), (10, .d (.int .i64 ((k : Nat) : Int))), (57, .d (.bool (((decide (((xs[k]?.getD 0) : Int) < 0)) || ((decide ((255 : Int) < (xs[k]?.getD 0))) && ((I.L.B : Int) == 8))) || (decide ((65535 : Int) < (xs[k]?.getD 0))))))] [(1, some ⟨31, 7, (imC I)⟩), (2, some ⟨31, 7, [.d (.int .i64 0), .d (.int .i64 0), .d (.int .i64 0), .d (.int .i64 0), .d (.bool false), .d (.int .i64 0), .d (.str (⟨#[]⟩))]⟩)] [1, 2] (sE rfl (sE rfl (sE rfl (sE rfl (sE rfl (sE rfl (sE rfl sE0))))))) (sH rfl (sH rfl sH0)) (by kernel_rfl)) ?_
        refine aw_cond (((decide (((xs[k]?.getD 0) : Int) < 0)) || ((decide ((255 : Int) < (xs[k]?.getD 0))) && ((I.L.B : Int) == 8))) || (decide ((65535 : Int) < (xs[k]?.getD 0)))) rfl (fun hb4 => ?_) (fun hb4 => ?_)
        ·
          refine aw_seq ?_
          refine aw_region_seq [⟨.agg [.d (.int .i64 0), .d (.int .i64 0), .d (.int .i64 0), .d (.int .i64 0), .d (.bool false), .d (.int .i64 0), .d (.str (⟨#[]⟩))], [], [], []⟩, ⟨.tup [], [(2, some ⟨31, 7, [.d (.int .i64 0), .d (.int .i64 0), .d (.int .i64 0), .d (.int .i64 0), .d (.bool false), .d (.int .i64 0), .d (.str (⟨#[]⟩))]⟩)], [], [2]⟩, ⟨.d (.int .i64 2), [], [], []⟩] (by kernel_rfl) (by kernel_rfl) (fun id _ => hG id) ?_ ?_
          · exact okY rfl (LT_build (qs := []) (fun j => (#[(0, 1), (1, 1), (2, 1), (3, 1), (4, 1), (5, 1), (6, 1)] : Array (Nat × Nat))[j]?) rfl Try.underlying31 inf31 rfl rfl (.inl ⟨_, rfl, by kernel_rfl, by kernel_rfl⟩) rfl) <| okY rfl (LT_store (ob := ⟨31, 7, [.d (.int .i64 0), .d (.int .i64 0), .d (.int .i64 0), .d (.int .i64 0), .d (.bool false), .d (.int .i64 0), .d (.str (⟨#[]⟩))]⟩) (x := .agg [.d (.int .i64 0), .d (.int .i64 0), .d (.int .i64 0), .d (.int .i64 0), .d (.bool false), .d (.int .i64 0), .d (.str (⟨#[]⟩))]) rfl rfl rfl (List.Mem.head _) inf31 rfl rfl rfl (by simp [X.cells, imC]) _ rfl) <| okY rfl (LT_assign rfl rfl) <| okE
          change AW _ _ _ _ _ _
          refine aw_weak (weak_of [(8, .ptr 2 0), (9, .d (.int .i64 2))] [(2, some ⟨31, 7, [.d (.int .i64 0), .d (.int .i64 0), .d (.int .i64 0), .d (.int .i64 0), .d (.bool false), .d (.int .i64 0), .d (.str (⟨#[]⟩))]⟩)] [2] (sE rfl (sE rfl sE0)) (sH rfl sH0) (by kernel_rfl)) ?_
          refine aw_ret ?_
          refine finN (xs := [.agg [.d (.int .i64 0), .d (.int .i64 0), .d (.int .i64 0), .d (.int .i64 0), .d (.bool false), .d (.int .i64 0), .d (.str (⟨#[]⟩))], .d (.int .i64 2)]) (l := [.cell 8 31, .tmp 9]) (.inl rfl) Try.results23 (rL ⟨2, 0, _, _, _, 7, rfl, rfl, Try.underlying31, inf31, by simp [imC], .inl ⟨rfl, rfl, rfl⟩⟩ (rL rfl (rL0))) (by simp [imC]) ?_
          rw [set_f3 hv hb2 k hb3 hb4]
          rfl
        ·
          refine aw_skip ?_
          change AW _ _ _ _ _ _
          refine aw_weak (weak_of [(1, .d (.int .i64 x)), (2, .d (.int .i64 y)), (3, .d (.slw xs.length 1 (intsD xs))), (4, .ptr 1 0), (8, .ptr 2 0), (10, .d (.int .i64 ((k : Nat) : Int)))] [(1, some ⟨31, 7, (imC I)⟩), (2, some ⟨31, 7, [.d (.int .i64 0), .d (.int .i64 0), .d (.int .i64 0), .d (.int .i64 0), .d (.bool false), .d (.int .i64 0), .d (.str (⟨#[]⟩))]⟩)] [1, 2] (sE rfl (sE rfl (sE rfl (sE rfl (sE rfl (sE rfl sE0)))))) (sH rfl (sH rfl sH0)) (by kernel_rfl)) ?_
          refine aw_region_seq [⟨.d (.int .i64 ((k : Nat) : Int)), [], [], []⟩, ⟨.d (.int .i64 (((k : Nat) : Int) + 1)), [], [], []⟩, ⟨.d (.int .i64 (((k : Nat) : Int) + 1)), [], [], []⟩] (by kernel_rfl) (by kernel_rfl) (fun id _ => hG id) ?_ ?_
          · exact okY rfl (LT_move rfl rfl) <| okY rfl (LT_add rfl rfl rfl (wi64 (by omega) (by omega))) <| okY rfl (LT_assign rfl rfl) <| okE
          exact ⟨(k + 1), ⟨by omega, okV_snoc hb3 hk2 hb4⟩, by omega, weak_of _ _ _ (sE rfl (sE rfl (sE rfl (sE rfl (sE rfl (sE rfl sE0)))))) (sH rfl (sH rfl sH0)) (by kernel_rfl)⟩
      ·
        replace hb3 := of_decide_eq_false hb3
        refine aw_exit ?_
        change AW _ _ _ _ _ _
        refine aw_weak (weak_of [(1, .d (.int .i64 x)), (2, .d (.int .i64 y)), (3, .d (.slw xs.length 1 (intsD xs))), (4, .ptr 1 0), (8, .ptr 2 0)] [(1, some ⟨31, 7, (imC I)⟩), (2, some ⟨31, 7, [.d (.int .i64 0), .d (.int .i64 0), .d (.int .i64 0), .d (.int .i64 0), .d (.bool false), .d (.int .i64 0), .d (.str (⟨#[]⟩))]⟩)] [1, 2] (sE rfl (sE rfl (sE rfl (sE rfl (sE rfl sE0))))) (sH rfl (sH rfl sH0)) (by kernel_rfl)) ?_
        refine aw_seq ?_
        have hpos := set_pos hk hk2 (by omega)
        refine aw_region_seq [⟨.agg (imC I), [], [], [1]⟩, ⟨.d (.int .i64 x), [], [], []⟩, ⟨.d (.int .i64 y), [], [], []⟩, ⟨.d (.slw xs.length 1 (intsD xs)), [], [], []⟩, ⟨.agg (imC (imF I.L (putF (I.L.fn I.O) x y xs xs.length))), [], [], []⟩, ⟨.tup [], [(2, some ⟨31, 7, (imC (imF I.L (putF (I.L.fn I.O) x y xs xs.length)))⟩)], [], [2]⟩, ⟨.d (.int .i64 0), [], [], []⟩] (by kernel_rfl) (by kernel_rfl) (fun id _ => hG id) ?_ ?_
        · exact okY rfl (LT_load 7 rfl rfl rfl (List.Mem.head _) Try.underlying31 inf31 (by simp [imC]) (.inl ⟨rfl, rfl, rfl⟩)) <| okY rfl (LT_move rfl rfl) <| okY rfl (LT_move rfl rfl) <| okY rfl (LT_move rfl rfl) <| okY rfl (LT_call [.agg (imC I), .d (.int .i64 x), .d (.int .i64 y), .d (.slw xs.length 1 (intsD xs))] rfl rfl Try.call52 rfl ((pc_put hv hx.1 hx.2.1 hx.2.2.1 hx.2.2.2.1 hx.2.2.2.2 hpos).ct rfl)) <| okY rfl (LT_store (ob := ⟨31, 7, [.d (.int .i64 0), .d (.int .i64 0), .d (.int .i64 0), .d (.int .i64 0), .d (.bool false), .d (.int .i64 0), .d (.str (⟨#[]⟩))]⟩) (x := .agg (imC (imF I.L (putF (I.L.fn I.O) x y xs xs.length)))) rfl rfl rfl (List.Mem.head _) inf31 rfl rfl rfl (by simp [X.cells, imC]) _ rfl) <| okY rfl (LT_assign rfl rfl) <| okE
        change AW _ _ _ _ _ _
        refine aw_weak (weak_of [(8, .ptr 2 0), (9, .d (.int .i64 0))] [(2, some ⟨31, 7, (imC (imF I.L (putF (I.L.fn I.O) x y xs xs.length)))⟩)] [2] (sE rfl (sE rfl sE0)) (sH rfl sH0) (by kernel_rfl)) ?_
        refine aw_ret ?_
        refine finN (xs := [.agg (imC (imF I.L (putF (I.L.fn I.O) x y xs xs.length))), .d (.int .i64 0)]) (l := [.cell 8 31, .tmp 9]) (.inl rfl) Try.results23 (rL ⟨2, 0, _, _, _, 7, rfl, rfl, Try.underlying31, inf31, by simp [imC], .inl ⟨rfl, rfl, rfl⟩⟩ (rL rfl (rL0))) (by simp [imC]) ?_
        rw [set_f4 hv hb2 (by rw [← hk2]; rw [List.take_of_length_le (by omega)])]
        rfl

end Go.Proofs.Ytphfbjeaklpddaa

/- The calculus of states: slices of the call's own that grow by append; a slice that is done turns into data; names are given anew. -/
namespace Go.Proofs.Ytphfbjeaklpddaa
open Go.RowKit

theorem idsL_d (c : List D) : X.idsL (c.map X.d) = [] := by
  induction c with
  | nil => rfl
  | cons x xs ih => simpa [X.idsL, X.ids] using ih

theorem consE {a b : X} {l l' : List X} (h : a = b) (h' : l = l') : a :: l = b :: l' := by rw [h, h']

theorem RD.one {w : World} {M : Nat → Prop} {v : Value} {d : D} (h : RD w M v d) : v.oneCell' = true := by cases h <;> rfl

/-- a name is let go -/
theorem Sat.drop {G : Ctx} {ρ : Rho} {H : Heap} {w : World} (hs : Sat G ρ H w) (id : Nat) : Sat G ρ ((id, none) :: H) w ∧ Later w (G.M ρ H) w (G.M ρ ((id, none) :: H)) := by
  have hlk : ∀ j, look ((id, none) :: H) j ≠ none → look H j ≠ none := by
    intro j h
    by_cases hj : j = id
    · subst hj; exact absurd (by simp [look]) h
    · rwa [show look ((id, none) :: H) j = look H j by simp [look, Ne.symm hj]] at h
  have hlo : ∀ j o, look ((id, none) :: H) j = some o → look H j = some o := by
    intro j o h
    by_cases hj : j = id
    · subst hj; simp [look] at h
    · rwa [show look ((id, none) :: H) j = look H j by simp [look, Ne.symm hj]] at h
  have hl : Later w (G.M ρ H) w (G.M ρ ((id, none) :: H)) := ⟨Nat.le_refl _, fun _ _ _ => rfl, fun b _ h => h.imp (fun h => h) fun ⟨j, o, c, h1, h2⟩ => ⟨j, o, c, hlo j o h1, h2⟩⟩
  refine ⟨⟨hs.below, hs.base, fun i j b c c' h1 h2 h3 h4 => hs.inj i j b c c' (hlk i h1) (hlk j h2) h3 h4, fun j o hj => ?_⟩, hl⟩
  rcases hs.obj j o (hlo j o hj) with hz | ⟨b, cap, cs, h1, h2, h3, h4, h5, h6⟩
  · exact .inl hz
  · exact .inr ⟨b, cap, cs, h1, h2, h3, h4, h5, fun i v x hv hx => (h6 i v x hv hx).later hl (Ext.refl _)⟩

/-- what a name that is let go had named may turn no more -/
theorem Sat.still {G : Ctx} {ρ : Rho} {H : Heap} {w : World} (hs : Sat G ρ H w) {id b cap : Nat} (hl : look H id ≠ none) (hr : ρ id = some (b, cap)) (hb : G.w0.heap.size ≤ b) : ¬ G.M ρ ((id, none) :: H) b := by
  rintro (h | ⟨j, o, c, h1, h2⟩)
  · have := G.hM b h; omega
  · by_cases hj : j = id
    · subst hj; simp [look] at h1
    · rw [show look ((id, none) :: H) j = look H j by simp [look, Ne.symm hj]] at h1
      exact hj (hs.inj j id b c cap (by rw [h1]; simp) hl h2 hr)

/-- what the name id had named gets the name id' -/
theorem Sat.move {G : Ctx} {ρ : Rho} {H : Heap} {w : World} (hs : Sat G ρ H w) {id id' b cap : Nat} {ob : Ob} (hl : look H id = some ob) (hr : ρ id = some (b, cap)) (hn : ρ id' = none) :
    ∃ ρ' : Rho, Ext ρ ρ' ∧ (∀ j, ρ' j ≠ none → ρ j ≠ none ∨ j = id') ∧ ρ' id' = some (b, cap) ∧ G.M ρ' ((id', some ob) :: (id, none) :: H) = G.M ρ H ∧ Sat G ρ' ((id', some ob) :: (id, none) :: H) w := by
  have hne : id' ≠ id := by rintro rfl; rw [hr] at hn; cases hn
  let ρ' : Rho := fun j => if j = id' then some (b, cap) else ρ j
  have he : Ext ρ ρ' := fun j p hj => by
    show (if j = id' then _ else _) = _
    rw [if_neg (by rintro rfl; rw [hn] at hj; cases hj)]
    exact hj
  have k1 : ρ' id' = some (b, cap) := if_pos rfl
  have hold : ∀ j, j ≠ id' → ρ' j = ρ j := fun j h => if_neg h
  have hlk : ∀ j, j ≠ id' → j ≠ id → look ((id', some ob) :: (id, none) :: H) j = look H j := fun j h1 h2 => by simp [look, Ne.symm h1, Ne.symm h2]
  have hl1 : look ((id', some ob) :: (id, none) :: H) id' = some ob := by simp [look]
  have hl2 : look ((id', some ob) :: (id, none) :: H) id = none := by simp [look, hne]
  have hM : G.M ρ' ((id', some ob) :: (id, none) :: H) = G.M ρ H := by
    funext c
    unfold Ctx.M Mt
    refine propext (or_congr Iff.rfl ⟨?_, ?_⟩)
    · rintro ⟨j, o1, c1, h1, h2⟩
      by_cases hj : j = id'
      · subst hj; rw [k1] at h2; cases h2; exact ⟨id, ob, cap, hl, hr⟩
      · by_cases hj2 : j = id
        · subst hj2; rw [hl2] at h1; cases h1
        · rw [hlk j hj hj2] at h1; rw [hold j hj] at h2; exact ⟨j, o1, c1, h1, h2⟩
    · rintro ⟨j, o1, c1, h1, h2⟩
      by_cases hj2 : j = id
      · subst hj2; rw [hr] at h2; cases h2; exact ⟨id', ob, cap, hl1, k1⟩
      · by_cases hj : j = id'
        · subst hj; rw [hn] at h2; cases h2
        · exact ⟨j, o1, c1, by rw [hlk j hj hj2]; exact h1, by rw [hold j hj]; exact h2⟩
  have hlat : Later w (G.M ρ H) w (G.M ρ' ((id', some ob) :: (id, none) :: H)) := by rw [hM]; exact Later.refl _ _
  refine ⟨ρ', he, fun j hj => ?_, k1, hM, ⟨hs.below, hs.base.trans he, ?_, ?_⟩⟩
  · by_cases h : j = id'
    · exact .inr h
    · exact .inl (by rwa [hold j h] at hj)
  · intro i j c c1 c2 h1 h2 h3 h4
    have key : ∀ k d, look ((id', some ob) :: (id, none) :: H) k ≠ none → ρ' k = some (c, d) → (k = id' ∧ c = b) ∨ (k ≠ id' ∧ k ≠ id ∧ look H k ≠ none ∧ ρ k = some (c, d)) := by
      intro k d g1 g2
      by_cases e1 : k = id'
      · subst e1; rw [k1] at g2; cases g2; exact .inl ⟨rfl, rfl⟩
      · by_cases e2 : k = id
        · subst e2; exact absurd hl2 g1
        · rw [hlk k e1 e2] at g1; rw [hold k e1] at g2; exact .inr ⟨e1, e2, g1, g2⟩
    rcases key i c1 h1 h3 with ⟨a1, a2⟩ | ⟨a1, a2, a3, a4⟩ <;> rcases key j c2 h2 h4 with ⟨b1, b2⟩ | ⟨b1, b2, b3, b4⟩
    · rw [a1, b1]
    · subst a2; exact absurd (hs.inj j id c c2 cap b3 (by rw [hl]; simp) b4 hr) b2
    · subst b2; exact absurd (hs.inj i id c c1 cap a3 (by rw [hl]; simp) a4 hr) a2
    · exact hs.inj i j c c1 c2 a3 b3 a4 b4
  · intro j o1 hj
    by_cases e1 : j = id'
    · subst e1
      rw [hl1] at hj; cases hj
      rcases hs.obj id ob hl with ⟨_, z⟩ | ⟨b', cap', cs, h1, h2, h3, h4, h5, h6⟩
      · rw [hr] at z; cases z
      · rw [hr] at h1; cases h1
        exact .inr ⟨b, cap, cs, k1, h2, h3, h4, h5, fun i v x hv hx => (h6 i v x hv hx).later hlat he⟩
    · by_cases e2 : j = id
      · subst e2; rw [hl2] at hj; cases hj
      · rw [hlk j e1 e2] at hj
        rcases hs.obj j o1 hj with ⟨z1, z2⟩ | ⟨b', cap', cs, h1, h2, h3, h4, h5, h6⟩
        · exact .inl ⟨z1, (hold j e1).trans z2⟩
        · exact .inr ⟨b', cap', cs, he _ _ h1, h2, h3, h4, h5, fun i v x hv hx => (h6 i v x hv hx).later hlat he⟩

theorem Turn.of_grown {w w' : World} {b : Nat} (h : Turn (· = b) w w') : Turn (· = b) w w' := h

section
variable {P : Program} {o : Oper} {E : Env} {H : Heap} {R nw : List Nat}

theorem cells_new {w : World} {M : Nat → Prop} {ρ : Rho} {old news rest : List Value} {cs : List X} {c : List D} (ho : old.length = cs.length) (h1 : ∀ (i : Nat) v x, old[i]? = some v → cs[i]? = some x → RV w M ρ v x)
    (hn : news.length = c.length) (h2 : ∀ (i : Nat) v x, news[i]? = some v → c[i]? = some x → RD w M v x) (i : Nat) (v : Value) (x : X) (hv : (old ++ news ++ rest)[i]? = some v) (hx : (cs ++ c.map X.d)[i]? = some x) : RV w M ρ v x := by
  rw [List.append_assoc] at hv
  by_cases hi : i < cs.length
  · rw [List.getElem?_append_left (by omega)] at hv
    rw [List.getElem?_append_left hi] at hx
    exact h1 i v x hv hx
  · rw [List.getElem?_append_right (by omega), ho] at hv
    rw [List.getElem?_append_right (by omega), List.getElem?_map] at hx
    cases hc : c[i - cs.length]? with
    | none => rw [hc] at hx; cases hx
    | some d =>
      rw [hc] at hx
      cases hx
      have : i - cs.length < c.length := (List.getElem?_eq_some_iff.1 hc).1
      rw [List.getElem?_append_left (by omega)] at hv
      exact .d (h2 _ v d hv hc)

theorem LT_append {t e : TypeId} {i : TypeInfo} {z : Value} {y q : Operand} {id n k m : Nat} {ob : Ob} {c : List D} (id' : Nat) (ho : o.op = .call ⟨.builtin .append, #[y, q], #[t, t]⟩) (ht : P.underlying t = some (.slice e)) (hi : P.info? e = some i) (hz : i.zero = some z) (hm : i.size = m) (hzs : z.cells.size = m) (hm0 : 0 < m)
    (hy : opX E y = .own id n m) (hq : opX E q = .d (.sl k m c)) (hl : look H id = some ob) (hR : id ∈ R) (hid : id' ∈ nw) (hT : ob.T = e) (he : ob.e = m) (hcs : ob.cs.length = n * m) (hk : 0 < k) (hbig : n + k ≤ 9223372036854775807) (hby : (n + k) * i.bytes ≤ 140737488355328) (cs' : List X) (hcs' : ob.cs ++ c.map .d = cs') (n' : Nat) (hn' : n + k = n') :
    LT P o E H R nw [(id', some ⟨e, m, cs'⟩), (id, none)] (.own id' n' m) := by
  intro G ρ H1 a w hs hh hRR hnw next Q hK
  have g1 := hh y (by simp [ho, Op.operands, Call.operands])
  have g2 := hh q (by simp [ho, Op.operands, Call.operands])
  rw [hy] at g1
  rw [hq] at g2
  subst hn' hcs' hm
  have hl1 : look H1 id = some ob := (hRR id hR).trans hl
  have hnone := hnw id' hid
  generalize hey : a.eval y = vy at g1
  obtain ⟨aq, capq, heq, hkcap, hclen, hpos⟩ := g2.sl_inv
  obtain ⟨b2, off2, g, rfl, hb2, hm2, hg, hrr⟩ := hpos hk
  let news : List Value := (List.range (k * i.size)).map g
  have hnl : news.length = k * i.size := by simp [news]
  have hnews : ∀ (w' : World), w'.heap[b2]? = w.heap[b2]? → ∀ j u, news[j]? = some u → w'.cell? ((⟨b2, off2, none⟩ : Addr).add j) = some u := by
    intro w' hw' j u hu
    have hj : j < k * i.size := by rw [← hnl]; exact (List.getElem?_eq_some_iff.1 hu).1
    have : u = g j := by simpa [news, hj] using hu.symm
    rw [this, add_none, cell_eq hw']
    exact hg j hj
  have hnd : ∀ (j : Nat) u x, news[j]? = some u → c[j]? = some x → RD w (G.M ρ H1) u x := by
    intro j u x hu hx
    have hj : j < k * i.size := by rw [← hnl]; exact (List.getElem?_eq_some_iff.1 hu).1
    have : u = g j := by simpa [news, hj] using hu.symm
    rw [this]
    exact hrr j x hx
  have hone : ∀ u ∈ news, u.oneCell' = true := by
    intro u hu
    obtain ⟨j, hj, he⟩ := List.mem_iff_getElem.1 hu
    have hjc : j < c.length := by rw [hclen, ← hnl]; exact hj
    exact (hnd j u c[j] (by rw [List.getElem?_eq_getElem hj, he]) (by simp [hjc])).one
  -- how the operation runs
  have hwp : ∀ v w', (Builtin.append_ #[t, t] o.type #[vy, .slice (some ⟨b2, off2, none⟩) k capq]).run P w = .ok v w' → next (a.put o.dst v) w' → o.wp P a w next Q := by
    intro v w' hr hnx
    unfold Oper.wp execOp
    simp only [ho, resolve, invoke, builtin, Sem.run_bind, Sem.run_pure, Result.andThen_ok, List.map_toArray, List.map_cons, List.map_nil, hey, heq, hr]
    exact hnx
  -- the arm that makes a new block
  have grown : ∀ (xs : List Value) (old cap : Nat), xs.length = ob.cs.length → (∀ (j : Nat) v x, xs[j]? = some v → ob.cs[j]? = some x → RV w (G.M ρ H1) ρ v x) → cap = grownCap w (n + k) old e →
      (Builtin.append_ #[t, t] o.type #[vy, .slice (some ⟨b2, off2, none⟩) k capq]).run P w = .ok (.slice (some ⟨w.heap.size, 0, none⟩) (n + k) cap) (w.drew.alloc (.cells (xs.toArray ++ news.toArray ++ Builtin.zeroCells z.cells (cap - (n + k))) e)) → o.wp P a w next Q := by
    intro xs old cap hxl hxr hcap hrun
    have hge : n + k ≤ cap := hcap ▸ grownCap_ge w (n + k) old e
    have hd : Below w.heap.size w w.drew := (Below.refl _ w).drew
    have hs1 : Sat G ρ H1 w.drew := hs.grow hd
    obtain ⟨hs2, hl2⟩ := hs1.drop id
    have hlat1 : Later w (G.M ρ H1) w.drew (G.M ρ ((id, none) :: H1)) := ⟨hl2.size, fun _ _ _ => rfl, hl2.sub⟩
    obtain ⟨ρ', e1, e2, e3, e4, e5⟩ := hs2.new (id := id') hnone (xs.toArray ++ news.toArray ++ Builtin.zeroCells z.cells (cap - (n + k))) cap ⟨e, i.size, ob.cs ++ c.map .d⟩
      (by
        simp only [Array.size_append, List.size_toArray, size_zeroCells, hzs, hxl, hnl, hcs, ← Nat.add_mul]
        congr 1; omega)
      (by simp only [Array.size_append, List.size_toArray, size_zeroCells, hxl, hnl, List.length_append, List.length_map, hclen]; omega)
      (fun j v x hv hx => by
        refine cells_new (old := xs) (news := news) (rest := (Builtin.zeroCells z.cells (cap - (n + k))).toList) hxl (fun j v x h1 h2 => (hxr j v x h1 h2).later hlat1 (Ext.refl _)) (by rw [hnl, hclen]) (fun j v x h1 h2 => (hnd j v x h1 h2).later hlat1) j v x ?_ hx
        rw [← hv, ← Array.getElem?_toList]
        simp)
    refine hwp _ _ hrun (hK _ _ ρ' e1 (fun j hj => (e2 j hj).imp (fun h => h) fun h => by rw [h]; exact hid) ?_ (.own id' _ _ _ _ e3) e5)
    exact ⟨by have := e4.size; exact this, fun b h1 h2 => (e4.block b h1 fun h => h2 (hlat1.sub b h1 h)), fun b h1 h2 => hlat1.sub b h1 (e4.sub b h1 h2)⟩
  cases g1 with
  | own0 =>
    have hnil : ob.cs = [] := List.eq_nil_of_length_eq_zero (by simpa using hcs)
    have hr := run_append_nil (P := P) w t o.type e i z ht hi hz ⟨b2, off2, none⟩ k capq news hnl (hnews w rfl) hk (by omega) (by simp only [Nat.zero_add] at hby; omega)
    refine grown [] 0 _ (by rw [hnil]; rfl) (fun j v x h => by simp at h) rfl ?_
    simp only [Nat.zero_add]
    rw [hr]
    simp
  | own _ _ _ b cap hr =>
    rcases hs.obj id ob hl1 with ⟨_, z1⟩ | ⟨b', cap', cur, h1, h2, h3, h4, h5, h6⟩
    · rw [hr] at z1; cases z1
    rw [hr] at h1
    cases h1
    rw [hT] at h3
    rw [he] at h4
    have hcur : n * i.size ≤ cur.size := by rw [← hcs]; exact h5
    let xs : List Value := cur.toList.take (n * i.size)
    have hxl : xs.length = ob.cs.length := by simp [xs, hcs]; omega
    have hxr : ∀ (j : Nat) v x, xs[j]? = some v → ob.cs[j]? = some x → RV w (G.M ρ H1) ρ v x := by
      intro j v x hv hx
      have hj : j < n * i.size := by rw [← hcs]; exact (List.getElem?_eq_some_iff.1 hx).1
      refine h6 j v x ?_ hx
      rw [← hv, List.getElem?_take_of_lt hj, Array.getElem?_toList]
    by_cases hroom : n + k ≤ cap
    · have hfit : n * i.size + news.length ≤ cur.size := by rw [hnl, h4, ← Nat.add_mul]; exact Nat.mul_le_mul_right _ hroom
      have hrun := run_append_room (P := P) w t o.type e i ht hi b n cap cur h3 ⟨b2, off2, none⟩ k capq news hnl (hnews w rfl) hone hroom hfit
      obtain ⟨ρ', e1, e2, e3, e4, e5⟩ := hs.move hl1 hr hnone
      obtain ⟨f1, f2⟩ := e5.set (id := id') (ob := ob) (ob' := ⟨e, i.size, ob.cs ++ c.map .d⟩) (w' := w.setRow b (cur.toList.take (n * i.size) ++ news ++ cur.toList.drop (n * i.size + news.length)).toArray) (by simp [look]) e3
        (cur.toList.take (n * i.size) ++ news ++ cur.toList.drop (n * i.size + news.length)).toArray hT.symm he.symm
        (by simp only [List.size_toArray, List.length_append, List.length_take, List.length_drop, Array.length_toList, List.length_map, hclen, hcs]; omega)
        (by simp only [List.size_toArray, List.length_append, List.length_take, List.length_drop, Array.length_toList, he]; omega)
        (by rw [hT]; exact setRow_heap w b cur _ e _ h3) (turn_setRow _ _ _)
        (fun j v x hv hx => by
          rw [e4]
          rw [List.getElem?_toArray] at hv
          have hlat : Later w (G.M ρ H1) w (G.M ρ H1) := Later.refl _ _
          exact cells_new hxl (fun j v x h1 h2 => (hxr j v x h1 h2).later hlat e1) (by rw [hnl, hclen]) hnd j v x hv hx)
      have hH : ∀ j, look ((id', some (⟨e, i.size, ob.cs ++ c.map .d⟩ : Ob)) :: (id', some ob) :: (id, none) :: H1) j = look ((id', some ⟨e, i.size, ob.cs ++ c.map .d⟩) :: (id, none) :: H1) j := by
        intro j
        by_cases hj : id' = j <;> simp [look, hj]
      have hMM : G.M ρ' ((id', some (⟨e, i.size, ob.cs ++ c.map .d⟩ : Ob)) :: (id', some ob) :: (id, none) :: H1) = G.M ρ' ((id', some ⟨e, i.size, ob.cs ++ c.map .d⟩) :: (id, none) :: H1) := by
        funext b
        unfold Ctx.M Mt
        simp only [hH]
      rw [e4, hMM] at f1
      refine hwp _ _ hrun (hK _ _ ρ' e1 (fun j hj => (e2 j hj).imp (fun h => h) fun h => by rw [h]; exact hid) f1 (.own id' _ _ _ _ e3) ⟨f2.below, f2.base, fun p q b c1 c2 q1 q2 => f2.inj p q b c1 c2 (by rw [hH]; exact q1) (by rw [hH]; exact q2), fun j o1 hj => ?_⟩)
      have := f2.obj j o1 (by rw [hH]; exact hj)
      rw [hMM] at this
      exact this
    · have holds : ∀ j u, xs[j]? = some u → w.cell? ((⟨b, 0, none⟩ : Addr).add j) = some u := by
        intro j u hu
        have hj : j < n * i.size := by
          have := (List.getElem?_eq_some_iff.1 hu).1
          rw [hxl, hcs] at this; exact this
        rw [List.getElem?_take_of_lt hj, Array.getElem?_toList] at hu
        rw [add_none]
        simp [World.cell?, h3, hu]
      have hrun := run_append_grow (P := P) w t o.type e i z ht hi hz ⟨b, 0, none⟩ n cap xs (by rw [hxl, hcs]) holds ⟨b2, off2, none⟩ k capq news hnl (hnews w rfl) (by omega) (by omega) (growslice_fits (by omega) hby)
      exact grown xs cap _ hxl hxr rfl hrun

end

/-! ### a slice that is done -/
section
variable {G : Ctx} {N : Nat} {s : St}

theorem weak_frz (t id n m : Nat) (c : List D) {ob : Ob} (ht : get s.E t = .own id n m) (hl : look s.H id = some ob) (he : ob.e = m) (hc : ob.cs = c.map .d) (hn : c.length = n * m) (hm : 0 < m) : Weak G N s ⟨(t, .d (.sl n m c)) :: s.E, (id, none) :: s.H, s.U⟩ := by
  intro ρ a w hr
  obtain ⟨hs, hlat⟩ := hr.sat.drop id
  refine ⟨ρ, hs, fun t' => ?_, hr.used, hr.size, hr.defers⟩
  by_cases htt : t = t'
  · subst htt
    simp only [get, if_true]
    have h1 := hr.env t
    rw [ht] at h1
    generalize a.tmps.getD t undef = v at h1
    cases h1 with
    | own0 =>
      have : c = [] := List.eq_nil_of_length_eq_zero (by simpa using hn)
      subst this
      exact .d (.nil none 0 m hm)
    | own _ _ _ b cap h =>
      rcases hr.sat.obj id ob hl with ⟨_, z⟩ | ⟨b', cap', cs, h1, h2, h3, h4, h5, h6⟩
      · rw [h] at z; cases z
      rw [h] at h1
      cases h1
      rw [he] at h4
      rw [hc, List.length_map, hn] at h5
      rcases Nat.eq_zero_or_pos n with hz | hz
      · subst hz
        have : c = [] := List.eq_nil_of_length_eq_zero (by simpa using hn)
        subst this
        exact .d (.nil _ _ m hm)
      · refine .d (.sl b 0 n cap m c (fun j => cs[j]?.getD Go.undef) hz ?_ hn (lt_of_heap h3) (hr.sat.still (by rw [hl]; simp) h h2) (fun j hj => ?_) fun j x hx => ?_)
        · rw [h4] at h5
          exact Nat.le_of_mul_le_mul_right h5 hm
        · have : j < cs.size := by omega
          simp [World.cell?, h3, this]
        · have hj : j < c.length := (List.getElem?_eq_some_iff.1 hx).1
          have hj' : j < cs.size := by omega
          have h7 := h6 j cs[j] (.d x) (by simp [hj']) (by rw [hc, List.getElem?_map, hx]; rfl)
          have e7 : cs[j]?.getD Go.undef = cs[j] := by simp [hj']
          show RD w _ (cs[j]?.getD Go.undef) x
          rw [e7]
          generalize cs[j] = u at h7
          cases h7 with | d h => exact h.later hlat
  · simp only [get, if_neg htt]
    exact (hr.env t').later hlat (Ext.refl _)

/-! ### names given anew -/
mutual
def X.ren (σ : Nat → Nat) : X → X
  | .own id n e => .own (σ id) n e
  | .ptr id off => .ptr (σ id) off
  | .func f a b => .func f (X.renL σ a) (X.renL σ b)
  | .agg cs => .agg (X.renL σ cs)
  | .tup cs => .tup (X.renL σ cs)
  | .opt g x => .opt g (x.ren σ)
  | .d v => .d v
  | .dptr c => .dptr c
  | .undef => .undef
def X.renL (σ : Nat → Nat) : List X → List X
  | [] => []
  | x :: xs => x.ren σ :: X.renL σ xs
end

/-- the name a of a slice of data is changed to b -/
theorem weak_ren (h0 : ∀ id, G.ρ0 id = none) (t a b n m : Nat) (ob : Ob) (hab : a ≠ b) (ht : get s.E t = .own a n m) (hl : look s.H a = some ob) (hd : ob.cs.all (fun | .d _ => true | _ => false) = true) (E' : Env) (H' : Heap) (U' : List Nat) (hE : subE E' s.E) (hH : subH H' s.H)
    (hU : (E'.ids ++ H'.ids ++ H'.map (·.1)).all (fun i => U'.contains i && i != b && i != a) = true) (hbU : U'.contains b = true) : Weak G N s ⟨(t, .own b n m) :: E', (b, some ob) :: H', U'⟩ := by
  intro ρ ac w hr
  -- first: the rest
  have hU1 : (Env.ids ((t, X.own a n m) :: E') ++ Heap.ids ((a, some ob) :: H') ++ ((a, some ob) :: H').map (·.1)).all ((a :: U').contains ·) = true := by
    simp only [List.all_eq_true, List.mem_append, List.contains_iff_mem, Bool.and_eq_true] at hU ⊢
    intro i hi
    have hlist : ∀ cs : List X, cs.all (fun | .d _ => true | _ => false) = true → X.idsL cs = [] := by
      intro cs
      induction cs with
      | nil => intro _; rfl
      | cons x xs ih =>
        intro h
        simp only [List.all_cons, Bool.and_eq_true] at h
        cases x <;> simp at h
        simp only [X.idsL, X.ids, List.nil_append]
        exact ih (by simpa using h)
    simp only [Env.ids, X.ids, Heap.ids, hlist _ hd, List.nil_append, List.map_cons, List.mem_cons, List.mem_append, List.not_mem_nil, or_false] at hi
    rcases hi with ((rfl | hi) | hi) | (rfl | hi)
    · simp
    · simp [(hU i (.inl (.inl hi))).1.1]
    · simp [(hU i (.inl (.inr hi))).1.1]
    · simp
    · simp [(hU i (.inr hi)).1.1]
  obtain ⟨ρ1, hr1⟩ := weak_of (G := G) (N := N) (s := s) ((t, .own a n m) :: E') ((a, some ob) :: H') (a :: U') ⟨ht, hE⟩ ⟨hl, hH⟩ hU1 ρ ac w hr
  simp only [List.all_eq_true, List.mem_append, List.contains_iff_mem, Bool.and_eq_true, bne_iff_ne] at hU
  let ρ' : Rho := fun i => if i = b then ρ1 a else if i = a then none else ρ1 i
  have kb : ρ' b = ρ1 a := if_pos rfl
  have ko : ∀ i, i ≠ b → i ≠ a → ρ' i = ρ1 i := fun i h1 h2 => by show (if _ then _ else _) = _; rw [if_neg h1, if_neg h2]
  have hdom : ∀ i, look H' i ≠ none → i ≠ b ∧ i ≠ a := by
    intro i h
    have : i ∈ H'.map (·.1) := by
      clear hU hE hH hU1 hr1
      induction H' with
      | nil => exact absurd rfl h
      | cons p r ih =>
        obtain ⟨j, x⟩ := p
        by_cases hj : j = i
        · subst hj; simp
        · simp only [look, if_neg hj] at h
          simp only [List.map_cons, List.mem_cons]
          exact .inr (ih h)
    have := hU i (.inr this)
    exact ⟨this.1.2, this.2⟩
  have lb : look ((b, some ob) :: H') b = some ob := by simp [look]
  have la : look ((a, some ob) :: H') a = some ob := by simp [look]
  have lo : ∀ i, i ≠ b → look ((b, some ob) :: H') i = look H' i := fun i h => by simp [look, Ne.symm h]
  have lo' : ∀ i, i ≠ a → look ((a, some ob) :: H') i = look H' i := fun i h => by simp [look, Ne.symm h]
  -- a name of the new state, and the name that it had
  have back : ∀ i o, look ((b, some ob) :: H') i = some o → ∃ j, look ((a, some ob) :: H') j = some o ∧ ρ' i = ρ1 j ∧ ((i = b ∧ j = a) ∨ (i = j ∧ i ≠ b ∧ i ≠ a)) := by
    intro i o h
    by_cases hi : i = b
    · subst hi; rw [lb] at h; cases h; exact ⟨a, la, kb, .inl ⟨rfl, rfl⟩⟩
    · rw [lo i hi] at h
      obtain ⟨d1, d2⟩ := hdom i (by rw [h]; simp)
      exact ⟨i, by rw [lo' i d2]; exact h, ko i d1 d2, .inr ⟨rfl, d1, d2⟩⟩
  have hlat : Later w (G.M ρ1 ((a, some ob) :: H')) w (G.M ρ' ((b, some ob) :: H')) := ⟨Nat.le_refl _, fun _ _ _ => rfl, fun c _ h => h.imp (fun h => h) fun ⟨i, o, cap, h1, h2⟩ => by
    obtain ⟨j, h3, h4, _⟩ := back i o h1
    exact ⟨j, o, cap, h3, by rw [← h4]; exact h2⟩⟩
  refine ⟨ρ', ⟨hr1.sat.below, fun id p hp => (by rw [h0 id] at hp; cases hp), ?_, ?_⟩, ?_, ?_, hr1.size, hr1.defers⟩
  · intro i j c c1 c2 h1 h2 h3 h4
    cases e1 : look ((b, some ob) :: H') i with
    | none => exact absurd e1 h1
    | some o1 =>
      cases e2 : look ((b, some ob) :: H') j with
      | none => exact absurd e2 h2
      | some o2 =>
        obtain ⟨i', p1, p2, p3⟩ := back i o1 e1
        obtain ⟨j', q1, q2, q3⟩ := back j o2 e2
        have := hr1.sat.inj i' j' c c1 c2 (by rw [p1]; simp) (by rw [q1]; simp) (by rw [← p2]; exact h3) (by rw [← q2]; exact h4)
        rcases p3 with ⟨a1, a2⟩ | ⟨a1, a2, a3⟩ <;> rcases q3 with ⟨b1, b2⟩ | ⟨b1, b2, b3⟩
        · rw [a1, b1]
        · exact absurd (by rw [b1, ← this, a2]) b3
        · exact absurd (by rw [a1, this, b2]) a3
        · rw [a1, b1, this]
  · intro i o hi
    obtain ⟨j, p1, p2, p3⟩ := back i o hi
    rcases hr1.sat.obj j o p1 with ⟨z1, z2⟩ | ⟨b', cap', cs, h1, h2, h3, h4, h5, h6⟩
    · exact .inl ⟨z1, p2.trans z2⟩
    · refine .inr ⟨b', cap', cs, p2.trans h1, h2, h3, h4, h5, fun q v x hv hx => ((h6 q v x hv hx).later hlat (Ext.refl _)).fewer fun id hid => ?_⟩
      rcases p3 with ⟨a1, a2⟩ | ⟨a1, a2, a3⟩
      · subst a1 a2
        rw [la] at p1
        cases p1
        rw [List.all_eq_true] at hd
        have := hd x (List.mem_of_getElem? hx)
        cases x <;> simp at this
        simp [X.ids] at hid
      · rw [lo' j (by rw [← a1]; exact a3)] at p1
        have hin : id ∈ H'.ids := (subH_look hH p1).2 id (X.mem_idsL (List.mem_of_getElem? hx) hid)
        have := hU id (.inl (.inr hin))
        exact ko id this.1.2 this.2
  · intro t'
    by_cases htt : t = t'
    · subst htt
      have h1 := hr1.env t
      simp only [get, if_true] at h1 ⊢
      generalize ac.tmps.getD t undef = v at h1
      cases h1 with
      | own0 => exact .own0 b m
      | own _ _ _ bb cap h => exact .own b n m bb cap (kb.trans h)
    · have h1 := hr1.env t'
      simp only [get, if_neg htt] at h1 ⊢
      refine (h1.later hlat (Ext.refl _)).fewer fun id hid => ?_
      rcases subE_get hE t' with h | ⟨_, h2⟩
      · rw [h] at hid; simp [X.ids] at hid
      · have := hU id (.inl (.inl (h2 id hid)))
        exact ko id this.1.2 this.2
  · intro id hid _
    by_cases hb : id = b
    · subst hb; exact List.contains_iff_mem.1 hbU
    · by_cases ha : id = a
      · subst ha; exact absurd (by show (if _ then _ else _) = _; rw [if_neg hb, if_pos rfl]) hid
      · rw [ko id hb ha] at hid
        have := hr1.used id hid (h0 id)
        rcases List.mem_cons.1 this with h | h
        · exact absurd h ha
        · exact h

/-- nothing as yet: a slice that holds no element has a name of its own -/
theorem weak_nil (t id e : Nat) (T : TypeId) (h0 : ∀ id, G.ρ0 id = none) (ht : get s.E t = .d (.sl 0 0 [])) (hU : s.U.contains id = false) : Weak G N s ⟨(t, .own id 0 e) :: s.E, (id, some ⟨T, e, []⟩) :: s.H, id :: s.U⟩ := by
  intro ρ a w hr
  have hn : ρ id = none := by
    cases h : ρ id with
    | none => rfl
    | some p => exact absurd (List.contains_iff_mem.2 (hr.used id (by rw [h]; simp) (h0 id))) (by rw [hU]; simp)
  have hlo : ∀ j, j ≠ id → look ((id, some (⟨T, e, []⟩ : Ob)) :: s.H) j = look s.H j := fun j h => by simp [look, Ne.symm h]
  have hl : look ((id, some (⟨T, e, []⟩ : Ob)) :: s.H) id = some ⟨T, e, []⟩ := by simp [look]
  have hlat : Later w (G.M ρ s.H) w (G.M ρ ((id, some ⟨T, e, []⟩) :: s.H)) := ⟨Nat.le_refl _, fun _ _ _ => rfl, fun c _ h => h.imp (fun h => h) fun ⟨j, o, cap, h1, h2⟩ => by
    by_cases hj : j = id
    · subst hj; rw [hn] at h2; cases h2
    · exact ⟨j, o, cap, by rw [← hlo j hj]; exact h1, h2⟩⟩
  refine ⟨ρ, ⟨hr.sat.below, hr.sat.base, ?_, ?_⟩, ?_, fun i h1 h2 => List.mem_cons_of_mem _ (hr.used i h1 h2), hr.size, hr.defers⟩
  · intro i j b c c' h1 h2 h3 h4
    have hi : i ≠ id := by rintro rfl; rw [hn] at h3; cases h3
    have hj : j ≠ id := by rintro rfl; rw [hn] at h4; cases h4
    exact hr.sat.inj i j b c c' (by rw [← hlo i hi]; exact h1) (by rw [← hlo j hj]; exact h2) h3 h4
  · intro j o hj
    by_cases hi : j = id
    · subst hi; rw [hl] at hj; cases hj; exact .inl ⟨rfl, hn⟩
    · rw [hlo j hi] at hj
      rcases hr.sat.obj j o hj with hz | ⟨b, cap, cs, h1, h2, h3, h4, h5, h6⟩
      · exact .inl hz
      · exact .inr ⟨b, cap, cs, h1, h2, h3, h4, h5, fun q v x hv hx => (h6 q v x hv hx).later hlat (Ext.refl _)⟩
  · intro t'
    by_cases htt : t = t'
    · subst htt
      simp only [get, if_true]
      have h1 := hr.env t
      rw [ht] at h1
      generalize a.tmps.getD t undef = v at h1
      cases h1 with | d h1 =>
      cases h1 with
      | nil0 => exact .own0 id e
      | nil _ _ _ he => omega
      | sl _ _ _ _ _ _ _ hn => omega
    · simp only [get, if_neg htt]
      exact (hr.env t').later hlat (Ext.refl _)

end
end Go.Proofs.Ytphfbjeaklpddaa

/- Layer 42: what the laws on Get and Set need. -/
namespace Go.Proofs.Ytphfbjeaklpddaa
open Go.RowKit

def im3 (m J1 J2 : Im) : Nat → Im
  | 0 => m
  | 1 => J1
  | _ => J2

theorem im3_at (m J1 J2 : Im) {k : Nat} (h : k < 3) : .agg [.d (.int .i64 ((im3 m J1 J2 k).L.W)), .d (.int .i64 ((im3 m J1 J2 k).L.H)), .d (.int .i64 ((im3 m J1 J2 k).L.C)), .d (.int .i64 ((im3 m J1 J2 k).L.B)), .d (.bool ((im3 m J1 J2 k).L.pl)), .d (.int .i64 ((im3 m J1 J2 k).L.P)), .d (.str ((im3 m J1 J2 k).O))] = X.agg (([.d (.int .i64 m.L.W), .d (.int .i64 m.L.H), .d (.int .i64 m.L.C), .d (.int .i64 m.L.B), .d (.bool m.L.pl), .d (.int .i64 m.L.P), .d (.str m.O), .d (.int .i64 J1.L.W), .d (.int .i64 J1.L.H), .d (.int .i64 J1.L.C), .d (.int .i64 J1.L.B), .d (.bool J1.L.pl), .d (.int .i64 J1.L.P), .d (.str J1.O), .d (.int .i64 J2.L.W), .d (.int .i64 J2.L.H), .d (.int .i64 J2.L.C), .d (.int .i64 J2.L.B), .d (.bool J2.L.pl), .d (.int .i64 J2.L.P), .d (.str J2.O)].drop (((k : Nat) : Int).toNat * 7)).take 7) := by
  match k, h with
  | 0, _ => rfl
  | 1, _ => rfl
  | 2, _ => rfl

def pt3 (x0 x1 x2 : Int) : Nat → Int
  | 0 => x0
  | 1 => x1
  | _ => x2

theorem pt3_at {x0 y0 x1 y1 x2 y2 : Int} {p : Nat} (h : p < 3) : X.agg [.d (.int .i64 (pt3 x0 x1 x2 p)), .d (.int .i64 (pt3 y0 y1 y2 p))] = X.agg (([.d (.int .i64 x0), .d (.int .i64 y0), .d (.int .i64 x1), .d (.int .i64 y1), .d (.int .i64 x2), .d (.int .i64 y2)].drop (((p : Nat) : Int).toNat * 2)).take 2) := by
  match p, h with
  | 0, _ => rfl
  | 1, _ => rfl
  | 2, _ => rfl

def ls2 (xs ys : List Int) : Nat → List Int
  | 0 => xs
  | _ => ys

theorem ls2_len {xs ys : List Int} {q : Nat} (h : xs.length ≤ 1000000) (h' : ys.length ≤ 1000000) : (ls2 xs ys q).length ≤ 1000000 := by
  match q with
  | 0 => exact h
  | _ + 1 => exact h'

theorem RD.to_slw {w : World} {M : Nat → Prop} {v : Value} {n e : Nat} {c : List D} (h : RD w M v (.sl n e c)) : RD w M v (.slw n e c) := by
  obtain ⟨a, cap, rfl, _, hc, hpos⟩ := h.sl_inv
  rcases Nat.eq_zero_or_pos n with h0 | h0
  · subst h0
    have : c = [] := List.eq_nil_of_length_eq_zero (by simpa using hc)
    subst this
    exact .slw a 0 cap e [] (fun _ => undef) hc (fun h => absurd h (by omega)) (fun i x hx => by simp at hx)
  · obtain ⟨b, off, g, rfl, hb, hm, hg, hr⟩ := hpos h0
    exact .slw _ n cap e c g hc (fun _ => ⟨b, off, rfl, hb, hm, hg⟩) hr

theorem LT.wkX {P : Program} {o : Oper} {E : Env} {H : Heap} {R nw : List Nat} {u : Upds} {x x' : X} (h : LT P o E H R nw u x) (hx : ∀ w M ρ v, RV w M ρ v x → RV w M ρ v x') : LT P o E H R nw u x' :=
  fun G ρ H1 a w hs hh hR hn next Q hK => h G ρ H1 a w hs hh hR hn next Q fun v w' ρ' h1 h2 h3 h4 h5 => hK v w' ρ' h1 h2 h3 (hx _ _ _ _ h4) h5

theorem LT_index2 {P : Program} {o : Oper} {E : Env} {H : Heap} {R nw : List Nat} {T e : TypeId} {i : TypeInfo} {d : TypeDesc} {k : IntKind} {q n n' : Nat} {y z : Operand} {V F : List Int} (ho : o.op = .index T y z) (hy : opX E y = .agg [.d (.sl n 1 (intsD V)), .d (.sl n' 1 (intsD F))]) (hz : opX E z = .d (.int k ((q : Nat) : Int)))
    (hu : P.underlying T = some (.array 2 e)) (hi : P.info? e = some i) (hd : P.underlying e = some d) (hs : i.size = 1) (ha : aggB d = false) (hq : q < 2) (hn : n = V.length) (hn' : n' = F.length) : LT P o E H R nw [] (.d (.slw (ls2 V F q).length 1 (intsD (ls2 V F q)))) := by
  subst hn hn'
  match q, hq with
  | 0, _ => exact (LT_indexA (x := .d (.sl V.length 1 (intsD V))) ho hy hz hu hi hd (by omega) (by omega) 1 (by simp) (.inr ⟨ha, rfl, by simp⟩)).wkX fun w M ρ v h => by cases h with | d h => exact .d h.to_slw
  | 1, _ => exact (LT_indexA (x := .d (.sl F.length 1 (intsD F))) ho hy hz hu hi hd (by omega) (by omega) 1 (by simp [hs]) (.inr ⟨ha, rfl, by simp [hs]⟩)).wkX fun w M ρ v h => by cases h with | d h => exact .d h.to_slw

theorem fit_at (g0 g1 g2 g3 : Int) {i : Nat} (h : i < 4) : ([.d (.int .u16 g0), .d (.int .u16 g1), .d (.int .u16 g2), .d (.int .u16 g3)] : List X)[i]? = some (.d (.int .u16 ([g0, g1, g2, g3][i]?.getD 0))) := by
  match i, h with
  | 0, _ => rfl
  | 1, _ => rfl
  | 2, _ => rfl
  | 3, _ => rfl
theorem fit_bd {g0 g1 g2 g3 : Int} (h0 : 0 ≤ g0 ∧ g0 < 65536) (h1 : 0 ≤ g1 ∧ g1 < 65536) (h2 : 0 ≤ g2 ∧ g2 < 65536) (h3 : 0 ≤ g3 ∧ g3 < 65536) (i : Nat) : 0 ≤ [g0, g1, g2, g3][i]?.getD 0 ∧ [g0, g1, g2, g3][i]?.getD 0 < 65536 := by
  match i with
  | 0 => exact h0
  | 1 => exact h1
  | 2 => exact h2
  | 3 => exact h3
  | i + 4 => exact ⟨by simp, by simp⟩
theorem fit_snoc {gs : List Int} {i : Nat} (h : i < gs.length) : (intsD (gs.take i)).map X.d ++ (([gs[i]?.getD 0].map (D.int .i64)).map X.d) = (intsD (gs.take (i + 1))).map X.d := by
  rw [List.take_succ_eq_append_getElem h, show gs[i]?.getD 0 = gs[i] by simp [h]]
  simp only [intsD, List.map_append, List.map_cons, List.map_nil]
theorem all_d (c : List D) : (c.map X.d).all (fun | .d _ => true | _ => false) = true := by
  induction c with
  | nil => rfl
  | cons x xs ih => simp

theorem getR_len (I : Im) (x y : Int) : (getR I x y).1.length ≤ 1000 := by
  unfold getR
  cases h : I.vB
  · simp
  · have hv := (vB_yes h).1
    have := hv.c2
    split
    · split
      · simp; omega
      · simp
    · simp

theorem pc_rget (I : Im) (x y : Int) : PC Try.prog 20 [imX I, iX x, iX y] (getX (getR I x y)) := pc_ints rfl fun w => rget_any I x y w
theorem pc_set (I : Im) (x y : Int) (xs : List Int) (hl : xs.length ≤ 1000000) : PC Try.prog 22 [imX I, iX x, iX y, .d (.slw xs.length 1 (intsD xs))] (.tup [imX (setR I x y xs).1, iX (setR I x y xs).2]) := by
  intro w M vs hM hs hv'
  obtain ⟨l⟩ := vs
  match l, hs with
  | [u0, u1, u2, u3], _ =>
    have e0 := (hv' 0 u0 _ rfl rfl).is_ex (x := imX I) rfl
    have e1 := (hv' 1 u1 _ rfl rfl).int_inv
    have e2 := (hv' 2 u2 _ rfl rfl).int_inv
    have h3 := hv' 3 u3 _ rfl rfl
    cases h3 with | d h3 =>
    obtain ⟨a, cap, rfl, hi⟩ := slw_ints rfl h3
    subst e0 e1 e2
    refine (Img_set I x y xs a cap w hi (Nat.le_trans hl (by decide))).mono fun e w' ⟨he, hb⟩ => ⟨_, he, ?_, hb⟩
    exact RV.of_exT (x := .tup [imX (setR I x y xs).1, iX (setR I x y xs).2]) rfl


end Go.Proofs.Ytphfbjeaklpddaa
