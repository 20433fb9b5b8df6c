/-
  Joined texts: Layer 42, the reference: Set. · Layer 42: what the laws on Get and Set need.
-/
import Derived.Test.YtphfbjeaklpddaaOL9
import Derived.Test.YtphfbjeaklpddaaOL2
set_option linter.unusedSimpArgs false
set_option linter.unusedVariables false

/- Layer 42, the reference: Set. -/
namespace Go.Proofs.Ytphfbjeaklpddaa
open Go.RowKit

theorem intsD_at' {xs : List Int} {k : Nat} (h : k < xs.length) : ((intsD xs).drop (k * 1)).take 1 = [.int .i64 (xs[k]?.getD 0)] := by
  refine intsD_at ?_
  simp [h]

theorem pc_right (I : Im) : PC Try.prog 39 [imX I] (.d (.bool I.vB)) := PC_old rfl rfl fun w => right_any I w
theorem pc_there (I : Im) (x y : Int) (hv : I.vB = true) : PC Try.prog 48 [imX I, iX x, iX y] (.d (.bool (thereB I.L x y))) := PC_old rfl rfl fun w => there_any I x y w (Im.ok hv)
theorem pc_put {I : Im} {x y : Int} {xs : List Int} (hv : I.vB = true) (x0 : 0 ≤ x) (xW : x < I.L.W) (y0 : 0 ≤ y) (yH : y < I.L.H) (hlen : (xs.length : Int) = I.L.C) (hpos : ∀ v ∈ xs, 0 ≤ v ∧ v < 65536) :
    PC Try.prog 52 [imX I, iX x, iX y, .d (.slw xs.length 1 (intsD xs))] (imX (imF I.L (putF (I.L.fn I.O) x y xs xs.length))) := by
  refine PC_old' rfl fun w M vs hs hv' => ?_
  obtain ⟨l⟩ := vs
  match l, hs with
  | [u0, u1, u2, u3], _ =>
    have e0 := (hv' 0 u0 _ rfl rfl).is_ex (x := imX I) rfl
    have e1 := (hv' 1 u1 _ rfl rfl).int_inv
    have e2 := (hv' 2 u2 _ rfl rfl).int_inv
    have h3 := hv' 3 u3 _ rfl rfl
    cases h3 with | d h3 =>
    obtain ⟨a, cap, rfl, hi⟩ := slw_ints rfl h3
    subst e0 e1 e2
    exact rput_any I hv x y xs a cap w x0 xW y0 yH hi hlen hpos

/-- the reference's word for a value that fits -/
def okV (B v : Int) : Bool := !(((decide (v < 0)) || ((decide (255 < v)) && ((B : Int) == 8))) || (decide (65535 < v)))

theorem okV_iff (B v : Int) : okV B v = inB v 0 (if B = 8 then 255 else 65535) := by
  rw [Bool.eq_iff_iff, inB_iff]
  unfold okV
  simp only [Bool.not_eq_true', Bool.or_eq_false_iff, Bool.and_eq_false_iff, decide_eq_false_iff_not, beq_eq_false_iff_ne]
  split <;> omega

theorem okV_snoc {B : Int} {xs : List Int} {k : Nat} (hk : (k : Int) < (xs.length : Int)) (h : (xs.take k).all (okV B) = true)
    (h2 : (((decide ((xs[k]?.getD 0) < 0)) || ((decide (255 < (xs[k]?.getD 0))) && ((B : Int) == 8))) || (decide (65535 < (xs[k]?.getD 0)))) = false) : (xs.take (k + 1)).all (okV B) = true := by
  have hk' : k < xs.length := by omega
  rw [List.take_succ_eq_append_getElem hk', List.all_append, h]
  have : okV B xs[k] = true := by
    unfold okV
    have e : xs[k]?.getD 0 = xs[k] := by simp [hk']
    rw [e] at h2
    rw [h2]; rfl
  simp [this]

theorem set_f1 {I : Im} {x y : Int} {xs : List Int} (h : (!I.vB) = true) : setR I x y xs = (Im.z, 420) := by
  unfold setR
  rw [if_neg (by simpa using h)]
theorem set_f2 {I : Im} {x y : Int} {xs : List Int} (hv : I.vB = true) (h : ((!(thereB I.L x y)) || (((xs.length : Nat) : Int) != I.L.C)) = true) : setR I x y xs = (Im.z, 2) := by
  unfold setR
  rw [if_pos hv]
  rw [Bool.or_eq_true] at h
  rcases h with h | h
  · rw [show thereB I.L x y = false by simpa using h]; rfl
  · rw [show decide ((xs.length : Int) = I.L.C) = false by simpa using h]
    simp
theorem set_f3 {I : Im} {x y : Int} {xs : List Int} (hv : I.vB = true) (_ : ((!(thereB I.L x y)) || (((xs.length : Nat) : Int) != I.L.C)) = false) (k : Nat) (hk : (k : Int) < (xs.length : Int))
    (h2 : (((decide ((xs[k]?.getD 0) < 0)) || ((decide (255 < (xs[k]?.getD 0))) && ((I.L.B : Int) == 8))) || (decide (65535 < (xs[k]?.getD 0)))) = true) : setR I x y xs = (Im.z, 2) := by
  have hk' : k < xs.length := by omega
  have : rngB I.L xs = false := by
    unfold rngB
    rw [List.all_eq_false]
    refine ⟨xs[k], List.getElem_mem hk', ?_⟩
    rw [← okV_iff]
    have e : xs[k]?.getD 0 = xs[k] := by simp [hk']
    rw [e] at h2
    unfold okV
    rw [h2]; simp
  unfold setR
  rw [if_pos hv, this]
  simp
theorem set_in {I : Im} {x y : Int} {xs : List Int} (h : ((!(thereB I.L x y)) || (((xs.length : Nat) : Int) != I.L.C)) = false) : 0 ≤ x ∧ x < I.L.W ∧ 0 ≤ y ∧ y < I.L.H ∧ (xs.length : Int) = I.L.C := by
  rw [Bool.or_eq_false_iff] at h
  have h1 : thereB I.L x y = true := by simpa using h.1
  have h2 := (thereB_iff I.L x y).1 h1
  exact ⟨h2.1.1, h2.1.2, h2.2.1, h2.2.2, by simpa using h.2⟩
theorem set_f4 {I : Im} {x y : Int} {xs : List Int} (hv : I.vB = true) (h : ((!(thereB I.L x y)) || (((xs.length : Nat) : Int) != I.L.C)) = false) (hr : xs.all (okV I.L.B) = true) : setR I x y xs = (imF I.L (putF (I.L.fn I.O) x y xs xs.length), 0) := by
  obtain ⟨a, b, c, d, e⟩ := set_in h
  refine setR_ok I hv x y xs a b c d e fun v hm => ?_
  rw [List.all_eq_true] at hr
  have := hr v hm
  rw [okV_iff, inB_iff] at this
  split at this <;> rename_i hB
  · rw [if_pos hB]; omega
  · rw [if_neg hB]; omega
theorem set_pos {B : Int} {xs : List Int} {k : Nat} (hk : k ≤ xs.length) (h : (xs.take k).all (okV B) = true) (hk2 : xs.length ≤ k) : ∀ v ∈ xs, 0 ≤ v ∧ v < 65536 := by
  intro v hv
  rw [List.take_of_length_le hk2, List.all_eq_true] at h
  have := h v hv
  rw [okV_iff, inB_iff] at this
  split at this <;> omega

set_option maxRecDepth 100000 in
set_option maxHeartbeats 2000000 in
theorem pc_rset (I : Im) (x y : Int) (xs : List Int) (hl : xs.length ≤ 1000000) : PC Try.prog 23 [.agg (imC I), .d (.int .i64 x), .d (.int .i64 y), .d (.slw xs.length 1 (intsD xs))] (.tup [imX (setR I x y xs).1, iX (setR I x y xs).2]) := by
  refine PC_of (fn := Try.f23) Try.func23 rfl (by simp [Try.ntmps23]) (by kernel_rfl) fun G hG => ?_
  rw [Try.ntmps23]
  refine aw_seq ?_
  refine aw_region_seq [⟨.ptr 1 0, [(1, some ⟨31, 7, (imC I)⟩)], [1], []⟩, ⟨.ptr 2 0, [(2, some ⟨31, 7, [.d (.int .i64 0), .d (.int .i64 0), .d (.int .i64 0), .d (.int .i64 0), .d (.bool false), .d (.int .i64 0), .d (.str (⟨#[]⟩))]⟩)], [2], []⟩, ⟨.d (.int .i64 0), [], [], []⟩] (by kernel_rfl) (by kernel_rfl) (fun id _ => hG id) ?_ ?_
  · exact okY rfl (LT_box (x := .agg (imC I)) 1 rfl rfl rfl 7 rfl (List.Mem.head _)) <| okY rfl (LT_alloc 2 rfl inf31 rfl 7 rfl (List.Mem.head _)) <| okY rfl (LT_assign rfl rfl) <| okE
  change AW _ _ _ _ _ _
  refine aw_weak (weak_of [(1, .d (.int .i64 x)), (2, .d (.int .i64 y)), (3, .d (.slw xs.length 1 (intsD xs))), (4, .ptr 1 0), (8, .ptr 2 0)] [(1, some ⟨31, 7, (imC I)⟩), (2, some ⟨31, 7, [.d (.int .i64 0), .d (.int .i64 0), .d (.int .i64 0), .d (.int .i64 0), .d (.bool false), .d (.int .i64 0), .d (.str (⟨#[]⟩))]⟩)] [1, 2] (sE rfl (sE rfl (sE rfl (sE rfl (sE rfl sE0))))) (sH rfl (sH rfl sH0)) (by kernel_rfl)) ?_
  refine aw_seq ?_
  refine aw_seq ?_
  refine aw_region_seq [⟨.agg (imC I), [], [], [1]⟩, ⟨.d (.bool I.vB), [], [], []⟩, ⟨.d (.bool (!I.vB)), [], [], []⟩] (by kernel_rfl) (by kernel_rfl) (fun id _ => hG id) ?_ ?_
  · exact okY rfl (LT_load 7 rfl rfl rfl (List.Mem.head _) Try.underlying31 inf31 (by simp [imC]) (.inl ⟨rfl, rfl, rfl⟩)) <| okY rfl (LT_call [.agg (imC I)] rfl rfl Try.call39 rfl ((pc_right I).ct rfl)) <| okY rfl (LT_not rfl rfl rfl) <| okE
  change AW _ _ _ _ _ _
  refine aw_weak (weak_of [(1, .d (.int .i64 x)), (2, .d (.int .i64 y)), (3, .d (.slw xs.length 1 (intsD xs))), (4, .ptr 1 0), (8, .ptr 2 0), (13, .d (.bool (!I.vB)))] [(1, some ⟨31, 7, (imC I)⟩), (2, some ⟨31, 7, [.d (.int .i64 0), .d (.int .i64 0), .d (.int .i64 0), .d (.int .i64 0), .d (.bool false), .d (.int .i64 0), .d (.str (⟨#[]⟩))]⟩)] [1, 2] (sE rfl (sE rfl (sE rfl (sE rfl (sE rfl (sE rfl sE0)))))) (sH rfl (sH rfl sH0)) (by kernel_rfl)) ?_
  refine aw_cond (!I.vB) rfl (fun hb1 => ?_) (fun hb1 => ?_)
  ·
    refine aw_seq ?_
    refine aw_region_seq [⟨.agg [.d (.int .i64 0), .d (.int .i64 0), .d (.int .i64 0), .d (.int .i64 0), .d (.bool false), .d (.int .i64 0), .d (.str (⟨#[]⟩))], [], [], []⟩, ⟨.tup [], [(2, some ⟨31, 7, [.d (.int .i64 0), .d (.int .i64 0), .d (.int .i64 0), .d (.int .i64 0), .d (.bool false), .d (.int .i64 0), .d (.str (⟨#[]⟩))]⟩)], [], [2]⟩, ⟨.d (.int .i64 420), [], [], []⟩] (by kernel_rfl) (by kernel_rfl) (fun id _ => hG id) ?_ ?_
    · exact okY rfl (LT_build (qs := []) (fun j => (#[(0, 1), (1, 1), (2, 1), (3, 1), (4, 1), (5, 1), (6, 1)] : Array (Nat × Nat))[j]?) rfl Try.underlying31 inf31 rfl rfl (.inl ⟨_, rfl, by kernel_rfl, by kernel_rfl⟩) rfl) <| okY rfl (LT_store (ob := ⟨31, 7, [.d (.int .i64 0), .d (.int .i64 0), .d (.int .i64 0), .d (.int .i64 0), .d (.bool false), .d (.int .i64 0), .d (.str (⟨#[]⟩))]⟩) (x := .agg [.d (.int .i64 0), .d (.int .i64 0), .d (.int .i64 0), .d (.int .i64 0), .d (.bool false), .d (.int .i64 0), .d (.str (⟨#[]⟩))]) rfl rfl rfl (List.Mem.head _) inf31 rfl rfl rfl (by simp [X.cells, imC]) _ rfl) <| okY rfl (LT_assign rfl rfl) <| okE
    change AW _ _ _ _ _ _
    refine aw_weak (weak_of [(8, .ptr 2 0), (9, .d (.int .i64 420))] [(2, some ⟨31, 7, [.d (.int .i64 0), .d (.int .i64 0), .d (.int .i64 0), .d (.int .i64 0), .d (.bool false), .d (.int .i64 0), .d (.str (⟨#[]⟩))]⟩)] [2] (sE rfl (sE rfl sE0)) (sH rfl sH0) (by kernel_rfl)) ?_
    refine aw_ret ?_
    refine finN (xs := [.agg [.d (.int .i64 0), .d (.int .i64 0), .d (.int .i64 0), .d (.int .i64 0), .d (.bool false), .d (.int .i64 0), .d (.str (⟨#[]⟩))], .d (.int .i64 420)]) (l := [.cell 8 31, .tmp 9]) (.inl rfl) Try.results23 (rL ⟨2, 0, _, _, _, 7, rfl, rfl, Try.underlying31, inf31, by simp [imC], .inl ⟨rfl, rfl, rfl⟩⟩ (rL rfl (rL0))) (by simp [imC]) ?_
    rw [set_f1 hb1]
    rfl
  ·
    have hv : I.vB = true := by simpa using hb1
    refine aw_skip ?_
    change AW _ _ _ _ _ _
    refine aw_weak (weak_of [(1, .d (.int .i64 x)), (2, .d (.int .i64 y)), (3, .d (.slw xs.length 1 (intsD xs))), (4, .ptr 1 0), (8, .ptr 2 0)] [(1, some ⟨31, 7, (imC I)⟩), (2, some ⟨31, 7, [.d (.int .i64 0), .d (.int .i64 0), .d (.int .i64 0), .d (.int .i64 0), .d (.bool false), .d (.int .i64 0), .d (.str (⟨#[]⟩))]⟩)] [1, 2] (sE rfl (sE rfl (sE rfl (sE rfl (sE rfl sE0))))) (sH rfl (sH rfl sH0)) (by kernel_rfl)) ?_
    refine aw_seq ?_
    refine aw_seq ?_
    refine aw_region_seq [⟨.agg (imC I), [], [], [1]⟩, ⟨.d (.int .i64 x), [], [], []⟩, ⟨.d (.int .i64 y), [], [], []⟩, ⟨.d (.bool (thereB I.L x y)), [], [], []⟩, ⟨.d (.bool (!(thereB I.L x y))), [], [], []⟩, ⟨.d (.bool (!(thereB I.L x y))), [], [], []⟩, ⟨.opt ((!(thereB I.L x y)) == false) (.d (.slw xs.length 1 (intsD xs))), [], [], []⟩, ⟨.opt ((!(thereB I.L x y)) == false) (.d (.int .i64 ((xs.length : Nat) : Int))), [], [], []⟩, ⟨.opt ((!(thereB I.L x y)) == false) (.ptr 1 2), [], [], []⟩, ⟨.opt ((!(thereB I.L x y)) == false) (.d (.int .i64 I.L.C)), [], [], [1]⟩, ⟨.opt ((!(thereB I.L x y)) == false) (.d (.bool ((((xs.length : Nat) : Int) : Int) != I.L.C))), [], [], []⟩, ⟨.d (.bool ((!(thereB I.L x y)) || ((((xs.length : Nat) : Int) : Int) != I.L.C))), [], [], []⟩] (by kernel_rfl) (by kernel_rfl) (fun id _ => hG id) ?_ ?_
    · exact okY rfl (LT_load 7 rfl rfl rfl (List.Mem.head _) Try.underlying31 inf31 (by simp [imC]) (.inl ⟨rfl, rfl, rfl⟩)) <| okY rfl (LT_move rfl rfl) <| okY rfl (LT_move rfl rfl) <| okY rfl (LT_call [.agg (imC I), .d (.int .i64 x), .d (.int .i64 y)] rfl rfl Try.call48 rfl ((pc_there I x y hv).ct rfl)) <| okY rfl (LT_not rfl rfl rfl) <| okY rfl (LT_move rfl rfl) <| okG ((!(thereB I.L x y)) == false) rfl (fun hg => (LT_move rfl rfl)) <| okG ((!(thereB I.L x y)) == false) rfl (fun hg => (LT_lenW rfl Try.underlying44 (opnT rfl hg))) <| okG ((!(thereB I.L x y)) == false) rfl (fun hg => (LT_fieldAddr rfl rfl Try.underlying31 rfl inf3 (by decide) _ rfl)) <| okG ((!(thereB I.L x y)) == false) rfl (fun hg => (LT_load 1 rfl (opnT rfl hg) rfl (List.Mem.head _) Try.underlying3 inf3 (by simp [imC]) (.inr ⟨rfl, rfl, rfl⟩))) <| okG ((!(thereB I.L x y)) == false) rfl (fun hg => (LT_cmp rfl rfl (opnT rfl hg) (opnT rfl hg) rfl)) <| okY rfl (LT_por rfl rfl rfl (fun h => by rw [h]; rfl)) <| okE
    change AW _ _ _ _ _ _
    refine aw_weak (weak_of [(1, .d (.int .i64 x)), (2, .d (.int .i64 y)), (3, .d (.slw xs.length 1 (intsD xs))), (4, .ptr 1 0), (8, .ptr 2 0), (26, .d (.bool ((!(thereB I.L x y)) || ((((xs.length : Nat) : Int) : Int) != I.L.C))))] [(1, some ⟨31, 7, (imC I)⟩), (2, some ⟨31, 7, [.d (.int .i64 0), .d (.int .i64 0), .d (.int .i64 0), .d (.int .i64 0), .d (.bool false), .d (.int .i64 0), .d (.str (⟨#[]⟩))]⟩)] [1, 2] (sE rfl (sE rfl (sE rfl (sE rfl (sE rfl (sE rfl sE0)))))) (sH rfl (sH rfl sH0)) (by kernel_rfl)) ?_
    refine aw_cond ((!(thereB I.L x y)) || ((((xs.length : Nat) : Int) : Int) != I.L.C)) rfl (fun hb2 => ?_) (fun hb2 => ?_)
    ·
      refine aw_seq ?_
      refine aw_region_seq [⟨.agg [.d (.int .i64 0), .d (.int .i64 0), .d (.int .i64 0), .d (.int .i64 0), .d (.bool false), .d (.int .i64 0), .d (.str (⟨#[]⟩))], [], [], []⟩, ⟨.tup [], [(2, some ⟨31, 7, [.d (.int .i64 0), .d (.int .i64 0), .d (.int .i64 0), .d (.int .i64 0), .d (.bool false), .d (.int .i64 0), .d (.str (⟨#[]⟩))]⟩)], [], [2]⟩, ⟨.d (.int .i64 2), [], [], []⟩] (by kernel_rfl) (by kernel_rfl) (fun id _ => hG id) ?_ ?_
      · exact okY rfl (LT_build (qs := []) (fun j => (#[(0, 1), (1, 1), (2, 1), (3, 1), (4, 1), (5, 1), (6, 1)] : Array (Nat × Nat))[j]?) rfl Try.underlying31 inf31 rfl rfl (.inl ⟨_, rfl, by kernel_rfl, by kernel_rfl⟩) rfl) <| okY rfl (LT_store (ob := ⟨31, 7, [.d (.int .i64 0), .d (.int .i64 0), .d (.int .i64 0), .d (.int .i64 0), .d (.bool false), .d (.int .i64 0), .d (.str (⟨#[]⟩))]⟩) (x := .agg [.d (.int .i64 0), .d (.int .i64 0), .d (.int .i64 0), .d (.int .i64 0), .d (.bool false), .d (.int .i64 0), .d (.str (⟨#[]⟩))]) rfl rfl rfl (List.Mem.head _) inf31 rfl rfl rfl (by simp [X.cells, imC]) _ rfl) <| okY rfl (LT_assign rfl rfl) <| okE
      change AW _ _ _ _ _ _
      refine aw_weak (weak_of [(8, .ptr 2 0), (9, .d (.int .i64 2))] [(2, some ⟨31, 7, [.d (.int .i64 0), .d (.int .i64 0), .d (.int .i64 0), .d (.int .i64 0), .d (.bool false), .d (.int .i64 0), .d (.str (⟨#[]⟩))]⟩)] [2] (sE rfl (sE rfl sE0)) (sH rfl sH0) (by kernel_rfl)) ?_
      refine aw_ret ?_
      refine finN (xs := [.agg [.d (.int .i64 0), .d (.int .i64 0), .d (.int .i64 0), .d (.int .i64 0), .d (.bool false), .d (.int .i64 0), .d (.str (⟨#[]⟩))], .d (.int .i64 2)]) (l := [.cell 8 31, .tmp 9]) (.inl rfl) Try.results23 (rL ⟨2, 0, _, _, _, 7, rfl, rfl, Try.underlying31, inf31, by simp [imC], .inl ⟨rfl, rfl, rfl⟩⟩ (rL rfl (rL0))) (by simp [imC]) ?_
      rw [set_f2 hv hb2]
      rfl
    ·
      have hx := set_in hb2
      refine aw_skip ?_
      change AW _ _ _ _ _ _
      refine aw_weak (weak_of [(1, .d (.int .i64 x)), (2, .d (.int .i64 y)), (3, .d (.slw xs.length 1 (intsD xs))), (4, .ptr 1 0), (8, .ptr 2 0)] [(1, some ⟨31, 7, (imC I)⟩), (2, some ⟨31, 7, [.d (.int .i64 0), .d (.int .i64 0), .d (.int .i64 0), .d (.int .i64 0), .d (.bool false), .d (.int .i64 0), .d (.str (⟨#[]⟩))]⟩)] [1, 2] (sE rfl (sE rfl (sE rfl (sE rfl (sE rfl sE0))))) (sH rfl (sH rfl sH0)) (by kernel_rfl)) ?_
      refine aw_seq ?_
      refine aw_seq ?_
      refine aw_region_seq [⟨.d (.int .i64 0), [], [], []⟩] (by kernel_rfl) (by kernel_rfl) (fun id _ => hG id) ?_ ?_
      · exact okY rfl (LT_assign rfl rfl) <| okE
      change AW _ _ _ _ _ _
      refine aw_weak (weak_of [(1, .d (.int .i64 x)), (2, .d (.int .i64 y)), (3, .d (.slw xs.length 1 (intsD xs))), (4, .ptr 1 0), (8, .ptr 2 0), (10, .d (.int .i64 0))] [(1, some ⟨31, 7, (imC I)⟩), (2, some ⟨31, 7, [.d (.int .i64 0), .d (.int .i64 0), .d (.int .i64 0), .d (.int .i64 0), .d (.bool false), .d (.int .i64 0), .d (.str (⟨#[]⟩))]⟩)] [1, 2] (sE rfl (sE rfl (sE rfl (sE rfl (sE rfl (sE rfl sE0)))))) (sH rfl (sH rfl sH0)) (by kernel_rfl)) ?_
      refine aw_block ?_
      refine aw_loopJ (fun k => ⟨[(1, .d (.int .i64 x)), (2, .d (.int .i64 y)), (3, .d (.slw xs.length 1 (intsD xs))), (4, .ptr 1 0), (8, .ptr 2 0), (10, .d (.int .i64 ((k : Nat) : Int)))], [(1, some ⟨31, 7, (imC I)⟩), (2, some ⟨31, 7, [.d (.int .i64 0), .d (.int .i64 0), .d (.int .i64 0), .d (.int .i64 0), .d (.bool false), .d (.int .i64 0), .d (.str (⟨#[]⟩))]⟩)], [1, 2]⟩) (fun k => k ≤ xs.length ∧ (xs.take k).all (okV I.L.B) = true) (fun k => xs.length - k) 0 (⟨Nat.zero_le _, rfl⟩) ?_ ?_
      · exact weak_of _ _ _ (sE rfl (sE rfl (sE rfl (sE rfl (sE rfl (sE rfl sE0)))))) (sH rfl (sH rfl sH0)) (by kernel_rfl)
      rintro k ⟨hk, hk2⟩
      refine aw_seq ?_
      refine aw_seq ?_
      refine aw_region_seq [⟨.d (.int .i64 ((k : Nat) : Int)), [], [], []⟩, ⟨.d (.slw xs.length 1 (intsD xs)), [], [], []⟩, ⟨.d (.int .i64 ((xs.length : Nat) : Int)), [], [], []⟩, ⟨.d (.bool (decide ((((k : Nat) : Int) : Int) < ((xs.length : Nat) : Int)))), [], [], []⟩] (by kernel_rfl) (by kernel_rfl) (fun id _ => hG id) ?_ ?_
      · exact okY rfl (LT_move rfl rfl) <| okY rfl (LT_move rfl rfl) <| okY rfl (LT_lenW rfl Try.underlying44 rfl) <| okY rfl (LT_cmp rfl rfl rfl rfl rfl) <| okE
      change AW _ _ _ _ _ _
      refine aw_weak (weak_of [(1, .d (.int .i64 x)), (2, .d (.int .i64 y)), (3, .d (.slw xs.length 1 (intsD xs))), (4, .ptr 1 0), (8, .ptr 2 0), (10, .d (.int .i64 ((k : Nat) : Int))), (31, .d (.bool (decide ((((k : Nat) : Int) : Int) < ((xs.length : Nat) : Int)))))] [(1, some ⟨31, 7, (imC I)⟩), (2, some ⟨31, 7, [.d (.int .i64 0), .d (.int .i64 0), .d (.int .i64 0), .d (.int .i64 0), .d (.bool false), .d (.int .i64 0), .d (.str (⟨#[]⟩))]⟩)] [1, 2] (sE rfl (sE rfl (sE rfl (sE rfl (sE rfl (sE rfl (sE rfl sE0))))))) (sH rfl (sH rfl sH0)) (by kernel_rfl)) ?_
      refine aw_cond (decide ((((k : Nat) : Int) : Int) < ((xs.length : Nat) : Int))) rfl (fun hb3 => ?_) (fun hb3 => ?_)
      ·
        replace hb3 := of_decide_eq_true hb3
        refine aw_skip ?_
        change AW _ _ _ _ _ _
        refine aw_weak (weak_of [(1, .d (.int .i64 x)), (2, .d (.int .i64 y)), (3, .d (.slw xs.length 1 (intsD xs))), (4, .ptr 1 0), (8, .ptr 2 0), (10, .d (.int .i64 ((k : Nat) : Int)))] [(1, some ⟨31, 7, (imC I)⟩), (2, some ⟨31, 7, [.d (.int .i64 0), .d (.int .i64 0), .d (.int .i64 0), .d (.int .i64 0), .d (.bool false), .d (.int .i64 0), .d (.str (⟨#[]⟩))]⟩)] [1, 2] (sE rfl (sE rfl (sE rfl (sE rfl (sE rfl (sE rfl sE0)))))) (sH rfl (sH rfl sH0)) (by kernel_rfl)) ?_
        refine aw_seq ?_
        refine aw_block ?_
        refine aw_seq ?_
        refine aw_region_seq [⟨.d (.slw xs.length 1 (intsD xs)), [], [], []⟩, ⟨.d (.int .i64 ((k : Nat) : Int)), [], [], []⟩, ⟨.dptr [.int .i64 (xs[k]?.getD 0)], [], [], []⟩, ⟨.d (.int .i64 (xs[k]?.getD 0)), [], [], []⟩, ⟨.d (.bool (decide (((xs[k]?.getD 0) : Int) < 0))), [], [], []⟩, ⟨.d (.bool (decide (((xs[k]?.getD 0) : Int) < 0))), [], [], []⟩, ⟨.opt ((decide (((xs[k]?.getD 0) : Int) < 0)) == false) (.d (.slw xs.length 1 (intsD xs))), [], [], []⟩, ⟨.opt ((decide (((xs[k]?.getD 0) : Int) < 0)) == false) (.d (.int .i64 ((k : Nat) : Int))), [], [], []⟩, ⟨.opt ((decide (((xs[k]?.getD 0) : Int) < 0)) == false) (.dptr [.int .i64 (xs[k]?.getD 0)]), [], [], []⟩, ⟨.opt ((decide (((xs[k]?.getD 0) : Int) < 0)) == false) (.d (.int .i64 (xs[k]?.getD 0))), [], [], []⟩, ⟨.opt ((decide (((xs[k]?.getD 0) : Int) < 0)) == false) (.d (.bool (decide ((255 : Int) < (xs[k]?.getD 0))))), [], [], []⟩, ⟨.opt ((decide (((xs[k]?.getD 0) : Int) < 0)) == false) (.d (.bool (decide ((255 : Int) < (xs[k]?.getD 0))))), [], [], []⟩, ⟨.opt (((decide (((xs[k]?.getD 0) : Int) < 0)) == false) && ((decide ((255 : Int) < (xs[k]?.getD 0))) == true)) (.ptr 1 3), [], [], []⟩, ⟨.opt (((decide (((xs[k]?.getD 0) : Int) < 0)) == false) && ((decide ((255 : Int) < (xs[k]?.getD 0))) == true)) (.d (.int .i64 I.L.B)), [], [], [1]⟩, ⟨.opt (((decide (((xs[k]?.getD 0) : Int) < 0)) == false) && ((decide ((255 : Int) < (xs[k]?.getD 0))) == true)) (.d (.bool ((I.L.B : Int) == 8))), [], [], []⟩, ⟨.opt ((decide (((xs[k]?.getD 0) : Int) < 0)) == false) (.d (.bool ((decide ((255 : Int) < (xs[k]?.getD 0))) && ((I.L.B : Int) == 8)))), [], [], []⟩, ⟨.d (.bool ((decide (((xs[k]?.getD 0) : Int) < 0)) || ((decide ((255 : Int) < (xs[k]?.getD 0))) && ((I.L.B : Int) == 8)))), [], [], []⟩, ⟨.d (.bool ((decide (((xs[k]?.getD 0) : Int) < 0)) || ((decide ((255 : Int) < (xs[k]?.getD 0))) && ((I.L.B : Int) == 8)))), [], [], []⟩, ⟨.opt (((decide (((xs[k]?.getD 0) : Int) < 0)) || ((decide ((255 : Int) < (xs[k]?.getD 0))) && ((I.L.B : Int) == 8))) == false) (.d (.slw xs.length 1 (intsD xs))), [], [], []⟩, ⟨.opt (((decide (((xs[k]?.getD 0) : Int) < 0)) || ((decide ((255 : Int) < (xs[k]?.getD 0))) && ((I.L.B : Int) == 8))) == false) (.d (.int .i64 ((k : Nat) : Int))), [], [], []⟩, ⟨.opt (((decide (((xs[k]?.getD 0) : Int) < 0)) || ((decide ((255 : Int) < (xs[k]?.getD 0))) && ((I.L.B : Int) == 8))) == false) (.dptr [.int .i64 (xs[k]?.getD 0)]), [], [], []⟩, ⟨.opt (((decide (((xs[k]?.getD 0) : Int) < 0)) || ((decide ((255 : Int) < (xs[k]?.getD 0))) && ((I.L.B : Int) == 8))) == false) (.d (.int .i64 (xs[k]?.getD 0))), [], [], []⟩, ⟨.opt (((decide (((xs[k]?.getD 0) : Int) < 0)) || ((decide ((255 : Int) < (xs[k]?.getD 0))) && ((I.L.B : Int) == 8))) == false) (.d (.bool (decide ((65535 : Int) < (xs[k]?.getD 0))))), [], [], []⟩, ⟨.d (.bool (((decide (((xs[k]?.getD 0) : Int) < 0)) || ((decide ((255 : Int) < (xs[k]?.getD 0))) && ((I.L.B : Int) == 8))) || (decide ((65535 : Int) < (xs[k]?.getD 0))))), [], [], []⟩] (by kernel_rfl) (by kernel_rfl) (fun id _ => hG id) ?_ ?_
        · exact okY rfl (LT_move rfl rfl) <| okY rfl (LT_move rfl rfl) <| okY rfl (LT_indexW rfl rfl rfl Try.underlying44 inf3 rfl (by omega) (by omega) (intsD_at' (by omega))) <| okY rfl (LT_loadD 1 rfl rfl Try.underlying3 inf3 (by simp [imC]) (.inr ⟨rfl, rfl, rfl⟩)) <| okY rfl (LT_cmp rfl rfl rfl rfl rfl) <| okY rfl (LT_move rfl rfl) <| okG ((decide (((xs[k]?.getD 0) : Int) < 0)) == false) rfl (fun hg => (LT_move rfl rfl)) <| okG ((decide (((xs[k]?.getD 0) : Int) < 0)) == false) rfl (fun hg => (LT_move rfl rfl)) <| okG ((decide (((xs[k]?.getD 0) : Int) < 0)) == false) rfl (fun hg => (LT_indexW rfl (opnT rfl hg) (opnT rfl hg) Try.underlying44 inf3 rfl (by omega) (by omega) (intsD_at' (by omega)))) <| okG ((decide (((xs[k]?.getD 0) : Int) < 0)) == false) rfl (fun hg => (LT_loadD 1 rfl (opnT rfl hg) Try.underlying3 inf3 (by simp [imC]) (.inr ⟨rfl, rfl, rfl⟩))) <| okG ((decide (((xs[k]?.getD 0) : Int) < 0)) == false) rfl (fun hg => (LT_cmp rfl rfl (opnT rfl hg) rfl rfl)) <| okG ((decide (((xs[k]?.getD 0) : Int) < 0)) == false) rfl (fun hg => (LT_move rfl (opnT rfl hg))) <| okG (((decide (((xs[k]?.getD 0) : Int) < 0)) == false) && ((decide ((255 : Int) < (xs[k]?.getD 0))) == true)) rfl (fun hg => (LT_fieldAddr rfl rfl Try.underlying31 rfl inf3 (by decide) _ rfl)) <| okG (((decide (((xs[k]?.getD 0) : Int) < 0)) == false) && ((decide ((255 : Int) < (xs[k]?.getD 0))) == true)) rfl (fun hg => (LT_load 1 rfl (opnT rfl hg) rfl (List.Mem.head _) Try.underlying3 inf3 (by simp [imC]) (.inr ⟨rfl, rfl, rfl⟩))) <| okG (((decide (((xs[k]?.getD 0) : Int) < 0)) == false) && ((decide ((255 : Int) < (xs[k]?.getD 0))) == true)) rfl (fun hg => (LT_cmp rfl rfl (opnT rfl hg) rfl rfl)) <| okG ((decide (((xs[k]?.getD 0) : Int) < 0)) == false) rfl (fun hg => (LT_pand rfl (opnT rfl hg) rfl (fun h => by rw [hg]; rw [h]; rfl))) <| okY rfl (LT_por rfl rfl rfl (fun h => by rw [h]; rfl)) <| okY rfl (LT_move rfl rfl) <| okG (((decide (((xs[k]?.getD 0) : Int) < 0)) || ((decide ((255 : Int) < (xs[k]?.getD 0))) && ((I.L.B : Int) == 8))) == false) rfl (fun hg => (LT_move rfl rfl)) <| okG (((decide (((xs[k]?.getD 0) : Int) < 0)) || ((decide ((255 : Int) < (xs[k]?.getD 0))) && ((I.L.B : Int) == 8))) == false) rfl (fun hg => (LT_move rfl rfl)) <| okG (((decide (((xs[k]?.getD 0) : Int) < 0)) || ((decide ((255 : Int) < (xs[k]?.getD 0))) && ((I.L.B : Int) == 8))) == false) rfl (fun hg => (LT_indexW rfl (opnT rfl hg) (opnT rfl hg) Try.underlying44 inf3 rfl (by omega) (by omega) (intsD_at' (by omega)))) <| okG (((decide (((xs[k]?.getD 0) : Int) < 0)) || ((decide ((255 : Int) < (xs[k]?.getD 0))) && ((I.L.B : Int) == 8))) == false) rfl (fun hg => (LT_loadD 1 rfl (opnT rfl hg) Try.underlying3 inf3 (by simp [imC]) (.inr ⟨rfl, rfl, rfl⟩))) <| okG (((decide (((xs[k]?.getD 0) : Int) < 0)) || ((decide ((255 : Int) < (xs[k]?.getD 0))) && ((I.L.B : Int) == 8))) == false) rfl (fun hg => (LT_cmp rfl rfl (opnT rfl hg) rfl rfl)) <| okY rfl (LT_por rfl rfl rfl (fun h => by rw [h]; rfl)) <| okE
        change AW _ _ _ _ _ _
        refine aw_weak (weak_of [(1, .d (.int .i64 x)), (2, .d (.int .i64 y)), (3, .d (.slw xs.length 1 (intsD xs))), (4, .ptr 1 0), (8, .ptr 2 0), (10, .d (.int .i64 ((k : Nat) : Int))), (57, .d (.bool (((decide (((xs[k]?.getD 0) : Int) < 0)) || ((decide ((255 : Int) < (xs[k]?.getD 0))) && ((I.L.B : Int) == 8))) || (decide ((65535 : Int) < (xs[k]?.getD 0))))))] [(1, some ⟨31, 7, (imC I)⟩), (2, some ⟨31, 7, [.d (.int .i64 0), .d (.int .i64 0), .d (.int .i64 0), .d (.int .i64 0), .d (.bool false), .d (.int .i64 0), .d (.str (⟨#[]⟩))]⟩)] [1, 2] (sE rfl (sE rfl (sE rfl (sE rfl (sE rfl (sE rfl (sE rfl sE0))))))) (sH rfl (sH rfl sH0)) (by kernel_rfl)) ?_
        refine aw_cond (((decide (((xs[k]?.getD 0) : Int) < 0)) || ((decide ((255 : Int) < (xs[k]?.getD 0))) && ((I.L.B : Int) == 8))) || (decide ((65535 : Int) < (xs[k]?.getD 0)))) rfl (fun hb4 => ?_) (fun hb4 => ?_)
        ·
          refine aw_seq ?_
          refine aw_region_seq [⟨.agg [.d (.int .i64 0), .d (.int .i64 0), .d (.int .i64 0), .d (.int .i64 0), .d (.bool false), .d (.int .i64 0), .d (.str (⟨#[]⟩))], [], [], []⟩, ⟨.tup [], [(2, some ⟨31, 7, [.d (.int .i64 0), .d (.int .i64 0), .d (.int .i64 0), .d (.int .i64 0), .d (.bool false), .d (.int .i64 0), .d (.str (⟨#[]⟩))]⟩)], [], [2]⟩, ⟨.d (.int .i64 2), [], [], []⟩] (by kernel_rfl) (by kernel_rfl) (fun id _ => hG id) ?_ ?_
          · exact okY rfl (LT_build (qs := []) (fun j => (#[(0, 1), (1, 1), (2, 1), (3, 1), (4, 1), (5, 1), (6, 1)] : Array (Nat × Nat))[j]?) rfl Try.underlying31 inf31 rfl rfl (.inl ⟨_, rfl, by kernel_rfl, by kernel_rfl⟩) rfl) <| okY rfl (LT_store (ob := ⟨31, 7, [.d (.int .i64 0), .d (.int .i64 0), .d (.int .i64 0), .d (.int .i64 0), .d (.bool false), .d (.int .i64 0), .d (.str (⟨#[]⟩))]⟩) (x := .agg [.d (.int .i64 0), .d (.int .i64 0), .d (.int .i64 0), .d (.int .i64 0), .d (.bool false), .d (.int .i64 0), .d (.str (⟨#[]⟩))]) rfl rfl rfl (List.Mem.head _) inf31 rfl rfl rfl (by simp [X.cells, imC]) _ rfl) <| okY rfl (LT_assign rfl rfl) <| okE
          change AW _ _ _ _ _ _
          refine aw_weak (weak_of [(8, .ptr 2 0), (9, .d (.int .i64 2))] [(2, some ⟨31, 7, [.d (.int .i64 0), .d (.int .i64 0), .d (.int .i64 0), .d (.int .i64 0), .d (.bool false), .d (.int .i64 0), .d (.str (⟨#[]⟩))]⟩)] [2] (sE rfl (sE rfl sE0)) (sH rfl sH0) (by kernel_rfl)) ?_
          refine aw_ret ?_
          refine finN (xs := [.agg [.d (.int .i64 0), .d (.int .i64 0), .d (.int .i64 0), .d (.int .i64 0), .d (.bool false), .d (.int .i64 0), .d (.str (⟨#[]⟩))], .d (.int .i64 2)]) (l := [.cell 8 31, .tmp 9]) (.inl rfl) Try.results23 (rL ⟨2, 0, _, _, _, 7, rfl, rfl, Try.underlying31, inf31, by simp [imC], .inl ⟨rfl, rfl, rfl⟩⟩ (rL rfl (rL0))) (by simp [imC]) ?_
          rw [set_f3 hv hb2 k hb3 hb4]
          rfl
        ·
          refine aw_skip ?_
          change AW _ _ _ _ _ _
          refine aw_weak (weak_of [(1, .d (.int .i64 x)), (2, .d (.int .i64 y)), (3, .d (.slw xs.length 1 (intsD xs))), (4, .ptr 1 0), (8, .ptr 2 0), (10, .d (.int .i64 ((k : Nat) : Int)))] [(1, some ⟨31, 7, (imC I)⟩), (2, some ⟨31, 7, [.d (.int .i64 0), .d (.int .i64 0), .d (.int .i64 0), .d (.int .i64 0), .d (.bool false), .d (.int .i64 0), .d (.str (⟨#[]⟩))]⟩)] [1, 2] (sE rfl (sE rfl (sE rfl (sE rfl (sE rfl (sE rfl sE0)))))) (sH rfl (sH rfl sH0)) (by kernel_rfl)) ?_
          refine aw_region_seq [⟨.d (.int .i64 ((k : Nat) : Int)), [], [], []⟩, ⟨.d (.int .i64 (((k : Nat) : Int) + 1)), [], [], []⟩, ⟨.d (.int .i64 (((k : Nat) : Int) + 1)), [], [], []⟩] (by kernel_rfl) (by kernel_rfl) (fun id _ => hG id) ?_ ?_
          · exact okY rfl (LT_move rfl rfl) <| okY rfl (LT_add rfl rfl rfl (wi64 (by omega) (by omega))) <| okY rfl (LT_assign rfl rfl) <| okE
          exact ⟨(k + 1), ⟨by omega, okV_snoc hb3 hk2 hb4⟩, by omega, weak_of _ _ _ (sE rfl (sE rfl (sE rfl (sE rfl (sE rfl (sE rfl sE0)))))) (sH rfl (sH rfl sH0)) (by kernel_rfl)⟩
      ·
        replace hb3 := of_decide_eq_false hb3
        refine aw_exit ?_
        change AW _ _ _ _ _ _
        refine aw_weak (weak_of [(1, .d (.int .i64 x)), (2, .d (.int .i64 y)), (3, .d (.slw xs.length 1 (intsD xs))), (4, .ptr 1 0), (8, .ptr 2 0)] [(1, some ⟨31, 7, (imC I)⟩), (2, some ⟨31, 7, [.d (.int .i64 0), .d (.int .i64 0), .d (.int .i64 0), .d (.int .i64 0), .d (.bool false), .d (.int .i64 0), .d (.str (⟨#[]⟩))]⟩)] [1, 2] (sE rfl (sE rfl (sE rfl (sE rfl (sE rfl sE0))))) (sH rfl (sH rfl sH0)) (by kernel_rfl)) ?_
        refine aw_seq ?_
        have hpos := set_pos hk hk2 (by omega)
        refine aw_region_seq [⟨.agg (imC I), [], [], [1]⟩, ⟨.d (.int .i64 x), [], [], []⟩, ⟨.d (.int .i64 y), [], [], []⟩, ⟨.d (.slw xs.length 1 (intsD xs)), [], [], []⟩, ⟨.agg (imC (imF I.L (putF (I.L.fn I.O) x y xs xs.length))), [], [], []⟩, ⟨.tup [], [(2, some ⟨31, 7, (imC (imF I.L (putF (I.L.fn I.O) x y xs xs.length)))⟩)], [], [2]⟩, ⟨.d (.int .i64 0), [], [], []⟩] (by kernel_rfl) (by kernel_rfl) (fun id _ => hG id) ?_ ?_
        · exact okY rfl (LT_load 7 rfl rfl rfl (List.Mem.head _) Try.underlying31 inf31 (by simp [imC]) (.inl ⟨rfl, rfl, rfl⟩)) <| okY rfl (LT_move rfl rfl) <| okY rfl (LT_move rfl rfl) <| okY rfl (LT_move rfl rfl) <| okY rfl (LT_call [.agg (imC I), .d (.int .i64 x), .d (.int .i64 y), .d (.slw xs.length 1 (intsD xs))] rfl rfl Try.call52 rfl ((pc_put hv hx.1 hx.2.1 hx.2.2.1 hx.2.2.2.1 hx.2.2.2.2 hpos).ct rfl)) <| okY rfl (LT_store (ob := ⟨31, 7, [.d (.int .i64 0), .d (.int .i64 0), .d (.int .i64 0), .d (.int .i64 0), .d (.bool false), .d (.int .i64 0), .d (.str (⟨#[]⟩))]⟩) (x := .agg (imC (imF I.L (putF (I.L.fn I.O) x y xs xs.length)))) rfl rfl rfl (List.Mem.head _) inf31 rfl rfl rfl (by simp [X.cells, imC]) _ rfl) <| okY rfl (LT_assign rfl rfl) <| okE
        change AW _ _ _ _ _ _
        refine aw_weak (weak_of [(8, .ptr 2 0), (9, .d (.int .i64 0))] [(2, some ⟨31, 7, (imC (imF I.L (putF (I.L.fn I.O) x y xs xs.length)))⟩)] [2] (sE rfl (sE rfl sE0)) (sH rfl sH0) (by kernel_rfl)) ?_
        refine aw_ret ?_
        refine finN (xs := [.agg (imC (imF I.L (putF (I.L.fn I.O) x y xs xs.length))), .d (.int .i64 0)]) (l := [.cell 8 31, .tmp 9]) (.inl rfl) Try.results23 (rL ⟨2, 0, _, _, _, 7, rfl, rfl, Try.underlying31, inf31, by simp [imC], .inl ⟨rfl, rfl, rfl⟩⟩ (rL rfl (rL0))) (by simp [imC]) ?_
        rw [set_f4 hv hb2 (by rw [← hk2]; rw [List.take_of_length_le (by omega)])]
        rfl

end Go.Proofs.Ytphfbjeaklpddaa

/- Layer 42: what the laws on Get and Set need. -/
namespace Go.Proofs.Ytphfbjeaklpddaa
open Go.RowKit

def im3 (m J1 J2 : Im) : Nat → Im
  | 0 => m
  | 1 => J1
  | _ => J2

theorem im3_at (m J1 J2 : Im) {k : Nat} (h : k < 3) : .agg [.d (.int .i64 ((im3 m J1 J2 k).L.W)), .d (.int .i64 ((im3 m J1 J2 k).L.H)), .d (.int .i64 ((im3 m J1 J2 k).L.C)), .d (.int .i64 ((im3 m J1 J2 k).L.B)), .d (.bool ((im3 m J1 J2 k).L.pl)), .d (.int .i64 ((im3 m J1 J2 k).L.P)), .d (.str ((im3 m J1 J2 k).O))] = X.agg (([.d (.int .i64 m.L.W), .d (.int .i64 m.L.H), .d (.int .i64 m.L.C), .d (.int .i64 m.L.B), .d (.bool m.L.pl), .d (.int .i64 m.L.P), .d (.str m.O), .d (.int .i64 J1.L.W), .d (.int .i64 J1.L.H), .d (.int .i64 J1.L.C), .d (.int .i64 J1.L.B), .d (.bool J1.L.pl), .d (.int .i64 J1.L.P), .d (.str J1.O), .d (.int .i64 J2.L.W), .d (.int .i64 J2.L.H), .d (.int .i64 J2.L.C), .d (.int .i64 J2.L.B), .d (.bool J2.L.pl), .d (.int .i64 J2.L.P), .d (.str J2.O)].drop (((k : Nat) : Int).toNat * 7)).take 7) := by
  match k, h with
  | 0, _ => rfl
  | 1, _ => rfl
  | 2, _ => rfl

def pt3 (x0 x1 x2 : Int) : Nat → Int
  | 0 => x0
  | 1 => x1
  | _ => x2

theorem pt3_at {x0 y0 x1 y1 x2 y2 : Int} {p : Nat} (h : p < 3) : X.agg [.d (.int .i64 (pt3 x0 x1 x2 p)), .d (.int .i64 (pt3 y0 y1 y2 p))] = X.agg (([.d (.int .i64 x0), .d (.int .i64 y0), .d (.int .i64 x1), .d (.int .i64 y1), .d (.int .i64 x2), .d (.int .i64 y2)].drop (((p : Nat) : Int).toNat * 2)).take 2) := by
  match p, h with
  | 0, _ => rfl
  | 1, _ => rfl
  | 2, _ => rfl

def ls2 (xs ys : List Int) : Nat → List Int
  | 0 => xs
  | _ => ys

theorem ls2_len {xs ys : List Int} {q : Nat} (h : xs.length ≤ 1000000) (h' : ys.length ≤ 1000000) : (ls2 xs ys q).length ≤ 1000000 := by
  match q with
  | 0 => exact h
  | _ + 1 => exact h'

theorem RD.to_slw {w : World} {M : Nat → Prop} {v : Value} {n e : Nat} {c : List D} (h : RD w M v (.sl n e c)) : RD w M v (.slw n e c) := by
  obtain ⟨a, cap, rfl, _, hc, hpos⟩ := h.sl_inv
  rcases Nat.eq_zero_or_pos n with h0 | h0
  · subst h0
    have : c = [] := List.eq_nil_of_length_eq_zero (by simpa using hc)
    subst this
    exact .slw a 0 cap e [] (fun _ => undef) hc (fun h => absurd h (by omega)) (fun i x hx => by simp at hx)
  · obtain ⟨b, off, g, rfl, hb, hm, hg, hr⟩ := hpos h0
    exact .slw _ n cap e c g hc (fun _ => ⟨b, off, rfl, hb, hm, hg⟩) hr

theorem LT.wkX {P : Program} {o : Oper} {E : Env} {H : Heap} {R nw : List Nat} {u : Upds} {x x' : X} (h : LT P o E H R nw u x) (hx : ∀ w M ρ v, RV w M ρ v x → RV w M ρ v x') : LT P o E H R nw u x' :=
  fun G ρ H1 a w hs hh hR hn next Q hK => h G ρ H1 a w hs hh hR hn next Q fun v w' ρ' h1 h2 h3 h4 h5 => hK v w' ρ' h1 h2 h3 (hx _ _ _ _ h4) h5

theorem LT_index2 {P : Program} {o : Oper} {E : Env} {H : Heap} {R nw : List Nat} {T e : TypeId} {i : TypeInfo} {d : TypeDesc} {k : IntKind} {q n n' : Nat} {y z : Operand} {V F : List Int} (ho : o.op = .index T y z) (hy : opX E y = .agg [.d (.sl n 1 (intsD V)), .d (.sl n' 1 (intsD F))]) (hz : opX E z = .d (.int k ((q : Nat) : Int)))
    (hu : P.underlying T = some (.array 2 e)) (hi : P.info? e = some i) (hd : P.underlying e = some d) (hs : i.size = 1) (ha : aggB d = false) (hq : q < 2) (hn : n = V.length) (hn' : n' = F.length) : LT P o E H R nw [] (.d (.slw (ls2 V F q).length 1 (intsD (ls2 V F q)))) := by
  subst hn hn'
  match q, hq with
  | 0, _ => exact (LT_indexA (x := .d (.sl V.length 1 (intsD V))) ho hy hz hu hi hd (by omega) (by omega) 1 (by simp) (.inr ⟨ha, rfl, by simp⟩)).wkX fun w M ρ v h => by cases h with | d h => exact .d h.to_slw
  | 1, _ => exact (LT_indexA (x := .d (.sl F.length 1 (intsD F))) ho hy hz hu hi hd (by omega) (by omega) 1 (by simp [hs]) (.inr ⟨ha, rfl, by simp [hs]⟩)).wkX fun w M ρ v h => by cases h with | d h => exact .d h.to_slw

theorem fit_at (g0 g1 g2 g3 : Int) {i : Nat} (h : i < 4) : ([.d (.int .u16 g0), .d (.int .u16 g1), .d (.int .u16 g2), .d (.int .u16 g3)] : List X)[i]? = some (.d (.int .u16 ([g0, g1, g2, g3][i]?.getD 0))) := by
  match i, h with
  | 0, _ => rfl
  | 1, _ => rfl
  | 2, _ => rfl
  | 3, _ => rfl
theorem fit_bd {g0 g1 g2 g3 : Int} (h0 : 0 ≤ g0 ∧ g0 < 65536) (h1 : 0 ≤ g1 ∧ g1 < 65536) (h2 : 0 ≤ g2 ∧ g2 < 65536) (h3 : 0 ≤ g3 ∧ g3 < 65536) (i : Nat) : 0 ≤ [g0, g1, g2, g3][i]?.getD 0 ∧ [g0, g1, g2, g3][i]?.getD 0 < 65536 := by
  match i with
  | 0 => exact h0
  | 1 => exact h1
  | 2 => exact h2
  | 3 => exact h3
  | i + 4 => exact ⟨by simp, by simp⟩
theorem fit_snoc {gs : List Int} {i : Nat} (h : i < gs.length) : (intsD (gs.take i)).map X.d ++ (([gs[i]?.getD 0].map (D.int .i64)).map X.d) = (intsD (gs.take (i + 1))).map X.d := by
  rw [List.take_succ_eq_append_getElem h, show gs[i]?.getD 0 = gs[i] by simp [h]]
  simp only [intsD, List.map_append, List.map_cons, List.map_nil]
theorem all_d (c : List D) : (c.map X.d).all (fun | .d _ => true | _ => false) = true := by
  induction c with
  | nil => rfl
  | cons x xs ih => simp

theorem getR_len (I : Im) (x y : Int) : (getR I x y).1.length ≤ 1000 := by
  unfold getR
  cases h : I.vB
  · simp
  · have hv := (vB_yes h).1
    have := hv.c2
    split
    · split
      · simp; omega
      · simp
    · simp

theorem pc_rget (I : Im) (x y : Int) : PC Try.prog 20 [imX I, iX x, iX y] (getX (getR I x y)) := pc_ints rfl fun w => rget_any I x y w
theorem pc_set (I : Im) (x y : Int) (xs : List Int) (hl : xs.length ≤ 1000000) : PC Try.prog 22 [imX I, iX x, iX y, .d (.slw xs.length 1 (intsD xs))] (.tup [imX (setR I x y xs).1, iX (setR I x y xs).2]) := by
  intro w M vs hM hs hv'
  obtain ⟨l⟩ := vs
  match l, hs with
  | [u0, u1, u2, u3], _ =>
    have e0 := (hv' 0 u0 _ rfl rfl).is_ex (x := imX I) rfl
    have e1 := (hv' 1 u1 _ rfl rfl).int_inv
    have e2 := (hv' 2 u2 _ rfl rfl).int_inv
    have h3 := hv' 3 u3 _ rfl rfl
    cases h3 with | d h3 =>
    obtain ⟨a, cap, rfl, hi⟩ := slw_ints rfl h3
    subst e0 e1 e2
    refine (Img_set I x y xs a cap w hi (Nat.le_trans hl (by decide))).mono fun e w' ⟨he, hb⟩ => ⟨_, he, ?_, hb⟩
    exact RV.of_exT (x := .tup [imX (setR I x y xs).1, iX (setR I x y xs).2]) rfl


end Go.Proofs.Ytphfbjeaklpddaa
